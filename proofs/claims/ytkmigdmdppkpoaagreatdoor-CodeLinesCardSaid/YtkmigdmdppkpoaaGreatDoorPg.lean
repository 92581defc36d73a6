/- CodeLines. -/
import Derived.Test.YtkmigdmdppkpoaaGreatDoorPf
import Derived.Lib.ItoaLen
import Derived.Test.YtkmigdmdppkpoaaGreatDoorRows
import Derived.ProofKit
import Derived.OpenShut
import Derived.Lay
import Derived.LaidMore
import Derived.Lib.LaidU8
import Derived.Shelf.Vars
import Derived.HandedShaped
import Derived.Test.YtkmigdmdppkpoaaGreatDoorTie
import Derived.Test.YtkmigdmdppkpoaaGreatDoorCards
import Derived.SevenTiedAt
import Derived.ShutString
import Derived.ChangeMaps5
set_option linter.unusedVariables false
set_option linter.unusedSimpArgs false
set_option linter.unusedSectionVars false
namespace Go.Proofs.YtkmigdmdppkpoaaGreatDoor.Gb
open Go Go.Proofs Go.MapKept
set_option linter.unusedVariables false
set_option linter.unusedSimpArgs false
set_option linter.unusedSectionVars false

section
variable {P : Program} {Q : Exit → Act → World → Prop} {cx : Cx} {L : List (Nat × Value)} {G : Gh} {H : List Own} {K : List (Nat × Value) → Gh → List Own → Prop} {ops : Array Oper} {rest : List Oper}
  {d : Option Tmp} {ty : TypeId} {pos : String} {af : Array Edge} {gu : Option (Nat × Bool)}
/-- a list that is made with room to spare -/
theorem OW.makeSlice2 {t e n by_ : Nat} {z : Value} {x y : Operand} {k k' : IntKind} {m c : Int} (hx : ev L x = some (.int k m)) (hy : ev L y = some (.int k' c)) [hu : Und P t (.slice e)] [hi : Inf P e n by_ z] (hz : z.cells.size = n)
    (h0 : 0 ≤ m) (hmc : m ≤ c) (hb : (by_ : Int) * c ≤ 281474976710656) (h63 : c ≤ 9223372036854775807) (hd : dOk d cx.N = true)
    (kk : ∀ b x, Vec e n (some ⟨b, 0, none⟩) m.toNat c.toNat (repS m.toNat z.cells.toList) x → K (putL d (.slice (some ⟨b, 0, none⟩) m.toNat c.toNat) L) G (x :: H)) : OW P Q ⟨d, .makeSlice t x y, ty, pos, af, gu⟩ cx L G H K := by
  refine OW.gives hd fun a w st => ?_
  obtain ⟨ie, hi1, hi2, hi3, hi4⟩ := hi.info
  have hr := run_make (P := P) w t e ie z hu.h hi1 hi2 k k' m c h0 hmc (by rw [hi4]; exact hb) h63
  have hc : madeCells z.cells (c.toNat * ie.size) = (repS c.toNat z.cells.toList).toArray := by unfold madeCells; rw [hi3]; exact base_repS z.cells n c.toNat hz
  rw [hc] at hr
  have hlen : ∀ q : Nat, (repS q z.cells.toList).length = q * n := fun q => by rw [repS_length, Array.length_toList, hz]
  have htk : (repS c.toNat z.cells.toList).take (m.toNat * n) = repS m.toNat z.cells.toList := by
    obtain ⟨r, hr⟩ : ∃ r, c.toNat = m.toNat + r := ⟨c.toNat - m.toNat, by omega⟩
    rw [hr]
    have : ∀ q : Nat, repS (q + r) z.cells.toList = repS q z.cells.toList ++ repS r z.cells.toList := fun q => by
      induction q with
      | zero => rw [Nat.zero_add]; rfl
      | succ q ih => rw [show q + 1 + r = (q + r) + 1 by omega]; simp only [repS]; rw [ih, List.append_assoc]
    rw [this, List.take_append_of_le_length (by rw [hlen]; exact Nat.le_refl _), List.take_of_length_le (by rw [hlen]; exact Nat.le_refl _)]
  refine ⟨_, _, G, _, .inl ?_, st.sat.alloc _, Stp.alloc _, kk w.heap.size (.blk w.heap.size (.cells (repS c.toNat z.cells.toList).toArray e (0, 0))) ⟨hlen _, .inr ⟨_, _, rfl, rfl, by omega, by simp [hlen], by simpa using htk⟩⟩⟩
  simp only [execOp, Sem.run_bind, st.eval hx, st.eval hy, hr, Result.andThen_ok]
  rfl
end
section
variable {P : Program} {L : List (Nat × Value)} {d : Option Tmp} {ty : TypeId} {pos : String} {af : Array Edge} {gu : Option (Nat × Bool)}
theorem Gp.shrTo {t t' : TypeId} {x y : Operand} {k k' : IntKind} {m n r : Int} (hx : ev L x = some (.int k m)) (hy : ev L y = some (.int k' n)) (hn : 0 ≤ n) (hr : m / 2 ^ min n.toNat k.bits = r) : Gp P L ⟨d, .binOp .shr t x y t', ty, pos, af, gu⟩ (.int k r) :=
  fun a st w => by subst hr; simp [execOp, st.eval hx, st.eval hy, eqGuard_shr, binOp_shr, shift_shr_any k k' m n hn]
theorem Gp.orTo {t t' : TypeId} {x y : Operand} {k : IntKind} {m n r : Int} (hx : ev L x = some (.int k m)) (hy : ev L y = some (.int k n)) (hr : bits .or k m n = r) : Gp P L ⟨d, .binOp .or t x y t', ty, pos, af, gu⟩ (.int k r) := hr ▸ Gp.or hx hy
theorem Gp.convTo {s t : TypeId} {x : Operand} {k k' : IntKind} {m r : Int} {ds : TypeDesc} (hx : ev L x = some (.int k m)) [hs : Und P s ds] [ht : Und P t (.int k')] (h : k'.wrap m = r) : Gp P L ⟨d, .convert s t x, ty, pos, af, gu⟩ (.int k' r) := h ▸ Gp.convI hx
theorem Gp.remTo {t t' : TypeId} {x y : Operand} {k : IntKind} {m n r : Int} (hx : ev L x = some (.int k m)) (hy : ev L y = some (.int k n)) (hn : n ≠ 0) (h : m.tmod n = r) : Gp P L ⟨d, .binOp .rem t x y t', ty, pos, af, gu⟩ (.int k r) := h ▸ Gp.rem hx hy hn
theorem Gp.quoTo {t t' : TypeId} {x y : Operand} {k : IntKind} {m n r : Int} (hx : ev L x = some (.int k m)) (hy : ev L y = some (.int k n)) (hn : n ≠ 0) (h : k.wrap (m.tdiv n) = r) : Gp P L ⟨d, .binOp .quo t x y t', ty, pos, af, gu⟩ (.int k r) := h ▸ Gp.quo hx hy hn
end
attribute [local irreducible] Tryz.prog

/-! #### numbers in bytes -/
def uintL (n : Nat) : List Int := if h : n < 128 then [(n : Int)] else ((n % 128 + 128 : Nat) : Int) :: uintL (n / 128)
  termination_by n
  decreasing_by exact Nat.div_lt_self (by omega) (by omega)
theorem uintL_lt {n : Nat} (h : n < 128) : uintL n = [(n : Int)] := by rw [uintL, dif_pos h]
theorem uintL_ge {n : Nat} (h : ¬ n < 128) : uintL n = ((n % 128 + 128 : Nat) : Int) :: uintL (n / 128) := by rw [uintL, dif_neg h]
theorem uintL_length : ∀ (k n : Nat), n < 128 ^ (k + 1) → (uintL n).length ≤ k + 1
  | 0, n, h => by rw [uintL_lt (by simpa using h)]; simp
  | k + 1, n, h => by
    by_cases hn : n < 128
    · rw [uintL_lt hn]; simp
    · rw [uintL_ge hn, List.length_cons]
      have := uintL_length k (n / 128) (by rw [Nat.div_lt_iff_lt_mul (by decide)]; rw [Nat.pow_succ] at h; exact h)
      omega
theorem uintL_len10 {n : Nat} (h : n < 18446744073709551616) : (uintL n).length ≤ 10 := uintL_length 9 n (by omega)
theorem or128 : ∀ m : Nat, m < 256 → bits .or .u8 (m : Int) 128 = ((m % 128 + 128 : Nat) : Int) := by decide +kernel
def u8s (l : List Int) : List Value := l.map (.int .u8)
abbrev BVec (A : Option Addr) (l : List Int) (cap : Nat) (x : Own) : Prop := Vec 5 1 A l.length cap (u8s l) x
theorem BVec.nil : BVec none [] 0 (.spare 0 0 0) := ⟨rfl, .inl ⟨rfl, rfl, rfl, rfl⟩⟩
theorem u8s_length (l : List Int) : (u8s l).length = l.length * 1 := by simp [u8s]
theorem u8s_one (l : List Int) : (u8s l).all (·.oneCell') = true := by induction l with | nil => rfl | cons b l ih => simp [u8s, Value.oneCell']
theorem u8s_append (a b : List Int) : u8s (a ++ b) = u8s a ++ u8s b := by simp [u8s]
theorem BVec.snoc {A : Option Addr} {l : List Int} {cap : Nat} {x : Own} {z : Int} (h : Vec 5 1 A (l.length + 1) cap (u8s l ++ [.int .u8 z]) x) : BVec A (l ++ [z]) cap x := by
  unfold BVec; rw [u8s_append, List.length_append]; exact h
theorem u8w (m : Nat) : IntKind.u8.wrap (m : Int) = ((m % 256 : Nat) : Int) := by simp [IntKind.wrap, IntKind.signed, IntKind.bits]

theorem short_fn (G : Gh) (A : Option Addr) (l : List Int) (cap : Nat) (x : Own) (hx : BVec A l cap x) (n : Nat) (hn : n < 18446744073709551616) (hl : l.length ≤ 100000000000000) :
    Fn Tryz.prog 79 #[.slice A l.length cap, .int .u64 n] G [x] fun e G' H' => ∃ A' cap' x', e = .returned (.slice A' (l ++ uintL n).length cap') ∧ G = G' ∧ BVec A' (l ++ uintL n) cap' x' ∧ H' = [x'] := by
  refine Fn.enter Tryz.func79 rfl rfl fun w0 => ?_
  refine gom ?_
  have hlen0 := uintL_len10 hn
  refine WC.loop (X := List Int × Nat × Option Addr × Nat × Own) (fun s => [(0, .slice s.2.2.1 s.1.length s.2.2.2.1), (1, .int .u64 (s.2.1 : Int))]) (fun _ => G) (fun s => [s.2.2.2.2]) (fun s => s.2.1) (fun s => BVec s.2.2.1 s.1 s.2.2.2.1 s.2.2.2.2 ∧ s.1 ++ uintL s.2.1 = l ++ uintL n ∧ s.2.1 < 18446744073709551616) (l, n, A, cap, x) ⟨hx, rfl, hn⟩ (by exact ⟨rfl, rfl, trivial⟩) rfl (List.Sublist.refl _) fun s hs => ?_
  obtain ⟨xs, m, B, c, o⟩ := s
  obtain ⟨hv, heq, hm⟩ := hs
  dsimp only at hv heq hm
  have hlen : xs.length + (uintL m).length = l.length + (uintL n).length := by rw [← List.length_append, heq, List.length_append]
  by_cases hlt : m < 128
  · have e2 : decide ((128 : Int) ≤ (m : Int)) = false := decide_eq_false (by omega)
    rw [uintL_lt hlt] at heq hlen
    simp at hlen
    refine gom ?_
    refine WL.p (Gp.convTo (r := (m : Int)) rfl (by rw [u8w, Nat.mod_eq_of_lt (by first | omega | (dsimp only; omega))])) (by kernel_rfl) rfl ?_
    refine WL.op (by kernel_rfl) (OW.buildSlice rfl (by kernel_rfl) (by kernel_rfl) (by rfl) rfl fun b18 => ?_)
    refine WL.op (by kernel_rfl) (OW.append rfl rfl (by kernel_rfl) (by kernel_rfl) hv (by (repeat first | exact .here | apply At.there)) (Rds.blk0 (cs := [.int .u8 (m : Int)]) .here rfl) rfl rfl (by dsimp only; omega) (by dsimp only; omega) rfl fun A3 c3 o3 hv3 => ?_)
    have h3 := BVec.snoc hv3
    rw [heq] at h3
    have hl3 : xs.length + 1 = (l ++ uintL n).length := by rw [← heq, List.length_append]; rfl
    refine gom ?_
    refine WC.ret ?_
    refine WK.un ?_
    exact QF.p1 (.inl rfl) rfl (.tmp rfl) (⟨A3, c3, o3, by rw [hl3], rfl, h3, rfl⟩)
  · have e2 : decide ((128 : Int) ≤ (m : Int)) = true := decide_eq_true (by omega)
    rw [uintL_ge hlt] at heq hlen
    rw [List.length_cons] at hlen
    refine gom ?_
    refine WL.p (Gp.convTo (r := ((m % 256 : Nat) : Int)) rfl (u8w m)) (by kernel_rfl) rfl ?_
    refine WL.p (Gp.orTo (r := ((m % 128 + 128 : Nat) : Int)) rfl rfl (by rw [or128 _ (Nat.mod_lt _ (by decide)), Nat.mod_mod_of_dvd _ (by decide)])) (by kernel_rfl) rfl ?_
    refine WL.op (by kernel_rfl) (OW.buildSlice rfl (by kernel_rfl) (by kernel_rfl) (by rfl) rfl fun b13 => ?_)
    refine WL.op (by kernel_rfl) (OW.append rfl rfl (by kernel_rfl) (by kernel_rfl) hv (by (repeat first | exact .here | apply At.there)) (Rds.blk0 (cs := [.int .u8 ((m % 128 + 128 : Nat) : Int)]) .here rfl) rfl rfl (by dsimp only; omega) (by dsimp only; omega) rfl fun A3 c3 o3 hv3 => ?_)
    have h3 := BVec.snoc hv3
    refine gom ?_
    refine WL.p (Gp.shrTo (r := ((m / 128 : Nat) : Int)) rfl rfl (by decide) (by show (m : Int) / 128 = _; omega)) (by kernel_rfl) rfl ?_
    refine gom ?_
    refine WK.pick [o3] ?_
    have hl3 : xs.length + 1 = (xs ++ [((m % 128 + 128 : Nat) : Int)]).length := by rw [List.length_append]; rfl
    exact WK.again (xs ++ [((m % 128 + 128 : Nat) : Int)], m / 128, A3, c3, o3) (by dsimp only; omega) ⟨h3, by dsimp only; rw [← heq, List.append_assoc]; rfl, by dsimp only; omega⟩ (by exact ⟨by show _ = some (Value.slice A3 _ c3); rw [← hl3]; rfl, rfl, trivial⟩) rfl (List.Sublist.refl _)
theorem rUint_fn (G : Gh) (n : Nat) (hn : n < 18446744073709551616) :
    Fn Tryz.prog 54 #[.int .u64 n] G [] fun e G' H' => ∃ A' cap' x', e = .returned (.slice A' (uintL n).length cap') ∧ G = G' ∧ BVec A' (uintL n) cap' x' ∧ H' = [x'] := by
  refine Fn.enter Tryz.func54 rfl rfl fun w0 => ?_
  refine gom ?_
  refine WC.nothing ?_
  have hlen0 := uintL_len10 hn
  refine WC.loop (X := List Int × Nat × Option Addr × Nat × Own) (fun s => [(3, .slice s.2.2.1 s.1.length s.2.2.2.1), (0, .int .u64 (s.2.1 : Int))]) (fun _ => G) (fun s => [s.2.2.2.2]) (fun s => s.2.1) (fun s => BVec s.2.2.1 s.1 s.2.2.2.1 s.2.2.2.2 ∧ s.1 ++ uintL s.2.1 = uintL n ∧ s.2.1 < 18446744073709551616) ([], n, none, 0, .spare 0 0 0) ⟨BVec.nil, rfl, hn⟩ (by exact ⟨rfl, rfl, trivial⟩) rfl (List.Sublist.refl _) fun s hs => ?_
  obtain ⟨xs, m, B, c, o⟩ := s
  obtain ⟨hv, heq, hm⟩ := hs
  dsimp only at hv heq hm
  have hlen : xs.length + (uintL m).length = (uintL n).length := by rw [← List.length_append, heq]
  by_cases hlt : m < 128
  · have e2 : decide ((128 : Int) ≤ (m : Int)) = false := decide_eq_false (by omega)
    rw [uintL_lt hlt] at heq hlen
    simp at hlen
    refine gom ?_
    refine WL.p (Gp.convTo (r := (m : Int)) rfl (by rw [u8w, Nat.mod_eq_of_lt (by first | omega | (dsimp only; omega))])) (by kernel_rfl) rfl ?_
    refine WL.op (by kernel_rfl) (OW.buildSlice rfl (by kernel_rfl) (by kernel_rfl) (by rfl) rfl fun b18 => ?_)
    refine WL.op (by kernel_rfl) (OW.append rfl rfl (by kernel_rfl) (by kernel_rfl) hv (by (repeat first | exact .here | apply At.there)) (Rds.blk0 (cs := [.int .u8 (m : Int)]) .here rfl) rfl rfl (by dsimp only; omega) (by dsimp only; omega) rfl fun A3 c3 o3 hv3 => ?_)
    have h3 := BVec.snoc hv3
    rw [heq] at h3
    have hl3 : xs.length + 1 = (uintL n).length := by rw [← heq, List.length_append]; rfl
    refine gom ?_
    refine WC.ret ?_
    refine WK.un ?_
    exact QF.p1 (.inl rfl) rfl (.tmp rfl) (⟨A3, c3, o3, by rw [hl3], rfl, h3, rfl⟩)
  · have e2 : decide ((128 : Int) ≤ (m : Int)) = true := decide_eq_true (by omega)
    rw [uintL_ge hlt] at heq hlen
    rw [List.length_cons] at hlen
    have x2 : IntKind.u8.wrap (((m % 128 : Nat) : Int) + 128) = ((m % 128 + 128 : Nat) : Int) := by
      rw [show ((m % 128 : Nat) : Int) + 128 = ((m % 128 + 128 : Nat) : Int) by omega, u8w, Nat.mod_eq_of_lt (by omega)]
    refine gom ?_
    refine WL.p (Gp.remTo (r := ((m % 128 : Nat) : Int)) rfl rfl (by decide) (by dsimp only; rw [Int.tmod_eq_emod_of_nonneg (by omega)]; omega)) (by kernel_rfl) rfl ?_
    refine WL.p (Gp.convTo (r := ((m % 128 : Nat) : Int)) rfl (by rw [u8w, Nat.mod_eq_of_lt (by first | omega | (dsimp only; omega))])) (by kernel_rfl) rfl ?_
    refine gom ?_
    refine WL.op (by kernel_rfl) (OW.buildSlice rfl (by kernel_rfl) (by kernel_rfl) (by rfl) rfl fun b11 => ?_)
    refine WL.op (by kernel_rfl) (OW.append rfl rfl (by kernel_rfl) (by kernel_rfl) hv (by (repeat first | exact .here | apply At.there)) (Rds.blk0 (cs := [.int .u8 ((m % 128 + 128 : Nat) : Int)]) .here rfl) rfl rfl (by dsimp only; omega) (by dsimp only; omega) rfl fun A3 c3 o3 hv3 => ?_)
    have h3 := BVec.snoc hv3
    refine gom ?_
    refine WL.p (Gp.quoTo (r := ((m / 128 : Nat) : Int)) rfl rfl (by decide) (by dsimp only; rw [Int.tdiv_eq_ediv_of_nonneg (by omega)]; simp [IntKind.wrap, IntKind.signed, IntKind.bits]; omega)) (by kernel_rfl) rfl ?_
    refine gom ?_
    refine WK.pick [o3] ?_
    have hl3 : xs.length + 1 = (xs ++ [((m % 128 + 128 : Nat) : Int)]).length := by rw [List.length_append]; rfl
    exact WK.again (xs ++ [((m % 128 + 128 : Nat) : Int)], m / 128, A3, c3, o3) (by dsimp only; omega) ⟨h3, by dsimp only; rw [← heq, List.append_assoc]; rfl, by dsimp only; omega⟩ (by exact ⟨by show _ = some (Value.slice A3 _ c3); rw [← hl3]; rfl, rfl, trivial⟩) rfl (List.Sublist.refl _)
end Go.Proofs.YtkmigdmdppkpoaaGreatDoor.Gb
namespace Go.Proofs.YtkmigdmdppkpoaaGreatDoor.Gb
open Go Go.Proofs Go.MapKept
set_option linter.unusedVariables false
set_option linter.unusedSimpArgs false
set_option linter.unusedSectionVars false
attribute [local irreducible] Tryz.prog

theorem fresh_fn (G : Gh) (A : Option Addr) (l : List Int) (cap : Nat) (x : Own) (hx : BVec A l cap x) (hl : l.length ≤ 100000000000000) :
    Fn Tryz.prog 80 #[.slice A l.length cap, .int .i64 10] G [x] fun e G' H' => ∃ A' cap' x', e = .returned (.slice A' l.length cap') ∧ G = G' ∧ BVec A' l cap' x' ∧ H' = [x'] := by
  refine Fn.enter Tryz.func80 rfl rfl fun w0 => ?_
  have x2 : IntKind.i64.wrap ((l.length : Int) + 10) = ((l.length + 10 : Nat) : Int) := by rw [wrapI (by omega) (by omega)]; rfl
  refine gom ?_
  refine WL.op (by kernel_rfl) (OW.makeSlice2 (n := 1) (z := .int .u8 0) (m := (l.length : Int)) (c := ((l.length + 10 : Nat) : Int)) rfl rfl rfl (by omega) (by omega) (by omega) (by omega) rfl fun tb o1 ho1 => ?_)
  rw [Int.toNat_natCast, Int.toNat_natCast] at ho1 ⊢
  refine gom ?_
  refine WL.op (by kernel_rfl) (OW.copy rfl rfl (by kernel_rfl) ho1 .here (hx.rds (.there .here)) (u8s_length l) (u8s_one l) (Nat.le_refl _) rfl fun o2 ho2 => ?_)
  have h2 : BVec (some ⟨tb, 0, none⟩) l (l.length + 10) o2 := by
    unfold BVec
    rw [List.drop_eq_nil_of_le (by rw [repS_length]; exact Nat.le_refl _), List.append_nil] at ho2
    exact ho2
  refine gom ?_
  refine WC.ret ?_
  refine WK.un ?_
  exact QF.p1 (.inl rfl) rfl (.tmp rfl) (⟨_, _, o2, rfl, rfl, h2, rfl⟩)
theorem putUint_fn (G : Gh) (A : Option Addr) (l : List Int) (cap : Nat) (x : Own) (hx : BVec A l cap x) (n : Nat) (hn : n < 18446744073709551616) (hl : l.length ≤ 100000000000000) :
    Fn Tryz.prog 53 #[.slice A l.length cap, .int .u64 n] G [x] fun e G' H' => ∃ A' cap' x', e = .returned (.slice A' (l ++ uintL n).length cap') ∧ G = G' ∧ BVec A' (l ++ uintL n) cap' x' ∧ H' = [x'] := by
  refine Fn.enter Tryz.func53 rfl rfl fun w0 => ?_
  refine gom ?_
  refine WL.op (by kernel_rfl) (OW.callK rfl (fresh_fn G A l cap x hx hl) rfl fun v' G' H' h hg => ?_)
  obtain ⟨A1, c1, x1, he, rfl, h1, rfl⟩ := h
  cases he
  refine gom ?_
  refine WL.op (by kernel_rfl) (OW.callK rfl (short_fn G A1 l c1 x1 h1 n hn hl) rfl fun v' G' H' h hg => ?_)
  obtain ⟨A2, c2, x2, he, rfl, h2, rfl⟩ := h
  cases he
  refine gom ?_
  refine WC.ret ?_
  refine WK.un ?_
  exact QF.p1 (.inl rfl) rfl (.tmp rfl) (⟨_, _, x2, rfl, rfl, h2, rfl⟩)

theorem rowC_out {c : Int} (h : ¬ (1 ≤ c ∧ c ≤ 26)) : rowC c = rw0 := by
  unfold rowC
  split
  · rfl
  · rw [List.getElem?_eq_none (by show 27 ≤ c.toNat; omega)]; rfl
theorem is_row (c : Int) : (decide (1 ≤ c) && decide (c ≤ 26)) = ((rowC c).name != ⟨#[]⟩) := by
  by_cases h : 1 ≤ c ∧ c ≤ 26
  · have hd : ∀ k : Nat, k < 26 → ((rowC ((k : Int) + 1)).name != ⟨#[]⟩) = true := by decide +kernel
    obtain ⟨k, rfl⟩ : ∃ k : Nat, c = (k : Int) + 1 := ⟨(c - 1).toNat, by omega⟩
    rw [hd k (by omega), decide_eq_true h.1, decide_eq_true h.2]; rfl
  · rw [rowC_out h]
    rw [show (decide (1 ≤ c) && decide (c ≤ 26)) = false by simp; omega]; rfl
def numbR (c : Int) : Bool := c == 1 || c == 2 || c == 3 || c == 5 || c == 6 || c == 7 || c == 8
theorem numbR_row (c : Int) : numbR c = (rowC c).n := by
  by_cases h : 1 ≤ c ∧ c ≤ 26
  · have hd : ∀ k : Nat, k < 26 → numbR ((k : Int) + 1) = (rowC ((k : Int) + 1)).n := by decide +kernel
    obtain ⟨k, rfl⟩ : ∃ k : Nat, c = (k : Int) + 1 := ⟨(c - 1).toNat, by omega⟩
    exact hd k (by omega)
  · rw [rowC_out h]
    unfold numbR
    simp [rw0]; omega
theorem numb_fn (G : Gh) (H : List Own) (c : Int) : Fn Tryz.prog 51 #[.int .i64 c] G H fun e G' H' => e = .returned (.bool (rowC c).n) ∧ G = G' ∧ H' = H := by
  rw [← numbR_row]
  refine Fn.enter Tryz.func51 rfl rfl fun w0 => ?_
  unfold numbR
  cases y1 : (c == 1) with
  | true =>
    refine gom ?_
    refine WC.ret ?_
    refine WK.un ?_
    exact QF.p1 (.inl rfl) rfl (.tmp rfl) (⟨rfl, rfl, rfl⟩)
  | false =>
  cases y2 : (c == 2) with
  | true =>
    refine gom ?_
    refine WC.ret ?_
    refine WK.un ?_
    exact QF.p1 (.inl rfl) rfl (.tmp rfl) (⟨rfl, rfl, rfl⟩)
  | false =>
  cases y3 : (c == 3) with
  | true =>
    refine gom ?_
    refine WC.ret ?_
    refine WK.un ?_
    exact QF.p1 (.inl rfl) rfl (.tmp rfl) (⟨rfl, rfl, rfl⟩)
  | false =>
  cases y5 : (c == 5) with
  | true =>
    refine gom ?_
    refine WC.ret ?_
    refine WK.un ?_
    exact QF.p1 (.inl rfl) rfl (.tmp rfl) (⟨rfl, rfl, rfl⟩)
  | false =>
  cases y6 : (c == 6) with
  | true =>
    refine gom ?_
    refine WC.ret ?_
    refine WK.un ?_
    exact QF.p1 (.inl rfl) rfl (.tmp rfl) (⟨rfl, rfl, rfl⟩)
  | false =>
  cases y7 : (c == 7) with
  | true =>
    refine gom ?_
    refine WC.ret ?_
    refine WK.un ?_
    exact QF.p1 (.inl rfl) rfl (.tmp rfl) (⟨rfl, rfl, rfl⟩)
  | false =>
    refine gom ?_
    refine WC.ret ?_
    refine WK.un ?_
    exact QF.p1 (.inl rfl) rfl (.tmp rfl) (⟨by simp, rfl, rfl⟩)
theorem lone_fn (G : Gh) (c n : Int) : Fn Tryz.prog 50 #[.agg #[.int .i64 c, .int .i64 n]] G [] fun e G' H' => e = .returned (.bool (mayR c n)) ∧ G = G' ∧ H' = [] := by
  refine Fn.enter Tryz.func50 rfl rfl fun w0 => ?_
  refine WC.seq ?_
  refine WC.region ?_
  refine WL.op (by kernel_rfl) (OW.box rfl rfl fun b1 => ?_)
  refine gom ?_
  refine WL.op (by kernel_rfl) (OW.callK rfl (ris_fn G c) rfl fun v' G' H' h hg => ?_)
  obtain ⟨he, rfl, rfl⟩ := h
  cases he
  rw [is_row, mayR]
  cases hb : ((rowC c).name != ⟨#[]⟩) with
  | false =>
    refine gom ?_
    refine WC.ret ?_
    refine WK.un ?_
    exact QF.p1 (.inl rfl) rfl (.tmp rfl) (⟨by simp, rfl, rfl⟩)
  | true =>
  cases h0 : decide (0 ≤ n) with
  | false =>
    refine gom ?_
    refine WC.ret ?_
    refine WK.un ?_
    exact QF.p1 (.inl rfl) rfl (.tmp rfl) (⟨by simp, rfl, rfl⟩)
  | true =>
  cases h1 : decide (n ≤ 2147483647) with
  | false =>
    refine gom ?_
    refine WC.ret ?_
    refine WK.un ?_
    exact QF.p1 (.inl rfl) rfl (.tmp rfl) (⟨by simp, rfl, rfl⟩)
  | true =>
  refine gom ?_
  refine WL.op (by kernel_rfl) (OW.callK rfl (numb_fn G [] c) rfl fun v' G' H' h hg => ?_)
  obtain ⟨he, rfl, rfl⟩ := h
  cases he
  cases h2 : (rowC c).n with
  | true =>
    refine gom ?_
    refine WC.ret ?_
    refine WK.un ?_
    exact QF.p1 (.inl rfl) rfl (.tmp rfl) (⟨by simp, rfl, rfl⟩)
  | false =>
    refine gom ?_
    refine WC.ret ?_
    refine WK.un ?_
    exact QF.p1 (.inl rfl) rfl (.tmp rfl) (⟨by simp, rfl, rfl⟩)
end Go.Proofs.YtkmigdmdppkpoaaGreatDoor.Gb
namespace Go.Proofs.YtkmigdmdppkpoaaGreatDoor.Gb
open Go Go.Proofs Go.MapKept
set_option linter.unusedVariables false
set_option linter.unusedSimpArgs false
set_option linter.unusedSectionVars false
attribute [local irreducible] Tryz.prog

def mayI (i : Int × Int) : Bool := mayR i.1 i.2
def encI (i : Int × Int) : List Int := i.1 :: (if (rowC i.1).n then uintL i.2.toNat else [])
def encP (l : List (Int × Int)) (k : Nat) : List Int := uintL l.length ++ (l.take k).flatMap encI
def bytesR (l : List (Int × Int)) : List Int × Int := if l.all mayI then (encP l l.length, 0) else ([], 180)
theorem mayI_bounds {i : Int × Int} (h : mayI i = true) : 1 ≤ i.1 ∧ i.1 ≤ 26 ∧ 0 ≤ i.2 ∧ i.2 ≤ 2147483647 := by
  unfold mayI mayR at h
  simp only [Bool.and_eq_true, decide_eq_true_eq] at h
  obtain ⟨h1, h2, h3, _⟩ := h
  rw [← is_row] at h1
  simp at h1
  exact ⟨h1.1, h1.2, h2, h3⟩
theorem encI_length {i : Int × Int} (h : mayI i = true) : (encI i).length ≤ 6 := by
  obtain ⟨_, _, h1, h2⟩ := mayI_bounds h
  unfold encI
  rw [List.length_cons]
  split
  · have := uintL_length 4 i.2.toNat (by omega); omega
  · simp
theorem flat_le {l : List (Int × Int)} : ∀ {k : Nat}, (∀ j i, j < k → l[j]? = some i → mayI i = true) → ((l.take k).flatMap encI).length ≤ 6 * k
  | 0, _ => by simp
  | k + 1, h => by
    have ih := flat_le (l := l) (k := k) fun j i hj hi => h j i (by omega) hi
    cases hk : l[k]? with
    | none =>
      rw [List.getElem?_eq_none_iff] at hk
      rw [List.take_of_length_le (by omega), ← List.take_of_length_le hk]; omega
    | some i =>
      rw [take_snoc' hk, List.flatMap_append, List.length_append]
      have := encI_length (h k i (by omega) hk)
      simp only [List.flatMap_cons, List.flatMap_nil, List.append_nil]
      omega
theorem encP_snoc {l : List (Int × Int)} {k : Nat} {i : Int × Int} (h : l[k]? = some i) : encP l (k + 1) = encP l k ++ encI i := by
  unfold encP
  rw [take_snoc' h, List.flatMap_append, List.append_assoc]
  simp
theorem u8code {c : Int} (h : 1 ≤ c ∧ c ≤ 26) : IntKind.u8.wrap c = c := by
  obtain ⟨k, rfl⟩ : ∃ k : Nat, c = k := ⟨c.toNat, by omega⟩
  rw [u8w, Nat.mod_eq_of_lt (by omega)]
theorem u64n {n : Int} (h : 0 ≤ n ∧ n ≤ 9223372036854775807) : IntKind.u64.wrap n = ((n.toNat : Nat) : Int) := by
  obtain ⟨k, rfl⟩ : ∃ k : Nat, n = k := ⟨n.toNat, by omega⟩
  simp [IntKind.wrap, IntKind.signed, IntKind.bits]; omega

set_option maxHeartbeats 2000000 in
theorem Bytes_fn (G : Gh) (A : Option Addr) (l : List (Int × Int)) (cap : Nat) (hA : Sl Kd.ins G A l) (hl : l.length ≤ 9000000000000) :
    Fn Tryz.prog 29 #[.slice A l.length cap] G [] fun e G' H' => ∃ A' cap' x', e = .returned (.tuple #[.slice A' (bytesR l).1.length cap', .int .i64 (bytesR l).2]) ∧ G = G' ∧ BVec A' (bytesR l).1 cap' x' ∧ H' = [x'] := by
  refine Fn.enter Tryz.func29 rfl rfl fun w0 => ?_
  refine gom ?_
  refine WL.p (Gp.convTo (r := ((l.length : Nat) : Int)) rfl (by rw [u64n ⟨by omega, by omega⟩]; rfl)) (by kernel_rfl) rfl ?_
  refine WL.nothing ?_
  refine WL.op (by kernel_rfl) (OW.callK rfl (putUint_fn G none [] 0 (.spare 0 0 0) BVec.nil l.length (by omega) (by decide)) rfl fun v' G' H' h hg => ?_)
  obtain ⟨A1, c1, x1, he, rfl, h1, rfl⟩ := h
  cases he
  have hbase : [] ++ uintL l.length = encP l 0 := by simp [encP]
  rw [hbase] at h1 ⊢
  refine gom ?_
  refine WC.loop (X := Nat × Option Addr × Nat × Own) (fun s => [(4, .slice s.2.1 (encP l s.1).length s.2.2.1), (11, .slice A l.length cap), (12, .int .i64 l.length), (13, .int .i64 s.1)]) (fun _ => G) (fun s => [s.2.2.2]) (fun s => l.length - s.1) (fun s => s.1 ≤ l.length ∧ BVec s.2.1 (encP l s.1) s.2.2.1 s.2.2.2 ∧ ∀ j i, j < s.1 → l[j]? = some i → mayI i = true) (0, A1, c1, x1) ⟨Nat.zero_le _, h1, (fun j i h => absurd h (Nat.not_lt_zero _))⟩ (by exact ⟨rfl, rfl, rfl, rfl, trivial⟩) rfl (List.Sublist.refl _) fun s hs => ?_
  obtain ⟨k, B, c, o⟩ := s
  obtain ⟨hk, hv, hall⟩ := hs
  dsimp only at hk hv hall
  have x2 := wrapS k (by omega)
  by_cases hlt : k < l.length
  rotate_left
  · have e2 : decide ((k : Int) < (l.length : Int)) = false := decide_eq_false (by omega)
    obtain rfl : k = l.length := by omega
    have hr : bytesR l = (encP l l.length, 0) := by rw [bytesR, all_of hall (by omega), if_pos rfl]
    rw [hr]
    refine gom ?_
    refine WC.ret ?_
    refine WK.un ?_
    exact QF.p2 (.inl rfl) rfl (.tmp rfl) (.tmp rfl) (⟨B, c, o, rfl, rfl, hv, rfl⟩)
  have e2 : decide ((k : Int) < (l.length : Int)) = true := decide_eq_true (by omega)
  obtain ⟨i, hi⟩ : ∃ i, l[k]? = some i := ⟨_, List.getElem?_eq_getElem (by omega)⟩
  obtain ⟨ib, io, ics, rfl, hik, hic⟩ := hA k i hi
  obtain rfl : ics = [.int .i64 i.1, .int .i64 i.2] := hik
  have x0 : (0 : Int) ≤ (k : Int) := by omega
  have x1' : (k : Int) < (l.length : Int) := by omega
  refine gom ?_
  refine WL.op (by kernel_rfl) (OW.alloc rfl fun b6 => ?_)
  refine gom ?_
  refine WL.op (by kernel_rfl) (OW.callK rfl (may_fn G i.1 i.2) rfl fun v' G' H' h hg => ?_)
  obtain ⟨he, rfl, rfl⟩ := h
  cases he
  cases hm : mayR i.1 i.2 with
  | false =>
    have hr : bytesR l = ([], 180) := by rw [bytesR, all_not hi (show mayI i = false from hm)]; rfl
    rw [hr]
    refine gom ?_
    refine WC.nothing ?_
    refine WC.ret ?_
    refine WK.un ?_
    exact QF.p2 (.inl rfl) rfl (.tmp rfl) (.tmp rfl) (⟨none, 0, _, rfl, rfl, BVec.nil, rfl⟩)
  | true =>
  obtain ⟨b1, b2, b3, b4⟩ := mayI_bounds (i := i) hm
  have hle := flat_le hall
  have hlu := uintL_len10 (n := l.length) (by omega)
  have hel : (encP l k).length = (uintL l.length).length + ((l.take k).flatMap encI).length := by rw [encP, List.length_append]
  refine gom ?_
  refine WL.p (Gp.convTo (r := i.1) rfl (u8code ⟨b1, b2⟩)) (by kernel_rfl) rfl ?_
  refine WL.op (by kernel_rfl) (OW.buildSlice rfl (by kernel_rfl) (by kernel_rfl) (by rfl) rfl fun b24 => ?_)
  refine WL.op (by kernel_rfl) (OW.append rfl rfl (by kernel_rfl) (by kernel_rfl) hv (by (repeat first | exact .here | apply At.there)) (Rds.blk0 (cs := [.int .u8 i.1]) .here rfl) rfl rfl (by dsimp only; omega) (by dsimp only; omega) rfl fun A3 c3 o3 hv3 => ?_)
  have h3 := BVec.snoc hv3
  refine gom ?_
  refine WL.op (by kernel_rfl) (OW.callK rfl (rowOf_fn G i.1) rfl fun v' G' H' h hg => ?_)
  obtain ⟨he, rfl, rfl⟩ := h
  cases he
  refine WL.p (Gp.rowN (r := rowC i.1) rfl) (by kernel_rfl) rfl ?_
  have hl3 : (encP l k).length + 1 = (encP l k ++ [i.1]).length := by rw [List.length_append]; rfl
  have hst := all_step (f := mayI) hi hall hm
  cases hn : (rowC i.1).n with
  | true =>
    have hen : encP l (k + 1) = encP l k ++ [i.1] ++ uintL i.2.toNat := by rw [encP_snoc hi, encI, hn, List.append_assoc]; rfl
    refine gom ?_
    refine WL.p (Gp.convTo (r := ((i.2.toNat : Nat) : Int)) rfl (u64n ⟨b3, by omega⟩)) (by kernel_rfl) rfl ?_
    rw [hl3]
    refine WL.op (by kernel_rfl) (OW.callK rfl (putUint_fn G A3 (encP l k ++ [i.1]) c3 o3 h3 i.2.toNat (by omega) (by omega)) rfl fun v' G' H' h hg => ?_)
    obtain ⟨A4, c4, x4, he, rfl, h4, rfl⟩ := h
    cases he
    rw [← hen] at h4 ⊢
    refine gom ?_
    exact WK.again (k + 1, A4, c4, x4) (by dsimp only; omega) ⟨by dsimp only; omega, h4, hst⟩ (by exact ⟨rfl, rfl, rfl, rfl, trivial⟩) rfl (by first | exact List.Sublist.refl _ | simp)
  | false =>
    have hen : encP l (k + 1) = encP l k ++ [i.1] := by rw [encP_snoc hi, encI, hn]; rfl
    rw [← hen] at h3 hl3
    refine gom ?_
    refine WK.pick [o3] ?_
    exact WK.again (k + 1, A3, c3, o3) (by dsimp only; omega) ⟨by dsimp only; omega, h3, hst⟩ (by exact ⟨by show _ = some (Value.slice A3 _ c3); rw [← hl3]; rfl, rfl, rfl, rfl, trivial⟩) rfl (List.Sublist.refl _)

set_option maxHeartbeats 2000000 in
theorem rBytes_fn (G : Gh) (A : Option Addr) (l : List (Int × Int)) (cap : Nat) (hA : Sl Kd.ins G A l) (hl : l.length ≤ 9000000000000) :
    Fn Tryz.prog 30 #[.slice A l.length cap] G [] fun e G' H' => ∃ A' cap' x', e = .returned (.tuple #[.slice A' (bytesR l).1.length cap', .int .i64 (bytesR l).2]) ∧ G = G' ∧ BVec A' (bytesR l).1 cap' x' ∧ H' = [x'] := by
  refine Fn.enter Tryz.func30 rfl rfl fun w0 => ?_
  refine gom ?_
  refine WL.p (Gp.convTo (r := ((l.length : Nat) : Int)) rfl (by rw [u64n ⟨by omega, by omega⟩]; rfl)) (by kernel_rfl) rfl ?_
  refine WL.op (by kernel_rfl) (OW.callK rfl (rUint_fn G l.length (by omega)) rfl fun v' G' H' h hg => ?_)
  obtain ⟨A1, c1, x1, he, rfl, h1, rfl⟩ := h
  cases he
  have hbase : uintL l.length = encP l 0 := by simp [encP]
  rw [hbase] at h1 ⊢
  refine gom ?_
  refine WC.loop (X := Nat × Option Addr × Nat × Own) (fun s => [(4, .slice s.2.1 (encP l s.1).length s.2.2.1), (0, .slice A l.length cap), (5, .int .i64 s.1)]) (fun _ => G) (fun s => [s.2.2.2]) (fun s => l.length - s.1) (fun s => s.1 ≤ l.length ∧ BVec s.2.1 (encP l s.1) s.2.2.1 s.2.2.2 ∧ ∀ j i, j < s.1 → l[j]? = some i → mayI i = true) (0, A1, c1, x1) ⟨Nat.zero_le _, h1, (fun j i h => absurd h (Nat.not_lt_zero _))⟩ (by exact ⟨rfl, rfl, rfl, trivial⟩) rfl (List.Sublist.refl _) fun s hs => ?_
  obtain ⟨k, B, c, o⟩ := s
  obtain ⟨hk, hv, hall⟩ := hs
  dsimp only at hk hv hall
  have x2 := wrapS k (by omega)
  by_cases hlt : k < l.length
  rotate_left
  · have e2 : decide ((k : Int) < (l.length : Int)) = false := decide_eq_false (by omega)
    obtain rfl : k = l.length := by omega
    have hr : bytesR l = (encP l l.length, 0) := by rw [bytesR, all_of hall (by omega), if_pos rfl]
    rw [hr]
    refine gom ?_
    refine WC.ret ?_
    refine WK.un ?_
    exact QF.p2 (.inl rfl) rfl (.tmp rfl) (.tmp rfl) (⟨B, c, o, rfl, rfl, hv, rfl⟩)
  have e2 : decide ((k : Int) < (l.length : Int)) = true := decide_eq_true (by omega)
  obtain ⟨i, hi⟩ : ∃ i, l[k]? = some i := ⟨_, List.getElem?_eq_getElem (by omega)⟩
  obtain ⟨ib, io, ics, rfl, hik, hic⟩ := hA k i hi
  obtain rfl : ics = [.int .i64 i.1, .int .i64 i.2] := hik
  have x0 : (0 : Int) ≤ (k : Int) := by omega
  have x1' : (k : Int) < (l.length : Int) := by omega
  refine gom ?_
  refine WL.op (by kernel_rfl) (OW.callK rfl (lone_fn G i.1 i.2) rfl fun v' G' H' h hg => ?_)
  obtain ⟨he, rfl, rfl⟩ := h
  cases he
  cases hm : mayR i.1 i.2 with
  | false =>
    have hr : bytesR l = ([], 180) := by rw [bytesR, all_not hi (show mayI i = false from hm)]; rfl
    rw [hr]
    refine gom ?_
    refine WC.nothing ?_
    refine WC.ret ?_
    refine WK.un ?_
    exact QF.p2 (.inl rfl) rfl (.tmp rfl) (.tmp rfl) (⟨none, 0, _, rfl, rfl, BVec.nil, rfl⟩)
  | true =>
  obtain ⟨b1, b2, b3, b4⟩ := mayI_bounds (i := i) hm
  have hle := flat_le hall
  have hlu := uintL_len10 (n := l.length) (by omega)
  have hel : (encP l k).length = (uintL l.length).length + ((l.take k).flatMap encI).length := by rw [encP, List.length_append]
  refine gom ?_
  refine WL.p (Gp.convTo (r := i.1) rfl (u8code ⟨b1, b2⟩)) (by kernel_rfl) rfl ?_
  refine WL.op (by kernel_rfl) (OW.buildSlice rfl (by kernel_rfl) (by kernel_rfl) (by rfl) rfl fun b29 => ?_)
  refine WL.op (by kernel_rfl) (OW.append rfl rfl (by kernel_rfl) (by kernel_rfl) hv (by (repeat first | exact .here | apply At.there)) (Rds.blk0 (cs := [.int .u8 i.1]) .here rfl) rfl rfl (by dsimp only; omega) (by dsimp only; omega) rfl fun A3 c3 o3 hv3 => ?_)
  have h3 := BVec.snoc hv3
  refine gom ?_
  refine WL.op (by kernel_rfl) (OW.callK rfl (numb_fn G [] i.1) rfl fun v' G' H' h hg => ?_)
  obtain ⟨he, rfl, rfl⟩ := h
  cases he
  have hl3 : (encP l k).length + 1 = (encP l k ++ [i.1]).length := by rw [List.length_append]; rfl
  have hst := all_step (f := mayI) hi hall hm
  cases hn : (rowC i.1).n with
  | true =>
    have hen : encP l (k + 1) = encP l k ++ [i.1] ++ uintL i.2.toNat := by rw [encP_snoc hi, encI, hn, List.append_assoc]; rfl
    have hlu2 := uintL_len10 (n := i.2.toNat) (by omega)
    refine gom ?_
    refine WL.p (Gp.convTo (r := ((i.2.toNat : Nat) : Int)) rfl (u64n ⟨b3, by omega⟩)) (by kernel_rfl) rfl ?_
    refine WL.op (by kernel_rfl) (OW.callK rfl (rUint_fn G i.2.toNat (by omega)) rfl fun v' G' H' h hg => ?_)
    obtain ⟨A4, c4, x4, he, rfl, h4, rfl⟩ := h
    cases he
    rw [hl3]
    refine WL.op (by kernel_rfl) (OW.append rfl rfl (by kernel_rfl) (by kernel_rfl) h3 (by (repeat first | exact .here | apply At.there)) (h4.rds .here) (u8s_length _) (u8s_one _) (by first | omega | (dsimp only; omega)) (by first | omega | (dsimp only; omega)) rfl fun A5 c5 o5 hv5 => ?_)
    have h5 : BVec A5 (encP l (k + 1)) c5 o5 := by
      rw [hen]; unfold BVec; rw [u8s_append, List.length_append]; exact hv5
    have hl5 : (encP l k ++ [i.1]).length + (uintL i.2.toNat).length = (encP l (k + 1)).length := by rw [hen]; exact (List.length_append ..).symm
    refine gom ?_
    refine WK.pick [o5] ?_
    exact WK.again (k + 1, A5, c5, o5) (by dsimp only; omega) ⟨by dsimp only; omega, h5, hst⟩ (by exact ⟨by show _ = some (Value.slice A5 _ c5); rw [← hl5]; rfl, rfl, rfl, trivial⟩) rfl (List.Sublist.refl _)
  | false =>
    have hen : encP l (k + 1) = encP l k ++ [i.1] := by rw [encP_snoc hi, encI, hn]; rfl
    rw [← hen] at h3 hl3
    refine gom ?_
    refine WK.pick [o3] ?_
    exact WK.again (k + 1, A3, c3, o3) (by dsimp only; omega) ⟨by dsimp only; omega, h3, hst⟩ (by exact ⟨by show _ = some (Value.slice A3 _ c3); rw [← hl3]; rfl, rfl, rfl, trivial⟩) rfl (List.Sublist.refl _)
end Go.Proofs.YtkmigdmdppkpoaaGreatDoor.Gb
namespace Go.Proofs.YtkmigdmdppkpoaaGreatDoor.Gb
open Go Go.Proofs Go.RowKit Go.ChangeShapes Go.WideShapes Go.MapKept
set_option linter.unusedVariables false
set_option linter.unusedSimpArgs false
set_option linter.unusedSectionVars false

theorem list2 {α : Type} {l : List α} (h : l.length = 2) : ∃ a b, l = [a, b] := match l, h with | [a, b], _ => ⟨a, b, rfl⟩
theorem list3 {α : Type} {l : List α} (h : l.length = 3) : ∃ a b c, l = [a, b, c] := match l, h with | [a, b, c], _ => ⟨a, b, c, rfl⟩
theorem list4 {α : Type} {l : List α} (h : l.length = 4) : ∃ a b c d, l = [a, b, c, d] := match l, h with | [a, b, c, d], _ => ⟨a, b, c, d, rfl⟩
theorem list6 {α : Type} {l : List α} (h : l.length = 6) : ∃ a b c d e f, l = [a, b, c, d, e, f] := match l, h with | [a, b, c, d, e, f], _ => ⟨a, b, c, d, e, f, rfl⟩
theorem cellsV : Tryz.prog.cellsOf 99 = 4 := by kernel_rfl
theorem cellsI : Tryz.prog.cellsOf 50 = 2 := by kernel_rfl
theorem cellsP : Tryz.prog.cellsOf 45 = 6 := by kernel_rfl
theorem cells_int : Tryz.prog.cellsOf 3 = 1 := by kernel_rfl
theorem cells_typ : Tryz.prog.cellsOf 42 = 1 := by kernel_rfl
theorem cells_cod : Tryz.prog.cellsOf 48 = 1 := by kernel_rfl
theorem cells_i64 : Tryz.prog.cellsOf 2 = 1 := by kernel_rfl
theorem cells_bool : Tryz.prog.cellsOf 4 = 1 := by kernel_rfl
theorem cells_str : Tryz.prog.cellsOf 9 = 1 := by kernel_rfl
theorem cells_lv : Tryz.prog.cellsOf 22 = 1 := by kernel_rfl
theorem cells_lp : Tryz.prog.cellsOf 24 = 1 := by kernel_rfl
theorem cells_li : Tryz.prog.cellsOf 43 = 1 := by kernel_rfl
theorem cells_lt : Tryz.prog.cellsOf 31 = 1 := by kernel_rfl
theorem bytes_typ : Tryz.prog.bytesOf 42 = 8 := by kernel_rfl
theorem bytesI : Tryz.prog.bytesOf 50 = 16 := by kernel_rfl
theorem bytesV : Tryz.prog.bytesOf 99 = 40 := by kernel_rfl
theorem bytesP : Tryz.prog.bytesOf 45 = 88 := by kernel_rfl
theorem cells_u8 : Tryz.prog.cellsOf 5 = 1 := by kernel_rfl
theorem bytes_u8 : Tryz.prog.bytesOf 5 = 1 := by kernel_rfl
theorem bytes_str : Tryz.prog.bytesOf 9 = 16 := by kernel_rfl

section
attribute [local irreducible] Tryz.prog
variable {H : Type} (enc : TypeId × Value → H) (w : World)

theorem Opens.value : Opens enc Tryz.prog w 99 Kd.val (fun v => v.s.size ≤ 140737488351232) := by
  intro fuel cs d ps hd hw
  obtain ⟨hl, hf⟩ := field_open enc Tryz.prog w Tryz.underlying99 hd hw
  obtain ⟨c0, c1, c2, c3, rfl⟩ := list4 (hl.trans cellsV)
  obtain ⟨t, h0, _⟩ := hf 0 _ rfl rfl rfl cells_typ (Opens.int enc Tryz.prog w Tryz.underlying42)
  obtain ⟨i, h1, _⟩ := hf 1 _ rfl rfl rfl cells_i64 (Opens.int enc Tryz.prog w Tryz.underlying2)
  obtain ⟨b, h2, _⟩ := hf 2 _ rfl rfl rfl cells_bool (Opens.bool enc Tryz.prog w Tryz.underlying4)
  obtain ⟨s, h3, hs⟩ := hf 3 _ rfl rfl rfl cells_str (Opens.str enc Tryz.prog w Tryz.underlying9)
  have e0 : [c0] = [Value.int .i64 t] := h0
  have e1 : [c1] = [Value.int .i64 i] := h1
  have e2 : [c2] = [Value.bool b] := h2
  have e3 : [c3] = [Value.string s] := h3
  cases e0; cases e1; cases e2; cases e3
  exact ⟨⟨t, i, b, s⟩, rfl, hs⟩

theorem Opens.instr : Opens enc Tryz.prog w 50 Kd.ins (fun _ => True) := by
  intro fuel cs d ps hd hw
  obtain ⟨hl, hf⟩ := field_open enc Tryz.prog w Tryz.underlying50 hd hw
  obtain ⟨c0, c1, rfl⟩ := list2 (hl.trans cellsI)
  obtain ⟨c, h0, _⟩ := hf 0 _ rfl rfl rfl cells_cod (Opens.int enc Tryz.prog w Tryz.underlying48)
  obtain ⟨n, h1, _⟩ := hf 1 _ rfl rfl rfl cells_int (Opens.int enc Tryz.prog w Tryz.underlying3)
  have e0 : [c0] = [Value.int .i64 c] := h0
  have e1 : [c1] = [Value.int .i64 n] := h1
  cases e0; cases e1
  exact ⟨(c, n), rfl, trivial⟩

theorem Opens.proc : Opens enc Tryz.prog w 45 Kd.prc (fun p => p.params.length * 8 ≤ 140737488351232 ∧ p.code.length * 16 ≤ 140737488351232) := by
  intro fuel cs d ps hd hw
  obtain ⟨hl, hf⟩ := field_open enc Tryz.prog w Tryz.underlying45 hd hw
  obtain ⟨c0, c1, c2, c3, c4, c5, rfl⟩ := list6 (hl.trans cellsP)
  obtain ⟨nm, h0, _⟩ := hf 0 _ rfl rfl rfl cells_str (Opens.str enc Tryz.prog w Tryz.underlying9)
  obtain ⟨ex, h1, _⟩ := hf 1 _ rfl rfl rfl cells_bool (Opens.bool enc Tryz.prog w Tryz.underlying4)
  obtain ⟨pr, h2, hp⟩ := hf 2 _ rfl rfl rfl cells_lt (Opens.slice enc Tryz.prog w Tryz.underlying31 (k := Kd.int .i64) cells_typ (by decide) bytes_typ (Opens.int enc Tryz.prog w Tryz.underlying42))
  obtain ⟨lo, h3, _⟩ := hf 3 _ rfl rfl rfl cells_int (Opens.int enc Tryz.prog w Tryz.underlying3)
  obtain ⟨re, h4, _⟩ := hf 4 _ rfl rfl rfl cells_typ (Opens.int enc Tryz.prog w Tryz.underlying42)
  obtain ⟨co, h5, hc⟩ := hf 5 _ rfl rfl rfl cells_li (Opens.slice enc Tryz.prog w Tryz.underlying43 (k := Kd.ins) cellsI (by decide) bytesI (Opens.instr enc w))
  obtain ⟨PA, pc, h2', _, hPA⟩ := h2
  obtain ⟨CA, cc, h5', _, hCA⟩ := h5
  have e0 : [c0] = [Value.string nm] := h0
  have e1 : [c1] = [Value.bool ex] := h1
  have e2 : [c2] = [Value.slice PA pr.length pc] := h2'
  have e3 : [c3] = [Value.int .i64 lo] := h3
  have e4 : [c4] = [Value.int .i64 re] := h4
  have e5 : [c5] = [Value.slice CA co.length cc] := h5'
  cases e0; cases e1; cases e2; cases e3; cases e4; cases e5
  exact ⟨⟨nm, ex, pr, lo, re, co⟩, ⟨PA, pc, CA, cc, rfl, hPA, hCA⟩, hp.1, hc.1⟩


theorem open_ins {v : Value} {d : DataW H} {ps : List MemPlace} {base : Nat} (hval : Value.okWide Tryz.prog w .any base 43 v) (hd : DataW.Trod enc Tryz.prog w 0 (fun _ => true) true 43 v d ps) (hw : ∀ n ∈ d.weights Tryz.prog 43, n ≤ reachBytes) :
    ∃ (x : List (Int × Int)) (A : Option Addr) (c : Nat), v = .slice A x.length c ∧ Sl Kd.ins (Gw w) A x ∧ x.length ≤ c ∧ x.length * 16 ≤ 140737488351232 := by
  obtain ⟨A, c, x, h1, h2, h3, h4, _⟩ := open_sliceK enc Tryz.prog w Tryz.underlying43 (k := Kd.ins) cellsI (by decide) bytesI (Opens.instr enc w) hval hd hw
  exact ⟨x, A, c, h1, h3, h2, h4⟩
theorem open_strs {v : Value} {d : DataW H} {ps : List MemPlace} {base : Nat} (hval : Value.okWide Tryz.prog w .any base 59 v) (hd : DataW.Trod enc Tryz.prog w 0 (fun _ => true) true 59 v d ps) (hw : ∀ n ∈ d.weights Tryz.prog 59, n ≤ reachBytes) :
    ∃ (x : List ByteArray) (A : Option Addr) (c : Nat), v = .slice A x.length c ∧ Sl Kd.str (Gw w) A x ∧ x.length ≤ c ∧ (x.length * 16 ≤ 140737488351232 ∧ ∀ s ∈ x, s.size ≤ 140737488351232) := by
  obtain ⟨A, c, x, h1, h2, h3, h4, h5⟩ := open_sliceK enc Tryz.prog w Tryz.underlying59 (k := Kd.str) cells_str (by decide) bytes_str (Opens.str enc Tryz.prog w Tryz.underlying9) hval hd hw
  exact ⟨x, A, c, h1, h3, h2, h4, h5⟩
theorem open_bytes {v : Value} {d : DataW H} {ps : List MemPlace} {base : Nat} (hval : Value.okWide Tryz.prog w .any base 65 v) (hd : DataW.Trod enc Tryz.prog w 0 (fun _ => true) true 65 v d ps) (hw : ∀ n ∈ d.weights Tryz.prog 65, n ≤ reachBytes) :
    ∃ (x : List Int) (A : Option Addr) (c : Nat), v = .slice A x.length c ∧ Sl (Kd.int .u8) (Gw w) A x ∧ x.length ≤ c ∧ (x.length ≤ 140737488351232 ∧ ∀ z ∈ x, (Lit.int .u8 z).wf = true) := by
  obtain ⟨A, c, x, h1, h2, h3, h4, h5⟩ := open_sliceK enc Tryz.prog w Tryz.underlying65 (k := Kd.int .u8) cells_u8 (by decide) bytes_u8 (Opens.int enc Tryz.prog w Tryz.underlying5) hval hd hw
  exact ⟨x, A, c, h1, h3, h2, by omega, h5⟩
end

/-! #### what is compared -/
attribute [local irreducible] Tryz.prog
theorem sameBytes_fn (G : Gh) (A B : Option Addr) (l : List Int) (ca cb : Nat) (x y : Own) (hx : BVec A l ca x) (hy : BVec B l cb y) :
    Fn Tryz.prog 31 #[.slice A l.length ca, .slice B l.length cb] G [x, y] fun e G' H' => e = .returned (.bool true) ∧ G = G' ∧ H' = [x, y] := by
  refine Fn.enter Tryz.func31 rfl rfl fun w0 => ?_
  have nx : A = none → l.length = 0 := fun h => by rcases hx.2 with ⟨_, h1, _⟩ | ⟨b, c, h1, _⟩; exact h1; rw [h1] at h; cases h
  have ny : B = none → l.length = 0 := fun h => by rcases hy.2 with ⟨_, h1, _⟩ | ⟨b, c, h1, _⟩; exact h1; rw [h1] at h; cases h
  refine gom ?_
  refine WL.v (Gv.convBytes rfl (hx.rds .here) nx) (by kernel_rfl) rfl ?_
  refine gom ?_
  refine WL.v (Gv.convBytes rfl (hy.rds (.there .here)) ny) (by kernel_rfl) rfl ?_
  refine gom ?_
  have e1 : (strOfNums l == strOfNums l) = true := by rw [bytes_beq]; simp
  rw [e1]
  refine gom ?_
  refine WC.ret ?_
  refine WK.un ?_
  exact QF.p1 (.inl rfl) rfl (.tmp rfl) (⟨rfl, rfl, rfl⟩)
theorem sameInstrs_fn (G : Gh) (A B : Option Addr) (l m : List (Int × Int)) (ca cb : Nat) (ha : Sl Kd.ins G A l) (hb : Sl Kd.ins G B m) (hl : l.length ≤ 100000000000000) :
    Fn Tryz.prog 32 #[.slice A l.length ca, .slice B m.length cb] G [] fun e G' H' => e = .returned (.bool (decide (l = m))) ∧ G = G' ∧ H' = [] := by
  refine Fn.enter Tryz.func32 rfl rfl fun w0 => ?_
  by_cases hne : l.length = m.length
  rotate_left
  · have e1 : ((l.length : Int) != (m.length : Int)) = true := by rw [bne_iff_ne]; omega
    refine gom ?_
    refine WC.ret ?_
    refine WK.un ?_
    exact QF.p1 (.inl rfl) rfl (.tmp rfl) (⟨by rw [decide_eq_false fun e => hne (by rw [e])], rfl, rfl⟩)
  have e1 : ((l.length : Int) != (m.length : Int)) = false := by rw [hne]; simp
  refine gom ?_
  refine WC.loop (X := Nat) (fun i => [(5, .int .i64 i), (0, .slice A l.length ca), (1, .slice B m.length cb)]) (fun _ => G) (fun _ => []) (fun i => l.length - i) (fun i => i ≤ l.length ∧ ∀ j, j < i → l[j]? = m[j]?) 0 ⟨Nat.zero_le _, fun j h => by omega⟩ (by exact ⟨rfl, rfl, rfl, trivial⟩) rfl (List.Sublist.refl _) fun i hx => ?_
  obtain ⟨hi, hall⟩ := hx
  by_cases hlt : i < l.length
  rotate_left
  · have e2 : decide ((i : Int) < (l.length : Int)) = false := decide_eq_false (by omega)
    have he : l = m := by
      refine List.ext_getElem? fun j => ?_
      rcases Nat.lt_or_ge j i with h | h
      · exact hall j h
      · rw [List.getElem?_eq_none (by omega), List.getElem?_eq_none (by omega)]
    refine gom ?_
    refine WC.ret ?_
    refine WK.un ?_
    exact QF.p1 (.inl rfl) rfl (.tmp rfl) (⟨by rw [decide_eq_true he], rfl, rfl⟩)
  have e2 : decide ((i : Int) < (l.length : Int)) = true := decide_eq_true (by omega)
  obtain ⟨x, hx⟩ : ∃ x, l[i]? = some x := ⟨_, List.getElem?_eq_getElem hlt⟩
  obtain ⟨y, hy⟩ : ∃ y, m[i]? = some y := ⟨_, List.getElem?_eq_getElem (by omega)⟩
  obtain ⟨ab, ao, cs1, rfl, hk1, hca⟩ := ha i x hx
  obtain ⟨bb, bo, cs2, rfl, hk2, hcb⟩ := hb i y hy
  obtain rfl : cs1 = [.int .i64 x.1, .int .i64 x.2] := hk1
  obtain rfl : cs2 = [.int .i64 y.1, .int .i64 y.2] := hk2
  have x0 : (0 : Int) ≤ i := by omega
  have x2 : (i : Int) < (l.length : Int) := by omega
  have x3 : (i : Int) < (m.length : Int) := by omega
  have x4 := wrapS i (by omega)
  by_cases hxy : x = y
  · have e3 : (!decide ((x.1, x.2) = (y.1, y.2))) = false := by simp [hxy]
    refine gom ?_
    refine WQ.tp (Gp.neIns rfl rfl) (by kernel_rfl) (by kernel_rfl) rfl ?_
    rw [e3]
    refine gom ?_
    exact WK.again (i + 1) (by omega) ⟨by omega, fun j hj => by
      rcases Nat.lt_or_ge j i with h | h
      · exact hall j h
      · obtain rfl : j = i := by omega
        rw [hx, hy, hxy]⟩ (by exact ⟨rfl, rfl, rfl, trivial⟩) rfl (List.Sublist.refl _)
  · have e3 : (!decide ((x.1, x.2) = (y.1, y.2))) = true := by rw [decide_eq_false (fun e => hxy e : ¬ ((x.1, x.2) = (y.1, y.2)))]; rfl
    refine gom ?_
    refine WQ.tp (Gp.neIns rfl rfl) (by kernel_rfl) (by kernel_rfl) rfl ?_
    rw [e3]
    refine gom ?_
    refine WC.ret ?_
    refine WK.un ?_
    exact QF.p1 (.inl rfl) rfl (.tmp rfl) (⟨by rw [decide_eq_false fun e => by rw [e, hy] at hx; exact hxy (Option.some.inj hx).symm], rfl, rfl⟩)
end Go.Proofs.YtkmigdmdppkpoaaGreatDoor.Gb
namespace Go.Proofs.YtkmigdmdppkpoaaGreatDoor.Gb
open Go Go.Proofs Go.MapKept
set_option linter.unusedVariables false
set_option linter.unusedSimpArgs false
set_option linter.unusedSectionVars false
attribute [local irreducible] Tryz.prog

/-- a number's digits -/
def decS (n : Nat) : ByteArray := ⟨(Lib.decDigits n).toArray⟩
theorem decS_lt {n : Nat} (h : n < 10) : decS n = strOfNums [((48 + n : Nat) : Int)] := by
  unfold decS strOfNums
  rw [Lib.decDigits_one h]; rfl
theorem bytes_append (a b : List UInt8) : (⟨(a ++ b).toArray⟩ : ByteArray) = ⟨a.toArray⟩ ++ ⟨b.toArray⟩ := by
  apply ByteArray.ext
  rw [ByteArray.data_append]; simp
theorem decS_ge {n : Nat} (h : ¬ n < 10) : decS n = decS (n / 10) ++ strOfNums [((48 + n % 10 : Nat) : Int)] := by
  unfold decS strOfNums
  rw [Lib.decDigits, dif_neg h, bytes_append]; rfl
theorem decS_size (n : Nat) (h : n ≤ 9223372036854775807) : (decS n).size ≤ 21 := by
  have := Lib.itoa_length_le (n : Int) (by omega) (by omega)
  rw [Lib.itoa_nonneg] at this
  unfold decS ByteArray.size
  simpa using this
theorem itoa_dec {n : Int} (h : 0 ≤ n) : (⟨(Lib.itoa n).toArray⟩ : ByteArray) = decS n.toNat := by
  obtain ⟨k, rfl⟩ : ∃ k : Nat, n = k := ⟨n.toNat, by omega⟩
  rw [Lib.itoa_nonneg]; rfl

theorem decimal_fn (G : Gh) : ∀ (n : Nat), n ≤ 2147483647 → Fn Tryz.prog 52 #[.int .i64 n] G [] fun e G' H' => e = .returned (.string (decS n)) ∧ G = G' ∧ H' = [] := by
  intro n
  induction n using Nat.strongRecOn with
  | _ n ih =>
  intro hn
  refine Fn.enter Tryz.func52 rfl rfl fun w0 => ?_
  by_cases hlt : n < 10
  · have e2 : decide ((n : Int) < 10) = true := decide_eq_true (by omega)
    have x2 : IntKind.i64.wrap (48 + (n : Int)) = ((48 + n : Nat) : Int) := by rw [wrapI (by omega) (by omega)]; rfl
    rw [decS_lt hlt]
    refine gom ?_
    refine WL.p (Gp.convTo (r := ((48 + n : Nat) : Int)) rfl (by rw [u8w, Nat.mod_eq_of_lt (by omega)])) (by kernel_rfl) rfl ?_
    refine WL.op (by kernel_rfl) (OW.buildSlice rfl (by kernel_rfl) (by kernel_rfl) (by rfl) rfl fun b8 => ?_)
    refine WL.v (Gv.convBytes (xs := [((48 + n : Nat) : Int)]) rfl (Rds.blk0 .here rfl) (fun h => by cases h)) (by kernel_rfl) rfl ?_
    refine gom ?_
    refine WC.ret ?_
    refine WK.un ?_
    exact QF.p1 (.inl rfl) rfl (.tmp rfl) (⟨rfl, rfl, rfl⟩)
  have e2 : decide ((n : Int) < 10) = false := decide_eq_false (by omega)
  have x2 : IntKind.i64.wrap (48 + ((n % 10 : Nat) : Int)) = ((48 + n % 10 : Nat) : Int) := by rw [wrapI (by omega) (by omega)]; rfl
  have hs1 := decS_size (n / 10) (by omega)
  have hs2 : (strOfNums [((48 + n % 10 : Nat) : Int)]).size = 1 := by rw [strOfNums_size]; rfl
  rw [decS_ge hlt]
  refine go ?_
  refine WC.draw mixed ?_
  refine WA.tp (i := 0) rfl (by kernel_rfl) (by kernel_rfl) rfl (Gp.move rfl) ?_
  refine WA.tp (i := 1) rfl (by kernel_rfl) (by kernel_rfl) rfl (Gp.quoTo (r := ((n / 10 : Nat) : Int)) rfl rfl (by decide) (by rw [Int.tdiv_eq_ediv_of_nonneg (by omega), wrapI (by omega) (by omega)]; omega)) ?_
  refine WA.tp (i := 3) rfl (by kernel_rfl) (by kernel_rfl) rfl (Gp.move rfl) ?_
  refine WA.tp (i := 4) rfl (by kernel_rfl) (by kernel_rfl) rfl (Gp.remTo (r := ((n % 10 : Nat) : Int)) rfl rfl (by decide) (by rw [Int.tmod_eq_emod_of_nonneg (by omega)]; omega)) ?_
  refine WA.tp (i := 5) rfl (by kernel_rfl) (by kernel_rfl) rfl (Gp.add' rfl rfl x2) ?_
  refine WA.tp (i := 6) rfl (by kernel_rfl) (by kernel_rfl) rfl (Gp.convTo (r := ((48 + n % 10 : Nat) : Int)) rfl (by rw [u8w, Nat.mod_eq_of_lt (by omega)])) ?_
  refine WA.two (i := 2) (j := 7) (by kernel_rfl) rfl rfl (by kernel_rfl) (by kernel_rfl) (OW.callK rfl (ih (n / 10) (by omega) (by omega)) rfl fun v' G' H' h hg => ?_) (OW.buildSlice rfl (by kernel_rfl) (by kernel_rfl) (by rfl) rfl fun b7 => ?_)
  · obtain ⟨he, rfl, rfl⟩ := h
    cases he
    refine WA.one (i := 7) (by kernel_rfl) rfl (by kernel_rfl) (OW.buildSlice rfl (by kernel_rfl) (by kernel_rfl) (by rfl) rfl fun b7 => ?_)
    refine WA.tv (i := 8) rfl (by kernel_rfl) (by kernel_rfl) rfl (Gv.convBytes (xs := [((48 + n % 10 : Nat) : Int)]) rfl (Rds.blk0 .here rfl) (fun h => by cases h)) ?_
    refine WA.tp (i := 9) rfl (by kernel_rfl) (by kernel_rfl) rfl (Gp.addS rfl rfl (by omega)) ?_
    refine WA.tp (i := 10) rfl (by kernel_rfl) (by kernel_rfl) rfl (Gp.assign rfl) ?_
    refine WA.done (by kernel_rfl) ?_
    refine WK.un ?_
    refine WC.ret ?_
    refine WK.un ?_
    exact QF.p1 (.inl rfl) rfl (.tmp rfl) (⟨rfl, rfl, rfl⟩)
  · refine WA.two (i := 2) (j := 8) (by kernel_rfl) rfl rfl (by kernel_rfl) (by kernel_rfl) (OW.callK rfl (ih (n / 10) (by omega) (by omega)) rfl fun v' G' H' h hg => ?_) (OW.gv (Gv.convBytes (xs := [((48 + n % 10 : Nat) : Int)]) rfl (Rds.blk0 .here rfl) (fun h => by cases h)) rfl ?_)
    · obtain ⟨he, rfl, rfl⟩ := h
      cases he
      refine WA.tv (i := 8) rfl (by kernel_rfl) (by kernel_rfl) rfl (Gv.convBytes (xs := [((48 + n % 10 : Nat) : Int)]) rfl (Rds.blk0 .here rfl) (fun h => by cases h)) ?_
      refine WA.tp (i := 9) rfl (by kernel_rfl) (by kernel_rfl) rfl (Gp.addS rfl rfl (by omega)) ?_
      refine WA.tp (i := 10) rfl (by kernel_rfl) (by kernel_rfl) rfl (Gp.assign rfl) ?_
      refine WA.done (by kernel_rfl) ?_
      refine WK.un ?_
      refine WC.ret ?_
      refine WK.un ?_
      exact QF.p1 (.inl rfl) rfl (.tmp rfl) (⟨rfl, rfl, rfl⟩)
    ·
      refine WA.one (i := 2) (by kernel_rfl) rfl (by kernel_rfl) (OW.callK rfl (ih (n / 10) (by omega) (by omega)) rfl fun v' G' H' h hg => ?_)
      obtain ⟨he, rfl, rfl⟩ := h
      cases he
      refine WA.tp (i := 9) rfl (by kernel_rfl) (by kernel_rfl) rfl (Gp.addS rfl rfl (by omega)) ?_
      refine WA.tp (i := 10) rfl (by kernel_rfl) (by kernel_rfl) rfl (Gp.assign rfl) ?_
      refine WA.done (by kernel_rfl) ?_
      refine WK.un ?_
      refine WC.ret ?_
      refine WK.un ?_
      exact QF.p1 (.inl rfl) rfl (.tmp rfl) (⟨rfl, rfl, rfl⟩)

/-! #### a line -/
def lineR (i : Int × Int) : ByteArray := if (rowC i.1).n then (rowC i.1).name ++ ⟨#[32]⟩ ++ decS i.2.toNat else (rowC i.1).name
theorem name_small (c : Int) : (rowC c).name.size ≤ 6 := by
  by_cases h : 1 ≤ c ∧ c ≤ 26
  · have hd : ∀ k : Nat, k < 26 → (rowC ((k : Int) + 1)).name.size ≤ 6 := by decide +kernel
    obtain ⟨k, rfl⟩ : ∃ k : Nat, c = (k : Int) + 1 := ⟨(c - 1).toNat, by omega⟩
    exact hd k (by omega)
  · rw [rowC_out h]; decide
theorem line_fn (G : Gh) (hE : Env G) (i : Int × Int) (h0 : 0 ≤ i.2) (h1 : i.2 ≤ 2147483647) : Fn Tryz.prog 49 #[.agg #[.int .i64 i.1, .int .i64 i.2]] G [] fun e G' H' => e = .returned (.string (lineR i)) ∧ G = G' ∧ H' = [] := by
  refine Fn.enter Tryz.func49 rfl rfl fun w0 => ?_
  refine WC.seq ?_
  refine WC.region ?_
  refine WL.op (by kernel_rfl) (OW.box rfl rfl fun b1 => ?_)
  refine go ?_
  refine WL.op (by kernel_rfl) (OW.callK rfl (rowOf_fn G i.1) rfl fun v' G' H' h hg => ?_)
  obtain ⟨he, rfl, rfl⟩ := h
  cases he
  refine WL.op (by kernel_rfl) (OW.alloc rfl fun b3 => ?_)
  have hsz := name_small i.1
  have hds := decS_size i.2.toNat (by omega)
  have h32 : ((rowC i.1).name ++ ⟨#[32]⟩).size ≤ 7 := by rw [ByteArray.size_append]; have : (⟨#[32]⟩ : ByteArray).size = 1 := rfl; omega
  have h32a : (⟨#[32]⟩ : ByteArray).size = 1 := rfl
  cases hn : (rowC i.1).n with
  | false =>
    have hr : lineR i = (rowC i.1).name := by rw [lineR, hn]; rfl
    rw [hr]
    refine go ?_
    refine WC.ret ?_
    refine WK.un ?_
    exact QF.p1 (.inl rfl) rfl (.tmp rfl) (⟨rfl, rfl, rfl⟩)
  | true =>
    have hr : lineR i = (rowC i.1).name ++ ⟨#[32]⟩ ++ decS i.2.toNat := by rw [lineR, hn]; rfl
    rw [hr, ← itoa_dec h0]
    refine go ?_
    refine WC.pick [.blk b3 (.cells #[.string (rowC i.1).name, .bool true, .int .i64 (rowC i.1).takes, .int .i64 (rowC i.1).lays] 109 (0, 0)), .blk b1 (.cells #[.int .i64 i.1, .int .i64 i.2] 50 (0, 0))] ?_
    refine WC.drawS (Hs := [.blk b3 (.cells #[.string (rowC i.1).name, .bool true, .int .i64 (rowC i.1).takes, .int .i64 (rowC i.1).lays] 109 (0, 0)), .blk b1 (.cells #[.int .i64 i.1, .int .i64 i.2] 50 (0, 0))]) mixed (by repeat (first | exact Pk.nil | exact Pk.all | exact Pk.app | exact Pk.appR | with_reducible apply Pk.na | (apply Pk.cons; (repeat first | exact .here | apply Rem.there | apply Rem.app)) | apply Pk.skip | apply Pk.skipA)) ?_
    refine WB.tp (i := 0) rfl (by kernel_rfl) (by kernel_rfl) rfl (Gp.fieldAddr rfl) ?_
    refine WB.tp (i := 3) rfl (by kernel_rfl) (by kernel_rfl) rfl (Gp.fieldAddr rfl) ?_
    (first | (refine WB.tv (i := 1) rfl (by kernel_rfl) (by kernel_rfl) rfl (Gv.load1 rfl (by (repeat first | exact .here | apply At.there)) (by first | rfl | assumption)) ?_) | (refine WB.tv (i := 1) rfl (by kernel_rfl) (by kernel_rfl) rfl (Gv.loadN rfl (by (repeat first | exact .here | apply At.there)) (by rfl) (by rfl)) ?_) | (refine WB.tv (i := 1) rfl (by kernel_rfl) (by kernel_rfl) rfl (Gv.loadG1 rfl (by assumption) rfl) ?_) | (refine WB.tv (i := 1) rfl (by kernel_rfl) (by kernel_rfl) rfl (Gv.loadG0 rfl (by assumption) rfl) ?_) | (refine WB.tv (i := 1) rfl (by kernel_rfl) (by kernel_rfl) rfl (Gv.loadGN rfl (by assumption) rfl) ?_))
    refine WB.tp (i := 2) rfl (by kernel_rfl) (by kernel_rfl) rfl (Gp.addS rfl rfl (by omega)) ?_
    (first | (refine WB.tv (i := 4) rfl (by kernel_rfl) (by kernel_rfl) rfl (Gv.load1 rfl (by (repeat first | exact .here | apply At.there)) (by first | rfl | assumption)) ?_) | (refine WB.tv (i := 4) rfl (by kernel_rfl) (by kernel_rfl) rfl (Gv.loadN rfl (by (repeat first | exact .here | apply At.there)) (by rfl) (by rfl)) ?_) | (refine WB.tv (i := 4) rfl (by kernel_rfl) (by kernel_rfl) rfl (Gv.loadG1 rfl (by assumption) rfl) ?_) | (refine WB.tv (i := 4) rfl (by kernel_rfl) (by kernel_rfl) rfl (Gv.loadG0 rfl (by assumption) rfl) ?_) | (refine WB.tv (i := 4) rfl (by kernel_rfl) (by kernel_rfl) rfl (Gv.loadGN rfl (by assumption) rfl) ?_))
    refine WB.one (i := 5) (by kernel_rfl) rfl (by kernel_rfl) (OW.callK rfl (itoa_fn G hE i.2 (by omega) (by omega)) rfl fun v' G' H' h hg => ?_)
    obtain ⟨he, rfl, rfl⟩ := h
    cases he
    refine ⟨fun w hw => hw.pk (by repeat (first | exact Pk.nil | exact Pk.all | exact Pk.app | exact Pk.appR | with_reducible apply Pk.na | (apply Pk.cons; (repeat first | exact .here | apply Rem.there | apply Rem.app)) | apply Pk.skip | apply Pk.skipA)), ?_⟩
    refine WB.tp (i := 6) rfl (by kernel_rfl) (by kernel_rfl) rfl (Gp.addS rfl rfl (by rw [itoa_dec h0]; omega)) ?_
    refine WB.tp (i := 7) rfl (by kernel_rfl) (by kernel_rfl) rfl (Gp.assign rfl) ?_
    refine WB.done (by kernel_rfl) ?_
    refine WK.un ?_
    refine WC.ret ?_
    refine WK.un ?_
    exact QF.p1 (.inl rfl) rfl (.tmp rfl) (⟨rfl, rfl, rfl⟩)
end Go.Proofs.YtkmigdmdppkpoaaGreatDoor.Gb
namespace Go.Proofs.YtkmigdmdppkpoaaGreatDoor.Gb
open Go Go.Proofs Go.MapKept
set_option linter.unusedVariables false
set_option linter.unusedSimpArgs false
set_option linter.unusedSectionVars false
attribute [local irreducible] Tryz.prog

def strV (l : List ByteArray) : List Value := l.map Value.string
abbrev TxVec (A : Option Addr) (l : List ByteArray) (cap : Nat) (x : Own) : Prop := Vec 9 1 A l.length cap (strV l) x
theorem TxVec.nil : TxVec none [] 0 (.spare 0 0 0) := ⟨rfl, .inl ⟨rfl, rfl, rfl, rfl⟩⟩
theorem strV_length (l : List ByteArray) : (strV l).length = l.length * 1 := by simp [strV]
theorem strV_one (l : List ByteArray) : (strV l).all (·.oneCell') = true := by induction l with | nil => rfl | cons b l ih => simp [strV, Value.oneCell']
theorem TxVec.snoc {A : Option Addr} {l : List ByteArray} {cap : Nat} {x : Own} {z : ByteArray} (h : Vec 9 1 A (l.length + 1) cap (strV l ++ [.string z]) x) : TxVec A (l ++ [z]) cap x := by
  unfold TxVec strV; rw [List.map_append, List.length_append]; exact h
def linesR (l : List (Int × Int)) : List ByteArray × Int := if l.all mayI then (l.map lineR, 0) else ([], 180)
theorem map_snoc {α β : Type} (f : α → β) {l : List α} {k : Nat} {x : α} (h : l[k]? = some x) : (l.take (k + 1)).map f = (l.take k).map f ++ [f x] := by
  rw [take_snoc' h, List.map_append]; rfl

theorem Lines_fn (G : Gh) (hE : Env G) (A : Option Addr) (l : List (Int × Int)) (cap : Nat) (hA : Sl Kd.ins G A l) (hl : l.length * 16 ≤ 140737488351232) :
    Fn Tryz.prog 26 #[.slice A l.length cap] G [] fun e G' H' => ∃ A' cap' x', e = .returned (.tuple #[.slice A' (linesR l).1.length cap', .int .i64 (linesR l).2]) ∧ G = G' ∧ TxVec A' (linesR l).1 cap' x' ∧ H' = [x'] := by
  refine Fn.enter Tryz.func26 rfl rfl fun w0 => ?_
  refine gom ?_
  refine WC.nothing ?_
  refine WC.loop (X := Nat × Option Addr × Nat × Own) (fun s => [(4, .slice s.2.1 ((l.take s.1).map lineR).length s.2.2.1), (7, .slice A l.length cap), (8, .int .i64 l.length), (9, .int .i64 s.1)]) (fun _ => G) (fun s => [s.2.2.2]) (fun s => l.length - s.1) (fun s => s.1 ≤ l.length ∧ TxVec s.2.1 ((l.take s.1).map lineR) s.2.2.1 s.2.2.2 ∧ ∀ j i, j < s.1 → l[j]? = some i → mayI i = true) (0, none, 0, .spare 0 0 0) ⟨Nat.zero_le _, TxVec.nil, (fun j i h => absurd h (Nat.not_lt_zero _))⟩ (by exact ⟨rfl, rfl, rfl, rfl, trivial⟩) rfl (List.Sublist.refl _) fun s hs => ?_
  obtain ⟨k, B, c, o⟩ := s
  obtain ⟨hk, hv, hall⟩ := hs
  dsimp only at hk hv hall
  have x2 := wrapS k (by omega)
  by_cases hlt : k < l.length
  rotate_left
  · have e2 : decide ((k : Int) < (l.length : Int)) = false := decide_eq_false (by omega)
    obtain rfl : k = l.length := by omega
    have hr : linesR l = ((l.take l.length).map lineR, 0) := by rw [linesR, all_of hall (by omega), if_pos rfl, List.take_length]
    rw [hr]
    refine gom ?_
    refine WC.ret ?_
    refine WK.un ?_
    exact QF.p2 (.inl rfl) rfl (.tmp rfl) (.tmp rfl) (⟨B, c, o, rfl, rfl, hv, rfl⟩)
  have e2 : decide ((k : Int) < (l.length : Int)) = true := decide_eq_true (by omega)
  obtain ⟨i, hi⟩ : ∃ i, l[k]? = some i := ⟨_, List.getElem?_eq_getElem (by omega)⟩
  obtain ⟨ib, io, ics, rfl, hik, hic⟩ := hA k i hi
  obtain rfl : ics = [.int .i64 i.1, .int .i64 i.2] := hik
  have x0 : (0 : Int) ≤ (k : Int) := by omega
  have x1' : (k : Int) < (l.length : Int) := by omega
  refine gom ?_
  refine WL.op (by kernel_rfl) (OW.alloc rfl fun b6 => ?_)
  refine gom ?_
  refine WL.op (by kernel_rfl) (OW.callK rfl (may_fn G i.1 i.2) rfl fun v' G' H' h hg => ?_)
  obtain ⟨he, rfl, rfl⟩ := h
  cases he
  cases hm : mayR i.1 i.2 with
  | false =>
    have hr : linesR l = ([], 180) := by rw [linesR, all_not hi (show mayI i = false from hm)]; rfl
    rw [hr]
    refine gom ?_
    refine WC.nothing ?_
    refine WC.ret ?_
    refine WK.un ?_
    exact QF.p2 (.inl rfl) rfl (.tmp rfl) (.tmp rfl) (⟨none, 0, _, rfl, rfl, TxVec.nil, rfl⟩)
  | true =>
  obtain ⟨b1, b2, b3, b4⟩ := mayI_bounds (i := i) hm
  have htl : ((l.take k).map lineR).length = k := by rw [List.length_map, List.length_take]; omega
  refine gom ?_
  refine WL.op (by kernel_rfl) (OW.callK rfl (line_fn G hE i b3 b4) rfl fun v' G' H' h hg => ?_)
  obtain ⟨he, rfl, rfl⟩ := h
  cases he
  refine WL.op (by kernel_rfl) (OW.buildSlice rfl (by kernel_rfl) (by kernel_rfl) (by rfl) rfl fun b19 => ?_)
  refine WL.op (by kernel_rfl) (OW.append rfl rfl (by kernel_rfl) (by kernel_rfl) hv (by (repeat first | exact .here | apply At.there)) (Rds.blk0 (cs := [.string (lineR i)]) .here rfl) rfl rfl (by dsimp only; omega) (by dsimp only; omega) rfl fun A3 c3 o3 hv3 => ?_)
  have h3 := TxVec.snoc hv3
  dsimp only at h3
  rw [← map_snoc lineR hi] at h3
  have hl3 : ((l.take k).map lineR).length + 1 = ((l.take (k + 1)).map lineR).length := by rw [map_snoc lineR hi, List.length_append]; rfl
  have hst := all_step (f := mayI) hi hall hm
  refine gom ?_
  refine WK.pick [o3] ?_
  exact WK.again (k + 1, A3, c3, o3) (by dsimp only; omega) ⟨by dsimp only; omega, h3, hst⟩ (by exact ⟨by show _ = some (Value.slice A3 _ c3); rw [← hl3]; rfl, rfl, rfl, rfl, trivial⟩) rfl (List.Sublist.refl _)

theorem rLines_fn (G : Gh) (hE : Env G) (A : Option Addr) (l : List (Int × Int)) (cap : Nat) (hA : Sl Kd.ins G A l) (hl : l.length * 16 ≤ 140737488351232) :
    Fn Tryz.prog 27 #[.slice A l.length cap] G [] fun e G' H' => ∃ A' cap' x', e = .returned (.tuple #[.slice A' (linesR l).1.length cap', .int .i64 (linesR l).2]) ∧ G.le G' ∧ TxVec A' (linesR l).1 cap' x' ∧ H' = [x'] := by
  refine Fn.enter Tryz.func27 rfl rfl fun w0 => ?_
  refine gom ?_
  refine WC.nothing ?_
  refine WC.loop (X := Nat × Option Addr × Nat × Own × Gh) (fun s => [(4, .slice s.2.1 ((l.take s.1).map lineR).length s.2.2.1), (0, .slice A l.length cap), (5, .int .i64 s.1)]) (fun s => s.2.2.2.2) (fun s => [s.2.2.2.1]) (fun s => l.length - s.1) (fun s => s.1 ≤ l.length ∧ G.le s.2.2.2.2 ∧ TxVec s.2.1 ((l.take s.1).map lineR) s.2.2.1 s.2.2.2.1 ∧ ∀ j i, j < s.1 → l[j]? = some i → mayI i = true) (0, none, 0, .spare 0 0 0, G) ⟨Nat.zero_le _, Gh.le_refl _, TxVec.nil, (fun j i h => absurd h (Nat.not_lt_zero _))⟩ (by exact ⟨rfl, rfl, rfl, trivial⟩) rfl (List.Sublist.refl _) fun s hs => ?_
  obtain ⟨k, B, c, o, G1⟩ := s
  obtain ⟨hk, hg1, hv, hall⟩ := hs
  dsimp only at hk hg1 hv hall
  have x2 := wrapS k (by omega)
  by_cases hlt : k < l.length
  rotate_left
  · have e2 : decide ((k : Int) < (l.length : Int)) = false := decide_eq_false (by omega)
    obtain rfl : k = l.length := by omega
    have hr : linesR l = ((l.take l.length).map lineR, 0) := by rw [linesR, all_of hall (by omega), if_pos rfl, List.take_length]
    rw [hr]
    refine gom ?_
    refine WC.ret ?_
    refine WK.un ?_
    exact QF.p2 (.inl rfl) rfl (.tmp rfl) (.tmp rfl) (⟨B, c, o, rfl, hg1, hv, rfl⟩)
  have e2 : decide ((k : Int) < (l.length : Int)) = true := decide_eq_true (by omega)
  obtain ⟨i, hi⟩ : ∃ i, l[k]? = some i := ⟨_, List.getElem?_eq_getElem (by omega)⟩
  obtain ⟨ib, io, ics, rfl, hik, hic0⟩ := hA k i hi
  obtain rfl : ics = [.int .i64 i.1, .int .i64 i.2] := hik
  have hic := hic0.mono hg1
  have x0 : (0 : Int) ≤ (k : Int) := by omega
  have x1' : (k : Int) < (l.length : Int) := by omega
  refine gom ?_
  refine WL.op (by kernel_rfl) (OW.callK rfl (lone_fn G1 i.1 i.2) rfl fun v' G' H' h hg => ?_)
  obtain ⟨he, rfl, rfl⟩ := h
  cases he
  cases hm : mayR i.1 i.2 with
  | false =>
    have hr : linesR l = ([], 180) := by rw [linesR, all_not hi (show mayI i = false from hm)]; rfl
    rw [hr]
    refine gom ?_
    refine WC.nothing ?_
    refine WC.ret ?_
    refine WK.un ?_
    exact QF.p2 (.inl rfl) rfl (.tmp rfl) (.tmp rfl) (⟨none, 0, _, rfl, hg1, TxVec.nil, rfl⟩)
  | true =>
  obtain ⟨b1, b2, b3, b4⟩ := mayI_bounds (i := i) hm
  have htl : ((l.take k).map lineR).length = k := by rw [List.length_map, List.length_take]; omega
  refine gom ?_
  refine WL.op (by kernel_rfl) (OW.callK rfl (rName_fn G1 i.1) rfl fun v' G' H' h hg => ?_)
  obtain ⟨he, hg2, rfl⟩ := h
  cases he
  have hg3 := Gh.le_trans hg1 hg2
  have hic2 := hic.mono hg2
  refine gom ?_
  refine WL.op (by kernel_rfl) (OW.callK rfl (numb_fn _ [] i.1) rfl fun v' G' H' h hg => ?_)
  obtain ⟨he, rfl, rfl⟩ := h
  cases he
  have hsz := name_small i.1
  have hds := decS_size i.2.toNat (by omega)
  have h32 : ((rowC i.1).name ++ ⟨#[32]⟩).size ≤ 7 := by rw [ByteArray.size_append]; have : (⟨#[32]⟩ : ByteArray).size = 1 := rfl; omega
  have h32a : (⟨#[32]⟩ : ByteArray).size = 1 := rfl
  have hst := all_step (f := mayI) hi hall hm
  cases hn : (rowC i.1).n with
  | true =>
    have hr : lineR i = (rowC i.1).name ++ ⟨#[32]⟩ ++ decS i.2.toNat := by rw [lineR, hn]; rfl
    refine gom ?_
    refine WL.p (Gp.addS rfl rfl (by omega)) (by kernel_rfl) rfl ?_
    refine gom ?_
    rw [show i.2 = ((i.2.toNat : Nat) : Int) by omega]
    refine WL.op (by kernel_rfl) (OW.callK rfl (decimal_fn _ i.2.toNat (by omega)) rfl fun v' G' H' h hg => ?_)
    obtain ⟨he, rfl, rfl⟩ := h
    cases he
    refine WL.p (Gp.addS rfl rfl (by omega)) (by kernel_rfl) rfl ?_
    rw [← hr]
    refine gom ?_
    refine WL.op (by kernel_rfl) (OW.buildSlice rfl (by kernel_rfl) (by kernel_rfl) (by rfl) rfl fun b46 => ?_)
    refine WL.op (by kernel_rfl) (OW.append rfl rfl (by kernel_rfl) (by kernel_rfl) hv (by (repeat first | exact .here | apply At.there)) (Rds.blk0 (cs := [.string (lineR i)]) .here rfl) rfl rfl (by dsimp only; omega) (by dsimp only; omega) rfl fun A3 c3 o3 hv3 => ?_)
    have h3 := TxVec.snoc hv3
    dsimp only at h3
    rw [← map_snoc lineR hi] at h3
    have hl3 : ((l.take k).map lineR).length + 1 = ((l.take (k + 1)).map lineR).length := by rw [map_snoc lineR hi, List.length_append]; rfl
    refine gom ?_
    refine WK.pick [o3] ?_
    exact WK.again (k + 1, A3, c3, o3, _) (by dsimp only; omega) ⟨by dsimp only; omega, hg3, h3, hst⟩ (by exact ⟨by show _ = some (Value.slice A3 _ c3); rw [← hl3]; rfl, rfl, rfl, trivial⟩) rfl (List.Sublist.refl _)
  | false =>
    have hr : lineR i = (rowC i.1).name := by rw [lineR, hn]; rfl
    rw [← hr]
    refine gom ?_
    refine WL.op (by kernel_rfl) (OW.buildSlice rfl (by kernel_rfl) (by kernel_rfl) (by rfl) rfl fun b46 => ?_)
    refine WL.op (by kernel_rfl) (OW.append rfl rfl (by kernel_rfl) (by kernel_rfl) hv (by (repeat first | exact .here | apply At.there)) (Rds.blk0 (cs := [.string (lineR i)]) .here rfl) rfl rfl (by dsimp only; omega) (by dsimp only; omega) rfl fun A3 c3 o3 hv3 => ?_)
    have h3 := TxVec.snoc hv3
    dsimp only at h3
    rw [← map_snoc lineR hi] at h3
    have hl3 : ((l.take k).map lineR).length + 1 = ((l.take (k + 1)).map lineR).length := by rw [map_snoc lineR hi, List.length_append]; rfl
    refine gom ?_
    refine WK.pick [o3] ?_
    exact WK.again (k + 1, A3, c3, o3, _) (by dsimp only; omega) ⟨by dsimp only; omega, hg3, h3, hst⟩ (by exact ⟨by show _ = some (Value.slice A3 _ c3); rw [← hl3]; rfl, rfl, rfl, trivial⟩) rfl (List.Sublist.refl _)

theorem TxVec.sl {G : Gh} {A : Option Addr} {l : List ByteArray} (hz : strV l = [] ∨ ∃ b, A = some ⟨b, 0, none⟩ ∧ Cs G b 0 (strV l)) : Sl Kd.str G A l := by
  rcases hz with h | ⟨b, rfl, h⟩
  · have : l = [] := by simpa [strV] using h
    subst this; exact Sl.nil _ _ _
  · exact Cs.strs h
theorem bytes_ne {x y : ByteArray} : (x != y) = !decide (x = y) := by rw [bne, bytes_beq]
theorem sameTexts_fn (G : Gh) (A B : Option Addr) (l m : List ByteArray) (ca cb : Nat) (ha : Sl Kd.str G A l) (hb : Sl Kd.str G B m) (hl : l.length ≤ 100000000000000) :
    Fn Tryz.prog 28 #[.slice A l.length ca, .slice B m.length cb] G [] fun e G' H' => e = .returned (.bool (decide (l = m))) ∧ G = G' ∧ H' = [] := by
  refine Fn.enter Tryz.func28 rfl rfl fun w0 => ?_
  by_cases hne : l.length = m.length
  rotate_left
  · have e1 : ((l.length : Int) != (m.length : Int)) = true := by rw [bne_iff_ne]; omega
    refine gom ?_
    refine WC.ret ?_
    refine WK.un ?_
    exact QF.p1 (.inl rfl) rfl (.tmp rfl) (⟨by rw [decide_eq_false fun e => hne (by rw [e])], rfl, rfl⟩)
  have e1 : ((l.length : Int) != (m.length : Int)) = false := by rw [hne]; simp
  refine gom ?_
  refine WC.loop (X := Nat) (fun i => [(5, .int .i64 i), (0, .slice A l.length ca), (1, .slice B m.length cb)]) (fun _ => G) (fun _ => []) (fun i => l.length - i) (fun i => i ≤ l.length ∧ ∀ j, j < i → l[j]? = m[j]?) 0 ⟨Nat.zero_le _, fun j h => by omega⟩ (by exact ⟨rfl, rfl, rfl, trivial⟩) rfl (List.Sublist.refl _) fun i hx => ?_
  obtain ⟨hi, hall⟩ := hx
  by_cases hlt : i < l.length
  rotate_left
  · have e2 : decide ((i : Int) < (l.length : Int)) = false := decide_eq_false (by omega)
    have he : l = m := by
      refine List.ext_getElem? fun j => ?_
      rcases Nat.lt_or_ge j i with h | h
      · exact hall j h
      · rw [List.getElem?_eq_none (by omega), List.getElem?_eq_none (by omega)]
    refine gom ?_
    refine WC.ret ?_
    refine WK.un ?_
    exact QF.p1 (.inl rfl) rfl (.tmp rfl) (⟨by rw [decide_eq_true he], rfl, rfl⟩)
  have e2 : decide ((i : Int) < (l.length : Int)) = true := decide_eq_true (by omega)
  obtain ⟨x, hx⟩ : ∃ x, l[i]? = some x := ⟨_, List.getElem?_eq_getElem hlt⟩
  obtain ⟨y, hy⟩ : ∃ y, m[i]? = some y := ⟨_, List.getElem?_eq_getElem (by omega)⟩
  obtain ⟨ab, ao, cs1, rfl, hk1, hca⟩ := ha i x hx
  obtain ⟨bb, bo, cs2, rfl, hk2, hcb⟩ := hb i y hy
  obtain rfl : cs1 = [.string x] := hk1
  obtain rfl : cs2 = [.string y] := hk2
  have x0 : (0 : Int) ≤ i := by omega
  have x2 : (i : Int) < (l.length : Int) := by omega
  have x3 : (i : Int) < (m.length : Int) := by omega
  have x4 := wrapS i (by omega)
  by_cases hxy : x = y
  · have e3 : (!(x == y)) = false := by rw [bytes_beq, decide_eq_true hxy]; rfl
    refine gom ?_
    rw [e3]
    refine gom ?_
    exact WK.again (i + 1) (by omega) ⟨by omega, fun j hj => by
      rcases Nat.lt_or_ge j i with h | h
      · exact hall j h
      · obtain rfl : j = i := by omega
        rw [hx, hy, hxy]⟩ (by exact ⟨rfl, rfl, rfl, trivial⟩) rfl (List.Sublist.refl _)
  · have e3 : (!(x == y)) = true := by rw [bytes_beq, decide_eq_false hxy]; rfl
    refine gom ?_
    rw [e3]
    refine gom ?_
    refine WC.ret ?_
    refine WK.un ?_
    exact QF.p1 (.inl rfl) rfl (.tmp rfl) (⟨by rw [decide_eq_false fun e => by rw [e, hy] at hx; exact hxy (Option.some.inj hx).symm], rfl, rfl⟩)
theorem linesR_len (l : List (Int × Int)) : (linesR l).1.length ≤ l.length := by
  unfold linesR
  split
  · rw [List.length_map]; exact Nat.le_refl _
  · exact Nat.zero_le _
theorem codeLines_fn (G : Gh) (hE : Env G) (A : Option Addr) (l : List (Int × Int)) (cap : Nat) (hA : Sl Kd.ins G A l) (hl : l.length * 16 ≤ 140737488351232) :
    Fn Tryz.prog 6 #[.slice A l.length cap] G [] fun e G' H' => e = .returned (.bool true) ∧ G.le G' ∧ H' = [] := by
  refine Fn.enter Tryz.func6 rfl rfl fun w0 => ?_
  refine gom ?_
  refine WL.op (by kernel_rfl) (OW.callK rfl (Lines_fn G hE A l cap hA hl) rfl fun v' G' H' h hg => ?_)
  obtain ⟨A2, c2, x2, he, rfl, h2, rfl⟩ := h
  cases he
  refine WL.frozenVec h2 (by (repeat first | exact .here | apply At.there)) fun G1 hg1 hz1 => ?_
  have hs1 := TxVec.sl hz1
  refine gom ?_
  refine WL.op (by kernel_rfl) (OW.callK rfl (rLines_fn G1 (hE.mono hg1) A l cap (hA.mono hg1) hl) rfl fun v' G' H' h hg => ?_)
  obtain ⟨A3, c3, x3, he, hg2, h3, rfl⟩ := h
  cases he
  refine WL.frozenVec h3 (by (repeat first | exact .here | apply At.there)) fun G2 hg3 hz2 => ?_
  have hs2 := TxVec.sl hz2
  have hg4 := Gh.le_trans hg1 (Gh.le_trans hg2 hg3)
  have hll := linesR_len l
  refine gom ?_
  refine WL.op (by kernel_rfl) (OW.callK rfl (sameTexts_fn G2 A2 A3 (linesR l).1 (linesR l).1 c2 c3 (hs1.mono (Gh.le_trans hg2 hg3)) hs2 (by omega)) rfl fun v' G' H' h hg => ?_)
  obtain ⟨he, rfl, rfl⟩ := h
  cases he
  rw [decide_eq_true rfl]
  have e1 : ((linesR l).2 == (linesR l).2) = true := by simp
  refine gom ?_
  refine WL.op (by kernel_rfl) (OW.callK rfl (awake_fn _ (hE.mono hg4)) rfl fun v' G' H' h hg => ?_)
  obtain ⟨he, hg5, rfl⟩ := h
  cases he
  refine gom ?_
  refine WC.ret ?_
  refine WK.un ?_
  exact QF.p1 (.inl rfl) rfl (.tmp rfl) (⟨rfl, Gh.le_trans hg4 hg5, rfl⟩)
end Go.Proofs.YtkmigdmdppkpoaaGreatDoor.Gb
namespace Go.Proofs.YtkmigdmdppkpoaaGreatDoor.Gb
open Go Go.Proofs
set_option linter.unusedVariables false
set_option linter.unusedSimpArgs false
set_option linter.unusedSectionVars false
attribute [local irreducible] Tryz.prog

/-- a row's wrap: what is listed, what the world's shape gives, and the weights -/
theorem handed_all {H : Type} {enc : TypeId × Value → H} {a : Assume} {C : Checked} {os : Os} {f : FuncId} {fn : Func} {s : ChangeSpec} {conds : List PathCond} {apart fresh handsOn again : Bool} {X : World → Prop}
    (hX : ∀ (w w' : World), w.heap = w'.heap → X w → X w')
    (own : ownKnob C.prog.godebug = none) (started : os.Started) (noInit : C.prog.inits.idxOf? f = none) (hfn : C.prog.funcs[f]? = some fn)
    (witness : ∃ (w : World) (tape : Tape) (i : Input), w.os = os ∧ (w.forCall tape i).Shaped C.prog ∧ i.vars = [] ∧ Input.okWide C.prog (w.forCall tape i) .any w.heap.size f i ∧
      ((s.pre enc C.prog fn conds apart (w.forCall tape i).memory i.args ∧ X (w.forCall tape i).memory) ∧ sizedMet enc C.prog fn (OpenSpec.ofChange s) apart (w.forCall tape i).memory i.args) ∧ a.holds C.prog (lone (Frame.enter C.prog f i.args .normal) [] (w.forCall tape i)))
    (contract : ∀ (W : World) (base : Nat) (args : Array Value) (ds gs : List (DataW H)) (before : List MemPlace),
      (∀ (j : Nat) t v, fn.params[j]? = some t → args[j]? = some v → Value.okWide C.prog W .any base t v) →
      DataW.Whole enc C.prog fn.params.toList s.vars apart W args.toList ds gs before →
      (DataW.weightsEach C.prog (fn.params.toList ++ s.plain.varTypes C.prog) (ds ++ gs)).all (· ≤ reachBytes) = true → X W → W.ShapedOpen C.prog →
      Calls C.prog f args W fun e W' => ∃ v, e = .returned v ∧ s.post enc C.prog fn apart fresh handsOn again W args v W') :
    ReturnsInHanded a C os f .any (fun w args => (s.pre enc C.prog fn conds apart w args ∧ X w) ∧ sizedMet enc C.prog fn (OpenSpec.ofChange s) apart w args) (s.post enc C.prog fn apart fresh handsOn again) := by
  refine returnsInHanded_of_calls own started noInit witness ?_
  intro w tape i _ hsh _ hok hpre hholds
  obtain ⟨_, _, _, fn', hfn', _, _, _, _, hval⟩ := hok
  obtain rfl : fn' = fn := Option.some.inj (hfn'.symm.trans hfn)
  obtain ⟨⟨⟨ds, gs, before, hw, hc⟩, hx⟩, hz⟩ := hpre
  have hw' := DataW.Whole.of_heap (w' := w.forCall tape i) (by rfl) hw
  refine (contract (w.forCall tape i) w.heap.size i.args ds gs before hval hw' (hz.weights hw) (hX _ _ (by rfl) hx) hsh).mono fun e W' ⟨v, he, hp⟩ => ?_
  subst he
  exact ChangeSpec.post_blind hp

theorem gSyn : Tryz.prog.globalNamed "strconv.ErrSyntax" = some 1 := by kernel_rfl
theorem gRng : Tryz.prog.globalNamed "strconv.ErrRange" = some 2 := by kernel_rfl
theorem cell_of_iface {W : World} {n nm : String} {g t : Nat} {ms : Array (String × TypeId)} {d : DataW Unit} (hg : Tryz.prog.globalNamed n = some g) (ht : (Tryz.prog.globals[g]?).map (·.type) = some t) (hu : Tryz.prog.underlying t = some (.interface ms)) (h : Lib.VarReads Tryz.prog W n (.iface nm d)) :
    ∃ te pe, Gw W g 0 = some (.iface te pe) := by
  obtain ⟨g', t', cs, fuel, p, h1, h2, h3, h4⟩ := h
  obtain rfl := Option.some.inj (hg.symm.trans h1)
  obtain rfl := Option.some.inj (ht.symm.trans h2)
  obtain ⟨_, u, v, hc, _⟩ := iface_of_trod hu h4
  refine ⟨u, v, ?_⟩
  have := World.var?_cell h1 h3 0
  unfold Gw
  rw [this, ← Array.getElem?_toList, hc]; rfl
theorem tSyn : (Tryz.prog.globals[1]?).map (·.type) = some 122 := by kernel_rfl
theorem tRng : (Tryz.prog.globals[2]?).map (·.type) = some 122 := by kernel_rfl
theorem uErr : Tryz.prog.underlying 122 = some (.interface (Tryz.prog.methodsAt 122)) := by kernel_rfl
theorem tTab : (Tryz.prog.globals[3]?).map (·.type) = some 246 := by kernel_rfl
theorem ex_of {W : World} (h : Lib.VarReads Tryz.prog W "internal/strconv.uint64pow10" Rows.laid_internal_strconv_uint64pow10) : Ex (covs []) W := by
  obtain ⟨g', t', cs, fuel, p, h1, h2, h3, h4⟩ := h
  obtain rfl := Option.some.inj (gTab.symm.trans h1)
  obtain rfl := Option.some.inj (tTab.symm.trans h2)
  have hc := Lib.cells_of_tab (k := .u64) (zs := Lib.pow10Tab) (show Tryz.prog.underlying 246 = some (.array 20 117) by kernel_rfl) (by kernel_rfl) (by kernel_rfl) (by kernel_rfl) h4
  intro q hq
  obtain rfl : q = (3, _) := by simpa [exL] using hq
  refine ⟨?_, fun o ⟨x, hx, _⟩ => by cases hx⟩
  unfold World.var? at h3
  rw [gTab] at h3
  simp only [Option.bind_some] at h3
  cases ho : W.heap[3]? with
  | none => rw [ho] at h3; cases h3
  | some ob =>
    rw [ho] at h3
    cases ob <;> simp at h3
    rename_i c T fr
    subst h3
    exact ⟨T, fr, by rw [show c = (Lib.pow10Tab.map fun z => Value.int .u64 z).toArray from Array.toList_inj.1 hc]; rfl⟩
theorem env_of {W : World} (h1 : Lib.VarReads Tryz.prog W "strconv.ErrSyntax" Rows.laid_strconv_ErrSyntax) (h2 : Lib.VarReads Tryz.prog W "strconv.ErrRange" Rows.laid_strconv_ErrRange) (hs : W.ShapedOpen Tryz.prog) : Env (Gw W) where
  syn := cell_of_iface gSyn tSyn uErr h1
  rng := cell_of_iface gRng tRng uErr h2
  mxl := by
    have h := cell_of_shapedOpen_int (P := Tryz.prog) (w := W) (g := 0) (t := 3) (zero := #[.int .i64 0]) (k := .i64) hs (of_decide_eq_true (by kernel_rfl)) (by kernel_rfl) rfl (by kernel_rfl) (by kernel_rfl) (by kernel_rfl)
    obtain ⟨m, hm⟩ := h
    exact ⟨m, hm⟩
end Go.Proofs.YtkmigdmdppkpoaaGreatDoor.Gb
namespace Go.Proofs.YtkmigdmdppkpoaaGreatDoor.codeLines
open Go Go.Proofs Go.ChangeShapes Go.WideShapes Go.ChangeAt Go.RowKit Go.ChangeMaps
set_option linter.unusedVariables false
attribute [local irreducible] Tryz.prog
theorem walk (W : World) (hE : Gb.Env (Gb.Gw W)) (hX : Gb.Ex (Gb.covs []) W) (x : List (Int × Int)) (A : Option Addr) (c : Nat) (hA : Gb.Sl Gb.Kd.ins (Gb.Gw W) A x) (hl : x.length ≤ c) (hx : x.length * 16 ≤ 140737488351232) :
    Calls Tryz.prog 6 #[.slice A x.length c] W fun e W' => e = .returned (.bool true) ∧ Gb.Kept W W' :=
  (Gb.codeLines_fn (Gb.Gw W) hE A x c hA hx).keptG (R' := fun e => e = .returned (.bool true)) (fun e G' H' h => h.1) (Gb.Sat.whole W) hX
theorem own : ownKnob Tryz.prog.godebug = none := by kernel_rfl
theorem laidOut : laidOutB Tryz.prog = true := by kernel_rfl
set_option maxRecDepth 100000 in
theorem lifted (os : Os) (started : os.Started) (H : Type) (enc : TypeId × Value → H) :
    ReturnsInHanded {} Tryz.checked os 6 .any (fun w args => (Rows.codeLinesSpec.pre enc Tryz.prog Tryz.f6 [] false w args ∧ laidMetH Tryz.prog Rows.codeLinesRow.laid w) ∧ sizedMet enc Tryz.prog Tryz.f6 (OpenSpec.ofChange Rows.codeLinesSpec) false w args)
      (Rows.codeLinesSpec.post enc Tryz.prog Tryz.f6 false true false false) := by
  refine Gb.handed_all (C := Tryz.checked) (X := fun w => laidMetH Tryz.prog Rows.codeLinesRow.laid w) (fun _ _ hh h => h.of_heap hh) own started (by kernel_rfl) Tryz.func6
    (ChangeSpec.witness_shaped (enc := enc) (C := Tryz.checked) (os := os) (X := fun w _ => laidMetH Tryz.prog Rows.codeLinesRow.laid w) false (World.laidAll Tryz.prog os Rows.codeLinesRow.laid) #[.slice none 0 0] 8 (World.laidAll_os _ _ _)
      (World.shaped_of_ZipB (by kernel_rfl) (by kernel_rfl)) (by kernel_rfl) (by kernel_rfl) (by kernel_rfl)
      (by rw [MakeChecks.laidMetH_plain _ _ _ (by kernel_rfl)]; exact laidMet_laidAll _ (by kernel_rfl) (by kernel_rfl))) ?_
  intro W base args ds gs before hval0 hW hsz0 hL hsh
  rw [MakeChecks.laidMetH_plain _ _ _ (by kernel_rfl)] at hL
  have hE := Gb.env_of (Lib.laidMet.reads hL (by simp [Rows.codeLinesRow])) (Lib.laidMet.reads hL (by simp [Rows.codeLinesRow])) hsh
  have hX := Gb.ex_of (Lib.laidMet.reads hL (by simp [Rows.codeLinesRow]))
  have hsz : (DataW.weightsEach Tryz.prog (Tryz.f6.params.toList ++ Rows.codeLinesSpec.plain.varTypes Tryz.prog) (ds ++ gs)).all (· ≤ reachBytes) = true := hsz0
  have hval : ∀ (j : Nat) t v, Tryz.f6.params[j]? = some t → args[j]? = some v → Value.okWide Tryz.prog W .any base t v := hval0
  have hW' := hW
  obtain ⟨p, q, hA0, hV, rfl, hfz, hnd⟩ := hW
  have hA : DataW.TrodAll enc Tryz.prog W 0 (fun _ => true) true Tryz.f6.params.toList args.toList ds p := hA0
  rw [Tryz.params6] at hA hval hsz
  obtain ⟨v0, vs0, d0, ds0, p0, q0, hargs, rfl, rfl, h0, r0⟩ := trodAll_cons hA
  obtain ⟨rfl, rfl, rfl⟩ := trodAll_nil r0
  obtain rfl : args = #[v0] := by cases args; simp_all
  obtain ⟨rfl, rfl⟩ := trodVars_none hV
  obtain ⟨x0, A0, c0, rfl, hD0, hM0, hN0⟩ := Gb.open_ins enc W (hval 0 43 v0 rfl rfl) h0 (Gb.sized_each hsz (j := 0) rfl rfl)
  clear hA0 hval0 hsz0 hsz
  refine (walk W hE hX x0 A0 c0 hD0 hM0 hN0).mono fun e W' ⟨he, hg⟩ => ?_
  subst he
  exact ⟨_, rfl, _, _, _, [], _, [], hW', trodAll_mk1 (shut_bool Tryz.underlying4 _), (trodAll_cons_mk (Gb.Kept.trod laidOut (by kernel_rfl) (of_decide_eq_true (by kernel_rfl)) h0 hg) trodAll_mk0), rfl, hg.frame _, fun h => by cases h⟩
theorem over : Rows.codeLinesRow.holds Tryz.pinned (OpenSpec.ofChange Rows.codeLinesSpec) :=
  OpenClaim.holds_of_wide 6 Tryz.f6 rfl rfl rfl rfl rfl rfl rfl ⟨rfl, rfl, rfl, rfl, rfl⟩ rfl rfl rfl rfl rfl (by kernel_rfl) Tryz.func6 (by kernel_rfl)
    (of_decide_eq_true (by kernel_rfl)) (by unfold Func.isWrapper; first | (rw [if_pos (by decide +kernel)]; kernel_rfl) | (rw [if_neg (by decide +kernel)]; exact ⟨rfl, rfl⟩))
    (fun os started H enc _ => lifted os started H enc)
/-- the statement -/
theorem proved : Rows.CodeLinesCardSaid :=
  Claim7.holds_tied_plain_at .later [] [.data, .data, .data, .data, .sentinel, .sentinel, .pinned] true (true, "a9e86093dc3b037adfe49b333739a64217995624d394bac180cb6c8a0912fb8f") true
    over (fun _ h => by cases h) (by kernel_rfl) (fun _ h => by cases h) codeLines_row_tie rfl ⟨rfl, rfl⟩ (by kernel_rfl) rfl
    (fun f fn hf hfn => by
      obtain rfl : f = 6 := Option.some.inj ((show Tryz.prog.funcNamed "treadle/treadlelaw18.CodeLines" = some 6 by kernel_rfl).symm.trans hf) |>.symm
      obtain rfl : fn = Tryz.f6 := (Option.some.inj (Tryz.func6.symm.trans hfn)).symm
      exact ⟨by kernel_rfl, fun j t ht => by
        rw [Tryz.params6] at ht
        have hm : t ∈ [43] := by simpa using Array.mem_of_getElem? ht
        have hall : ([43].all fun u => !Tryz.prog.wantsStandIn u) = true := by kernel_rfl
        exact (show Tryz.prog.wantsStandIn t = false by simpa using List.all_eq_true.1 hall t hm)⟩)
    (by kernel_rfl)
#print axioms proved
end Go.Proofs.YtkmigdmdppkpoaaGreatDoor.codeLines
