/- Numbers in bytes: walked. Instructions in bytes: walked. Instructions in bytes: walked. Arguments of the statements about instructions: opened. Lines of instructions: walked. CodeLines: walked. A line cut at its first blank: walked. Digits and numbers (no program in sight). A line read as an instruction: what both answers say (no program in sight). A line read as an instruction: both answers agree (no program in sight). Lines read by the program: walked. Digits, as the document reads them: walked. Lines, as the document reads them: walked. CodeParses: walked. -/
import Derived.Test.YtkmigdmdppkpoaaGreatDoorUf
import Derived.Lib.ItoaLen
import Derived.Lib.AtoiAllCases
set_option linter.unusedVariables false
set_option linter.unusedSimpArgs false
set_option linter.unusedSectionVars false
namespace Go.Proofs.YtkmigdmdppkpoaaGreatDoor.Gb
open Go Go.Proofs Go.MapKept
set_option linter.unusedVariables false
set_option linter.unusedSimpArgs false
set_option linter.unusedSectionVars false

section
variable {P : Program} {Q : Exit → Act → World → Prop} {cx : Cx} {L : List (Nat × Value)} {G : Gh} {H : List Own} {K : List (Nat × Value) → Gh → List Own → Prop} {ops : Array Oper} {rest : List Oper}
  {d : Option Tmp} {ty : TypeId} {pos : String} {af : Array Edge} {gu : Option (Nat × Bool)}
/-- a list that is made with room to spare -/
theorem OW.makeSlice2 {t e n by_ : Nat} {z : Value} {x y : Operand} {k k' : IntKind} {m c : Int} (hx : ev L x = some (.int k m)) (hy : ev L y = some (.int k' c)) [hu : Und P t (.slice e)] [hi : Inf P e n by_ z] (hz : z.cells.size = n)
    (h0 : 0 ≤ m) (hmc : m ≤ c) (hb : (by_ : Int) * c ≤ 281474976710656) (h63 : c ≤ 9223372036854775807) (hd : dOk d cx.N = true)
    (kk : ∀ b x, Vec e n (some ⟨b, 0, none⟩) m.toNat c.toNat (repS m.toNat z.cells.toList) x → K (putL d (.slice (some ⟨b, 0, none⟩) m.toNat c.toNat) L) G (x :: H)) : OW P Q ⟨d, .makeSlice t x y, ty, pos, af, gu⟩ cx L G H K := by
  refine OW.gives hd fun a w st => ?_
  obtain ⟨ie, hi1, hi2, hi3, hi4⟩ := hi.info
  have hr := run_make (P := P) w t e ie z hu.h hi1 hi2 k k' m c h0 hmc (by rw [hi4]; exact hb) h63
  have hc : madeCells z.cells (c.toNat * ie.size) = (repS c.toNat z.cells.toList).toArray := by unfold madeCells; rw [hi3]; exact base_repS z.cells n c.toNat hz
  rw [hc] at hr
  have hlen : ∀ q : Nat, (repS q z.cells.toList).length = q * n := fun q => by rw [repS_length, Array.length_toList, hz]
  have htk : (repS c.toNat z.cells.toList).take (m.toNat * n) = repS m.toNat z.cells.toList := by
    obtain ⟨r, hr⟩ : ∃ r, c.toNat = m.toNat + r := ⟨c.toNat - m.toNat, by omega⟩
    rw [hr]
    have : ∀ q : Nat, repS (q + r) z.cells.toList = repS q z.cells.toList ++ repS r z.cells.toList := fun q => by
      induction q with
      | zero => rw [Nat.zero_add]; rfl
      | succ q ih => rw [show q + 1 + r = (q + r) + 1 by omega]; simp only [repS]; rw [ih, List.append_assoc]
    rw [this, List.take_append_of_le_length (by rw [hlen]; exact Nat.le_refl _), List.take_of_length_le (by rw [hlen]; exact Nat.le_refl _)]
  refine ⟨_, _, G, _, .inl ?_, st.sat.alloc _, Stp.alloc _, kk w.heap.size (.blk w.heap.size (.cells (repS c.toNat z.cells.toList).toArray e (0, 0))) ⟨hlen _, .inr ⟨_, _, rfl, rfl, by omega, by simp [hlen], by simpa using htk⟩⟩⟩
  simp only [execOp, Sem.run_bind, st.eval hx, st.eval hy, hr, Result.andThen_ok]
  rfl
end
section
variable {P : Program} {L : List (Nat × Value)} {d : Option Tmp} {ty : TypeId} {pos : String} {af : Array Edge} {gu : Option (Nat × Bool)}
theorem Gp.shrTo {t t' : TypeId} {x y : Operand} {k k' : IntKind} {m n r : Int} (hx : ev L x = some (.int k m)) (hy : ev L y = some (.int k' n)) (hn : 0 ≤ n) (hr : m / 2 ^ min n.toNat k.bits = r) : Gp P L ⟨d, .binOp .shr t x y t', ty, pos, af, gu⟩ (.int k r) :=
  fun a st w => by subst hr; simp [execOp, st.eval hx, st.eval hy, eqGuard_shr, binOp_shr, shift_shr_any k k' m n hn]
theorem Gp.orTo {t t' : TypeId} {x y : Operand} {k : IntKind} {m n r : Int} (hx : ev L x = some (.int k m)) (hy : ev L y = some (.int k n)) (hr : bits .or k m n = r) : Gp P L ⟨d, .binOp .or t x y t', ty, pos, af, gu⟩ (.int k r) := hr ▸ Gp.or hx hy
theorem Gp.convTo {s t : TypeId} {x : Operand} {k k' : IntKind} {m r : Int} {ds : TypeDesc} (hx : ev L x = some (.int k m)) [hs : Und P s ds] [ht : Und P t (.int k')] (h : k'.wrap m = r) : Gp P L ⟨d, .convert s t x, ty, pos, af, gu⟩ (.int k' r) := h ▸ Gp.convI hx
theorem Gp.remTo {t t' : TypeId} {x y : Operand} {k : IntKind} {m n r : Int} (hx : ev L x = some (.int k m)) (hy : ev L y = some (.int k n)) (hn : n ≠ 0) (h : m.tmod n = r) : Gp P L ⟨d, .binOp .rem t x y t', ty, pos, af, gu⟩ (.int k r) := h ▸ Gp.rem hx hy hn
theorem Gp.quoTo {t t' : TypeId} {x y : Operand} {k : IntKind} {m n r : Int} (hx : ev L x = some (.int k m)) (hy : ev L y = some (.int k n)) (hn : n ≠ 0) (h : k.wrap (m.tdiv n) = r) : Gp P L ⟨d, .binOp .quo t x y t', ty, pos, af, gu⟩ (.int k r) := h ▸ Gp.quo hx hy hn
end
attribute [local irreducible] Tryz.prog

/-! #### numbers in bytes -/
def uintL (n : Nat) : List Int := if h : n < 128 then [(n : Int)] else ((n % 128 + 128 : Nat) : Int) :: uintL (n / 128)
  termination_by n
  decreasing_by exact Nat.div_lt_self (by omega) (by omega)
theorem uintL_lt {n : Nat} (h : n < 128) : uintL n = [(n : Int)] := by rw [uintL, dif_pos h]
theorem uintL_ge {n : Nat} (h : ¬ n < 128) : uintL n = ((n % 128 + 128 : Nat) : Int) :: uintL (n / 128) := by rw [uintL, dif_neg h]
theorem uintL_length : ∀ (k n : Nat), n < 128 ^ (k + 1) → (uintL n).length ≤ k + 1
  | 0, n, h => by rw [uintL_lt (by simpa using h)]; simp
  | k + 1, n, h => by
    by_cases hn : n < 128
    · rw [uintL_lt hn]; simp
    · rw [uintL_ge hn, List.length_cons]
      have := uintL_length k (n / 128) (by rw [Nat.div_lt_iff_lt_mul (by decide)]; rw [Nat.pow_succ] at h; exact h)
      omega
theorem uintL_len10 {n : Nat} (h : n < 18446744073709551616) : (uintL n).length ≤ 10 := uintL_length 9 n (by omega)
theorem or128 : ∀ m : Nat, m < 256 → bits .or .u8 (m : Int) 128 = ((m % 128 + 128 : Nat) : Int) := by decide +kernel
def u8s (l : List Int) : List Value := l.map (.int .u8)
abbrev BVec (A : Option Addr) (l : List Int) (cap : Nat) (x : Own) : Prop := Vec 5 1 A l.length cap (u8s l) x
theorem BVec.nil : BVec none [] 0 (.spare 0 0 0) := ⟨rfl, .inl ⟨rfl, rfl, rfl, rfl⟩⟩
theorem u8s_length (l : List Int) : (u8s l).length = l.length * 1 := by simp [u8s]
theorem u8s_one (l : List Int) : (u8s l).all (·.oneCell') = true := by induction l with | nil => rfl | cons b l ih => simp [u8s, Value.oneCell']
theorem u8s_append (a b : List Int) : u8s (a ++ b) = u8s a ++ u8s b := by simp [u8s]
theorem BVec.snoc {A : Option Addr} {l : List Int} {cap : Nat} {x : Own} {z : Int} (h : Vec 5 1 A (l.length + 1) cap (u8s l ++ [.int .u8 z]) x) : BVec A (l ++ [z]) cap x := by
  unfold BVec; rw [u8s_append, List.length_append]; exact h
theorem u8w (m : Nat) : IntKind.u8.wrap (m : Int) = ((m % 256 : Nat) : Int) := by simp [IntKind.wrap, IntKind.signed, IntKind.bits]

theorem short_fn (G : Gh) (A : Option Addr) (l : List Int) (cap : Nat) (x : Own) (hx : BVec A l cap x) (n : Nat) (hn : n < 18446744073709551616) (hl : l.length ≤ 100000000000000) :
    Fn Tryz.prog 79 #[.slice A l.length cap, .int .u64 n] G [x] fun e G' H' => ∃ A' cap' x', e = .returned (.slice A' (l ++ uintL n).length cap') ∧ G = G' ∧ BVec A' (l ++ uintL n) cap' x' ∧ H' = [x'] := by
  refine Fn.enter Tryz.func79 rfl rfl fun w0 => ?_
  refine gom ?_
  have hlen0 := uintL_len10 hn
  refine WC.loop (X := List Int × Nat × Option Addr × Nat × Own) (fun s => [(0, .slice s.2.2.1 s.1.length s.2.2.2.1), (1, .int .u64 (s.2.1 : Int))]) (fun _ => G) (fun s => [s.2.2.2.2]) (fun s => s.2.1) (fun s => BVec s.2.2.1 s.1 s.2.2.2.1 s.2.2.2.2 ∧ s.1 ++ uintL s.2.1 = l ++ uintL n ∧ s.2.1 < 18446744073709551616) (l, n, A, cap, x) ⟨hx, rfl, hn⟩ (by exact ⟨rfl, rfl, trivial⟩) rfl (List.Sublist.refl _) fun s hs => ?_
  obtain ⟨xs, m, B, c, o⟩ := s
  obtain ⟨hv, heq, hm⟩ := hs
  dsimp only at hv heq hm
  have hlen : xs.length + (uintL m).length = l.length + (uintL n).length := by rw [← List.length_append, heq, List.length_append]
  by_cases hlt : m < 128
  · have e2 : decide ((128 : Int) ≤ (m : Int)) = false := decide_eq_false (by omega)
    rw [uintL_lt hlt] at heq hlen
    simp at hlen
    refine gom ?_
    refine WL.p (Gp.convTo (r := (m : Int)) rfl (by rw [u8w, Nat.mod_eq_of_lt (by first | omega | (dsimp only; omega))])) (by kernel_rfl) rfl ?_
    refine WL.op (by kernel_rfl) (OW.buildSlice rfl (by kernel_rfl) (by kernel_rfl) (by rfl) rfl fun b18 => ?_)
    refine WL.op (by kernel_rfl) (OW.append rfl rfl (by kernel_rfl) (by kernel_rfl) hv (by (repeat first | exact .here | apply At.there)) (Rds.blk0 (cs := [.int .u8 (m : Int)]) .here rfl) rfl rfl (by dsimp only; omega) (by dsimp only; omega) rfl fun A3 c3 o3 hv3 => ?_)
    have h3 := BVec.snoc hv3
    rw [heq] at h3
    have hl3 : xs.length + 1 = (l ++ uintL n).length := by rw [← heq, List.length_append]; rfl
    refine gom ?_
    refine WC.ret ?_
    refine WK.un ?_
    exact QF.p1 (.inl rfl) rfl (.tmp rfl) (⟨A3, c3, o3, by rw [hl3], rfl, h3, rfl⟩)
  · have e2 : decide ((128 : Int) ≤ (m : Int)) = true := decide_eq_true (by omega)
    rw [uintL_ge hlt] at heq hlen
    rw [List.length_cons] at hlen
    refine gom ?_
    refine WL.p (Gp.convTo (r := ((m % 256 : Nat) : Int)) rfl (u8w m)) (by kernel_rfl) rfl ?_
    refine WL.p (Gp.orTo (r := ((m % 128 + 128 : Nat) : Int)) rfl rfl (by rw [or128 _ (Nat.mod_lt _ (by decide)), Nat.mod_mod_of_dvd _ (by decide)])) (by kernel_rfl) rfl ?_
    refine WL.op (by kernel_rfl) (OW.buildSlice rfl (by kernel_rfl) (by kernel_rfl) (by rfl) rfl fun b13 => ?_)
    refine WL.op (by kernel_rfl) (OW.append rfl rfl (by kernel_rfl) (by kernel_rfl) hv (by (repeat first | exact .here | apply At.there)) (Rds.blk0 (cs := [.int .u8 ((m % 128 + 128 : Nat) : Int)]) .here rfl) rfl rfl (by dsimp only; omega) (by dsimp only; omega) rfl fun A3 c3 o3 hv3 => ?_)
    have h3 := BVec.snoc hv3
    refine gom ?_
    refine WL.p (Gp.shrTo (r := ((m / 128 : Nat) : Int)) rfl rfl (by decide) (by show (m : Int) / 128 = _; omega)) (by kernel_rfl) rfl ?_
    refine gom ?_
    refine WK.pick [o3] ?_
    have hl3 : xs.length + 1 = (xs ++ [((m % 128 + 128 : Nat) : Int)]).length := by rw [List.length_append]; rfl
    exact WK.again (xs ++ [((m % 128 + 128 : Nat) : Int)], m / 128, A3, c3, o3) (by dsimp only; omega) ⟨h3, by dsimp only; rw [← heq, List.append_assoc]; rfl, by dsimp only; omega⟩ (by exact ⟨by show _ = some (Value.slice A3 _ c3); rw [← hl3]; rfl, rfl, trivial⟩) rfl (List.Sublist.refl _)
theorem rUint_fn (G : Gh) (n : Nat) (hn : n < 18446744073709551616) :
    Fn Tryz.prog 54 #[.int .u64 n] G [] fun e G' H' => ∃ A' cap' x', e = .returned (.slice A' (uintL n).length cap') ∧ G = G' ∧ BVec A' (uintL n) cap' x' ∧ H' = [x'] := by
  refine Fn.enter Tryz.func54 rfl rfl fun w0 => ?_
  refine gom ?_
  refine WC.nothing ?_
  have hlen0 := uintL_len10 hn
  refine WC.loop (X := List Int × Nat × Option Addr × Nat × Own) (fun s => [(3, .slice s.2.2.1 s.1.length s.2.2.2.1), (0, .int .u64 (s.2.1 : Int))]) (fun _ => G) (fun s => [s.2.2.2.2]) (fun s => s.2.1) (fun s => BVec s.2.2.1 s.1 s.2.2.2.1 s.2.2.2.2 ∧ s.1 ++ uintL s.2.1 = uintL n ∧ s.2.1 < 18446744073709551616) ([], n, none, 0, .spare 0 0 0) ⟨BVec.nil, rfl, hn⟩ (by exact ⟨rfl, rfl, trivial⟩) rfl (List.Sublist.refl _) fun s hs => ?_
  obtain ⟨xs, m, B, c, o⟩ := s
  obtain ⟨hv, heq, hm⟩ := hs
  dsimp only at hv heq hm
  have hlen : xs.length + (uintL m).length = (uintL n).length := by rw [← List.length_append, heq]
  by_cases hlt : m < 128
  · have e2 : decide ((128 : Int) ≤ (m : Int)) = false := decide_eq_false (by omega)
    rw [uintL_lt hlt] at heq hlen
    simp at hlen
    refine gom ?_
    refine WL.p (Gp.convTo (r := (m : Int)) rfl (by rw [u8w, Nat.mod_eq_of_lt (by first | omega | (dsimp only; omega))])) (by kernel_rfl) rfl ?_
    refine WL.op (by kernel_rfl) (OW.buildSlice rfl (by kernel_rfl) (by kernel_rfl) (by rfl) rfl fun b18 => ?_)
    refine WL.op (by kernel_rfl) (OW.append rfl rfl (by kernel_rfl) (by kernel_rfl) hv (by (repeat first | exact .here | apply At.there)) (Rds.blk0 (cs := [.int .u8 (m : Int)]) .here rfl) rfl rfl (by dsimp only; omega) (by dsimp only; omega) rfl fun A3 c3 o3 hv3 => ?_)
    have h3 := BVec.snoc hv3
    rw [heq] at h3
    have hl3 : xs.length + 1 = (uintL n).length := by rw [← heq, List.length_append]; rfl
    refine gom ?_
    refine WC.ret ?_
    refine WK.un ?_
    exact QF.p1 (.inl rfl) rfl (.tmp rfl) (⟨A3, c3, o3, by rw [hl3], rfl, h3, rfl⟩)
  · have e2 : decide ((128 : Int) ≤ (m : Int)) = true := decide_eq_true (by omega)
    rw [uintL_ge hlt] at heq hlen
    rw [List.length_cons] at hlen
    have x2 : IntKind.u8.wrap (((m % 128 : Nat) : Int) + 128) = ((m % 128 + 128 : Nat) : Int) := by
      rw [show ((m % 128 : Nat) : Int) + 128 = ((m % 128 + 128 : Nat) : Int) by omega, u8w, Nat.mod_eq_of_lt (by omega)]
    refine gom ?_
    refine WL.p (Gp.remTo (r := ((m % 128 : Nat) : Int)) rfl rfl (by decide) (by dsimp only; rw [Int.tmod_eq_emod_of_nonneg (by omega)]; omega)) (by kernel_rfl) rfl ?_
    refine WL.p (Gp.convTo (r := ((m % 128 : Nat) : Int)) rfl (by rw [u8w, Nat.mod_eq_of_lt (by first | omega | (dsimp only; omega))])) (by kernel_rfl) rfl ?_
    refine gom ?_
    refine WL.op (by kernel_rfl) (OW.buildSlice rfl (by kernel_rfl) (by kernel_rfl) (by rfl) rfl fun b11 => ?_)
    refine WL.op (by kernel_rfl) (OW.append rfl rfl (by kernel_rfl) (by kernel_rfl) hv (by (repeat first | exact .here | apply At.there)) (Rds.blk0 (cs := [.int .u8 ((m % 128 + 128 : Nat) : Int)]) .here rfl) rfl rfl (by dsimp only; omega) (by dsimp only; omega) rfl fun A3 c3 o3 hv3 => ?_)
    have h3 := BVec.snoc hv3
    refine gom ?_
    refine WL.p (Gp.quoTo (r := ((m / 128 : Nat) : Int)) rfl rfl (by decide) (by dsimp only; rw [Int.tdiv_eq_ediv_of_nonneg (by omega)]; simp [IntKind.wrap, IntKind.signed, IntKind.bits]; omega)) (by kernel_rfl) rfl ?_
    refine gom ?_
    refine WK.pick [o3] ?_
    have hl3 : xs.length + 1 = (xs ++ [((m % 128 + 128 : Nat) : Int)]).length := by rw [List.length_append]; rfl
    exact WK.again (xs ++ [((m % 128 + 128 : Nat) : Int)], m / 128, A3, c3, o3) (by dsimp only; omega) ⟨h3, by dsimp only; rw [← heq, List.append_assoc]; rfl, by dsimp only; omega⟩ (by exact ⟨by show _ = some (Value.slice A3 _ c3); rw [← hl3]; rfl, rfl, trivial⟩) rfl (List.Sublist.refl _)
end Go.Proofs.YtkmigdmdppkpoaaGreatDoor.Gb
namespace Go.Proofs.YtkmigdmdppkpoaaGreatDoor.Gb
open Go Go.Proofs Go.MapKept
set_option linter.unusedVariables false
set_option linter.unusedSimpArgs false
set_option linter.unusedSectionVars false
attribute [local irreducible] Tryz.prog

theorem fresh_fn (G : Gh) (A : Option Addr) (l : List Int) (cap : Nat) (x : Own) (hx : BVec A l cap x) (hl : l.length ≤ 100000000000000) :
    Fn Tryz.prog 80 #[.slice A l.length cap, .int .i64 10] G [x] fun e G' H' => ∃ A' cap' x', e = .returned (.slice A' l.length cap') ∧ G = G' ∧ BVec A' l cap' x' ∧ H' = [x'] := by
  refine Fn.enter Tryz.func80 rfl rfl fun w0 => ?_
  have x2 : IntKind.i64.wrap ((l.length : Int) + 10) = ((l.length + 10 : Nat) : Int) := by rw [wrapI (by omega) (by omega)]; rfl
  refine gom ?_
  refine WL.op (by kernel_rfl) (OW.makeSlice2 (n := 1) (z := .int .u8 0) (m := (l.length : Int)) (c := ((l.length + 10 : Nat) : Int)) rfl rfl rfl (by omega) (by omega) (by omega) (by omega) rfl fun tb o1 ho1 => ?_)
  rw [Int.toNat_natCast, Int.toNat_natCast] at ho1 ⊢
  refine gom ?_
  refine WL.op (by kernel_rfl) (OW.copy rfl rfl (by kernel_rfl) ho1 .here (hx.rds (.there .here)) (u8s_length l) (u8s_one l) (Nat.le_refl _) rfl fun o2 ho2 => ?_)
  have h2 : BVec (some ⟨tb, 0, none⟩) l (l.length + 10) o2 := by
    unfold BVec
    rw [List.drop_eq_nil_of_le (by rw [repS_length]; exact Nat.le_refl _), List.append_nil] at ho2
    exact ho2
  refine gom ?_
  refine WC.ret ?_
  refine WK.un ?_
  exact QF.p1 (.inl rfl) rfl (.tmp rfl) (⟨_, _, o2, rfl, rfl, h2, rfl⟩)
theorem putUint_fn (G : Gh) (A : Option Addr) (l : List Int) (cap : Nat) (x : Own) (hx : BVec A l cap x) (n : Nat) (hn : n < 18446744073709551616) (hl : l.length ≤ 100000000000000) :
    Fn Tryz.prog 53 #[.slice A l.length cap, .int .u64 n] G [x] fun e G' H' => ∃ A' cap' x', e = .returned (.slice A' (l ++ uintL n).length cap') ∧ G = G' ∧ BVec A' (l ++ uintL n) cap' x' ∧ H' = [x'] := by
  refine Fn.enter Tryz.func53 rfl rfl fun w0 => ?_
  refine gom ?_
  refine WL.op (by kernel_rfl) (OW.callK rfl (fresh_fn G A l cap x hx hl) rfl fun v' G' H' h hg => ?_)
  obtain ⟨A1, c1, x1, he, rfl, h1, rfl⟩ := h
  cases he
  refine gom ?_
  refine WL.op (by kernel_rfl) (OW.callK rfl (short_fn G A1 l c1 x1 h1 n hn hl) rfl fun v' G' H' h hg => ?_)
  obtain ⟨A2, c2, x2, he, rfl, h2, rfl⟩ := h
  cases he
  refine gom ?_
  refine WC.ret ?_
  refine WK.un ?_
  exact QF.p1 (.inl rfl) rfl (.tmp rfl) (⟨_, _, x2, rfl, rfl, h2, rfl⟩)

theorem rowC_out {c : Int} (h : ¬ (1 ≤ c ∧ c ≤ 26)) : rowC c = rw0 := by
  unfold rowC
  split
  · rfl
  · rw [List.getElem?_eq_none (by show 27 ≤ c.toNat; omega)]; rfl
theorem is_row (c : Int) : (decide (1 ≤ c) && decide (c ≤ 26)) = ((rowC c).name != ⟨#[]⟩) := by
  by_cases h : 1 ≤ c ∧ c ≤ 26
  · have hd : ∀ k : Nat, k < 26 → ((rowC ((k : Int) + 1)).name != ⟨#[]⟩) = true := by decide +kernel
    obtain ⟨k, rfl⟩ : ∃ k : Nat, c = (k : Int) + 1 := ⟨(c - 1).toNat, by omega⟩
    rw [hd k (by omega), decide_eq_true h.1, decide_eq_true h.2]; rfl
  · rw [rowC_out h]
    rw [show (decide (1 ≤ c) && decide (c ≤ 26)) = false by simp; omega]; rfl
def numbR (c : Int) : Bool := c == 1 || c == 2 || c == 3 || c == 5 || c == 6 || c == 7 || c == 8
theorem numbR_row (c : Int) : numbR c = (rowC c).n := by
  by_cases h : 1 ≤ c ∧ c ≤ 26
  · have hd : ∀ k : Nat, k < 26 → numbR ((k : Int) + 1) = (rowC ((k : Int) + 1)).n := by decide +kernel
    obtain ⟨k, rfl⟩ : ∃ k : Nat, c = (k : Int) + 1 := ⟨(c - 1).toNat, by omega⟩
    exact hd k (by omega)
  · rw [rowC_out h]
    unfold numbR
    simp [rw0]; omega
theorem numb_fn (G : Gh) (H : List Own) (c : Int) : Fn Tryz.prog 51 #[.int .i64 c] G H fun e G' H' => e = .returned (.bool (rowC c).n) ∧ G = G' ∧ H' = H := by
  rw [← numbR_row]
  refine Fn.enter Tryz.func51 rfl rfl fun w0 => ?_
  unfold numbR
  cases y1 : (c == 1) with
  | true =>
    refine gom ?_
    refine WC.ret ?_
    refine WK.un ?_
    exact QF.p1 (.inl rfl) rfl (.tmp rfl) (⟨rfl, rfl, rfl⟩)
  | false =>
  cases y2 : (c == 2) with
  | true =>
    refine gom ?_
    refine WC.ret ?_
    refine WK.un ?_
    exact QF.p1 (.inl rfl) rfl (.tmp rfl) (⟨rfl, rfl, rfl⟩)
  | false =>
  cases y3 : (c == 3) with
  | true =>
    refine gom ?_
    refine WC.ret ?_
    refine WK.un ?_
    exact QF.p1 (.inl rfl) rfl (.tmp rfl) (⟨rfl, rfl, rfl⟩)
  | false =>
  cases y5 : (c == 5) with
  | true =>
    refine gom ?_
    refine WC.ret ?_
    refine WK.un ?_
    exact QF.p1 (.inl rfl) rfl (.tmp rfl) (⟨rfl, rfl, rfl⟩)
  | false =>
  cases y6 : (c == 6) with
  | true =>
    refine gom ?_
    refine WC.ret ?_
    refine WK.un ?_
    exact QF.p1 (.inl rfl) rfl (.tmp rfl) (⟨rfl, rfl, rfl⟩)
  | false =>
  cases y7 : (c == 7) with
  | true =>
    refine gom ?_
    refine WC.ret ?_
    refine WK.un ?_
    exact QF.p1 (.inl rfl) rfl (.tmp rfl) (⟨rfl, rfl, rfl⟩)
  | false =>
    refine gom ?_
    refine WC.ret ?_
    refine WK.un ?_
    exact QF.p1 (.inl rfl) rfl (.tmp rfl) (⟨by simp, rfl, rfl⟩)
theorem lone_fn (G : Gh) (c n : Int) : Fn Tryz.prog 50 #[.agg #[.int .i64 c, .int .i64 n]] G [] fun e G' H' => e = .returned (.bool (mayR c n)) ∧ G = G' ∧ H' = [] := by
  refine Fn.enter Tryz.func50 rfl rfl fun w0 => ?_
  refine WC.seq ?_
  refine WC.region ?_
  refine WL.op (by kernel_rfl) (OW.box rfl rfl fun b1 => ?_)
  refine gom ?_
  refine WL.op (by kernel_rfl) (OW.callK rfl (ris_fn G c) rfl fun v' G' H' h hg => ?_)
  obtain ⟨he, rfl, rfl⟩ := h
  cases he
  rw [is_row, mayR]
  cases hb : ((rowC c).name != ⟨#[]⟩) with
  | false =>
    refine gom ?_
    refine WC.ret ?_
    refine WK.un ?_
    exact QF.p1 (.inl rfl) rfl (.tmp rfl) (⟨by simp, rfl, rfl⟩)
  | true =>
  cases h0 : decide (0 ≤ n) with
  | false =>
    refine gom ?_
    refine WC.ret ?_
    refine WK.un ?_
    exact QF.p1 (.inl rfl) rfl (.tmp rfl) (⟨by simp, rfl, rfl⟩)
  | true =>
  cases h1 : decide (n ≤ 2147483647) with
  | false =>
    refine gom ?_
    refine WC.ret ?_
    refine WK.un ?_
    exact QF.p1 (.inl rfl) rfl (.tmp rfl) (⟨by simp, rfl, rfl⟩)
  | true =>
  refine gom ?_
  refine WL.op (by kernel_rfl) (OW.callK rfl (numb_fn G [] c) rfl fun v' G' H' h hg => ?_)
  obtain ⟨he, rfl, rfl⟩ := h
  cases he
  cases h2 : (rowC c).n with
  | true =>
    refine gom ?_
    refine WC.ret ?_
    refine WK.un ?_
    exact QF.p1 (.inl rfl) rfl (.tmp rfl) (⟨by simp, rfl, rfl⟩)
  | false =>
    refine gom ?_
    refine WC.ret ?_
    refine WK.un ?_
    exact QF.p1 (.inl rfl) rfl (.tmp rfl) (⟨by simp, rfl, rfl⟩)
end Go.Proofs.YtkmigdmdppkpoaaGreatDoor.Gb
namespace Go.Proofs.YtkmigdmdppkpoaaGreatDoor.Gb
open Go Go.Proofs Go.MapKept
set_option linter.unusedVariables false
set_option linter.unusedSimpArgs false
set_option linter.unusedSectionVars false
attribute [local irreducible] Tryz.prog

def mayI (i : Int × Int) : Bool := mayR i.1 i.2
def encI (i : Int × Int) : List Int := i.1 :: (if (rowC i.1).n then uintL i.2.toNat else [])
def encP (l : List (Int × Int)) (k : Nat) : List Int := uintL l.length ++ (l.take k).flatMap encI
def bytesR (l : List (Int × Int)) : List Int × Int := if l.all mayI then (encP l l.length, 0) else ([], 180)
theorem mayI_bounds {i : Int × Int} (h : mayI i = true) : 1 ≤ i.1 ∧ i.1 ≤ 26 ∧ 0 ≤ i.2 ∧ i.2 ≤ 2147483647 := by
  unfold mayI mayR at h
  simp only [Bool.and_eq_true, decide_eq_true_eq] at h
  obtain ⟨h1, h2, h3, _⟩ := h
  rw [← is_row] at h1
  simp at h1
  exact ⟨h1.1, h1.2, h2, h3⟩
theorem encI_length {i : Int × Int} (h : mayI i = true) : (encI i).length ≤ 6 := by
  obtain ⟨_, _, h1, h2⟩ := mayI_bounds h
  unfold encI
  rw [List.length_cons]
  split
  · have := uintL_length 4 i.2.toNat (by omega); omega
  · simp
theorem flat_le {l : List (Int × Int)} : ∀ {k : Nat}, (∀ j i, j < k → l[j]? = some i → mayI i = true) → ((l.take k).flatMap encI).length ≤ 6 * k
  | 0, _ => by simp
  | k + 1, h => by
    have ih := flat_le (l := l) (k := k) fun j i hj hi => h j i (by omega) hi
    cases hk : l[k]? with
    | none =>
      rw [List.getElem?_eq_none_iff] at hk
      rw [List.take_of_length_le (by omega), ← List.take_of_length_le hk]; omega
    | some i =>
      rw [take_snoc' hk, List.flatMap_append, List.length_append]
      have := encI_length (h k i (by omega) hk)
      simp only [List.flatMap_cons, List.flatMap_nil, List.append_nil]
      omega
theorem encP_snoc {l : List (Int × Int)} {k : Nat} {i : Int × Int} (h : l[k]? = some i) : encP l (k + 1) = encP l k ++ encI i := by
  unfold encP
  rw [take_snoc' h, List.flatMap_append, List.append_assoc]
  simp
theorem u8code {c : Int} (h : 1 ≤ c ∧ c ≤ 26) : IntKind.u8.wrap c = c := by
  obtain ⟨k, rfl⟩ : ∃ k : Nat, c = k := ⟨c.toNat, by omega⟩
  rw [u8w, Nat.mod_eq_of_lt (by omega)]
theorem u64n {n : Int} (h : 0 ≤ n ∧ n ≤ 9223372036854775807) : IntKind.u64.wrap n = ((n.toNat : Nat) : Int) := by
  obtain ⟨k, rfl⟩ : ∃ k : Nat, n = k := ⟨n.toNat, by omega⟩
  simp [IntKind.wrap, IntKind.signed, IntKind.bits]; omega

set_option maxHeartbeats 2000000 in
theorem Bytes_fn (G : Gh) (A : Option Addr) (l : List (Int × Int)) (cap : Nat) (hA : Sl Kd.ins G A l) (hl : l.length ≤ 9000000000000) :
    Fn Tryz.prog 29 #[.slice A l.length cap] G [] fun e G' H' => ∃ A' cap' x', e = .returned (.tuple #[.slice A' (bytesR l).1.length cap', .int .i64 (bytesR l).2]) ∧ G = G' ∧ BVec A' (bytesR l).1 cap' x' ∧ H' = [x'] := by
  refine Fn.enter Tryz.func29 rfl rfl fun w0 => ?_
  refine gom ?_
  refine WL.p (Gp.convTo (r := ((l.length : Nat) : Int)) rfl (by rw [u64n ⟨by omega, by omega⟩]; rfl)) (by kernel_rfl) rfl ?_
  refine WL.nothing ?_
  refine WL.op (by kernel_rfl) (OW.callK rfl (putUint_fn G none [] 0 (.spare 0 0 0) BVec.nil l.length (by omega) (by decide)) rfl fun v' G' H' h hg => ?_)
  obtain ⟨A1, c1, x1, he, rfl, h1, rfl⟩ := h
  cases he
  have hbase : [] ++ uintL l.length = encP l 0 := by simp [encP]
  rw [hbase] at h1 ⊢
  refine gom ?_
  refine WC.loop (X := Nat × Option Addr × Nat × Own) (fun s => [(4, .slice s.2.1 (encP l s.1).length s.2.2.1), (11, .slice A l.length cap), (12, .int .i64 l.length), (13, .int .i64 s.1)]) (fun _ => G) (fun s => [s.2.2.2]) (fun s => l.length - s.1) (fun s => s.1 ≤ l.length ∧ BVec s.2.1 (encP l s.1) s.2.2.1 s.2.2.2 ∧ ∀ j i, j < s.1 → l[j]? = some i → mayI i = true) (0, A1, c1, x1) ⟨Nat.zero_le _, h1, (fun j i h => absurd h (Nat.not_lt_zero _))⟩ (by exact ⟨rfl, rfl, rfl, rfl, trivial⟩) rfl (List.Sublist.refl _) fun s hs => ?_
  obtain ⟨k, B, c, o⟩ := s
  obtain ⟨hk, hv, hall⟩ := hs
  dsimp only at hk hv hall
  have x2 := wrapS k (by omega)
  by_cases hlt : k < l.length
  rotate_left
  · have e2 : decide ((k : Int) < (l.length : Int)) = false := decide_eq_false (by omega)
    obtain rfl : k = l.length := by omega
    have hr : bytesR l = (encP l l.length, 0) := by rw [bytesR, all_of hall (by omega), if_pos rfl]
    rw [hr]
    refine gom ?_
    refine WC.ret ?_
    refine WK.un ?_
    exact QF.p2 (.inl rfl) rfl (.tmp rfl) (.tmp rfl) (⟨B, c, o, rfl, rfl, hv, rfl⟩)
  have e2 : decide ((k : Int) < (l.length : Int)) = true := decide_eq_true (by omega)
  obtain ⟨i, hi⟩ : ∃ i, l[k]? = some i := ⟨_, List.getElem?_eq_getElem (by omega)⟩
  obtain ⟨ib, io, ics, rfl, hik, hic⟩ := hA k i hi
  obtain rfl : ics = [.int .i64 i.1, .int .i64 i.2] := hik
  have x0 : (0 : Int) ≤ (k : Int) := by omega
  have x1' : (k : Int) < (l.length : Int) := by omega
  refine gom ?_
  refine WL.op (by kernel_rfl) (OW.alloc rfl fun b6 => ?_)
  refine gom ?_
  refine WL.op (by kernel_rfl) (OW.callK rfl (may_fn G i.1 i.2) rfl fun v' G' H' h hg => ?_)
  obtain ⟨he, rfl, rfl⟩ := h
  cases he
  cases hm : mayR i.1 i.2 with
  | false =>
    have hr : bytesR l = ([], 180) := by rw [bytesR, all_not hi (show mayI i = false from hm)]; rfl
    rw [hr]
    refine gom ?_
    refine WC.nothing ?_
    refine WC.ret ?_
    refine WK.un ?_
    exact QF.p2 (.inl rfl) rfl (.tmp rfl) (.tmp rfl) (⟨none, 0, _, rfl, rfl, BVec.nil, rfl⟩)
  | true =>
  obtain ⟨b1, b2, b3, b4⟩ := mayI_bounds (i := i) hm
  have hle := flat_le hall
  have hlu := uintL_len10 (n := l.length) (by omega)
  have hel : (encP l k).length = (uintL l.length).length + ((l.take k).flatMap encI).length := by rw [encP, List.length_append]
  refine gom ?_
  refine WL.p (Gp.convTo (r := i.1) rfl (u8code ⟨b1, b2⟩)) (by kernel_rfl) rfl ?_
  refine WL.op (by kernel_rfl) (OW.buildSlice rfl (by kernel_rfl) (by kernel_rfl) (by rfl) rfl fun b24 => ?_)
  refine WL.op (by kernel_rfl) (OW.append rfl rfl (by kernel_rfl) (by kernel_rfl) hv (by (repeat first | exact .here | apply At.there)) (Rds.blk0 (cs := [.int .u8 i.1]) .here rfl) rfl rfl (by dsimp only; omega) (by dsimp only; omega) rfl fun A3 c3 o3 hv3 => ?_)
  have h3 := BVec.snoc hv3
  refine gom ?_
  refine WL.op (by kernel_rfl) (OW.callK rfl (rowOf_fn G i.1) rfl fun v' G' H' h hg => ?_)
  obtain ⟨he, rfl, rfl⟩ := h
  cases he
  refine WL.p (Gp.rowN (r := rowC i.1) rfl) (by kernel_rfl) rfl ?_
  have hl3 : (encP l k).length + 1 = (encP l k ++ [i.1]).length := by rw [List.length_append]; rfl
  have hst := all_step (f := mayI) hi hall hm
  cases hn : (rowC i.1).n with
  | true =>
    have hen : encP l (k + 1) = encP l k ++ [i.1] ++ uintL i.2.toNat := by rw [encP_snoc hi, encI, hn, List.append_assoc]; rfl
    refine gom ?_
    refine WL.p (Gp.convTo (r := ((i.2.toNat : Nat) : Int)) rfl (u64n ⟨b3, by omega⟩)) (by kernel_rfl) rfl ?_
    rw [hl3]
    refine WL.op (by kernel_rfl) (OW.callK rfl (putUint_fn G A3 (encP l k ++ [i.1]) c3 o3 h3 i.2.toNat (by omega) (by omega)) rfl fun v' G' H' h hg => ?_)
    obtain ⟨A4, c4, x4, he, rfl, h4, rfl⟩ := h
    cases he
    rw [← hen] at h4 ⊢
    refine gom ?_
    exact WK.again (k + 1, A4, c4, x4) (by dsimp only; omega) ⟨by dsimp only; omega, h4, hst⟩ (by exact ⟨rfl, rfl, rfl, rfl, trivial⟩) rfl (by first | exact List.Sublist.refl _ | simp)
  | false =>
    have hen : encP l (k + 1) = encP l k ++ [i.1] := by rw [encP_snoc hi, encI, hn]; rfl
    rw [← hen] at h3 hl3
    refine gom ?_
    refine WK.pick [o3] ?_
    exact WK.again (k + 1, A3, c3, o3) (by dsimp only; omega) ⟨by dsimp only; omega, h3, hst⟩ (by exact ⟨by show _ = some (Value.slice A3 _ c3); rw [← hl3]; rfl, rfl, rfl, rfl, trivial⟩) rfl (List.Sublist.refl _)

set_option maxHeartbeats 2000000 in
theorem rBytes_fn (G : Gh) (A : Option Addr) (l : List (Int × Int)) (cap : Nat) (hA : Sl Kd.ins G A l) (hl : l.length ≤ 9000000000000) :
    Fn Tryz.prog 30 #[.slice A l.length cap] G [] fun e G' H' => ∃ A' cap' x', e = .returned (.tuple #[.slice A' (bytesR l).1.length cap', .int .i64 (bytesR l).2]) ∧ G = G' ∧ BVec A' (bytesR l).1 cap' x' ∧ H' = [x'] := by
  refine Fn.enter Tryz.func30 rfl rfl fun w0 => ?_
  refine gom ?_
  refine WL.p (Gp.convTo (r := ((l.length : Nat) : Int)) rfl (by rw [u64n ⟨by omega, by omega⟩]; rfl)) (by kernel_rfl) rfl ?_
  refine WL.op (by kernel_rfl) (OW.callK rfl (rUint_fn G l.length (by omega)) rfl fun v' G' H' h hg => ?_)
  obtain ⟨A1, c1, x1, he, rfl, h1, rfl⟩ := h
  cases he
  have hbase : uintL l.length = encP l 0 := by simp [encP]
  rw [hbase] at h1 ⊢
  refine gom ?_
  refine WC.loop (X := Nat × Option Addr × Nat × Own) (fun s => [(4, .slice s.2.1 (encP l s.1).length s.2.2.1), (0, .slice A l.length cap), (5, .int .i64 s.1)]) (fun _ => G) (fun s => [s.2.2.2]) (fun s => l.length - s.1) (fun s => s.1 ≤ l.length ∧ BVec s.2.1 (encP l s.1) s.2.2.1 s.2.2.2 ∧ ∀ j i, j < s.1 → l[j]? = some i → mayI i = true) (0, A1, c1, x1) ⟨Nat.zero_le _, h1, (fun j i h => absurd h (Nat.not_lt_zero _))⟩ (by exact ⟨rfl, rfl, rfl, trivial⟩) rfl (List.Sublist.refl _) fun s hs => ?_
  obtain ⟨k, B, c, o⟩ := s
  obtain ⟨hk, hv, hall⟩ := hs
  dsimp only at hk hv hall
  have x2 := wrapS k (by omega)
  by_cases hlt : k < l.length
  rotate_left
  · have e2 : decide ((k : Int) < (l.length : Int)) = false := decide_eq_false (by omega)
    obtain rfl : k = l.length := by omega
    have hr : bytesR l = (encP l l.length, 0) := by rw [bytesR, all_of hall (by omega), if_pos rfl]
    rw [hr]
    refine gom ?_
    refine WC.ret ?_
    refine WK.un ?_
    exact QF.p2 (.inl rfl) rfl (.tmp rfl) (.tmp rfl) (⟨B, c, o, rfl, rfl, hv, rfl⟩)
  have e2 : decide ((k : Int) < (l.length : Int)) = true := decide_eq_true (by omega)
  obtain ⟨i, hi⟩ : ∃ i, l[k]? = some i := ⟨_, List.getElem?_eq_getElem (by omega)⟩
  obtain ⟨ib, io, ics, rfl, hik, hic⟩ := hA k i hi
  obtain rfl : ics = [.int .i64 i.1, .int .i64 i.2] := hik
  have x0 : (0 : Int) ≤ (k : Int) := by omega
  have x1' : (k : Int) < (l.length : Int) := by omega
  refine gom ?_
  refine WL.op (by kernel_rfl) (OW.callK rfl (lone_fn G i.1 i.2) rfl fun v' G' H' h hg => ?_)
  obtain ⟨he, rfl, rfl⟩ := h
  cases he
  cases hm : mayR i.1 i.2 with
  | false =>
    have hr : bytesR l = ([], 180) := by rw [bytesR, all_not hi (show mayI i = false from hm)]; rfl
    rw [hr]
    refine gom ?_
    refine WC.nothing ?_
    refine WC.ret ?_
    refine WK.un ?_
    exact QF.p2 (.inl rfl) rfl (.tmp rfl) (.tmp rfl) (⟨none, 0, _, rfl, rfl, BVec.nil, rfl⟩)
  | true =>
  obtain ⟨b1, b2, b3, b4⟩ := mayI_bounds (i := i) hm
  have hle := flat_le hall
  have hlu := uintL_len10 (n := l.length) (by omega)
  have hel : (encP l k).length = (uintL l.length).length + ((l.take k).flatMap encI).length := by rw [encP, List.length_append]
  refine gom ?_
  refine WL.p (Gp.convTo (r := i.1) rfl (u8code ⟨b1, b2⟩)) (by kernel_rfl) rfl ?_
  refine WL.op (by kernel_rfl) (OW.buildSlice rfl (by kernel_rfl) (by kernel_rfl) (by rfl) rfl fun b29 => ?_)
  refine WL.op (by kernel_rfl) (OW.append rfl rfl (by kernel_rfl) (by kernel_rfl) hv (by (repeat first | exact .here | apply At.there)) (Rds.blk0 (cs := [.int .u8 i.1]) .here rfl) rfl rfl (by dsimp only; omega) (by dsimp only; omega) rfl fun A3 c3 o3 hv3 => ?_)
  have h3 := BVec.snoc hv3
  refine gom ?_
  refine WL.op (by kernel_rfl) (OW.callK rfl (numb_fn G [] i.1) rfl fun v' G' H' h hg => ?_)
  obtain ⟨he, rfl, rfl⟩ := h
  cases he
  have hl3 : (encP l k).length + 1 = (encP l k ++ [i.1]).length := by rw [List.length_append]; rfl
  have hst := all_step (f := mayI) hi hall hm
  cases hn : (rowC i.1).n with
  | true =>
    have hen : encP l (k + 1) = encP l k ++ [i.1] ++ uintL i.2.toNat := by rw [encP_snoc hi, encI, hn, List.append_assoc]; rfl
    have hlu2 := uintL_len10 (n := i.2.toNat) (by omega)
    refine gom ?_
    refine WL.p (Gp.convTo (r := ((i.2.toNat : Nat) : Int)) rfl (u64n ⟨b3, by omega⟩)) (by kernel_rfl) rfl ?_
    refine WL.op (by kernel_rfl) (OW.callK rfl (rUint_fn G i.2.toNat (by omega)) rfl fun v' G' H' h hg => ?_)
    obtain ⟨A4, c4, x4, he, rfl, h4, rfl⟩ := h
    cases he
    rw [hl3]
    refine WL.op (by kernel_rfl) (OW.append rfl rfl (by kernel_rfl) (by kernel_rfl) h3 (by (repeat first | exact .here | apply At.there)) (h4.rds .here) (u8s_length _) (u8s_one _) (by first | omega | (dsimp only; omega)) (by first | omega | (dsimp only; omega)) rfl fun A5 c5 o5 hv5 => ?_)
    have h5 : BVec A5 (encP l (k + 1)) c5 o5 := by
      rw [hen]; unfold BVec; rw [u8s_append, List.length_append]; exact hv5
    have hl5 : (encP l k ++ [i.1]).length + (uintL i.2.toNat).length = (encP l (k + 1)).length := by rw [hen]; exact (List.length_append ..).symm
    refine gom ?_
    refine WK.pick [o5] ?_
    exact WK.again (k + 1, A5, c5, o5) (by dsimp only; omega) ⟨by dsimp only; omega, h5, hst⟩ (by exact ⟨by show _ = some (Value.slice A5 _ c5); rw [← hl5]; rfl, rfl, rfl, trivial⟩) rfl (List.Sublist.refl _)
  | false =>
    have hen : encP l (k + 1) = encP l k ++ [i.1] := by rw [encP_snoc hi, encI, hn]; rfl
    rw [← hen] at h3 hl3
    refine gom ?_
    refine WK.pick [o3] ?_
    exact WK.again (k + 1, A3, c3, o3) (by dsimp only; omega) ⟨by dsimp only; omega, h3, hst⟩ (by exact ⟨by show _ = some (Value.slice A3 _ c3); rw [← hl3]; rfl, rfl, rfl, trivial⟩) rfl (List.Sublist.refl _)
end Go.Proofs.YtkmigdmdppkpoaaGreatDoor.Gb
namespace Go.Proofs.YtkmigdmdppkpoaaGreatDoor.Gb
open Go Go.Proofs Go.RowKit Go.ChangeShapes Go.WideShapes Go.MapKept
set_option linter.unusedVariables false
set_option linter.unusedSimpArgs false
set_option linter.unusedSectionVars false

theorem list2 {α : Type} {l : List α} (h : l.length = 2) : ∃ a b, l = [a, b] := match l, h with | [a, b], _ => ⟨a, b, rfl⟩
theorem list3 {α : Type} {l : List α} (h : l.length = 3) : ∃ a b c, l = [a, b, c] := match l, h with | [a, b, c], _ => ⟨a, b, c, rfl⟩
theorem list4 {α : Type} {l : List α} (h : l.length = 4) : ∃ a b c d, l = [a, b, c, d] := match l, h with | [a, b, c, d], _ => ⟨a, b, c, d, rfl⟩
theorem list6 {α : Type} {l : List α} (h : l.length = 6) : ∃ a b c d e f, l = [a, b, c, d, e, f] := match l, h with | [a, b, c, d, e, f], _ => ⟨a, b, c, d, e, f, rfl⟩
theorem cellsV : Tryz.prog.cellsOf 99 = 4 := by kernel_rfl
theorem cellsI : Tryz.prog.cellsOf 50 = 2 := by kernel_rfl
theorem cellsP : Tryz.prog.cellsOf 45 = 6 := by kernel_rfl
theorem cells_int : Tryz.prog.cellsOf 3 = 1 := by kernel_rfl
theorem cells_typ : Tryz.prog.cellsOf 42 = 1 := by kernel_rfl
theorem cells_cod : Tryz.prog.cellsOf 48 = 1 := by kernel_rfl
theorem cells_i64 : Tryz.prog.cellsOf 2 = 1 := by kernel_rfl
theorem cells_bool : Tryz.prog.cellsOf 4 = 1 := by kernel_rfl
theorem cells_str : Tryz.prog.cellsOf 9 = 1 := by kernel_rfl
theorem cells_lv : Tryz.prog.cellsOf 22 = 1 := by kernel_rfl
theorem cells_lp : Tryz.prog.cellsOf 24 = 1 := by kernel_rfl
theorem cells_li : Tryz.prog.cellsOf 43 = 1 := by kernel_rfl
theorem cells_lt : Tryz.prog.cellsOf 31 = 1 := by kernel_rfl
theorem bytes_typ : Tryz.prog.bytesOf 42 = 8 := by kernel_rfl
theorem bytesI : Tryz.prog.bytesOf 50 = 16 := by kernel_rfl
theorem bytesV : Tryz.prog.bytesOf 99 = 40 := by kernel_rfl
theorem bytesP : Tryz.prog.bytesOf 45 = 88 := by kernel_rfl
theorem cells_u8 : Tryz.prog.cellsOf 5 = 1 := by kernel_rfl
theorem bytes_u8 : Tryz.prog.bytesOf 5 = 1 := by kernel_rfl
theorem bytes_str : Tryz.prog.bytesOf 9 = 16 := by kernel_rfl

section
attribute [local irreducible] Tryz.prog
variable {H : Type} (enc : TypeId × Value → H) (w : World)

theorem Opens.value : Opens enc Tryz.prog w 99 Kd.val (fun v => v.s.size ≤ 140737488351232) := by
  intro fuel cs d ps hd hw
  obtain ⟨hl, hf⟩ := field_open enc Tryz.prog w Tryz.underlying99 hd hw
  obtain ⟨c0, c1, c2, c3, rfl⟩ := list4 (hl.trans cellsV)
  obtain ⟨t, h0, _⟩ := hf 0 _ rfl rfl rfl cells_typ (Opens.int enc Tryz.prog w Tryz.underlying42)
  obtain ⟨i, h1, _⟩ := hf 1 _ rfl rfl rfl cells_i64 (Opens.int enc Tryz.prog w Tryz.underlying2)
  obtain ⟨b, h2, _⟩ := hf 2 _ rfl rfl rfl cells_bool (Opens.bool enc Tryz.prog w Tryz.underlying4)
  obtain ⟨s, h3, hs⟩ := hf 3 _ rfl rfl rfl cells_str (Opens.str enc Tryz.prog w Tryz.underlying9)
  have e0 : [c0] = [Value.int .i64 t] := h0
  have e1 : [c1] = [Value.int .i64 i] := h1
  have e2 : [c2] = [Value.bool b] := h2
  have e3 : [c3] = [Value.string s] := h3
  cases e0; cases e1; cases e2; cases e3
  exact ⟨⟨t, i, b, s⟩, rfl, hs⟩

theorem Opens.instr : Opens enc Tryz.prog w 50 Kd.ins (fun _ => True) := by
  intro fuel cs d ps hd hw
  obtain ⟨hl, hf⟩ := field_open enc Tryz.prog w Tryz.underlying50 hd hw
  obtain ⟨c0, c1, rfl⟩ := list2 (hl.trans cellsI)
  obtain ⟨c, h0, _⟩ := hf 0 _ rfl rfl rfl cells_cod (Opens.int enc Tryz.prog w Tryz.underlying48)
  obtain ⟨n, h1, _⟩ := hf 1 _ rfl rfl rfl cells_int (Opens.int enc Tryz.prog w Tryz.underlying3)
  have e0 : [c0] = [Value.int .i64 c] := h0
  have e1 : [c1] = [Value.int .i64 n] := h1
  cases e0; cases e1
  exact ⟨(c, n), rfl, trivial⟩

theorem Opens.proc : Opens enc Tryz.prog w 45 Kd.prc (fun p => p.params.length * 8 ≤ 140737488351232 ∧ p.code.length * 16 ≤ 140737488351232) := by
  intro fuel cs d ps hd hw
  obtain ⟨hl, hf⟩ := field_open enc Tryz.prog w Tryz.underlying45 hd hw
  obtain ⟨c0, c1, c2, c3, c4, c5, rfl⟩ := list6 (hl.trans cellsP)
  obtain ⟨nm, h0, _⟩ := hf 0 _ rfl rfl rfl cells_str (Opens.str enc Tryz.prog w Tryz.underlying9)
  obtain ⟨ex, h1, _⟩ := hf 1 _ rfl rfl rfl cells_bool (Opens.bool enc Tryz.prog w Tryz.underlying4)
  obtain ⟨pr, h2, hp⟩ := hf 2 _ rfl rfl rfl cells_lt (Opens.slice enc Tryz.prog w Tryz.underlying31 (k := Kd.int .i64) cells_typ (by decide) bytes_typ (Opens.int enc Tryz.prog w Tryz.underlying42))
  obtain ⟨lo, h3, _⟩ := hf 3 _ rfl rfl rfl cells_int (Opens.int enc Tryz.prog w Tryz.underlying3)
  obtain ⟨re, h4, _⟩ := hf 4 _ rfl rfl rfl cells_typ (Opens.int enc Tryz.prog w Tryz.underlying42)
  obtain ⟨co, h5, hc⟩ := hf 5 _ rfl rfl rfl cells_li (Opens.slice enc Tryz.prog w Tryz.underlying43 (k := Kd.ins) cellsI (by decide) bytesI (Opens.instr enc w))
  obtain ⟨PA, pc, h2', _, hPA⟩ := h2
  obtain ⟨CA, cc, h5', _, hCA⟩ := h5
  have e0 : [c0] = [Value.string nm] := h0
  have e1 : [c1] = [Value.bool ex] := h1
  have e2 : [c2] = [Value.slice PA pr.length pc] := h2'
  have e3 : [c3] = [Value.int .i64 lo] := h3
  have e4 : [c4] = [Value.int .i64 re] := h4
  have e5 : [c5] = [Value.slice CA co.length cc] := h5'
  cases e0; cases e1; cases e2; cases e3; cases e4; cases e5
  exact ⟨⟨nm, ex, pr, lo, re, co⟩, ⟨PA, pc, CA, cc, rfl, hPA, hCA⟩, hp.1, hc.1⟩


theorem open_ins {v : Value} {d : DataW H} {ps : List MemPlace} {base : Nat} (hval : Value.okWide Tryz.prog w .any base 43 v) (hd : DataW.Trod enc Tryz.prog w 0 (fun _ => true) true 43 v d ps) (hw : ∀ n ∈ d.weights Tryz.prog 43, n ≤ reachBytes) :
    ∃ (x : List (Int × Int)) (A : Option Addr) (c : Nat), v = .slice A x.length c ∧ Sl Kd.ins (Gw w) A x ∧ x.length ≤ c ∧ x.length * 16 ≤ 140737488351232 := by
  obtain ⟨A, c, x, h1, h2, h3, h4, _⟩ := open_sliceK enc Tryz.prog w Tryz.underlying43 (k := Kd.ins) cellsI (by decide) bytesI (Opens.instr enc w) hval hd hw
  exact ⟨x, A, c, h1, h3, h2, h4⟩
theorem open_strs {v : Value} {d : DataW H} {ps : List MemPlace} {base : Nat} (hval : Value.okWide Tryz.prog w .any base 59 v) (hd : DataW.Trod enc Tryz.prog w 0 (fun _ => true) true 59 v d ps) (hw : ∀ n ∈ d.weights Tryz.prog 59, n ≤ reachBytes) :
    ∃ (x : List ByteArray) (A : Option Addr) (c : Nat), v = .slice A x.length c ∧ Sl Kd.str (Gw w) A x ∧ x.length ≤ c ∧ (x.length * 16 ≤ 140737488351232 ∧ ∀ s ∈ x, s.size ≤ 140737488351232) := by
  obtain ⟨A, c, x, h1, h2, h3, h4, h5⟩ := open_sliceK enc Tryz.prog w Tryz.underlying59 (k := Kd.str) cells_str (by decide) bytes_str (Opens.str enc Tryz.prog w Tryz.underlying9) hval hd hw
  exact ⟨x, A, c, h1, h3, h2, h4, h5⟩
theorem open_bytes {v : Value} {d : DataW H} {ps : List MemPlace} {base : Nat} (hval : Value.okWide Tryz.prog w .any base 65 v) (hd : DataW.Trod enc Tryz.prog w 0 (fun _ => true) true 65 v d ps) (hw : ∀ n ∈ d.weights Tryz.prog 65, n ≤ reachBytes) :
    ∃ (x : List Int) (A : Option Addr) (c : Nat), v = .slice A x.length c ∧ Sl (Kd.int .u8) (Gw w) A x ∧ x.length ≤ c ∧ (x.length ≤ 140737488351232 ∧ ∀ z ∈ x, (Lit.int .u8 z).wf = true) := by
  obtain ⟨A, c, x, h1, h2, h3, h4, h5⟩ := open_sliceK enc Tryz.prog w Tryz.underlying65 (k := Kd.int .u8) cells_u8 (by decide) bytes_u8 (Opens.int enc Tryz.prog w Tryz.underlying5) hval hd hw
  exact ⟨x, A, c, h1, h3, h2, by omega, h5⟩
end

/-! #### what is compared -/
attribute [local irreducible] Tryz.prog
theorem sameBytes_fn (G : Gh) (A B : Option Addr) (l : List Int) (ca cb : Nat) (x y : Own) (hx : BVec A l ca x) (hy : BVec B l cb y) :
    Fn Tryz.prog 31 #[.slice A l.length ca, .slice B l.length cb] G [x, y] fun e G' H' => e = .returned (.bool true) ∧ G = G' ∧ H' = [x, y] := by
  refine Fn.enter Tryz.func31 rfl rfl fun w0 => ?_
  have nx : A = none → l.length = 0 := fun h => by rcases hx.2 with ⟨_, h1, _⟩ | ⟨b, c, h1, _⟩; exact h1; rw [h1] at h; cases h
  have ny : B = none → l.length = 0 := fun h => by rcases hy.2 with ⟨_, h1, _⟩ | ⟨b, c, h1, _⟩; exact h1; rw [h1] at h; cases h
  refine gom ?_
  refine WL.v (Gv.convBytes rfl (hx.rds .here) nx) (by kernel_rfl) rfl ?_
  refine gom ?_
  refine WL.v (Gv.convBytes rfl (hy.rds (.there .here)) ny) (by kernel_rfl) rfl ?_
  refine gom ?_
  have e1 : (strOfNums l == strOfNums l) = true := by rw [bytes_beq]; simp
  rw [e1]
  refine gom ?_
  refine WC.ret ?_
  refine WK.un ?_
  exact QF.p1 (.inl rfl) rfl (.tmp rfl) (⟨rfl, rfl, rfl⟩)
theorem sameInstrs_fn (G : Gh) (A B : Option Addr) (l m : List (Int × Int)) (ca cb : Nat) (ha : Sl Kd.ins G A l) (hb : Sl Kd.ins G B m) (hl : l.length ≤ 100000000000000) :
    Fn Tryz.prog 32 #[.slice A l.length ca, .slice B m.length cb] G [] fun e G' H' => e = .returned (.bool (decide (l = m))) ∧ G = G' ∧ H' = [] := by
  refine Fn.enter Tryz.func32 rfl rfl fun w0 => ?_
  by_cases hne : l.length = m.length
  rotate_left
  · have e1 : ((l.length : Int) != (m.length : Int)) = true := by rw [bne_iff_ne]; omega
    refine gom ?_
    refine WC.ret ?_
    refine WK.un ?_
    exact QF.p1 (.inl rfl) rfl (.tmp rfl) (⟨by rw [decide_eq_false fun e => hne (by rw [e])], rfl, rfl⟩)
  have e1 : ((l.length : Int) != (m.length : Int)) = false := by rw [hne]; simp
  refine gom ?_
  refine WC.loop (X := Nat) (fun i => [(5, .int .i64 i), (0, .slice A l.length ca), (1, .slice B m.length cb)]) (fun _ => G) (fun _ => []) (fun i => l.length - i) (fun i => i ≤ l.length ∧ ∀ j, j < i → l[j]? = m[j]?) 0 ⟨Nat.zero_le _, fun j h => by omega⟩ (by exact ⟨rfl, rfl, rfl, trivial⟩) rfl (List.Sublist.refl _) fun i hx => ?_
  obtain ⟨hi, hall⟩ := hx
  by_cases hlt : i < l.length
  rotate_left
  · have e2 : decide ((i : Int) < (l.length : Int)) = false := decide_eq_false (by omega)
    have he : l = m := by
      refine List.ext_getElem? fun j => ?_
      rcases Nat.lt_or_ge j i with h | h
      · exact hall j h
      · rw [List.getElem?_eq_none (by omega), List.getElem?_eq_none (by omega)]
    refine gom ?_
    refine WC.ret ?_
    refine WK.un ?_
    exact QF.p1 (.inl rfl) rfl (.tmp rfl) (⟨by rw [decide_eq_true he], rfl, rfl⟩)
  have e2 : decide ((i : Int) < (l.length : Int)) = true := decide_eq_true (by omega)
  obtain ⟨x, hx⟩ : ∃ x, l[i]? = some x := ⟨_, List.getElem?_eq_getElem hlt⟩
  obtain ⟨y, hy⟩ : ∃ y, m[i]? = some y := ⟨_, List.getElem?_eq_getElem (by omega)⟩
  obtain ⟨ab, ao, cs1, rfl, hk1, hca⟩ := ha i x hx
  obtain ⟨bb, bo, cs2, rfl, hk2, hcb⟩ := hb i y hy
  obtain rfl : cs1 = [.int .i64 x.1, .int .i64 x.2] := hk1
  obtain rfl : cs2 = [.int .i64 y.1, .int .i64 y.2] := hk2
  have x0 : (0 : Int) ≤ i := by omega
  have x2 : (i : Int) < (l.length : Int) := by omega
  have x3 : (i : Int) < (m.length : Int) := by omega
  have x4 := wrapS i (by omega)
  by_cases hxy : x = y
  · have e3 : (!decide ((x.1, x.2) = (y.1, y.2))) = false := by simp [hxy]
    refine gom ?_
    refine WQ.tp (Gp.neIns rfl rfl) (by kernel_rfl) (by kernel_rfl) rfl ?_
    rw [e3]
    refine gom ?_
    exact WK.again (i + 1) (by omega) ⟨by omega, fun j hj => by
      rcases Nat.lt_or_ge j i with h | h
      · exact hall j h
      · obtain rfl : j = i := by omega
        rw [hx, hy, hxy]⟩ (by exact ⟨rfl, rfl, rfl, trivial⟩) rfl (List.Sublist.refl _)
  · have e3 : (!decide ((x.1, x.2) = (y.1, y.2))) = true := by rw [decide_eq_false (fun e => hxy e : ¬ ((x.1, x.2) = (y.1, y.2)))]; rfl
    refine gom ?_
    refine WQ.tp (Gp.neIns rfl rfl) (by kernel_rfl) (by kernel_rfl) rfl ?_
    rw [e3]
    refine gom ?_
    refine WC.ret ?_
    refine WK.un ?_
    exact QF.p1 (.inl rfl) rfl (.tmp rfl) (⟨by rw [decide_eq_false fun e => by rw [e, hy] at hx; exact hxy (Option.some.inj hx).symm], rfl, rfl⟩)
end Go.Proofs.YtkmigdmdppkpoaaGreatDoor.Gb
namespace Go.Proofs.YtkmigdmdppkpoaaGreatDoor.Gb
open Go Go.Proofs Go.MapKept
set_option linter.unusedVariables false
set_option linter.unusedSimpArgs false
set_option linter.unusedSectionVars false
attribute [local irreducible] Tryz.prog

/-- a number's digits -/
def decS (n : Nat) : ByteArray := ⟨(Lib.decDigits n).toArray⟩
theorem decS_lt {n : Nat} (h : n < 10) : decS n = strOfNums [((48 + n : Nat) : Int)] := by
  unfold decS strOfNums
  rw [Lib.decDigits_one h]; rfl
theorem bytes_append (a b : List UInt8) : (⟨(a ++ b).toArray⟩ : ByteArray) = ⟨a.toArray⟩ ++ ⟨b.toArray⟩ := by
  apply ByteArray.ext
  rw [ByteArray.data_append]; simp
theorem decS_ge {n : Nat} (h : ¬ n < 10) : decS n = decS (n / 10) ++ strOfNums [((48 + n % 10 : Nat) : Int)] := by
  unfold decS strOfNums
  rw [Lib.decDigits, dif_neg h, bytes_append]; rfl
theorem decS_size (n : Nat) (h : n ≤ 9223372036854775807) : (decS n).size ≤ 21 := by
  have := Lib.itoa_length_le (n : Int) (by omega) (by omega)
  rw [Lib.itoa_nonneg] at this
  unfold decS ByteArray.size
  simpa using this
theorem itoa_dec {n : Int} (h : 0 ≤ n) : (⟨(Lib.itoa n).toArray⟩ : ByteArray) = decS n.toNat := by
  obtain ⟨k, rfl⟩ : ∃ k : Nat, n = k := ⟨n.toNat, by omega⟩
  rw [Lib.itoa_nonneg]; rfl

theorem decimal_fn (G : Gh) : ∀ (n : Nat), n ≤ 2147483647 → Fn Tryz.prog 52 #[.int .i64 n] G [] fun e G' H' => e = .returned (.string (decS n)) ∧ G = G' ∧ H' = [] := by
  intro n
  induction n using Nat.strongRecOn with
  | _ n ih =>
  intro hn
  refine Fn.enter Tryz.func52 rfl rfl fun w0 => ?_
  by_cases hlt : n < 10
  · have e2 : decide ((n : Int) < 10) = true := decide_eq_true (by omega)
    have x2 : IntKind.i64.wrap (48 + (n : Int)) = ((48 + n : Nat) : Int) := by rw [wrapI (by omega) (by omega)]; rfl
    rw [decS_lt hlt]
    refine gom ?_
    refine WL.p (Gp.convTo (r := ((48 + n : Nat) : Int)) rfl (by rw [u8w, Nat.mod_eq_of_lt (by omega)])) (by kernel_rfl) rfl ?_
    refine WL.op (by kernel_rfl) (OW.buildSlice rfl (by kernel_rfl) (by kernel_rfl) (by rfl) rfl fun b8 => ?_)
    refine WL.v (Gv.convBytes (xs := [((48 + n : Nat) : Int)]) rfl (Rds.blk0 .here rfl) (fun h => by cases h)) (by kernel_rfl) rfl ?_
    refine gom ?_
    refine WC.ret ?_
    refine WK.un ?_
    exact QF.p1 (.inl rfl) rfl (.tmp rfl) (⟨rfl, rfl, rfl⟩)
  have e2 : decide ((n : Int) < 10) = false := decide_eq_false (by omega)
  have x2 : IntKind.i64.wrap (48 + ((n % 10 : Nat) : Int)) = ((48 + n % 10 : Nat) : Int) := by rw [wrapI (by omega) (by omega)]; rfl
  have hs1 := decS_size (n / 10) (by omega)
  have hs2 : (strOfNums [((48 + n % 10 : Nat) : Int)]).size = 1 := by rw [strOfNums_size]; rfl
  rw [decS_ge hlt]
  refine go ?_
  refine WC.draw mixed ?_
  refine WA.tp (i := 0) rfl (by kernel_rfl) (by kernel_rfl) rfl (Gp.move rfl) ?_
  refine WA.tp (i := 1) rfl (by kernel_rfl) (by kernel_rfl) rfl (Gp.quoTo (r := ((n / 10 : Nat) : Int)) rfl rfl (by decide) (by rw [Int.tdiv_eq_ediv_of_nonneg (by omega), wrapI (by omega) (by omega)]; omega)) ?_
  refine WA.tp (i := 3) rfl (by kernel_rfl) (by kernel_rfl) rfl (Gp.move rfl) ?_
  refine WA.tp (i := 4) rfl (by kernel_rfl) (by kernel_rfl) rfl (Gp.remTo (r := ((n % 10 : Nat) : Int)) rfl rfl (by decide) (by rw [Int.tmod_eq_emod_of_nonneg (by omega)]; omega)) ?_
  refine WA.tp (i := 5) rfl (by kernel_rfl) (by kernel_rfl) rfl (Gp.add' rfl rfl x2) ?_
  refine WA.tp (i := 6) rfl (by kernel_rfl) (by kernel_rfl) rfl (Gp.convTo (r := ((48 + n % 10 : Nat) : Int)) rfl (by rw [u8w, Nat.mod_eq_of_lt (by omega)])) ?_
  refine WA.two (i := 2) (j := 7) (by kernel_rfl) rfl rfl (by kernel_rfl) (by kernel_rfl) (OW.callK rfl (ih (n / 10) (by omega) (by omega)) rfl fun v' G' H' h hg => ?_) (OW.buildSlice rfl (by kernel_rfl) (by kernel_rfl) (by rfl) rfl fun b7 => ?_)
  · obtain ⟨he, rfl, rfl⟩ := h
    cases he
    refine WA.one (i := 7) (by kernel_rfl) rfl (by kernel_rfl) (OW.buildSlice rfl (by kernel_rfl) (by kernel_rfl) (by rfl) rfl fun b7 => ?_)
    refine WA.tv (i := 8) rfl (by kernel_rfl) (by kernel_rfl) rfl (Gv.convBytes (xs := [((48 + n % 10 : Nat) : Int)]) rfl (Rds.blk0 .here rfl) (fun h => by cases h)) ?_
    refine WA.tp (i := 9) rfl (by kernel_rfl) (by kernel_rfl) rfl (Gp.addS rfl rfl (by omega)) ?_
    refine WA.tp (i := 10) rfl (by kernel_rfl) (by kernel_rfl) rfl (Gp.assign rfl) ?_
    refine WA.done (by kernel_rfl) ?_
    refine WK.un ?_
    refine WC.ret ?_
    refine WK.un ?_
    exact QF.p1 (.inl rfl) rfl (.tmp rfl) (⟨rfl, rfl, rfl⟩)
  · refine WA.two (i := 2) (j := 8) (by kernel_rfl) rfl rfl (by kernel_rfl) (by kernel_rfl) (OW.callK rfl (ih (n / 10) (by omega) (by omega)) rfl fun v' G' H' h hg => ?_) (OW.gv (Gv.convBytes (xs := [((48 + n % 10 : Nat) : Int)]) rfl (Rds.blk0 .here rfl) (fun h => by cases h)) rfl ?_)
    · obtain ⟨he, rfl, rfl⟩ := h
      cases he
      refine WA.tv (i := 8) rfl (by kernel_rfl) (by kernel_rfl) rfl (Gv.convBytes (xs := [((48 + n % 10 : Nat) : Int)]) rfl (Rds.blk0 .here rfl) (fun h => by cases h)) ?_
      refine WA.tp (i := 9) rfl (by kernel_rfl) (by kernel_rfl) rfl (Gp.addS rfl rfl (by omega)) ?_
      refine WA.tp (i := 10) rfl (by kernel_rfl) (by kernel_rfl) rfl (Gp.assign rfl) ?_
      refine WA.done (by kernel_rfl) ?_
      refine WK.un ?_
      refine WC.ret ?_
      refine WK.un ?_
      exact QF.p1 (.inl rfl) rfl (.tmp rfl) (⟨rfl, rfl, rfl⟩)
    ·
      refine WA.one (i := 2) (by kernel_rfl) rfl (by kernel_rfl) (OW.callK rfl (ih (n / 10) (by omega) (by omega)) rfl fun v' G' H' h hg => ?_)
      obtain ⟨he, rfl, rfl⟩ := h
      cases he
      refine WA.tp (i := 9) rfl (by kernel_rfl) (by kernel_rfl) rfl (Gp.addS rfl rfl (by omega)) ?_
      refine WA.tp (i := 10) rfl (by kernel_rfl) (by kernel_rfl) rfl (Gp.assign rfl) ?_
      refine WA.done (by kernel_rfl) ?_
      refine WK.un ?_
      refine WC.ret ?_
      refine WK.un ?_
      exact QF.p1 (.inl rfl) rfl (.tmp rfl) (⟨rfl, rfl, rfl⟩)

/-! #### a line -/
def lineR (i : Int × Int) : ByteArray := if (rowC i.1).n then (rowC i.1).name ++ ⟨#[32]⟩ ++ decS i.2.toNat else (rowC i.1).name
theorem name_small (c : Int) : (rowC c).name.size ≤ 6 := by
  by_cases h : 1 ≤ c ∧ c ≤ 26
  · have hd : ∀ k : Nat, k < 26 → (rowC ((k : Int) + 1)).name.size ≤ 6 := by decide +kernel
    obtain ⟨k, rfl⟩ : ∃ k : Nat, c = (k : Int) + 1 := ⟨(c - 1).toNat, by omega⟩
    exact hd k (by omega)
  · rw [rowC_out h]; decide
theorem line_fn (G : Gh) (hE : Env G) (i : Int × Int) (h0 : 0 ≤ i.2) (h1 : i.2 ≤ 2147483647) : Fn Tryz.prog 49 #[.agg #[.int .i64 i.1, .int .i64 i.2]] G [] fun e G' H' => e = .returned (.string (lineR i)) ∧ G = G' ∧ H' = [] := by
  refine Fn.enter Tryz.func49 rfl rfl fun w0 => ?_
  refine WC.seq ?_
  refine WC.region ?_
  refine WL.op (by kernel_rfl) (OW.box rfl rfl fun b1 => ?_)
  refine go ?_
  refine WL.op (by kernel_rfl) (OW.callK rfl (rowOf_fn G i.1) rfl fun v' G' H' h hg => ?_)
  obtain ⟨he, rfl, rfl⟩ := h
  cases he
  refine WL.op (by kernel_rfl) (OW.alloc rfl fun b3 => ?_)
  have hsz := name_small i.1
  have hds := decS_size i.2.toNat (by omega)
  have h32 : ((rowC i.1).name ++ ⟨#[32]⟩).size ≤ 7 := by rw [ByteArray.size_append]; have : (⟨#[32]⟩ : ByteArray).size = 1 := rfl; omega
  have h32a : (⟨#[32]⟩ : ByteArray).size = 1 := rfl
  cases hn : (rowC i.1).n with
  | false =>
    have hr : lineR i = (rowC i.1).name := by rw [lineR, hn]; rfl
    rw [hr]
    refine go ?_
    refine WC.ret ?_
    refine WK.un ?_
    exact QF.p1 (.inl rfl) rfl (.tmp rfl) (⟨rfl, rfl, rfl⟩)
  | true =>
    have hr : lineR i = (rowC i.1).name ++ ⟨#[32]⟩ ++ decS i.2.toNat := by rw [lineR, hn]; rfl
    rw [hr, ← itoa_dec h0]
    refine go ?_
    refine WC.pick [.blk b3 (.cells #[.string (rowC i.1).name, .bool true, .int .i64 (rowC i.1).takes, .int .i64 (rowC i.1).lays] 109 (0, 0)), .blk b1 (.cells #[.int .i64 i.1, .int .i64 i.2] 50 (0, 0))] ?_
    refine WC.drawS (Hs := [.blk b3 (.cells #[.string (rowC i.1).name, .bool true, .int .i64 (rowC i.1).takes, .int .i64 (rowC i.1).lays] 109 (0, 0)), .blk b1 (.cells #[.int .i64 i.1, .int .i64 i.2] 50 (0, 0))]) mixed (by repeat (first | exact Pk.nil | exact Pk.all | exact Pk.app | exact Pk.appR | with_reducible apply Pk.na | (apply Pk.cons; (repeat first | exact .here | apply Rem.there | apply Rem.app)) | apply Pk.skip | apply Pk.skipA)) ?_
    refine WB.tp (i := 0) rfl (by kernel_rfl) (by kernel_rfl) rfl (Gp.fieldAddr rfl) ?_
    refine WB.tp (i := 3) rfl (by kernel_rfl) (by kernel_rfl) rfl (Gp.fieldAddr rfl) ?_
    (first | (refine WB.tv (i := 1) rfl (by kernel_rfl) (by kernel_rfl) rfl (Gv.load1 rfl (by (repeat first | exact .here | apply At.there)) (by first | rfl | assumption)) ?_) | (refine WB.tv (i := 1) rfl (by kernel_rfl) (by kernel_rfl) rfl (Gv.loadN rfl (by (repeat first | exact .here | apply At.there)) (by rfl) (by rfl)) ?_) | (refine WB.tv (i := 1) rfl (by kernel_rfl) (by kernel_rfl) rfl (Gv.loadG1 rfl (by assumption) rfl) ?_) | (refine WB.tv (i := 1) rfl (by kernel_rfl) (by kernel_rfl) rfl (Gv.loadG0 rfl (by assumption) rfl) ?_) | (refine WB.tv (i := 1) rfl (by kernel_rfl) (by kernel_rfl) rfl (Gv.loadGN rfl (by assumption) rfl) ?_))
    refine WB.tp (i := 2) rfl (by kernel_rfl) (by kernel_rfl) rfl (Gp.addS rfl rfl (by omega)) ?_
    (first | (refine WB.tv (i := 4) rfl (by kernel_rfl) (by kernel_rfl) rfl (Gv.load1 rfl (by (repeat first | exact .here | apply At.there)) (by first | rfl | assumption)) ?_) | (refine WB.tv (i := 4) rfl (by kernel_rfl) (by kernel_rfl) rfl (Gv.loadN rfl (by (repeat first | exact .here | apply At.there)) (by rfl) (by rfl)) ?_) | (refine WB.tv (i := 4) rfl (by kernel_rfl) (by kernel_rfl) rfl (Gv.loadG1 rfl (by assumption) rfl) ?_) | (refine WB.tv (i := 4) rfl (by kernel_rfl) (by kernel_rfl) rfl (Gv.loadG0 rfl (by assumption) rfl) ?_) | (refine WB.tv (i := 4) rfl (by kernel_rfl) (by kernel_rfl) rfl (Gv.loadGN rfl (by assumption) rfl) ?_))
    refine WB.one (i := 5) (by kernel_rfl) rfl (by kernel_rfl) (OW.callK rfl (itoa_fn G hE i.2 (by omega) (by omega)) rfl fun v' G' H' h hg => ?_)
    obtain ⟨he, rfl, rfl⟩ := h
    cases he
    refine ⟨fun w hw => hw.pk (by repeat (first | exact Pk.nil | exact Pk.all | exact Pk.app | exact Pk.appR | with_reducible apply Pk.na | (apply Pk.cons; (repeat first | exact .here | apply Rem.there | apply Rem.app)) | apply Pk.skip | apply Pk.skipA)), ?_⟩
    refine WB.tp (i := 6) rfl (by kernel_rfl) (by kernel_rfl) rfl (Gp.addS rfl rfl (by rw [itoa_dec h0]; omega)) ?_
    refine WB.tp (i := 7) rfl (by kernel_rfl) (by kernel_rfl) rfl (Gp.assign rfl) ?_
    refine WB.done (by kernel_rfl) ?_
    refine WK.un ?_
    refine WC.ret ?_
    refine WK.un ?_
    exact QF.p1 (.inl rfl) rfl (.tmp rfl) (⟨rfl, rfl, rfl⟩)
end Go.Proofs.YtkmigdmdppkpoaaGreatDoor.Gb
namespace Go.Proofs.YtkmigdmdppkpoaaGreatDoor.Gb
open Go Go.Proofs Go.MapKept
set_option linter.unusedVariables false
set_option linter.unusedSimpArgs false
set_option linter.unusedSectionVars false
attribute [local irreducible] Tryz.prog

def strV (l : List ByteArray) : List Value := l.map Value.string
abbrev TxVec (A : Option Addr) (l : List ByteArray) (cap : Nat) (x : Own) : Prop := Vec 9 1 A l.length cap (strV l) x
theorem TxVec.nil : TxVec none [] 0 (.spare 0 0 0) := ⟨rfl, .inl ⟨rfl, rfl, rfl, rfl⟩⟩
theorem strV_length (l : List ByteArray) : (strV l).length = l.length * 1 := by simp [strV]
theorem strV_one (l : List ByteArray) : (strV l).all (·.oneCell') = true := by induction l with | nil => rfl | cons b l ih => simp [strV, Value.oneCell']
theorem TxVec.snoc {A : Option Addr} {l : List ByteArray} {cap : Nat} {x : Own} {z : ByteArray} (h : Vec 9 1 A (l.length + 1) cap (strV l ++ [.string z]) x) : TxVec A (l ++ [z]) cap x := by
  unfold TxVec strV; rw [List.map_append, List.length_append]; exact h
def linesR (l : List (Int × Int)) : List ByteArray × Int := if l.all mayI then (l.map lineR, 0) else ([], 180)
theorem map_snoc {α β : Type} (f : α → β) {l : List α} {k : Nat} {x : α} (h : l[k]? = some x) : (l.take (k + 1)).map f = (l.take k).map f ++ [f x] := by
  rw [take_snoc' h, List.map_append]; rfl

theorem Lines_fn (G : Gh) (hE : Env G) (A : Option Addr) (l : List (Int × Int)) (cap : Nat) (hA : Sl Kd.ins G A l) (hl : l.length * 16 ≤ 140737488351232) :
    Fn Tryz.prog 26 #[.slice A l.length cap] G [] fun e G' H' => ∃ A' cap' x', e = .returned (.tuple #[.slice A' (linesR l).1.length cap', .int .i64 (linesR l).2]) ∧ G = G' ∧ TxVec A' (linesR l).1 cap' x' ∧ H' = [x'] := by
  refine Fn.enter Tryz.func26 rfl rfl fun w0 => ?_
  refine gom ?_
  refine WC.nothing ?_
  refine WC.loop (X := Nat × Option Addr × Nat × Own) (fun s => [(4, .slice s.2.1 ((l.take s.1).map lineR).length s.2.2.1), (7, .slice A l.length cap), (8, .int .i64 l.length), (9, .int .i64 s.1)]) (fun _ => G) (fun s => [s.2.2.2]) (fun s => l.length - s.1) (fun s => s.1 ≤ l.length ∧ TxVec s.2.1 ((l.take s.1).map lineR) s.2.2.1 s.2.2.2 ∧ ∀ j i, j < s.1 → l[j]? = some i → mayI i = true) (0, none, 0, .spare 0 0 0) ⟨Nat.zero_le _, TxVec.nil, (fun j i h => absurd h (Nat.not_lt_zero _))⟩ (by exact ⟨rfl, rfl, rfl, rfl, trivial⟩) rfl (List.Sublist.refl _) fun s hs => ?_
  obtain ⟨k, B, c, o⟩ := s
  obtain ⟨hk, hv, hall⟩ := hs
  dsimp only at hk hv hall
  have x2 := wrapS k (by omega)
  by_cases hlt : k < l.length
  rotate_left
  · have e2 : decide ((k : Int) < (l.length : Int)) = false := decide_eq_false (by omega)
    obtain rfl : k = l.length := by omega
    have hr : linesR l = ((l.take l.length).map lineR, 0) := by rw [linesR, all_of hall (by omega), if_pos rfl, List.take_length]
    rw [hr]
    refine gom ?_
    refine WC.ret ?_
    refine WK.un ?_
    exact QF.p2 (.inl rfl) rfl (.tmp rfl) (.tmp rfl) (⟨B, c, o, rfl, rfl, hv, rfl⟩)
  have e2 : decide ((k : Int) < (l.length : Int)) = true := decide_eq_true (by omega)
  obtain ⟨i, hi⟩ : ∃ i, l[k]? = some i := ⟨_, List.getElem?_eq_getElem (by omega)⟩
  obtain ⟨ib, io, ics, rfl, hik, hic⟩ := hA k i hi
  obtain rfl : ics = [.int .i64 i.1, .int .i64 i.2] := hik
  have x0 : (0 : Int) ≤ (k : Int) := by omega
  have x1' : (k : Int) < (l.length : Int) := by omega
  refine gom ?_
  refine WL.op (by kernel_rfl) (OW.alloc rfl fun b6 => ?_)
  refine gom ?_
  refine WL.op (by kernel_rfl) (OW.callK rfl (may_fn G i.1 i.2) rfl fun v' G' H' h hg => ?_)
  obtain ⟨he, rfl, rfl⟩ := h
  cases he
  cases hm : mayR i.1 i.2 with
  | false =>
    have hr : linesR l = ([], 180) := by rw [linesR, all_not hi (show mayI i = false from hm)]; rfl
    rw [hr]
    refine gom ?_
    refine WC.nothing ?_
    refine WC.ret ?_
    refine WK.un ?_
    exact QF.p2 (.inl rfl) rfl (.tmp rfl) (.tmp rfl) (⟨none, 0, _, rfl, rfl, TxVec.nil, rfl⟩)
  | true =>
  obtain ⟨b1, b2, b3, b4⟩ := mayI_bounds (i := i) hm
  have htl : ((l.take k).map lineR).length = k := by rw [List.length_map, List.length_take]; omega
  refine gom ?_
  refine WL.op (by kernel_rfl) (OW.callK rfl (line_fn G hE i b3 b4) rfl fun v' G' H' h hg => ?_)
  obtain ⟨he, rfl, rfl⟩ := h
  cases he
  refine WL.op (by kernel_rfl) (OW.buildSlice rfl (by kernel_rfl) (by kernel_rfl) (by rfl) rfl fun b19 => ?_)
  refine WL.op (by kernel_rfl) (OW.append rfl rfl (by kernel_rfl) (by kernel_rfl) hv (by (repeat first | exact .here | apply At.there)) (Rds.blk0 (cs := [.string (lineR i)]) .here rfl) rfl rfl (by dsimp only; omega) (by dsimp only; omega) rfl fun A3 c3 o3 hv3 => ?_)
  have h3 := TxVec.snoc hv3
  dsimp only at h3
  rw [← map_snoc lineR hi] at h3
  have hl3 : ((l.take k).map lineR).length + 1 = ((l.take (k + 1)).map lineR).length := by rw [map_snoc lineR hi, List.length_append]; rfl
  have hst := all_step (f := mayI) hi hall hm
  refine gom ?_
  refine WK.pick [o3] ?_
  exact WK.again (k + 1, A3, c3, o3) (by dsimp only; omega) ⟨by dsimp only; omega, h3, hst⟩ (by exact ⟨by show _ = some (Value.slice A3 _ c3); rw [← hl3]; rfl, rfl, rfl, rfl, trivial⟩) rfl (List.Sublist.refl _)

theorem rLines_fn (G : Gh) (hE : Env G) (A : Option Addr) (l : List (Int × Int)) (cap : Nat) (hA : Sl Kd.ins G A l) (hl : l.length * 16 ≤ 140737488351232) :
    Fn Tryz.prog 27 #[.slice A l.length cap] G [] fun e G' H' => ∃ A' cap' x', e = .returned (.tuple #[.slice A' (linesR l).1.length cap', .int .i64 (linesR l).2]) ∧ G.le G' ∧ TxVec A' (linesR l).1 cap' x' ∧ H' = [x'] := by
  refine Fn.enter Tryz.func27 rfl rfl fun w0 => ?_
  refine gom ?_
  refine WC.nothing ?_
  refine WC.loop (X := Nat × Option Addr × Nat × Own × Gh) (fun s => [(4, .slice s.2.1 ((l.take s.1).map lineR).length s.2.2.1), (0, .slice A l.length cap), (5, .int .i64 s.1)]) (fun s => s.2.2.2.2) (fun s => [s.2.2.2.1]) (fun s => l.length - s.1) (fun s => s.1 ≤ l.length ∧ G.le s.2.2.2.2 ∧ TxVec s.2.1 ((l.take s.1).map lineR) s.2.2.1 s.2.2.2.1 ∧ ∀ j i, j < s.1 → l[j]? = some i → mayI i = true) (0, none, 0, .spare 0 0 0, G) ⟨Nat.zero_le _, Gh.le_refl _, TxVec.nil, (fun j i h => absurd h (Nat.not_lt_zero _))⟩ (by exact ⟨rfl, rfl, rfl, trivial⟩) rfl (List.Sublist.refl _) fun s hs => ?_
  obtain ⟨k, B, c, o, G1⟩ := s
  obtain ⟨hk, hg1, hv, hall⟩ := hs
  dsimp only at hk hg1 hv hall
  have x2 := wrapS k (by omega)
  by_cases hlt : k < l.length
  rotate_left
  · have e2 : decide ((k : Int) < (l.length : Int)) = false := decide_eq_false (by omega)
    obtain rfl : k = l.length := by omega
    have hr : linesR l = ((l.take l.length).map lineR, 0) := by rw [linesR, all_of hall (by omega), if_pos rfl, List.take_length]
    rw [hr]
    refine gom ?_
    refine WC.ret ?_
    refine WK.un ?_
    exact QF.p2 (.inl rfl) rfl (.tmp rfl) (.tmp rfl) (⟨B, c, o, rfl, hg1, hv, rfl⟩)
  have e2 : decide ((k : Int) < (l.length : Int)) = true := decide_eq_true (by omega)
  obtain ⟨i, hi⟩ : ∃ i, l[k]? = some i := ⟨_, List.getElem?_eq_getElem (by omega)⟩
  obtain ⟨ib, io, ics, rfl, hik, hic0⟩ := hA k i hi
  obtain rfl : ics = [.int .i64 i.1, .int .i64 i.2] := hik
  have hic := hic0.mono hg1
  have x0 : (0 : Int) ≤ (k : Int) := by omega
  have x1' : (k : Int) < (l.length : Int) := by omega
  refine gom ?_
  refine WL.op (by kernel_rfl) (OW.callK rfl (lone_fn G1 i.1 i.2) rfl fun v' G' H' h hg => ?_)
  obtain ⟨he, rfl, rfl⟩ := h
  cases he
  cases hm : mayR i.1 i.2 with
  | false =>
    have hr : linesR l = ([], 180) := by rw [linesR, all_not hi (show mayI i = false from hm)]; rfl
    rw [hr]
    refine gom ?_
    refine WC.nothing ?_
    refine WC.ret ?_
    refine WK.un ?_
    exact QF.p2 (.inl rfl) rfl (.tmp rfl) (.tmp rfl) (⟨none, 0, _, rfl, hg1, TxVec.nil, rfl⟩)
  | true =>
  obtain ⟨b1, b2, b3, b4⟩ := mayI_bounds (i := i) hm
  have htl : ((l.take k).map lineR).length = k := by rw [List.length_map, List.length_take]; omega
  refine gom ?_
  refine WL.op (by kernel_rfl) (OW.callK rfl (rName_fn G1 i.1) rfl fun v' G' H' h hg => ?_)
  obtain ⟨he, hg2, rfl⟩ := h
  cases he
  have hg3 := Gh.le_trans hg1 hg2
  have hic2 := hic.mono hg2
  refine gom ?_
  refine WL.op (by kernel_rfl) (OW.callK rfl (numb_fn _ [] i.1) rfl fun v' G' H' h hg => ?_)
  obtain ⟨he, rfl, rfl⟩ := h
  cases he
  have hsz := name_small i.1
  have hds := decS_size i.2.toNat (by omega)
  have h32 : ((rowC i.1).name ++ ⟨#[32]⟩).size ≤ 7 := by rw [ByteArray.size_append]; have : (⟨#[32]⟩ : ByteArray).size = 1 := rfl; omega
  have h32a : (⟨#[32]⟩ : ByteArray).size = 1 := rfl
  have hst := all_step (f := mayI) hi hall hm
  cases hn : (rowC i.1).n with
  | true =>
    have hr : lineR i = (rowC i.1).name ++ ⟨#[32]⟩ ++ decS i.2.toNat := by rw [lineR, hn]; rfl
    refine gom ?_
    refine WL.p (Gp.addS rfl rfl (by omega)) (by kernel_rfl) rfl ?_
    refine gom ?_
    rw [show i.2 = ((i.2.toNat : Nat) : Int) by omega]
    refine WL.op (by kernel_rfl) (OW.callK rfl (decimal_fn _ i.2.toNat (by omega)) rfl fun v' G' H' h hg => ?_)
    obtain ⟨he, rfl, rfl⟩ := h
    cases he
    refine WL.p (Gp.addS rfl rfl (by omega)) (by kernel_rfl) rfl ?_
    rw [← hr]
    refine gom ?_
    refine WL.op (by kernel_rfl) (OW.buildSlice rfl (by kernel_rfl) (by kernel_rfl) (by rfl) rfl fun b46 => ?_)
    refine WL.op (by kernel_rfl) (OW.append rfl rfl (by kernel_rfl) (by kernel_rfl) hv (by (repeat first | exact .here | apply At.there)) (Rds.blk0 (cs := [.string (lineR i)]) .here rfl) rfl rfl (by dsimp only; omega) (by dsimp only; omega) rfl fun A3 c3 o3 hv3 => ?_)
    have h3 := TxVec.snoc hv3
    dsimp only at h3
    rw [← map_snoc lineR hi] at h3
    have hl3 : ((l.take k).map lineR).length + 1 = ((l.take (k + 1)).map lineR).length := by rw [map_snoc lineR hi, List.length_append]; rfl
    refine gom ?_
    refine WK.pick [o3] ?_
    exact WK.again (k + 1, A3, c3, o3, _) (by dsimp only; omega) ⟨by dsimp only; omega, hg3, h3, hst⟩ (by exact ⟨by show _ = some (Value.slice A3 _ c3); rw [← hl3]; rfl, rfl, rfl, trivial⟩) rfl (List.Sublist.refl _)
  | false =>
    have hr : lineR i = (rowC i.1).name := by rw [lineR, hn]; rfl
    rw [← hr]
    refine gom ?_
    refine WL.op (by kernel_rfl) (OW.buildSlice rfl (by kernel_rfl) (by kernel_rfl) (by rfl) rfl fun b46 => ?_)
    refine WL.op (by kernel_rfl) (OW.append rfl rfl (by kernel_rfl) (by kernel_rfl) hv (by (repeat first | exact .here | apply At.there)) (Rds.blk0 (cs := [.string (lineR i)]) .here rfl) rfl rfl (by dsimp only; omega) (by dsimp only; omega) rfl fun A3 c3 o3 hv3 => ?_)
    have h3 := TxVec.snoc hv3
    dsimp only at h3
    rw [← map_snoc lineR hi] at h3
    have hl3 : ((l.take k).map lineR).length + 1 = ((l.take (k + 1)).map lineR).length := by rw [map_snoc lineR hi, List.length_append]; rfl
    refine gom ?_
    refine WK.pick [o3] ?_
    exact WK.again (k + 1, A3, c3, o3, _) (by dsimp only; omega) ⟨by dsimp only; omega, hg3, h3, hst⟩ (by exact ⟨by show _ = some (Value.slice A3 _ c3); rw [← hl3]; rfl, rfl, rfl, trivial⟩) rfl (List.Sublist.refl _)

theorem TxVec.sl {G : Gh} {A : Option Addr} {l : List ByteArray} (hz : strV l = [] ∨ ∃ b, A = some ⟨b, 0, none⟩ ∧ Cs G b 0 (strV l)) : Sl Kd.str G A l := by
  rcases hz with h | ⟨b, rfl, h⟩
  · have : l = [] := by simpa [strV] using h
    subst this; exact Sl.nil _ _ _
  · exact Cs.strs h
theorem bytes_ne {x y : ByteArray} : (x != y) = !decide (x = y) := by rw [bne, bytes_beq]
theorem sameTexts_fn (G : Gh) (A B : Option Addr) (l m : List ByteArray) (ca cb : Nat) (ha : Sl Kd.str G A l) (hb : Sl Kd.str G B m) (hl : l.length ≤ 100000000000000) :
    Fn Tryz.prog 28 #[.slice A l.length ca, .slice B m.length cb] G [] fun e G' H' => e = .returned (.bool (decide (l = m))) ∧ G = G' ∧ H' = [] := by
  refine Fn.enter Tryz.func28 rfl rfl fun w0 => ?_
  by_cases hne : l.length = m.length
  rotate_left
  · have e1 : ((l.length : Int) != (m.length : Int)) = true := by rw [bne_iff_ne]; omega
    refine gom ?_
    refine WC.ret ?_
    refine WK.un ?_
    exact QF.p1 (.inl rfl) rfl (.tmp rfl) (⟨by rw [decide_eq_false fun e => hne (by rw [e])], rfl, rfl⟩)
  have e1 : ((l.length : Int) != (m.length : Int)) = false := by rw [hne]; simp
  refine gom ?_
  refine WC.loop (X := Nat) (fun i => [(5, .int .i64 i), (0, .slice A l.length ca), (1, .slice B m.length cb)]) (fun _ => G) (fun _ => []) (fun i => l.length - i) (fun i => i ≤ l.length ∧ ∀ j, j < i → l[j]? = m[j]?) 0 ⟨Nat.zero_le _, fun j h => by omega⟩ (by exact ⟨rfl, rfl, rfl, trivial⟩) rfl (List.Sublist.refl _) fun i hx => ?_
  obtain ⟨hi, hall⟩ := hx
  by_cases hlt : i < l.length
  rotate_left
  · have e2 : decide ((i : Int) < (l.length : Int)) = false := decide_eq_false (by omega)
    have he : l = m := by
      refine List.ext_getElem? fun j => ?_
      rcases Nat.lt_or_ge j i with h | h
      · exact hall j h
      · rw [List.getElem?_eq_none (by omega), List.getElem?_eq_none (by omega)]
    refine gom ?_
    refine WC.ret ?_
    refine WK.un ?_
    exact QF.p1 (.inl rfl) rfl (.tmp rfl) (⟨by rw [decide_eq_true he], rfl, rfl⟩)
  have e2 : decide ((i : Int) < (l.length : Int)) = true := decide_eq_true (by omega)
  obtain ⟨x, hx⟩ : ∃ x, l[i]? = some x := ⟨_, List.getElem?_eq_getElem hlt⟩
  obtain ⟨y, hy⟩ : ∃ y, m[i]? = some y := ⟨_, List.getElem?_eq_getElem (by omega)⟩
  obtain ⟨ab, ao, cs1, rfl, hk1, hca⟩ := ha i x hx
  obtain ⟨bb, bo, cs2, rfl, hk2, hcb⟩ := hb i y hy
  obtain rfl : cs1 = [.string x] := hk1
  obtain rfl : cs2 = [.string y] := hk2
  have x0 : (0 : Int) ≤ i := by omega
  have x2 : (i : Int) < (l.length : Int) := by omega
  have x3 : (i : Int) < (m.length : Int) := by omega
  have x4 := wrapS i (by omega)
  by_cases hxy : x = y
  · have e3 : (!(x == y)) = false := by rw [bytes_beq, decide_eq_true hxy]; rfl
    refine gom ?_
    rw [e3]
    refine gom ?_
    exact WK.again (i + 1) (by omega) ⟨by omega, fun j hj => by
      rcases Nat.lt_or_ge j i with h | h
      · exact hall j h
      · obtain rfl : j = i := by omega
        rw [hx, hy, hxy]⟩ (by exact ⟨rfl, rfl, rfl, trivial⟩) rfl (List.Sublist.refl _)
  · have e3 : (!(x == y)) = true := by rw [bytes_beq, decide_eq_false hxy]; rfl
    refine gom ?_
    rw [e3]
    refine gom ?_
    refine WC.ret ?_
    refine WK.un ?_
    exact QF.p1 (.inl rfl) rfl (.tmp rfl) (⟨by rw [decide_eq_false fun e => by rw [e, hy] at hx; exact hxy (Option.some.inj hx).symm], rfl, rfl⟩)
theorem linesR_len (l : List (Int × Int)) : (linesR l).1.length ≤ l.length := by
  unfold linesR
  split
  · rw [List.length_map]; exact Nat.le_refl _
  · exact Nat.zero_le _
theorem codeLines_fn (G : Gh) (hE : Env G) (A : Option Addr) (l : List (Int × Int)) (cap : Nat) (hA : Sl Kd.ins G A l) (hl : l.length * 16 ≤ 140737488351232) :
    Fn Tryz.prog 6 #[.slice A l.length cap] G [] fun e G' H' => e = .returned (.bool true) ∧ G.le G' ∧ H' = [] := by
  refine Fn.enter Tryz.func6 rfl rfl fun w0 => ?_
  refine gom ?_
  refine WL.op (by kernel_rfl) (OW.callK rfl (Lines_fn G hE A l cap hA hl) rfl fun v' G' H' h hg => ?_)
  obtain ⟨A2, c2, x2, he, rfl, h2, rfl⟩ := h
  cases he
  refine WL.frozenVec h2 (by (repeat first | exact .here | apply At.there)) fun G1 hg1 hz1 => ?_
  have hs1 := TxVec.sl hz1
  refine gom ?_
  refine WL.op (by kernel_rfl) (OW.callK rfl (rLines_fn G1 (hE.mono hg1) A l cap (hA.mono hg1) hl) rfl fun v' G' H' h hg => ?_)
  obtain ⟨A3, c3, x3, he, hg2, h3, rfl⟩ := h
  cases he
  refine WL.frozenVec h3 (by (repeat first | exact .here | apply At.there)) fun G2 hg3 hz2 => ?_
  have hs2 := TxVec.sl hz2
  have hg4 := Gh.le_trans hg1 (Gh.le_trans hg2 hg3)
  have hll := linesR_len l
  refine gom ?_
  refine WL.op (by kernel_rfl) (OW.callK rfl (sameTexts_fn G2 A2 A3 (linesR l).1 (linesR l).1 c2 c3 (hs1.mono (Gh.le_trans hg2 hg3)) hs2 (by omega)) rfl fun v' G' H' h hg => ?_)
  obtain ⟨he, rfl, rfl⟩ := h
  cases he
  rw [decide_eq_true rfl]
  have e1 : ((linesR l).2 == (linesR l).2) = true := by simp
  refine gom ?_
  refine WL.op (by kernel_rfl) (OW.callK rfl (awake_fn _ (hE.mono hg4)) rfl fun v' G' H' h hg => ?_)
  obtain ⟨he, hg5, rfl⟩ := h
  cases he
  refine gom ?_
  refine WC.ret ?_
  refine WK.un ?_
  exact QF.p1 (.inl rfl) rfl (.tmp rfl) (⟨rfl, Gh.le_trans hg4 hg5, rfl⟩)
end Go.Proofs.YtkmigdmdppkpoaaGreatDoor.Gb
namespace Go.Proofs.YtkmigdmdppkpoaaGreatDoor.Gb
open Go Go.Proofs Go.MapKept
set_option linter.unusedVariables false
set_option linter.unusedSimpArgs false
set_option linter.unusedSectionVars false
attribute [local irreducible] Tryz.prog

def nspN (n : Int) : Bool := n != 32
/-- where the first blank stands, or the end -/
def spK (s : ByteArray) : Nat := runL nspN (bytesL s)
def cutA (s : ByteArray) : ByteArray := s.extract 0 (spK s)
def cutB (s : ByteArray) : ByteArray := if spK s < s.size then s.extract (spK s + 1) s.size else ⟨#[]⟩
theorem spK_le (s : ByteArray) : spK s ≤ s.size := by unfold spK; rw [← bytesL_length]; exact runL_le _ _
theorem index_run : ∀ (l : List UInt8), Lib.indexByte l 32 = if runL nspN l < l.length then ((runL nspN l : Nat) : Int) else -1
  | [] => rfl
  | b :: l => by
    have ih := index_run l
    by_cases h : b = 32
    · subst h
      have h1 : runL nspN (32 :: l) = 0 := rfl
      rw [h1]; rfl
    · have hb : (b == (32 : UInt8)) = false := by simpa using h
      have hn : nspN (b.toNat : Int) = true := by
        unfold nspN
        rw [bne_iff_ne]
        intro e
        apply h
        have : b.toNat = 32 := by omega
        exact UInt8.toNat_inj.1 (by rw [this]; rfl)
      have h1 : runL nspN (b :: l) = runL nspN l + 1 := by simp only [runL]; rw [if_pos hn]; omega
      rw [h1, Lib.indexByte, hb, ih, List.length_cons]
      by_cases hr : runL nspN l < l.length
      · rw [if_pos hr, if_pos (show runL nspN l + 1 < l.length + 1 by omega)]
        have : (((runL nspN l : Nat) : Int) == -1) = false := by rw [beq_eq_false_iff_ne]; omega
        rw [this]; rfl
      · rw [if_neg hr, if_neg (show ¬ runL nspN l + 1 < l.length + 1 by omega)]; rfl
theorem indexLite_fn (G : Gh) (s : ByteArray) : Fn Tryz.prog 111 #[.string s, .string ⟨#[32]⟩] G [] fun e G' H' => e = .returned (.int .i64 (if spK s < s.size then ((spK s : Nat) : Int) else -1)) ∧ G = G' ∧ H' = [] :=
  Fn.ofExt (R := fun e => e = .returned (.int .i64 (if spK s < s.size then ((spK s : Nat) : Int) else -1))) fun w hs _ => (Any.stringslite_Index_one { Tryz.lays143 with } s 32 w).mono fun e w' ⟨he, hw⟩ => ⟨by
    rw [he, index_run, show s.data.toList.length = s.size from bytesL_length s]; rfl, hw ▸ Ext2.refl w⟩
theorem cutLite_fn (G : Gh) (s : ByteArray) (hl : s.size ≤ 140737488355328) : Fn Tryz.prog 81 #[.string s, .string ⟨#[32]⟩] G [] fun e G' H' => ∃ b, e = .returned (.tuple #[.string (cutA s), .string (cutB s), .bool b]) ∧ G = G' ∧ H' = [] := by
  have hk := spK_le s
  refine Fn.enter Tryz.func81 rfl rfl fun w0 => ?_
  refine gom ?_
  refine WL.op (by kernel_rfl) (OW.callK rfl (indexLite_fn G s) rfl fun v' G' H' h hg => ?_)
  obtain ⟨he, rfl, rfl⟩ := h
  cases he
  by_cases h1 : spK s < s.size
  · rw [if_pos h1]
    have y1 : decide ((0 : Int) ≤ (spK s : Int)) = true := decide_eq_true (by omega)
    have hB : cutB s = s.extract (spK s + 1) s.size := by rw [cutB, if_pos h1]
    have hw : IntKind.i64.wrap ((spK s : Int) + 1) = ((spK s + 1 : Nat) : Int) := by rw [wrapI (by omega) (by omega)]; rfl
    refine go ?_
    refine WC.draw mixed ?_
    refine WA.tp (i := 0) rfl (by kernel_rfl) (by kernel_rfl) rfl (Gp.move rfl) ?_
    refine WA.tp (i := 1) rfl (by kernel_rfl) (by kernel_rfl) rfl (Gp.move rfl) ?_
    refine WA.tp (i := 2) rfl (by kernel_rfl) (by kernel_rfl) rfl (Gp.sliceSTo rfl rfl (by omega) (by omega)) ?_
    refine WA.tp (i := 3) rfl (by kernel_rfl) (by kernel_rfl) rfl (Gp.move rfl) ?_
    refine WA.tp (i := 4) rfl (by kernel_rfl) (by kernel_rfl) rfl (Gp.move rfl) ?_
    refine WA.tp (i := 5) rfl (by kernel_rfl) (by kernel_rfl) rfl (Gp.move rfl) ?_
    (first | refine WA.tp (i := 6) rfl (by kernel_rfl) (by kernel_rfl) rfl (Gp.lenSl rfl) ?_ | refine WA.tp (i := 6) rfl (by kernel_rfl) (by kernel_rfl) rfl (Gp.lenS rfl) ?_)
    refine WA.tp (i := 7) rfl (by kernel_rfl) (by kernel_rfl) rfl (Gp.add' rfl rfl hw) ?_
    refine WA.tp (i := 8) rfl (by kernel_rfl) (by kernel_rfl) rfl (Gp.sliceSFrom rfl rfl (by omega) (by omega)) ?_
    refine WA.tp (i := 9) rfl (by kernel_rfl) (by kernel_rfl) rfl (Gp.assign rfl) ?_
    refine WA.tp (i := 10) rfl (by kernel_rfl) (by kernel_rfl) rfl (Gp.assign rfl) ?_
    refine WA.tp (i := 11) rfl (by kernel_rfl) (by kernel_rfl) rfl (Gp.assign rfl) ?_
    refine WA.done (by kernel_rfl) ?_
    refine WK.un ?_
    refine WC.ret ?_
    refine WK.un ?_
    exact QF.p3 (.inl rfl) rfl (.tmp rfl) (.tmp rfl) (.tmp rfl) (⟨true, by rw [hB]; rfl, rfl, rfl⟩)
  · rw [if_neg h1]
    have hA : cutA s = s := by rw [cutA, show spK s = s.size by omega]; exact extract_all s
    have hB : cutB s = ⟨#[]⟩ := by rw [cutB, if_neg h1]
    rw [hA, hB]
    refine gom ?_
    refine WC.ret ?_
    refine WK.un ?_
    exact QF.p3 (.inl rfl) rfl (.tmp rfl) (.tmp rfl) (.tmp rfl) (⟨false, rfl, rfl, rfl⟩)
theorem cut_fn (G : Gh) (s : ByteArray) (hl : s.size ≤ 140737488355328) : Fn Tryz.prog 55 #[.string s, .string ⟨#[32]⟩] G [] fun e G' H' => ∃ b, e = .returned (.tuple #[.string (cutA s), .string (cutB s), .bool b]) ∧ G = G' ∧ H' = [] := by
  refine Fn.enter Tryz.func55 rfl rfl fun w0 => ?_
  refine gom ?_
  refine WL.op (by kernel_rfl) (OW.callK rfl (cutLite_fn G s hl) rfl fun v' G' H' h hg => ?_)
  obtain ⟨b, he, rfl, rfl⟩ := h
  cases he
  refine gom ?_
  refine WC.ret ?_
  refine WK.un ?_
  exact QF.p3 (.inl rfl) rfl (.tmp rfl) (.tmp rfl) (.tmp rfl) (⟨b, rfl, rfl, rfl⟩)
end Go.Proofs.YtkmigdmdppkpoaaGreatDoor.Gb
namespace Go.Proofs.YtkmigdmdppkpoaaGreatDoor.Gb
open Go Go.Proofs
set_option linter.unusedVariables false
set_option linter.unusedSimpArgs false

def isD (c : UInt8) : Bool := decide (48 ≤ c.toNat) && decide (c.toNat ≤ 57)
def valS (a : Nat) (c : UInt8) : Nat := 10 * a + (c.toNat - 48)
def valL (l : List UInt8) : Nat := l.foldl valS 0
theorem valL_snoc (l : List UInt8) (c : UInt8) : valL (l ++ [c]) = 10 * valL l + (c.toNat - 48) := by
  unfold valL; rw [List.foldl_append]; rfl
theorem ofNat_digit {k : Nat} (h : k < 10) : (UInt8.ofNat (48 + k)).toNat = 48 + k := by
  rw [UInt8.toNat_ofNat']; omega
theorem digit_of {c : UInt8} (h : isD c = true) : UInt8.ofNat (48 + (c.toNat - 48)) = c := by
  unfold isD at h
  simp only [Bool.and_eq_true, decide_eq_true_eq] at h
  apply UInt8.toNat_inj.1
  rw [ofNat_digit (by omega)]; omega
theorem dec_ge {n : Nat} (h : ¬ n < 10) : Lib.decDigits n = Lib.decDigits (n / 10) ++ [UInt8.ofNat (48 + n % 10)] := by
  rw [Lib.decDigits, dif_neg h]
theorem dec_val : ∀ (k : Nat) (l : List UInt8), l.length = k + 1 → l.all isD = true → l.head? ≠ some 48 → Lib.decDigits (valL l) = l ∧ 1 ≤ valL l
  | 0, l, hl, hd, hh => by
    match l, hl with
    | [c], _ =>
      have hc : isD c = true := by simpa using hd
      have h1 : valL [c] = c.toNat - 48 := by unfold valL; simp [valS]
      have hc' := hc
      unfold isD at hc'
      simp only [Bool.and_eq_true, decide_eq_true_eq] at hc'
      have hne : c.toNat ≠ 48 := fun e => hh (by simp; exact UInt8.toNat_inj.1 e)
      rw [h1, Lib.decDigits_one (by omega), digit_of hc]
      exact ⟨rfl, by omega⟩
  | k + 1, l, hl, hd, hh => by
    have hne : l ≠ [] := by intro e; subst e; simp at hl
    obtain ⟨m, c, rfl⟩ : ∃ m c, l = m ++ [c] := ⟨l.dropLast, l.getLast hne, (List.dropLast_concat_getLast hne).symm⟩
    rw [List.length_append, List.length_singleton] at hl
    rw [List.all_append, Bool.and_eq_true] at hd
    have hc : isD c = true := by simpa using hd.2
    have hmh : m.head? ≠ some 48 := by
      cases m with
      | nil => simp at hl
      | cons x r => simpa using hh
    obtain ⟨ih, h1⟩ := dec_val k m (by omega) hd.1 hmh
    have hc' := hc
    unfold isD at hc'
    simp only [Bool.and_eq_true, decide_eq_true_eq] at hc'
    rw [valL_snoc]
    refine ⟨?_, by omega⟩
    rw [dec_ge (by omega), show (10 * valL m + (c.toNat - 48)) / 10 = valL m by omega, ih, show (10 * valL m + (c.toNat - 48)) % 10 = c.toNat - 48 by omega, digit_of hc]
theorem dec_good : ∀ (n : Nat), (Lib.decDigits n).all isD = true ∧ valL (Lib.decDigits n) = n ∧ (1 ≤ n → (Lib.decDigits n).head? ≠ some 48) ∧ Lib.decDigits n ≠ [] := by
  intro n
  induction n using Nat.strongRecOn with
  | _ n ih =>
  have hd : ∀ k, k < 10 → isD (UInt8.ofNat (48 + k)) = true := fun k hk => by
    unfold isD; rw [ofNat_digit hk]; simp; omega
  by_cases h : n < 10
  · rw [Lib.decDigits_one h]
    refine ⟨by rw [List.all_cons, hd n h]; rfl, by unfold valL valS; simp only [List.foldl_cons, List.foldl_nil]; rw [ofNat_digit h]; omega, fun h1 e => ?_, by simp⟩
    simp only [List.head?_cons, Option.some.injEq] at e
    have := congrArg UInt8.toNat e
    rw [ofNat_digit h] at this
    have h48 : (48 : UInt8).toNat = 48 := rfl
    omega
  · obtain ⟨h1, h2, h3, h4⟩ := ih (n / 10) (by omega)
    rw [dec_ge h]
    refine ⟨by rw [List.all_append, h1, List.all_cons, hd _ (Nat.mod_lt n (by decide))]; rfl, by rw [valL_snoc, h2, ofNat_digit (Nat.mod_lt n (by decide))]; omega, fun _ => ?_, by simp⟩
    cases hm : Lib.decDigits (n / 10) with
    | nil => exact absurd hm h4
    | cons x r =>
      have := h3 (by omega)
      rw [hm] at this
      simpa using this
theorem parse_append : ∀ (l m : List UInt8) (a : Nat), Lib.parseUint10 a (l ++ m) = match Lib.parseUint10 a l with | .ok b => Lib.parseUint10 b m | e => e
  | [], m, a => rfl
  | c :: l, m, a => by
    rw [List.cons_append, Lib.parseUint10, Lib.parseUint10]
    split
    · split
      · rfl
      · split
        · rfl
        · exact parse_append l m _
    · rfl
theorem parse_dec : ∀ (n : Nat), n ≤ 2147483647 → Lib.parseUint10 0 (Lib.decDigits n) = .ok n := by
  intro n
  induction n using Nat.strongRecOn with
  | _ n ih =>
  intro hn
  have one : ∀ (a k : Nat), k < 10 → a ≤ 2147483647 → Lib.parseUint10 a [UInt8.ofNat (48 + k)] = .ok (a * 10 + k) := fun a k hk ha => by
    rw [Lib.parseUint10, ofNat_digit hk, if_pos (by omega), if_neg (by omega), if_neg (by omega), Lib.parseUint10]
    congr 1; omega
  by_cases h : n < 10
  · rw [Lib.decDigits_one h, one 0 n h (by omega)]; simp
  · rw [dec_ge h, parse_append, ih (n / 10) (by omega) (by omega)]
    show Lib.parseUint10 (n / 10) [UInt8.ofNat (48 + n % 10)] = _
    rw [one _ _ (Nat.mod_lt n (by decide)) (by omega)]
    congr 1; omega
theorem atoi_dec (n : Nat) (h : n ≤ 2147483647) : Lib.atoiAll (Lib.decDigits n) = .ok (n : Int) := by
  obtain ⟨h1, _, _, h4⟩ := dec_good n
  have hp := parse_dec n h
  cases hl : Lib.decDigits n with
  | nil => exact absurd hl h4
  | cons c r =>
    rw [hl] at h1 hp
    have hc : isD c = true := by rw [List.all_cons, Bool.and_eq_true] at h1; exact h1.1
    unfold isD at hc
    simp only [Bool.and_eq_true, decide_eq_true_eq] at hc
    rw [Lib.atoiAll_plain c r (by omega) (by omega)]
    have hm : Lib.parseMag (c :: r) = .ok n := by unfold Lib.parseMag; rw [if_neg (by simp)]; exact hp
    rw [hm]
    show (if _ then _ else _) = _
    rw [if_neg (by omega)]
end Go.Proofs.YtkmigdmdppkpoaaGreatDoor.Gb
namespace Go.Proofs.YtkmigdmdppkpoaaGreatDoor.Gb
open Go Go.Proofs
set_option linter.unusedVariables false
set_option linter.unusedSimpArgs false

theorem bytesL_append (a b : ByteArray) : bytesL (a ++ b) = bytesL a ++ bytesL b := by unfold bytesL; rw [ByteArray.data_append]; simp
theorem bytesL_inj {a b : ByteArray} (h : bytesL a = bytesL b) : a = b := ByteArray.ext (Array.toList_inj.1 h)
theorem cutA_bytes (s : ByteArray) : bytesL (cutA s) = (bytesL s).take (spK s) := Lib.extract_from_zero _ _
theorem cutB_bytes {s : ByteArray} (h : spK s < s.size) : bytesL (cutB s) = (bytesL s).drop (spK s + 1) := by
  rw [cutB, if_pos h]; exact Lib.extract_to_end _ _
theorem runL_all {g : Int → Bool} : ∀ {l : List UInt8}, (l.all fun c => g c.toNat) = true → runL g l = l.length
  | [], _ => rfl
  | c :: l, h => by
    rw [List.all_cons, Bool.and_eq_true] at h
    simp only [runL]; rw [if_pos h.1, runL_all h.2, List.length_cons]; omega
theorem runL_until {g : Int → Bool} {c : UInt8} (hc : g c.toNat = false) (m : List UInt8) : ∀ {l : List UInt8}, (l.all fun c => g c.toNat) = true → runL g (l ++ c :: m) = l.length
  | [], _ => by simp only [List.nil_append, runL]; rw [hc]; rfl
  | d :: l, h => by
    rw [List.all_cons, Bool.and_eq_true] at h
    simp only [List.cons_append, runL]; rw [if_pos h.1, runL_until hc m h.2, List.length_cons]; omega
theorem runL_stop {g : Int → Bool} : ∀ {l : List UInt8}, runL g l < l.length → ∃ c, l[runL g l]? = some c ∧ g c.toNat = false
  | [], h => by simp [runL] at h
  | c :: l, h => by
    by_cases hg : g c.toNat = true
    · simp only [runL] at h ⊢
      rw [if_pos hg, List.length_cons] at h
      obtain ⟨d, h1, h2⟩ := runL_stop (g := g) (l := l) (by omega)
      rw [if_pos hg]
      exact ⟨d, by rw [Nat.add_comm, List.getElem?_cons_succ]; exact h1, h2⟩
    · simp only [runL]
      rw [if_neg hg]
      exact ⟨c, rfl, by simpa using hg⟩
theorem cut_join {s : ByteArray} (h : spK s < s.size) : s = cutA s ++ ⟨#[32]⟩ ++ cutB s := by
  apply bytesL_inj
  rw [bytesL_append, bytesL_append, cutA_bytes, cutB_bytes h]
  obtain ⟨c, h1, h2⟩ := runL_stop (g := nspN) (l := bytesL s) (by rw [bytesL_length]; exact h)
  have hc : c = 32 := by
    unfold nspN at h2
    have : (c.toNat : Int) = 32 := by simpa using h2
    exact UInt8.toNat_inj.1 (by show c.toNat = 32; omega)
  subst hc
  have hlt : spK s < (bytesL s).length := by rw [bytesL_length]; exact h
  have hd : (bytesL s).drop (spK s) = 32 :: (bytesL s).drop (spK s + 1) := by
    rw [List.drop_eq_getElem_cons hlt]
    congr 1
    exact Option.some.inj ((List.getElem?_eq_getElem hlt).symm.trans h1)
  show bytesL s = (bytesL s).take (spK s) ++ [32] ++ (bytesL s).drop (spK s + 1)
  rw [List.append_assoc]
  show bytesL s = (bytesL s).take (spK s) ++ (32 :: (bytesL s).drop (spK s + 1))
  rw [← hd, List.take_append_drop]
theorem cut_whole {s : ByteArray} (h : ¬ spK s < s.size) : s = cutA s := by
  have := spK_le s
  rw [cutA, show spK s = s.size by omega]; exact (extract_all s).symm

/-! #### names -/
theorem name_plain : ∀ k : Nat, k < 26 → ((bytesL (rowC ((k : Int) + 1)).name).all fun c => nspN c.toNat) = true := by decide +kernel
theorem name_find : ∀ k : Nat, k < 26 → findN (rowC ((k : Int) + 1)).name = ((k : Int) + 1, 0) := by decide +kernel
theorem find_name {s : ByteArray} (h : (findN s).2 = 0) : 1 ≤ (findN s).1 ∧ (findN s).1 ≤ 26 ∧ (rowC (findN s).1).name = s := by
  unfold findN at h ⊢
  split at h
  · rename_i k hk
    have h1 := List.find?_some hk
    have h2 := List.mem_of_find?_eq_some hk
    rw [List.mem_range] at h2
    simp only [bytes_beq, decide_eq_true_eq] at h1
    exact ⟨by dsimp only; omega, by dsimp only; omega, h1⟩
  · cases h
theorem mayI_at {x : Int × Int} (h : mayI x = true) : ∃ k : Nat, k < 26 ∧ x.1 = (k : Int) + 1 := by
  obtain ⟨h1, h2, _⟩ := mayI_bounds h
  exact ⟨(x.1 - 1).toNat, by omega, by omega⟩
theorem mayI_zero {x : Int × Int} (h : mayI x = true) (hn : (rowC x.1).n = false) : x.2 = 0 := by
  unfold mayI mayR at h
  rw [hn] at h
  simp at h
  exact h.2.2.2
theorem mayI_mk {c n : Int} (h : 1 ≤ c ∧ c ≤ 26) (h0 : 0 ≤ n ∧ n ≤ 2147483647) (hn : (rowC c).n = false → n = 0) : mayI (c, n) = true := by
  unfold mayI mayR
  dsimp only
  rw [← is_row, decide_eq_true h.1, decide_eq_true h.2, decide_eq_true h0.1, decide_eq_true h0.2]
  cases hb : (rowC c).n with
  | true => rfl
  | false => rw [hn hb]; rfl
theorem line_spK {x : Int × Int} (h : mayI x = true) : spK (lineR x) = (rowC x.1).name.size := by
  obtain ⟨k, hk, e⟩ := mayI_at h
  have hp := name_plain k hk
  rw [← e] at hp
  unfold spK lineR
  split
  · rw [ByteArray.append_assoc, bytesL_append, bytesL_append]
    rw [← bytesL_length]
    exact runL_until (by rfl) _ hp
  · rw [runL_all hp, bytesL_length]
theorem line_size (x : Int × Int) : (lineR x).size = if (rowC x.1).n then (rowC x.1).name.size + 1 + (decS x.2.toNat).size else (rowC x.1).name.size := by
  unfold lineR
  split
  · rw [ByteArray.size_append, ByteArray.size_append]; rfl
  · rfl
theorem line_cutA {x : Int × Int} (h : mayI x = true) : cutA (lineR x) = (rowC x.1).name := by
  apply bytesL_inj
  rw [cutA_bytes, line_spK h, ← bytesL_length]
  unfold lineR
  split
  · rw [ByteArray.append_assoc, bytesL_append, List.take_left]
  · rw [List.take_length]
theorem line_cutB {x : Int × Int} (h : mayI x = true) : cutB (lineR x) = if (rowC x.1).n then decS x.2.toNat else ⟨#[]⟩ := by
  have hsz := line_size x
  cases hn : (rowC x.1).n with
  | false =>
    rw [hn] at hsz
    rw [cutB, if_neg (by rw [line_spK h, hsz]; simp)]; rfl
  | true =>
    rw [hn, if_pos rfl] at hsz
    rw [if_pos rfl]
    apply bytesL_inj
    rw [cutB_bytes (by rw [line_spK h, hsz]; omega), line_spK h, ← bytesL_length]
    unfold lineR
    rw [hn, if_pos rfl, bytesL_append, bytesL_append, List.append_assoc, ← List.drop_drop, List.drop_left]
    rfl
end Go.Proofs.YtkmigdmdppkpoaaGreatDoor.Gb
namespace Go.Proofs.YtkmigdmdppkpoaaGreatDoor.Gb
open Go Go.Proofs
set_option linter.unusedVariables false
set_option linter.unusedSimpArgs false

/-- the document's: a number that a line may have -/
def digR (s : ByteArray) : Int × Bool :=
  if s.size = 0 ∨ 10 < s.size ∨ (1 < s.size ∧ (bytesL s).head? = some 48) then (0, false)
  else if (bytesL s).all isD then ((valL (bytesL s) : Int), decide ((valL (bytesL s) : Int) ≤ 2147483647)) else (0, false)
theorem decS_bytes (n : Nat) : bytesL (decS n) = Lib.decDigits n := by unfold decS bytesL; simp
theorem dec_one : Lib.decDigits 0 = [48] := by rw [Lib.decDigits_one (by decide)]; rfl
theorem digR_ok {s : ByteArray} (h : (digR s).2 = true) : 0 ≤ (digR s).1 ∧ (digR s).1 ≤ 2147483647 ∧ s = decS (digR s).1.toNat := by
  unfold digR at h ⊢
  split at h
  · cases h
  rename_i h1
  split at h
  · rename_i h2
    have hv : (valL (bytesL s) : Int) ≤ 2147483647 := of_decide_eq_true h
    rw [if_neg h1, if_pos h2]
    refine ⟨by dsimp only; omega, hv, ?_⟩
    apply bytesL_inj
    dsimp only
    rw [decS_bytes, Int.toNat_natCast]
    have hs : (bytesL s).length ≠ 0 := by rw [bytesL_length]; omega
    by_cases hh : (bytesL s).head? = some 48
    · have hl : (bytesL s).length = 1 := by rw [bytesL_length]; rw [bytesL_length] at hs; by_cases h3 : 1 < s.size; exact absurd (.inr (.inr ⟨h3, hh⟩)) h1; omega
      match hb : bytesL s, hl with
      | [c], _ =>
        rw [hb] at hh
        simp at hh
        subst hh
        rw [show valL [48] = 0 from rfl, dec_one]
    · exact (dec_val ((bytesL s).length - 1) _ (by omega) h2 hh).1.symm
  · cases h
theorem digR_dec {n : Nat} (h : n ≤ 2147483647) : digR (decS n) = ((n : Int), true) := by
  obtain ⟨h1, h2, h3, h4⟩ := dec_good n
  have hl : (bytesL (decS n)).length = (decS n).size := bytesL_length _
  rw [decS_bytes] at hl
  have h10 : ∀ (k m : Nat), m < 10 ^ (k + 1) → (Lib.decDigits m).length ≤ k + 1 := by
    intro k
    induction k with
    | zero => intro m hm; rw [Lib.decDigits_one (by simpa using hm)]; simp
    | succ k ih =>
      intro m hm
      by_cases hlt : m < 10
      · rw [Lib.decDigits_one hlt]; simp
      · rw [dec_ge hlt, List.length_append]
        have := ih (m / 10) (by rw [Nat.div_lt_iff_lt_mul (by decide)]; rw [Nat.pow_succ] at hm; exact hm)
        simp; omega
  have h11 := h10 9 n (by omega)
  have h0 : (Lib.decDigits n).length ≠ 0 := fun e => h4 (List.eq_nil_of_length_eq_zero e)
  unfold digR
  rw [decS_bytes, if_neg, if_pos h1, h2]
  · rw [decide_eq_true (by omega)]
  · rintro (h | h | ⟨ha, hb⟩)
    · omega
    · omega
    · by_cases hn : 1 ≤ n
      · exact h3 hn hb
      · obtain rfl : n = 0 := by omega
        rw [dec_one] at hl
        simp at hl
        omega
/-- what Atoi tells -/
def atoiV (s : ByteArray) : Int := match Lib.atoiAll s.data.toList with | .ok v => v | .range => Lib.atoiSat s.data.toList | _ => 0
theorem atoiV_dec {n : Nat} (h : n ≤ 2147483647) : atoiV (decS n) = n := by
  unfold atoiV
  rw [show (decS n).data.toList = Lib.decDigits n from decS_bytes n, atoi_dec n h]
/-- the document's: a line -/
def refR (s : ByteArray) : Bool × (Int × Int) :=
  if (((findN (cutA s)).2 == 0) && ((rowC (findN (cutA s)).1).n == decide (spK s < s.size))) = true then
    if spK s < s.size then ((digR (cutB s)).2, ((findN (cutA s)).1, (digR (cutB s)).1)) else (true, ((findN (cutA s)).1, 0))
  else (false, ((findN (cutA s)).1, 0))
/-- the program's: a line -/
def codeC (s : ByteArray) : Int × Int := ((findN (cutA s)).1, if cutB s = ⟨#[]⟩ then 0 else atoiV (cutB s))
theorem ref_ok {s : ByteArray} (h : (refR s).1 = true) : mayI (refR s).2 = true ∧ lineR (refR s).2 = s := by
  unfold refR at h ⊢
  split at h
  · rename_i h1
    rw [if_pos h1]
    rw [Bool.and_eq_true] at h1
    obtain ⟨h2, h3⟩ := h1
    obtain ⟨f1, f2, f3⟩ := find_name (by simpa using h2)
    have hn : (rowC (findN (cutA s)).1).n = decide (spK s < s.size) := by simpa using h3
    split at h
    · rename_i hlt
      rw [if_pos hlt]
      rw [decide_eq_true hlt] at hn
      obtain ⟨d1, d2, d3⟩ := digR_ok h
      refine ⟨mayI_mk ⟨f1, f2⟩ ⟨d1, d2⟩ (fun e => by rw [hn] at e; cases e), ?_⟩
      unfold lineR
      dsimp only
      rw [hn, if_pos rfl, f3, ← d3]
      exact (cut_join hlt).symm
    · rename_i hlt
      rw [if_neg hlt]
      rw [decide_eq_false hlt] at hn
      refine ⟨mayI_mk ⟨f1, f2⟩ ⟨by decide, by decide⟩ (fun _ => rfl), ?_⟩
      unfold lineR
      dsimp only
      rw [hn, f3]
      exact (cut_whole hlt).symm
  · cases h
theorem find_line {x : Int × Int} (h : mayI x = true) : findN (cutA (lineR x)) = (x.1, 0) := by
  obtain ⟨k, hk, e⟩ := mayI_at h
  rw [line_cutA h, e, name_find k hk]
theorem line_lt {x : Int × Int} (h : mayI x = true) : decide (spK (lineR x) < (lineR x).size) = (rowC x.1).n := by
  rw [line_spK h, line_size]
  cases hn : (rowC x.1).n with
  | true => exact decide_eq_true (by rw [if_pos rfl]; omega)
  | false => exact decide_eq_false (by simp)
theorem ref_line {x : Int × Int} (h : mayI x = true) : refR (lineR x) = (true, x) := by
  obtain ⟨b1, b2, b3, b4⟩ := mayI_bounds h
  have hlt := line_lt h
  unfold refR
  rw [find_line h, hlt, if_pos (by simp)]
  cases hn : (rowC x.1).n with
  | true =>
    rw [hn] at hlt
    rw [if_pos (of_decide_eq_true hlt), line_cutB h, hn, if_pos rfl, digR_dec (by omega)]
    show (true, (x.1, ((x.2.toNat : Nat) : Int))) = _
    rw [Int.toNat_of_nonneg b3]
  | false =>
    rw [hn] at hlt
    rw [if_neg (of_decide_eq_false hlt)]
    show (true, (x.1, (0 : Int))) = _
    rw [← mayI_zero h hn]
theorem decS_ne (n : Nat) : decS n ≠ ⟨#[]⟩ := fun e => by
  have := congrArg bytesL e
  rw [decS_bytes] at this
  exact (dec_good n).2.2.2 this
theorem code_line {x : Int × Int} (h : mayI x = true) : codeC (lineR x) = x := by
  obtain ⟨b1, b2, b3, b4⟩ := mayI_bounds h
  unfold codeC
  rw [find_line h, line_cutB h]
  cases hn : (rowC x.1).n with
  | true =>
    rw [if_pos rfl, if_neg (decS_ne _), atoiV_dec (by omega)]
    show (x.1, ((x.2.toNat : Nat) : Int)) = _
    rw [Int.toNat_of_nonneg b3]
  | false =>
    rw [show (if false = true then decS x.2.toNat else (⟨#[]⟩ : ByteArray)) = ⟨#[]⟩ from if_neg (by simp), if_pos rfl]
    show (x.1, (0 : Int)) = _
    rw [← mayI_zero h hn]
theorem code_ref (s : ByteArray) : (mayI (codeC s) && decide (lineR (codeC s) = s)) = (refR s).1 := by
  cases hr : (refR s).1 with
  | true =>
    obtain ⟨h1, h2⟩ := ref_ok hr
    have h3 := code_line h1
    rw [h2] at h3
    rw [h3, h1, decide_eq_true h2]; rfl
  | false =>
    cases hc : (mayI (codeC s) && decide (lineR (codeC s) = s)) with
    | false => rfl
    | true =>
      rw [Bool.and_eq_true, decide_eq_true_eq] at hc
      have := ref_line hc.1
      rw [hc.2] at this
      rw [this] at hr; cases hr
theorem code_eq {s : ByteArray} (h : (refR s).1 = true) : codeC s = (refR s).2 := by
  obtain ⟨h1, h2⟩ := ref_ok h
  have h3 := code_line h1
  rw [h2] at h3
  exact h3
/-- lines, read -/
def parsesR (l : List ByteArray) : List (Int × Int) × Int × Int :=
  match (List.range l.length).find? (fun k => match l[k]? with | some s => !(refR s).1 | none => false) with
  | some k => ([], 180, (k : Int))
  | none => (l.map fun s => (refR s).2, 0, 0)
theorem parsesR_at {l : List ByteArray} {k : Nat} {s : ByteArray} (hs : l[k]? = some s) (h0 : ∀ j s, j < k → l[j]? = some s → (refR s).1 = true) (h1 : (refR s).1 = false) : parsesR l = ([], 180, (k : Int)) := by
  unfold parsesR
  rw [find_range (List.getElem?_eq_some_iff.1 hs).1 (fun j hj => ?_) (by rw [hs]; show (!(refR s).1) = true; rw [h1]; rfl)]
  obtain ⟨s', hs'⟩ : ∃ s', l[j]? = some s' := ⟨_, List.getElem?_eq_getElem (by have := (List.getElem?_eq_some_iff.1 hs).1; omega)⟩
  rw [hs']; show (!(refR s').1) = false; rw [h0 j s' hj hs']; rfl
theorem parsesR_all {l : List ByteArray} (h0 : ∀ j s, j < l.length → l[j]? = some s → (refR s).1 = true) : parsesR l = (l.map fun s => (refR s).2, 0, 0) := by
  unfold parsesR
  rw [List.find?_eq_none.2 (fun j hj => ?_)]
  have hj' : j < l.length := by simpa using hj
  obtain ⟨s', hs'⟩ : ∃ s', l[j]? = some s' := ⟨_, List.getElem?_eq_getElem hj'⟩
  rw [hs']; show ¬ (!(refR s').1) = true; rw [h0 j s' hj' hs']; simp
end Go.Proofs.YtkmigdmdppkpoaaGreatDoor.Gb
namespace Go.Proofs.YtkmigdmdppkpoaaGreatDoor.Gb
open Go Go.Proofs Go.MapKept
set_option linter.unusedVariables false
set_option linter.unusedSimpArgs false
set_option linter.unusedSectionVars false
attribute [local irreducible] Tryz.prog

theorem atoi_fn (G : Gh) (hE : Env G) (s : ByteArray) (hl : s.size ≤ 281474976710656) :
    Fn Tryz.prog 56 #[.string s] G [] fun e G' H' => ∃ v, e = .returned (.tuple #[.int .i64 (atoiV s), v]) ∧ G = G' ∧ H' = [] :=
  Fn.mono (Fn.ofExt (R := fun e => ∃ v, e = .returned (.tuple #[.int .i64 (atoiV s), v])) fun w hs _ => by
    unfold atoiV
    cases h : Lib.atoiAll s.data.toList with
    | ok v => exact (Tryz.strconv_Atoi_ok s (by omega) v h w).mono fun e w' ⟨he, hw⟩ => ⟨⟨_, he⟩, Ext2.bytes (s := s) hw⟩
    | range =>
      obtain ⟨te, pe, hv⟩ := hE.rng
      exact (Tryz.strconv_Atoi_range s hl h _ w (hs.cell0 hv) (.inr ⟨te, pe, rfl⟩)).mono fun e w' ⟨N, he, _, _, hb⟩ => ⟨⟨_, he⟩, Ext2.ofBelow hb⟩
    | _ =>
      obtain ⟨te, pe, hv⟩ := hE.syn
      exact (Tryz.strconv_Atoi_syntax s hl h _ w (hs.cell0 hv) (.inr ⟨te, pe, rfl⟩)).mono fun e w' ⟨N, he, _, _, hb⟩ => ⟨⟨_, he⟩, Ext2.ofBelow hb⟩) fun e G' H' ⟨⟨v, h⟩, h2⟩ => ⟨v, h, h2⟩

def icells (i : Int × Int) : List Value := [.int .i64 i.1, .int .i64 i.2]
def iflat (l : List (Int × Int)) : List Value := l.flatMap icells
theorem iflat_length (l : List (Int × Int)) : (iflat l).length = l.length * 2 := by
  induction l with
  | nil => rfl
  | cons v l ih => simp only [iflat, List.flatMap_cons, List.length_append, List.length_cons] at ih ⊢; rw [ih]; simp [icells]; omega
theorem iflat_append (a b : List (Int × Int)) : iflat (a ++ b) = iflat a ++ iflat b := by simp [iflat]
abbrev InsV (A : Option Addr) (l : List (Int × Int)) (cap : Nat) (x : Own) : Prop := Vec 50 2 A l.length cap (iflat l) x
theorem InsV.nil : InsV none [] 0 (.spare 0 0 0) := ⟨rfl, .inl ⟨rfl, rfl, rfl, rfl⟩⟩
theorem InsV.snoc {A : Option Addr} {l : List (Int × Int)} {cap : Nat} {x : Own} {z : Int × Int} (h : Vec 50 2 A (l.length + 1) cap (iflat l ++ [.int .i64 z.1, .int .i64 z.2]) x) : InsV A (l ++ [z]) cap x := by
  unfold InsV; rw [iflat_append, List.length_append]; exact h
theorem InsV.sl {G : Gh} {A : Option Addr} {l : List (Int × Int)} (hz : iflat l = [] ∨ ∃ b, A = some ⟨b, 0, none⟩ ∧ Cs G b 0 (iflat l)) : Sl Kd.ins G A l :=
  Sl.ofCs hz (iflat_length l) (by decide) fun i x hx => flat_elem icells 2 (fun _ => rfl) l i x hx

attribute [local irreducible] lineR refR cutA cutB findN atoiV parsesR mayR
set_option maxHeartbeats 4000000 in
theorem Parse_fn (G : Gh) (hE : Env G) (A : Option Addr) (l : List ByteArray) (cap : Nat) (hA : Sl Kd.str G A l) (hl : l.length * 16 ≤ 140737488351232) (hsz : ∀ s ∈ l, s.size ≤ 140737488351232) :
    Fn Tryz.prog 33 #[.slice A l.length cap] G [] fun e G' H' => ∃ A' cap' x', e = .returned (.tuple #[.slice A' (parsesR l).1.length cap', .agg #[.int .i64 (parsesR l).2.1, .int .i64 (parsesR l).2.2]]) ∧ G = G' ∧ InsV A' (parsesR l).1 cap' x' ∧ H' = [x'] := by
  refine Fn.enter Tryz.func33 rfl rfl fun w0 => ?_
  refine WC.seq ?_
  refine WC.region ?_
  refine WL.p (Gp.assign rfl) (by kernel_rfl) rfl ?_
  refine WL.op (by kernel_rfl) (OW.alloc rfl fun b3 => ?_)
  refine gom ?_
  refine WC.nothing ?_
  refine WC.loop (X := Nat × Option Addr × Nat × Own) (fun s => [(3, .pointer (some ⟨b3, 0, none⟩)), (4, .slice s.2.1 ((l.take s.1).map fun s => (refR s).2).length s.2.2.1), (13, .slice A l.length cap), (14, .int .i64 l.length), (15, .int .i64 s.1)]) (fun _ => G) (fun s => [s.2.2.2, .blk b3 (.cells #[.int .i64 0, .int .i64 0] 72 (0, 0))]) (fun s => l.length - s.1) (fun s => s.1 ≤ l.length ∧ InsV s.2.1 ((l.take s.1).map fun s => (refR s).2) s.2.2.1 s.2.2.2 ∧ ∀ j x, j < s.1 → l[j]? = some x → (refR x).1 = true) (0, none, 0, .spare 0 0 0) ⟨Nat.zero_le _, InsV.nil, (fun j i h => absurd h (Nat.not_lt_zero _))⟩ (by exact ⟨rfl, rfl, rfl, rfl, rfl, trivial⟩) rfl (List.Sublist.refl _) fun s hs => ?_
  obtain ⟨k, B, c, o⟩ := s
  obtain ⟨hk, hv, hall⟩ := hs
  dsimp only at hk hv hall
  have x2 := wrapS k (by omega)
  by_cases hlt : k < l.length
  rotate_left
  · have e2 : decide ((k : Int) < (l.length : Int)) = false := decide_eq_false (by omega)
    obtain rfl : k = l.length := by omega
    have hr : parsesR l = ((l.take l.length).map fun s => (refR s).2, 0, 0) := by rw [parsesR_all hall, List.take_length]
    rw [hr]
    refine gom ?_
    refine WC.ret ?_
    refine WK.un ?_
    exact QF.p2 (.inl rfl) rfl (.tmp rfl) (.cell rfl inferInstance inferInstance (by (repeat first | exact .here | apply At.there)) rfl rfl) (⟨B, c, o, rfl, rfl, hv, rfl⟩)
  have e2 : decide ((k : Int) < (l.length : Int)) = true := decide_eq_true (by omega)
  obtain ⟨s, hi⟩ : ∃ s, l[k]? = some s := ⟨_, List.getElem?_eq_getElem (by omega)⟩
  have hss := hsz s (List.mem_of_getElem? hi)
  obtain ⟨ib, io, ics, rfl, hik, hic⟩ := hA k s hi
  obtain rfl : ics = [.string s] := hik
  have x0 : (0 : Int) ≤ (k : Int) := by omega
  have x1' : (k : Int) < (l.length : Int) := by omega
  have htl : ((l.take k).map fun s => (refR s).2).length = k := by rw [List.length_map, List.length_take]; omega
  have hcs : (cutB s).size ≤ 140737488351232 := by
    unfold cutB
    split
    · rw [ByteArray.size_extract]; omega
    · exact Nat.zero_le _
  refine gom ?_
  refine WL.op (by kernel_rfl) (OW.callK rfl (cut_fn G s (by omega)) rfl fun v' G' H' h hg => ?_)
  obtain ⟨bb, he, rfl, rfl⟩ := h
  cases he
  refine gom ?_
  refine WL.op (by kernel_rfl) (OW.callK rfl (Find_fn G (cutA s)) rfl fun v' G' H' h hg => ?_)
  obtain ⟨he, rfl, rfl⟩ := h
  cases he
  refine gom ?_
  refine WL.op (by kernel_rfl) (OW.alloc rfl fun b12 => ?_)
  by_cases hb : cutB s = ⟨#[]⟩
  · have hcc : codeC s = ((findN (cutA s)).1, 0) := by unfold codeC; rw [if_pos hb]
    have hcr := code_ref s
    rw [hcc] at hcr
    have e4 : (!(cutB s == ⟨#[]⟩)) = false := by rw [bytes_beq, decide_eq_true hb]; rfl
    refine gom ?_
    rw [e4]
    refine gom ?_
    refine WL.op (by kernel_rfl) (OW.callK rfl (may_fn G (findN (cutA s)).1 0) rfl fun v' G' H' h hg => ?_)
    obtain ⟨he, rfl, rfl⟩ := h
    cases he
    cases hm : mayR (findN (cutA s)).1 0 with
    | false =>
      have hr0 : (refR s).1 = false := by rw [← hcr, show mayI ((findN (cutA s)).1, 0) = false from hm]; rfl
      rw [parsesR_at hi hall hr0]
      refine gom ?_
      refine WC.nothing ?_
      refine WC.ret ?_
      refine WK.un ?_
      exact QF.p2 (.inl rfl) rfl (.tmp rfl) (.cell rfl inferInstance inferInstance (by (repeat first | exact .here | apply At.there)) rfl rfl) (⟨none, 0, _, rfl, rfl, InsV.nil, rfl⟩)
    | true =>
    obtain ⟨b1, b2, b3', b4⟩ := mayI_bounds (i := ((findN (cutA s)).1, 0)) hm
    refine gom ?_
    refine WL.op (by kernel_rfl) (OW.callK rfl (line_fn G hE ((findN (cutA s)).1, 0) b3' b4) rfl fun v' G' H' h hg => ?_)
    obtain ⟨he, rfl, rfl⟩ := h
    cases he
    by_cases hl2 : lineR ((findN (cutA s)).1, 0) = s
    · have hr1 : (refR s).1 = true := by rw [← hcr, show mayI ((findN (cutA s)).1, 0) = true from hm, decide_eq_true hl2]; rfl
      have hx : (refR s).2 = ((findN (cutA s)).1, 0) := by rw [← code_eq hr1, hcc]
      have e3 : (!(lineR ((findN (cutA s)).1, 0) == s)) = false := by rw [bytes_beq, decide_eq_true hl2]; rfl
      refine gom ?_
      rw [e3]
      refine gom ?_
      refine WL.op (by kernel_rfl) (OW.buildSlice rfl (by kernel_rfl) (by kernel_rfl) (by rfl) rfl fun b54 => ?_)
      refine WL.op (by kernel_rfl) (OW.append rfl rfl (by kernel_rfl) (by kernel_rfl) hv (by (repeat first | exact .here | apply At.there)) (Rds.blk0 (cs := [.int .i64 (findN (cutA s)).1, .int .i64 0]) .here rfl) rfl rfl (by dsimp only; omega) (by dsimp only; omega) rfl fun A3 c3 o3 hv3 => ?_)
      have h3 := InsV.snoc (z := ((findN (cutA s)).1, 0)) hv3
      dsimp only at h3
      rw [← hx, ← map_snoc (fun s => (refR s).2) hi] at h3
      have hl3 : ((l.take k).map fun s => (refR s).2).length + 1 = ((l.take (k + 1)).map fun s => (refR s).2).length := by rw [map_snoc (fun s => (refR s).2) hi, List.length_append]; rfl
      have hst := all_step (f := fun s => (refR s).1) hi hall hr1
      refine gom ?_
      refine WK.pick [o3, .blk b3 (.cells #[.int .i64 0, .int .i64 0] 72 (0, 0))] ?_
      exact WK.again (k + 1, A3, c3, o3) (by dsimp only; omega) ⟨by dsimp only; omega, h3, hst⟩ (by exact ⟨rfl, by show _ = some (Value.slice A3 _ c3); rw [← hl3]; rfl, rfl, rfl, rfl, trivial⟩) rfl (List.Sublist.refl _)
    · have hr0 : (refR s).1 = false := by rw [← hcr, decide_eq_false hl2, Bool.and_false]
      have e3 : (!(lineR ((findN (cutA s)).1, 0) == s)) = true := by rw [bytes_beq, decide_eq_false hl2]; rfl
      rw [parsesR_at hi hall hr0]
      refine gom ?_
      rw [e3]
      refine gom ?_
      refine WC.nothing ?_
      refine WC.ret ?_
      refine WK.un ?_
      exact QF.p2 (.inl rfl) rfl (.tmp rfl) (.cell rfl inferInstance inferInstance (by (repeat first | exact .here | apply At.there)) rfl rfl) (⟨none, 0, _, rfl, rfl, InsV.nil, rfl⟩)
  · have hcc : codeC s = ((findN (cutA s)).1, atoiV (cutB s)) := by unfold codeC; rw [if_neg hb]
    have hcr := code_ref s
    rw [hcc] at hcr
    have e4 : (!(cutB s == ⟨#[]⟩)) = true := by rw [bytes_beq, decide_eq_false hb]; rfl
    refine gom ?_
    rw [e4]
    refine gom ?_
    refine WL.op (by kernel_rfl) (OW.callK rfl (atoi_fn G hE (cutB s) (by omega)) rfl fun v' G' H' h hg => ?_)
    obtain ⟨v, he, rfl, rfl⟩ := h
    cases he
    refine gom ?_
    refine WL.op (by kernel_rfl) (OW.callK rfl (may_fn G (findN (cutA s)).1 (atoiV (cutB s))) rfl fun v' G' H' h hg => ?_)
    obtain ⟨he, rfl, rfl⟩ := h
    cases he
    cases hm : mayR (findN (cutA s)).1 (atoiV (cutB s)) with
    | false =>
      have hr0 : (refR s).1 = false := by rw [← hcr, show mayI ((findN (cutA s)).1, (atoiV (cutB s))) = false from hm]; rfl
      rw [parsesR_at hi hall hr0]
      refine gom ?_
      refine WC.nothing ?_
      refine WC.ret ?_
      refine WK.un ?_
      exact QF.p2 (.inl rfl) rfl (.tmp rfl) (.cell rfl inferInstance inferInstance (by (repeat first | exact .here | apply At.there)) rfl rfl) (⟨none, 0, _, rfl, rfl, InsV.nil, rfl⟩)
    | true =>
    obtain ⟨b1, b2, b3', b4⟩ := mayI_bounds (i := ((findN (cutA s)).1, (atoiV (cutB s)))) hm
    refine gom ?_
    refine WL.op (by kernel_rfl) (OW.callK rfl (line_fn G hE ((findN (cutA s)).1, (atoiV (cutB s))) b3' b4) rfl fun v' G' H' h hg => ?_)
    obtain ⟨he, rfl, rfl⟩ := h
    cases he
    by_cases hl2 : lineR ((findN (cutA s)).1, (atoiV (cutB s))) = s
    · have hr1 : (refR s).1 = true := by rw [← hcr, show mayI ((findN (cutA s)).1, (atoiV (cutB s))) = true from hm, decide_eq_true hl2]; rfl
      have hx : (refR s).2 = ((findN (cutA s)).1, (atoiV (cutB s))) := by rw [← code_eq hr1, hcc]
      have e3 : (!(lineR ((findN (cutA s)).1, (atoiV (cutB s))) == s)) = false := by rw [bytes_beq, decide_eq_true hl2]; rfl
      refine gom ?_
      rw [e3]
      refine gom ?_
      refine WL.op (by kernel_rfl) (OW.buildSlice rfl (by kernel_rfl) (by kernel_rfl) (by rfl) rfl fun b54 => ?_)
      refine WL.op (by kernel_rfl) (OW.append rfl rfl (by kernel_rfl) (by kernel_rfl) hv (by (repeat first | exact .here | apply At.there)) (Rds.blk0 (cs := [.int .i64 (findN (cutA s)).1, .int .i64 (atoiV (cutB s))]) .here rfl) rfl rfl (by dsimp only; omega) (by dsimp only; omega) rfl fun A3 c3 o3 hv3 => ?_)
      have h3 := InsV.snoc (z := ((findN (cutA s)).1, (atoiV (cutB s)))) hv3
      dsimp only at h3
      rw [← hx, ← map_snoc (fun s => (refR s).2) hi] at h3
      have hl3 : ((l.take k).map fun s => (refR s).2).length + 1 = ((l.take (k + 1)).map fun s => (refR s).2).length := by rw [map_snoc (fun s => (refR s).2) hi, List.length_append]; rfl
      have hst := all_step (f := fun s => (refR s).1) hi hall hr1
      refine gom ?_
      refine WK.pick [o3, .blk b3 (.cells #[.int .i64 0, .int .i64 0] 72 (0, 0))] ?_
      exact WK.again (k + 1, A3, c3, o3) (by dsimp only; omega) ⟨by dsimp only; omega, h3, hst⟩ (by exact ⟨rfl, by show _ = some (Value.slice A3 _ c3); rw [← hl3]; rfl, rfl, rfl, rfl, trivial⟩) rfl (List.Sublist.refl _)
    · have hr0 : (refR s).1 = false := by rw [← hcr, decide_eq_false hl2, Bool.and_false]
      have e3 : (!(lineR ((findN (cutA s)).1, (atoiV (cutB s))) == s)) = true := by rw [bytes_beq, decide_eq_false hl2]; rfl
      rw [parsesR_at hi hall hr0]
      refine gom ?_
      rw [e3]
      refine gom ?_
      refine WC.nothing ?_
      refine WC.ret ?_
      refine WK.un ?_
      exact QF.p2 (.inl rfl) rfl (.tmp rfl) (.cell rfl inferInstance inferInstance (by (repeat first | exact .here | apply At.there)) rfl rfl) (⟨none, 0, _, rfl, rfl, InsV.nil, rfl⟩)
end Go.Proofs.YtkmigdmdppkpoaaGreatDoor.Gb
namespace Go.Proofs.YtkmigdmdppkpoaaGreatDoor.Gb
open Go Go.Proofs Go.MapKept
set_option linter.unusedVariables false
set_option linter.unusedSimpArgs false
set_option linter.unusedSectionVars false
section
variable {P : Program} {L : List (Nat × Value)} {d : Option Tmp} {ty : TypeId} {pos : String} {af : Array Edge} {gu : Option (Nat × Bool)}
theorem Gp.mulTo {t t' : TypeId} {x y : Operand} {k : IntKind} {m n r : Int} (hx : ev L x = some (.int k m)) (hy : ev L y = some (.int k n)) (h : k.wrap (m * n) = r) : Gp P L ⟨d, .binOp .mul t x y t', ty, pos, af, gu⟩ (.int k r) := h ▸ Gp.mul hx hy
theorem Gp.subTo {t t' : TypeId} {x y : Operand} {k : IntKind} {m n r : Int} (hx : ev L x = some (.int k m)) (hy : ev L y = some (.int k n)) (h : k.wrap (m - n) = r) : Gp P L ⟨d, .binOp .sub t x y t', ty, pos, af, gu⟩ (.int k r) := h ▸ Gp.sub hx hy
end
attribute [local irreducible] Tryz.prog
theorem digR_no {s : ByteArray} (h : s.size = 0 ∨ 10 < s.size ∨ (1 < s.size ∧ (bytesL s).head? = some 48)) : digR s = (0, false) := by unfold digR; rw [if_pos h]
theorem digR_bad {s : ByteArray} {i : Nat} {c : UInt8} (hc : (bytesL s)[i]? = some c) (h : isD c = false) : digR s = (0, false) := by
  unfold digR
  split
  · rfl
  · rw [if_neg]
    intro ha
    have := List.all_eq_true.1 ha c (List.mem_of_getElem? hc)
    rw [h] at this; cases this
theorem head_get {l : List UInt8} : l.head? = l[0]? := by cases l <;> rfl
attribute [local irreducible] digR valL
set_option maxHeartbeats 2000000 in
theorem digits_fn (G : Gh) (s : ByteArray) (hl : s.size ≤ 140737488355328) : Fn Tryz.prog 57 #[.string s] G [] fun e G' H' => e = .returned (.tuple #[.int .i64 (digR s).1, .bool (digR s).2]) ∧ G = G' ∧ H' = [] := by
  have hbl := bytesL_length s
  refine Fn.enter Tryz.func57 rfl rfl fun w0 => ?_
  by_cases h0 : s.size = 0
  · have e1 : ((s.size : Int) == 0) = true := by rw [h0]; rfl
    rw [digR_no (.inl h0)]
    refine gom ?_
    refine WC.ret ?_
    refine WK.un ?_
    exact QF.p2 (.inl rfl) rfl (.tmp rfl) (.tmp rfl) (⟨rfl, rfl, rfl⟩)
  have e1 : ((s.size : Int) == 0) = false := by rw [beq_eq_false_iff_ne]; omega
  by_cases h1 : 10 < s.size
  · have e2 : decide ((10 : Int) < (s.size : Int)) = true := decide_eq_true (by omega)
    rw [digR_no (.inr (.inl h1))]
    refine gom ?_
    refine WC.ret ?_
    refine WK.un ?_
    exact QF.p2 (.inl rfl) rfl (.tmp rfl) (.tmp rfl) (⟨rfl, rfl, rfl⟩)
  have e2 : decide ((10 : Int) < (s.size : Int)) = false := decide_eq_false (by omega)
  obtain ⟨c0, hc0⟩ : ∃ c, (bytesL s)[0]? = some c := ⟨_, List.getElem?_eq_getElem (by omega)⟩
  have v0 : valL ([] : List UInt8) = 0 := by unfold valL; rfl
  have v0lt : valL ((bytesL s).take 0) < 10 ^ 0 := by rw [List.take_zero, v0]; decide
  have x9 : (0 : Int) ≤ 0 := by decide
  by_cases h2 : 1 < s.size
  · have e3 : decide ((1 : Int) < (s.size : Int)) = true := decide_eq_true (by omega)
    refine gom ?_
    refine WL.p (Gp.indexS rfl rfl (by decide) (show (bytesL s)[(0 : Int).toNat]? = some c0 from hc0)) (by kernel_rfl) rfl ?_
    by_cases h3 : c0.toNat = 48
    · have e4 : ((c0.toNat : Int) == 48) = true := by rw [h3]; rfl
      rw [digR_no (.inr (.inr ⟨h2, by rw [head_get, hc0]; congr 1; exact UInt8.toNat_inj.1 h3⟩))]
      refine gom ?_
      refine WC.ret ?_
      refine WK.un ?_
      exact QF.p2 (.inl rfl) rfl (.tmp rfl) (.tmp rfl) (⟨rfl, rfl, rfl⟩)
    have e4 : ((c0.toNat : Int) == 48) = false := by rw [beq_eq_false_iff_ne]; omega
    have hno : ¬ (s.size = 0 ∨ 10 < s.size ∨ (1 < s.size ∧ (bytesL s).head? = some 48)) := by
      rintro (h | h | ⟨_, h⟩)
      · exact h0 h
      · exact h1 h
      · rw [head_get, hc0] at h; exact h3 (congrArg UInt8.toNat (Option.some.inj h))
    refine gom ?_
    refine WC.loop (X := Nat) (fun i => [(0, .string s), (4, .int .i64 ((valL ((bytesL s).take i) : Nat) : Int)), (5, .int .i64 (i : Int))]) (fun _ => G) (fun _ => []) (fun i => s.size - i) (fun i => i ≤ s.size ∧ (∀ j c, j < i → (bytesL s)[j]? = some c → isD c = true) ∧ valL ((bytesL s).take i) < 10 ^ i) 0 ⟨Nat.zero_le _, (fun j c h => absurd h (Nat.not_lt_zero _)), v0lt⟩ (by exact ⟨rfl, by show _ = some (Value.int .i64 _); rw [List.take_zero, v0]; rfl, rfl, trivial⟩) rfl (List.Sublist.refl _) fun i hx => ?_
    obtain ⟨hi, hall, hv⟩ := hx
    have hp10 : 10 ^ i ≤ 10 ^ 10 := Nat.pow_le_pow_right (by decide) (by omega)
    by_cases hlt : i < s.size
    rotate_left
    · have e5 : decide ((i : Int) < (s.size : Int)) = false := decide_eq_false (by omega)
      have hr : digR s = (((valL ((bytesL s).take i) : Nat) : Int), decide (((valL ((bytesL s).take i) : Nat) : Int) ≤ 2147483647)) := by
        rw [List.take_of_length_le (by omega)]
        unfold digR
        rw [if_neg hno, if_pos (all_of (f := isD) hall (by omega))]
      rw [hr]
      refine gom ?_
      refine WC.ret ?_
      refine WK.un ?_
      exact QF.p2 (.inl rfl) rfl (.tmp rfl) (.tmp rfl) (⟨rfl, rfl, rfl⟩)
    have e5 : decide ((i : Int) < (s.size : Int)) = true := decide_eq_true (by omega)
    obtain ⟨c, hc⟩ : ∃ c, (bytesL s)[i]? = some c := ⟨_, List.getElem?_eq_getElem (by omega)⟩
    have x0 : (0 : Int) ≤ (i : Int) := by omega
    have x2 := wrapS i (by omega)
    have hp9 : 10 ^ i ≤ 10 ^ 9 := Nat.pow_le_pow_right (by decide) (by omega)
    refine gom ?_
    refine WL.p (Gp.indexS rfl rfl (by omega) hc) (by kernel_rfl) rfl ?_
    by_cases h48 : c.toNat < 48
    · have e6 : decide ((c.toNat : Int) < 48) = true := decide_eq_true (by omega)
      have hd : isD c = false := by unfold isD; rw [decide_eq_false (by omega)]; rfl
      rw [digR_bad hc hd]
      refine gom ?_
      refine WC.ret ?_
      refine WK.un ?_
      exact QF.p2 (.inl rfl) rfl (.tmp rfl) (.tmp rfl) (⟨rfl, rfl, rfl⟩)
    have e6 : decide ((c.toNat : Int) < 48) = false := decide_eq_false (by omega)
    refine gom ?_
    refine WL.p (Gp.indexS rfl rfl (by omega) hc) (by kernel_rfl) rfl ?_
    by_cases h57 : 57 < c.toNat
    · have e7 : decide ((57 : Int) < (c.toNat : Int)) = true := decide_eq_true (by omega)
      have hd : isD c = false := by unfold isD; rw [decide_eq_false (show ¬ c.toNat ≤ 57 by omega), Bool.and_false]
      rw [digR_bad hc hd]
      refine gom ?_
      refine WC.ret ?_
      refine WK.un ?_
      exact QF.p2 (.inl rfl) rfl (.tmp rfl) (.tmp rfl) (⟨rfl, rfl, rfl⟩)
    have e7 : decide ((57 : Int) < (c.toNat : Int)) = false := decide_eq_false (by omega)
    have hd : isD c = true := by unfold isD; rw [decide_eq_true (show 48 ≤ c.toNat by omega), decide_eq_true (show c.toNat ≤ 57 by omega)]; rfl
    have hvs : valL ((bytesL s).take (i + 1)) = 10 * valL ((bytesL s).take i) + (c.toNat - 48) := by rw [take_snoc' hc, valL_snoc]
    have hps : 10 ^ (i + 1) = 10 * 10 ^ i := by rw [Nat.pow_succ]; omega
    have x6 : IntKind.i64.wrap (((10 * valL ((bytesL s).take i) : Nat) : Int) + ((c.toNat - 48 : Nat) : Int)) = ((valL ((bytesL s).take (i + 1)) : Nat) : Int) := by rw [hvs, wrapI (by omega) (by omega)]; omega
    refine gom ?_
    refine WL.p (Gp.mulTo (r := ((10 * valL ((bytesL s).take i) : Nat) : Int)) rfl rfl (by rw [wrapI (by omega) (by omega)]; omega)) (by kernel_rfl) rfl ?_
    refine gom ?_
    refine WL.p (Gp.indexS rfl rfl (by omega) hc) (by kernel_rfl) rfl ?_
    refine WL.p (Gp.subTo (r := ((c.toNat - 48 : Nat) : Int)) rfl rfl (by rw [show (c.toNat : Int) - 48 = ((c.toNat - 48 : Nat) : Int) by omega, u8w, Nat.mod_eq_of_lt (by omega)])) (by kernel_rfl) rfl ?_
    refine WL.p (Gp.convTo (r := ((c.toNat - 48 : Nat) : Int)) rfl (by rw [wrapI (by omega) (by omega)])) (by kernel_rfl) rfl ?_
    refine gom ?_
    exact WK.again (i + 1) (by omega) ⟨by omega, all_step (f := isD) hc hall hd, by rw [hvs, hps]; omega⟩ (by exact ⟨rfl, rfl, rfl, trivial⟩) rfl (List.Sublist.refl _)
  · have e3 : decide ((1 : Int) < (s.size : Int)) = false := decide_eq_false (by omega)
    have hno : ¬ (s.size = 0 ∨ 10 < s.size ∨ (1 < s.size ∧ (bytesL s).head? = some 48)) := by
      rintro (h | h | ⟨h, _⟩)
      · exact h0 h
      · exact h1 h
      · exact h2 h
    refine gom ?_
    refine WC.loop (X := Nat) (fun i => [(0, .string s), (4, .int .i64 ((valL ((bytesL s).take i) : Nat) : Int)), (5, .int .i64 (i : Int))]) (fun _ => G) (fun _ => []) (fun i => s.size - i) (fun i => i ≤ s.size ∧ (∀ j c, j < i → (bytesL s)[j]? = some c → isD c = true) ∧ valL ((bytesL s).take i) < 10 ^ i) 0 ⟨Nat.zero_le _, (fun j c h => absurd h (Nat.not_lt_zero _)), v0lt⟩ (by exact ⟨rfl, by show _ = some (Value.int .i64 _); rw [List.take_zero, v0]; rfl, rfl, trivial⟩) rfl (List.Sublist.refl _) fun i hx => ?_
    obtain ⟨hi, hall, hv⟩ := hx
    have hp10 : 10 ^ i ≤ 10 ^ 10 := Nat.pow_le_pow_right (by decide) (by omega)
    by_cases hlt : i < s.size
    rotate_left
    · have e5 : decide ((i : Int) < (s.size : Int)) = false := decide_eq_false (by omega)
      have hr : digR s = (((valL ((bytesL s).take i) : Nat) : Int), decide (((valL ((bytesL s).take i) : Nat) : Int) ≤ 2147483647)) := by
        rw [List.take_of_length_le (by omega)]
        unfold digR
        rw [if_neg hno, if_pos (all_of (f := isD) hall (by omega))]
      rw [hr]
      refine gom ?_
      refine WC.ret ?_
      refine WK.un ?_
      exact QF.p2 (.inl rfl) rfl (.tmp rfl) (.tmp rfl) (⟨rfl, rfl, rfl⟩)
    have e5 : decide ((i : Int) < (s.size : Int)) = true := decide_eq_true (by omega)
    obtain ⟨c, hc⟩ : ∃ c, (bytesL s)[i]? = some c := ⟨_, List.getElem?_eq_getElem (by omega)⟩
    have x0 : (0 : Int) ≤ (i : Int) := by omega
    have x2 := wrapS i (by omega)
    have hp9 : 10 ^ i ≤ 10 ^ 9 := Nat.pow_le_pow_right (by decide) (by omega)
    refine gom ?_
    refine WL.p (Gp.indexS rfl rfl (by omega) hc) (by kernel_rfl) rfl ?_
    by_cases h48 : c.toNat < 48
    · have e6 : decide ((c.toNat : Int) < 48) = true := decide_eq_true (by omega)
      have hd : isD c = false := by unfold isD; rw [decide_eq_false (by omega)]; rfl
      rw [digR_bad hc hd]
      refine gom ?_
      refine WC.ret ?_
      refine WK.un ?_
      exact QF.p2 (.inl rfl) rfl (.tmp rfl) (.tmp rfl) (⟨rfl, rfl, rfl⟩)
    have e6 : decide ((c.toNat : Int) < 48) = false := decide_eq_false (by omega)
    refine gom ?_
    refine WL.p (Gp.indexS rfl rfl (by omega) hc) (by kernel_rfl) rfl ?_
    by_cases h57 : 57 < c.toNat
    · have e7 : decide ((57 : Int) < (c.toNat : Int)) = true := decide_eq_true (by omega)
      have hd : isD c = false := by unfold isD; rw [decide_eq_false (show ¬ c.toNat ≤ 57 by omega), Bool.and_false]
      rw [digR_bad hc hd]
      refine gom ?_
      refine WC.ret ?_
      refine WK.un ?_
      exact QF.p2 (.inl rfl) rfl (.tmp rfl) (.tmp rfl) (⟨rfl, rfl, rfl⟩)
    have e7 : decide ((57 : Int) < (c.toNat : Int)) = false := decide_eq_false (by omega)
    have hd : isD c = true := by unfold isD; rw [decide_eq_true (show 48 ≤ c.toNat by omega), decide_eq_true (show c.toNat ≤ 57 by omega)]; rfl
    have hvs : valL ((bytesL s).take (i + 1)) = 10 * valL ((bytesL s).take i) + (c.toNat - 48) := by rw [take_snoc' hc, valL_snoc]
    have hps : 10 ^ (i + 1) = 10 * 10 ^ i := by rw [Nat.pow_succ]; omega
    have x6 : IntKind.i64.wrap (((10 * valL ((bytesL s).take i) : Nat) : Int) + ((c.toNat - 48 : Nat) : Int)) = ((valL ((bytesL s).take (i + 1)) : Nat) : Int) := by rw [hvs, wrapI (by omega) (by omega)]; omega
    refine gom ?_
    refine WL.p (Gp.mulTo (r := ((10 * valL ((bytesL s).take i) : Nat) : Int)) rfl rfl (by rw [wrapI (by omega) (by omega)]; omega)) (by kernel_rfl) rfl ?_
    refine gom ?_
    refine WL.p (Gp.indexS rfl rfl (by omega) hc) (by kernel_rfl) rfl ?_
    refine WL.p (Gp.subTo (r := ((c.toNat - 48 : Nat) : Int)) rfl rfl (by rw [show (c.toNat : Int) - 48 = ((c.toNat - 48 : Nat) : Int) by omega, u8w, Nat.mod_eq_of_lt (by omega)])) (by kernel_rfl) rfl ?_
    refine WL.p (Gp.convTo (r := ((c.toNat - 48 : Nat) : Int)) rfl (by rw [wrapI (by omega) (by omega)])) (by kernel_rfl) rfl ?_
    refine gom ?_
    exact WK.again (i + 1) (by omega) ⟨by omega, all_step (f := isD) hc hall hd, by rw [hvs, hps]; omega⟩ (by exact ⟨rfl, rfl, rfl, trivial⟩) rfl (List.Sublist.refl _)
end Go.Proofs.YtkmigdmdppkpoaaGreatDoor.Gb
namespace Go.Proofs.YtkmigdmdppkpoaaGreatDoor.Gb
open Go Go.Proofs Go.MapKept
set_option linter.unusedVariables false
set_option linter.unusedSimpArgs false
set_option linter.unusedSectionVars false
attribute [local irreducible] Tryz.prog
attribute [local irreducible] lineR refR cutA cutB findN parsesR digR spK rowC
set_option maxHeartbeats 4000000 in
theorem rParse_fn (G : Gh) (A : Option Addr) (l : List ByteArray) (cap : Nat) (hA : Sl Kd.str G A l) (hl : l.length * 16 ≤ 140737488351232) (hsz : ∀ s ∈ l, s.size ≤ 140737488351232) :
    Fn Tryz.prog 34 #[.slice A l.length cap] G [] fun e G' H' => ∃ A' cap' x', e = .returned (.tuple #[.slice A' (parsesR l).1.length cap', .agg #[.int .i64 (parsesR l).2.1, .int .i64 (parsesR l).2.2]]) ∧ G.le G' ∧ InsV A' (parsesR l).1 cap' x' ∧ H' = [x'] := by
  refine Fn.enter Tryz.func34 rfl rfl fun w0 => ?_
  refine WC.seq ?_
  refine WC.region ?_
  refine WL.p (Gp.assign rfl) (by kernel_rfl) rfl ?_
  refine WL.op (by kernel_rfl) (OW.alloc rfl fun b3 => ?_)
  refine gom ?_
  refine WC.nothing ?_
  refine WC.loop (X := Nat × Option Addr × Nat × Own × Gh) (fun s => [(0, .slice A l.length cap), (3, .pointer (some ⟨b3, 0, none⟩)), (4, .slice s.2.1 ((l.take s.1).map fun s => (refR s).2).length s.2.2.1), (5, .int .i64 s.1)]) (fun s => s.2.2.2.2) (fun s => [s.2.2.2.1, .blk b3 (.cells #[.int .i64 0, .int .i64 0] 72 (0, 0))]) (fun s => l.length - s.1) (fun s => s.1 ≤ l.length ∧ G.le s.2.2.2.2 ∧ InsV s.2.1 ((l.take s.1).map fun s => (refR s).2) s.2.2.1 s.2.2.2.1 ∧ ∀ j x, j < s.1 → l[j]? = some x → (refR x).1 = true) (0, none, 0, .spare 0 0 0, G) ⟨Nat.zero_le _, Gh.le_refl _, InsV.nil, (fun j i h => absurd h (Nat.not_lt_zero _))⟩ (by exact ⟨rfl, rfl, rfl, rfl, trivial⟩) rfl (List.Sublist.refl _) fun s hs => ?_
  obtain ⟨k, B, c, o, G1⟩ := s
  obtain ⟨hk, hg1, hv, hall⟩ := hs
  dsimp only at hk hg1 hv hall
  have x2 := wrapS k (by omega)
  by_cases hlt : k < l.length
  rotate_left
  · have e2 : decide ((k : Int) < (l.length : Int)) = false := decide_eq_false (by omega)
    obtain rfl : k = l.length := by omega
    have hr : parsesR l = ((l.take l.length).map fun s => (refR s).2, 0, 0) := by rw [parsesR_all hall, List.take_length]
    rw [hr]
    refine gom ?_
    refine WC.ret ?_
    refine WK.un ?_
    exact QF.p2 (.inl rfl) rfl (.tmp rfl) (.cell rfl inferInstance inferInstance (by (repeat first | exact .here | apply At.there)) rfl rfl) (⟨B, c, o, rfl, hg1, hv, rfl⟩)
  have e2 : decide ((k : Int) < (l.length : Int)) = true := decide_eq_true (by omega)
  obtain ⟨s, hi⟩ : ∃ s, l[k]? = some s := ⟨_, List.getElem?_eq_getElem (by omega)⟩
  have hss := hsz s (List.mem_of_getElem? hi)
  obtain ⟨ib, io, ics, rfl, hik, hic0⟩ := hA k s hi
  obtain rfl : ics = [.string s] := hik
  have hic := hic0.mono hg1
  have x0 : (0 : Int) ≤ (k : Int) := by omega
  have x1' : (k : Int) < (l.length : Int) := by omega
  have htl : ((l.take k).map fun s => (refR s).2).length = k := by rw [List.length_map, List.length_take]; omega
  have hbl := bytesL_length s
  have hcs : (cutB s).size ≤ 140737488351232 := by
    unfold cutB
    split
    · rw [ByteArray.size_extract]; omega
    · exact Nat.zero_le _
  refine gom ?_
  refine WC.loop (X := Nat) (fun i => [(0, .slice (some ⟨ib, io, none⟩) l.length cap), (3, .pointer (some ⟨b3, 0, none⟩)), (4, .slice B ((l.take k).map fun s => (refR s).2).length c), (5, .int .i64 (k : Int)), (6, .string s), (7, .int .i64 (i : Int))]) (fun _ => G1) (fun _ => [o, .blk b3 (.cells #[.int .i64 0, .int .i64 0] 72 (0, 0))]) (fun i => s.size - i) (fun i => i ≤ s.size ∧ ∀ j c, j < i → (bytesL s)[j]? = some c → nspN c.toNat = true) 0 ⟨Nat.zero_le _, (fun j c h => absurd h (Nat.not_lt_zero _))⟩ (by exact ⟨rfl, rfl, rfl, rfl, rfl, rfl, trivial⟩) rfl (List.Sublist.refl _) fun i hx => ?_
  obtain ⟨hile, hns⟩ := hx
  have z2 : IntKind.i64.wrap ((i : Int) + 1) = ((i + 1 : Nat) : Int) := by rw [wrapI (by omega) (by omega)]; rfl
  have z0 : (0 : Int) ≤ (i : Int) := by omega
  by_cases hl2 : i < s.size
  rotate_left
  · have hsp : spK s = i := by
      unfold spK
      exact runL_at hns (by omega) (fun c hc => by have := (List.getElem?_eq_some_iff.1 hc).1; omega)
    have hA2 : s.extract 0 i = cutA s := by unfold cutA; rw [hsp]
    have y5 : decide ((i : Int) < (s.size : Int)) = false := decide_eq_false (by omega)
    refine gom ?_
    refine WL.p (Gp.sliceSTo rfl rfl (by omega) (by omega)) (by kernel_rfl) rfl ?_
    rw [Int.toNat_natCast, hA2]
    refine WL.op (by kernel_rfl) (OW.callK rfl (rFind_fn G1 (cutA s)) rfl fun v' G' H' h hg => ?_)
    obtain ⟨he, hg2, rfl⟩ := h
    cases he
    have hg3 := Gh.le_trans hg1 hg2
    refine gom ?_
    refine WL.op (by kernel_rfl) (OW.alloc rfl fun b10 => ?_)
    cases hf : ((findN (cutA s)).2 == 0) with
    | false =>
      have hr0 : (refR s).1 = false := by unfold refR; rw [hf, Bool.false_and]; rfl
      rw [parsesR_at hi hall hr0]
      refine gom ?_
      refine WC.nothing ?_
      refine WC.ret ?_
      refine WK.un ?_
      exact QF.p2 (.inl rfl) rfl (.tmp rfl) (.cell rfl inferInstance inferInstance (by (repeat first | exact .here | apply At.there)) rfl rfl) (⟨none, 0, _, rfl, hg3, InsV.nil, rfl⟩)
    | true =>
    refine gom ?_
    refine WL.op (by kernel_rfl) (OW.callK rfl (numb_fn _ _ (findN (cutA s)).1) rfl fun v' G' H' h hg => ?_)
    obtain ⟨he, rfl, rfl⟩ := h
    cases he
    cases hn : (rowC (findN (cutA s)).1).n with
    | true =>
      have hr0 : (refR s).1 = false := by unfold refR; rw [hf, hn, hsp, decide_eq_false hl2]; rfl
      rw [parsesR_at hi hall hr0]
      refine gom ?_
      refine WC.nothing ?_
      refine WC.ret ?_
      refine WK.un ?_
      exact QF.p2 (.inl rfl) rfl (.tmp rfl) (.cell rfl inferInstance inferInstance (by (repeat first | exact .here | apply At.there)) rfl rfl) (⟨none, 0, _, rfl, hg3, InsV.nil, rfl⟩)
    | false =>
    have hrr : refR s = (true, ((findN (cutA s)).1, 0)) := by unfold refR; rw [hf, hn, hsp, decide_eq_false hl2, if_pos (by rfl), if_neg hl2]
    have hr1 : (refR s).1 = true := by rw [hrr]
    have hx : (refR s).2 = ((findN (cutA s)).1, 0) := by rw [hrr]
    refine gom ?_
    refine WL.op (by kernel_rfl) (OW.buildSlice rfl (by kernel_rfl) (by kernel_rfl) (by rfl) rfl fun b76 => ?_)
    refine WL.op (by kernel_rfl) (OW.append rfl rfl (by kernel_rfl) (by kernel_rfl) hv (by (repeat first | exact .here | apply At.there)) (Rds.blk0 (cs := [.int .i64 (findN (cutA s)).1, .int .i64 0]) .here rfl) rfl rfl (by first | omega | (dsimp only; omega)) (by first | omega | (dsimp only; omega)) rfl fun A3 c3 o3 hv3 => ?_)
    have h3 := InsV.snoc (z := ((findN (cutA s)).1, 0)) hv3
    try dsimp only at h3
    rw [← hx, ← map_snoc (fun s => (refR s).2) hi] at h3
    have hl3 : ((l.take k).map fun s => (refR s).2).length + 1 = ((l.take (k + 1)).map fun s => (refR s).2).length := by rw [map_snoc (fun s => (refR s).2) hi, List.length_append]; rfl
    have hst := all_step (f := fun s => (refR s).1) hi hall hr1
    refine gom ?_
    refine WK.pick [o3, .blk b3 (.cells #[.int .i64 0, .int .i64 0] 72 (0, 0))] ?_
    exact WK.again (k + 1, A3, c3, o3, _) (by dsimp only; omega) ⟨by dsimp only; omega, hg3, h3, hst⟩ (by exact ⟨rfl, rfl, by show _ = some (Value.slice A3 _ c3); rw [← hl3]; rfl, rfl, trivial⟩) rfl (List.Sublist.refl _)
  have y5' : decide ((i : Int) < (s.size : Int)) = true := decide_eq_true (by omega)
  obtain ⟨ch, hch⟩ : ∃ c, (bytesL s)[i]? = some c := ⟨_, List.getElem?_eq_getElem (by omega)⟩
  refine gom ?_
  refine WL.p (Gp.indexS rfl rfl (by omega) hch) (by kernel_rfl) rfl ?_
  cases h32 : ((ch.toNat : Int) != 32) with
  | true =>
    refine gom ?_
    exact WK.again (i + 1) (by omega) ⟨by omega, all_step (f := fun c : UInt8 => nspN c.toNat) hch hns h32⟩ (by exact ⟨rfl, rfl, rfl, rfl, rfl, rfl, trivial⟩) rfl (List.Sublist.refl _)
  | false =>
    have hsp : spK s = i := by
      unfold spK
      exact runL_at hns (by omega) (fun c hc => by rw [hch] at hc; rw [← Option.some.inj hc]; exact h32)
    have hA2 : s.extract 0 i = cutA s := by unfold cutA; rw [hsp]
    have y5 : decide ((i : Int) < (s.size : Int)) = true := decide_eq_true (by omega)
    have hB2 : s.extract (i + 1) s.size = cutB s := by unfold cutB; rw [hsp, if_pos hl2]
    refine gom ?_
    refine WL.p (Gp.sliceSTo rfl rfl (by omega) (by omega)) (by kernel_rfl) rfl ?_
    rw [Int.toNat_natCast, hA2]
    refine WL.op (by kernel_rfl) (OW.callK rfl (rFind_fn G1 (cutA s)) rfl fun v' G' H' h hg => ?_)
    obtain ⟨he, hg2, rfl⟩ := h
    cases he
    have hg3 := Gh.le_trans hg1 hg2
    refine gom ?_
    refine WL.op (by kernel_rfl) (OW.alloc rfl fun b10 => ?_)
    cases hf : ((findN (cutA s)).2 == 0) with
    | false =>
      have hr0 : (refR s).1 = false := by unfold refR; rw [hf, Bool.false_and]; rfl
      rw [parsesR_at hi hall hr0]
      refine gom ?_
      refine WC.nothing ?_
      refine WC.ret ?_
      refine WK.un ?_
      exact QF.p2 (.inl rfl) rfl (.tmp rfl) (.cell rfl inferInstance inferInstance (by (repeat first | exact .here | apply At.there)) rfl rfl) (⟨none, 0, _, rfl, hg3, InsV.nil, rfl⟩)
    | true =>
    refine gom ?_
    refine WL.op (by kernel_rfl) (OW.callK rfl (numb_fn _ _ (findN (cutA s)).1) rfl fun v' G' H' h hg => ?_)
    obtain ⟨he, rfl, rfl⟩ := h
    cases he
    cases hn : (rowC (findN (cutA s)).1).n with
    | false =>
      have hr0 : (refR s).1 = false := by unfold refR; rw [hf, hn, hsp, decide_eq_true hl2]; rfl
      rw [parsesR_at hi hall hr0]
      refine gom ?_
      refine WC.nothing ?_
      refine WC.ret ?_
      refine WK.un ?_
      exact QF.p2 (.inl rfl) rfl (.tmp rfl) (.cell rfl inferInstance inferInstance (by (repeat first | exact .here | apply At.there)) rfl rfl) (⟨none, 0, _, rfl, hg3, InsV.nil, rfl⟩)
    | true =>
    have hrr : refR s = ((digR (cutB s)).2, ((findN (cutA s)).1, (digR (cutB s)).1)) := by unfold refR; rw [hf, hn, hsp, decide_eq_true hl2, if_pos (by rfl), if_pos hl2]
    have z3 : IntKind.i64.wrap ((i : Int) + 1) = ((i + 1 : Nat) : Int) := z2
    refine gom ?_
    refine WL.p (Gp.sliceSFrom rfl rfl (by omega) (by omega)) (by kernel_rfl) rfl ?_
    rw [Int.toNat_natCast, hB2]
    refine WL.op (by kernel_rfl) (OW.callK rfl (digits_fn _ (cutB s) (by omega)) rfl fun v' G' H' h hg => ?_)
    obtain ⟨he, rfl, rfl⟩ := h
    cases he
    cases hd : (digR (cutB s)).2 with
    | false =>
      have hr0 : (refR s).1 = false := by rw [hrr]; exact hd
      rw [parsesR_at hi hall hr0]
      refine gom ?_
      refine WC.nothing ?_
      refine WC.ret ?_
      refine WK.un ?_
      exact QF.p2 (.inl rfl) rfl (.tmp rfl) (.cell rfl inferInstance inferInstance (by (repeat first | exact .here | apply At.there)) rfl rfl) (⟨none, 0, _, rfl, hg3, InsV.nil, rfl⟩)
    | true =>
      have hr1 : (refR s).1 = true := by rw [hrr]; exact hd
      have hx : (refR s).2 = ((findN (cutA s)).1, (digR (cutB s)).1) := by rw [hrr]
      refine gom ?_
      refine WL.op (by kernel_rfl) (OW.buildSlice rfl (by kernel_rfl) (by kernel_rfl) (by rfl) rfl fun b76 => ?_)
      refine WL.op (by kernel_rfl) (OW.append rfl rfl (by kernel_rfl) (by kernel_rfl) hv (by (repeat first | exact .here | apply At.there)) (Rds.blk0 (cs := [.int .i64 (findN (cutA s)).1, .int .i64 (digR (cutB s)).1]) .here rfl) rfl rfl (by first | omega | (dsimp only; omega)) (by first | omega | (dsimp only; omega)) rfl fun A3 c3 o3 hv3 => ?_)
      have h3 := InsV.snoc (z := ((findN (cutA s)).1, (digR (cutB s)).1)) hv3
      try dsimp only at h3
      rw [← hx, ← map_snoc (fun s => (refR s).2) hi] at h3
      have hl3 : ((l.take k).map fun s => (refR s).2).length + 1 = ((l.take (k + 1)).map fun s => (refR s).2).length := by rw [map_snoc (fun s => (refR s).2) hi, List.length_append]; rfl
      have hst := all_step (f := fun s => (refR s).1) hi hall hr1
      refine gom ?_
      refine WK.pick [o3, .blk b3 (.cells #[.int .i64 0, .int .i64 0] 72 (0, 0))] ?_
      exact WK.again (k + 1, A3, c3, o3, _) (by dsimp only; omega) ⟨by dsimp only; omega, hg3, h3, hst⟩ (by exact ⟨rfl, rfl, by show _ = some (Value.slice A3 _ c3); rw [← hl3]; rfl, rfl, trivial⟩) rfl (List.Sublist.refl _)
end Go.Proofs.YtkmigdmdppkpoaaGreatDoor.Gb
namespace Go.Proofs.YtkmigdmdppkpoaaGreatDoor.Gb
open Go Go.Proofs Go.MapKept
set_option linter.unusedVariables false
set_option linter.unusedSimpArgs false
set_option linter.unusedSectionVars false
attribute [local irreducible] Tryz.prog
theorem parsesR_len (l : List ByteArray) : (parsesR l).1.length ≤ l.length := by
  unfold parsesR
  split
  · exact Nat.zero_le _
  · rw [List.length_map]; exact Nat.le_refl _
attribute [local irreducible] parsesR
theorem codeParses_fn (G : Gh) (hE : Env G) (A : Option Addr) (l : List ByteArray) (cap : Nat) (hA : Sl Kd.str G A l) (hl : l.length * 16 ≤ 140737488351232) (hsz : ∀ s ∈ l, s.size ≤ 140737488351232) :
    Fn Tryz.prog 8 #[.slice A l.length cap] G [] fun e G' H' => e = .returned (.bool true) ∧ G.le G' ∧ H' = [] := by
  refine Fn.enter Tryz.func8 rfl rfl fun w0 => ?_
  refine gom ?_
  refine WL.op (by kernel_rfl) (OW.callK rfl (Parse_fn G hE A l cap hA hl hsz) rfl fun v' G' H' h hg => ?_)
  obtain ⟨A2, c2, x2, he, rfl, h2, rfl⟩ := h
  cases he
  refine WL.frozenVec h2 (by (repeat first | exact .here | apply At.there)) fun G1 hg1 hz1 => ?_
  have hs1 := InsV.sl hz1
  refine gom ?_
  refine WL.op (by kernel_rfl) (OW.alloc rfl fun b4 => ?_)
  refine gom ?_
  refine WL.op (by kernel_rfl) (OW.callK rfl (rParse_fn G1 A l cap (hA.mono hg1) hl hsz) rfl fun v' G' H' h hg => ?_)
  obtain ⟨A3, c3, x3, he, hg2, h3, rfl⟩ := h
  cases he
  refine WL.frozenVec h3 (by (repeat first | exact .here | apply At.there)) fun G2 hg3 hz2 => ?_
  have hs2 := InsV.sl hz2
  have hg4 := Gh.le_trans hg1 (Gh.le_trans hg2 hg3)
  have hll := parsesR_len l
  refine gom ?_
  refine WL.op (by kernel_rfl) (OW.alloc rfl fun b6 => ?_)
  refine gom ?_
  refine WL.op (by kernel_rfl) (OW.callK rfl (sameInstrs_fn G2 A2 A3 (parsesR l).1 (parsesR l).1 c2 c3 (hs1.mono (Gh.le_trans hg2 hg3)) hs2 (by omega)) rfl fun v' G' H' h hg => ?_)
  obtain ⟨he, rfl, rfl⟩ := h
  cases he
  rw [decide_eq_true rfl]
  refine gom ?_
  refine WL.p (Gp.eqFault rfl rfl) (by kernel_rfl) rfl ?_
  rw [decide_eq_true rfl]
  refine gom ?_
  refine WL.op (by kernel_rfl) (OW.callK rfl (awake_fn _ (hE.mono hg4)) rfl fun v' G' H' h hg => ?_)
  obtain ⟨he, hg5, rfl⟩ := h
  cases he
  refine gom ?_
  refine WC.ret ?_
  refine WK.un ?_
  exact QF.p1 (.inl rfl) rfl (.tmp rfl) (⟨rfl, Gh.le_trans hg4 hg5, rfl⟩)
end Go.Proofs.YtkmigdmdppkpoaaGreatDoor.Gb
