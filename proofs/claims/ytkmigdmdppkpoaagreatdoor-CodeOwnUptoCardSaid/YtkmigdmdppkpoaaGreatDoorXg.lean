/- The document's paths, heads, values, rows of types, states: walked. The document's states: joined, compared; where an instruction goes on: walked. Names of instructions: walked. Numbers in bytes: walked. Instructions in bytes: walked. The document's look at one instruction; what it takes and lays: walked. What the document knows behind an instruction: walked. -/
import Derived.Test.YtkmigdmdppkpoaaGreatDoorXf
set_option linter.unusedVariables false
set_option linter.unusedSimpArgs false
set_option linter.unusedSectionVars false
namespace Go.Proofs.YtkmigdmdppkpoaaGreatDoor.Gb
open Go Go.Proofs Go.MapKept
set_option linter.unusedVariables false
set_option linter.unusedSimpArgs false
set_option linter.unusedSectionVars false
section
variable {P : Program} {L : List (Nat × Value)} {d : Option Tmp} {ty : TypeId} {pos : String} {af : Array Edge} {gu : Option (Nat × Bool)}
theorem Gp.sliceS2 {t : TypeId} {x y z : Operand} {s : ByteArray} {k k' : IntKind} {i j : Int} (hx : ev L x = some (.string s)) (hy : ev L y = some (.int k i)) (hz : ev L z = some (.int k' j)) [hu : Und P t .string] (h0 : 0 ≤ i) (h1 : i ≤ j) (h2 : j ≤ s.size) : Gp P L ⟨d, .slice t x (some y) (some z) none, ty, pos, af, gu⟩ (.string (s.extract i.toNat j.toNat)) :=
  fun a st w => by
    have h := run_slice_string_if (P := P) w t s k k' i j hu.h
    rw [if_pos ⟨by omega, h2⟩, if_pos ⟨h0, h1⟩] at h
    simp [execOp, st.eval hx, st.eval hy, st.eval hz, run_sliceAt_string w t _ _ _ _ hu.h, h]
end
/-- texts that are ours -/
abbrev StVec (A : Option Addr) (l : List ByteArray) (cap : Nat) (x : Own) : Prop := Vec 9 1 A l.length cap (l.map Value.string) x
theorem StVec.nil : StVec none [] 0 (.spare 0 0 0) := ⟨rfl, .inl ⟨rfl, rfl, rfl, rfl⟩⟩
theorem StVec.snoc {A : Option Addr} {l : List ByteArray} {cap : Nat} {x : Own} {z : ByteArray} (h : Vec 9 1 A (l.length + 1) cap (l.map Value.string ++ [.string z]) x) : StVec A (l ++ [z]) cap x := by
  unfold StVec; rw [List.map_append, List.length_append]; exact h
theorem StVec.sl {G : Gh} {A : Option Addr} {l : List ByteArray} (hz : l.map Value.string = [] ∨ ∃ b, A = some ⟨b, 0, none⟩ ∧ Cs G b 0 (l.map Value.string)) : Sl Kd.str G A l := by
  rcases hz with hz | ⟨b, rfl, hc⟩
  · have : l = [] := by simpa using hz
    subst this; exact Sl.nil _ _ _
  · exact Cs.strs hc
theorem restL_len (s : ByteArray) : ∀ (n f : Nat), s.size - f ≤ n → (restL s f).length ≤ n + 1
  | 0, f, h => by
    rw [restL_end fun k c hk hc => by have := (List.getElem?_eq_some_iff.1 hc).1; rw [bytesL_length] at this; omega]
    simp
  | n + 1, f, h => by
    by_cases hx : ∃ k, f ≤ k ∧ (bytesL s)[k]? = some 47
    · have hmin : ∃ k, f ≤ k ∧ (bytesL s)[k]? = some 47 ∧ ∀ j, f ≤ j → j < k → (bytesL s)[j]? ≠ some 47 := by
        obtain ⟨k, h1, h2⟩ := hx
        induction k using Nat.strongRecOn with
        | _ k ih =>
          by_cases hj : ∃ j, f ≤ j ∧ j < k ∧ (bytesL s)[j]? = some 47
          · obtain ⟨j, h3, h4, h5⟩ := hj
            exact ih j h4 h3 h5
          · exact ⟨k, h1, h2, fun j h3 h4 h5 => hj ⟨j, h3, h4, h5⟩⟩
      obtain ⟨k, h1, h2, h3⟩ := hmin
      rw [restL_hit h1 (fun j c hj hk hc e => h3 j hj hk (by rw [hc, e])) h2]
      have hk := (List.getElem?_eq_some_iff.1 h2).1
      rw [bytesL_length] at hk
      have := restL_len s n (k + 1) (by omega)
      simp; omega
    · rw [restL_end fun k c hk hc e => hx ⟨k, hk, by rw [hc, e]⟩]
      simp
def lvalR (v : V) : Bool :=
  if v.t = 1 then !v.b && (v.s == ⟨#[]⟩) else if v.t = 2 then v.i == 0 && (v.s == ⟨#[]⟩) else if v.t = 3 then v.i == 0 && !v.b && decide ((v.s.size : Int) ≤ 4096) else false
theorem lvalR_eq (v : V) : lvalR v = valueR v := by
  obtain ⟨t, i, b, s⟩ := v
  unfold lvalR valueR
  dsimp only
  by_cases h1 : t = 1
  · subst h1
    rw [if_pos rfl, if_pos rfl, bytes_beq]
    by_cases hs : s = ⟨#[]⟩
    · subst hs; cases b <;> simp <;> decide
    · rw [decide_eq_false hs]; cases b <;> simp [hs]
  rw [if_neg h1, if_neg h1]
  by_cases h2 : t = 2
  · subst h2
    rw [if_pos rfl, if_pos rfl, bytes_beq]
    by_cases hs : s = ⟨#[]⟩
    · subst hs
      by_cases hi : i = 0 <;> simp [hi] <;> decide
    · rw [decide_eq_false hs]; simp [hs]
  rw [if_neg h2, if_neg h2]
  by_cases h3 : t = 3
  · subst h3
    rw [if_pos rfl, if_pos rfl]
    by_cases hi : i = 0
    · subst hi; cases b <;> simp
    · cases b <;> simp [hi]
  · rw [if_neg h3, if_neg h3]; rfl
attribute [local irreducible] Tryz.prog
attribute [local irreducible] restL slashL nameR
set_option maxHeartbeats 2000000 in
theorem rPieces_fn (G : Gh) (s : ByteArray) (hl : s.size ≤ 1000000000000) : Fn Tryz.prog 169 #[.string s] G [] fun e G' H' => ∃ A cap x, e = .returned (.slice A (slashL s).length cap) ∧ G = G' ∧ StVec A (slashL s) cap x ∧ H' = [x] := by
  have hbl := bytesL_length s
  have hrl := restL_len s s.size 0 (by omega)
  refine Fn.enter Tryz.func169 rfl rfl fun w0 => ?_
  refine gom ?_
  refine WC.nothing ?_
  refine WC.loop (X := Nat × Nat × List ByteArray × Option Addr × Nat × Own) (fun t => [(0, .string s), (3, .slice t.2.2.2.1 t.2.2.1.length t.2.2.2.2.1), (4, .int .i64 (t.2.1 : Int)), (5, .int .i64 (t.1 : Int))]) (fun _ => G) (fun t => [t.2.2.2.2.2]) (fun t => s.size + 1 - t.1)
    (fun t => t.1 ≤ s.size + 1 ∧ t.2.1 ≤ t.1 ∧ StVec t.2.2.2.1 t.2.2.1 t.2.2.2.2.1 t.2.2.2.2.2 ∧ (∀ k c, t.2.1 ≤ k → k < t.1 → (bytesL s)[k]? = some c → c ≠ 47) ∧ (t.1 ≤ s.size → slashL s = t.2.2.1 ++ restL s t.2.1) ∧ (s.size < t.1 → slashL s = t.2.2.1)) (0, 0, [], none, 0, .spare 0 0 0)
    ⟨Nat.zero_le _, Nat.le_refl _, StVec.nil, (fun k c _ h => absurd h (Nat.not_lt_zero _)), fun _ => (restL_all s).symm, fun h => absurd h (Nat.not_lt_zero _)⟩ (by exact ⟨rfl, rfl, rfl, rfl, trivial⟩) rfl (List.Sublist.refl _) fun t ht => ?_
  obtain ⟨i, f, l, B, c, o⟩ := t
  obtain ⟨hi, hf, hv, hno, hS1, hS2⟩ := ht
  dsimp only at hi hf hv hno hS1 hS2
  have x2 := wrapS i (by omega)
  by_cases hlt : i ≤ s.size
  rotate_left
  · have e2 : decide ((i : Int) ≤ (s.size : Int)) = false := decide_eq_false (by omega)
    rw [hS2 (by omega)]
    refine gom ?_
    refine WC.ret ?_
    refine WK.un ?_
    exact QF.p1 (.inl rfl) rfl (.tmp rfl) (⟨B, c, o, rfl, rfl, hv, rfl⟩)
  have e2 : decide ((i : Int) ≤ (s.size : Int)) = true := decide_eq_true (by omega)
  have hS := hS1 hlt
  have hlen : l.length + (restL s f).length ≤ s.size + 1 := by rw [← List.length_append, ← hS, ← restL_all]; exact hrl
  by_cases hend : i = s.size
  · have e3 : ((i : Int) == (s.size : Int)) = true := by rw [beq_iff_eq]; omega
    have hre := restL_end (s := s) (f := f) (fun k c hk hc => by
      have hkl := (List.getElem?_eq_some_iff.1 hc).1
      exact hno k c hk (by omega) hc)
    rw [hre] at hS hlen
    rw [List.length_singleton] at hlen
    refine gom ?_
    have p0 : (0 : Int) ≤ (f : Int) := by omega
    have p1 : (f : Int) ≤ (i : Int) := by omega
    have p2 : (i : Int) ≤ (s.size : Int) := by omega
    refine WL.p (Gp.sliceS2 rfl rfl rfl (by exact p0) (by exact p1) (by exact p2)) (by kernel_rfl) rfl ?_
    rw [Int.toNat_natCast, Int.toNat_natCast]
    refine WL.op (by kernel_rfl) (OW.buildSlice rfl (by kernel_rfl) (by kernel_rfl) (by rfl) rfl fun b27 => ?_)
    refine WL.op (by kernel_rfl) (OW.append rfl rfl (by kernel_rfl) (by kernel_rfl) hv (by (repeat first | exact .here | apply At.there)) (Rds.blk0 (cs := [.string (s.extract f i)]) .here rfl) rfl rfl (by first | omega | (dsimp only; omega)) (by first | omega | (dsimp only; omega)) rfl fun A3 c3 o3 hv3 => ?_)
    have h3 := StVec.snoc hv3
    have hl3 : l.length + 1 = (l ++ [s.extract f i]).length := by rw [List.length_append]; rfl
    refine gom ?_
    refine WK.pick [o3] ?_
    exact WK.again (i + 1, i + 1, l ++ [s.extract f i], A3, c3, o3) (by dsimp only; omega) ⟨by dsimp only; omega, Nat.le_refl _, h3, (fun k c h1 h2 => by dsimp only at h1 h2; omega), fun h => by dsimp only at h; omega, fun _ => by dsimp only; rw [hS, hend]⟩ (by exact ⟨rfl, by show _ = some (Value.slice A3 _ c3); rw [← hl3]; rfl, rfl, rfl, trivial⟩) rfl (List.Sublist.refl _)
  have e3 : ((i : Int) == (s.size : Int)) = false := by rw [beq_eq_false_iff_ne]; omega
  obtain ⟨y, hy⟩ : ∃ y, (bytesL s)[i]? = some y := ⟨_, List.getElem?_eq_getElem (by omega)⟩
  refine gom ?_
  refine WL.p (Gp.indexS rfl rfl (by omega) hy) (by kernel_rfl) rfl ?_
  by_cases h47 : y = 47
  · subst h47
    have hrh := restL_hit (s := s) hf hno hy
    rw [hrh] at hS hlen
    rw [List.length_cons] at hlen
    refine gom ?_
    have p0 : (0 : Int) ≤ (f : Int) := by omega
    have p1 : (f : Int) ≤ (i : Int) := by omega
    have p2 : (i : Int) ≤ (s.size : Int) := by omega
    refine WL.p (Gp.sliceS2 rfl rfl rfl (by exact p0) (by exact p1) (by exact p2)) (by kernel_rfl) rfl ?_
    rw [Int.toNat_natCast, Int.toNat_natCast]
    refine WL.op (by kernel_rfl) (OW.buildSlice rfl (by kernel_rfl) (by kernel_rfl) (by rfl) rfl fun b27 => ?_)
    refine WL.op (by kernel_rfl) (OW.append rfl rfl (by kernel_rfl) (by kernel_rfl) hv (by (repeat first | exact .here | apply At.there)) (Rds.blk0 (cs := [.string (s.extract f i)]) .here rfl) rfl rfl (by first | omega | (dsimp only; omega)) (by first | omega | (dsimp only; omega)) rfl fun A3 c3 o3 hv3 => ?_)
    have h3 := StVec.snoc hv3
    have hl3 : l.length + 1 = (l ++ [s.extract f i]).length := by rw [List.length_append]; rfl
    refine gom ?_
    refine WK.pick [o3] ?_
    exact WK.again (i + 1, i + 1, l ++ [s.extract f i], A3, c3, o3) (by dsimp only; omega) ⟨by dsimp only; omega, Nat.le_refl _, h3, (fun k c h1 h2 => by dsimp only at h1 h2; omega), fun _ => by dsimp only; rw [hS]; simp, fun h => by dsimp only at h; omega⟩ (by exact ⟨rfl, by show _ = some (Value.slice A3 _ c3); rw [← hl3]; rfl, rfl, rfl, trivial⟩) rfl (List.Sublist.refl _)
  · have e4 : (((y.toNat : Nat) : Int) == 47) = false := by
      rw [beq_eq_false_iff_ne]
      intro h
      apply h47
      exact UInt8.toNat_inj.1 (by show y.toNat = 47; omega)
    refine gom ?_
    exact WK.again (i + 1, f, l, B, c, o) (by dsimp only; omega) ⟨by dsimp only; omega, by dsimp only; omega, hv, (fun k c h1 h2 hc => by
      dsimp only at h1 h2
      rcases Nat.lt_or_ge k i with h | h
      · exact hno k c h1 h hc
      · obtain rfl : k = i := by omega
        rw [hy] at hc; cases hc; exact h47), fun _ => hS, fun h => by dsimp only at h; omega⟩ (by exact ⟨rfl, rfl, rfl, rfl, trivial⟩) rfl (List.Sublist.refl _)
theorem slash_size (s : ByteArray) : ∀ x ∈ slashL s, x.size ≤ s.size := fun x hx => by
  unfold slashL at hx
  exact splitB_size _ _ _ x hx
theorem rPath_fn (G : Gh) (s : ByteArray) (hl : s.size ≤ 1000000000000) : Fn Tryz.prog 122 #[.string s] G [] fun e G' H' => e = .returned (.bool (pathR s)) ∧ G.le G' ∧ H' = [] := by
  refine Fn.enter Tryz.func122 rfl rfl fun w0 => ?_
  have hN : Fn Tryz.prog 144 #[.string s] G [] fun e G' H' => ∃ A n cap, e = .returned (.tuple #[.slice A n cap, .bool (pathR s)]) ∧ G.le G' ∧ H' = [] := by
    refine Fn.enter Tryz.func144 rfl rfl fun w0 => ?_
    cases h1 : (s == ⟨#[]⟩) with
    | true =>
      have hp : pathR s = true := by unfold pathR; rw [h1]; rfl
      rw [hp]
      refine gom ?_
      rw [h1]
      refine gom ?_
      refine WC.ret ?_
      refine WK.un ?_
      exact QF.p2 (.inl rfl) rfl (.tmp rfl) (.tmp rfl) (⟨none, 0, 0, rfl, Gh.le_refl _, rfl⟩)
    | false =>
    have hp : pathR s = (decide ((slashL s).length ≤ 32) && (slashL s).all nameR) := by unfold pathR; rw [h1]; rfl
    refine gom ?_
    rw [h1]
    refine gom ?_
    refine WL.op (by kernel_rfl) (OW.callK rfl (rPieces_fn G s hl) rfl fun v' G' H' h hg => ?_)
    obtain ⟨A, cap, x, he, rfl, hv, rfl⟩ := h
    cases he
    refine WL.frozenVec hv (by (repeat first | exact .here | apply At.there)) fun G1 hg1 hz1 => ?_
    have hs1 := StVec.sl hz1
    have hrl : (slashL s).length ≤ s.size + 1 := by rw [← restL_all]; exact restL_len s s.size 0 (by omega)
    have hsz := slash_size s
    refine gom ?_
    refine WC.loop (X := Nat) (fun i => [(4, .slice A (slashL s).length cap), (5, .int .i64 (i : Int))]) (fun _ => G1) (fun _ => []) (fun i => (slashL s).length - i) (fun i => i ≤ (slashL s).length ∧ ∀ j y, j < i → (slashL s)[j]? = some y → nameR y = true) 0 ⟨Nat.zero_le _, (fun j y h => absurd h (Nat.not_lt_zero _))⟩ (by exact ⟨rfl, rfl, trivial⟩) rfl (List.nil_sublist _) fun i hx => ?_
    obtain ⟨hi, hall⟩ := hx
    have x2 := wrapS i (by omega)
    by_cases hlt : i < (slashL s).length
    rotate_left
    · have e2 : decide ((i : Int) < ((slashL s).length : Int)) = false := decide_eq_false (by omega)
      have ha := all_of hall (by omega)
      by_cases h32 : (slashL s).length ≤ 32
      · have e3 : decide ((32 : Int) < ((slashL s).length : Int)) = false := decide_eq_false (by omega)
        rw [hp, ha, decide_eq_true h32]
        refine gom ?_
        refine WC.ret ?_
        refine WK.un ?_
        exact QF.p2 (.inl rfl) rfl (.tmp rfl) (.tmp rfl) (⟨A, _, cap, rfl, hg1, rfl⟩)
      · have e3 : decide ((32 : Int) < ((slashL s).length : Int)) = true := decide_eq_true (by omega)
        rw [hp, ha, decide_eq_false h32]
        refine gom ?_
        refine WC.ret ?_
        refine WK.un ?_
        exact QF.p2 (.inl rfl) rfl (.tmp rfl) (.tmp rfl) (⟨none, 0, 0, rfl, hg1, rfl⟩)
    have e2 : decide ((i : Int) < ((slashL s).length : Int)) = true := decide_eq_true (by omega)
    obtain ⟨y, hy⟩ : ∃ y, (slashL s)[i]? = some y := ⟨_, List.getElem?_eq_getElem hlt⟩
    obtain ⟨ab, ao, cs, rfl, hk, hcs⟩ := hs1 i y hy
    obtain rfl : cs = [.string y] := hk
    have x0 : (0 : Int) ≤ i := by omega
    have x1 : (i : Int) < ((slashL s).length : Int) := by omega
    have hys := hsz y (List.mem_of_getElem? hy)
    refine gom ?_
    refine WL.op (by kernel_rfl) (OW.callK rfl (rName4_fn G1 y (by omega)) rfl fun v' G' H' h hg => ?_)
    obtain ⟨he, rfl, rfl⟩ := h
    cases he
    cases hn : nameR y with
    | true =>
      refine gom ?_
      exact WK.again (i + 1) (by omega) ⟨by omega, all_step hy hall hn⟩ (by exact ⟨rfl, rfl, trivial⟩) rfl (List.nil_sublist _)
    | false =>
      rw [hp, all_not hy hn, Bool.and_false]
      refine gom ?_
      refine WC.ret ?_
      refine WK.un ?_
      exact QF.p2 (.inl rfl) rfl (.tmp rfl) (.tmp rfl) (⟨none, 0, 0, rfl, hg1, rfl⟩)
  refine gom ?_
  refine WL.op (by kernel_rfl) (OW.callK rfl (hN) rfl fun v' G' H' h hg => ?_)
  obtain ⟨A, n, cap, he, hg1, rfl⟩ := h
  cases he
  refine gom ?_
  refine WC.ret ?_
  refine WK.un ?_
  exact QF.p1 (.inl rfl) rfl (.tmp rfl) (⟨rfl, hg1, rfl⟩)
theorem rplace_fn (G : Gh) (s : ByteArray) (hl : s.size ≤ 1000000000000) : Fn Tryz.prog 96 #[.string s] G [] fun e G' H' => e = .returned (.bool (fileR s)) ∧ G.le G' ∧ H' = [] := by
  refine Fn.enter Tryz.func96 rfl rfl fun w0 => ?_
  cases h1 : (s == ⟨#[]⟩) with
  | true =>
    have hv : fileR s = false := by unfold fileR; rw [h1]; rfl
    rw [hv]
    refine gom ?_
    rw [h1]
    refine gom ?_
    refine WC.ret ?_
    refine WK.un ?_
    exact QF.p1 (.inl rfl) rfl (.tmp rfl) (⟨rfl, Gh.le_refl _, rfl⟩)
  | false =>
  have hv : fileR s = pathR s := by unfold fileR; rw [h1]; rfl
  rw [hv]
  refine gom ?_
  rw [h1]
  refine gom ?_
  refine WL.op (by kernel_rfl) (OW.callK rfl (rPath_fn G s hl) rfl fun v' G' H' h hg => ?_)
  obtain ⟨he, hg1, rfl⟩ := h
  cases he
  refine gom ?_
  refine WC.ret ?_
  refine WK.un ?_
  exact QF.p1 (.inl rfl) rfl (.tmp rfl) (⟨rfl, hg1, rfl⟩)
/-! #### heads, values, rows -/
theorem rhead_fn (G : Gh) (A : Option Addr) (l : List Int) (cap : Nat) (r : Int) (hA : Sl (Kd.int .i64) G A l) (hl : l.length ≤ 100000000000000) :
    Fn Tryz.prog 99 #[.slice A l.length cap, .int .i64 r] G [] fun e G' H' => e = .returned (.bool (headR l r)) ∧ G = G' ∧ H' = [] := by
  refine Fn.enter Tryz.func99 rfl rfl fun w0 => ?_
  refine gom ?_
  refine WC.loop (X := Nat) (fun i => [(0, .slice A l.length cap), (1, .int .i64 r), (5, .int .i64 i)]) (fun _ => G) (fun _ => []) (fun i => l.length - i) (fun i => i ≤ l.length ∧ ∀ j y, j < i → l[j]? = some y → typedR y = true) 0 ⟨Nat.zero_le _, fun j y h => by omega⟩ (by exact ⟨rfl, rfl, rfl, trivial⟩) rfl (List.Sublist.refl _) fun i hx => ?_
  obtain ⟨hi, hall⟩ := hx
  by_cases hlt : i < l.length
  rotate_left
  · have e2 : decide ((i : Int) < (l.length : Int)) = false := decide_eq_false (by omega)
    have ha := all_of hall (by omega)
    cases h5 : decide ((l.length : Int) ≤ 64) with
    | false =>
      refine gom ?_
      refine WC.ret ?_
      refine WK.un ?_
      exact QF.p1 (.inl rfl) rfl (.tmp rfl) (⟨by rw [headR, ha, h5]; rfl, rfl, rfl⟩)
    | true =>
    have hr : (r == 0 || typedR r) = (decide (0 ≤ r) && decide (r ≤ 3)) := by
      unfold typedR
      rw [Bool.eq_iff_iff]
      simp
      omega
    cases h6 : decide ((0 : Int) ≤ r) with
    | false =>
      refine gom ?_
      refine WC.ret ?_
      refine WK.un ?_
      exact QF.p1 (.inl rfl) rfl (.tmp rfl) (⟨by rw [headR, ha, h5, hr, h6]; rfl, rfl, rfl⟩)
    | true =>
      refine gom ?_
      refine WC.ret ?_
      refine WK.un ?_
      exact QF.p1 (.inl rfl) rfl (.tmp rfl) (⟨by rw [headR, ha, h5, hr, h6]; rfl, rfl, rfl⟩)
  have e2 : decide ((i : Int) < (l.length : Int)) = true := decide_eq_true (by omega)
  obtain ⟨v, hv⟩ : ∃ v, l[i]? = some v := ⟨_, List.getElem?_eq_getElem hlt⟩
  obtain ⟨b, o, rfl, hcs⟩ := hA.at hv
  have x0 : (0 : Int) ≤ (i : Int) := by omega
  have x1 : (i : Int) < (l.length : Int) := by omega
  have x2 := wrapS i (by omega)
  by_cases hv1 : v < 1
  · have e3 : decide (v < 1) = true := decide_eq_true hv1
    have hf : typedR v = false := by unfold typedR; rw [decide_eq_false (by omega)]; rfl
    refine gom ?_
    refine WC.ret ?_
    refine WK.un ?_
    exact QF.p1 (.inl rfl) rfl (.tmp rfl) (⟨by rw [headR, all_not hv hf]; rfl, rfl, rfl⟩)
  have e3 : decide (v < 1) = false := decide_eq_false hv1
  by_cases hv3 : 3 < v
  · have e4 : decide ((3 : Int) < v) = true := decide_eq_true hv3
    have hf : typedR v = false := by unfold typedR; rw [decide_eq_false (show ¬ v ≤ 3 by omega), Bool.and_false]
    refine gom ?_
    refine WC.ret ?_
    refine WK.un ?_
    exact QF.p1 (.inl rfl) rfl (.tmp rfl) (⟨by rw [headR, all_not hv hf]; rfl, rfl, rfl⟩)
  have e4 : decide ((3 : Int) < v) = false := decide_eq_false hv3
  have hf : typedR v = true := by unfold typedR; rw [decide_eq_true (by omega), decide_eq_true (by omega)]; rfl
  refine gom ?_
  exact WK.again (i + 1) (by omega) ⟨by omega, all_step hv hall hf⟩ (by exact ⟨rfl, rfl, rfl, trivial⟩) rfl (List.nil_sublist _)
set_option maxHeartbeats 1000000 in
theorem rvalue_fn (G : Gh) (v : V) : Fn Tryz.prog 97 #[.agg #[.int .i64 v.t, .int .i64 v.i, .bool v.b, .string v.s]] G [] fun e G' H' => e = .returned (.bool (valueR v)) ∧ G = G' ∧ H' = [] := by
  rw [← lvalR_eq]
  refine Fn.enter Tryz.func97 rfl rfl fun w0 => ?_
  obtain ⟨t, i, b, s⟩ := v
  refine WC.seq ?_
  refine WC.region ?_
  refine WL.op (by kernel_rfl) (OW.box rfl rfl fun b1 => ?_)
  unfold lvalR
  dsimp only
  by_cases h1 : t = 1
  · subst h1
    rw [if_pos rfl]
    cases b with
    | true =>
      refine gom ?_
      refine WC.ret ?_
      refine WK.un ?_
      exact QF.p1 (.inl rfl) rfl (.tmp rfl) (⟨rfl, rfl, rfl⟩)
    | false =>
      refine gom ?_
      refine WC.ret ?_
      refine WK.un ?_
      exact QF.p1 (.inl rfl) rfl (.tmp rfl) (⟨by simp, rfl, rfl⟩)
  have e1 : (t == 1) = false := by simpa using h1
  rw [if_neg h1]
  by_cases h2 : t = 2
  · subst h2
    rw [if_pos rfl]
    cases hi : (i == 0) with
    | true =>
      refine gom ?_
      refine WC.ret ?_
      refine WK.un ?_
      exact QF.p1 (.inl rfl) rfl (.tmp rfl) (⟨by simp, rfl, rfl⟩)
    | false =>
      refine gom ?_
      refine WC.ret ?_
      refine WK.un ?_
      exact QF.p1 (.inl rfl) rfl (.tmp rfl) (⟨by simp, rfl, rfl⟩)
  have e2 : (t == 2) = false := by simpa using h2
  rw [if_neg h2]
  by_cases h3 : t = 3
  · subst h3
    rw [if_pos rfl]
    cases hi : (i == 0) with
    | false =>
      refine gom ?_
      refine WC.ret ?_
      refine WK.un ?_
      exact QF.p1 (.inl rfl) rfl (.tmp rfl) (⟨by simp, rfl, rfl⟩)
    | true =>
    cases b with
    | true =>
      refine gom ?_
      refine WC.ret ?_
      refine WK.un ?_
      exact QF.p1 (.inl rfl) rfl (.tmp rfl) (⟨by simp, rfl, rfl⟩)
    | false =>
      refine gom ?_
      refine WC.ret ?_
      refine WK.un ?_
      exact QF.p1 (.inl rfl) rfl (.tmp rfl) (⟨by simp, rfl, rfl⟩)
  have e3 : (t == 3) = false := by simpa using h3
  rw [if_neg h3]
  refine gom ?_
  refine WC.ret ?_
  refine WK.un ?_
  exact QF.p1 (.inl rfl) rfl (.tmp rfl) (⟨rfl, rfl, rfl⟩)
theorem rsame_fn (G : Gh) (A B : Option Addr) (l m : List Int) (ca cb : Nat) (ha : Sl (Kd.int .i64) G A l) (hb : Sl (Kd.int .i64) G B m) (hl : l.length ≤ 100000000000000) :
    Fn Tryz.prog 129 #[.slice A l.length ca, .slice B m.length cb] G [] fun e G' H' => e = .returned (.bool (decide (l = m))) ∧ G = G' ∧ H' = [] := by
  refine Fn.enter Tryz.func129 rfl rfl fun w0 => ?_
  by_cases hne : l.length = m.length
  rotate_left
  · have e1 : ((l.length : Int) != (m.length : Int)) = true := by rw [bne_iff_ne]; omega
    refine gom ?_
    refine WC.ret ?_
    refine WK.un ?_
    exact QF.p1 (.inl rfl) rfl (.tmp rfl) (⟨by rw [decide_eq_false fun e => hne (by rw [e])], rfl, rfl⟩)
  have e1 : ((l.length : Int) != (m.length : Int)) = false := by rw [hne]; simp
  refine gom ?_
  refine WC.loop (X := Nat) (fun i => [(5, .int .i64 i), (0, .slice A l.length ca), (1, .slice B m.length cb)]) (fun _ => G) (fun _ => []) (fun i => l.length - i) (fun i => i ≤ l.length ∧ ∀ j, j < i → l[j]? = m[j]?) 0 ⟨Nat.zero_le _, fun j h => by omega⟩ (by exact ⟨rfl, rfl, rfl, trivial⟩) rfl (List.Sublist.refl _) fun i hx => ?_
  obtain ⟨hi, hall⟩ := hx
  by_cases hlt : i < l.length
  rotate_left
  · have e2 : decide ((i : Int) < (l.length : Int)) = false := decide_eq_false (by omega)
    have he : l = m := by
      refine List.ext_getElem? fun j => ?_
      rcases Nat.lt_or_ge j i with h | h
      · exact hall j h
      · rw [List.getElem?_eq_none (by omega), List.getElem?_eq_none (by omega)]
    refine gom ?_
    refine WC.ret ?_
    refine WK.un ?_
    exact QF.p1 (.inl rfl) rfl (.tmp rfl) (⟨by rw [decide_eq_true he], rfl, rfl⟩)
  have e2 : decide ((i : Int) < (l.length : Int)) = true := decide_eq_true (by omega)
  obtain ⟨x, hx⟩ : ∃ x, l[i]? = some x := ⟨_, List.getElem?_eq_getElem hlt⟩
  obtain ⟨y, hy⟩ : ∃ y, m[i]? = some y := ⟨_, List.getElem?_eq_getElem (by omega)⟩
  obtain ⟨ab, ao, cs1, rfl, hk1, hca⟩ := ha i x hx
  obtain ⟨bb, bo, cs2, rfl, hk2, hcb⟩ := hb i y hy
  obtain rfl : cs1 = [.int .i64 x] := hk1
  obtain rfl : cs2 = [.int .i64 y] := hk2
  have x0 : (0 : Int) ≤ i := by omega
  have x2 : (i : Int) < (l.length : Int) := by omega
  have x3 : (i : Int) < (m.length : Int) := by omega
  have x4 := wrapS i (by omega)
  by_cases hxy : x = y
  · have e3 : (x != y) = false := by simp [hxy]
    refine gom ?_
    exact WK.again (i + 1) (by omega) ⟨by omega, fun j hj => by
      rcases Nat.lt_or_ge j i with h | h
      · exact hall j h
      · obtain rfl : j = i := by omega
        rw [hx, hy, hxy]⟩ (by exact ⟨rfl, rfl, rfl, trivial⟩) rfl (List.Sublist.refl _)
  · have e3 : (x != y) = true := by rw [bne_iff_ne]; exact hxy
    refine gom ?_
    refine WC.ret ?_
    refine WK.un ?_
    exact QF.p1 (.inl rfl) rfl (.tmp rfl) (⟨by rw [decide_eq_false fun e => by rw [e, hy] at hx; exact hxy (Option.some.inj hx).symm], rfl, rfl⟩)
end Go.Proofs.YtkmigdmdppkpoaaGreatDoor.Gb
namespace Go.Proofs.YtkmigdmdppkpoaaGreatDoor.Gb
open Go Go.Proofs Go.MapKept
set_option linter.unusedVariables false
set_option linter.unusedSimpArgs false
set_option linter.unusedSectionVars false
attribute [local irreducible] Tryz.prog
/-- a state of the document's, as it is handed on -/
abbrev rsV (s : SS) (VA : Option Addr) (vc : Nat) (SA : Option Addr) (sc : Nat) : Value := .agg #[.bool s.reached, .slice VA s.vars.length vc, .bool s.unlike, .slice SA s.stack.length sc]
abbrev rsC (s : SS) (VA : Option Addr) (vc : Nat) (SA : Option Addr) (sc : Nat) : Array Value := #[.bool s.reached, .slice VA s.vars.length vc, .bool s.unlike, .slice SA s.stack.length sc]
theorem TVec.nil : TVec none [] 0 (.spare 0 0 0) := ⟨rfl, .inl ⟨rfl, rfl, rfl, rfl⟩⟩
theorem TVec.snoc {A : Option Addr} {l : List Int} {cap : Nat} {x : Own} {z : Int} (h : Vec 42 1 A (l.length + 1) cap (ints l ++ [.int .i64 z]) x) : TVec A (l ++ [z]) cap x := by
  unfold TVec IVec; rw [ints_append, List.length_append]; exact h
theorem take_snoc {l : List Int} {i : Nat} {z : Int} (h : l[i]? = some z) : l.take (i + 1) = l.take i ++ [z] := by
  rw [List.take_add_one, h]; rfl
set_option maxHeartbeats 2000000 in
theorem rjoinRow_fn (G : Gh) (A B : Option Addr) (ca cb : Nat) (l m : List Int) (ha : Sl (Kd.int .i64) G A l) (hb : Sl (Kd.int .i64) G B m) (hl : l.length ≤ 1000000000) (hlm : l.length = m.length) :
    Fn Tryz.prog 128 #[.slice A l.length ca, .slice B m.length cb] G [] fun e G' H' => ∃ A' cap', e = .returned (.slice A' (joinRow l m).length cap') ∧ G.le G' ∧ (joinRow l m).length ≤ cap' ∧ Sl (Kd.int .i64) G' A' (joinRow l m) ∧ H' = [] := by
  have hjl := joinRow_length hlm
  refine Fn.enter Tryz.func128 rfl rfl fun w0 => ?_
  refine gom ?_
  refine WC.nothing ?_
  refine WC.loop (X := Nat × List Int × Option Addr × Nat × Own) (fun t => [(0, .slice A l.length ca), (1, .slice B m.length cb), (5, .slice t.2.2.1 t.2.1.length t.2.2.2.1), (6, .int .i64 (t.1 : Int))]) (fun _ => G) (fun t => [t.2.2.2.2]) (fun t => l.length - t.1)
    (fun t => t.1 ≤ l.length ∧ t.2.1 = (joinRow l m).take t.1 ∧ TVec t.2.2.1 t.2.1 t.2.2.2.1 t.2.2.2.2) (0, [], none, 0, .spare 0 0 0)
    ⟨Nat.zero_le _, rfl, TVec.nil⟩ (by exact ⟨rfl, rfl, rfl, rfl, trivial⟩) rfl (List.Sublist.refl _) fun t ht => ?_
  obtain ⟨i, r, C, c, o⟩ := t
  obtain ⟨hi, hr, hv⟩ := ht
  dsimp only at hi hr hv
  have x4 := wrapS i (by omega)
  by_cases hlt : i < l.length
  rotate_left
  · have e2 : decide ((i : Int) < (l.length : Int)) = false := decide_eq_false (by omega)
    have hre : r = joinRow l m := by rw [hr, List.take_of_length_le (by omega)]
    subst hre
    refine gom ?_
    refine WC.frozenVec hv (by (repeat first | exact .here | apply At.there)) fun G2 h2 z2 => ?_
    have hs := IVec.sl z2
    have hcap := hv.le
    refine WC.ret ?_
    refine WK.un ?_
    exact QF.p1 (.inl rfl) rfl (.tmp rfl) (⟨C, c, rfl, h2, hcap, hs, rfl⟩)
  have e2 : decide ((i : Int) < (l.length : Int)) = true := decide_eq_true (by omega)
  obtain ⟨x, hx⟩ : ∃ x, l[i]? = some x := ⟨_, List.getElem?_eq_getElem hlt⟩
  obtain ⟨y, hy⟩ : ∃ y, m[i]? = some y := ⟨_, List.getElem?_eq_getElem (by omega)⟩
  obtain ⟨ab, ao, rfl, hca⟩ := ha.at hx
  obtain ⟨bb, bo, rfl, hcb⟩ := hb.at hy
  have x0 : (0 : Int) ≤ i := by omega
  have x2 : (i : Int) < (l.length : Int) := by omega
  have x3 : (i : Int) < (m.length : Int) := by omega
  have hjg := joinRow_get hx hy
  have hrl : r.length = i := by rw [hr, List.length_take]; omega
  by_cases hxy : x = y
  · have e3 : (x == y) = true := by simpa using hxy
    refine gom ?_
    refine WL.op (by kernel_rfl) (OW.buildSlice rfl (by kernel_rfl) (by kernel_rfl) (by rfl) rfl fun b27 => ?_)
    refine WL.op (by kernel_rfl) (OW.append rfl rfl (by kernel_rfl) (by kernel_rfl) hv (by (repeat first | exact .here | apply At.there)) (Rds.blk0 (cs := [.int .i64 x]) .here rfl) rfl rfl (by first | omega | (dsimp only; omega)) (by first | omega | (dsimp only; omega)) rfl fun A3 c3 o3 hv3 => ?_)
    have h3 := TVec.snoc hv3
    have hl3 : r.length + 1 = (r ++ [x]).length := by rw [List.length_append]; rfl
    refine gom ?_
    refine WK.pick [o3] ?_
    exact WK.again (i + 1, r ++ [x], A3, c3, o3) (by dsimp only; omega) ⟨by dsimp only; omega, by dsimp only; rw [take_snoc hjg, joinT, if_pos hxy, hr], h3⟩ (by exact ⟨rfl, rfl, by show _ = some (Value.slice A3 _ c3); rw [← hl3]; rfl, rfl, trivial⟩) rfl (List.Sublist.refl _)
  · have e3 : (x == y) = false := by simpa using hxy
    refine gom ?_
    refine WL.op (by kernel_rfl) (OW.buildSlice rfl (by kernel_rfl) (by kernel_rfl) (by rfl) rfl fun b30 => ?_)
    refine WL.op (by kernel_rfl) (OW.append rfl rfl (by kernel_rfl) (by kernel_rfl) hv (by (repeat first | exact .here | apply At.there)) (Rds.blk0 (cs := [.int .i64 0]) .here rfl) rfl rfl (by first | omega | (dsimp only; omega)) (by first | omega | (dsimp only; omega)) rfl fun A3 c3 o3 hv3 => ?_)
    have h3 := TVec.snoc hv3
    have hl3 : r.length + 1 = (r ++ [0]).length := by rw [List.length_append]; rfl
    refine gom ?_
    refine WK.pick [o3] ?_
    exact WK.again (i + 1, r ++ [0], A3, c3, o3) (by dsimp only; omega) ⟨by dsimp only; omega, by dsimp only; rw [take_snoc hjg, joinT, if_neg hxy, hr], h3⟩ (by exact ⟨rfl, rfl, by show _ = some (Value.slice A3 _ c3); rw [← hl3]; rfl, rfl, trivial⟩) rfl (List.Sublist.refl _)
theorem ralike_fn (G : Gh) (a b : SS) (VA VB : Option Addr) (va vb : Nat) (SA SB : Option Addr) (sa sb : Nat) (ha : SRep G a VA va SA sa) (hb : SRep G b VB vb SB sb) (hv : a.vars.length ≤ 1000000000) (hs : a.stack.length ≤ 1000000000) :
    Fn Tryz.prog 104 #[rsV a VA va SA sa, rsV b VB vb SB sb] G [] fun e G' H' => e = .returned (.bool (decide (a = b))) ∧ G = G' ∧ H' = [] := by
  refine Fn.enter Tryz.func104 rfl rfl fun w0 => ?_
  refine WC.seq ?_
  refine WC.region ?_
  refine WL.op (by kernel_rfl) (OW.box rfl rfl fun b1 => ?_)
  refine WL.op (by kernel_rfl) (OW.box rfl rfl fun b2 => ?_)
  obtain ⟨ar, au, avs, ast⟩ := a
  obtain ⟨br, bu, bvs, bst⟩ := b
  dsimp only at hv hs
  cases hr : (ar == br) with
  | false =>
    have e1 : decide ((⟨ar, au, avs, ast⟩ : SS) = ⟨br, bu, bvs, bst⟩) = false := decide_eq_false (by intro e; cases e; simp at hr)
    rw [e1]
    refine gom ?_
    rw [hr]
    refine gom ?_
    refine WC.ret ?_
    refine WK.un ?_
    exact QF.p1 (.inl rfl) rfl (.tmp rfl) (⟨rfl, rfl, rfl⟩)
  | true =>
  cases hu : (au == bu) with
  | false =>
    have e1 : decide ((⟨ar, au, avs, ast⟩ : SS) = ⟨br, bu, bvs, bst⟩) = false := decide_eq_false (by intro e; cases e; simp at hu)
    rw [e1]
    refine gom ?_
    rw [hr]
    refine gom ?_
    rw [hu]
    refine gom ?_
    refine WC.ret ?_
    refine WK.un ?_
    exact QF.p1 (.inl rfl) rfl (.tmp rfl) (⟨rfl, rfl, rfl⟩)
  | true =>
  refine gom ?_
  rw [hr]
  refine gom ?_
  rw [hu]
  refine gom ?_
  refine WL.op (by kernel_rfl) (OW.callK rfl (rsame_fn G VA VB avs bvs va vb ha.vars hb.vars (by omega)) rfl fun v' G' H' h hg => ?_)
  obtain ⟨he, rfl, rfl⟩ := h
  cases he
  by_cases hv2 : avs = bvs
  rotate_left
  · have e1 : decide ((⟨ar, au, avs, ast⟩ : SS) = ⟨br, bu, bvs, bst⟩) = false := decide_eq_false (by intro e; cases e; exact hv2 rfl)
    have e2 : decide (avs = bvs) = false := decide_eq_false hv2
    rw [e1, e2]
    refine gom ?_
    refine WC.ret ?_
    refine WK.un ?_
    exact QF.p1 (.inl rfl) rfl (.tmp rfl) (⟨rfl, rfl, rfl⟩)
  have e2 : decide (avs = bvs) = true := decide_eq_true hv2
  rw [e2]
  refine gom ?_
  refine WL.op (by kernel_rfl) (OW.callK rfl (rsame_fn G SA SB ast bst sa sb ha.stack hb.stack (by omega)) rfl fun v' G' H' h hg => ?_)
  obtain ⟨he, rfl, rfl⟩ := h
  cases he
  have e1 : decide ((⟨ar, au, avs, ast⟩ : SS) = ⟨br, bu, bvs, bst⟩) = decide (ast = bst) := by
    simp only [beq_iff_eq] at hr hu
    subst hr hu hv2
    by_cases h : ast = bst
    · subst h; simp
    · rw [decide_eq_false h, decide_eq_false (fun e => h (by cases e; rfl))]
  rw [e1]
  refine gom ?_
  refine WC.ret ?_
  refine WK.un ?_
  exact QF.p1 (.inl rfl) rfl (.tmp rfl) (⟨rfl, rfl, rfl⟩)
theorem rjoin_fn (G : Gh) (a b : SS) (VA VB : Option Addr) (va vb : Nat) (SA SB : Option Addr) (sa sb : Nat) (ha : SRep G a VA va SA sa) (hb : SRep G b VB vb SB sb) (hl : a.reached = true → b.reached = true → a.vars.length = b.vars.length) (hv : a.vars.length ≤ 1000000000) (hs : a.stack.length ≤ 1000000000) :
    Fn Tryz.prog 103 #[rsV a VA va SA sa, rsV b VB vb SB sb] G [] fun e G' H' => ∃ V' v' S' s', e = .returned (rsV (joinS a b) V' v' S' s') ∧ G.le G' ∧ SRep G' (joinS a b) V' v' S' s' ∧ H' = [] := by
  refine Fn.enter Tryz.func103 rfl rfl fun w0 => ?_
  refine WC.seq ?_
  refine WC.region ?_
  refine WL.op (by kernel_rfl) (OW.box rfl rfl fun b1 => ?_)
  refine WL.op (by kernel_rfl) (OW.box rfl rfl fun b2 => ?_)
  refine WL.op (by kernel_rfl) (OW.alloc rfl fun b3 => ?_)
  obtain ⟨ar, au, av, ak⟩ := a
  obtain ⟨br, bu, bv, bk⟩ := b
  dsimp only at hl hv hs
  cases ar with
  | false =>
    rw [show joinS ⟨false, au, av, ak⟩ ⟨br, bu, bv, bk⟩ = ⟨br, bu, bv, bk⟩ from rfl]
    refine gom ?_
    refine WC.ret ?_
    refine WK.un ?_
    exact QF.p1 (.inl rfl) rfl (.cell rfl inferInstance inferInstance (by (repeat first | exact .here | apply At.there)) rfl rfl) (⟨VB, vb, SB, sb, rfl, Gh.le_refl _, hb, rfl⟩)
  | true =>
  cases br with
  | false =>
    rw [show joinS ⟨true, au, av, ak⟩ ⟨false, bu, bv, bk⟩ = ⟨true, au, av, ak⟩ from rfl]
    refine gom ?_
    refine WC.ret ?_
    refine WK.un ?_
    exact QF.p1 (.inl rfl) rfl (.cell rfl inferInstance inferInstance (by (repeat first | exact .here | apply At.there)) rfl rfl) (⟨VA, va, SA, sa, rfl, Gh.le_refl _, ha, rfl⟩)
  | true =>
  have hlen := hl rfl rfl
  refine gom ?_
  refine WL.op (by kernel_rfl) (OW.callK rfl (rjoinRow_fn G VA VB va vb av bv ha.vars hb.vars hv hlen) rfl fun v' G' H' h hg => ?_)
  obtain ⟨A1, cap1, he, hg1, hc1, hs1, rfl⟩ := h
  cases he
  refine WL.pick [.blk b1 (.cells #[.bool true, .slice VA av.length va, .bool au, .slice SA ak.length sa] 95 (0, 0)), .blk b2 (.cells #[.bool true, .slice VB bv.length vb, .bool bu, .slice SB bk.length sb] 95 (0, 0)), .blk b3 (.cells #[.bool false, .slice none 0 0, .bool false, .slice none 0 0] 95 (0, 0))] ?_
  refine gom ?_
  refine WL.op (by kernel_rfl) (OW.alloc rfl fun b6 => ?_)
  by_cases hc : au = true ∨ bu = true ∨ ak.length ≠ bk.length
  · rw [show joinS ⟨true, au, av, ak⟩ ⟨true, bu, bv, bk⟩ = ⟨true, true, joinRow av bv, []⟩ by unfold joinS; rw [if_neg (by simp), if_neg (by simp), if_pos hc]]
    cases au with
    | true =>
      refine gom ?_
      refine WC.ret ?_
      refine WK.un ?_
      exact QF.p1 (.inl rfl) rfl (.cell rfl inferInstance inferInstance (by (repeat first | exact .here | apply At.there)) rfl rfl) (⟨A1, cap1, none, 0, rfl, hg1, ⟨hc1, Nat.le_refl _, hs1, Sl.nil _ _ _⟩, rfl⟩)
    | false =>
    cases bu with
    | true =>
      refine gom ?_
      refine WC.ret ?_
      refine WK.un ?_
      exact QF.p1 (.inl rfl) rfl (.cell rfl inferInstance inferInstance (by (repeat first | exact .here | apply At.there)) rfl rfl) (⟨A1, cap1, none, 0, rfl, hg1, ⟨hc1, Nat.le_refl _, hs1, Sl.nil _ _ _⟩, rfl⟩)
    | false =>
      have hne : ((ak.length : Int) != (bk.length : Int)) = true := by
        rw [bne_iff_ne]; simp at hc; omega
      refine gom ?_
      refine WC.ret ?_
      refine WK.un ?_
      exact QF.p1 (.inl rfl) rfl (.cell rfl inferInstance inferInstance (by (repeat first | exact .here | apply At.there)) rfl rfl) (⟨A1, cap1, none, 0, rfl, hg1, ⟨hc1, Nat.le_refl _, hs1, Sl.nil _ _ _⟩, rfl⟩)
  · have hua : au = false := by cases h : au with | false => rfl | true => exact absurd (.inl h) hc
    have hub : bu = false := by cases h : bu with | false => rfl | true => exact absurd (.inr (.inl h)) hc
    have hsl : ak.length = bk.length := by apply Decidable.byContradiction; intro h; exact hc (.inr (.inr h))
    have hne : ((ak.length : Int) != (bk.length : Int)) = false := by rw [hsl]; simp
    rw [show joinS ⟨true, au, av, ak⟩ ⟨true, bu, bv, bk⟩ = ⟨true, false, joinRow av bv, joinRow ak bk⟩ by unfold joinS; rw [if_neg (by simp), if_neg (by simp), if_neg hc]]
    subst hua hub
    refine gom ?_
    refine WL.op (by kernel_rfl) (OW.callK rfl (rjoinRow_fn _ SA SB sa sb ak bk (ha.stack.mono hg1) (hb.stack.mono hg1) hs hsl) rfl fun v' G' H' h hg => ?_)
    obtain ⟨A2, cap2, he, hg2, hc2, hs2, rfl⟩ := h
    cases he
    refine gom ?_
    refine WC.ret ?_
    refine WK.un ?_
    exact QF.p1 (.inl rfl) rfl (.cell rfl inferInstance inferInstance (by (repeat first | exact .here | apply At.there)) rfl rfl) (⟨A1, cap1, A2, cap2, rfl, Gh.le_trans hg1 hg2, ⟨hc1, hc2, hs1.mono hg2, hs2⟩, rfl⟩)
/-- where it goes on, in the document's order -/
def onwR (i : Int × Int) (k : Nat) : List Int := if i.1 = 5 then [i.2] else if i.1 = 6 then [(k : Int) + 1, i.2] else if i.1 = 9 ∨ i.1 = 10 then [] else [(k : Int) + 1]
theorem mem_onwR (i : Int × Int) (k : Nat) (x : Int) : x ∈ onwR i k ↔ x ∈ nextR i k := by
  unfold onwR nextR
  by_cases h5 : i.1 = 5
  · rw [if_pos h5, if_neg (by omega), if_pos h5]
  by_cases h6 : i.1 = 6
  · rw [if_neg h5, if_pos h6, if_neg (by omega), if_neg h5, if_pos h6]; simp [or_comm]
  by_cases h9 : i.1 = 9 ∨ i.1 = 10
  · rw [if_neg h5, if_neg h6, if_pos h9, if_pos h9]
  · rw [if_neg h5, if_neg h6, if_neg h9, if_neg h9, if_neg h5, if_neg h6]
theorem ronwards_fn (G : Gh) (c n : Int) (k : Nat) (hk : k ≤ 1000000000) :
    Fn Tryz.prog 102 #[.agg #[.int .i64 c, .int .i64 n], .int .i64 k] G [] fun e G' H' => ∃ A cap, e = .returned (.slice A (onwR (c, n) k).length cap) ∧ G.le G' ∧ Sl (Kd.int .i64) G' A (onwR (c, n) k) ∧ H' = [] := by
  refine Fn.enter Tryz.func102 rfl rfl fun w0 => ?_
  refine WC.seq ?_
  refine WC.region ?_
  refine WL.op (by kernel_rfl) (OW.box rfl rfl fun b1 => ?_)
  have x1 := wrapS k (by omega)
  have fin : ∀ {b : Nat} {c : Array Value} {l : List Int}, c = (ints l).toArray → Sl (Kd.int .i64) (G.add b c) (some ⟨b, 0, none⟩) l := fun {b c l} h => IVec.sl (.inr ⟨b, rfl, fun j v e => by
    rw [Nat.zero_add, Gh.add_at, h]; simpa using e⟩)
  by_cases h5 : c = 5
  · have e1 : onwR (c, n) k = [n] := by unfold onwR; rw [if_pos h5]
    rw [e1]; subst h5
    refine gom ?_
    refine WL.op (by kernel_rfl) (OW.buildSlice rfl (by kernel_rfl) (by kernel_rfl) (by rfl) rfl fun b2 => ?_)
    refine gom ?_
    refine WC.freeze (j := 0) .here fun hg => ?_
    refine WC.ret ?_
    refine WK.un ?_
    exact QF.p1 (.inl rfl) rfl (.tmp rfl) (⟨some ⟨b2, 0, none⟩, 1, rfl, hg, fin rfl, rfl⟩)
  have y5 : (c == 5) = false := by simpa using h5
  by_cases h6 : c = 6
  · have e1 : onwR (c, n) k = [(k : Int) + 1, n] := by unfold onwR; rw [if_neg h5, if_pos h6]
    rw [e1]; subst h6
    refine gom ?_
    refine WL.op (by kernel_rfl) (OW.buildSlice rfl (by kernel_rfl) (by kernel_rfl) (by rfl) rfl fun b2 => ?_)
    refine gom ?_
    refine WC.freeze (j := 0) .here fun hg => ?_
    refine WC.ret ?_
    refine WK.un ?_
    exact QF.p1 (.inl rfl) rfl (.tmp rfl) (⟨some ⟨b2, 0, none⟩, 2, rfl, hg, fin rfl, rfl⟩)
  have y6 : (c == 6) = false := by simpa using h6
  by_cases h9 : c = 9
  · have e1 : onwR (c, n) k = [] := by unfold onwR; rw [if_neg h5, if_neg h6, if_pos (.inl h9)]
    rw [e1]; subst h9
    refine gom ?_
    refine WC.ret ?_
    refine WK.un ?_
    exact QF.p1 (.inl rfl) rfl (.tmp rfl) (⟨none, 0, rfl, Gh.le_refl _, Sl.nil _ _ _, rfl⟩)
  by_cases h10 : c = 10
  · have e1 : onwR (c, n) k = [] := by unfold onwR; rw [if_neg h5, if_neg h6, if_pos (.inr h10)]
    rw [e1]; subst h10
    refine gom ?_
    refine WC.ret ?_
    refine WK.un ?_
    exact QF.p1 (.inl rfl) rfl (.tmp rfl) (⟨none, 0, rfl, Gh.le_refl _, Sl.nil _ _ _, rfl⟩)
  have y9 : (c == 9) = false := by simpa using h9
  have y10 : (c == 10) = false := by simpa using h10
  have e1 : onwR (c, n) k = [(k : Int) + 1] := by unfold onwR; rw [if_neg h5, if_neg h6, if_neg (by simp [h9, h10])]
  rw [e1]
  refine gom ?_
  refine WL.op (by kernel_rfl) (OW.buildSlice rfl (by kernel_rfl) (by kernel_rfl) (by rfl) rfl fun b2 => ?_)
  refine gom ?_
  refine WC.freeze (j := 0) .here fun hg => ?_
  refine WC.ret ?_
  refine WK.un ?_
  exact QF.p1 (.inl rfl) rfl (.tmp rfl) (⟨some ⟨b2, 0, none⟩, 1, rfl, hg, fin rfl, rfl⟩)
end Go.Proofs.YtkmigdmdppkpoaaGreatDoor.Gb
namespace Go.Proofs.YtkmigdmdppkpoaaGreatDoor.Gb
open Go Go.Proofs Go.MapKept
set_option linter.unusedVariables false
set_option linter.unusedSimpArgs false
set_option linter.unusedSectionVars false

section
variable {L : List (Nat × Value)} {d : Option Tmp} {ty : TypeId} {pos : String} {af : Array Edge} {gu : Option (Nat × Bool)}
/-- the name of a row of the table -/
theorem Gp.rowName {x : Operand} {r : Rw} (hx : ev L x = some (.agg #[.string r.name, .bool r.n, .int .i64 r.takes, .int .i64 r.lays])) : Gp Tryz.prog L ⟨d, .field 109 x 0, ty, pos, af, gu⟩ (.string r.name) := fun a st w => by
  have a0 := fun w => (inferInstance : Agg Tryz.prog 9 false).h w
  simp [execOp, st.eval hx, Instr.field, part, asAgg, run_underlying Tryz.underlying109, a0, Result.andThen]
theorem Gp.rowN {x : Operand} {r : Rw} (hx : ev L x = some (.agg #[.string r.name, .bool r.n, .int .i64 r.takes, .int .i64 r.lays])) : Gp Tryz.prog L ⟨d, .field 109 x 1, ty, pos, af, gu⟩ (.bool r.n) := fun a st w => by
  have a0 := fun w => (inferInstance : Agg Tryz.prog 4 false).h w
  simp [execOp, st.eval hx, Instr.field, part, asAgg, run_underlying Tryz.underlying109, a0, Result.andThen]
end
attribute [local irreducible] Tryz.prog
def nameE (c : Int) : Int := if (rowC c).name == ⟨#[]⟩ then 180 else 0
def findN (s : ByteArray) : Int × Int := match (List.range 26).find? (fun k : Nat => (rowC ((k : Int) + 1)).name == s) with | some k => ((k : Int) + 1, 0) | none => (0, 180)
/-! #### the document's answer -/
def namesL : List ByteArray := (rowsC.drop 1).map (·.name)
theorem namesL_at : ∀ k : Nat, k < 26 → namesL[k]? = some (rowC ((k : Int) + 1)).name := by decide +kernel
theorem rnames_fn (G : Gh) : Fn Tryz.prog 47 #[] G [] fun e G' H' => ∃ b, e = .returned (.slice (some ⟨b, 0, none⟩) 26 26) ∧ G.le G' ∧ Sl Kd.str G' (some ⟨b, 0, none⟩) namesL ∧ H' = [] := by
  refine Fn.enter Tryz.func47 rfl rfl fun w0 => ?_
  refine gom ?_
  refine WL.op (by kernel_rfl) (OW.buildSlice rfl (by kernel_rfl) (by kernel_rfl) (by rfl) rfl fun b1 => ?_)
  refine gom ?_
  refine WC.freezeC (cs := namesL.map Value.string) .here rfl fun G1 hg1 h1 => ?_
  refine WC.ret ?_
  refine WK.un ?_
  exact QF.p1 (.inl rfl) rfl (.tmp rfl) (⟨b1, rfl, hg1, Cs.strs h1, rfl⟩)
theorem ris_fn (G : Gh) (c : Int) : Fn Tryz.prog 46 #[.int .i64 c] G [] fun e G' H' => e = .returned (.bool (decide (1 ≤ c) && decide (c ≤ 26))) ∧ G = G' ∧ H' = [] := by
  refine Fn.enter Tryz.func46 rfl rfl fun w0 => ?_
  cases h1 : decide (1 ≤ c) with
  | false =>
    refine gom ?_
    refine WC.ret ?_
    refine WK.un ?_
    exact QF.p1 (.inl rfl) rfl (.tmp rfl) (⟨rfl, rfl, rfl⟩)
  | true =>
    refine gom ?_
    refine WC.ret ?_
    refine WK.un ?_
    exact QF.p1 (.inl rfl) rfl (.tmp rfl) (⟨by rw [Bool.true_and], rfl, rfl⟩)
theorem rName_fn (G : Gh) (c : Int) : Fn Tryz.prog 23 #[.int .i64 c] G [] fun e G' H' => e = .returned (.tuple #[.string (rowC c).name, .int .i64 (nameE c)]) ∧ G.le G' ∧ H' = [] := by
  refine Fn.enter Tryz.func23 rfl rfl fun w0 => ?_
  refine gom ?_
  refine WL.op (by kernel_rfl) (OW.callK rfl (ris_fn G c) rfl fun v' G' H' h hg => ?_)
  obtain ⟨he, rfl, rfl⟩ := h
  cases he
  cases hb : (decide (1 ≤ c) && decide (c ≤ 26)) with
  | false =>
    have hn : (rowC c).name = ⟨#[]⟩ := by
      unfold rowC
      split
      · rfl
      · have : 27 ≤ c.toNat := by simp at hb; omega
        rw [List.getElem?_eq_none (by show 27 ≤ c.toNat; omega)]; rfl
    have hr : nameE c = 180 := by rw [nameE, hn]; rfl
    rw [hr, hn]
    refine gom ?_
    refine WC.ret ?_
    refine WK.un ?_
    exact QF.p2 (.inl rfl) rfl (.tmp rfl) (.tmp rfl) (⟨rfl, Gh.le_refl _, rfl⟩)
  | true =>
  simp at hb
  obtain ⟨k, rfl⟩ : ∃ k : Nat, c = (k : Int) + 1 := ⟨(c - 1).toNat, by omega⟩
  have hk : k < 26 := by omega
  have hne : ∀ k : Nat, k < 26 → ((rowC ((k : Int) + 1)).name == ⟨#[]⟩) = false := by decide +kernel
  have hr : nameE ((k : Int) + 1) = 0 := by rw [nameE, hne k hk]; rfl
  rw [hr]
  refine gom ?_
  refine WL.op (by kernel_rfl) (OW.callK rfl (rnames_fn G) rfl fun v' G' H' h hg => ?_)
  obtain ⟨b, he, hg1, hS, rfl⟩ := h
  cases he
  obtain ⟨b', o, cs, hbe, hks, hcs⟩ := hS k _ (namesL_at k hk)
  obtain ⟨rfl, rfl⟩ : b = b' ∧ 0 = o := by cases hbe; exact ⟨rfl, rfl⟩
  obtain rfl : cs = [.string (rowC ((k : Int) + 1)).name] := hks
  have x0 : (0 : Int) ≤ (k : Int) := by omega
  have x1 : (k : Int) < ((26 : Nat) : Int) := by omega
  have x2 : IntKind.i64.wrap ((k : Int) + 1 - 1) = (k : Int) := by rw [wrapI (by omega) (by omega)]; omega
  refine gom ?_
  refine WC.ret ?_
  refine WK.un ?_
  exact QF.p2 (.inl rfl) rfl (.tmp rfl) (.tmp rfl) (⟨rfl, hg1, rfl⟩)
end Go.Proofs.YtkmigdmdppkpoaaGreatDoor.Gb
namespace Go.Proofs.YtkmigdmdppkpoaaGreatDoor.Gb
open Go Go.Proofs Go.MapKept
set_option linter.unusedVariables false
set_option linter.unusedSimpArgs false
set_option linter.unusedSectionVars false

section
variable {P : Program} {Q : Exit → Act → World → Prop} {cx : Cx} {L : List (Nat × Value)} {G : Gh} {H : List Own} {K : List (Nat × Value) → Gh → List Own → Prop} {ops : Array Oper} {rest : List Oper}
  {d : Option Tmp} {ty : TypeId} {pos : String} {af : Array Edge} {gu : Option (Nat × Bool)}
/-- a list that is made with room to spare -/
theorem OW.makeSlice2 {t e n by_ : Nat} {z : Value} {x y : Operand} {k k' : IntKind} {m c : Int} (hx : ev L x = some (.int k m)) (hy : ev L y = some (.int k' c)) [hu : Und P t (.slice e)] [hi : Inf P e n by_ z] (hz : z.cells.size = n)
    (h0 : 0 ≤ m) (hmc : m ≤ c) (hb : (by_ : Int) * c ≤ 281474976710656) (h63 : c ≤ 9223372036854775807) (hd : dOk d cx.N = true)
    (kk : ∀ b x, Vec e n (some ⟨b, 0, none⟩) m.toNat c.toNat (repS m.toNat z.cells.toList) x → K (putL d (.slice (some ⟨b, 0, none⟩) m.toNat c.toNat) L) G (x :: H)) : OW P Q ⟨d, .makeSlice t x y, ty, pos, af, gu⟩ cx L G H K := by
  refine OW.gives hd fun a w st => ?_
  obtain ⟨ie, hi1, hi2, hi3, hi4⟩ := hi.info
  have hr := run_make (P := P) w t e ie z hu.h hi1 hi2 k k' m c h0 hmc (by rw [hi4]; exact hb) h63
  have hc : madeCells z.cells (c.toNat * ie.size) = (repS c.toNat z.cells.toList).toArray := by unfold madeCells; rw [hi3]; exact base_repS z.cells n c.toNat hz
  rw [hc] at hr
  have hlen : ∀ q : Nat, (repS q z.cells.toList).length = q * n := fun q => by rw [repS_length, Array.length_toList, hz]
  have htk : (repS c.toNat z.cells.toList).take (m.toNat * n) = repS m.toNat z.cells.toList := by
    obtain ⟨r, hr⟩ : ∃ r, c.toNat = m.toNat + r := ⟨c.toNat - m.toNat, by omega⟩
    rw [hr]
    have : ∀ q : Nat, repS (q + r) z.cells.toList = repS q z.cells.toList ++ repS r z.cells.toList := fun q => by
      induction q with
      | zero => rw [Nat.zero_add]; rfl
      | succ q ih => rw [show q + 1 + r = (q + r) + 1 by omega]; simp only [repS]; rw [ih, List.append_assoc]
    rw [this, List.take_append_of_le_length (by rw [hlen]; exact Nat.le_refl _), List.take_of_length_le (by rw [hlen]; exact Nat.le_refl _)]
  refine ⟨_, _, G, _, .inl ?_, st.sat.alloc _, Stp.alloc _, kk w.heap.size (.blk w.heap.size (.cells (repS c.toNat z.cells.toList).toArray e (0, 0))) ⟨hlen _, .inr ⟨_, _, rfl, rfl, by omega, by simp [hlen], by simpa using htk⟩⟩⟩
  simp only [execOp, Sem.run_bind, st.eval hx, st.eval hy, hr, Result.andThen_ok]
  rfl
end
section
variable {P : Program} {L : List (Nat × Value)} {d : Option Tmp} {ty : TypeId} {pos : String} {af : Array Edge} {gu : Option (Nat × Bool)}
theorem Gp.shrTo {t t' : TypeId} {x y : Operand} {k k' : IntKind} {m n r : Int} (hx : ev L x = some (.int k m)) (hy : ev L y = some (.int k' n)) (hn : 0 ≤ n) (hr : m / 2 ^ min n.toNat k.bits = r) : Gp P L ⟨d, .binOp .shr t x y t', ty, pos, af, gu⟩ (.int k r) :=
  fun a st w => by subst hr; simp [execOp, st.eval hx, st.eval hy, eqGuard_shr, binOp_shr, shift_shr_any k k' m n hn]
theorem Gp.orTo {t t' : TypeId} {x y : Operand} {k : IntKind} {m n r : Int} (hx : ev L x = some (.int k m)) (hy : ev L y = some (.int k n)) (hr : bits .or k m n = r) : Gp P L ⟨d, .binOp .or t x y t', ty, pos, af, gu⟩ (.int k r) := hr ▸ Gp.or hx hy
theorem Gp.convTo {s t : TypeId} {x : Operand} {k k' : IntKind} {m r : Int} {ds : TypeDesc} (hx : ev L x = some (.int k m)) [hs : Und P s ds] [ht : Und P t (.int k')] (h : k'.wrap m = r) : Gp P L ⟨d, .convert s t x, ty, pos, af, gu⟩ (.int k' r) := h ▸ Gp.convI hx
theorem Gp.remTo {t t' : TypeId} {x y : Operand} {k : IntKind} {m n r : Int} (hx : ev L x = some (.int k m)) (hy : ev L y = some (.int k n)) (hn : n ≠ 0) (h : m.tmod n = r) : Gp P L ⟨d, .binOp .rem t x y t', ty, pos, af, gu⟩ (.int k r) := h ▸ Gp.rem hx hy hn
theorem Gp.quoTo {t t' : TypeId} {x y : Operand} {k : IntKind} {m n r : Int} (hx : ev L x = some (.int k m)) (hy : ev L y = some (.int k n)) (hn : n ≠ 0) (h : k.wrap (m.tdiv n) = r) : Gp P L ⟨d, .binOp .quo t x y t', ty, pos, af, gu⟩ (.int k r) := h ▸ Gp.quo hx hy hn
end
attribute [local irreducible] Tryz.prog

/-! #### numbers in bytes -/
def uintL (n : Nat) : List Int := if h : n < 128 then [(n : Int)] else ((n % 128 + 128 : Nat) : Int) :: uintL (n / 128)
  termination_by n
  decreasing_by exact Nat.div_lt_self (by omega) (by omega)
theorem uintL_lt {n : Nat} (h : n < 128) : uintL n = [(n : Int)] := by rw [uintL, dif_pos h]
theorem uintL_ge {n : Nat} (h : ¬ n < 128) : uintL n = ((n % 128 + 128 : Nat) : Int) :: uintL (n / 128) := by rw [uintL, dif_neg h]
theorem uintL_length : ∀ (k n : Nat), n < 128 ^ (k + 1) → (uintL n).length ≤ k + 1
  | 0, n, h => by rw [uintL_lt (by simpa using h)]; simp
  | k + 1, n, h => by
    by_cases hn : n < 128
    · rw [uintL_lt hn]; simp
    · rw [uintL_ge hn, List.length_cons]
      have := uintL_length k (n / 128) (by rw [Nat.div_lt_iff_lt_mul (by decide)]; rw [Nat.pow_succ] at h; exact h)
      omega
theorem uintL_len10 {n : Nat} (h : n < 18446744073709551616) : (uintL n).length ≤ 10 := uintL_length 9 n (by omega)
theorem or128 : ∀ m : Nat, m < 256 → bits .or .u8 (m : Int) 128 = ((m % 128 + 128 : Nat) : Int) := by decide +kernel
def u8s (l : List Int) : List Value := l.map (.int .u8)
abbrev BVec (A : Option Addr) (l : List Int) (cap : Nat) (x : Own) : Prop := Vec 5 1 A l.length cap (u8s l) x
theorem BVec.nil : BVec none [] 0 (.spare 0 0 0) := ⟨rfl, .inl ⟨rfl, rfl, rfl, rfl⟩⟩
theorem u8s_length (l : List Int) : (u8s l).length = l.length * 1 := by simp [u8s]
theorem u8s_one (l : List Int) : (u8s l).all (·.oneCell') = true := by induction l with | nil => rfl | cons b l ih => simp [u8s, Value.oneCell']
theorem u8s_append (a b : List Int) : u8s (a ++ b) = u8s a ++ u8s b := by simp [u8s]
theorem BVec.snoc {A : Option Addr} {l : List Int} {cap : Nat} {x : Own} {z : Int} (h : Vec 5 1 A (l.length + 1) cap (u8s l ++ [.int .u8 z]) x) : BVec A (l ++ [z]) cap x := by
  unfold BVec; rw [u8s_append, List.length_append]; exact h
theorem u8w (m : Nat) : IntKind.u8.wrap (m : Int) = ((m % 256 : Nat) : Int) := by simp [IntKind.wrap, IntKind.signed, IntKind.bits]

theorem short_fn (G : Gh) (A : Option Addr) (l : List Int) (cap : Nat) (x : Own) (hx : BVec A l cap x) (n : Nat) (hn : n < 18446744073709551616) (hl : l.length ≤ 100000000000000) :
    Fn Tryz.prog 79 #[.slice A l.length cap, .int .u64 n] G [x] fun e G' H' => ∃ A' cap' x', e = .returned (.slice A' (l ++ uintL n).length cap') ∧ G = G' ∧ BVec A' (l ++ uintL n) cap' x' ∧ H' = [x'] := by
  refine Fn.enter Tryz.func79 rfl rfl fun w0 => ?_
  refine gom ?_
  have hlen0 := uintL_len10 hn
  refine WC.loop (X := List Int × Nat × Option Addr × Nat × Own) (fun s => [(0, .slice s.2.2.1 s.1.length s.2.2.2.1), (1, .int .u64 (s.2.1 : Int))]) (fun _ => G) (fun s => [s.2.2.2.2]) (fun s => s.2.1) (fun s => BVec s.2.2.1 s.1 s.2.2.2.1 s.2.2.2.2 ∧ s.1 ++ uintL s.2.1 = l ++ uintL n ∧ s.2.1 < 18446744073709551616) (l, n, A, cap, x) ⟨hx, rfl, hn⟩ (by exact ⟨rfl, rfl, trivial⟩) rfl (List.Sublist.refl _) fun s hs => ?_
  obtain ⟨xs, m, B, c, o⟩ := s
  obtain ⟨hv, heq, hm⟩ := hs
  dsimp only at hv heq hm
  have hlen : xs.length + (uintL m).length = l.length + (uintL n).length := by rw [← List.length_append, heq, List.length_append]
  by_cases hlt : m < 128
  · have e2 : decide ((128 : Int) ≤ (m : Int)) = false := decide_eq_false (by omega)
    rw [uintL_lt hlt] at heq hlen
    simp at hlen
    refine gom ?_
    refine WL.p (Gp.convTo (r := (m : Int)) rfl (by rw [u8w, Nat.mod_eq_of_lt (by first | omega | (dsimp only; omega))])) (by kernel_rfl) rfl ?_
    refine WL.op (by kernel_rfl) (OW.buildSlice rfl (by kernel_rfl) (by kernel_rfl) (by rfl) rfl fun b18 => ?_)
    refine WL.op (by kernel_rfl) (OW.append rfl rfl (by kernel_rfl) (by kernel_rfl) hv (by (repeat first | exact .here | apply At.there)) (Rds.blk0 (cs := [.int .u8 (m : Int)]) .here rfl) rfl rfl (by dsimp only; omega) (by dsimp only; omega) rfl fun A3 c3 o3 hv3 => ?_)
    have h3 := BVec.snoc hv3
    rw [heq] at h3
    have hl3 : xs.length + 1 = (l ++ uintL n).length := by rw [← heq, List.length_append]; rfl
    refine gom ?_
    refine WC.ret ?_
    refine WK.un ?_
    exact QF.p1 (.inl rfl) rfl (.tmp rfl) (⟨A3, c3, o3, by rw [hl3], rfl, h3, rfl⟩)
  · have e2 : decide ((128 : Int) ≤ (m : Int)) = true := decide_eq_true (by omega)
    rw [uintL_ge hlt] at heq hlen
    rw [List.length_cons] at hlen
    refine gom ?_
    refine WL.p (Gp.convTo (r := ((m % 256 : Nat) : Int)) rfl (u8w m)) (by kernel_rfl) rfl ?_
    refine WL.p (Gp.orTo (r := ((m % 128 + 128 : Nat) : Int)) rfl rfl (by rw [or128 _ (Nat.mod_lt _ (by decide)), Nat.mod_mod_of_dvd _ (by decide)])) (by kernel_rfl) rfl ?_
    refine WL.op (by kernel_rfl) (OW.buildSlice rfl (by kernel_rfl) (by kernel_rfl) (by rfl) rfl fun b13 => ?_)
    refine WL.op (by kernel_rfl) (OW.append rfl rfl (by kernel_rfl) (by kernel_rfl) hv (by (repeat first | exact .here | apply At.there)) (Rds.blk0 (cs := [.int .u8 ((m % 128 + 128 : Nat) : Int)]) .here rfl) rfl rfl (by dsimp only; omega) (by dsimp only; omega) rfl fun A3 c3 o3 hv3 => ?_)
    have h3 := BVec.snoc hv3
    refine gom ?_
    refine WL.p (Gp.shrTo (r := ((m / 128 : Nat) : Int)) rfl rfl (by decide) (by show (m : Int) / 128 = _; omega)) (by kernel_rfl) rfl ?_
    refine gom ?_
    refine WK.pick [o3] ?_
    have hl3 : xs.length + 1 = (xs ++ [((m % 128 + 128 : Nat) : Int)]).length := by rw [List.length_append]; rfl
    exact WK.again (xs ++ [((m % 128 + 128 : Nat) : Int)], m / 128, A3, c3, o3) (by dsimp only; omega) ⟨h3, by dsimp only; rw [← heq, List.append_assoc]; rfl, by dsimp only; omega⟩ (by exact ⟨by show _ = some (Value.slice A3 _ c3); rw [← hl3]; rfl, rfl, trivial⟩) rfl (List.Sublist.refl _)
theorem rUint_fn (G : Gh) (n : Nat) (hn : n < 18446744073709551616) :
    Fn Tryz.prog 54 #[.int .u64 n] G [] fun e G' H' => ∃ A' cap' x', e = .returned (.slice A' (uintL n).length cap') ∧ G = G' ∧ BVec A' (uintL n) cap' x' ∧ H' = [x'] := by
  refine Fn.enter Tryz.func54 rfl rfl fun w0 => ?_
  refine gom ?_
  refine WC.nothing ?_
  have hlen0 := uintL_len10 hn
  refine WC.loop (X := List Int × Nat × Option Addr × Nat × Own) (fun s => [(3, .slice s.2.2.1 s.1.length s.2.2.2.1), (0, .int .u64 (s.2.1 : Int))]) (fun _ => G) (fun s => [s.2.2.2.2]) (fun s => s.2.1) (fun s => BVec s.2.2.1 s.1 s.2.2.2.1 s.2.2.2.2 ∧ s.1 ++ uintL s.2.1 = uintL n ∧ s.2.1 < 18446744073709551616) ([], n, none, 0, .spare 0 0 0) ⟨BVec.nil, rfl, hn⟩ (by exact ⟨rfl, rfl, trivial⟩) rfl (List.Sublist.refl _) fun s hs => ?_
  obtain ⟨xs, m, B, c, o⟩ := s
  obtain ⟨hv, heq, hm⟩ := hs
  dsimp only at hv heq hm
  have hlen : xs.length + (uintL m).length = (uintL n).length := by rw [← List.length_append, heq]
  by_cases hlt : m < 128
  · have e2 : decide ((128 : Int) ≤ (m : Int)) = false := decide_eq_false (by omega)
    rw [uintL_lt hlt] at heq hlen
    simp at hlen
    refine gom ?_
    refine WL.p (Gp.convTo (r := (m : Int)) rfl (by rw [u8w, Nat.mod_eq_of_lt (by first | omega | (dsimp only; omega))])) (by kernel_rfl) rfl ?_
    refine WL.op (by kernel_rfl) (OW.buildSlice rfl (by kernel_rfl) (by kernel_rfl) (by rfl) rfl fun b18 => ?_)
    refine WL.op (by kernel_rfl) (OW.append rfl rfl (by kernel_rfl) (by kernel_rfl) hv (by (repeat first | exact .here | apply At.there)) (Rds.blk0 (cs := [.int .u8 (m : Int)]) .here rfl) rfl rfl (by dsimp only; omega) (by dsimp only; omega) rfl fun A3 c3 o3 hv3 => ?_)
    have h3 := BVec.snoc hv3
    rw [heq] at h3
    have hl3 : xs.length + 1 = (uintL n).length := by rw [← heq, List.length_append]; rfl
    refine gom ?_
    refine WC.ret ?_
    refine WK.un ?_
    exact QF.p1 (.inl rfl) rfl (.tmp rfl) (⟨A3, c3, o3, by rw [hl3], rfl, h3, rfl⟩)
  · have e2 : decide ((128 : Int) ≤ (m : Int)) = true := decide_eq_true (by omega)
    rw [uintL_ge hlt] at heq hlen
    rw [List.length_cons] at hlen
    have x2 : IntKind.u8.wrap (((m % 128 : Nat) : Int) + 128) = ((m % 128 + 128 : Nat) : Int) := by
      rw [show ((m % 128 : Nat) : Int) + 128 = ((m % 128 + 128 : Nat) : Int) by omega, u8w, Nat.mod_eq_of_lt (by omega)]
    refine gom ?_
    refine WL.p (Gp.remTo (r := ((m % 128 : Nat) : Int)) rfl rfl (by decide) (by dsimp only; rw [Int.tmod_eq_emod_of_nonneg (by omega)]; omega)) (by kernel_rfl) rfl ?_
    refine WL.p (Gp.convTo (r := ((m % 128 : Nat) : Int)) rfl (by rw [u8w, Nat.mod_eq_of_lt (by first | omega | (dsimp only; omega))])) (by kernel_rfl) rfl ?_
    refine gom ?_
    refine WL.op (by kernel_rfl) (OW.buildSlice rfl (by kernel_rfl) (by kernel_rfl) (by rfl) rfl fun b11 => ?_)
    refine WL.op (by kernel_rfl) (OW.append rfl rfl (by kernel_rfl) (by kernel_rfl) hv (by (repeat first | exact .here | apply At.there)) (Rds.blk0 (cs := [.int .u8 ((m % 128 + 128 : Nat) : Int)]) .here rfl) rfl rfl (by dsimp only; omega) (by dsimp only; omega) rfl fun A3 c3 o3 hv3 => ?_)
    have h3 := BVec.snoc hv3
    refine gom ?_
    refine WL.p (Gp.quoTo (r := ((m / 128 : Nat) : Int)) rfl rfl (by decide) (by dsimp only; rw [Int.tdiv_eq_ediv_of_nonneg (by omega)]; simp [IntKind.wrap, IntKind.signed, IntKind.bits]; omega)) (by kernel_rfl) rfl ?_
    refine gom ?_
    refine WK.pick [o3] ?_
    have hl3 : xs.length + 1 = (xs ++ [((m % 128 + 128 : Nat) : Int)]).length := by rw [List.length_append]; rfl
    exact WK.again (xs ++ [((m % 128 + 128 : Nat) : Int)], m / 128, A3, c3, o3) (by dsimp only; omega) ⟨h3, by dsimp only; rw [← heq, List.append_assoc]; rfl, by dsimp only; omega⟩ (by exact ⟨by show _ = some (Value.slice A3 _ c3); rw [← hl3]; rfl, rfl, trivial⟩) rfl (List.Sublist.refl _)
end Go.Proofs.YtkmigdmdppkpoaaGreatDoor.Gb
namespace Go.Proofs.YtkmigdmdppkpoaaGreatDoor.Gb
open Go Go.Proofs Go.MapKept
set_option linter.unusedVariables false
set_option linter.unusedSimpArgs false
set_option linter.unusedSectionVars false
attribute [local irreducible] Tryz.prog

theorem fresh_fn (G : Gh) (A : Option Addr) (l : List Int) (cap : Nat) (x : Own) (hx : BVec A l cap x) (hl : l.length ≤ 100000000000000) :
    Fn Tryz.prog 80 #[.slice A l.length cap, .int .i64 10] G [x] fun e G' H' => ∃ A' cap' x', e = .returned (.slice A' l.length cap') ∧ G = G' ∧ BVec A' l cap' x' ∧ H' = [x'] := by
  refine Fn.enter Tryz.func80 rfl rfl fun w0 => ?_
  have x2 : IntKind.i64.wrap ((l.length : Int) + 10) = ((l.length + 10 : Nat) : Int) := by rw [wrapI (by omega) (by omega)]; rfl
  refine gom ?_
  refine WL.op (by kernel_rfl) (OW.makeSlice2 (n := 1) (z := .int .u8 0) (m := (l.length : Int)) (c := ((l.length + 10 : Nat) : Int)) rfl rfl rfl (by omega) (by omega) (by omega) (by omega) rfl fun tb o1 ho1 => ?_)
  rw [Int.toNat_natCast, Int.toNat_natCast] at ho1 ⊢
  refine gom ?_
  refine WL.op (by kernel_rfl) (OW.copy rfl rfl (by kernel_rfl) ho1 .here (hx.rds (.there .here)) (u8s_length l) (u8s_one l) (Nat.le_refl _) rfl fun o2 ho2 => ?_)
  have h2 : BVec (some ⟨tb, 0, none⟩) l (l.length + 10) o2 := by
    unfold BVec
    rw [List.drop_eq_nil_of_le (by rw [repS_length]; exact Nat.le_refl _), List.append_nil] at ho2
    exact ho2
  refine gom ?_
  refine WC.ret ?_
  refine WK.un ?_
  exact QF.p1 (.inl rfl) rfl (.tmp rfl) (⟨_, _, o2, rfl, rfl, h2, rfl⟩)
theorem putUint_fn (G : Gh) (A : Option Addr) (l : List Int) (cap : Nat) (x : Own) (hx : BVec A l cap x) (n : Nat) (hn : n < 18446744073709551616) (hl : l.length ≤ 100000000000000) :
    Fn Tryz.prog 53 #[.slice A l.length cap, .int .u64 n] G [x] fun e G' H' => ∃ A' cap' x', e = .returned (.slice A' (l ++ uintL n).length cap') ∧ G = G' ∧ BVec A' (l ++ uintL n) cap' x' ∧ H' = [x'] := by
  refine Fn.enter Tryz.func53 rfl rfl fun w0 => ?_
  refine gom ?_
  refine WL.op (by kernel_rfl) (OW.callK rfl (fresh_fn G A l cap x hx hl) rfl fun v' G' H' h hg => ?_)
  obtain ⟨A1, c1, x1, he, rfl, h1, rfl⟩ := h
  cases he
  refine gom ?_
  refine WL.op (by kernel_rfl) (OW.callK rfl (short_fn G A1 l c1 x1 h1 n hn hl) rfl fun v' G' H' h hg => ?_)
  obtain ⟨A2, c2, x2, he, rfl, h2, rfl⟩ := h
  cases he
  refine gom ?_
  refine WC.ret ?_
  refine WK.un ?_
  exact QF.p1 (.inl rfl) rfl (.tmp rfl) (⟨_, _, x2, rfl, rfl, h2, rfl⟩)

theorem rowC_out {c : Int} (h : ¬ (1 ≤ c ∧ c ≤ 26)) : rowC c = rw0 := by
  unfold rowC
  split
  · rfl
  · rw [List.getElem?_eq_none (by show 27 ≤ c.toNat; omega)]; rfl
theorem is_row (c : Int) : (decide (1 ≤ c) && decide (c ≤ 26)) = ((rowC c).name != ⟨#[]⟩) := by
  by_cases h : 1 ≤ c ∧ c ≤ 26
  · have hd : ∀ k : Nat, k < 26 → ((rowC ((k : Int) + 1)).name != ⟨#[]⟩) = true := by decide +kernel
    obtain ⟨k, rfl⟩ : ∃ k : Nat, c = (k : Int) + 1 := ⟨(c - 1).toNat, by omega⟩
    rw [hd k (by omega), decide_eq_true h.1, decide_eq_true h.2]; rfl
  · rw [rowC_out h]
    rw [show (decide (1 ≤ c) && decide (c ≤ 26)) = false by simp; omega]; rfl
def numbR (c : Int) : Bool := c == 1 || c == 2 || c == 3 || c == 5 || c == 6 || c == 7 || c == 8
theorem numbR_row (c : Int) : numbR c = (rowC c).n := by
  by_cases h : 1 ≤ c ∧ c ≤ 26
  · have hd : ∀ k : Nat, k < 26 → numbR ((k : Int) + 1) = (rowC ((k : Int) + 1)).n := by decide +kernel
    obtain ⟨k, rfl⟩ : ∃ k : Nat, c = (k : Int) + 1 := ⟨(c - 1).toNat, by omega⟩
    exact hd k (by omega)
  · rw [rowC_out h]
    unfold numbR
    simp [rw0]; omega
theorem numb_fn (G : Gh) (H : List Own) (c : Int) : Fn Tryz.prog 51 #[.int .i64 c] G H fun e G' H' => e = .returned (.bool (rowC c).n) ∧ G = G' ∧ H' = H := by
  rw [← numbR_row]
  refine Fn.enter Tryz.func51 rfl rfl fun w0 => ?_
  unfold numbR
  cases y1 : (c == 1) with
  | true =>
    refine gom ?_
    refine WC.ret ?_
    refine WK.un ?_
    exact QF.p1 (.inl rfl) rfl (.tmp rfl) (⟨rfl, rfl, rfl⟩)
  | false =>
  cases y2 : (c == 2) with
  | true =>
    refine gom ?_
    refine WC.ret ?_
    refine WK.un ?_
    exact QF.p1 (.inl rfl) rfl (.tmp rfl) (⟨rfl, rfl, rfl⟩)
  | false =>
  cases y3 : (c == 3) with
  | true =>
    refine gom ?_
    refine WC.ret ?_
    refine WK.un ?_
    exact QF.p1 (.inl rfl) rfl (.tmp rfl) (⟨rfl, rfl, rfl⟩)
  | false =>
  cases y5 : (c == 5) with
  | true =>
    refine gom ?_
    refine WC.ret ?_
    refine WK.un ?_
    exact QF.p1 (.inl rfl) rfl (.tmp rfl) (⟨rfl, rfl, rfl⟩)
  | false =>
  cases y6 : (c == 6) with
  | true =>
    refine gom ?_
    refine WC.ret ?_
    refine WK.un ?_
    exact QF.p1 (.inl rfl) rfl (.tmp rfl) (⟨rfl, rfl, rfl⟩)
  | false =>
  cases y7 : (c == 7) with
  | true =>
    refine gom ?_
    refine WC.ret ?_
    refine WK.un ?_
    exact QF.p1 (.inl rfl) rfl (.tmp rfl) (⟨rfl, rfl, rfl⟩)
  | false =>
    refine gom ?_
    refine WC.ret ?_
    refine WK.un ?_
    exact QF.p1 (.inl rfl) rfl (.tmp rfl) (⟨by simp, rfl, rfl⟩)
theorem lone_fn (G : Gh) (c n : Int) : Fn Tryz.prog 50 #[.agg #[.int .i64 c, .int .i64 n]] G [] fun e G' H' => e = .returned (.bool (mayR c n)) ∧ G = G' ∧ H' = [] := by
  refine Fn.enter Tryz.func50 rfl rfl fun w0 => ?_
  refine WC.seq ?_
  refine WC.region ?_
  refine WL.op (by kernel_rfl) (OW.box rfl rfl fun b1 => ?_)
  refine gom ?_
  refine WL.op (by kernel_rfl) (OW.callK rfl (ris_fn G c) rfl fun v' G' H' h hg => ?_)
  obtain ⟨he, rfl, rfl⟩ := h
  cases he
  rw [is_row, mayR]
  cases hb : ((rowC c).name != ⟨#[]⟩) with
  | false =>
    refine gom ?_
    refine WC.ret ?_
    refine WK.un ?_
    exact QF.p1 (.inl rfl) rfl (.tmp rfl) (⟨by simp, rfl, rfl⟩)
  | true =>
  cases h0 : decide (0 ≤ n) with
  | false =>
    refine gom ?_
    refine WC.ret ?_
    refine WK.un ?_
    exact QF.p1 (.inl rfl) rfl (.tmp rfl) (⟨by simp, rfl, rfl⟩)
  | true =>
  cases h1 : decide (n ≤ 2147483647) with
  | false =>
    refine gom ?_
    refine WC.ret ?_
    refine WK.un ?_
    exact QF.p1 (.inl rfl) rfl (.tmp rfl) (⟨by simp, rfl, rfl⟩)
  | true =>
  refine gom ?_
  refine WL.op (by kernel_rfl) (OW.callK rfl (numb_fn G [] c) rfl fun v' G' H' h hg => ?_)
  obtain ⟨he, rfl, rfl⟩ := h
  cases he
  cases h2 : (rowC c).n with
  | true =>
    refine gom ?_
    refine WC.ret ?_
    refine WK.un ?_
    exact QF.p1 (.inl rfl) rfl (.tmp rfl) (⟨by simp, rfl, rfl⟩)
  | false =>
    refine gom ?_
    refine WC.ret ?_
    refine WK.un ?_
    exact QF.p1 (.inl rfl) rfl (.tmp rfl) (⟨by simp, rfl, rfl⟩)
end Go.Proofs.YtkmigdmdppkpoaaGreatDoor.Gb
namespace Go.Proofs.YtkmigdmdppkpoaaGreatDoor.Gb
open Go Go.Proofs Go.MapKept
set_option linter.unusedVariables false
set_option linter.unusedSimpArgs false
set_option linter.unusedSectionVars false
attribute [local irreducible] Tryz.prog
/-- what instructions can name, by value -/
structure RWp (G : Gh) (w : Wd) (CA NA PA : Option Addr) : Prop where
  consts : Sl Kd.val G CA w.consts
  needs : Sl Kd.ned G NA w.needs
  procs : Sl Kd.prc G PA w.procs
  cl : w.consts.length ≤ 100000000000000
  nl : w.needs.length ≤ 100000000000000
  pl : w.procs.length ≤ 100000000000000
  np : ∀ q ∈ w.needs, q.params.length ≤ 100000000000000
  pp : ∀ q ∈ w.procs, q.params.length ≤ 100000000000000
theorem RWp.mono {G G' : Gh} {w : Wd} {CA NA PA : Option Addr} (h : RWp G w CA NA PA) (hg : G.le G') : RWp G' w CA NA PA :=
  ⟨h.consts.mono hg, h.needs.mono hg, h.procs.mono hg, h.cl, h.nl, h.pl, h.np, h.pp⟩
abbrev wdC (w : Wd) (CA NA PA : Option Addr) (cc nc pc : Nat) : Array Value := #[.slice CA w.consts.length cc, .slice NA w.needs.length nc, .slice PA w.procs.length pc]
theorem RWp.takes {G : Gh} {w : Wd} {CA NA PA : Option Addr} {cc nc pc : Nat} (h : RWp G w CA NA PA) (vars : List Int) (i : Int × Int) : (effC w vars i).1 ≤ 100000000000000 := by
  unfold effC
  have h2 := rowC_takes i.1
  split
  · simp
  split
  · simp
  split
  · cases hq : w.procs[i.2.toNat]? with
    | none => simp
    | some p => exact h.pp p (List.mem_of_getElem? hq)
  split
  · cases hq : w.needs[i.2.toNat]? with
    | none => simp
    | some p => exact h.np p (List.mem_of_getElem? hq)
  split
  · simp
  split
  · simp
  split
  · simp
  split <;> simp <;> omega

def limR (w : Wd) (p : Pr) (c : Int) : Int := if c = 1 then (w.consts.length : Int) else if c = 2 ∨ c = 3 then p.locals else if c = 7 then (w.procs.length : Int) else if c = 8 then (w.needs.length : Int) else (p.code.length : Int)
def itsR (w : Wd) (p : Pr) (c n : Int) : Int := if mayR c n = false then 180 else if (rowC c).n = true ∧ limR w p c ≤ n then (if c = 5 ∨ c = 6 then 182 else 180) else 0
theorem itsR_eq {w : Wd} {p : Pr} (h : p.code.length ≤ 16384) (c n : Int) : itsR w p c n = aloneR w p (c, n) := by
  unfold itsR aloneR limR
  cases hm : mayR c n with
  | false => rfl
  | true =>
    have hm' : ¬ (true = false) := by simp
    rw [if_neg hm', if_neg hm']
    have hmm := hm
    unfold mayR at hmm
    simp only [Bool.and_eq_true, Bool.or_eq_true, decide_eq_true_eq] at hmm
    obtain ⟨_, h0, h1, h2⟩ := hmm
    dsimp only
    rw [← numbR_row] at h2 ⊢
    by_cases c1 : c = 1
    · subst c1; simp [numbR]
    by_cases c2 : c = 2
    · subst c2; simp [numbR]
    by_cases c3 : c = 3
    · subst c3; simp [numbR]
    by_cases c7 : c = 7
    · subst c7; simp [numbR]
    by_cases c8 : c = 8
    · subst c8; simp [numbR]
    by_cases c5 : c = 5
    · subst c5
      by_cases hn : (p.code.length : Int) ≤ n
      · simp [numbR, hn]
      · simp [numbR, hn]; omega
    by_cases c6 : c = 6
    · subst c6
      by_cases hn : (p.code.length : Int) ≤ n
      · simp [numbR, hn]
      · simp [numbR, hn]; omega
    have hn : numbR c = false := by unfold numbR; simp [c1, c2, c3, c5, c6, c7, c8]
    rw [hn] at h2 ⊢
    have hn0 : n = 0 := by simpa using h2
    subst hn0
    simp [c1, c2, c3, c5, c6, c7, c8]
set_option maxHeartbeats 2000000 in
theorem ritself_fn (G : Gh) (w : Wd) (p : Pr) (CA NA PA : Option Addr) (cc nc pc : Nat) (QA IA : Option Addr) (qc ic : Nat) (c n : Int) :
    Fn Tryz.prog 125 #[.agg (wdC w CA NA PA cc nc pc), .agg (prC p QA qc IA ic), .agg #[.int .i64 c, .int .i64 n]] G [] fun e G' H' => e = .returned (.int .i64 (itsR w p c n)) ∧ G = G' ∧ H' = [] := by
  refine Fn.enter Tryz.func125 rfl rfl fun w0 => ?_
  refine WC.seq ?_
  refine WC.region ?_
  refine WL.op (by kernel_rfl) (OW.box rfl rfl fun b1 => ?_)
  refine WL.op (by kernel_rfl) (OW.box rfl rfl fun b2 => ?_)
  refine WL.op (by kernel_rfl) (OW.box rfl rfl fun b3 => ?_)
  refine gom ?_
  refine WL.op (by kernel_rfl) (OW.callK rfl (lone_fn G c n) rfl fun v' G' H' h hg => ?_)
  obtain ⟨he, rfl, rfl⟩ := h
  cases he
  cases hm : mayR c n with
  | false =>
    have he : itsR w p c n = 180 := by unfold itsR; rw [if_pos hm]
    rw [he]
    refine gom ?_
    refine WC.ret ?_
    refine WK.un ?_
    exact QF.p1 (.inl rfl) rfl (.tmp rfl) (⟨rfl, rfl, rfl⟩)
  | true =>
  have hm' : ¬ (mayR c n = false) := by rw [hm]; simp
  refine WL.pick [.blk b1 (.cells (wdC w CA NA PA cc nc pc) 143 (0, 0)), .blk b2 (.cells (prC p QA qc IA ic) 45 (0, 0)), .blk b3 (.cells #[.int .i64 c, .int .i64 n] 50 (0, 0))] ?_
  by_cases c1 : c = 1
  · subst c1
    have hr : (rowC 1).n = true := rfl
    by_cases hq : (w.consts.length : Int) ≤ n
    · have z2 : decide ((w.consts.length : Int) ≤ n) = true := decide_eq_true hq
      have he : itsR w p 1 n = 180 := by unfold itsR limR; rw [if_neg hm', if_pos ⟨hr, by simpa using hq⟩]; rfl
      rw [he]
      refine gom ?_
      refine WL.op (by kernel_rfl) (OW.callK rfl (numb_fn G [] 1) rfl fun v' G' H' h hg => ?_)
      obtain ⟨he2, rfl, rfl⟩ := h
      cases he2
      rw [hr]
      refine gom ?_
      refine WC.ret ?_
      refine WK.un ?_
      exact QF.p1 (.inl rfl) rfl (.tmp rfl) (⟨rfl, rfl, rfl⟩)
    · have z2 : decide ((w.consts.length : Int) ≤ n) = false := decide_eq_false hq
      have he : itsR w p 1 n = 0 := by unfold itsR limR; rw [if_neg hm', if_neg (fun h => hq (by simpa using h.2))]
      rw [he]
      refine gom ?_
      refine WL.op (by kernel_rfl) (OW.callK rfl (numb_fn G [] 1) rfl fun v' G' H' h hg => ?_)
      obtain ⟨he2, rfl, rfl⟩ := h
      cases he2
      rw [hr]
      refine gom ?_
      refine WC.ret ?_
      refine WK.un ?_
      exact QF.p1 (.inl rfl) rfl (.tmp rfl) (⟨rfl, rfl, rfl⟩)
  have y1 : (c == 1) = false := by simpa using c1
  by_cases c2 : c = 2
  · subst c2
    have hr : (rowC 2).n = true := rfl
    by_cases hq : p.locals ≤ n
    · have z2 : decide (p.locals ≤ n) = true := decide_eq_true hq
      have he : itsR w p 2 n = 180 := by unfold itsR limR; rw [if_neg hm', if_pos ⟨hr, by simpa using hq⟩]; rfl
      rw [he]
      refine gom ?_
      refine WL.op (by kernel_rfl) (OW.callK rfl (numb_fn G [] 2) rfl fun v' G' H' h hg => ?_)
      obtain ⟨he2, rfl, rfl⟩ := h
      cases he2
      rw [hr]
      refine gom ?_
      refine WC.ret ?_
      refine WK.un ?_
      exact QF.p1 (.inl rfl) rfl (.tmp rfl) (⟨rfl, rfl, rfl⟩)
    · have z2 : decide (p.locals ≤ n) = false := decide_eq_false hq
      have he : itsR w p 2 n = 0 := by unfold itsR limR; rw [if_neg hm', if_neg (fun h => hq (by simpa using h.2))]
      rw [he]
      refine gom ?_
      refine WL.op (by kernel_rfl) (OW.callK rfl (numb_fn G [] 2) rfl fun v' G' H' h hg => ?_)
      obtain ⟨he2, rfl, rfl⟩ := h
      cases he2
      rw [hr]
      refine gom ?_
      refine WC.ret ?_
      refine WK.un ?_
      exact QF.p1 (.inl rfl) rfl (.tmp rfl) (⟨rfl, rfl, rfl⟩)
  have y2 : (c == 2) = false := by simpa using c2
  by_cases c3 : c = 3
  · subst c3
    have hr : (rowC 3).n = true := rfl
    by_cases hq : p.locals ≤ n
    · have z2 : decide (p.locals ≤ n) = true := decide_eq_true hq
      have he : itsR w p 3 n = 180 := by unfold itsR limR; rw [if_neg hm', if_pos ⟨hr, by simpa using hq⟩]; rfl
      rw [he]
      refine gom ?_
      refine WL.op (by kernel_rfl) (OW.callK rfl (numb_fn G [] 3) rfl fun v' G' H' h hg => ?_)
      obtain ⟨he2, rfl, rfl⟩ := h
      cases he2
      rw [hr]
      refine gom ?_
      refine WC.ret ?_
      refine WK.un ?_
      exact QF.p1 (.inl rfl) rfl (.tmp rfl) (⟨rfl, rfl, rfl⟩)
    · have z2 : decide (p.locals ≤ n) = false := decide_eq_false hq
      have he : itsR w p 3 n = 0 := by unfold itsR limR; rw [if_neg hm', if_neg (fun h => hq (by simpa using h.2))]
      rw [he]
      refine gom ?_
      refine WL.op (by kernel_rfl) (OW.callK rfl (numb_fn G [] 3) rfl fun v' G' H' h hg => ?_)
      obtain ⟨he2, rfl, rfl⟩ := h
      cases he2
      rw [hr]
      refine gom ?_
      refine WC.ret ?_
      refine WK.un ?_
      exact QF.p1 (.inl rfl) rfl (.tmp rfl) (⟨rfl, rfl, rfl⟩)
  have y3 : (c == 3) = false := by simpa using c3
  by_cases c7 : c = 7
  · subst c7
    have hr : (rowC 7).n = true := rfl
    by_cases hq : (w.procs.length : Int) ≤ n
    · have z2 : decide ((w.procs.length : Int) ≤ n) = true := decide_eq_true hq
      have he : itsR w p 7 n = 180 := by unfold itsR limR; rw [if_neg hm', if_pos ⟨hr, by simpa using hq⟩]; rfl
      rw [he]
      refine gom ?_
      refine WL.op (by kernel_rfl) (OW.callK rfl (numb_fn G [] 7) rfl fun v' G' H' h hg => ?_)
      obtain ⟨he2, rfl, rfl⟩ := h
      cases he2
      rw [hr]
      refine gom ?_
      refine WC.ret ?_
      refine WK.un ?_
      exact QF.p1 (.inl rfl) rfl (.tmp rfl) (⟨rfl, rfl, rfl⟩)
    · have z2 : decide ((w.procs.length : Int) ≤ n) = false := decide_eq_false hq
      have he : itsR w p 7 n = 0 := by unfold itsR limR; rw [if_neg hm', if_neg (fun h => hq (by simpa using h.2))]
      rw [he]
      refine gom ?_
      refine WL.op (by kernel_rfl) (OW.callK rfl (numb_fn G [] 7) rfl fun v' G' H' h hg => ?_)
      obtain ⟨he2, rfl, rfl⟩ := h
      cases he2
      rw [hr]
      refine gom ?_
      refine WC.ret ?_
      refine WK.un ?_
      exact QF.p1 (.inl rfl) rfl (.tmp rfl) (⟨rfl, rfl, rfl⟩)
  have y7 : (c == 7) = false := by simpa using c7
  by_cases c8 : c = 8
  · subst c8
    have hr : (rowC 8).n = true := rfl
    by_cases hq : (w.needs.length : Int) ≤ n
    · have z2 : decide ((w.needs.length : Int) ≤ n) = true := decide_eq_true hq
      have he : itsR w p 8 n = 180 := by unfold itsR limR; rw [if_neg hm', if_pos ⟨hr, by simpa using hq⟩]; rfl
      rw [he]
      refine gom ?_
      refine WL.op (by kernel_rfl) (OW.callK rfl (numb_fn G [] 8) rfl fun v' G' H' h hg => ?_)
      obtain ⟨he2, rfl, rfl⟩ := h
      cases he2
      rw [hr]
      refine gom ?_
      refine WC.ret ?_
      refine WK.un ?_
      exact QF.p1 (.inl rfl) rfl (.tmp rfl) (⟨rfl, rfl, rfl⟩)
    · have z2 : decide ((w.needs.length : Int) ≤ n) = false := decide_eq_false hq
      have he : itsR w p 8 n = 0 := by unfold itsR limR; rw [if_neg hm', if_neg (fun h => hq (by simpa using h.2))]
      rw [he]
      refine gom ?_
      refine WL.op (by kernel_rfl) (OW.callK rfl (numb_fn G [] 8) rfl fun v' G' H' h hg => ?_)
      obtain ⟨he2, rfl, rfl⟩ := h
      cases he2
      rw [hr]
      refine gom ?_
      refine WC.ret ?_
      refine WK.un ?_
      exact QF.p1 (.inl rfl) rfl (.tmp rfl) (⟨rfl, rfl, rfl⟩)
  have y8 : (c == 8) = false := by simpa using c8
  by_cases c5 : c = 5
  · subst c5
    have hr : (rowC 5).n = true := rfl
    by_cases hq : (p.code.length : Int) ≤ n
    · have z2 : decide ((p.code.length : Int) ≤ n) = true := decide_eq_true hq
      have he : itsR w p 5 n = 182 := by unfold itsR limR; rw [if_neg hm', if_pos ⟨hr, by simpa using hq⟩]; rfl
      rw [he]
      refine gom ?_
      refine WL.op (by kernel_rfl) (OW.callK rfl (numb_fn G [] 5) rfl fun v' G' H' h hg => ?_)
      obtain ⟨he2, rfl, rfl⟩ := h
      cases he2
      rw [hr]
      refine gom ?_
      refine WC.ret ?_
      refine WK.un ?_
      exact QF.p1 (.inl rfl) rfl (.tmp rfl) (⟨rfl, rfl, rfl⟩)
    · have z2 : decide ((p.code.length : Int) ≤ n) = false := decide_eq_false hq
      have he : itsR w p 5 n = 0 := by unfold itsR limR; rw [if_neg hm', if_neg (fun h => hq (by simpa using h.2))]
      rw [he]
      refine gom ?_
      refine WL.op (by kernel_rfl) (OW.callK rfl (numb_fn G [] 5) rfl fun v' G' H' h hg => ?_)
      obtain ⟨he2, rfl, rfl⟩ := h
      cases he2
      rw [hr]
      refine gom ?_
      refine WC.ret ?_
      refine WK.un ?_
      exact QF.p1 (.inl rfl) rfl (.tmp rfl) (⟨rfl, rfl, rfl⟩)
  have y5 : (c == 5) = false := by simpa using c5
  by_cases c6 : c = 6
  · subst c6
    have hr : (rowC 6).n = true := rfl
    by_cases hq : (p.code.length : Int) ≤ n
    · have z2 : decide ((p.code.length : Int) ≤ n) = true := decide_eq_true hq
      have he : itsR w p 6 n = 182 := by unfold itsR limR; rw [if_neg hm', if_pos ⟨hr, by simpa using hq⟩]; rfl
      rw [he]
      refine gom ?_
      refine WL.op (by kernel_rfl) (OW.callK rfl (numb_fn G [] 6) rfl fun v' G' H' h hg => ?_)
      obtain ⟨he2, rfl, rfl⟩ := h
      cases he2
      rw [hr]
      refine gom ?_
      refine WC.ret ?_
      refine WK.un ?_
      exact QF.p1 (.inl rfl) rfl (.tmp rfl) (⟨rfl, rfl, rfl⟩)
    · have z2 : decide ((p.code.length : Int) ≤ n) = false := decide_eq_false hq
      have he : itsR w p 6 n = 0 := by unfold itsR limR; rw [if_neg hm', if_neg (fun h => hq (by simpa using h.2))]
      rw [he]
      refine gom ?_
      refine WL.op (by kernel_rfl) (OW.callK rfl (numb_fn G [] 6) rfl fun v' G' H' h hg => ?_)
      obtain ⟨he2, rfl, rfl⟩ := h
      cases he2
      rw [hr]
      refine gom ?_
      refine WC.ret ?_
      refine WK.un ?_
      exact QF.p1 (.inl rfl) rfl (.tmp rfl) (⟨rfl, rfl, rfl⟩)
  have y6 : (c == 6) = false := by simpa using c6
  have hr : (rowC c).n = false := by rw [← numbR_row]; unfold numbR; simp [c1, c2, c3, c5, c6, c7, c8]
  have he : itsR w p c n = 0 := by unfold itsR; rw [if_neg hm', if_neg (fun h => by rw [hr] at h; exact absurd h.1 (by simp))]
  rw [he]
  refine gom ?_
  refine WL.op (by kernel_rfl) (OW.callK rfl (numb_fn G [] c) rfl fun v' G' H' h hg => ?_)
  obtain ⟨he2, rfl, rfl⟩ := h
  cases he2
  rw [hr]
  refine gom ?_
  refine WC.ret ?_
  refine WK.un ?_
  exact QF.p1 (.inl rfl) rfl (.tmp rfl) (⟨rfl, rfl, rfl⟩)
/-! #### what an instruction takes and lays -/
set_option maxHeartbeats 4000000 in
theorem reffect_fn (G : Gh) (w : Wd) (p : Pr) (CA NA PA : Option Addr) (cc nc pc : Nat) (hW : RWp G w CA NA PA) (QA IA : Option Addr) (qc ic : Nat) (VA : Option Addr) (sv : List Int) (vc : Nat) (hV : Sl (Kd.int .i64) G VA sv) (c : Int) (n : Nat) (ho : EOk w sv.length c n) :
    Fn Tryz.prog 127 #[.agg (wdC w CA NA PA cc nc pc), .agg (prC p QA qc IA ic), .agg #[.int .i64 c, .int .i64 n], .slice VA sv.length vc] G []
      fun e G' H' => ∃ A cap, e = .returned (.tuple #[.int .i64 (effC w sv (c, n)).1, .slice A (effC w sv (c, n)).2.length cap]) ∧ G.le G' ∧ Sl (Kd.int .i64) G' A (effC w sv (c, n)).2 ∧ H' = [] := by
  obtain ⟨ho1, ho2, ho3, ho7, ho8⟩ := ho
  refine Fn.enter Tryz.func127 rfl rfl fun w0 => ?_
  refine WC.seq ?_
  refine WC.region ?_
  refine WL.op (by kernel_rfl) (OW.box rfl rfl fun b1 => ?_)
  refine WL.op (by kernel_rfl) (OW.box rfl rfl fun b2 => ?_)
  refine WL.op (by kernel_rfl) (OW.box rfl rfl fun b3 => ?_)
  by_cases h1 : c = 1
  · subst h1
    obtain ⟨v, hvv⟩ : ∃ v, w.consts[n]? = some v := ⟨_, List.getElem?_eq_getElem (ho1 rfl)⟩
    obtain ⟨cb, co, cs, rfl, hk, hcs⟩ := hW.consts n v hvv
    obtain rfl : cs = vcells v := hk
    have x0 : (0 : Int) ≤ (n : Int) := by omega
    have x1 : (n : Int) < (w.consts.length : Int) := by have := ho1 rfl; omega
    have he1 : effC w sv ((1 : Int), (n : Int)) = (0, [v.t]) := by unfold effC; simp [hvv]
    refine gom ?_
    refine WL.op (by kernel_rfl) (OW.buildSlice rfl (by kernel_rfl) (by kernel_rfl) (by rfl) rfl fun b4 => ?_)
    refine WL.nothing ?_
    refine WL.op (by kernel_rfl) (OW.append rfl rfl (by kernel_rfl) (by kernel_rfl) TVec.nil (by (repeat first | exact .here | apply At.there)) (Rds.blk0 (cs := [.int .i64 v.t]) (by (repeat first | exact .here | apply At.there)) rfl) rfl rfl (by first | omega | (dsimp only; omega)) (by first | omega | (dsimp only; omega)) rfl fun A3 c3 o3 hv3 => ?_)
    have h3 := TVec.snoc (l := []) hv3
    refine gom ?_
    refine WC.frozenVec h3 (by (repeat first | exact .here | apply At.there)) fun G2 h2 z2 => ?_
    have hs2 := IVec.sl z2
    refine WC.ret ?_
    refine WK.un ?_
    exact QF.p2 (.inl rfl) rfl (.tmp rfl) (.tmp rfl) (⟨A3, c3, by rw [he1]; first | done | rfl, h2, by rw [he1]; exact hs2, rfl⟩)
  have y1 : (c == 1) = false := by simpa using h1
  by_cases h2 : c = 2
  · subst h2
    obtain ⟨v, hvv⟩ : ∃ v, sv[n]? = some v := ⟨_, List.getElem?_eq_getElem (ho2 rfl)⟩
    obtain ⟨cb, co, rfl, hcs⟩ := hV.at hvv
    have x0 : (0 : Int) ≤ (n : Int) := by omega
    have x1 : (n : Int) < (sv.length : Int) := by have := ho2 rfl; omega
    have he1 : effC w sv ((2 : Int), (n : Int)) = (0, [v]) := by unfold effC; simp [hvv]
    refine gom ?_
    refine WL.op (by kernel_rfl) (OW.buildSlice rfl (by kernel_rfl) (by kernel_rfl) (by rfl) rfl fun b5 => ?_)
    refine WL.nothing ?_
    refine WL.op (by kernel_rfl) (OW.append rfl rfl (by kernel_rfl) (by kernel_rfl) TVec.nil (by (repeat first | exact .here | apply At.there)) (Rds.blk0 (cs := [.int .i64 v]) (by (repeat first | exact .here | apply At.there)) rfl) rfl rfl (by first | omega | (dsimp only; omega)) (by first | omega | (dsimp only; omega)) rfl fun A3 c3 o3 hv3 => ?_)
    have h3 := TVec.snoc (l := []) hv3
    refine gom ?_
    refine WC.frozenVec h3 (by (repeat first | exact .here | apply At.there)) fun G2 h2 z2 => ?_
    have hs2 := IVec.sl z2
    refine WC.ret ?_
    refine WK.un ?_
    exact QF.p2 (.inl rfl) rfl (.tmp rfl) (.tmp rfl) (⟨A3, c3, by rw [he1]; first | done | rfl, h2, by rw [he1]; exact hs2, rfl⟩)
  have y2 : (c == 2) = false := by simpa using h2
  by_cases h3 : c = 3
  · subst h3
    have he1 : effC w sv ((3 : Int), (n : Int)) = (1, []) := by unfold effC; simp [rowC, rowsC]
    refine gom ?_
    refine WC.ret ?_
    refine WK.un ?_
    exact QF.p2 (.inl rfl) rfl (.tmp rfl) (.tmp rfl) (⟨none, 0, by rw [he1]; first | done | rfl, Gh.le_refl _, by rw [he1]; exact Sl.nil _ _ _, rfl⟩)
  have y3 : (c == 3) = false := by simpa using h3
  by_cases h4 : c = 4
  · subst h4
    have he1 : effC w sv ((4 : Int), (n : Int)) = (1, []) := by unfold effC; simp [rowC, rowsC]
    refine gom ?_
    refine WC.ret ?_
    refine WK.un ?_
    exact QF.p2 (.inl rfl) rfl (.tmp rfl) (.tmp rfl) (⟨none, 0, by rw [he1]; first | done | rfl, Gh.le_refl _, by rw [he1]; exact Sl.nil _ _ _, rfl⟩)
  have y4 : (c == 4) = false := by simpa using h4
  by_cases h6 : c = 6
  · subst h6
    have he1 : effC w sv ((6 : Int), (n : Int)) = (1, []) := by unfold effC; simp [rowC, rowsC]
    refine gom ?_
    refine WC.ret ?_
    refine WK.un ?_
    exact QF.p2 (.inl rfl) rfl (.tmp rfl) (.tmp rfl) (⟨none, 0, by rw [he1]; first | done | rfl, Gh.le_refl _, by rw [he1]; exact Sl.nil _ _ _, rfl⟩)
  have y6 : (c == 6) = false := by simpa using h6
  by_cases h10 : c = 10
  · subst h10
    have he1 : effC w sv ((10 : Int), (n : Int)) = (1, []) := by unfold effC; simp [rowC, rowsC]
    refine gom ?_
    refine WC.ret ?_
    refine WK.un ?_
    exact QF.p2 (.inl rfl) rfl (.tmp rfl) (.tmp rfl) (⟨none, 0, by rw [he1]; first | done | rfl, Gh.le_refl _, by rw [he1]; exact Sl.nil _ _ _, rfl⟩)
  have y10 : (c == 10) = false := by simpa using h10
  by_cases h11 : c = 11
  · subst h11
    have he1 : effC w sv ((11 : Int), (n : Int)) = (1, []) := by unfold effC; simp [rowC, rowsC]
    refine gom ?_
    refine WC.ret ?_
    refine WK.un ?_
    exact QF.p2 (.inl rfl) rfl (.tmp rfl) (.tmp rfl) (⟨none, 0, by rw [he1]; first | done | rfl, Gh.le_refl _, by rw [he1]; exact Sl.nil _ _ _, rfl⟩)
  have y11 : (c == 11) = false := by simpa using h11
  by_cases h7 : c = 7
  · subst h7
    obtain ⟨q, hq⟩ : ∃ q, w.procs[n]? = some q := ⟨_, List.getElem?_eq_getElem (ho7 rfl)⟩
    obtain ⟨cb, co, cs, rfl, hk, hcs⟩ := hW.procs n q hq
    obtain ⟨PA2, pc2, CA2, cc2, rfl, hk1, hk2⟩ := hk
    have x0 : (0 : Int) ≤ (n : Int) := by omega
    have x1 : (n : Int) < (w.procs.length : Int) := by have := ho7 rfl; omega
    have he1 : effC w sv ((7 : Int), (n : Int)) = (q.params.length, if q.result = 0 then [] else [q.result]) := by unfold effC; simp [hq, hdE]
    by_cases hr : q.result = 0
    · have e4 : (q.result != 0) = false := by simpa using hr
      rw [if_pos hr] at he1
      refine gom ?_
      refine WC.ret ?_
      refine WK.un ?_
      exact QF.p2 (.inl rfl) rfl (.tmp rfl) (.tmp rfl) (⟨none, 0, by rw [he1]; first | done | rfl, Gh.le_refl _, by rw [he1]; exact Sl.nil _ _ _, rfl⟩)
    · have e4 : (q.result != 0) = true := by simpa using hr
      rw [if_neg hr] at he1
      refine gom ?_
      refine WL.op (by kernel_rfl) (OW.buildSlice rfl (by kernel_rfl) (by kernel_rfl) (by rfl) rfl fun b6 => ?_)
      refine WL.nothing ?_
      refine WL.op (by kernel_rfl) (OW.append rfl rfl (by kernel_rfl) (by kernel_rfl) TVec.nil (by (repeat first | exact .here | apply At.there)) (Rds.blk0 (cs := [.int .i64 q.result]) (by (repeat first | exact .here | apply At.there)) rfl) rfl rfl (by first | omega | (dsimp only; omega)) (by first | omega | (dsimp only; omega)) rfl fun A3 c3 o3 hv3 => ?_)
      have h3 := TVec.snoc (l := []) hv3
      refine gom ?_
      refine WC.frozenVec h3 (by (repeat first | exact .here | apply At.there)) fun G2 h2 z2 => ?_
      have hs2 := IVec.sl z2
      refine WC.ret ?_
      refine WK.un ?_
      exact QF.p2 (.inl rfl) rfl (.tmp rfl) (.tmp rfl) (⟨A3, c3, by rw [he1]; first | done | rfl, h2, by rw [he1]; exact hs2, rfl⟩)
  have y7 : (c == 7) = false := by simpa using h7
  by_cases h8 : c = 8
  · subst h8
    obtain ⟨q, hq⟩ : ∃ q, w.needs[n]? = some q := ⟨_, List.getElem?_eq_getElem (ho8 rfl)⟩
    obtain ⟨cb, co, cs, rfl, hk, hcs⟩ := hW.needs n q hq
    obtain ⟨PA2, pc2, rfl, hk1⟩ := hk
    have x0 : (0 : Int) ≤ (n : Int) := by omega
    have x1 : (n : Int) < (w.needs.length : Int) := by have := ho8 rfl; omega
    have he1 : effC w sv ((8 : Int), (n : Int)) = (q.params.length, if q.result = 0 then [] else [q.result]) := by unfold effC; simp [hq, hdE]
    by_cases hr : q.result = 0
    · have e4 : (q.result != 0) = false := by simpa using hr
      rw [if_pos hr] at he1
      refine gom ?_
      refine WC.ret ?_
      refine WK.un ?_
      exact QF.p2 (.inl rfl) rfl (.tmp rfl) (.tmp rfl) (⟨none, 0, by rw [he1]; first | done | rfl, Gh.le_refl _, by rw [he1]; exact Sl.nil _ _ _, rfl⟩)
    · have e4 : (q.result != 0) = true := by simpa using hr
      rw [if_neg hr] at he1
      refine gom ?_
      refine WL.op (by kernel_rfl) (OW.buildSlice rfl (by kernel_rfl) (by kernel_rfl) (by rfl) rfl fun b7 => ?_)
      refine WL.nothing ?_
      refine WL.op (by kernel_rfl) (OW.append rfl rfl (by kernel_rfl) (by kernel_rfl) TVec.nil (by (repeat first | exact .here | apply At.there)) (Rds.blk0 (cs := [.int .i64 q.result]) (by (repeat first | exact .here | apply At.there)) rfl) rfl rfl (by first | omega | (dsimp only; omega)) (by first | omega | (dsimp only; omega)) rfl fun A3 c3 o3 hv3 => ?_)
      have h3 := TVec.snoc (l := []) hv3
      refine gom ?_
      refine WC.frozenVec h3 (by (repeat first | exact .here | apply At.there)) fun G2 h2 z2 => ?_
      have hs2 := IVec.sl z2
      refine WC.ret ?_
      refine WK.un ?_
      exact QF.p2 (.inl rfl) rfl (.tmp rfl) (.tmp rfl) (⟨A3, c3, by rw [he1]; first | done | rfl, h2, by rw [he1]; exact hs2, rfl⟩)
  have y8 : (c == 8) = false := by simpa using h8
  by_cases h12 : c = 12
  · subst h12
    have he1 : effC w sv ((12 : Int), (n : Int)) = (2, [2]) := by unfold effC; simp [rowC, rowsC]
    refine gom ?_
    refine WL.op (by kernel_rfl) (OW.buildSlice rfl (by kernel_rfl) (by kernel_rfl) (by rfl) rfl fun b8 => ?_)
    refine WL.nothing ?_
    refine WL.op (by kernel_rfl) (OW.append rfl rfl (by kernel_rfl) (by kernel_rfl) TVec.nil (by (repeat first | exact .here | apply At.there)) (Rds.blk0 (cs := [.int .i64 2]) (by (repeat first | exact .here | apply At.there)) rfl) rfl rfl (by first | omega | (dsimp only; omega)) (by first | omega | (dsimp only; omega)) rfl fun A3 c3 o3 hv3 => ?_)
    have h3 := TVec.snoc (l := []) hv3
    refine gom ?_
    refine WC.frozenVec h3 (by (repeat first | exact .here | apply At.there)) fun G2 h2 z2 => ?_
    have hs2 := IVec.sl z2
    refine WC.ret ?_
    refine WK.un ?_
    exact QF.p2 (.inl rfl) rfl (.tmp rfl) (.tmp rfl) (⟨A3, c3, by rw [he1]; first | done | rfl, h2, by rw [he1]; exact hs2, rfl⟩)
  have y12 : (c == 12) = false := by simpa using h12
  by_cases h13 : c = 13
  · subst h13
    have he1 : effC w sv ((13 : Int), (n : Int)) = (2, [2]) := by unfold effC; simp [rowC, rowsC]
    refine gom ?_
    refine WL.op (by kernel_rfl) (OW.buildSlice rfl (by kernel_rfl) (by kernel_rfl) (by rfl) rfl fun b8 => ?_)
    refine WL.nothing ?_
    refine WL.op (by kernel_rfl) (OW.append rfl rfl (by kernel_rfl) (by kernel_rfl) TVec.nil (by (repeat first | exact .here | apply At.there)) (Rds.blk0 (cs := [.int .i64 2]) (by (repeat first | exact .here | apply At.there)) rfl) rfl rfl (by first | omega | (dsimp only; omega)) (by first | omega | (dsimp only; omega)) rfl fun A3 c3 o3 hv3 => ?_)
    have h3 := TVec.snoc (l := []) hv3
    refine gom ?_
    refine WC.frozenVec h3 (by (repeat first | exact .here | apply At.there)) fun G2 h2 z2 => ?_
    have hs2 := IVec.sl z2
    refine WC.ret ?_
    refine WK.un ?_
    exact QF.p2 (.inl rfl) rfl (.tmp rfl) (.tmp rfl) (⟨A3, c3, by rw [he1]; first | done | rfl, h2, by rw [he1]; exact hs2, rfl⟩)
  have y13 : (c == 13) = false := by simpa using h13
  by_cases h14 : c = 14
  · subst h14
    have he1 : effC w sv ((14 : Int), (n : Int)) = (2, [2]) := by unfold effC; simp [rowC, rowsC]
    refine gom ?_
    refine WL.op (by kernel_rfl) (OW.buildSlice rfl (by kernel_rfl) (by kernel_rfl) (by rfl) rfl fun b8 => ?_)
    refine WL.nothing ?_
    refine WL.op (by kernel_rfl) (OW.append rfl rfl (by kernel_rfl) (by kernel_rfl) TVec.nil (by (repeat first | exact .here | apply At.there)) (Rds.blk0 (cs := [.int .i64 2]) (by (repeat first | exact .here | apply At.there)) rfl) rfl rfl (by first | omega | (dsimp only; omega)) (by first | omega | (dsimp only; omega)) rfl fun A3 c3 o3 hv3 => ?_)
    have h3 := TVec.snoc (l := []) hv3
    refine gom ?_
    refine WC.frozenVec h3 (by (repeat first | exact .here | apply At.there)) fun G2 h2 z2 => ?_
    have hs2 := IVec.sl z2
    refine WC.ret ?_
    refine WK.un ?_
    exact QF.p2 (.inl rfl) rfl (.tmp rfl) (.tmp rfl) (⟨A3, c3, by rw [he1]; first | done | rfl, h2, by rw [he1]; exact hs2, rfl⟩)
  have y14 : (c == 14) = false := by simpa using h14
  by_cases h15 : c = 15
  · subst h15
    have he1 : effC w sv ((15 : Int), (n : Int)) = (2, [2]) := by unfold effC; simp [rowC, rowsC]
    refine gom ?_
    refine WL.op (by kernel_rfl) (OW.buildSlice rfl (by kernel_rfl) (by kernel_rfl) (by rfl) rfl fun b8 => ?_)
    refine WL.nothing ?_
    refine WL.op (by kernel_rfl) (OW.append rfl rfl (by kernel_rfl) (by kernel_rfl) TVec.nil (by (repeat first | exact .here | apply At.there)) (Rds.blk0 (cs := [.int .i64 2]) (by (repeat first | exact .here | apply At.there)) rfl) rfl rfl (by first | omega | (dsimp only; omega)) (by first | omega | (dsimp only; omega)) rfl fun A3 c3 o3 hv3 => ?_)
    have h3 := TVec.snoc (l := []) hv3
    refine gom ?_
    refine WC.frozenVec h3 (by (repeat first | exact .here | apply At.there)) fun G2 h2 z2 => ?_
    have hs2 := IVec.sl z2
    refine WC.ret ?_
    refine WK.un ?_
    exact QF.p2 (.inl rfl) rfl (.tmp rfl) (.tmp rfl) (⟨A3, c3, by rw [he1]; first | done | rfl, h2, by rw [he1]; exact hs2, rfl⟩)
  have y15 : (c == 15) = false := by simpa using h15
  by_cases h16 : c = 16
  · subst h16
    have he1 : effC w sv ((16 : Int), (n : Int)) = (2, [2]) := by unfold effC; simp [rowC, rowsC]
    refine gom ?_
    refine WL.op (by kernel_rfl) (OW.buildSlice rfl (by kernel_rfl) (by kernel_rfl) (by rfl) rfl fun b8 => ?_)
    refine WL.nothing ?_
    refine WL.op (by kernel_rfl) (OW.append rfl rfl (by kernel_rfl) (by kernel_rfl) TVec.nil (by (repeat first | exact .here | apply At.there)) (Rds.blk0 (cs := [.int .i64 2]) (by (repeat first | exact .here | apply At.there)) rfl) rfl rfl (by first | omega | (dsimp only; omega)) (by first | omega | (dsimp only; omega)) rfl fun A3 c3 o3 hv3 => ?_)
    have h3 := TVec.snoc (l := []) hv3
    refine gom ?_
    refine WC.frozenVec h3 (by (repeat first | exact .here | apply At.there)) fun G2 h2 z2 => ?_
    have hs2 := IVec.sl z2
    refine WC.ret ?_
    refine WK.un ?_
    exact QF.p2 (.inl rfl) rfl (.tmp rfl) (.tmp rfl) (⟨A3, c3, by rw [he1]; first | done | rfl, h2, by rw [he1]; exact hs2, rfl⟩)
  have y16 : (c == 16) = false := by simpa using h16
  by_cases h17 : c = 17
  · subst h17
    have he1 : effC w sv ((17 : Int), (n : Int)) = (2, [2]) := by unfold effC; simp [rowC, rowsC]
    refine gom ?_
    refine WL.op (by kernel_rfl) (OW.buildSlice rfl (by kernel_rfl) (by kernel_rfl) (by rfl) rfl fun b8 => ?_)
    refine WL.nothing ?_
    refine WL.op (by kernel_rfl) (OW.append rfl rfl (by kernel_rfl) (by kernel_rfl) TVec.nil (by (repeat first | exact .here | apply At.there)) (Rds.blk0 (cs := [.int .i64 2]) (by (repeat first | exact .here | apply At.there)) rfl) rfl rfl (by first | omega | (dsimp only; omega)) (by first | omega | (dsimp only; omega)) rfl fun A3 c3 o3 hv3 => ?_)
    have h3 := TVec.snoc (l := []) hv3
    refine gom ?_
    refine WC.frozenVec h3 (by (repeat first | exact .here | apply At.there)) fun G2 h2 z2 => ?_
    have hs2 := IVec.sl z2
    refine WC.ret ?_
    refine WK.un ?_
    exact QF.p2 (.inl rfl) rfl (.tmp rfl) (.tmp rfl) (⟨A3, c3, by rw [he1]; first | done | rfl, h2, by rw [he1]; exact hs2, rfl⟩)
  have y17 : (c == 17) = false := by simpa using h17
  by_cases h20 : c = 20
  · subst h20
    have he1 : effC w sv ((20 : Int), (n : Int)) = (2, [3]) := by unfold effC; simp [rowC, rowsC]
    refine gom ?_
    refine WL.op (by kernel_rfl) (OW.buildSlice rfl (by kernel_rfl) (by kernel_rfl) (by rfl) rfl fun b9 => ?_)
    refine WL.nothing ?_
    refine WL.op (by kernel_rfl) (OW.append rfl rfl (by kernel_rfl) (by kernel_rfl) TVec.nil (by (repeat first | exact .here | apply At.there)) (Rds.blk0 (cs := [.int .i64 3]) (by (repeat first | exact .here | apply At.there)) rfl) rfl rfl (by first | omega | (dsimp only; omega)) (by first | omega | (dsimp only; omega)) rfl fun A3 c3 o3 hv3 => ?_)
    have h3 := TVec.snoc (l := []) hv3
    refine gom ?_
    refine WC.frozenVec h3 (by (repeat first | exact .here | apply At.there)) fun G2 h2 z2 => ?_
    have hs2 := IVec.sl z2
    refine WC.ret ?_
    refine WK.un ?_
    exact QF.p2 (.inl rfl) rfl (.tmp rfl) (.tmp rfl) (⟨A3, c3, by rw [he1]; first | done | rfl, h2, by rw [he1]; exact hs2, rfl⟩)
  have y20 : (c == 20) = false := by simpa using h20
  by_cases h18 : c = 18
  · subst h18
    have he1 : effC w sv ((18 : Int), (n : Int)) = (2, [1]) := by unfold effC; simp [rowC, rowsC]
    refine gom ?_
    refine WL.op (by kernel_rfl) (OW.buildSlice rfl (by kernel_rfl) (by kernel_rfl) (by rfl) rfl fun b10 => ?_)
    refine WL.nothing ?_
    refine WL.op (by kernel_rfl) (OW.append rfl rfl (by kernel_rfl) (by kernel_rfl) TVec.nil (by (repeat first | exact .here | apply At.there)) (Rds.blk0 (cs := [.int .i64 1]) (by (repeat first | exact .here | apply At.there)) rfl) rfl rfl (by first | omega | (dsimp only; omega)) (by first | omega | (dsimp only; omega)) rfl fun A3 c3 o3 hv3 => ?_)
    have h3 := TVec.snoc (l := []) hv3
    refine gom ?_
    refine WC.frozenVec h3 (by (repeat first | exact .here | apply At.there)) fun G2 h2 z2 => ?_
    have hs2 := IVec.sl z2
    refine WC.ret ?_
    refine WK.un ?_
    exact QF.p2 (.inl rfl) rfl (.tmp rfl) (.tmp rfl) (⟨A3, c3, by rw [he1]; first | done | rfl, h2, by rw [he1]; exact hs2, rfl⟩)
  have y18 : (c == 18) = false := by simpa using h18
  by_cases h19 : c = 19
  · subst h19
    have he1 : effC w sv ((19 : Int), (n : Int)) = (2, [1]) := by unfold effC; simp [rowC, rowsC]
    refine gom ?_
    refine WL.op (by kernel_rfl) (OW.buildSlice rfl (by kernel_rfl) (by kernel_rfl) (by rfl) rfl fun b10 => ?_)
    refine WL.nothing ?_
    refine WL.op (by kernel_rfl) (OW.append rfl rfl (by kernel_rfl) (by kernel_rfl) TVec.nil (by (repeat first | exact .here | apply At.there)) (Rds.blk0 (cs := [.int .i64 1]) (by (repeat first | exact .here | apply At.there)) rfl) rfl rfl (by first | omega | (dsimp only; omega)) (by first | omega | (dsimp only; omega)) rfl fun A3 c3 o3 hv3 => ?_)
    have h3 := TVec.snoc (l := []) hv3
    refine gom ?_
    refine WC.frozenVec h3 (by (repeat first | exact .here | apply At.there)) fun G2 h2 z2 => ?_
    have hs2 := IVec.sl z2
    refine WC.ret ?_
    refine WK.un ?_
    exact QF.p2 (.inl rfl) rfl (.tmp rfl) (.tmp rfl) (⟨A3, c3, by rw [he1]; first | done | rfl, h2, by rw [he1]; exact hs2, rfl⟩)
  have y19 : (c == 19) = false := by simpa using h19
  by_cases h21 : c = 21
  · subst h21
    have he1 : effC w sv ((21 : Int), (n : Int)) = (2, [1]) := by unfold effC; simp [rowC, rowsC]
    refine gom ?_
    refine WL.op (by kernel_rfl) (OW.buildSlice rfl (by kernel_rfl) (by kernel_rfl) (by rfl) rfl fun b10 => ?_)
    refine WL.nothing ?_
    refine WL.op (by kernel_rfl) (OW.append rfl rfl (by kernel_rfl) (by kernel_rfl) TVec.nil (by (repeat first | exact .here | apply At.there)) (Rds.blk0 (cs := [.int .i64 1]) (by (repeat first | exact .here | apply At.there)) rfl) rfl rfl (by first | omega | (dsimp only; omega)) (by first | omega | (dsimp only; omega)) rfl fun A3 c3 o3 hv3 => ?_)
    have h3 := TVec.snoc (l := []) hv3
    refine gom ?_
    refine WC.frozenVec h3 (by (repeat first | exact .here | apply At.there)) fun G2 h2 z2 => ?_
    have hs2 := IVec.sl z2
    refine WC.ret ?_
    refine WK.un ?_
    exact QF.p2 (.inl rfl) rfl (.tmp rfl) (.tmp rfl) (⟨A3, c3, by rw [he1]; first | done | rfl, h2, by rw [he1]; exact hs2, rfl⟩)
  have y21 : (c == 21) = false := by simpa using h21
  by_cases h22 : c = 22
  · subst h22
    have he1 : effC w sv ((22 : Int), (n : Int)) = (2, [1]) := by unfold effC; simp [rowC, rowsC]
    refine gom ?_
    refine WL.op (by kernel_rfl) (OW.buildSlice rfl (by kernel_rfl) (by kernel_rfl) (by rfl) rfl fun b10 => ?_)
    refine WL.nothing ?_
    refine WL.op (by kernel_rfl) (OW.append rfl rfl (by kernel_rfl) (by kernel_rfl) TVec.nil (by (repeat first | exact .here | apply At.there)) (Rds.blk0 (cs := [.int .i64 1]) (by (repeat first | exact .here | apply At.there)) rfl) rfl rfl (by first | omega | (dsimp only; omega)) (by first | omega | (dsimp only; omega)) rfl fun A3 c3 o3 hv3 => ?_)
    have h3 := TVec.snoc (l := []) hv3
    refine gom ?_
    refine WC.frozenVec h3 (by (repeat first | exact .here | apply At.there)) fun G2 h2 z2 => ?_
    have hs2 := IVec.sl z2
    refine WC.ret ?_
    refine WK.un ?_
    exact QF.p2 (.inl rfl) rfl (.tmp rfl) (.tmp rfl) (⟨A3, c3, by rw [he1]; first | done | rfl, h2, by rw [he1]; exact hs2, rfl⟩)
  have y22 : (c == 22) = false := by simpa using h22
  by_cases h23 : c = 23
  · subst h23
    have he1 : effC w sv ((23 : Int), (n : Int)) = (2, [1]) := by unfold effC; simp [rowC, rowsC]
    refine gom ?_
    refine WL.op (by kernel_rfl) (OW.buildSlice rfl (by kernel_rfl) (by kernel_rfl) (by rfl) rfl fun b10 => ?_)
    refine WL.nothing ?_
    refine WL.op (by kernel_rfl) (OW.append rfl rfl (by kernel_rfl) (by kernel_rfl) TVec.nil (by (repeat first | exact .here | apply At.there)) (Rds.blk0 (cs := [.int .i64 1]) (by (repeat first | exact .here | apply At.there)) rfl) rfl rfl (by first | omega | (dsimp only; omega)) (by first | omega | (dsimp only; omega)) rfl fun A3 c3 o3 hv3 => ?_)
    have h3 := TVec.snoc (l := []) hv3
    refine gom ?_
    refine WC.frozenVec h3 (by (repeat first | exact .here | apply At.there)) fun G2 h2 z2 => ?_
    have hs2 := IVec.sl z2
    refine WC.ret ?_
    refine WK.un ?_
    exact QF.p2 (.inl rfl) rfl (.tmp rfl) (.tmp rfl) (⟨A3, c3, by rw [he1]; first | done | rfl, h2, by rw [he1]; exact hs2, rfl⟩)
  have y23 : (c == 23) = false := by simpa using h23
  by_cases h24 : c = 24
  · subst h24
    have he1 : effC w sv ((24 : Int), (n : Int)) = (1, [1]) := by unfold effC; simp [rowC, rowsC]
    refine gom ?_
    refine WL.op (by kernel_rfl) (OW.buildSlice rfl (by kernel_rfl) (by kernel_rfl) (by rfl) rfl fun b11 => ?_)
    refine WL.nothing ?_
    refine WL.op (by kernel_rfl) (OW.append rfl rfl (by kernel_rfl) (by kernel_rfl) TVec.nil (by (repeat first | exact .here | apply At.there)) (Rds.blk0 (cs := [.int .i64 1]) (by (repeat first | exact .here | apply At.there)) rfl) rfl rfl (by first | omega | (dsimp only; omega)) (by first | omega | (dsimp only; omega)) rfl fun A3 c3 o3 hv3 => ?_)
    have h3 := TVec.snoc (l := []) hv3
    refine gom ?_
    refine WC.frozenVec h3 (by (repeat first | exact .here | apply At.there)) fun G2 h2 z2 => ?_
    have hs2 := IVec.sl z2
    refine WC.ret ?_
    refine WK.un ?_
    exact QF.p2 (.inl rfl) rfl (.tmp rfl) (.tmp rfl) (⟨A3, c3, by rw [he1]; first | done | rfl, h2, by rw [he1]; exact hs2, rfl⟩)
  have y24 : (c == 24) = false := by simpa using h24
  by_cases h26 : c = 26
  · subst h26
    have he1 : effC w sv ((26 : Int), (n : Int)) = (1, [1]) := by unfold effC; simp [rowC, rowsC]
    refine gom ?_
    refine WL.op (by kernel_rfl) (OW.buildSlice rfl (by kernel_rfl) (by kernel_rfl) (by rfl) rfl fun b11 => ?_)
    refine WL.nothing ?_
    refine WL.op (by kernel_rfl) (OW.append rfl rfl (by kernel_rfl) (by kernel_rfl) TVec.nil (by (repeat first | exact .here | apply At.there)) (Rds.blk0 (cs := [.int .i64 1]) (by (repeat first | exact .here | apply At.there)) rfl) rfl rfl (by first | omega | (dsimp only; omega)) (by first | omega | (dsimp only; omega)) rfl fun A3 c3 o3 hv3 => ?_)
    have h3 := TVec.snoc (l := []) hv3
    refine gom ?_
    refine WC.frozenVec h3 (by (repeat first | exact .here | apply At.there)) fun G2 h2 z2 => ?_
    have hs2 := IVec.sl z2
    refine WC.ret ?_
    refine WK.un ?_
    exact QF.p2 (.inl rfl) rfl (.tmp rfl) (.tmp rfl) (⟨A3, c3, by rw [he1]; first | done | rfl, h2, by rw [he1]; exact hs2, rfl⟩)
  have y26 : (c == 26) = false := by simpa using h26
  by_cases h25 : c = 25
  · subst h25
    have he1 : effC w sv ((25 : Int), (n : Int)) = (1, [2]) := by unfold effC; simp [rowC, rowsC]
    refine gom ?_
    refine WL.op (by kernel_rfl) (OW.buildSlice rfl (by kernel_rfl) (by kernel_rfl) (by rfl) rfl fun b12 => ?_)
    refine WL.nothing ?_
    refine WL.op (by kernel_rfl) (OW.append rfl rfl (by kernel_rfl) (by kernel_rfl) TVec.nil (by (repeat first | exact .here | apply At.there)) (Rds.blk0 (cs := [.int .i64 2]) (by (repeat first | exact .here | apply At.there)) rfl) rfl rfl (by first | omega | (dsimp only; omega)) (by first | omega | (dsimp only; omega)) rfl fun A3 c3 o3 hv3 => ?_)
    have h3 := TVec.snoc (l := []) hv3
    refine gom ?_
    refine WC.frozenVec h3 (by (repeat first | exact .here | apply At.there)) fun G2 h2 z2 => ?_
    have hs2 := IVec.sl z2
    refine WC.ret ?_
    refine WK.un ?_
    exact QF.p2 (.inl rfl) rfl (.tmp rfl) (.tmp rfl) (⟨A3, c3, by rw [he1]; first | done | rfl, h2, by rw [he1]; exact hs2, rfl⟩)
  have y25 : (c == 25) = false := by simpa using h25
  have he1 : effC w sv (c, (n : Int)) = (0, []) := by
    by_cases h : 1 ≤ c ∧ c ≤ 26
    · obtain h5 | h9 : c = 5 ∨ c = 9 := by omega
      · subst h5; unfold effC; simp [rowC, rowsC]
      · subst h9; unfold effC; simp [rowC, rowsC]
    · unfold effC
      rw [rowC_out h]
      rw [if_neg h1, if_neg h2, if_neg h7, if_neg h8, if_neg h20, if_neg (by omega), if_neg h25]; rfl
  refine gom ?_
  refine WC.ret ?_
  refine WK.un ?_
  exact QF.p2 (.inl rfl) rfl (.tmp rfl) (.tmp rfl) (⟨none, 0, by rw [he1]; first | done | rfl, Gh.le_refl _, by rw [he1]; exact Sl.nil _ _ _, rfl⟩)
end Go.Proofs.YtkmigdmdppkpoaaGreatDoor.Gb
namespace Go.Proofs.YtkmigdmdppkpoaaGreatDoor.Gb
open Go Go.Proofs Go.MapKept
set_option linter.unusedVariables false
set_option linter.unusedSimpArgs false
set_option linter.unusedSectionVars false
attribute [local irreducible] Tryz.prog
theorem TVec.nilv : Vec 42 1 none 0 0 [] (.spare 0 0 0) := ⟨rfl, .inl ⟨rfl, rfl, rfl, rfl⟩⟩
theorem Sl.takeV {α : Type} {k : Kd α} {G : Gh} {A : Option Addr} {xs : List α} (h : Sl k G A xs) (n : Nat) : Sl k G A (xs.take n) := fun i x hx => h i x (by
  rw [List.getElem?_take] at hx
  split at hx
  · exact hx
  · cases hx)
section
variable (G : Gh) (w : Wd) (p : Pr) (CA NA PA : Option Addr) (cc nc pc : Nat) (hW : RWp G w CA NA PA) (QA IA : Option Addr) (qc ic : Nat)
include hW
set_option maxHeartbeats 4000000 in
theorem rbehind_fn (s : SS) (VA : Option Addr) (vc : Nat) (SA : Option Addr) (sc : Nat) (hS : SRep G s VA vc SA sc) (hr : s.reached = true) (hv : s.vars.length ≤ 1000000000) (hk : s.stack.length ≤ 1000000000) (c : Int) (n : Nat) (ho : EOk w s.vars.length c n) :
    Fn Tryz.prog 101 #[.agg (wdC w CA NA PA cc nc pc), .agg (prC p QA qc IA ic), .agg #[.int .i64 c, .int .i64 n], rsV s VA vc SA sc] G []
      fun e G' H' => ∃ V' v' S' s', e = .returned (rsV (behR w (c, n) s) V' v' S' s') ∧ G.le G' ∧ SRep G' (behR w (c, n) s) V' v' S' s' ∧ H' = [] := by
  have htk := hW.takes (cc := cc) (nc := nc) (pc := pc) s.vars (c, n)
  have hly := effC_lays w s.vars (c, n)
  refine Fn.enter Tryz.func101 rfl rfl fun w0 => ?_
  obtain ⟨sr, su, sv, sk⟩ := s
  dsimp only at htk hly hv hk ho hr ⊢
  subst hr
  refine WC.seq ?_
  refine WC.region ?_
  refine WL.op (by kernel_rfl) (OW.box rfl rfl fun b1 => ?_)
  refine WL.op (by kernel_rfl) (OW.box rfl rfl fun b2 => ?_)
  refine WL.op (by kernel_rfl) (OW.box rfl rfl fun b3 => ?_)
  refine WL.op (by kernel_rfl) (OW.box rfl rfl fun b4 => ?_)
  refine WL.op (by kernel_rfl) (OW.alloc rfl fun b5 => ?_)
  refine gom ?_
  refine WL.op (by kernel_rfl) (OW.alloc rfl fun b6 => ?_)
  refine gom ?_
  refine WL.nothing ?_
  refine WL.op (by kernel_rfl) (OW.append rfl rfl (by kernel_rfl) (by kernel_rfl) TVec.nilv (by (repeat first | exact .here | apply At.there)) hS.vars.ints (ints_length _) (ints_one _) (by first | omega | (dsimp only; omega)) (by first | omega | (dsimp only; omega)) rfl fun A1 c1 x1 hx1 => ?_)
  rw [Nat.zero_add] at hx1 ⊢
  rw [List.nil_append] at hx1
  replace hx1 : TVec A1 sv c1 x1 := hx1
  have ho3 := ho.store
  have hvl : (varsR (c, (n : Int)) ⟨true, su, sv, sk⟩).length = sv.length := varsR_length _ _
  refine WL.p (Gp.fieldAddr rfl) (by kernel_rfl) rfl ?_
  refine WL.op (by kernel_rfl) (OW.store rfl rfl (by (repeat first | exact .here | apply At.there)) rfl (by rfl) (by rfl) (by kernel_rfl) (by rfl) ?_ rfl)
  refine WL.nil ?_
  refine WK.un ?_
  refine WC.join (X := Own) (fun _ => [(4, .pointer (some ⟨b1, 0, none⟩)), (5, .pointer (some ⟨b2, 0, none⟩)), (6, .pointer (some ⟨b3, 0, none⟩)), (7, .pointer (some ⟨b4, 0, none⟩)), (8, .pointer (some ⟨b5, 0, none⟩)), (9, .pointer (some ⟨b6, 0, none⟩))]) (fun _ => G)
    (fun o => [o, .blk b6 (.cells #[.bool true, .slice A1 sv.length c1, .bool false, .slice none 0 0] 95 (0, 0)), .blk b1 (.cells (wdC w CA NA PA cc nc pc) 143 (0, 0)), .blk b2 (.cells (prC p QA qc IA ic) 45 (0, 0)), .blk b3 (.cells #[.int .i64 c, .int .i64 n] 50 (0, 0)), .blk b4 (.cells #[.bool true, .slice VA sv.length vc, .bool su, .slice SA sk.length sc] 95 (0, 0)), .blk b5 (.cells #[.bool false, .slice none 0 0, .bool false, .slice none 0 0] 95 (0, 0))])
    (fun o => Vec 42 1 A1 sv.length c1 (ints (varsR (c, (n : Int)) ⟨true, su, sv, sk⟩)) o) ?_ fun o hx1' => ?_
  · by_cases h3 : c = 3
    rotate_left
    · have y3 : (c == 3) = false := by simpa using h3
      refine gom ?_
      refine WK.pick [x1, .blk b6 (.cells #[.bool true, .slice A1 sv.length c1, .bool false, .slice none 0 0] 95 (0, 0)), .blk b1 (.cells (wdC w CA NA PA cc nc pc) 143 (0, 0)), .blk b2 (.cells (prC p QA qc IA ic) 45 (0, 0)), .blk b3 (.cells #[.int .i64 c, .int .i64 n] 50 (0, 0)), .blk b4 (.cells #[.bool true, .slice VA sv.length vc, .bool su, .slice SA sk.length sc] 95 (0, 0)), .blk b5 (.cells #[.bool false, .slice none 0 0, .bool false, .slice none 0 0] 95 (0, 0))] ?_
      exact WK.meet (x1) (by unfold varsR; rw [if_neg h3]; exact hx1) (by exact ⟨rfl, rfl, rfl, rfl, rfl, rfl, trivial⟩) rfl (List.Sublist.refl _)
    subst h3
    have hn := ho3 rfl
    obtain ⟨xb, xc, rfl, rfl, hxc⟩ := hx1.some (by omega)
    have hn0 : 0 + ((n : Nat) : Int).toNat * 1 = n := by omega
    obtain ⟨_, hfit, hput⟩ := IVec.put hx1 (i := 0 + ((n : Nat) : Int).toNat * 1) (by omega) 0
    have hble : Nat.ble (0 + ((n : Nat) : Int).toNat * 1 + 1) xc.size = true := Nat.ble_eq_true_of_le (by omega)
    have x0 : (0 : Int) ≤ (n : Int) := by omega
    have x1 : (n : Int) < (sv.length : Int) := by omega
    have hput' : Vec 42 1 (some ⟨xb, 0, none⟩) sv.length c1 (ints (sv.set n 0)) (.blk xb (.cells (splice xc (0 + ((n : Nat) : Int).toNat * 1) [.int .i64 0]) 42 (0, 0))) := by
      have h := hput
      unfold IVec at h
      rw [List.length_set] at h
      rwa [hn0] at h ⊢
    cases su with
    | true =>
      refine gom ?_
      refine WK.pick [.blk xb (.cells (splice xc (0 + ((n : Nat) : Int).toNat * 1) [.int .i64 0]) 42 (0, 0)), .blk b6 (.cells #[.bool true, .slice (some ⟨xb, 0, none⟩) sv.length c1, .bool false, .slice none 0 0] 95 (0, 0)), .blk b1 (.cells (wdC w CA NA PA cc nc pc) 143 (0, 0)), .blk b2 (.cells (prC p QA qc IA ic) 45 (0, 0)), .blk b3 (.cells #[.int .i64 3, .int .i64 n] 50 (0, 0)), .blk b4 (.cells #[.bool true, .slice VA sv.length vc, .bool true, .slice SA sk.length sc] 95 (0, 0)), .blk b5 (.cells #[.bool false, .slice none 0 0, .bool false, .slice none 0 0] 95 (0, 0))] ?_
      exact WK.meet (.blk xb (.cells (splice xc (0 + ((n : Nat) : Int).toNat * 1) [.int .i64 0]) 42 (0, 0))) (hput') (by exact ⟨rfl, rfl, rfl, rfl, rfl, rfl, trivial⟩) rfl (List.Sublist.refl _)
    | false =>
    by_cases hk0 : sk.length = 0
    · have y4 : decide ((0 : Int) < (sk.length : Int)) = false := decide_eq_false (by omega)
      have ht : topS ⟨true, false, sv, sk⟩ = 0 := by
        have : sk = [] := List.eq_nil_of_length_eq_zero hk0
        subst this; rfl
      refine gom ?_
      refine WK.pick [.blk xb (.cells (splice xc (0 + ((n : Nat) : Int).toNat * 1) [.int .i64 0]) 42 (0, 0)), .blk b6 (.cells #[.bool true, .slice (some ⟨xb, 0, none⟩) sv.length c1, .bool false, .slice none 0 0] 95 (0, 0)), .blk b1 (.cells (wdC w CA NA PA cc nc pc) 143 (0, 0)), .blk b2 (.cells (prC p QA qc IA ic) 45 (0, 0)), .blk b3 (.cells #[.int .i64 3, .int .i64 n] 50 (0, 0)), .blk b4 (.cells #[.bool true, .slice VA sv.length vc, .bool false, .slice SA sk.length sc] 95 (0, 0)), .blk b5 (.cells #[.bool false, .slice none 0 0, .bool false, .slice none 0 0] 95 (0, 0))] ?_
      exact WK.meet (.blk xb (.cells (splice xc (0 + ((n : Nat) : Int).toNat * 1) [.int .i64 0]) 42 (0, 0))) (by unfold varsR; rw [if_pos rfl, ht]; exact hput') (by exact ⟨rfl, rfl, rfl, rfl, rfl, rfl, trivial⟩) rfl (List.Sublist.refl _)
    have y4 : decide ((0 : Int) < (sk.length : Int)) = true := decide_eq_true (by omega)
    obtain ⟨z, hz⟩ : ∃ z, sk[sk.length - 1]? = some z := ⟨_, List.getElem?_eq_getElem (by omega)⟩
    have ht : topS ⟨true, false, sv, sk⟩ = z := by
      show (sk[sk.length - 1]?).getD 0 = z
      rw [hz]; rfl
    obtain ⟨zb, zo, rfl, hzc⟩ := hS.stack.at hz
    have y5 : IntKind.i64.wrap ((sk.length : Int) - 1) = ((sk.length - 1 : Nat) : Int) := by
      have e := wrapI (x := (sk.length : Int) - 1) (by omega) (by omega)
      rw [e]; omega
    have z0 : (0 : Int) ≤ ((sk.length - 1 : Nat) : Int) := by omega
    have z1 : ((sk.length - 1 : Nat) : Int) < (sk.length : Int) := by omega
    obtain ⟨_, hfit2, hput2⟩ := IVec.put hput (i := 0 + ((n : Nat) : Int).toNat * 1) (by rw [List.length_set]; omega) z
    have hble2 : Nat.ble (0 + ((n : Nat) : Int).toNat * 1 + 1) (splice xc (0 + ((n : Nat) : Int).toNat * 1) [.int .i64 0]).size = true := Nat.ble_eq_true_of_le (by omega)
    have hput2' : Vec 42 1 (some ⟨xb, 0, none⟩) sv.length c1 (ints (sv.set n z)) (.blk xb (.cells (splice (splice xc (0 + ((n : Nat) : Int).toNat * 1) [.int .i64 0]) (0 + ((n : Nat) : Int).toNat * 1) [.int .i64 z]) 42 (0, 0))) := by
      have h := hput2
      unfold IVec at h
      rw [List.set_set, List.length_set] at h
      rwa [hn0] at h ⊢
    refine go ?_
    refine WC.draw mixed ?_
    refine WA.tp (i := 0) rfl (by kernel_rfl) (by kernel_rfl) rfl (Gp.fieldAddr rfl) ?_
    refine WA.tp (i := 2) rfl (by kernel_rfl) (by kernel_rfl) rfl (Gp.fieldAddr rfl) ?_
    refine WA.tp (i := 4) rfl (by kernel_rfl) (by kernel_rfl) rfl (Gp.fieldAddr rfl) ?_
    refine WA.tp (i := 6) rfl (by kernel_rfl) (by kernel_rfl) rfl (Gp.fieldAddr rfl) ?_
    (first | (refine WA.tv (i := 7) rfl (by kernel_rfl) (by kernel_rfl) rfl (Gv.load1 rfl (by (repeat first | exact .here | apply At.there)) (by first | rfl | assumption)) ?_) | (refine WA.tv (i := 7) rfl (by kernel_rfl) (by kernel_rfl) rfl (Gv.loadN rfl (by (repeat first | exact .here | apply At.there)) (by rfl) (by rfl)) ?_) | (refine WA.tv (i := 7) rfl (by kernel_rfl) (by kernel_rfl) rfl (Gv.loadG1 rfl (by assumption) rfl) ?_) | (refine WA.tv (i := 7) rfl (by kernel_rfl) (by kernel_rfl) rfl (Gv.loadG0 rfl (by assumption) rfl) ?_) | (refine WA.tv (i := 7) rfl (by kernel_rfl) (by kernel_rfl) rfl (Gv.loadGN rfl (by assumption) rfl) ?_))
    (first | refine WA.tp (i := 8) rfl (by kernel_rfl) (by kernel_rfl) rfl (Gp.lenSl rfl) ?_ | refine WA.tp (i := 8) rfl (by kernel_rfl) (by kernel_rfl) rfl (Gp.lenS rfl) ?_)
    refine WA.tp (i := 9) rfl (by kernel_rfl) (by kernel_rfl) rfl (Gp.sub' rfl rfl y5) ?_
    (first | (refine WA.tv (i := 1) rfl (by kernel_rfl) (by kernel_rfl) rfl (Gv.load1 rfl (by (repeat first | exact .here | apply At.there)) (by first | rfl | assumption)) ?_) | (refine WA.tv (i := 1) rfl (by kernel_rfl) (by kernel_rfl) rfl (Gv.loadN rfl (by (repeat first | exact .here | apply At.there)) (by rfl) (by rfl)) ?_) | (refine WA.tv (i := 1) rfl (by kernel_rfl) (by kernel_rfl) rfl (Gv.loadG1 rfl (by assumption) rfl) ?_) | (refine WA.tv (i := 1) rfl (by kernel_rfl) (by kernel_rfl) rfl (Gv.loadG0 rfl (by assumption) rfl) ?_) | (refine WA.tv (i := 1) rfl (by kernel_rfl) (by kernel_rfl) rfl (Gv.loadGN rfl (by assumption) rfl) ?_))
    (first | (refine WA.tv (i := 3) rfl (by kernel_rfl) (by kernel_rfl) rfl (Gv.load1 rfl (by (repeat first | exact .here | apply At.there)) (by first | rfl | assumption)) ?_) | (refine WA.tv (i := 3) rfl (by kernel_rfl) (by kernel_rfl) rfl (Gv.loadN rfl (by (repeat first | exact .here | apply At.there)) (by rfl) (by rfl)) ?_) | (refine WA.tv (i := 3) rfl (by kernel_rfl) (by kernel_rfl) rfl (Gv.loadG1 rfl (by assumption) rfl) ?_) | (refine WA.tv (i := 3) rfl (by kernel_rfl) (by kernel_rfl) rfl (Gv.loadG0 rfl (by assumption) rfl) ?_) | (refine WA.tv (i := 3) rfl (by kernel_rfl) (by kernel_rfl) rfl (Gv.loadGN rfl (by assumption) rfl) ?_))
    (first | (refine WA.tv (i := 5) rfl (by kernel_rfl) (by kernel_rfl) rfl (Gv.load1 rfl (by (repeat first | exact .here | apply At.there)) (by first | rfl | assumption)) ?_) | (refine WA.tv (i := 5) rfl (by kernel_rfl) (by kernel_rfl) rfl (Gv.loadN rfl (by (repeat first | exact .here | apply At.there)) (by rfl) (by rfl)) ?_) | (refine WA.tv (i := 5) rfl (by kernel_rfl) (by kernel_rfl) rfl (Gv.loadG1 rfl (by assumption) rfl) ?_) | (refine WA.tv (i := 5) rfl (by kernel_rfl) (by kernel_rfl) rfl (Gv.loadG0 rfl (by assumption) rfl) ?_) | (refine WA.tv (i := 5) rfl (by kernel_rfl) (by kernel_rfl) rfl (Gv.loadGN rfl (by assumption) rfl) ?_))
    refine WA.tp (i := 10) rfl (by kernel_rfl) (by kernel_rfl) rfl (Gp.indexAddr rfl rfl (by first | assumption | omega | decide) (by first | assumption | omega | decide | (simp only [List.length_cons, List.length_nil]; decide))) ?_
    refine WA.tv (i := 11) rfl (by kernel_rfl) (by kernel_rfl) rfl (Gv.loadG1 (i := 0) rfl hzc rfl) ?_
    refine WA.tp (i := 12) rfl (by kernel_rfl) (by kernel_rfl) rfl (Gp.indexAddr rfl rfl (by first | assumption | omega | decide) (by first | assumption | omega | decide | (simp only [List.length_cons, List.length_nil]; decide))) ?_
    refine WA.one (i := 13) (by kernel_rfl) rfl (by kernel_rfl) (OW.store (n := 1) (cs := [.int .i64 z]) rfl rfl (by (repeat first | exact .here | apply At.there)) rfl rfl rfl hble2 rfl ?_ rfl)
    refine WA.done (by kernel_rfl) ?_
    refine WK.un ?_
    refine WK.pick [.blk xb (.cells (splice (splice xc (0 + ((n : Nat) : Int).toNat * 1) [.int .i64 0]) (0 + ((n : Nat) : Int).toNat * 1) [.int .i64 z]) 42 (0, 0)), .blk b6 (.cells #[.bool true, .slice (some ⟨xb, 0, none⟩) sv.length c1, .bool false, .slice none 0 0] 95 (0, 0)), .blk b1 (.cells (wdC w CA NA PA cc nc pc) 143 (0, 0)), .blk b2 (.cells (prC p QA qc IA ic) 45 (0, 0)), .blk b3 (.cells #[.int .i64 3, .int .i64 n] 50 (0, 0)), .blk b4 (.cells #[.bool true, .slice VA sv.length vc, .bool false, .slice (some ⟨zb, zo, none⟩) sk.length sc] 95 (0, 0)), .blk b5 (.cells #[.bool false, .slice none 0 0, .bool false, .slice none 0 0] 95 (0, 0))] ?_
    exact WK.meet (.blk xb (.cells (splice (splice xc (0 + ((n : Nat) : Int).toNat * 1) [.int .i64 0]) (0 + ((n : Nat) : Int).toNat * 1) [.int .i64 z]) 42 (0, 0))) (by unfold varsR; rw [if_pos rfl, ht]; exact hput2') (by exact ⟨rfl, rfl, rfl, rfl, rfl, rfl, trivial⟩) rfl (List.Sublist.refl _)
  have hx1v : TVec A1 (varsR (c, (n : Int)) ⟨true, su, sv, sk⟩) c1 o := by unfold TVec IVec; rw [hvl]; exact hx1'
  clear hx1
  refine gom ?_
  refine WL.op (by kernel_rfl) (OW.callK rfl (reffect_fn G w p CA NA PA cc nc pc hW QA IA qc ic VA sv vc hS.vars c n ho) rfl fun v' G' H' h hg => ?_)
  obtain ⟨LA, lc, he, hg1, hs1, rfl⟩ := h
  cases he
  obtain ⟨tk, htke⟩ : ∃ tk, tk = (effC w sv (c, n)).1 := ⟨_, rfl⟩
  obtain ⟨ly, hlye⟩ : ∃ ly, ly = (effC w sv (c, n)).2 := ⟨_, rfl⟩
  rw [← htke] at htk
  rw [← hlye] at hly hs1
  rw [← htke, ← hlye]
  refine WL.pick [o, .blk b6 (.cells #[.bool true, .slice A1 sv.length c1, .bool false, .slice none 0 0] 95 (0, 0)), .blk b1 (.cells (wdC w CA NA PA cc nc pc) 143 (0, 0)), .blk b2 (.cells (prC p QA qc IA ic) 45 (0, 0)), .blk b3 (.cells #[.int .i64 c, .int .i64 n] 50 (0, 0)), .blk b4 (.cells #[.bool true, .slice VA sv.length vc, .bool su, .slice SA sk.length sc] 95 (0, 0)), .blk b5 (.cells #[.bool false, .slice none 0 0, .bool false, .slice none 0 0] 95 (0, 0))] ?_
  have y1 : IntKind.i64.wrap ((sk.length : Int) - (tk : Int)) = (sk.length : Int) - (tk : Int) := wrapI (by omega) (by omega)
  by_cases hb : badS w (c, (n : Int)) ⟨true, su, sv, sk⟩
  · have he1 : behR w (c, (n : Int)) ⟨true, su, sv, sk⟩ = ⟨true, true, varsR (c, (n : Int)) ⟨true, su, sv, sk⟩, []⟩ := by unfold behR; rw [if_pos hb]
    rw [he1]
    have hb' : su = true ∨ (sk.length < tk ∨ 128 < sk.length - tk + ly.length) := by unfold badS at hb; rw [htke, hlye]; exact hb
    cases su with
    | true =>
      refine gom ?_
      refine WC.frozenVec hx1v (by (repeat first | exact .here | apply At.there)) fun G3 h3 z3 => ?_
      refine WC.ret ?_
      refine WK.un ?_
      exact QF.p1 (.inl rfl) rfl (.cell rfl inferInstance inferInstance (by (repeat first | exact .here | apply At.there)) rfl rfl) (⟨A1, c1, none, 0, by show _ = Ending.returned (.agg #[.bool true, .slice A1 (varsR (c, (n : Int)) ⟨true, true, sv, sk⟩).length c1, .bool true, .slice none 0 0]); rw [hvl]; first | done | rfl, Gh.le_trans hg1 h3, ⟨hx1v.le, Nat.le_refl _, IVec.sl z3, Sl.nil _ _ _⟩, rfl⟩)
    | false =>
    by_cases h1 : sk.length < tk
    · have y7 : decide ((sk.length : Int) < (tk : Int)) = true := decide_eq_true (by omega)
      refine gom ?_
      refine WC.frozenVec hx1v (by (repeat first | exact .here | apply At.there)) fun G3 h3 z3 => ?_
      refine WC.ret ?_
      refine WK.un ?_
      exact QF.p1 (.inl rfl) rfl (.cell rfl inferInstance inferInstance (by (repeat first | exact .here | apply At.there)) rfl rfl) (⟨A1, c1, none, 0, by show _ = Ending.returned (.agg #[.bool true, .slice A1 (varsR (c, (n : Int)) ⟨true, false, sv, sk⟩).length c1, .bool true, .slice none 0 0]); rw [hvl]; first | done | rfl, Gh.le_trans hg1 h3, ⟨hx1v.le, Nat.le_refl _, IVec.sl z3, Sl.nil _ _ _⟩, rfl⟩)
    · have y7 : decide ((sk.length : Int) < (tk : Int)) = false := decide_eq_false (by omega)
      have h2 : 128 < sk.length - tk + ly.length := by
        rcases hb' with h | h | h
        · cases h
        · exact absurd h h1
        · exact h
      have y8 : IntKind.i64.wrap ((sk.length : Int) - (tk : Int) + (ly.length : Int)) = (sk.length : Int) - (tk : Int) + (ly.length : Int) := wrapI (by omega) (by omega)
      have y9 : decide ((128 : Int) < (sk.length : Int) - (tk : Int) + (ly.length : Int)) = true := decide_eq_true (by omega)
      refine gom ?_
      refine WC.frozenVec hx1v (by (repeat first | exact .here | apply At.there)) fun G3 h3 z3 => ?_
      refine WC.ret ?_
      refine WK.un ?_
      exact QF.p1 (.inl rfl) rfl (.cell rfl inferInstance inferInstance (by (repeat first | exact .here | apply At.there)) rfl rfl) (⟨A1, c1, none, 0, by show _ = Ending.returned (.agg #[.bool true, .slice A1 (varsR (c, (n : Int)) ⟨true, false, sv, sk⟩).length c1, .bool true, .slice none 0 0]); rw [hvl]; first | done | rfl, Gh.le_trans hg1 h3, ⟨hx1v.le, Nat.le_refl _, IVec.sl z3, Sl.nil _ _ _⟩, rfl⟩)
  · have he1 : behR w (c, (n : Int)) ⟨true, su, sv, sk⟩ = ⟨true, false, varsR (c, (n : Int)) ⟨true, su, sv, sk⟩, sk.take (sk.length - tk) ++ ly⟩ := by unfold behR; rw [if_neg hb, htke, hlye]
    have hb' : ¬ (su = true ∨ (sk.length < tk ∨ 128 < sk.length - tk + ly.length)) := by unfold badS at hb; rw [htke, hlye]; exact hb
    rw [he1]
    have hus : su = false := by cases h : su with | false => rfl | true => exact absurd (.inl h) hb'
    subst hus
    have h1 : ¬ sk.length < tk := fun h => hb' (.inr (.inl h))
    have h2 : ¬ 128 < sk.length - tk + ly.length := fun h => hb' (.inr (.inr h))
    have y7 : decide ((sk.length : Int) < (tk : Int)) = false := decide_eq_false (by omega)
    have y8 : IntKind.i64.wrap ((sk.length : Int) - (tk : Int) + (ly.length : Int)) = (sk.length : Int) - (tk : Int) + (ly.length : Int) := wrapI (by omega) (by omega)
    have y9 : decide ((128 : Int) < (sk.length : Int) - (tk : Int) + (ly.length : Int)) = false := decide_eq_false (by omega)
    have hsc := hS.hs
    dsimp only at hsc
    have e5 : ((sk.length : Int) - (tk : Int)).toNat = sk.length - tk := by omega
    refine WL.nothing ?_
    refine go ?_
    refine WC.draw mixed ?_
    have hcut := Sl.takeV hS.stack (sk.length - tk)
    have hcl : (sk.take (sk.length - tk)).length = sk.length - tk := by rw [List.length_take]; omega
    refine WA.tp (i := 0) rfl (by kernel_rfl) (by kernel_rfl) rfl (Gp.fieldAddr rfl) ?_
    refine WA.tp (i := 2) rfl (by kernel_rfl) (by kernel_rfl) rfl (Gp.fieldAddr rfl) ?_
    refine WA.tp (i := 4) rfl (by kernel_rfl) (by kernel_rfl) rfl (Gp.fieldAddr rfl) ?_
    (first | (refine WA.tv (i := 5) rfl (by kernel_rfl) (by kernel_rfl) rfl (Gv.load1 rfl (by (repeat first | exact .here | apply At.there)) (by first | rfl | assumption)) ?_) | (refine WA.tv (i := 5) rfl (by kernel_rfl) (by kernel_rfl) rfl (Gv.loadN rfl (by (repeat first | exact .here | apply At.there)) (by rfl) (by rfl)) ?_) | (refine WA.tv (i := 5) rfl (by kernel_rfl) (by kernel_rfl) rfl (Gv.loadG1 rfl (by assumption) rfl) ?_) | (refine WA.tv (i := 5) rfl (by kernel_rfl) (by kernel_rfl) rfl (Gv.loadG0 rfl (by assumption) rfl) ?_) | (refine WA.tv (i := 5) rfl (by kernel_rfl) (by kernel_rfl) rfl (Gv.loadGN rfl (by assumption) rfl) ?_))
    (first | refine WA.tp (i := 6) rfl (by kernel_rfl) (by kernel_rfl) rfl (Gp.lenSl rfl) ?_ | refine WA.tp (i := 6) rfl (by kernel_rfl) (by kernel_rfl) rfl (Gp.lenS rfl) ?_)
    refine WA.tp (i := 7) rfl (by kernel_rfl) (by kernel_rfl) rfl (Gp.move rfl) ?_
    refine WA.tp (i := 8) rfl (by kernel_rfl) (by kernel_rfl) rfl (Gp.sub' rfl rfl y1) ?_
    (first | (refine WA.tv (i := 1) rfl (by kernel_rfl) (by kernel_rfl) rfl (Gv.load1 rfl (by (repeat first | exact .here | apply At.there)) (by first | rfl | assumption)) ?_) | (refine WA.tv (i := 1) rfl (by kernel_rfl) (by kernel_rfl) rfl (Gv.loadN rfl (by (repeat first | exact .here | apply At.there)) (by rfl) (by rfl)) ?_) | (refine WA.tv (i := 1) rfl (by kernel_rfl) (by kernel_rfl) rfl (Gv.loadG1 rfl (by assumption) rfl) ?_) | (refine WA.tv (i := 1) rfl (by kernel_rfl) (by kernel_rfl) rfl (Gv.loadG0 rfl (by assumption) rfl) ?_) | (refine WA.tv (i := 1) rfl (by kernel_rfl) (by kernel_rfl) rfl (Gv.loadGN rfl (by assumption) rfl) ?_))
    (first | (refine WA.tv (i := 3) rfl (by kernel_rfl) (by kernel_rfl) rfl (Gv.load1 rfl (by (repeat first | exact .here | apply At.there)) (by first | rfl | assumption)) ?_) | (refine WA.tv (i := 3) rfl (by kernel_rfl) (by kernel_rfl) rfl (Gv.loadN rfl (by (repeat first | exact .here | apply At.there)) (by rfl) (by rfl)) ?_) | (refine WA.tv (i := 3) rfl (by kernel_rfl) (by kernel_rfl) rfl (Gv.loadG1 rfl (by assumption) rfl) ?_) | (refine WA.tv (i := 3) rfl (by kernel_rfl) (by kernel_rfl) rfl (Gv.loadG0 rfl (by assumption) rfl) ?_) | (refine WA.tv (i := 3) rfl (by kernel_rfl) (by kernel_rfl) rfl (Gv.loadGN rfl (by assumption) rfl) ?_))
    refine WA.tp (i := 9) rfl (by kernel_rfl) (by kernel_rfl) rfl (Gp.sliceTo rfl rfl (by omega) (by omega)) ?_
    refine WA.one (i := 10) (by kernel_rfl) rfl (by kernel_rfl) (OW.append rfl rfl (by kernel_rfl) (by kernel_rfl) TVec.nilv (by (repeat first | exact .here | apply At.there)) (hcut.mono hg1).ints (by rw [ints_length, hcl, e5]) (ints_one _) (by first | omega | (dsimp only; omega)) (by first | omega | (dsimp only; omega)) rfl fun A3 c3 o3 hv3 => ?_)
    refine WA.tp (i := 11) rfl (by kernel_rfl) (by kernel_rfl) rfl (Gp.fieldAddr rfl) ?_
    refine WA.one (i := 12) (by kernel_rfl) rfl (by kernel_rfl) (OW.store rfl rfl (by (repeat first | exact .here | apply At.there)) rfl (by rfl) (by rfl) (by kernel_rfl) (by rfl) ?_ rfl)
    refine WA.done (by kernel_rfl) ?_
    refine WK.un ?_
    refine gom ?_
    have hln : ints (sk.take (sk.length - tk) ++ ly) = ([] ++ ints (sk.take (sk.length - tk))) ++ ints ly := by rw [ints_append, List.nil_append]
    have hle : (sk.take (sk.length - tk) ++ ly).length = 0 + ((sk.length : Int) - (tk : Int)).toNat + ly.length := by rw [List.length_append, hcl, Nat.zero_add, e5]
    refine WL.op (by kernel_rfl) (OW.append rfl rfl (by kernel_rfl) (by kernel_rfl) hv3 (by (repeat first | exact .here | apply At.there)) hs1.ints (ints_length _) (ints_one _) (by first | omega | (dsimp only; omega)) (by first | omega | (dsimp only; omega)) rfl fun A4 c4 o4 hv4 => ?_)
    rw [← hln] at hv4
    refine gom ?_
    refine WC.frozenVec hx1v (by (repeat first | exact .here | apply At.there)) fun G3 h3 z3 => ?_
    refine WC.frozenVec hv4 (by (repeat first | exact .here | apply At.there)) fun G4 h4 z4 => ?_
    refine WC.ret ?_
    refine WK.un ?_
    exact QF.p1 (.inl rfl) rfl (.cell rfl inferInstance inferInstance (by (repeat first | exact .here | apply At.there)) rfl rfl) (⟨A1, c1, A4, c4, by show _ = Ending.returned (.agg #[.bool true, .slice A1 (varsR (c, (n : Int)) ⟨true, false, sv, sk⟩).length c1, .bool false, .slice A4 (sk.take (sk.length - tk) ++ ly).length c4]); rw [hvl, hle]; first | done | rfl, Gh.le_trans hg1 (Gh.le_trans h3 h4), ⟨hx1v.le, by rw [hle]; exact hv4.le, (IVec.sl z3).mono h4, IVec.sl z4⟩, rfl⟩)
end
end Go.Proofs.YtkmigdmdppkpoaaGreatDoor.Gb
