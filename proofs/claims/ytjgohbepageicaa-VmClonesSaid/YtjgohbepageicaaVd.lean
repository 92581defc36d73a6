/- Numbers and texts compared and reckoned with. -/
import Derived.Test.YtjgohbepageicaaVc
namespace Go.Proofs.Ytjgohbepageicaa.Gb
open Go Go.Proofs
set_option linter.unusedVariables false
attribute [local irreducible] Try.prog

theorem nanI_fn (G : Gh) (x : Int) : Fn Try.prog 89 #[.int .i64 x] G [] fun e G' H' => e = .returned (.bool false) ∧ G = G' ∧ H' = [] := by
  refine Fn.enter Try.func89 rfl rfl fun w0 => ?_
  refine WC.seq ?_
  refine WC.region ?_
  refine WL.p (Gp.assign rfl) (by kernel_rfl) rfl ?_
  refine WL.nil ?_
  refine WK.un ?_
  refine WC.seq ?_
  refine WC.region ?_
  refine WL.p (Gp.move rfl) (by kernel_rfl) rfl ?_
  refine WL.p (Gp.move rfl) (by kernel_rfl) rfl ?_
  (first | refine WL.p (Gp.neI rfl rfl) (by kernel_rfl) rfl ?_ | refine WL.p (Gp.neS rfl rfl) (by kernel_rfl) rfl ?_ | refine WL.p (Gp.neB rfl rfl) (by kernel_rfl) rfl ?_)
  refine WL.p (Gp.assign rfl) (by kernel_rfl) rfl ?_
  refine WL.nil ?_
  refine WK.un ?_
  refine WC.ret ?_
  (refine WK.un ?_)
  exact QF.ret1 (.inl rfl) rfl (.tmp rfl) (List.nil_sublist _) ⟨by simp, rfl, rfl⟩
theorem nanS_fn (G : Gh) (x : ByteArray) : Fn Try.prog 90 #[.string x] G [] fun e G' H' => e = .returned (.bool false) ∧ G = G' ∧ H' = [] := by
  refine Fn.enter Try.func90 rfl rfl fun w0 => ?_
  refine WC.seq ?_
  refine WC.region ?_
  refine WL.p (Gp.assign rfl) (by kernel_rfl) rfl ?_
  refine WL.nil ?_
  refine WK.un ?_
  refine WC.seq ?_
  refine WC.region ?_
  refine WL.p (Gp.move rfl) (by kernel_rfl) rfl ?_
  refine WL.p (Gp.move rfl) (by kernel_rfl) rfl ?_
  (first | refine WL.p (Gp.neI rfl rfl) (by kernel_rfl) rfl ?_ | refine WL.p (Gp.neS rfl rfl) (by kernel_rfl) rfl ?_ | refine WL.p (Gp.neB rfl rfl) (by kernel_rfl) rfl ?_)
  refine WL.p (Gp.assign rfl) (by kernel_rfl) rfl ?_
  refine WL.nil ?_
  refine WK.un ?_
  refine WC.ret ?_
  (refine WK.un ?_)
  exact QF.ret1 (.inl rfl) rfl (.tmp rfl) (List.nil_sublist _) ⟨by rw [show (x == x) = true from by rw [beq_toListBytes]; simp]; rfl, rfl, rfl⟩

def cmpI (a b : Int) : Int := if a < b then -1 else if b < a then 1 else 0
def cmpS (a b : ByteArray) : Int := if Op.bytesLess a.toList b.toList then -1 else if Op.bytesLess b.toList a.toList then 1 else 0

theorem compareI_fn (G : Gh) (x y : Int) : Fn Try.prog 87 #[.int .i64 x, .int .i64 y] G [] fun e G' H' => e = .returned (.int .i64 (cmpI x y)) ∧ G = G' ∧ H' = [] := by
  refine Fn.enter Try.func87 rfl rfl fun w0 => ?_
  refine WC.seq ?_
  refine WC.region ?_
  refine WL.p (Gp.assign rfl) (by kernel_rfl) rfl ?_
  refine WL.nil ?_
  refine WK.un ?_
  refine WC.seq ?_
  refine WC.region ?_
  refine WL.p (Gp.move rfl) (by kernel_rfl) rfl ?_
  refine WL.op (by kernel_rfl) (OW.callR rfl (Hf := []) (List.Perm.refl _) (nanI_fn G _) rfl (by rintro e G' H' ⟨h, _⟩; exact ⟨_, h⟩) fun v' G' H' h hg => ?_)
  obtain ⟨he, rfl, rfl⟩ := h
  cases he
  refine WL.p (Gp.assign rfl) (by kernel_rfl) rfl ?_
  refine WL.nil ?_
  refine WK.un ?_
  refine WC.seq ?_
  refine WC.region ?_
  refine WL.p (Gp.move rfl) (by kernel_rfl) rfl ?_
  refine WL.op (by kernel_rfl) (OW.callR rfl (Hf := []) (List.Perm.refl _) (nanI_fn G _) rfl (by rintro e G' H' ⟨h, _⟩; exact ⟨_, h⟩) fun v' G' H' h hg => ?_)
  obtain ⟨he, rfl, rfl⟩ := h
  cases he
  refine WL.p (Gp.assign rfl) (by kernel_rfl) rfl ?_
  refine WL.nil ?_
  refine WK.un ?_
  refine WC.seq ?_
  refine WC.seq ?_
  refine WC.region ?_
  refine WL.p (Gp.move rfl) (by kernel_rfl) rfl ?_
  refine WL.nil ?_
  refine WK.un ?_
  refine WC.cond rfl (fun hc1 => ?_) (fun hc1 => ?_)
  · -- yes
    cases hc1
  · -- no
    refine WC.skip ?_
    refine WK.un ?_
    refine WC.seq ?_
    refine WC.seq ?_
    refine WC.region ?_
    refine WL.p (Gp.move rfl) (by kernel_rfl) rfl ?_
    refine WL.nil ?_
    refine WK.un ?_
    refine WC.cond rfl (fun hc3 => ?_) (fun hc3 => ?_)
    · cases hc3
    · -- no
      refine WC.skip ?_
      refine WK.un ?_
      refine WC.seq ?_
      refine WC.seq ?_
      refine WC.region ?_
      refine WL.p (Gp.move rfl) (by kernel_rfl) rfl ?_
      refine WL.p (Gp.move rfl) (by kernel_rfl) rfl ?_
      (first | refine WL.p (Gp.ltI rfl rfl) (by kernel_rfl) rfl ?_ | refine WL.p (Gp.ltS rfl rfl) (by kernel_rfl) rfl ?_)
      refine WL.nil ?_
      refine WK.un ?_
      refine WC.cond rfl (fun hc4 => ?_) (fun hc4 => ?_)
      · -- yes
        refine WC.seq ?_
        refine WC.region ?_
        refine WL.p (Gp.assign rfl) (by kernel_rfl) rfl ?_
        refine WL.nil ?_
        refine WK.un ?_
        refine WC.ret ?_
        (refine WK.un ?_)
        exact QF.ret1 (.inl rfl) rfl (.tmp rfl) (List.nil_sublist _) ⟨by simp_all [cmpI], rfl, rfl⟩
      · -- no
        refine WC.skip ?_
        refine WK.un ?_
        refine WC.seq ?_
        refine WC.seq ?_
        refine WC.region ?_
        refine WL.p (Gp.move rfl) (by kernel_rfl) rfl ?_
        refine WL.p (Gp.move rfl) (by kernel_rfl) rfl ?_
        (first | refine WL.p (Gp.gtI rfl rfl) (by kernel_rfl) rfl ?_ | refine WL.p (Gp.gtS rfl rfl) (by kernel_rfl) rfl ?_)
        refine WL.nil ?_
        refine WK.un ?_
        refine WC.cond rfl (fun hc5 => ?_) (fun hc5 => ?_)
        · -- yes
          refine WC.seq ?_
          refine WC.region ?_
          refine WL.p (Gp.assign rfl) (by kernel_rfl) rfl ?_
          refine WL.nil ?_
          refine WK.un ?_
          refine WC.ret ?_
          (refine WK.un ?_)
          exact QF.ret1 (.inl rfl) rfl (.tmp rfl) (List.nil_sublist _) ⟨by simp_all [cmpI], rfl, rfl⟩
        · -- no
          refine WC.skip ?_
          refine WK.un ?_
          refine WC.seq ?_
          refine WC.region ?_
          refine WL.p (Gp.assign rfl) (by kernel_rfl) rfl ?_
          refine WL.nil ?_
          refine WK.un ?_
          refine WC.ret ?_
          (refine WK.un ?_)
          exact QF.ret1 (.inl rfl) rfl (.tmp rfl) (List.nil_sublist _) ⟨by have h4 := hc4; have h5 := hc5; simp only [decide_eq_false_iff_not] at h4 h5; rw [cmpI, if_neg h4, if_neg h5], rfl, rfl⟩
theorem compareS_fn (G : Gh) (x y : ByteArray) : Fn Try.prog 88 #[.string x, .string y] G [] fun e G' H' => e = .returned (.int .i64 (cmpS x y)) ∧ G = G' ∧ H' = [] := by
  refine Fn.enter Try.func88 rfl rfl fun w0 => ?_
  refine WC.seq ?_
  refine WC.region ?_
  refine WL.p (Gp.assign rfl) (by kernel_rfl) rfl ?_
  refine WL.nil ?_
  refine WK.un ?_
  refine WC.seq ?_
  refine WC.region ?_
  refine WL.p (Gp.move rfl) (by kernel_rfl) rfl ?_
  refine WL.op (by kernel_rfl) (OW.callR rfl (Hf := []) (List.Perm.refl _) (nanS_fn G _) rfl (by rintro e G' H' ⟨h, _⟩; exact ⟨_, h⟩) fun v' G' H' h hg => ?_)
  obtain ⟨he, rfl, rfl⟩ := h
  cases he
  refine WL.p (Gp.assign rfl) (by kernel_rfl) rfl ?_
  refine WL.nil ?_
  refine WK.un ?_
  refine WC.seq ?_
  refine WC.region ?_
  refine WL.p (Gp.move rfl) (by kernel_rfl) rfl ?_
  refine WL.op (by kernel_rfl) (OW.callR rfl (Hf := []) (List.Perm.refl _) (nanS_fn G _) rfl (by rintro e G' H' ⟨h, _⟩; exact ⟨_, h⟩) fun v' G' H' h hg => ?_)
  obtain ⟨he, rfl, rfl⟩ := h
  cases he
  refine WL.p (Gp.assign rfl) (by kernel_rfl) rfl ?_
  refine WL.nil ?_
  refine WK.un ?_
  refine WC.seq ?_
  refine WC.seq ?_
  refine WC.region ?_
  refine WL.p (Gp.move rfl) (by kernel_rfl) rfl ?_
  refine WL.nil ?_
  refine WK.un ?_
  refine WC.cond rfl (fun hc1 => ?_) (fun hc1 => ?_)
  · -- yes
    cases hc1
  · -- no
    refine WC.skip ?_
    refine WK.un ?_
    refine WC.seq ?_
    refine WC.seq ?_
    refine WC.region ?_
    refine WL.p (Gp.move rfl) (by kernel_rfl) rfl ?_
    refine WL.nil ?_
    refine WK.un ?_
    refine WC.cond rfl (fun hc3 => ?_) (fun hc3 => ?_)
    · cases hc3
    · -- no
      refine WC.skip ?_
      refine WK.un ?_
      refine WC.seq ?_
      refine WC.seq ?_
      refine WC.region ?_
      refine WL.p (Gp.move rfl) (by kernel_rfl) rfl ?_
      refine WL.p (Gp.move rfl) (by kernel_rfl) rfl ?_
      (first | refine WL.p (Gp.ltI rfl rfl) (by kernel_rfl) rfl ?_ | refine WL.p (Gp.ltS rfl rfl) (by kernel_rfl) rfl ?_)
      refine WL.nil ?_
      refine WK.un ?_
      refine WC.cond rfl (fun hc4 => ?_) (fun hc4 => ?_)
      · -- yes
        refine WC.seq ?_
        refine WC.region ?_
        refine WL.p (Gp.assign rfl) (by kernel_rfl) rfl ?_
        refine WL.nil ?_
        refine WK.un ?_
        refine WC.ret ?_
        (refine WK.un ?_)
        exact QF.ret1 (.inl rfl) rfl (.tmp rfl) (List.nil_sublist _) ⟨by simp_all [cmpS], rfl, rfl⟩
      · -- no
        refine WC.skip ?_
        refine WK.un ?_
        refine WC.seq ?_
        refine WC.seq ?_
        refine WC.region ?_
        refine WL.p (Gp.move rfl) (by kernel_rfl) rfl ?_
        refine WL.p (Gp.move rfl) (by kernel_rfl) rfl ?_
        (first | refine WL.p (Gp.gtI rfl rfl) (by kernel_rfl) rfl ?_ | refine WL.p (Gp.gtS rfl rfl) (by kernel_rfl) rfl ?_)
        refine WL.nil ?_
        refine WK.un ?_
        refine WC.cond rfl (fun hc5 => ?_) (fun hc5 => ?_)
        · -- yes
          refine WC.seq ?_
          refine WC.region ?_
          refine WL.p (Gp.assign rfl) (by kernel_rfl) rfl ?_
          refine WL.nil ?_
          refine WK.un ?_
          refine WC.ret ?_
          (refine WK.un ?_)
          exact QF.ret1 (.inl rfl) rfl (.tmp rfl) (List.nil_sublist _) ⟨by simp_all [cmpS], rfl, rfl⟩
        · -- no
          refine WC.skip ?_
          refine WK.un ?_
          refine WC.seq ?_
          refine WC.region ?_
          refine WL.p (Gp.assign rfl) (by kernel_rfl) rfl ?_
          refine WL.nil ?_
          refine WK.un ?_
          refine WC.ret ?_
          (refine WK.un ?_)
          exact QF.ret1 (.inl rfl) rfl (.tmp rfl) (List.nil_sublist _) ⟨by simp_all [cmpS], rfl, rfl⟩
theorem or_fn (G : Gh) (b : Nat) (x y : Int) : Fn Try.prog 86 #[.slice (some ⟨b, 0, none⟩) 2 2] G [.blk b (.cells #[.int .i64 x, .int .i64 y] 3 (0, 0))] fun e G' H' => e = .returned (.int .i64 (if x = 0 then y else x)) ∧ G = G' ∧ H' = [] := by
  refine Fn.enter Try.func86 rfl rfl fun w0 => ?_
  refine WC.seq ?_
  refine WC.region ?_
  refine WL.p (Gp.assign rfl) (by kernel_rfl) rfl ?_
  refine WL.nil ?_
  refine WK.un ?_
  refine WC.seq ?_
  refine WC.region ?_
  refine WL.p (Gp.assign rfl) (by kernel_rfl) rfl ?_
  refine WL.nil ?_
  refine WK.un ?_
  refine WC.seq ?_
  refine WC.seq ?_
  refine WC.region ?_
  refine WL.p (Gp.move rfl) (by kernel_rfl) rfl ?_
  (first | refine WL.p (Gp.lenSl rfl) (by kernel_rfl) rfl ?_ | refine WL.p (Gp.lenS rfl) (by kernel_rfl) rfl ?_)
  refine WL.p (Gp.move rfl) (by kernel_rfl) rfl ?_
  refine WL.nil ?_
  refine WK.un ?_
  refine WC.block ?_  -- 0
  refine WC.loop (X := Nat) (fun i => [(3, .int .i64 0), (6, .slice (some ⟨b, 0, none⟩) 2 2), (7, .int .i64 2), (8, .int .i64 (i : Int))]) (fun _ => G) (fun _ => [.blk b (.cells #[.int .i64 x, .int .i64 y] 3 (0, 0))]) (fun i => 2 - i) (fun i => i ≤ 2 ∧ (1 ≤ i → x = 0) ∧ (2 ≤ i → y = 0)) 0 ⟨by omega, by omega, by omega⟩ (by exact ⟨rfl, rfl, rfl, rfl, trivial⟩) rfl (List.Sublist.refl _) fun x_1 hx => ?_
  refine WC.seq ?_
  refine WC.region ?_
  (first | refine WL.p (Gp.ltI rfl rfl) (by kernel_rfl) rfl ?_ | refine WL.p (Gp.ltS rfl rfl) (by kernel_rfl) rfl ?_)
  refine WL.nil ?_
  refine WK.un ?_
  refine WC.seq ?_
  obtain ⟨hi, hx0, hy0⟩ := hx
  refine WC.cond rfl (fun hc1 => ?_) (fun hc1 => ?_)
  · -- yes
    have hlt : x_1 < 2 := by have h := hc1; simp at h; omega
    refine WC.skip ?_
    refine WK.un ?_
    refine WC.seq ?_
    refine WC.block ?_  -- 1
    refine WC.seq ?_
    obtain ⟨z, hz, hz1, hz2⟩ : ∃ z : Int, (#[Value.int .i64 x, Value.int .i64 y])[0 + ((x_1 : Int)).toNat * 1]? = some (.int .i64 z) ∧ (z = 0 → (1 ≤ x_1 + 1 → x = 0) ∧ (2 ≤ x_1 + 1 → y = 0)) ∧ (z ≠ 0 → z = if x = 0 then y else x) := by
      rcases Nat.lt_or_ge x_1 1 with h | h
      · obtain rfl : x_1 = 0 := by omega
        exact ⟨x, rfl, fun h => ⟨fun _ => h, fun h' => by omega⟩, fun h => by rw [if_neg h]⟩
      · obtain rfl : x_1 = 1 := by omega
        exact ⟨y, rfl, fun h => ⟨fun _ => hx0 (by omega), fun _ => h⟩, fun h => by rw [if_pos (hx0 (by omega))]⟩
    refine WC.region ?_
    refine WL.p (Gp.indexAddr rfl rfl (by first | assumption | omega | decide) (by first | assumption | omega | decide | (simp only [List.length_cons, List.length_nil]; decide))) (by kernel_rfl) rfl ?_
    refine WL.v (Gv.load1 rfl .here hz) (by kernel_rfl) rfl ?_
    refine WL.p (Gp.assign rfl) (by kernel_rfl) rfl ?_
    refine WL.nil ?_
    refine WK.un ?_
    refine WC.seq ?_
    refine WC.region ?_
    refine WL.p (Gp.move rfl) (by kernel_rfl) rfl ?_
    refine WL.p (Gp.move rfl) (by kernel_rfl) rfl ?_
    (first | refine WL.p (Gp.neI rfl rfl) (by kernel_rfl) rfl ?_ | refine WL.p (Gp.neS rfl rfl) (by kernel_rfl) rfl ?_ | refine WL.p (Gp.neB rfl rfl) (by kernel_rfl) rfl ?_)
    refine WL.nil ?_
    refine WK.un ?_
    refine WC.cond rfl (fun hc2 => ?_) (fun hc2 => ?_)
    · -- yes
      refine WC.seq ?_
      refine WC.region ?_
      refine WL.p (Gp.move rfl) (by kernel_rfl) rfl ?_
      refine WL.p (Gp.assign rfl) (by kernel_rfl) rfl ?_
      refine WL.nil ?_
      refine WK.un ?_
      refine WC.ret ?_
      (refine WK.un ?_)
      exact QF.ret1 (.inl rfl) rfl (.tmp rfl) (List.nil_sublist _) ⟨by rw [hz2 (by simpa using hc2)], rfl, rfl⟩
    · -- no
      have hz0 : z = 0 := by simpa using hc2
      refine WC.skip ?_
      refine WK.un ?_
      refine WC.region ?_
      (first | refine WL.p (Gp.add rfl rfl) (by kernel_rfl) rfl ?_ | refine WL.p (Gp.addS rfl rfl (by first | assumption | omega)) (by kernel_rfl) rfl ?_)
      refine WL.p (Gp.move rfl) (by kernel_rfl) rfl ?_
      refine WL.nil ?_
      refine WK.un ?_
      exact WK.again (x_1 + 1) (by omega) ⟨by omega, (hz1 hz0).1, (hz1 hz0).2⟩ (by refine ⟨rfl, rfl, rfl, ?_, trivial⟩; show some _ = some _; rw [wrap_small (by omega) (by omega)]; rfl) rfl (List.Sublist.refl _)
  · -- no
    have hge : 2 ≤ x_1 := by have h := hc1; simp at h; omega
    refine WC.exit ?_
    refine WK.un ?_
    refine WC.seq ?_
    refine WC.region ?_
    refine WL.p (Gp.move rfl) (by kernel_rfl) rfl ?_
    refine WL.p (Gp.assign rfl) (by kernel_rfl) rfl ?_
    refine WL.nil ?_
    refine WK.un ?_
    refine WC.ret ?_
    (refine WK.un ?_)
    exact QF.ret1 (.inl rfl) rfl (.tmp rfl) (List.nil_sublist _) ⟨by rw [hx0 (by omega), hy0 hge]; rfl, rfl, rfl⟩

/-- what two numbers make; none: it can't be reckoned -/
def reckonS (c a b : Int) : Option Int :=
  if c = 18 then some (IntKind.i64.wrap (a + b)) else if c = 19 then some (IntKind.i64.wrap (a - b)) else if c = 21 then some (IntKind.i64.wrap (a * b))
  else if c = 22 then (if b = 0 then none else some (IntKind.i64.wrap (a.tdiv b))) else if c = 23 then (if b = 0 then none else some (a.tmod b)) else none
theorem wrap_sub (a b : Int) : IntKind.i64.wrap (a + IntKind.i64.wrap (-b)) = IntKind.i64.wrap (a - b) := by simp only [IntKind.wrap_i64]; omega
theorem reckon_fn (G : Gh) (c a b : Int) : Fn Try.prog 85 #[.int .i64 c, .int .i64 a, .int .i64 b] G [] fun e G' H' => (match reckonS c a b with | some n => e = .returned (.int .i64 n) | none => e = halted 2) ∧ G = G' ∧ H' = [] := by
  refine Fn.enter Try.func85 rfl rfl fun w0 => ?_
  refine WC.seq ?_
  refine WC.region ?_
  refine WL.p (Gp.assign rfl) (by kernel_rfl) rfl ?_
  refine WL.nil ?_
  refine WK.un ?_
  refine WC.seq ?_
  refine WC.seq ?_
  refine WC.region ?_
  refine WL.p (Gp.move rfl) (by kernel_rfl) rfl ?_
  refine WL.nil ?_
  refine WK.un ?_
  refine WC.block ?_  -- 0
  refine WC.seq ?_
  refine WC.region ?_
  (first | refine WL.p (Gp.eqI rfl rfl) (by kernel_rfl) rfl ?_ | refine WL.p (Gp.eqS rfl rfl) (by kernel_rfl) rfl ?_ | refine WL.p (Gp.nilSl rfl) (by kernel_rfl) rfl ?_ | refine WL.p (Gp.eqB rfl rfl) (by kernel_rfl) rfl ?_)
  refine WL.p (Gp.assign rfl) (by kernel_rfl) rfl ?_
  refine WL.nil ?_
  refine WK.un ?_
  refine WC.cond rfl (fun hc1 => ?_) (fun hc1 => ?_)
  · -- yes
    refine WC.seq ?_
    refine WC.region ?_
    refine WL.p (Gp.move rfl) (by kernel_rfl) rfl ?_
    refine WL.p (Gp.move rfl) (by kernel_rfl) rfl ?_
    (first | refine WL.p (Gp.add rfl rfl) (by kernel_rfl) rfl ?_ | refine WL.p (Gp.addS rfl rfl (by first | assumption | omega)) (by kernel_rfl) rfl ?_)
    refine WL.p (Gp.assign rfl) (by kernel_rfl) rfl ?_
    refine WL.nil ?_
    refine WK.un ?_
    refine WC.ret ?_
    (refine WK.un ?_)
    exact QF.ret1 (.inl rfl) rfl (.tmp rfl) (List.nil_sublist _) ⟨by simp_all [reckonS], rfl, rfl⟩
  · -- no
    refine WC.seq ?_
    refine WC.region ?_
    (first | refine WL.p (Gp.eqI rfl rfl) (by kernel_rfl) rfl ?_ | refine WL.p (Gp.eqS rfl rfl) (by kernel_rfl) rfl ?_ | refine WL.p (Gp.nilSl rfl) (by kernel_rfl) rfl ?_ | refine WL.p (Gp.eqB rfl rfl) (by kernel_rfl) rfl ?_)
    refine WL.p (Gp.assign rfl) (by kernel_rfl) rfl ?_
    refine WL.nil ?_
    refine WK.un ?_
    refine WC.cond rfl (fun hc2 => ?_) (fun hc2 => ?_)
    · -- yes
      refine WC.seq ?_
      refine WC.region ?_
      refine WL.p (Gp.move rfl) (by kernel_rfl) rfl ?_
      refine WL.p (Gp.negI rfl) (by kernel_rfl) rfl ?_
      refine WL.p (Gp.assign rfl) (by kernel_rfl) rfl ?_
      refine WL.nil ?_
      refine WK.un ?_
      refine WC.seq ?_
      refine WC.region ?_
      refine WL.p (Gp.move rfl) (by kernel_rfl) rfl ?_
      refine WL.p (Gp.move rfl) (by kernel_rfl) rfl ?_
      (first | refine WL.p (Gp.add rfl rfl) (by kernel_rfl) rfl ?_ | refine WL.p (Gp.addS rfl rfl (by first | assumption | omega)) (by kernel_rfl) rfl ?_)
      refine WL.p (Gp.assign rfl) (by kernel_rfl) rfl ?_
      refine WL.nil ?_
      refine WK.un ?_
      refine WC.ret ?_
      (refine WK.un ?_)
      exact QF.ret1 (.inl rfl) rfl (.tmp rfl) (List.nil_sublist _) ⟨by simp_all [reckonS, wrap_sub], rfl, rfl⟩
    · -- no
      refine WC.seq ?_
      refine WC.region ?_
      (first | refine WL.p (Gp.eqI rfl rfl) (by kernel_rfl) rfl ?_ | refine WL.p (Gp.eqS rfl rfl) (by kernel_rfl) rfl ?_ | refine WL.p (Gp.nilSl rfl) (by kernel_rfl) rfl ?_ | refine WL.p (Gp.eqB rfl rfl) (by kernel_rfl) rfl ?_)
      refine WL.p (Gp.assign rfl) (by kernel_rfl) rfl ?_
      refine WL.nil ?_
      refine WK.un ?_
      refine WC.cond rfl (fun hc3 => ?_) (fun hc3 => ?_)
      · -- yes
        refine WC.seq ?_
        refine WC.region ?_
        refine WL.p (Gp.move rfl) (by kernel_rfl) rfl ?_
        refine WL.p (Gp.move rfl) (by kernel_rfl) rfl ?_
        refine WL.p (Gp.mul rfl rfl) (by kernel_rfl) rfl ?_
        refine WL.p (Gp.assign rfl) (by kernel_rfl) rfl ?_
        refine WL.nil ?_
        refine WK.un ?_
        refine WC.ret ?_
        (refine WK.un ?_)
        exact QF.ret1 (.inl rfl) rfl (.tmp rfl) (List.nil_sublist _) ⟨by simp_all [reckonS], rfl, rfl⟩
      · -- no
        refine WC.seq ?_
        refine WC.region ?_
        (first | refine WL.p (Gp.eqI rfl rfl) (by kernel_rfl) rfl ?_ | refine WL.p (Gp.eqS rfl rfl) (by kernel_rfl) rfl ?_ | refine WL.p (Gp.nilSl rfl) (by kernel_rfl) rfl ?_ | refine WL.p (Gp.eqB rfl rfl) (by kernel_rfl) rfl ?_)
        refine WL.p (Gp.assign rfl) (by kernel_rfl) rfl ?_
        refine WL.nil ?_
        refine WK.un ?_
        refine WC.cond rfl (fun hc4 => ?_) (fun hc4 => ?_)
        · -- yes
          refine WC.seq ?_
          refine WC.region ?_
          refine WL.p (Gp.move rfl) (by kernel_rfl) rfl ?_
          (first | refine WL.p (Gp.neI rfl rfl) (by kernel_rfl) rfl ?_ | refine WL.p (Gp.neS rfl rfl) (by kernel_rfl) rfl ?_ | refine WL.p (Gp.neB rfl rfl) (by kernel_rfl) rfl ?_)
          refine WL.nil ?_
          refine WK.un ?_
          refine WC.cond rfl (fun hc5 => ?_) (fun hc5 => ?_)
          · -- yes
            refine WC.seq ?_
            refine WC.region ?_
            refine WL.p (Gp.move rfl) (by kernel_rfl) rfl ?_
            refine WL.p (Gp.move rfl) (by kernel_rfl) rfl ?_
            refine WL.p (Gp.quo rfl rfl (by simpa using ‹(b != 0) = true›)) (by kernel_rfl) rfl ?_
            refine WL.p (Gp.assign rfl) (by kernel_rfl) rfl ?_
            refine WL.nil ?_
            refine WK.un ?_
            refine WC.ret ?_
            (refine WK.un ?_)
            exact QF.ret1 (.inl rfl) rfl (.tmp rfl) (List.nil_sublist _) ⟨by simp_all [reckonS], rfl, rfl⟩
          · -- no
            refine WC.skip ?_
            refine WK.un ?_
            refine WC.region ?_
            refine WL.p (Gp.build rfl rfl) (by kernel_rfl) rfl ?_
            refine WL.p (Gp.mkIface rfl (by kernel_rfl)) (by kernel_rfl) rfl ?_
            refine WL.op (by kernel_rfl) (OW.panic rfl ?_)
            refine WK.un ?_
            exact QF.panic (List.nil_sublist _) ⟨by simp_all [reckonS, halted]; rfl, rfl, rfl⟩
        · -- no
          refine WC.seq ?_
          refine WC.region ?_
          (first | refine WL.p (Gp.eqI rfl rfl) (by kernel_rfl) rfl ?_ | refine WL.p (Gp.eqS rfl rfl) (by kernel_rfl) rfl ?_ | refine WL.p (Gp.nilSl rfl) (by kernel_rfl) rfl ?_ | refine WL.p (Gp.eqB rfl rfl) (by kernel_rfl) rfl ?_)
          refine WL.p (Gp.assign rfl) (by kernel_rfl) rfl ?_
          refine WL.nil ?_
          refine WK.un ?_
          refine WC.cond rfl (fun hc6 => ?_) (fun hc6 => ?_)
          · -- yes
            refine WC.seq ?_
            refine WC.region ?_
            refine WL.p (Gp.move rfl) (by kernel_rfl) rfl ?_
            (first | refine WL.p (Gp.neI rfl rfl) (by kernel_rfl) rfl ?_ | refine WL.p (Gp.neS rfl rfl) (by kernel_rfl) rfl ?_ | refine WL.p (Gp.neB rfl rfl) (by kernel_rfl) rfl ?_)
            refine WL.nil ?_
            refine WK.un ?_
            refine WC.cond rfl (fun hc7 => ?_) (fun hc7 => ?_)
            · -- yes
              refine WC.seq ?_
              refine WC.region ?_
              refine WL.p (Gp.move rfl) (by kernel_rfl) rfl ?_
              refine WL.p (Gp.move rfl) (by kernel_rfl) rfl ?_
              refine WL.p (Gp.rem rfl rfl (by simpa using ‹(b != 0) = true›)) (by kernel_rfl) rfl ?_
              refine WL.p (Gp.assign rfl) (by kernel_rfl) rfl ?_
              refine WL.nil ?_
              refine WK.un ?_
              refine WC.ret ?_
              (refine WK.un ?_)
              exact QF.ret1 (.inl rfl) rfl (.tmp rfl) (List.nil_sublist _) ⟨by simp_all [reckonS], rfl, rfl⟩
            · -- no
              refine WC.skip ?_
              refine WK.un ?_
              refine WC.region ?_
              refine WL.p (Gp.build rfl rfl) (by kernel_rfl) rfl ?_
              refine WL.p (Gp.mkIface rfl (by kernel_rfl)) (by kernel_rfl) rfl ?_
              refine WL.op (by kernel_rfl) (OW.panic rfl ?_)
              refine WK.un ?_
              exact QF.panic (List.nil_sublist _) ⟨by simp_all [reckonS, halted]; rfl, rfl, rfl⟩
          · -- no
            refine WC.skip ?_
            refine WK.un ?_
            refine WC.region ?_
            refine WL.p (Gp.build rfl rfl) (by kernel_rfl) rfl ?_
            refine WL.p (Gp.mkIface rfl (by kernel_rfl)) (by kernel_rfl) rfl ?_
            refine WL.op (by kernel_rfl) (OW.panic rfl ?_)
            refine WK.un ?_
            exact QF.panic (List.nil_sublist _) ⟨by simp_all [reckonS, halted]; rfl, rfl, rfl⟩
end Go.Proofs.Ytjgohbepageicaa.Gb
