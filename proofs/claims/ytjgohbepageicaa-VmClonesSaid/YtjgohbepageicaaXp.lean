/- More fuel: the plain law; what a statement's program is in memory. -/
import Derived.Test.YtjgohbepageicaaXo
import Derived.Test.YtjgohbepageicaaXn
namespace Go.Proofs.Ytjgohbepageicaa.Gb
open Go Go.Proofs
set_option linter.unusedVariables false
set_option linter.unusedSimpArgs false

theorem chunks_vals : ∀ {xs : List V} {cs : List Value}, cs.length = xs.length * 4 → (∀ i x, xs[i]? = some x → (cs.drop (i * 4)).take 4 = vcells x) → cs = vflat xs
  | [], cs, hl, _ => by simpa [vflat] using hl
  | x :: xs, cs, hl, h => by
    have h0 := h 0 x rfl
    simp only [Nat.zero_mul, List.drop_zero] at h0
    have ih := @chunks_vals xs (cs.drop 4) (by simp at hl ⊢; omega) fun i y hy => by
      have := h (i + 1) y (by simpa using hy)
      rw [List.drop_drop, show 4 + i * 4 = (i + 1) * 4 by omega]
      exact this
    rw [← List.take_append_drop 4 cs, h0, ih]
    simp [vflat]
theorem Sl.vals {G : Gh} {H : List Own} {A : Option Addr} {xs : List V} (h : Sl Kd.val G A xs) : Rds G H A (vflat xs) := by
  obtain ⟨cs, h1, h2, _, h3⟩ := Sl.rds (H := H) (by decide) h
  rw [← chunks_vals h2 h3]
  exact h1

theorem startS_E (q : Pr) (n : Int) (args : List V) : EInv (startS q n args) := ⟨fun _ => ⟨rfl, rfl⟩, fun h => by cases h⟩

theorem runR_out {pg : Pg} {n fuel : Int} {args : List V} : (runR pg n fuel args).out.length ≤ 4096 := by
  unfold runR
  split
  · simp [Oc0]
  · rename_i q hq
    obtain ⟨hI, hL⟩ := startS_inv hq
    have := (Inv.run fuel.toNat _ hI hL).1.out.1
    dsimp only
    split <;> exact this

theorem fuel_law (pg : Pg) (n : Int) (args : List V) (N K : Nat) :
    ((runR pg n N args).en ≠ 5 → runR pg n ((N : Int) + K) args = runR pg n N args) ∧
    ((runR pg n N args).en = 5 → (runR pg n N args).steps = N ∧ (∃ l, (runR pg n ((N : Int) + K) args).out = (runR pg n N args).out ++ l) ∧ (N : Int) ≤ (runR pg n ((N : Int) + K) args).steps ∧ (runR pg n ((N : Int) + K) args).en ≠ 0 ∧ (runR pg n N args).val = V0) := by
  unfold runR
  cases hs : startR pg n args with
  | none => exact ⟨fun _ => rfl, fun h => by cases h⟩
  | some q =>
    dsimp only
    obtain ⟨hI, hL⟩ := startS_inv hs
    have hE := startS_E q n args
    have e1 : (N : Int).toNat = N := by omega
    have e2 : ((N : Int) + K).toNat = N + K := by omega
    rw [e1, e2, runM_add pg N K]
    dsimp only
    have hI2 := Inv.run N _ hI hL
    have hE2 := hE.run (pg := pg) N
    have hst := runM_steps N hI hL
    have hall := @runM_all pg N (startS q n args)
    generalize runM pg N (startS q n args) = r at *
    obtain ⟨r1, s⟩ := r
    simp only at hI2 hE2 hst hall ⊢
    have hst0 : (startS q n args).steps = 0 := rfl
    rw [hst0, Nat.zero_add] at hst
    cases he : s.ended with
    | true =>
      rw [runM_ended he]
      refine ⟨fun _ => by simp [he], fun h => ?_⟩
      rw [if_pos rfl] at h
      have h5 : s.en = 5 := h
      rcases hE2.shut he with h | h
      · omega
      · unfold badE at h; omega
    | false =>
      refine ⟨fun h => absurd rfl h, fun _ => ?_⟩
      have hE3 := hE2.run (pg := pg) K
      have hst3 := runM_steps K hI2.1 hI2.2
      obtain ⟨l, hl⟩ := runM_out (pg := pg) K s
      rw [hall he] at hst
      refine ⟨by simp [Mc.oc, hst], ⟨l, ?_⟩, ?_, ?_, (hE2.open_ he).1⟩
      · split <;> exact hl
      · split
        · show (N : Int) ≤ _; simp only [Mc.oc]; omega
        · show (N : Int) ≤ _; simp only [Mc.oc]; omega
      · split
        · rename_i h3
          rcases hE3.shut h3 with h | h
          · show (runM pg K s).2.en ≠ 0; omega
          · show (runM pg K s).2.en ≠ 0; unfold badE at h; omega
        · show (5 : Int) ≠ 0; decide
end Go.Proofs.Ytjgohbepageicaa.Gb
