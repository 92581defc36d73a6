/- Plain laws of the machine: some steps and then some; more fuel. -/
import Derived.Test.YtjgohbepageicaaXb
namespace Go.Proofs.Ytjgohbepageicaa.Gb
open Go Go.Proofs
set_option linter.unusedVariables false
set_option linter.unusedSimpArgs false

def badE (n : Int) : Prop := n = 2 ∨ n = 3 ∨ n = 4 ∨ n = 6 ∨ n = 7
theorem bad6 : badE 6 := .inr (.inr (.inr (.inl rfl)))
theorem onA_halt {l : List V} {f : List V → V → PR} {m : Int} (hf : ∀ r v, f r v = .halt m → badE m) (h : onA l f = .halt m) : badE m := by
  unfold onA at h; split at h
  · cases h; exact bad6
  · exact hf _ _ h
theorem onB_halt {l : List V} {f : List V → V → V → PR} {m : Int} (hf : ∀ r u v, f r u v = .halt m → badE m) (h : onB l f = .halt m) : badE m := by
  unfold onB at h; split at h
  · cases h; exact bad6
  · exact hf _ _ _ h
theorem on1_halt {l : List V} {t : Int} {f : List V → V → PR} {m : Int} (hf : ∀ r v, f r v = .halt m → badE m) (h : on1 l t f = .halt m) : badE m := by
  unfold on1 at h; split at h
  · cases h; exact bad6
  · exact hf _ _ h
theorem on2_halt {l : List V} {t : Int} {f : List V → V → V → PR} {m : Int} (hf : ∀ r u v, f r u v = .halt m → badE m) (h : on2 l t f = .halt m) : badE m := by
  unfold on2 at h; split at h
  · cases h; exact bad6
  · exact hf _ _ _ h
theorem if_halt {c : Prop} [Decidable c] {a b : PR} {m : Int} (h : (if c then a else b) = .halt m) (ha : a = .halt m → badE m) (hb : b = .halt m → badE m) : badE m := by
  split at h
  · exact ha h
  · exact hb h
theorem halt_mk {n m : Int} (hn : badE n) (h : PR.halt n = .halt m) : badE m := by cases h; exact hn
theorem set_mk {l : List V} {m : Int} (h : PR.set l = .halt m) : badE m := by cases h
theorem print_mk {l : List V} {v : V} {m : Int} (h : PR.print l v = .halt m) : badE m := by cases h
theorem leave_mk {l g : List V} {m : Int} (h : PR.leave l g = .halt m) : badE m := by cases h
theorem recR_halt {c : Int} {r : List V} {u v : V} {m : Int} (h : recR c r u v = .halt m) : badE m := by
  unfold recR at h; split at h
  · exact halt_mk (.inl rfl) h
  · exact set_mk h
theorem plainR_halt {res : Int} {l : List V} {c : Int} {o : Nat} {m : Int} (h : plainR res l c o = .halt m) : badE m := by
  unfold plainR at h
  refine if_halt h (onA_halt fun _ _ => set_mk) fun h => ?_
  refine if_halt h (fun h => if_halt h leave_mk (halt_mk bad6)) fun h => ?_
  refine if_halt h (fun h => if_halt h (halt_mk bad6) (on1_halt fun _ _ => leave_mk)) fun h => ?_
  refine if_halt h (onA_halt fun _ _ h => if_halt h (halt_mk (.inr (.inr (.inr (.inr rfl))))) print_mk) fun h => ?_
  refine if_halt h (onB_halt fun _ _ _ h => if_halt h set_mk (halt_mk bad6)) fun h => ?_
  refine if_halt h (onB_halt fun _ _ _ h => if_halt h set_mk (halt_mk bad6)) fun h => ?_
  refine if_halt h (on1_halt fun _ _ => set_mk) fun h => ?_
  refine if_halt h (on1_halt fun _ _ => set_mk) fun h => ?_
  refine if_halt h (on2_halt fun _ _ _ h => if_halt h (halt_mk (.inr (.inl rfl))) set_mk) fun h => ?_
  refine if_halt h (onB_halt fun _ _ _ h => if_halt h set_mk (halt_mk bad6)) fun h => ?_
  refine if_halt h (on1_halt fun _ _ => set_mk) fun h => ?_
  refine if_halt h (on2_halt fun _ _ _ => recR_halt) (halt_mk bad6)
theorem doR_halt {pg : Pg} {pr : Pr} {l : List V} {k : Nat} {vars : List V} {d o : Nat} {m : Int} (h : doR pg pr l k vars d o = .halt m) : badE m := by
  have hlay : ∀ v, layR l k vars v = .halt m → badE m := by
    intro v h; unfold layR at h; split at h
    · cases h; exact bad6
    · cases h
  unfold doR at h
  split at h
  · cases h; exact bad6
  split at h
  · unfold constR at h; split at h
    · cases h; exact bad6
    split at h
    · cases h; exact bad6
    split at h
    · exact hlay _ h
    · cases h; exact bad6
  split at h
  · unfold loadR at h; split at h
    · cases h; exact bad6
    split at h
    · cases h; exact bad6
    split at h
    · cases h; exact bad6
    · exact hlay _ h
  split at h
  · unfold storeR at h; split at h
    · cases h; exact bad6
    split at h
    · cases h; exact bad6
    · cases h
  split at h
  · unfold jumpR at h; split at h
    · cases h; exact bad6
    · cases h
  split at h
  · unfold unlessR at h; split at h
    · cases h; exact bad6
    split at h
    · cases h; exact bad6
    · cases h
  split at h
  · unfold callD at h; split at h
    · rename_i e he
      cases h
      unfold callR at he
      split at he
      · cases he; exact bad6
      split at he
      · cases he; exact bad6
      split at he
      · cases he; exact bad6
      split at he
      · cases he; exact bad6
      split at he
      · cases he; exact bad6
      split at he
      · cases he; exact bad6
      split at he
      · cases he; exact .inr (.inr (.inl rfl))
      · cases he
    · cases h
  split at h
  · cases h; exact bad6
  · unfold plainD at h
    split at h
    · rename_i m' hm; cases h; exact plainR_halt hm
    · cases h
    · cases h
    · cases h

/-- a machine's end, and what goes with it -/
structure EInv (s : Mc) : Prop where
  open_ : s.ended = false → s.val = V0 ∧ s.en = 0
  shut : s.ended = true → s.en = 1 ∨ badE s.en
theorem EInv.step {pg : Pg} {s : Mc} (h : EInv s) (he : s.ended = false) : EInv (stepM pg s) := by
  obtain ⟨hv, hn⟩ := h.open_ he
  unfold stepM
  split
  · exact h
  split
  · exact h
  split
  · rename_i n hd; exact ⟨fun h => (by cases h), fun _ => .inr (doR_halt hd)⟩
  · exact ⟨fun _ => ⟨hv, hn⟩, fun h => by rw [he] at h; cases h⟩
  · exact ⟨fun _ => ⟨hv, hn⟩, fun h => by rw [he] at h; cases h⟩
  · exact ⟨fun _ => ⟨hv, hn⟩, fun h => by rw [he] at h; cases h⟩
  · split
    · exact ⟨fun h => (by cases h), fun _ => .inl rfl⟩
    · exact ⟨fun _ => ⟨hv, hn⟩, fun h => by rw [he] at h; cases h⟩
theorem EInv.run {pg : Pg} : ∀ (n : Nat) {s : Mc}, EInv s → EInv (runM pg n s).2
  | 0, s, h => h
  | n + 1, s, h => by
    unfold runM
    split
    · exact h
    · rename_i he
      exact EInv.run n (h.step (by simpa using he))

theorem runM_add (pg : Pg) : ∀ (n k : Nat) (s : Mc), runM pg (n + k) s = ((runM pg n s).1 + (runM pg k (runM pg n s).2).1, (runM pg k (runM pg n s).2).2)
  | 0, k, s => by simp [runM]
  | n + 1, k, s => by
    cases he : s.ended with
    | true => rw [runM_ended he, runM_ended he]; simp [runM_ended he]
    | false =>
      rw [show n + 1 + k = (n + k) + 1 by omega]
      simp only [runM, he, Bool.false_eq_true, if_false]
      rw [runM_add pg n k (stepM pg s)]
      simp only [Prod.mk.injEq, and_true]
      omega

/-- what is printed stays printed -/
theorem stepM_out {pg : Pg} {s : Mc} : ∃ l, (stepM pg s).out = s.out ++ l := by
  unfold stepM
  split
  · exact ⟨[], by simp⟩
  split
  · exact ⟨[], by simp⟩
  split
  · exact ⟨[], by simp⟩
  · exact ⟨[], by simp⟩
  · exact ⟨_, rfl⟩
  · exact ⟨[], by simp⟩
  · split
    · exact ⟨[], by simp⟩
    · exact ⟨[], by simp⟩
theorem runM_out {pg : Pg} : ∀ (n : Nat) (s : Mc), ∃ l, (runM pg n s).2.out = s.out ++ l
  | 0, s => ⟨[], by simp [runM]⟩
  | n + 1, s => by
    unfold runM
    split
    · exact ⟨[], by simp⟩
    · obtain ⟨l, h⟩ := @stepM_out pg s
      obtain ⟨l', h'⟩ := runM_out n (stepM pg s)
      exact ⟨l ++ l', by rw [h', h]; simp⟩
/-- as many steps as are taken are counted -/
theorem runM_steps {pg : Pg} : ∀ (n : Nat) {s : Mc}, Inv pg s → Live s → (runM pg n s).2.steps = s.steps + (runM pg n s).1
  | 0, s, _, _ => rfl
  | n + 1, s, hI, hL => by
    unfold runM
    split
    · rfl
    · rename_i he
      have h1 := stepM_steps1 (hL (by simpa using he)) hI.procs
      rw [runM_steps n hI.step hL.step, h1]
      simp; omega
theorem runM_all {pg : Pg} : ∀ (n : Nat) {s : Mc}, (runM pg n s).2.ended = false → (runM pg n s).1 = n
  | 0, s, _ => rfl
  | n + 1, s, h => by
    unfold runM at h ⊢
    split at h
    · rename_i he; rw [he] at h; cases h
    · rename_i he
      rw [if_neg he]
      have := runM_all n h
      simp [this]
end Go.Proofs.Ytjgohbepageicaa.Gb
