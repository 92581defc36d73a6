/- The document's step and the machine's: the plain law, the other instructions. The document's step and the machine's: the plain law, all instructions. The document's step, walked: it comes to what the machine's comes to. The document's answer: a start, many steps, a run. The document's answer: a start. What the document's machine tells: walked; that a machine tells the same. -/
import Derived.Test.YtjgohbepageicaaOj
namespace Go.Proofs.Ytjgohbepageicaa.Gb
open Go Go.Proofs
set_option linter.unusedVariables false
set_option linter.unusedSimpArgs false

section
variable (pg : Pg) (pr : Pr) (l : List V) (k : Nat) (vars : List V) (depth outn : Nat) (n : Int) (hl : l.length ≤ 128) (hA : AllOK l) (hV : VarsOK vars)
include hl hA in
theorem step_call : StepEq pg pr l k vars depth outn n 7 := by
  have hd : doI pg pr l k vars depth outn 7 n = callD pg.procs l n depth := rfl
  rw [StepEq, hd]
  unfold callD callR
  by_cases hn : n < 0
  · rw [if_pos hn]
    exact ⟨fun _ => rfl, fun r gl _ ht _ => by unfold takenR at ht; rw [if_pos (.inr hn)] at ht; omega⟩
  obtain ⟨m, rfl⟩ : ∃ m : Nat, n = m := ⟨n.toNat, by omega⟩
  rw [if_neg hn, Int.toNat_natCast]
  have ht0 := @taken_num pg pr vars 7 m (by decide)
  unfold takenC at ht0
  simp only [show ¬ (7 : Int) = 1 by decide, show ¬ (7 : Int) = 2 by decide, show ¬ (7 : Int) = 3 by decide, show ¬ (7 : Int) = 5 by decide, show ¬ (7 : Int) = 6 by decide, if_true, if_false, Int.toNat_natCast] at ht0
  cases hq : pg.procs[m]? with
  | none => exact ⟨fun _ => rfl, fun r gl _ ht _ => by rw [ht0, hq] at ht; simp at ht⟩
  | some q =>
    rw [hq] at ht0
    dsimp only at ht0 ⊢
    cases hs : sizedP q with
    | false => exact ⟨fun _ => by simp, fun r gl _ ht _ => by rw [ht0, hs] at ht; simp at ht⟩
    | true =>
      rw [hs, if_pos rfl] at ht0
      rw [if_neg (by decide)]
      by_cases hlt : l.length < q.params.length
      · rw [if_pos hlt]
        refine ⟨fun _ => rfl, fun r gl hr ht _ => ?_⟩
        rw [ht0] at ht; rw [hr, List.length_append] at hlt; omega
      rw [if_neg hlt]
      obtain ⟨r0, g0, hrg, hg0⟩ : ∃ r0 g0, l = r0 ++ g0 ∧ g0.length = q.params.length := ⟨l.take (l.length - q.params.length), l.drop (l.length - q.params.length), (List.take_append_drop _ _).symm, by rw [List.length_drop]; omega⟩
      have e1 : l.length - q.params.length = r0.length := by rw [hrg, List.length_append]; omega
      have e2 : l.drop r0.length = g0 := by rw [hrg, List.drop_left]
      have e3 : l.take r0.length = r0 := by rw [hrg, List.take_left]
      rw [e1, e2, e3]
      have hst := stuckI_of (pg := pg) (pr := pr) (r := r0) (gl := g0) (vars := vars) (c := 7) (n := (m : Int)) (tn := q.params.length) ht0 hg0
      rw [← hrg] at hst
      have hok : g0.all vOK = true := List.all_eq_true.2 fun v hv => hA v (by rw [hrg]; exact List.mem_append_right _ hv)
      have hfit : fitsR pg pr.result 7 m g0 = decide (tys g0 = q.params) := by simp [fitsR, hq, typedR, hok]
      have hlay : laysR pg 7 m = if q.result = 0 then 0 else 1 := by simp [laysR, hq]
      rw [hst, hfit, hlay]
      have hfin : ∀ (r gl : List V), l = r ++ gl → takenR pg pr vars 7 m = (gl.length : Int) → r = r0 ∧ gl = g0 := fun r gl hr ht => by
        rw [ht0] at ht
        have := List.append_inj' (hrg.symm.trans hr) (by omega)
        exact ⟨this.1.symm, this.2.symm⟩
      have hrl : r0.length ≤ 128 := by rw [hrg, List.length_append] at hl; omega
      by_cases ht : tys g0 = q.params
      rotate_left
      · refine ⟨fun _ => ?_, fun r gl _ _ h => by simp [ht] at h⟩
        simp [ht]
      by_cases hr : q.result = 0
      · refine ⟨fun h => ?_, fun r gl h1 h2 _ => ?_⟩
        · simp [ht, hr] at h; omega
        · obtain ⟨rfl, rfl⟩ := hfin r gl h1 h2
          by_cases hdp : 64 ≤ depth <;> simp [refD, hq, hdp, ht, hr]
      · by_cases h128 : 128 ≤ r0.length
        · refine ⟨fun _ => ?_, fun r gl _ _ h => ?_⟩
          · simp [ht, hr, h128]
          · simp [ht, hr] at h; omega
        · refine ⟨fun h => ?_, fun r gl h1 h2 _ => ?_⟩
          · simp [ht, hr] at h; omega
          · obtain ⟨rfl, rfl⟩ := hfin r gl h1 h2
            by_cases hdp : 64 ≤ depth <;> simp [refD, hq, hdp, ht, hr, h128]

theorem doI_plain {c : Int} (hc : numbB c = false) : doI pg pr l k vars depth outn c 0 = plainD pr.result l k vars c outn := by
  have h : ¬ (c = 1 ∨ c = 2 ∨ c = 3 ∨ c = 5 ∨ c = 6 ∨ c = 7 ∨ c = 8) := of_decide_eq_false hc
  simp only [not_or] at h
  unfold doI
  rw [if_neg h.1, if_neg h.2.1, if_neg h.2.2.1, if_neg h.2.2.2.1, if_neg h.2.2.2.2.1, if_neg h.2.2.2.2.2.1, if_neg (by simp)]
theorem step_nz {c : Int} (hc : numbB c = false) (hn : n ≠ 0) : StepEq pg pr l k vars depth outn n c := by
  have h : ¬ (c = 1 ∨ c = 2 ∨ c = 3 ∨ c = 5 ∨ c = 6 ∨ c = 7 ∨ c = 8) := of_decide_eq_false hc
  simp only [not_or] at h
  have hd : doI pg pr l k vars depth outn c n = .halt 6 := by
    unfold doI
    rw [if_neg h.1, if_neg h.2.1, if_neg h.2.2.1, if_neg h.2.2.2.1, if_neg h.2.2.2.2.1, if_neg h.2.2.2.2.2.1, if_pos hn]
  rw [StepEq, hd, taken_nz hc hn]
  exact ⟨fun _ => rfl, fun r gl _ ht _ => by omega⟩
theorem two_of {gl : List V} (h : ((2 : Nat) : Int) = (gl.length : Int)) : ∃ u v, gl = [u, v] := list2 (by omega)
theorem snoc2_inj {r r' : List V} {u v u' v' : V} (h : r ++ [u, v] = r' ++ [u', v']) : r = r' ∧ u = u' ∧ v = v' := by
  have := List.append_inj' h rfl
  exact ⟨this.1, by simpa using this.2⟩
include hl hA in
theorem step_4 : StepEq pg pr l k vars depth outn 0 4 := by
  have ht0 : takenR pg pr vars 4 0 = ((1 : Nat) : Int) := rfl
  rw [StepEq, doI_plain _ _ _ _ _ _ _ (by decide)]
  unfold plainD
  rcases @one_or l with h1 | ⟨r0, v0, rfl⟩
  · have hp : plainR pr.result l 4 outn = .halt 6 := by simp [plainR, onA, on1, ty1, pop1_none h1]
    rw [hp]
    exact ⟨fun _ => rfl, fun r gl hr ht _ => by rw [ht0] at ht; obtain ⟨v, rfl⟩ := one_of ht; rw [hr] at h1; simp at h1⟩
  · have hs := stuckI_of (pg := pg) (pr := pr) (vars := vars) (r := r0) (gl := [v0]) (tn := 1) ht0 rfl
    rw [hs]
    have hfin : ∀ (r gl : List V), r0 ++ [v0] = r ++ gl → takenR pg pr vars 4 0 = (gl.length : Int) → r = r0 ∧ gl = [v0] := fun r gl hr ht => by
      rw [ht0] at ht
      obtain ⟨v, rfl⟩ := one_of ht
      obtain ⟨rfl, rfl⟩ := snoc_inj hr
      exact ⟨rfl, rfl⟩
    have hlen : r0.length ≤ 127 := by simp at hl; omega
    have hp : plainR pr.result (r0 ++ [v0]) 4 outn = .set r0 := by simp [plainR, onA, pop1_snoc]
    rw [hp]
    refine ⟨fun h => ?_, fun r gl h1 h2 _ => ?_⟩
    · simp [fitsR, laysR] at h; omega
    · obtain ⟨rfl, rfl⟩ := hfin r gl h1 h2
      simp [refD]
include hl hA in
theorem step_11 : StepEq pg pr l k vars depth outn 0 11 := by
  have ht0 : takenR pg pr vars 11 0 = ((1 : Nat) : Int) := rfl
  rw [StepEq, doI_plain _ _ _ _ _ _ _ (by decide)]
  unfold plainD
  rcases @one_or l with h1 | ⟨r0, v0, rfl⟩
  · have hp : plainR pr.result l 11 outn = .halt 6 := by simp [plainR, onA, on1, ty1, pop1_none h1]
    rw [hp]
    exact ⟨fun _ => rfl, fun r gl hr ht _ => by rw [ht0] at ht; obtain ⟨v, rfl⟩ := one_of ht; rw [hr] at h1; simp at h1⟩
  · have hs := stuckI_of (pg := pg) (pr := pr) (vars := vars) (r := r0) (gl := [v0]) (tn := 1) ht0 rfl
    rw [hs]
    have hfin : ∀ (r gl : List V), r0 ++ [v0] = r ++ gl → takenR pg pr vars 11 0 = (gl.length : Int) → r = r0 ∧ gl = [v0] := fun r gl hr ht => by
      rw [ht0] at ht
      obtain ⟨v, rfl⟩ := one_of ht
      obtain ⟨rfl, rfl⟩ := snoc_inj hr
      exact ⟨rfl, rfl⟩
    have hlen : r0.length ≤ 127 := by simp at hl; omega
    have hp : plainR pr.result (r0 ++ [v0]) 11 outn = if 4096 ≤ outn then .halt 7 else .print r0 v0 := by simp [plainR, onA, pop1_snoc]
    rw [hp]
    refine ⟨fun h => ?_, fun r gl h1 h2 _ => ?_⟩
    · simp [fitsR, laysR] at h; omega
    · obtain ⟨rfl, rfl⟩ := hfin r gl h1 h2
      by_cases h4 : 4096 ≤ outn <;> simp [refD, h4]
include hl hA in
theorem step_24 : StepEq pg pr l k vars depth outn 0 24 := by
  have ht0 : takenR pg pr vars 24 0 = ((1 : Nat) : Int) := rfl
  rw [StepEq, doI_plain _ _ _ _ _ _ _ (by decide)]
  unfold plainD
  rcases @one_or l with h1 | ⟨r0, v0, rfl⟩
  · have hp : plainR pr.result l 24 outn = .halt 6 := by simp [plainR, onA, on1, ty1, pop1_none h1]
    rw [hp]
    exact ⟨fun _ => rfl, fun r gl hr ht _ => by rw [ht0] at ht; obtain ⟨v, rfl⟩ := one_of ht; rw [hr] at h1; simp at h1⟩
  · have hs := stuckI_of (pg := pg) (pr := pr) (vars := vars) (r := r0) (gl := [v0]) (tn := 1) ht0 rfl
    rw [hs]
    have hfin : ∀ (r gl : List V), r0 ++ [v0] = r ++ gl → takenR pg pr vars 24 0 = (gl.length : Int) → r = r0 ∧ gl = [v0] := fun r gl hr ht => by
      rw [ht0] at ht
      obtain ⟨v, rfl⟩ := one_of ht
      obtain ⟨rfl, rfl⟩ := snoc_inj hr
      exact ⟨rfl, rfl⟩
    have hlen : r0.length ≤ 127 := by simp at hl; omega
    by_cases h2 : v0.t = 1
    · have hp : plainR pr.result (r0 ++ [v0]) 24 outn = .set (r0 ++ [numV (IntKind.i64.wrap (0 - v0.i))]) := by simp [plainR, on1, ty1, pop1_snoc, h2]
      rw [hp]
      refine ⟨fun h => ?_, fun r gl h1 h3 _ => ?_⟩
      · simp [fitsR, laysR, h2] at h; omega
      · obtain ⟨rfl, rfl⟩ := hfin r gl h1 h3
        simp [refD, madeR]
    · have hp : plainR pr.result (r0 ++ [v0]) 24 outn = .halt 6 := by simp [plainR, on1, ty1, pop1_snoc, h2]
      rw [hp]
      exact ⟨fun _ => rfl, fun r gl h1 h3 h => by simp [fitsR, h2] at h⟩
include hl hA in
theorem step_25 : StepEq pg pr l k vars depth outn 0 25 := by
  have ht0 : takenR pg pr vars 25 0 = ((1 : Nat) : Int) := rfl
  rw [StepEq, doI_plain _ _ _ _ _ _ _ (by decide)]
  unfold plainD
  rcases @one_or l with h1 | ⟨r0, v0, rfl⟩
  · have hp : plainR pr.result l 25 outn = .halt 6 := by simp [plainR, onA, on1, ty1, pop1_none h1]
    rw [hp]
    exact ⟨fun _ => rfl, fun r gl hr ht _ => by rw [ht0] at ht; obtain ⟨v, rfl⟩ := one_of ht; rw [hr] at h1; simp at h1⟩
  · have hs := stuckI_of (pg := pg) (pr := pr) (vars := vars) (r := r0) (gl := [v0]) (tn := 1) ht0 rfl
    rw [hs]
    have hfin : ∀ (r gl : List V), r0 ++ [v0] = r ++ gl → takenR pg pr vars 25 0 = (gl.length : Int) → r = r0 ∧ gl = [v0] := fun r gl hr ht => by
      rw [ht0] at ht
      obtain ⟨v, rfl⟩ := one_of ht
      obtain ⟨rfl, rfl⟩ := snoc_inj hr
      exact ⟨rfl, rfl⟩
    have hlen : r0.length ≤ 127 := by simp at hl; omega
    by_cases h2 : v0.t = 2
    · have hp : plainR pr.result (r0 ++ [v0]) 25 outn = .set (r0 ++ [truthV (!v0.b)]) := by simp [plainR, on1, ty1, pop1_snoc, h2]
      rw [hp]
      refine ⟨fun h => ?_, fun r gl h1 h3 _ => ?_⟩
      · simp [fitsR, laysR, h2] at h; omega
      · obtain ⟨rfl, rfl⟩ := hfin r gl h1 h3
        simp [refD, madeR]
    · have hp : plainR pr.result (r0 ++ [v0]) 25 outn = .halt 6 := by simp [plainR, on1, ty1, pop1_snoc, h2]
      rw [hp]
      exact ⟨fun _ => rfl, fun r gl h1 h3 h => by simp [fitsR, h2] at h⟩
include hl hA in
theorem step_26 : StepEq pg pr l k vars depth outn 0 26 := by
  have ht0 : takenR pg pr vars 26 0 = ((1 : Nat) : Int) := rfl
  rw [StepEq, doI_plain _ _ _ _ _ _ _ (by decide)]
  unfold plainD
  rcases @one_or l with h1 | ⟨r0, v0, rfl⟩
  · have hp : plainR pr.result l 26 outn = .halt 6 := by simp [plainR, onA, on1, ty1, pop1_none h1]
    rw [hp]
    exact ⟨fun _ => rfl, fun r gl hr ht _ => by rw [ht0] at ht; obtain ⟨v, rfl⟩ := one_of ht; rw [hr] at h1; simp at h1⟩
  · have hs := stuckI_of (pg := pg) (pr := pr) (vars := vars) (r := r0) (gl := [v0]) (tn := 1) ht0 rfl
    rw [hs]
    have hfin : ∀ (r gl : List V), r0 ++ [v0] = r ++ gl → takenR pg pr vars 26 0 = (gl.length : Int) → r = r0 ∧ gl = [v0] := fun r gl hr ht => by
      rw [ht0] at ht
      obtain ⟨v, rfl⟩ := one_of ht
      obtain ⟨rfl, rfl⟩ := snoc_inj hr
      exact ⟨rfl, rfl⟩
    have hlen : r0.length ≤ 127 := by simp at hl; omega
    by_cases h2 : v0.t = 3
    · have hp : plainR pr.result (r0 ++ [v0]) 26 outn = .set (r0 ++ [numV v0.s.size]) := by simp [plainR, on1, ty1, pop1_snoc, h2]
      rw [hp]
      refine ⟨fun h => ?_, fun r gl h1 h3 _ => ?_⟩
      · simp [fitsR, laysR, h2] at h; omega
      · obtain ⟨rfl, rfl⟩ := hfin r gl h1 h3
        simp [refD, madeR]
    · have hp : plainR pr.result (r0 ++ [v0]) 26 outn = .halt 6 := by simp [plainR, on1, ty1, pop1_snoc, h2]
      rw [hp]
      exact ⟨fun _ => rfl, fun r gl h1 h3 h => by simp [fitsR, h2] at h⟩
include hl hA in
theorem step_10 : StepEq pg pr l k vars depth outn 0 10 := by
  rw [StepEq, doI_plain _ _ _ _ _ _ _ (by decide)]
  unfold plainD
  by_cases hres : pr.result = 0
  · have hp : plainR pr.result l 10 outn = .halt 6 := by simp [plainR, hres]
    have ht0 : takenR pg pr vars 10 0 = -1 := by rw [taken_plain (by decide)]; simp [takenC, hres]
    rw [hp]
    exact ⟨fun _ => rfl, fun r gl _ ht _ => by rw [ht0] at ht; omega⟩
  have ht0 : takenR pg pr vars 10 0 = ((1 : Nat) : Int) := by rw [taken_plain (by decide)]; simp [takenC, hres]
  rcases @one_or l with h1 | ⟨r0, v0, rfl⟩
  · have hp : plainR pr.result l 10 outn = .halt 6 := by simp [plainR, hres, on1, ty1, pop1_none h1]
    rw [hp]
    exact ⟨fun _ => rfl, fun r gl hr ht _ => by rw [ht0] at ht; obtain ⟨v, rfl⟩ := one_of ht; rw [hr] at h1; simp at h1⟩
  · have hs := stuckI_of (pg := pg) (pr := pr) (vars := vars) (r := r0) (gl := [v0]) (tn := 1) ht0 rfl
    rw [hs]
    have hfin : ∀ (r gl : List V), r0 ++ [v0] = r ++ gl → takenR pg pr vars 10 0 = (gl.length : Int) → r = r0 ∧ gl = [v0] := fun r gl hr ht => by
      rw [ht0] at ht
      obtain ⟨v, rfl⟩ := one_of ht
      obtain ⟨rfl, rfl⟩ := snoc_inj hr
      exact ⟨rfl, rfl⟩
    have hlen : r0.length ≤ 127 := by simp at hl; omega
    by_cases h2 : v0.t = pr.result
    · have hp : plainR pr.result (r0 ++ [v0]) 10 outn = .leave r0 [v0] := by simp [plainR, hres, on1, ty1, pop1_snoc, h2]
      rw [hp]
      refine ⟨fun h => ?_, fun r gl h1 h3 _ => ?_⟩
      · simp [fitsR, laysR, h2] at h; omega
      · obtain ⟨rfl, rfl⟩ := hfin r gl h1 h3
        simp [refD]
    · have hp : plainR pr.result (r0 ++ [v0]) 10 outn = .halt 6 := by simp [plainR, hres, on1, ty1, pop1_snoc, h2]
      rw [hp]
      exact ⟨fun _ => rfl, fun r gl h1 h3 h => by simp [fitsR, h2] at h⟩
include hl in
theorem step_9 : StepEq pg pr l k vars depth outn 0 9 := by
  rw [StepEq, doI_plain _ _ _ _ _ _ _ (by decide)]
  unfold plainD
  by_cases hres : pr.result = 0
  · have hp : plainR pr.result l 9 outn = .leave l [] := by simp [plainR, hres]
    have ht0 : takenR pg pr vars 9 0 = ((0 : Nat) : Int) := by rw [taken_plain (by decide)]; simp [takenC, hres]
    rw [hp]
    have hs := stuckI_of (r := l) (gl := []) (tn := 0) ht0 rfl
    rw [List.append_nil] at hs
    rw [hs]
    refine ⟨fun h => ?_, fun r gl hr ht _ => ?_⟩
    · simp [fitsR, laysR] at h; omega
    · rw [ht0] at ht
      obtain rfl : gl = [] := List.eq_nil_of_length_eq_zero (by omega)
      rw [List.append_nil] at hr; subst hr
      simp [refD]
  · have hp : plainR pr.result l 9 outn = .halt 6 := by simp [plainR, hres]
    have ht0 : takenR pg pr vars 9 0 = -1 := by rw [taken_plain (by decide)]; simp [takenC, hres]
    rw [hp]
    exact ⟨fun _ => rfl, fun r gl _ ht _ => by rw [ht0] at ht; omega⟩
include hl hA in
theorem step_12 : StepEq pg pr l k vars depth outn 0 12 := by
  have ht0 : takenR pg pr vars 12 0 = ((2 : Nat) : Int) := rfl
  rw [StepEq, doI_plain _ _ _ _ _ _ _ (by decide)]
  unfold plainD
  rcases @two_or l with h1 | ⟨r0, u, v, rfl⟩
  · have hp : plainR pr.result l 12 outn = .halt 6 := by simp [plainR, onB, on2, ty2, pop2_none h1]
    rw [hp]
    exact ⟨fun _ => rfl, fun r gl hr ht _ => by rw [ht0] at ht; obtain ⟨u, v, rfl⟩ := two_of ht; rw [hr] at h1; simp at h1; omega⟩
  · have hs := stuckI_of (pg := pg) (pr := pr) (vars := vars) (r := r0) (gl := [u, v]) (tn := 2) ht0 rfl
    rw [hs]
    have hu : vOK u = true := hA u (by simp)
    have hv : vOK v = true := hA v (by simp)
    have hfin : ∀ (r gl : List V), r0 ++ [u, v] = r ++ gl → takenR pg pr vars 12 0 = (gl.length : Int) → r = r0 ∧ gl = [u, v] := fun r gl hr ht => by
      rw [ht0] at ht
      obtain ⟨u', v', rfl⟩ := two_of ht
      obtain ⟨rfl, rfl, rfl⟩ := snoc2_inj hr
      exact ⟨rfl, rfl⟩
    have hlen : r0.length ≤ 126 := by simp at hl; omega
    by_cases h2 : u.t = v.t
    · have hp : plainR pr.result (r0 ++ [u, v]) 12 outn = .set (r0 ++ [truthV (decide (u = v))]) := by simp [plainR, onB, pop2_snoc, h2]
      rw [hp]
      refine ⟨fun h => ?_, fun r gl h3 h4 _ => ?_⟩
      · simp [fitsR, laysR, h2] at h; omega
      · obtain ⟨rfl, rfl⟩ := hfin r gl h3 h4
        simp [refD, madeR]
    · have hp : plainR pr.result (r0 ++ [u, v]) 12 outn = .halt 6 := by simp [plainR, onB, pop2_snoc, h2]
      rw [hp]
      exact ⟨fun _ => rfl, fun r gl h3 h4 h => by simp [fitsR, h2] at h⟩
include hl hA in
theorem step_13 : StepEq pg pr l k vars depth outn 0 13 := by
  have ht0 : takenR pg pr vars 13 0 = ((2 : Nat) : Int) := rfl
  rw [StepEq, doI_plain _ _ _ _ _ _ _ (by decide)]
  unfold plainD
  rcases @two_or l with h1 | ⟨r0, u, v, rfl⟩
  · have hp : plainR pr.result l 13 outn = .halt 6 := by simp [plainR, onB, on2, ty2, pop2_none h1]
    rw [hp]
    exact ⟨fun _ => rfl, fun r gl hr ht _ => by rw [ht0] at ht; obtain ⟨u, v, rfl⟩ := two_of ht; rw [hr] at h1; simp at h1; omega⟩
  · have hs := stuckI_of (pg := pg) (pr := pr) (vars := vars) (r := r0) (gl := [u, v]) (tn := 2) ht0 rfl
    rw [hs]
    have hu : vOK u = true := hA u (by simp)
    have hv : vOK v = true := hA v (by simp)
    have hfin : ∀ (r gl : List V), r0 ++ [u, v] = r ++ gl → takenR pg pr vars 13 0 = (gl.length : Int) → r = r0 ∧ gl = [u, v] := fun r gl hr ht => by
      rw [ht0] at ht
      obtain ⟨u', v', rfl⟩ := two_of ht
      obtain ⟨rfl, rfl, rfl⟩ := snoc2_inj hr
      exact ⟨rfl, rfl⟩
    have hlen : r0.length ≤ 126 := by simp at hl; omega
    by_cases h2 : u.t = v.t
    · have hp : plainR pr.result (r0 ++ [u, v]) 13 outn = .set (r0 ++ [truthV (!decide (u = v))]) := by simp [plainR, onB, pop2_snoc, h2]
      rw [hp]
      refine ⟨fun h => ?_, fun r gl h3 h4 _ => ?_⟩
      · simp [fitsR, laysR, h2] at h; omega
      · obtain ⟨rfl, rfl⟩ := hfin r gl h3 h4
        simp [refD, madeR]
    · have hp : plainR pr.result (r0 ++ [u, v]) 13 outn = .halt 6 := by simp [plainR, onB, pop2_snoc, h2]
      rw [hp]
      exact ⟨fun _ => rfl, fun r gl h3 h4 h => by simp [fitsR, h2] at h⟩
include hl hA in
theorem step_14 : StepEq pg pr l k vars depth outn 0 14 := by
  have ht0 : takenR pg pr vars 14 0 = ((2 : Nat) : Int) := rfl
  rw [StepEq, doI_plain _ _ _ _ _ _ _ (by decide)]
  unfold plainD
  rcases @two_or l with h1 | ⟨r0, u, v, rfl⟩
  · have hp : plainR pr.result l 14 outn = .halt 6 := by simp [plainR, onB, on2, ty2, pop2_none h1]
    rw [hp]
    exact ⟨fun _ => rfl, fun r gl hr ht _ => by rw [ht0] at ht; obtain ⟨u, v, rfl⟩ := two_of ht; rw [hr] at h1; simp at h1; omega⟩
  · have hs := stuckI_of (pg := pg) (pr := pr) (vars := vars) (r := r0) (gl := [u, v]) (tn := 2) ht0 rfl
    rw [hs]
    have hu : vOK u = true := hA u (by simp)
    have hv : vOK v = true := hA v (by simp)
    have hfin : ∀ (r gl : List V), r0 ++ [u, v] = r ++ gl → takenR pg pr vars 14 0 = (gl.length : Int) → r = r0 ∧ gl = [u, v] := fun r gl hr ht => by
      rw [ht0] at ht
      obtain ⟨u', v', rfl⟩ := two_of ht
      obtain ⟨rfl, rfl, rfl⟩ := snoc2_inj hr
      exact ⟨rfl, rfl⟩
    have hlen : r0.length ≤ 126 := by simp at hl; omega
    by_cases h2 : ordOK u v
    · have h5 : u.t ≠ 2 := by rcases h2.2 with h | h <;> omega
      have h6 : v.t ≠ 2 := fun h => h5 (h2.1.trans h)
      obtain ⟨o1, o2⟩ := lessR_ord hu hv h2.1 h5
      have ho : ordS 14 u v = (lessR u v) := by rw [o1]; rfl
      have hp : plainR pr.result (r0 ++ [u, v]) 14 outn = .set (r0 ++ [truthV (lessR u v)]) := by simp [plainR, onB, pop2_snoc, h2, ho]
      rw [hp]
      refine ⟨fun h => ?_, fun r gl h3 h4 _ => ?_⟩
      · simp [fitsR, laysR, h2.1, h6] at h; omega
      · obtain ⟨rfl, rfl⟩ := hfin r gl h3 h4
        simp [refD, madeR]
    · have hp : plainR pr.result (r0 ++ [u, v]) 14 outn = .halt 6 := by simp [plainR, onB, pop2_snoc, h2]
      rw [hp]
      exact ⟨fun _ => rfl, fun r gl h3 h4 h => by 
        by_cases h5 : u.t = v.t
        · by_cases h6 : u.t = 2
          · have h7 : v.t = 2 := h5 ▸ h6
            simp [fitsR, h6, h7] at h
          · exfalso; refine h2 ⟨h5, ?_⟩
            rcases vOK_t hu with h | h | h
            · exact .inl h.1
            · exact absurd h.1 h6
            · exact .inr h.1
        · simp [fitsR, h5] at h⟩
include hl hA in
theorem step_15 : StepEq pg pr l k vars depth outn 0 15 := by
  have ht0 : takenR pg pr vars 15 0 = ((2 : Nat) : Int) := rfl
  rw [StepEq, doI_plain _ _ _ _ _ _ _ (by decide)]
  unfold plainD
  rcases @two_or l with h1 | ⟨r0, u, v, rfl⟩
  · have hp : plainR pr.result l 15 outn = .halt 6 := by simp [plainR, onB, on2, ty2, pop2_none h1]
    rw [hp]
    exact ⟨fun _ => rfl, fun r gl hr ht _ => by rw [ht0] at ht; obtain ⟨u, v, rfl⟩ := two_of ht; rw [hr] at h1; simp at h1; omega⟩
  · have hs := stuckI_of (pg := pg) (pr := pr) (vars := vars) (r := r0) (gl := [u, v]) (tn := 2) ht0 rfl
    rw [hs]
    have hu : vOK u = true := hA u (by simp)
    have hv : vOK v = true := hA v (by simp)
    have hfin : ∀ (r gl : List V), r0 ++ [u, v] = r ++ gl → takenR pg pr vars 15 0 = (gl.length : Int) → r = r0 ∧ gl = [u, v] := fun r gl hr ht => by
      rw [ht0] at ht
      obtain ⟨u', v', rfl⟩ := two_of ht
      obtain ⟨rfl, rfl, rfl⟩ := snoc2_inj hr
      exact ⟨rfl, rfl⟩
    have hlen : r0.length ≤ 126 := by simp at hl; omega
    by_cases h2 : ordOK u v
    · have h5 : u.t ≠ 2 := by rcases h2.2 with h | h <;> omega
      have h6 : v.t ≠ 2 := fun h => h5 (h2.1.trans h)
      obtain ⟨o1, o2⟩ := lessR_ord hu hv h2.1 h5
      have ho : ordS 15 u v = (!lessR v u) := by rw [o2]; show decide (ordN u v ≤ 0) = !decide (0 < ordN u v); rw [← decide_not]; exact decide_eq_decide.2 (by omega)
      have hp : plainR pr.result (r0 ++ [u, v]) 15 outn = .set (r0 ++ [truthV (!lessR v u)]) := by simp [plainR, onB, pop2_snoc, h2, ho]
      rw [hp]
      refine ⟨fun h => ?_, fun r gl h3 h4 _ => ?_⟩
      · simp [fitsR, laysR, h2.1, h6] at h; omega
      · obtain ⟨rfl, rfl⟩ := hfin r gl h3 h4
        simp [refD, madeR]
    · have hp : plainR pr.result (r0 ++ [u, v]) 15 outn = .halt 6 := by simp [plainR, onB, pop2_snoc, h2]
      rw [hp]
      exact ⟨fun _ => rfl, fun r gl h3 h4 h => by 
        by_cases h5 : u.t = v.t
        · by_cases h6 : u.t = 2
          · have h7 : v.t = 2 := h5 ▸ h6
            simp [fitsR, h6, h7] at h
          · exfalso; refine h2 ⟨h5, ?_⟩
            rcases vOK_t hu with h | h | h
            · exact .inl h.1
            · exact absurd h.1 h6
            · exact .inr h.1
        · simp [fitsR, h5] at h⟩
include hl hA in
theorem step_16 : StepEq pg pr l k vars depth outn 0 16 := by
  have ht0 : takenR pg pr vars 16 0 = ((2 : Nat) : Int) := rfl
  rw [StepEq, doI_plain _ _ _ _ _ _ _ (by decide)]
  unfold plainD
  rcases @two_or l with h1 | ⟨r0, u, v, rfl⟩
  · have hp : plainR pr.result l 16 outn = .halt 6 := by simp [plainR, onB, on2, ty2, pop2_none h1]
    rw [hp]
    exact ⟨fun _ => rfl, fun r gl hr ht _ => by rw [ht0] at ht; obtain ⟨u, v, rfl⟩ := two_of ht; rw [hr] at h1; simp at h1; omega⟩
  · have hs := stuckI_of (pg := pg) (pr := pr) (vars := vars) (r := r0) (gl := [u, v]) (tn := 2) ht0 rfl
    rw [hs]
    have hu : vOK u = true := hA u (by simp)
    have hv : vOK v = true := hA v (by simp)
    have hfin : ∀ (r gl : List V), r0 ++ [u, v] = r ++ gl → takenR pg pr vars 16 0 = (gl.length : Int) → r = r0 ∧ gl = [u, v] := fun r gl hr ht => by
      rw [ht0] at ht
      obtain ⟨u', v', rfl⟩ := two_of ht
      obtain ⟨rfl, rfl, rfl⟩ := snoc2_inj hr
      exact ⟨rfl, rfl⟩
    have hlen : r0.length ≤ 126 := by simp at hl; omega
    by_cases h2 : ordOK u v
    · have h5 : u.t ≠ 2 := by rcases h2.2 with h | h <;> omega
      have h6 : v.t ≠ 2 := fun h => h5 (h2.1.trans h)
      obtain ⟨o1, o2⟩ := lessR_ord hu hv h2.1 h5
      have ho : ordS 16 u v = (lessR v u) := by rw [o2]; rfl
      have hp : plainR pr.result (r0 ++ [u, v]) 16 outn = .set (r0 ++ [truthV (lessR v u)]) := by simp [plainR, onB, pop2_snoc, h2, ho]
      rw [hp]
      refine ⟨fun h => ?_, fun r gl h3 h4 _ => ?_⟩
      · simp [fitsR, laysR, h2.1, h6] at h; omega
      · obtain ⟨rfl, rfl⟩ := hfin r gl h3 h4
        simp [refD, madeR]
    · have hp : plainR pr.result (r0 ++ [u, v]) 16 outn = .halt 6 := by simp [plainR, onB, pop2_snoc, h2]
      rw [hp]
      exact ⟨fun _ => rfl, fun r gl h3 h4 h => by 
        by_cases h5 : u.t = v.t
        · by_cases h6 : u.t = 2
          · have h7 : v.t = 2 := h5 ▸ h6
            simp [fitsR, h6, h7] at h
          · exfalso; refine h2 ⟨h5, ?_⟩
            rcases vOK_t hu with h | h | h
            · exact .inl h.1
            · exact absurd h.1 h6
            · exact .inr h.1
        · simp [fitsR, h5] at h⟩
include hl hA in
theorem step_17 : StepEq pg pr l k vars depth outn 0 17 := by
  have ht0 : takenR pg pr vars 17 0 = ((2 : Nat) : Int) := rfl
  rw [StepEq, doI_plain _ _ _ _ _ _ _ (by decide)]
  unfold plainD
  rcases @two_or l with h1 | ⟨r0, u, v, rfl⟩
  · have hp : plainR pr.result l 17 outn = .halt 6 := by simp [plainR, onB, on2, ty2, pop2_none h1]
    rw [hp]
    exact ⟨fun _ => rfl, fun r gl hr ht _ => by rw [ht0] at ht; obtain ⟨u, v, rfl⟩ := two_of ht; rw [hr] at h1; simp at h1; omega⟩
  · have hs := stuckI_of (pg := pg) (pr := pr) (vars := vars) (r := r0) (gl := [u, v]) (tn := 2) ht0 rfl
    rw [hs]
    have hu : vOK u = true := hA u (by simp)
    have hv : vOK v = true := hA v (by simp)
    have hfin : ∀ (r gl : List V), r0 ++ [u, v] = r ++ gl → takenR pg pr vars 17 0 = (gl.length : Int) → r = r0 ∧ gl = [u, v] := fun r gl hr ht => by
      rw [ht0] at ht
      obtain ⟨u', v', rfl⟩ := two_of ht
      obtain ⟨rfl, rfl, rfl⟩ := snoc2_inj hr
      exact ⟨rfl, rfl⟩
    have hlen : r0.length ≤ 126 := by simp at hl; omega
    by_cases h2 : ordOK u v
    · have h5 : u.t ≠ 2 := by rcases h2.2 with h | h <;> omega
      have h6 : v.t ≠ 2 := fun h => h5 (h2.1.trans h)
      obtain ⟨o1, o2⟩ := lessR_ord hu hv h2.1 h5
      have ho : ordS 17 u v = (!lessR u v) := by rw [o1]; show decide (0 ≤ ordN u v) = !decide (ordN u v < 0); rw [← decide_not]; exact decide_eq_decide.2 (by omega)
      have hp : plainR pr.result (r0 ++ [u, v]) 17 outn = .set (r0 ++ [truthV (!lessR u v)]) := by simp [plainR, onB, pop2_snoc, h2, ho]
      rw [hp]
      refine ⟨fun h => ?_, fun r gl h3 h4 _ => ?_⟩
      · simp [fitsR, laysR, h2.1, h6] at h; omega
      · obtain ⟨rfl, rfl⟩ := hfin r gl h3 h4
        simp [refD, madeR]
    · have hp : plainR pr.result (r0 ++ [u, v]) 17 outn = .halt 6 := by simp [plainR, onB, pop2_snoc, h2]
      rw [hp]
      exact ⟨fun _ => rfl, fun r gl h3 h4 h => by 
        by_cases h5 : u.t = v.t
        · by_cases h6 : u.t = 2
          · have h7 : v.t = 2 := h5 ▸ h6
            simp [fitsR, h6, h7] at h
          · exfalso; refine h2 ⟨h5, ?_⟩
            rcases vOK_t hu with h | h | h
            · exact .inl h.1
            · exact absurd h.1 h6
            · exact .inr h.1
        · simp [fitsR, h5] at h⟩
include hl hA in
theorem step_18 : StepEq pg pr l k vars depth outn 0 18 := by
  have ht0 : takenR pg pr vars 18 0 = ((2 : Nat) : Int) := rfl
  rw [StepEq, doI_plain _ _ _ _ _ _ _ (by decide)]
  unfold plainD
  rcases @two_or l with h1 | ⟨r0, u, v, rfl⟩
  · have hp : plainR pr.result l 18 outn = .halt 6 := by simp [plainR, onB, on2, ty2, pop2_none h1]
    rw [hp]
    exact ⟨fun _ => rfl, fun r gl hr ht _ => by rw [ht0] at ht; obtain ⟨u, v, rfl⟩ := two_of ht; rw [hr] at h1; simp at h1; omega⟩
  · have hs := stuckI_of (pg := pg) (pr := pr) (vars := vars) (r := r0) (gl := [u, v]) (tn := 2) ht0 rfl
    rw [hs]
    have hu : vOK u = true := hA u (by simp)
    have hv : vOK v = true := hA v (by simp)
    have hfin : ∀ (r gl : List V), r0 ++ [u, v] = r ++ gl → takenR pg pr vars 18 0 = (gl.length : Int) → r = r0 ∧ gl = [u, v] := fun r gl hr ht => by
      rw [ht0] at ht
      obtain ⟨u', v', rfl⟩ := two_of ht
      obtain ⟨rfl, rfl, rfl⟩ := snoc2_inj hr
      exact ⟨rfl, rfl⟩
    have hlen : r0.length ≤ 126 := by simp at hl; omega
    by_cases h2 : u.t = 1 ∧ v.t = 1
    · have hp : plainR pr.result (r0 ++ [u, v]) 18 outn = .set (r0 ++ [numV (IntKind.i64.wrap (u.i + v.i))]) := by simp [plainR, on2, ty2, pop2_snoc, h2, recR, reckonS]
      rw [hp]
      refine ⟨fun h => ?_, fun r gl h3 h4 _ => ?_⟩
      · simp [fitsR, laysR, h2] at h; omega
      · obtain ⟨rfl, rfl⟩ := hfin r gl h3 h4
        simp [refD, madeR]
    · have hp : plainR pr.result (r0 ++ [u, v]) 18 outn = .halt 6 := by simp [plainR, on2, ty2, pop2_snoc, h2]
      rw [hp]
      exact ⟨fun _ => rfl, fun r gl h3 h4 h => by simp [fitsR] at h; exact absurd h.1 h2⟩
include hl hA in
theorem step_19 : StepEq pg pr l k vars depth outn 0 19 := by
  have ht0 : takenR pg pr vars 19 0 = ((2 : Nat) : Int) := rfl
  rw [StepEq, doI_plain _ _ _ _ _ _ _ (by decide)]
  unfold plainD
  rcases @two_or l with h1 | ⟨r0, u, v, rfl⟩
  · have hp : plainR pr.result l 19 outn = .halt 6 := by simp [plainR, onB, on2, ty2, pop2_none h1]
    rw [hp]
    exact ⟨fun _ => rfl, fun r gl hr ht _ => by rw [ht0] at ht; obtain ⟨u, v, rfl⟩ := two_of ht; rw [hr] at h1; simp at h1; omega⟩
  · have hs := stuckI_of (pg := pg) (pr := pr) (vars := vars) (r := r0) (gl := [u, v]) (tn := 2) ht0 rfl
    rw [hs]
    have hu : vOK u = true := hA u (by simp)
    have hv : vOK v = true := hA v (by simp)
    have hfin : ∀ (r gl : List V), r0 ++ [u, v] = r ++ gl → takenR pg pr vars 19 0 = (gl.length : Int) → r = r0 ∧ gl = [u, v] := fun r gl hr ht => by
      rw [ht0] at ht
      obtain ⟨u', v', rfl⟩ := two_of ht
      obtain ⟨rfl, rfl, rfl⟩ := snoc2_inj hr
      exact ⟨rfl, rfl⟩
    have hlen : r0.length ≤ 126 := by simp at hl; omega
    by_cases h2 : u.t = 1 ∧ v.t = 1
    · have hp : plainR pr.result (r0 ++ [u, v]) 19 outn = .set (r0 ++ [numV (IntKind.i64.wrap (u.i - v.i))]) := by simp [plainR, on2, ty2, pop2_snoc, h2, recR, reckonS]
      rw [hp]
      refine ⟨fun h => ?_, fun r gl h3 h4 _ => ?_⟩
      · simp [fitsR, laysR, h2] at h; omega
      · obtain ⟨rfl, rfl⟩ := hfin r gl h3 h4
        simp [refD, madeR]
    · have hp : plainR pr.result (r0 ++ [u, v]) 19 outn = .halt 6 := by simp [plainR, on2, ty2, pop2_snoc, h2]
      rw [hp]
      exact ⟨fun _ => rfl, fun r gl h3 h4 h => by simp [fitsR] at h; exact absurd h.1 h2⟩
include hl hA in
theorem step_21 : StepEq pg pr l k vars depth outn 0 21 := by
  have ht0 : takenR pg pr vars 21 0 = ((2 : Nat) : Int) := rfl
  rw [StepEq, doI_plain _ _ _ _ _ _ _ (by decide)]
  unfold plainD
  rcases @two_or l with h1 | ⟨r0, u, v, rfl⟩
  · have hp : plainR pr.result l 21 outn = .halt 6 := by simp [plainR, onB, on2, ty2, pop2_none h1]
    rw [hp]
    exact ⟨fun _ => rfl, fun r gl hr ht _ => by rw [ht0] at ht; obtain ⟨u, v, rfl⟩ := two_of ht; rw [hr] at h1; simp at h1; omega⟩
  · have hs := stuckI_of (pg := pg) (pr := pr) (vars := vars) (r := r0) (gl := [u, v]) (tn := 2) ht0 rfl
    rw [hs]
    have hu : vOK u = true := hA u (by simp)
    have hv : vOK v = true := hA v (by simp)
    have hfin : ∀ (r gl : List V), r0 ++ [u, v] = r ++ gl → takenR pg pr vars 21 0 = (gl.length : Int) → r = r0 ∧ gl = [u, v] := fun r gl hr ht => by
      rw [ht0] at ht
      obtain ⟨u', v', rfl⟩ := two_of ht
      obtain ⟨rfl, rfl, rfl⟩ := snoc2_inj hr
      exact ⟨rfl, rfl⟩
    have hlen : r0.length ≤ 126 := by simp at hl; omega
    by_cases h2 : u.t = 1 ∧ v.t = 1
    · have hp : plainR pr.result (r0 ++ [u, v]) 21 outn = .set (r0 ++ [numV (IntKind.i64.wrap (u.i * v.i))]) := by simp [plainR, on2, ty2, pop2_snoc, h2, recR, reckonS]
      rw [hp]
      refine ⟨fun h => ?_, fun r gl h3 h4 _ => ?_⟩
      · simp [fitsR, laysR, h2] at h; omega
      · obtain ⟨rfl, rfl⟩ := hfin r gl h3 h4
        simp [refD, madeR]
    · have hp : plainR pr.result (r0 ++ [u, v]) 21 outn = .halt 6 := by simp [plainR, on2, ty2, pop2_snoc, h2]
      rw [hp]
      exact ⟨fun _ => rfl, fun r gl h3 h4 h => by simp [fitsR] at h; exact absurd h.1 h2⟩
include hl hA in
theorem step_22 : StepEq pg pr l k vars depth outn 0 22 := by
  have ht0 : takenR pg pr vars 22 0 = ((2 : Nat) : Int) := rfl
  rw [StepEq, doI_plain _ _ _ _ _ _ _ (by decide)]
  unfold plainD
  rcases @two_or l with h1 | ⟨r0, u, v, rfl⟩
  · have hp : plainR pr.result l 22 outn = .halt 6 := by simp [plainR, onB, on2, ty2, pop2_none h1]
    rw [hp]
    exact ⟨fun _ => rfl, fun r gl hr ht _ => by rw [ht0] at ht; obtain ⟨u, v, rfl⟩ := two_of ht; rw [hr] at h1; simp at h1; omega⟩
  · have hs := stuckI_of (pg := pg) (pr := pr) (vars := vars) (r := r0) (gl := [u, v]) (tn := 2) ht0 rfl
    rw [hs]
    have hu : vOK u = true := hA u (by simp)
    have hv : vOK v = true := hA v (by simp)
    have hfin : ∀ (r gl : List V), r0 ++ [u, v] = r ++ gl → takenR pg pr vars 22 0 = (gl.length : Int) → r = r0 ∧ gl = [u, v] := fun r gl hr ht => by
      rw [ht0] at ht
      obtain ⟨u', v', rfl⟩ := two_of ht
      obtain ⟨rfl, rfl, rfl⟩ := snoc2_inj hr
      exact ⟨rfl, rfl⟩
    have hlen : r0.length ≤ 126 := by simp at hl; omega
    by_cases h2 : u.t = 1 ∧ v.t = 1
    · have hp : plainR pr.result (r0 ++ [u, v]) 22 outn = recR 22 r0 u v := by simp [plainR, on2, ty2, pop2_snoc, h2]
      rw [hp]
      unfold recR reckonS
      refine ⟨fun h => ?_, fun r gl h3 h4 _ => ?_⟩
      · simp [fitsR, laysR, h2] at h; omega
      · obtain ⟨rfl, rfl⟩ := hfin r gl h3 h4
        by_cases hz : v.i = 0
        · simp [refD, madeR, hz]
        · by_cases hm : v.i = -1
          · simp [refD, madeR, hz, hm, quoR, restR]
          · simp [refD, madeR, hz, hm, quoR, restR]
    · have hp : plainR pr.result (r0 ++ [u, v]) 22 outn = .halt 6 := by simp [plainR, on2, ty2, pop2_snoc, h2]
      rw [hp]
      exact ⟨fun _ => rfl, fun r gl h3 h4 h => by simp [fitsR] at h; exact absurd h.1 h2⟩
include hl hA in
theorem step_23 : StepEq pg pr l k vars depth outn 0 23 := by
  have ht0 : takenR pg pr vars 23 0 = ((2 : Nat) : Int) := rfl
  rw [StepEq, doI_plain _ _ _ _ _ _ _ (by decide)]
  unfold plainD
  rcases @two_or l with h1 | ⟨r0, u, v, rfl⟩
  · have hp : plainR pr.result l 23 outn = .halt 6 := by simp [plainR, onB, on2, ty2, pop2_none h1]
    rw [hp]
    exact ⟨fun _ => rfl, fun r gl hr ht _ => by rw [ht0] at ht; obtain ⟨u, v, rfl⟩ := two_of ht; rw [hr] at h1; simp at h1; omega⟩
  · have hs := stuckI_of (pg := pg) (pr := pr) (vars := vars) (r := r0) (gl := [u, v]) (tn := 2) ht0 rfl
    rw [hs]
    have hu : vOK u = true := hA u (by simp)
    have hv : vOK v = true := hA v (by simp)
    have hfin : ∀ (r gl : List V), r0 ++ [u, v] = r ++ gl → takenR pg pr vars 23 0 = (gl.length : Int) → r = r0 ∧ gl = [u, v] := fun r gl hr ht => by
      rw [ht0] at ht
      obtain ⟨u', v', rfl⟩ := two_of ht
      obtain ⟨rfl, rfl, rfl⟩ := snoc2_inj hr
      exact ⟨rfl, rfl⟩
    have hlen : r0.length ≤ 126 := by simp at hl; omega
    by_cases h2 : u.t = 1 ∧ v.t = 1
    · have hp : plainR pr.result (r0 ++ [u, v]) 23 outn = recR 23 r0 u v := by simp [plainR, on2, ty2, pop2_snoc, h2]
      rw [hp]
      unfold recR reckonS
      refine ⟨fun h => ?_, fun r gl h3 h4 _ => ?_⟩
      · simp [fitsR, laysR, h2] at h; omega
      · obtain ⟨rfl, rfl⟩ := hfin r gl h3 h4
        by_cases hz : v.i = 0
        · simp [refD, madeR, hz]
        · by_cases hm : v.i = -1
          · simp [refD, madeR, hz, hm, quoR, restR]
          · simp [refD, madeR, hz, hm, quoR, restR]
    · have hp : plainR pr.result (r0 ++ [u, v]) 23 outn = .halt 6 := by simp [plainR, on2, ty2, pop2_snoc, h2]
      rw [hp]
      exact ⟨fun _ => rfl, fun r gl h3 h4 h => by simp [fitsR] at h; exact absurd h.1 h2⟩
include hl hA in
theorem step_20 : StepEq pg pr l k vars depth outn 0 20 := by
  have ht0 : takenR pg pr vars 20 0 = ((2 : Nat) : Int) := rfl
  rw [StepEq, doI_plain _ _ _ _ _ _ _ (by decide)]
  unfold plainD
  rcases @two_or l with h1 | ⟨r0, u, v, rfl⟩
  · have hp : plainR pr.result l 20 outn = .halt 6 := by simp [plainR, onB, on2, ty2, pop2_none h1]
    rw [hp]
    exact ⟨fun _ => rfl, fun r gl hr ht _ => by rw [ht0] at ht; obtain ⟨u, v, rfl⟩ := two_of ht; rw [hr] at h1; simp at h1; omega⟩
  · have hs := stuckI_of (pg := pg) (pr := pr) (vars := vars) (r := r0) (gl := [u, v]) (tn := 2) ht0 rfl
    rw [hs]
    have hu : vOK u = true := hA u (by simp)
    have hv : vOK v = true := hA v (by simp)
    have hfin : ∀ (r gl : List V), r0 ++ [u, v] = r ++ gl → takenR pg pr vars 20 0 = (gl.length : Int) → r = r0 ∧ gl = [u, v] := fun r gl hr ht => by
      rw [ht0] at ht
      obtain ⟨u', v', rfl⟩ := two_of ht
      obtain ⟨rfl, rfl, rfl⟩ := snoc2_inj hr
      exact ⟨rfl, rfl⟩
    have hlen : r0.length ≤ 126 := by simp at hl; omega
    by_cases h2 : u.t = 3 ∧ v.t = 3
    · have hp : plainR pr.result (r0 ++ [u, v]) 20 outn = if 4096 < u.s.size + v.s.size then .halt 3 else .set (r0 ++ [textV (u.s ++ v.s)]) := by simp [plainR, on2, ty2, pop2_snoc, h2]
      rw [hp]
      refine ⟨fun h => ?_, fun r gl h3 h4 _ => ?_⟩
      · simp [fitsR, laysR, h2] at h; omega
      · obtain ⟨rfl, rfl⟩ := hfin r gl h3 h4
        by_cases hz : 4096 < u.s.size + v.s.size
        · have hz2 : 4096 < (u.s.size : Int) + v.s.size := by omega
          simp [refD, madeR, hz, hz2]
        · have hz2 : ¬ 4096 < (u.s.size : Int) + v.s.size := by omega
          simp [refD, madeR, hz, hz2]
    · have hp : plainR pr.result (r0 ++ [u, v]) 20 outn = .halt 6 := by simp [plainR, on2, ty2, pop2_snoc, h2]
      rw [hp]
      exact ⟨fun _ => rfl, fun r gl h3 h4 h => by simp [fitsR] at h; exact absurd h.1 h2⟩
end
end Go.Proofs.Ytjgohbepageicaa.Gb
namespace Go.Proofs.Ytjgohbepageicaa.Gb
open Go Go.Proofs
set_option linter.unusedVariables false
set_option linter.unusedSimpArgs false

section
variable (pg : Pg) (pr : Pr) (l : List V) (k : Nat) (vars : List V) (depth outn : Nat) (hl : l.length ≤ 128) (hA : AllOK l) (hV : VarsOK vars)
include hl hA hV
theorem step_eq (c n : Int) : StepEq pg pr l k vars depth outn n c := by
  cases hb : numbB c with
  | true =>
    have hc : c = 1 ∨ c = 2 ∨ c = 3 ∨ c = 5 ∨ c = 6 ∨ c = 7 ∨ c = 8 := of_decide_eq_true hb
    rcases hc with rfl | rfl | rfl | rfl | rfl | rfl | rfl
    · exact step_const pg pr l k vars depth outn n hl
    · exact step_load pg pr l k vars depth outn n hl hV
    · exact step_store pg pr l k vars depth outn n hl
    · exact step_jump pg pr l k vars depth outn n hl
    · exact step_unless pg pr l k vars depth outn n hl
    · exact step_call pg pr l k vars depth outn n hl hA
    · have ht : takenR pg pr vars 8 n = -1 := by
        unfold takenR
        split
        · rfl
        · rfl
      have hd : doI pg pr l k vars depth outn 8 n = .halt 6 := by
        unfold doI
        by_cases hn : n = 0
        · simp [hn, plainD, plainR]
        · simp [hn]
      rw [StepEq, hd, ht]
      exact ⟨fun _ => rfl, fun r gl _ h _ => by omega⟩
  | false =>
    by_cases hn : n = 0
    rotate_left
    · exact step_nz pg pr l k vars depth outn n hb hn
    subst hn
    have hnn : ¬ (c = 1 ∨ c = 2 ∨ c = 3 ∨ c = 5 ∨ c = 6 ∨ c = 7 ∨ c = 8) := of_decide_eq_false hb
    simp only [not_or] at hnn
    by_cases h9 : c = 9
    · subst h9; exact step_9 pg pr l k vars depth outn hl
    by_cases h10 : c = 10
    · subst h10; exact step_10 pg pr l k vars depth outn hl hA
    by_cases hone : c = 4 ∨ c = 11 ∨ c = 24 ∨ c = 25 ∨ c = 26
    · rcases hone with rfl | rfl | rfl | rfl | rfl
      · exact step_4 pg pr l k vars depth outn hl hA
      · exact step_11 pg pr l k vars depth outn hl hA
      · exact step_24 pg pr l k vars depth outn hl hA
      · exact step_25 pg pr l k vars depth outn hl hA
      · exact step_26 pg pr l k vars depth outn hl hA
    by_cases htwo : 12 ≤ c ∧ c ≤ 23
    · have h2 : c = 12 ∨ c = 13 ∨ c = 14 ∨ c = 15 ∨ c = 16 ∨ c = 17 ∨ c = 18 ∨ c = 19 ∨ c = 20 ∨ c = 21 ∨ c = 22 ∨ c = 23 := by omega
      rcases h2 with rfl | rfl | rfl | rfl | rfl | rfl | rfl | rfl | rfl | rfl | rfl | rfl
      · exact step_12 pg pr l k vars depth outn hl hA
      · exact step_13 pg pr l k vars depth outn hl hA
      · exact step_14 pg pr l k vars depth outn hl hA
      · exact step_15 pg pr l k vars depth outn hl hA
      · exact step_16 pg pr l k vars depth outn hl hA
      · exact step_17 pg pr l k vars depth outn hl hA
      · exact step_18 pg pr l k vars depth outn hl hA
      · exact step_19 pg pr l k vars depth outn hl hA
      · exact step_20 pg pr l k vars depth outn hl hA
      · exact step_21 pg pr l k vars depth outn hl hA
      · exact step_22 pg pr l k vars depth outn hl hA
      · exact step_23 pg pr l k vars depth outn hl hA
    have ht : takenR pg pr vars c 0 = -1 := by rw [taken_plain hb]; simp [takenC, hnn, hone, h9, h10, htwo]
    simp only [not_or] at hone
    have hp : plainR pr.result l c outn = .halt 6 := by
      have q : c ≠ 12 ∧ c ≠ 13 ∧ c ≠ 14 ∧ c ≠ 15 ∧ c ≠ 16 ∧ c ≠ 17 ∧ c ≠ 18 ∧ c ≠ 19 ∧ c ≠ 20 ∧ c ≠ 21 ∧ c ≠ 22 ∧ c ≠ 23 := by omega
      simp [plainR, hone, h9, h10, q]
    rw [StepEq, doI_plain _ _ _ _ _ _ _ hb, ht, plainD, hp]
    exact ⟨fun _ => rfl, fun r gl _ h _ => by omega⟩

theorem doR_stuck (h : stuckR pg pr l vars k = true) : doR pg pr l k vars depth outn = .halt 6 := by
  unfold stuckR at h
  split at h
  · rename_i hk; unfold doR; rw [hk]
  · rename_i c n hk
    rw [doR_doI hk]
    exact (step_eq pg pr l k vars depth outn hl hA hV c n).1 h
theorem doR_free (h : stuckR pg pr l vars k = false) : ∃ c n, pr.code[k]? = some (c, n) ∧ stuckI pg pr l vars c n = false ∧ ∃ r gl, l = r ++ gl ∧ takenR pg pr vars c n = (gl.length : Int) ∧ l.length - gl.length = r.length ∧ fitsR pg pr.result c n gl = true ∧ r.length + laysR pg c n ≤ 128 ∧ doR pg pr l k vars depth outn = refD pg r gl k vars depth outn c n := by
  unfold stuckR at h
  split at h
  · cases h
  · rename_i c n hk
    obtain ⟨tn, r, gl, h1, h2, h3, h4, h5, h6⟩ := stuckI_no h
    subst h3
    exact ⟨c, n, hk, h, r, gl, h2, h1, h4, h5, h6, by rw [doR_doI hk]; exact (step_eq pg pr l k vars depth outn hl hA hV c n).2 r gl h2 h1 h⟩
end
end Go.Proofs.Ytjgohbepageicaa.Gb
namespace Go.Proofs.Ytjgohbepageicaa.Gb
open Go Go.Proofs
set_option linter.unusedVariables false
set_option linter.unusedSimpArgs false
set_option linter.unusedSectionVars false

/-- the document's machine in memory: its frames stay, what it printed is ours -/
structure RRep (G : Gh) (s : Mc) (FA : Option Addr) (fc : Nat) (OA : Option Addr) (oc : Nat) (x : Own) : Prop where
  fr : Sl Kd.fr G FA s.frames.reverse
  fc : s.frames.length ≤ fc
  out : VVec OA oc s.out x
attribute [local irreducible] Try.prog

section
variable (G : Gh) (pg : Pg) (CA PA QA : Option Addr) (qn cc pc qc : Nat) (hC : Sl Kd.val G CA pg.consts) (hP : Sl Kd.prc G PA pg.procs) (hB : PgB pg)
theorem VVec.of_snoc {A : Option Addr} {cap : Nat} {r : List V} {v : V} {y : Own} (h : Vec 33 4 A (r.length + 1) cap (vflat r ++ vcells v) y) : VVec A cap (r ++ [v]) y := by
  unfold VVec; rw [show (r ++ [v]).length = r.length + 1 by simp, vflat_append]; simpa [vflat] using h
abbrev sV (pg : Pg) (CA PA QA : Option Addr) (qn cc pc qc : Nat) (s : Mc) (FA : Option Addr) (fc : Nat) (OA : Option Addr) (oc : Nat) : Value := rmV CA PA QA pg.consts.length pg.procs.length qn cc pc qc FA s.frames.length fc s.en s.val OA s.out.length oc s.steps
include hC hP hB
set_option maxHeartbeats 8000000 in
theorem rstep_fn (s : Mc) (FA : Option Addr) (fc : Nat) (OA : Option Addr) (oc : Nat) (x : Own) (hR : RRep G s FA fc OA oc x) (hI : Inv pg s) (hL : Live s) (he : s.ended = false) (hst : s.steps ≤ 100000000000000) :
    Fn Try.prog 49 #[sV pg CA PA QA qn cc pc qc s FA fc OA oc] G [x]
      fun e G' H' => ∃ FA' fc' OA' oc' x', e = .returned (sV pg CA PA QA qn cc pc qc (stepM pg s) FA' fc' OA' oc') ∧ G.le G' ∧ RRep G' (stepM pg s) FA' fc' OA' oc' x' ∧ H' = [x'] := by
  obtain ⟨hF0, hfc, ho⟩ := hR
  obtain ⟨frames, out, steps, en, val, ended⟩ := s
  dsimp only at hF0 hfc ho he hst
  subst he
  cases frames with
  | nil => exact absurd rfl (hL rfl)
  | cons f fs =>
  obtain ⟨pr, hpr, hpk⟩ := hI.procs f (by simp)
  obtain ⟨hs1, hs2, hsA, hsV⟩ := hI.stack f (by simp)
  have hfrl : fs.length + 1 ≤ 64 := hI.frames
  have hout : out.length ≤ 4096 := hI.out.1
  have hpl : pg.procs.length ≤ 10000000000000 := by have := hB.procs; omega
  rw [List.reverse_cons] at hF0
  have hpsl : fs.reverse.length = fs.length := List.length_reverse
  obtain ⟨ps, hps⟩ : ∃ ps, ps = fs.reverse := ⟨_, rfl⟩
  rw [← hps] at hF0 hpsl
  have hfl : (f :: fs).length = ps.length + 1 := by rw [hpsl]; rfl
  have hstk := rstuck_fn G pg CA PA QA qn cc pc qc hC hP FA fc en val OA out.length oc ((steps + 1 : Nat) : Int) ps f hF0 (by omega) pr hpr hpl (by omega)
  have hD1 := doR_stuck pg pr f.stack f.pc f.vars (fs.length + 1) out.length hs1 hsA hsV
  have hD2 := doR_free pg pr f.stack f.pc f.vars (fs.length + 1) out.length hs1 hsA hsV
  have hFl := hF0 ps.length f (by simp)
  obtain ⟨fb, fo, fcs, rfl, ⟨VA, vc, SA, sc, rfl, hsc, hVV, hSS⟩, hfc2⟩ := hFl
  have hil := (List.getElem?_eq_some_iff.1 hpr).1
  have hP0 := hP
  obtain ⟨pb, po, pcs, rfl, ⟨QPA, qpc, ICA, icc, rfl, hPar, hIns⟩, hcs⟩ := hP f.proc pr hpr
  rw [show sV pg CA (some ⟨pb, po, none⟩) QA qn cc pc qc ⟨f :: fs, out, steps, en, val, false⟩ (some ⟨fb, fo, none⟩) fc OA oc = rmV CA (some ⟨pb, po, none⟩) QA pg.consts.length pg.procs.length qn cc pc qc (some ⟨fb, fo, none⟩) (ps.length + 1) fc en val OA out.length oc (steps : Int) by unfold sV; rw [hfl]]
  refine Fn.enter Try.func49 rfl rfl fun w0 => ?_
  refine WC.seq ?_
  refine WC.region ?_
  refine WL.op (by kernel_rfl) (OW.box rfl rfl fun b1 => ?_)
  refine WL.op (by kernel_rfl) (OW.alloc rfl fun b2 => ?_)
  have e0 : IntKind.i64.wrap ((steps : Int) + 1) = ((steps + 1 : Nat) : Int) := by rw [wrap_small (by omega) (by omega)]; omega
  have e1 : IntKind.i64.wrap (((ps.length + 1 : Nat) : Int) - 1) = (ps.length : Int) := by rw [wrap_small (by omega) (by omega)]; omega
  have x1 : (0 : Int) ≤ (ps.length : Int) := by omega
  have x2 : (ps.length : Int) < ((ps.length + 1 : Nat) : Int) := by omega
  refine go ?_
  refine WL.op (by kernel_rfl) (OW.callK rfl (hstk) rfl fun v' G' H' h hg => ?_)
  obtain ⟨he, rfl, rfl⟩ := h
  cases he
  cases hsb : stuckR pg pr f.stack f.vars f.pc with
  | true =>
    have hsm : stepM pg ⟨f :: fs, out, steps, en, val, false⟩ = ⟨f :: fs, out, steps + 1, 6, val, true⟩ := by
      unfold stepM; simp only [hpr, hD1 hsb]
    rw [hsm]
    refine go ?_
    refine WL.op (by kernel_rfl) (OW.callK rfl (rended_fn G CA (some ⟨pb, po, none⟩) QA pg.consts.length pg.procs.length qn cc pc qc (some ⟨fb, fo, none⟩) (ps.length + 1) fc en val OA out.length oc ((steps + 1 : Nat) : Int) 6) rfl fun v' G' H' h hg => ?_)
    obtain ⟨he, rfl, rfl⟩ := h
    cases he
    refine go ?_
    refine WC.ret ?_
    refine WK.un ?_
    exact QF.p1 (.inl rfl) rfl (.cell rfl inferInstance inferInstance (by (repeat first | exact .here | apply At.there)) rfl rfl) (⟨some ⟨fb, fo, none⟩, fc, OA, oc, x, by unfold sV; rw [hfl]; rfl, Gh.le_refl _, ⟨by rw [List.reverse_cons, ← hps]; exact hF0, by rw [hfl]; rw [hfl] at hfc; exact hfc, ho⟩, rfl⟩)
  | false =>
  obtain ⟨c, n, hcn, hsi, r, gl, hrg, htk0, hrl, hfit, hlay, hD⟩ := hD2 hsb
  have hkl := (List.getElem?_eq_some_iff.1 hcn).1
  obtain ⟨ib, io, ics, rfl, hics, hic⟩ := hIns f.pc (c, n) hcn
  obtain rfl : ics = [.int .i64 c, .int .i64 n] := hics
  refine go ?_
  refine WL.op (by kernel_rfl) (OW.alloc rfl fun b4 => ?_)
  refine go ?_
  refine WQ.start mixed ?_
  refine goQ ?_
  refine WQ.one (by kernel_rfl) (by kernel_rfl) (OW.alloc rfl fun b5 => ?_)
  refine WQ.one (by kernel_rfl) (by kernel_rfl) (OW.store rfl rfl (by (repeat first | exact .here | apply At.there)) rfl (by rfl) (by rfl) (by kernel_rfl) (by rfl) ?_ rfl)
  refine WQ.done (by kernel_rfl) ?_
  refine go ?_
  have htk := rtaken_fn G pg CA (some ⟨pb, po, none⟩) QA qn cc pc qc hC hP0 (some ⟨fb, fo, none⟩) (ps.length + 1) fc en val OA out.length oc ((steps + 1 : Nat) : Int) f pr hpr VA SA vc sc hVV c n hpl
  rw [htk0] at htk
  refine WL.op (by kernel_rfl) (OW.callK rfl (htk) rfl fun v' G' H' h hg => ?_)
  obtain ⟨he, rfl, rfl⟩ := h
  cases he
  have hgle : gl.length ≤ f.stack.length := by rw [hrg, List.length_append]; omega
  have e5 : IntKind.i64.wrap ((f.stack.length : Int) - (gl.length : Int)) = (r.length : Int) := by rw [wrap_small (by omega) (by omega)]; omega
  have e6 : IntKind.i64.wrap ((f.pc : Int) + 1) = ((f.pc + 1 : Nat) : Int) := by have := hB.codeB pr (List.mem_of_getElem? hpr); rw [wrap_small (by omega) (by omega)]; omega
  have x3 : (0 : Int) ≤ (r.length : Int) := by omega
  have x4 : (r.length : Int) ≤ (f.stack.length : Int) := by omega
  have x5 : (r.length : Int) ≤ (sc : Int) := by omega
  refine go ?_
  refine WL.p (Gp.sliceFrom rfl rfl x3 x4) (by kernel_rfl) rfl ?_
  have hd1 : f.stack.drop (((r.length : Nat) : Int).toNat) = gl := by rw [Int.toNat_natCast, hrg, List.drop_left]
  have hSg := Sl.from' (lo := ((r.length : Nat) : Int).toNat) hSS hsc
  rw [hd1] at hSg
  have hl1 : f.stack.length - ((r.length : Nat) : Int).toNat = gl.length := by rw [Int.toNat_natCast]; omega
  rw [hl1]
  refine WL.op (by kernel_rfl) (OW.callK rfl (values_fn G [] _ (sc - ((r.length : Nat) : Int).toNat) gl (Sl.vals hSg) (by omega)) rfl fun v' G' H' h hg => ?_)
  obtain ⟨A1, cap1, y1, he, rfl, hy1, rfl⟩ := h
  cases he
  refine WL.frozenVec hy1 (by (repeat first | exact .here | apply At.there)) fun G2 h2 z2 => ?_
  have hGl : Sl Kd.val G2 A1 gl := VVec.sl z2
  refine go ?_
  refine WL.p (Gp.sliceTo rfl rfl x3 x5) (by kernel_rfl) rfl ?_
  have hd2 : f.stack.take r.length = r := by rw [hrg, List.take_left]
  have hSr := Sl.take hSS r.length
  rw [hd2] at hSr
  rw [show ((r.length : Nat) : Int).toNat = r.length from Int.toNat_natCast _]
  refine WL.op (by kernel_rfl) (OW.callK rfl (values_fn G2 [] SA sc r (Sl.vals (hSr.mono h2)) (by omega)) rfl fun v' G' H' h hg => ?_)
  obtain ⟨A2, cap2, y2, he, rfl, hy2, rfl⟩ := h
  cases he
  refine go ?_
  have hfl2 : ∀ g : Fr, (g :: fs).length = ps.length + 1 := fun g => by rw [hpsl]; rfl
  by_cases hn : n < 0
  · unfold takenR at htk0; rw [if_pos (.inr hn)] at htk0; omega
  obtain ⟨m, rfl⟩ : ∃ m : Nat, n = m := ⟨n.toNat, by omega⟩
  by_cases c1 : c = 1
  · subst c1
    rw [taken_num (by decide)] at htk0
    unfold takenC at htk0
    rw [if_pos rfl, Int.toNat_natCast] at htk0
    cases hq : pg.consts[m]? with
    | none => rw [hq] at htk0; simp at htk0
    | some v =>
    have hDv : doR pg pr f.stack f.pc f.vars (fs.length + 1) out.length = .go (r ++ [v]) (f.pc + 1) f.vars := by rw [hD]; simp [refD, hq]
    have hsm : stepM pg ⟨f :: fs, out, steps, en, val, false⟩ = ⟨⟨f.proc, f.pc + 1, r ++ [v], f.vars⟩ :: fs, out, steps + 1, en, val, false⟩ := by unfold stepM; simp only [hpr, hDv]
    rw [hsm]
    obtain ⟨qb, qo, qs, rfl, hqs, hqc⟩ := (hC.mono h2) m v hq
    obtain rfl : qs = vcells v := hqs
    have i1 : (m : Int) < (pg.consts.length : Int) := by have := (List.getElem?_eq_some_iff.1 hq).1; omega
    have i0 : (0 : Int) ≤ (m : Int) := by omega
    refine go ?_
    refine WQ.start mixed ?_
    refine goQ ?_
    refine WQ.one (by kernel_rfl) (by kernel_rfl) (OW.buildSlice rfl (by kernel_rfl) (by kernel_rfl) (by rfl) rfl fun b6 => ?_)
    refine WQ.one (by kernel_rfl) (by kernel_rfl) (OW.append rfl rfl (by kernel_rfl) (by kernel_rfl) hy2 (by (repeat first | exact .here | apply At.there)) (Rds.blk0 (cs := vcells v) .here rfl) rfl rfl (by omega) (by omega) rfl fun A3 cap3 y3 hy3 => ?_)
    refine goQ ?_
    refine WQ.one (by kernel_rfl) (by kernel_rfl) (OW.store rfl rfl (by (repeat first | exact .here | apply At.there)) rfl (by rfl) (by rfl) (by kernel_rfl) (by rfl) ?_ rfl)
    refine WQ.done (by kernel_rfl) ?_
    have hy4 := VVec.of_snoc hy3
    refine go ?_
    refine WL.frozenVec hy4 (by (repeat first | exact .here | apply At.there)) fun G3 h3 z3 => ?_
    have hS3 : Sl Kd.val G3 A3 (r ++ [v]) := VVec.sl z3
    have hw := rwith_fn G3 (some ⟨qb, qo, none⟩) (some ⟨pb, po, none⟩) QA pg.consts.length pg.procs.length qn cc pc qc (some ⟨fb, fo, none⟩) fc en val OA out.length oc ((steps + 1 : Nat) : Int) ps f ⟨f.proc, f.pc + 1, r ++ [v], f.vars⟩ (hF0.mono (Gh.le_trans h2 h3)) (by rw [← hfl]; exact hfc) (by omega) VA A3 vc cap3 (hy4).le (hVV.mono (Gh.le_trans h2 h3)) hS3
    dsimp only at hw
    rw [show (r ++ [v]).length = r.length + 1 by simp] at hw
    refine WL.op (by kernel_rfl) (OW.callK rfl (hw) rfl fun v' G' H' h hg => ?_)
    obtain ⟨FA', fc', cs4, x4', he, rfl, hx4, hfv4, rfl⟩ := h
    cases he
    refine go ?_
    refine WC.ret ?_
    refine WK.un ?_
    refine WK.frozenVec hx4 (by (repeat first | exact .here | apply At.there)) fun G4 h4 z4 => ?_
    exact QF.p1 (.inl rfl) rfl (.cell rfl inferInstance inferInstance (by (repeat first | exact .here | apply At.there)) rfl rfl) ⟨FA', fc', OA, oc, x, by unfold sV; rw [hfl2]; rfl, (Gh.le_trans h2 (Gh.le_trans h3 h4)), ⟨by rw [List.reverse_cons, ← hps]; exact FV.sl (hfv4.mono h4) z4, by rw [hfl2]; exact hx4.le, ho⟩, rfl⟩
  by_cases c2 : c = 2
  · subst c2
    rw [taken_num (by decide)] at htk0
    unfold takenC at htk0
    simp only [show ¬ (2 : Int) = 1 by decide, if_true, if_false, Int.toNat_natCast] at htk0
    cases hq : f.vars[m]? with
    | none => rw [hq] at htk0; simp at htk0
    | some v =>
    have hDv : doR pg pr f.stack f.pc f.vars (fs.length + 1) out.length = .go (r ++ [v]) (f.pc + 1) f.vars := by rw [hD]; simp [refD, hq]
    have hsm : stepM pg ⟨f :: fs, out, steps, en, val, false⟩ = ⟨⟨f.proc, f.pc + 1, r ++ [v], f.vars⟩ :: fs, out, steps + 1, en, val, false⟩ := by unfold stepM; simp only [hpr, hDv]
    rw [hsm]
    have hVV2 := hVV.mono h2
    obtain ⟨qb, qo, qs, rfl, hqs, hqc⟩ := hVV2 m v hq
    obtain rfl : qs = vcells v := hqs
    have i1 : (m : Int) < (f.vars.length : Int) := by have := (List.getElem?_eq_some_iff.1 hq).1; omega
    have i0 : (0 : Int) ≤ (m : Int) := by omega
    refine go ?_
    refine WQ.start mixed ?_
    refine goQ ?_
    refine WQ.one (by kernel_rfl) (by kernel_rfl) (OW.buildSlice rfl (by kernel_rfl) (by kernel_rfl) (by rfl) rfl fun b6 => ?_)
    refine WQ.one (by kernel_rfl) (by kernel_rfl) (OW.append rfl rfl (by kernel_rfl) (by kernel_rfl) hy2 (by (repeat first | exact .here | apply At.there)) (Rds.blk0 (cs := vcells v) .here rfl) rfl rfl (by omega) (by omega) rfl fun A3 cap3 y3 hy3 => ?_)
    refine goQ ?_
    refine WQ.one (by kernel_rfl) (by kernel_rfl) (OW.store rfl rfl (by (repeat first | exact .here | apply At.there)) rfl (by rfl) (by rfl) (by kernel_rfl) (by rfl) ?_ rfl)
    refine WQ.done (by kernel_rfl) ?_
    have hy4 := VVec.of_snoc hy3
    refine go ?_
    refine WL.frozenVec hy4 (by (repeat first | exact .here | apply At.there)) fun G3 h3 z3 => ?_
    have hS3 : Sl Kd.val G3 A3 (r ++ [v]) := VVec.sl z3
    have hw := rwith_fn G3 CA (some ⟨pb, po, none⟩) QA pg.consts.length pg.procs.length qn cc pc qc (some ⟨fb, fo, none⟩) fc en val OA out.length oc ((steps + 1 : Nat) : Int) ps f ⟨f.proc, f.pc + 1, r ++ [v], f.vars⟩ (hF0.mono (Gh.le_trans h2 h3)) (by rw [← hfl]; exact hfc) (by omega) (some ⟨qb, qo, none⟩) A3 vc cap3 (hy4).le (hVV.mono (Gh.le_trans h2 h3)) hS3
    dsimp only at hw
    rw [show (r ++ [v]).length = r.length + 1 by simp] at hw
    refine WL.op (by kernel_rfl) (OW.callK rfl (hw) rfl fun v' G' H' h hg => ?_)
    obtain ⟨FA', fc', cs4, x4', he, rfl, hx4, hfv4, rfl⟩ := h
    cases he
    refine go ?_
    refine WC.ret ?_
    refine WK.un ?_
    refine WK.frozenVec hx4 (by (repeat first | exact .here | apply At.there)) fun G4 h4 z4 => ?_
    exact QF.p1 (.inl rfl) rfl (.cell rfl inferInstance inferInstance (by (repeat first | exact .here | apply At.there)) rfl rfl) ⟨FA', fc', OA, oc, x, by unfold sV; rw [hfl2]; rfl, (Gh.le_trans h2 (Gh.le_trans h3 h4)), ⟨by rw [List.reverse_cons, ← hps]; exact FV.sl (hfv4.mono h4) z4, by rw [hfl2]; exact hx4.le, ho⟩, rfl⟩
  by_cases c5 : c = 5
  · subst c5
    rw [taken_num (by decide)] at htk0
    unfold takenC at htk0
    simp only [show ¬ (5 : Int) = 1 by decide, show ¬ (5 : Int) = 2 by decide, show ¬ (5 : Int) = 3 by decide, if_true, if_false, Int.toNat_natCast] at htk0
    have hm : m < pr.code.length := Classical.byContradiction fun h => by rw [if_neg h] at htk0; omega
    have hDv : doR pg pr f.stack f.pc f.vars (fs.length + 1) out.length = .go r m f.vars := by rw [hD]; simp [refD]
    have hsm : stepM pg ⟨f :: fs, out, steps, en, val, false⟩ = ⟨⟨f.proc, m, r, f.vars⟩ :: fs, out, steps + 1, en, val, false⟩ := by unfold stepM; simp only [hpr, hDv]
    rw [hsm]
    refine go ?_
    refine WL.frozenVec hy2 (by (repeat first | exact .here | apply At.there)) fun G3 h3 z3 => ?_
    have hS3 : Sl Kd.val G3 A2 r := VVec.sl z3
    have hw := rwith_fn G3 CA (some ⟨pb, po, none⟩) QA pg.consts.length pg.procs.length qn cc pc qc (some ⟨fb, fo, none⟩) fc en val OA out.length oc ((steps + 1 : Nat) : Int) ps f ⟨f.proc, m, r, f.vars⟩ (hF0.mono (Gh.le_trans h2 h3)) (by rw [← hfl]; exact hfc) (by omega) VA A2 vc cap2 (hy2).le (hVV.mono (Gh.le_trans h2 h3)) hS3
    dsimp only at hw
    refine WL.op (by kernel_rfl) (OW.callK rfl (hw) rfl fun v' G' H' h hg => ?_)
    obtain ⟨FA', fc', cs4, x4', he, rfl, hx4, hfv4, rfl⟩ := h
    cases he
    refine go ?_
    refine WC.ret ?_
    refine WK.un ?_
    refine WK.frozenVec hx4 (by (repeat first | exact .here | apply At.there)) fun G4 h4 z4 => ?_
    exact QF.p1 (.inl rfl) rfl (.cell rfl inferInstance inferInstance (by (repeat first | exact .here | apply At.there)) rfl rfl) ⟨FA', fc', OA, oc, x, by unfold sV; rw [hfl2]; rfl, (Gh.le_trans h2 (Gh.le_trans h3 h4)), ⟨by rw [List.reverse_cons, ← hps]; exact FV.sl (hfv4.mono h4) z4, by rw [hfl2]; exact hx4.le, ho⟩, rfl⟩
  by_cases c6 : c = 6
  · subst c6
    rw [taken_num (by decide)] at htk0
    unfold takenC at htk0
    simp only [show ¬ (6 : Int) = 1 by decide, show ¬ (6 : Int) = 2 by decide, show ¬ (6 : Int) = 3 by decide, show ¬ (6 : Int) = 5 by decide, if_true, if_false, Int.toNat_natCast] at htk0
    have hm : m < pr.code.length := Classical.byContradiction fun h => by rw [if_neg h] at htk0; omega
    rw [if_pos hm] at htk0
    obtain ⟨u, rfl⟩ := one_of htk0
    have hDv : doR pg pr f.stack f.pc f.vars (fs.length + 1) out.length = .go r (if u.b then f.pc + 1 else m) f.vars := by rw [hD]; simp [refD]
    have hsm : stepM pg ⟨f :: fs, out, steps, en, val, false⟩ = ⟨⟨f.proc, (if u.b then f.pc + 1 else m), r, f.vars⟩ :: fs, out, steps + 1, en, val, false⟩ := by unfold stepM; simp only [hpr, hDv]
    rw [hsm]
    obtain ⟨qb, qo, qs, rfl, hqs, hqc⟩ := hGl 0 u rfl
    obtain rfl : qs = vcells u := hqs
    have i1 : (0 : Int) < (([u] : List V).length : Int) := by simp
    obtain ⟨ut, ui, ub, us⟩ := u
    cases ub with
    | false =>
    rw [if_neg (by simp)]
    refine go ?_
    refine WL.frozenVec hy2 (by (repeat first | exact .here | apply At.there)) fun G3 h3 z3 => ?_
    have hS3 : Sl Kd.val G3 A2 r := VVec.sl z3
    have hw := rwith_fn G3 CA (some ⟨pb, po, none⟩) QA pg.consts.length pg.procs.length qn cc pc qc (some ⟨fb, fo, none⟩) fc en val OA out.length oc ((steps + 1 : Nat) : Int) ps f ⟨f.proc, m, r, f.vars⟩ (hF0.mono (Gh.le_trans h2 h3)) (by rw [← hfl]; exact hfc) (by omega) VA A2 vc cap2 (hy2).le (hVV.mono (Gh.le_trans h2 h3)) hS3
    dsimp only at hw
    refine WL.op (by kernel_rfl) (OW.callK rfl (hw) rfl fun v' G' H' h hg => ?_)
    obtain ⟨FA', fc', cs4, x4', he, rfl, hx4, hfv4, rfl⟩ := h
    cases he
    refine go ?_
    refine WC.ret ?_
    refine WK.un ?_
    refine WK.frozenVec hx4 (by (repeat first | exact .here | apply At.there)) fun G4 h4 z4 => ?_
    exact QF.p1 (.inl rfl) rfl (.cell rfl inferInstance inferInstance (by (repeat first | exact .here | apply At.there)) rfl rfl) ⟨FA', fc', OA, oc, x, by unfold sV; rw [hfl2]; rfl, (Gh.le_trans h2 (Gh.le_trans h3 h4)), ⟨by rw [List.reverse_cons, ← hps]; exact FV.sl (hfv4.mono h4) z4, by rw [hfl2]; exact hx4.le, ho⟩, rfl⟩
    | true =>
    rw [if_pos (by rfl)]
    refine go ?_
    refine WL.frozenVec hy2 (by (repeat first | exact .here | apply At.there)) fun G3 h3 z3 => ?_
    have hS3 : Sl Kd.val G3 A2 r := VVec.sl z3
    have hw := rwith_fn G3 CA (some ⟨pb, po, none⟩) QA pg.consts.length pg.procs.length qn cc pc qc (some ⟨fb, fo, none⟩) fc en val OA out.length oc ((steps + 1 : Nat) : Int) ps f ⟨f.proc, f.pc + 1, r, f.vars⟩ (hF0.mono (Gh.le_trans h2 h3)) (by rw [← hfl]; exact hfc) (by omega) VA A2 vc cap2 (hy2).le (hVV.mono (Gh.le_trans h2 h3)) hS3
    dsimp only at hw
    refine WL.op (by kernel_rfl) (OW.callK rfl (hw) rfl fun v' G' H' h hg => ?_)
    obtain ⟨FA', fc', cs4, x4', he, rfl, hx4, hfv4, rfl⟩ := h
    cases he
    refine go ?_
    refine WC.ret ?_
    refine WK.un ?_
    refine WK.frozenVec hx4 (by (repeat first | exact .here | apply At.there)) fun G4 h4 z4 => ?_
    exact QF.p1 (.inl rfl) rfl (.cell rfl inferInstance inferInstance (by (repeat first | exact .here | apply At.there)) rfl rfl) ⟨FA', fc', OA, oc, x, by unfold sV; rw [hfl2]; rfl, (Gh.le_trans h2 (Gh.le_trans h3 h4)), ⟨by rw [List.reverse_cons, ← hps]; exact FV.sl (hfv4.mono h4) z4, by rw [hfl2]; exact hx4.le, ho⟩, rfl⟩
  have hm0 : m = 0 ∨ c = 3 ∨ c = 7 ∨ c = 8 := Classical.byContradiction fun h => by
    simp only [not_or] at h
    unfold takenR at htk0
    rw [if_pos (.inl ⟨decide_eq_false (by omega), by omega⟩)] at htk0
    omega
  by_cases c4 : c = 4
  · subst c4
    have hDv : doR pg pr f.stack f.pc f.vars (fs.length + 1) out.length = .go r (f.pc + 1) f.vars := by rw [hD]; simp [refD]
    have hsm : stepM pg ⟨f :: fs, out, steps, en, val, false⟩ = ⟨⟨f.proc, f.pc + 1, r, f.vars⟩ :: fs, out, steps + 1, en, val, false⟩ := by unfold stepM; simp only [hpr, hDv]
    rw [hsm]
    refine go ?_
    refine WL.frozenVec hy2 (by (repeat first | exact .here | apply At.there)) fun G3 h3 z3 => ?_
    have hS3 : Sl Kd.val G3 A2 r := VVec.sl z3
    have hw := rwith_fn G3 CA (some ⟨pb, po, none⟩) QA pg.consts.length pg.procs.length qn cc pc qc (some ⟨fb, fo, none⟩) fc en val OA out.length oc ((steps + 1 : Nat) : Int) ps f ⟨f.proc, f.pc + 1, r, f.vars⟩ (hF0.mono (Gh.le_trans h2 h3)) (by rw [← hfl]; exact hfc) (by omega) VA A2 vc cap2 (hy2).le (hVV.mono (Gh.le_trans h2 h3)) hS3
    dsimp only at hw
    refine WL.op (by kernel_rfl) (OW.callK rfl (hw) rfl fun v' G' H' h hg => ?_)
    obtain ⟨FA', fc', cs4, x4', he, rfl, hx4, hfv4, rfl⟩ := h
    cases he
    refine go ?_
    refine WC.ret ?_
    refine WK.un ?_
    refine WK.frozenVec hx4 (by (repeat first | exact .here | apply At.there)) fun G4 h4 z4 => ?_
    exact QF.p1 (.inl rfl) rfl (.cell rfl inferInstance inferInstance (by (repeat first | exact .here | apply At.there)) rfl rfl) ⟨FA', fc', OA, oc, x, by unfold sV; rw [hfl2]; rfl, (Gh.le_trans h2 (Gh.le_trans h3 h4)), ⟨by rw [List.reverse_cons, ← hps]; exact FV.sl (hfv4.mono h4) z4, by rw [hfl2]; exact hx4.le, ho⟩, rfl⟩
  by_cases c11 : c = 11
  · subst c11
    obtain ⟨u, rfl⟩ := one_of (gl := gl) (by rw [← htk0]; obtain rfl : m = 0 := by omega
                                             rfl)
    by_cases hou : 4096 ≤ out.length
    · have hDv : doR pg pr f.stack f.pc f.vars (fs.length + 1) out.length = .halt 7 := by rw [hD]; simp [refD, hou]
      have hsm : stepM pg ⟨f :: fs, out, steps, en, val, false⟩ = ⟨f :: fs, out, steps + 1, 7, val, true⟩ := by unfold stepM; simp only [hpr, hDv]
      have e7 : decide ((4096 : Int) ≤ (out.length : Int)) = true := decide_eq_true (by omega)
      rw [hsm]
      refine go ?_
      refine WL.op (by kernel_rfl) (OW.callK rfl (rended_fn G2 CA (some ⟨pb, po, none⟩) QA pg.consts.length pg.procs.length qn cc pc qc (some ⟨fb, fo, none⟩) (ps.length + 1) fc en val OA out.length oc ((steps + 1 : Nat) : Int) 7) rfl fun v' G' H' h hg => ?_)
      obtain ⟨he, rfl, rfl⟩ := h
      cases he
      refine go ?_
      refine WC.ret ?_
      refine WK.un ?_
      exact QF.p1 (.inl rfl) rfl (.cell rfl inferInstance inferInstance (by (repeat first | exact .here | apply At.there)) rfl rfl) (⟨some ⟨fb, fo, none⟩, fc, OA, oc, x, by unfold sV; rw [hfl2]; rfl, h2, ⟨by rw [List.reverse_cons, ← hps]; exact hF0.mono h2, by rw [hfl2, ← hfl]; exact hfc, ho⟩, rfl⟩)
    have e7 : decide ((4096 : Int) ≤ (out.length : Int)) = false := decide_eq_false (by omega)
    have hDv : doR pg pr f.stack f.pc f.vars (fs.length + 1) out.length = .print r u := by rw [hD]; simp [refD, hou]
    have hsm : stepM pg ⟨f :: fs, out, steps, en, val, false⟩ = ⟨⟨f.proc, f.pc + 1, r, f.vars⟩ :: fs, out ++ [u], steps + 1, en, val, false⟩ := by unfold stepM; simp only [hpr, hDv]
    rw [hsm]
    obtain ⟨qb, qo, qs, rfl, hqs, hqc⟩ := hGl 0 u rfl
    obtain rfl : qs = vcells u := hqs
    have i1 : (0 : Int) < (([u] : List V).length : Int) := by simp
    refine go ?_
    refine WQ.start mixed ?_
    refine goQ ?_
    refine WQ.one (by kernel_rfl) (by kernel_rfl) (OW.buildSlice rfl (by kernel_rfl) (by kernel_rfl) (by rfl) rfl fun b6 => ?_)
    refine WQ.one (by kernel_rfl) (by kernel_rfl) (OW.append rfl rfl (by kernel_rfl) (by kernel_rfl) ho (by (repeat first | exact .here | apply At.there)) (Rds.blk0 (cs := vcells u) .here rfl) rfl rfl (by omega) (by omega) rfl fun A5 cap5 y5 hy5 => ?_)
    refine goQ ?_
    refine WQ.one (by kernel_rfl) (by kernel_rfl) (OW.store rfl rfl (by (repeat first | exact .here | apply At.there)) rfl (by rfl) (by rfl) (by kernel_rfl) (by rfl) ?_ rfl)
    refine WQ.done (by kernel_rfl) ?_
    have hy6 := VVec.of_snoc hy5
    have e8 : (out ++ [u]).length = out.length + 1 := by simp
    refine go ?_
    refine WL.frozenVec hy2 (by (repeat first | exact .here | apply At.there)) fun G3 h3 z3 => ?_
    have hS3 : Sl Kd.val G3 A2 r := VVec.sl z3
    have hw := rwith_fn G3 CA (some ⟨pb, po, none⟩) QA pg.consts.length pg.procs.length qn cc pc qc (some ⟨fb, fo, none⟩) fc en val A5 (out.length + 1) cap5 ((steps + 1 : Nat) : Int) ps f ⟨f.proc, f.pc + 1, r, f.vars⟩ (hF0.mono (Gh.le_trans h2 h3)) (by rw [← hfl]; exact hfc) (by omega) VA A2 vc cap2 (hy2).le (hVV.mono (Gh.le_trans h2 h3)) hS3
    dsimp only at hw
    refine WL.op (by kernel_rfl) (OW.callK rfl (hw) rfl fun v' G' H' h hg => ?_)
    obtain ⟨FA', fc', cs4, x4', he, rfl, hx4, hfv4, rfl⟩ := h
    cases he
    refine go ?_
    refine WC.ret ?_
    refine WK.un ?_
    refine WK.frozenVec hx4 (by (repeat first | exact .here | apply At.there)) fun G4 h4 z4 => ?_
    exact QF.p1 (.inl rfl) rfl (.cell rfl inferInstance inferInstance (by (repeat first | exact .here | apply At.there)) rfl rfl) ⟨FA', fc', A5, cap5, y5, by unfold sV; rw [hfl2, e8]; rfl, (Gh.le_trans h2 (Gh.le_trans h3 h4)), ⟨by rw [List.reverse_cons, ← hps]; exact FV.sl (hfv4.mono h4) z4, by rw [hfl2]; exact hx4.le, hy6⟩, rfl⟩
  have hop : 12 ≤ c ∧ c ≤ 26 ∨ c = 3 ∨ c = 7 ∨ c = 9 ∨ c = 10 := Classical.byContradiction fun h => by
    simp only [not_or] at h
    have ht : takenC pg pr f.vars c m = -1 := by
      unfold takenC
      rw [if_neg c1, if_neg c2, if_neg h.2.1, if_neg c5, if_neg c6, if_neg h.2.2.1, if_neg h.2.2.2.1, if_neg h.2.2.2.2, if_neg (by omega), if_neg (by omega)]
    unfold takenR at htk0
    split at htk0 <;> omega
  by_cases hopc : 12 ≤ c ∧ c ≤ 26
  · obtain rfl : m = 0 := by omega
    obtain ⟨u, v, hu, hv, hgn⟩ : ∃ u v, gl[0]? = some u ∧ gl[gl.length - 1]? = some v ∧ gl.length ≤ 2 ∧ gl.headD V0 = u ∧ gl.getLastD V0 = v := by
      by_cases h24 : c = 24 ∨ c = 25 ∨ c = 26
      · have : takenR pg pr f.vars c 0 = ((1 : Nat) : Int) := by rcases h24 with rfl | rfl | rfl <;> rfl
        obtain ⟨u, rfl⟩ := one_of (this.symm.trans htk0)
        exact ⟨u, u, rfl, rfl, by simp, rfl, rfl⟩
      · have h2' : c = 12 ∨ c = 13 ∨ c = 14 ∨ c = 15 ∨ c = 16 ∨ c = 17 ∨ c = 18 ∨ c = 19 ∨ c = 20 ∨ c = 21 ∨ c = 22 ∨ c = 23 := by omega
        have : takenR pg pr f.vars c 0 = ((2 : Nat) : Int) := by rcases h2' with rfl | rfl | rfl | rfl | rfl | rfl | rfl | rfl | rfl | rfl | rfl | rfl <;> rfl
        obtain ⟨u, v, rfl⟩ := two_of (this.symm.trans htk0)
        exact ⟨u, v, rfl, rfl, by simp, rfl, rfl⟩
    obtain ⟨hg2, hhd, hla⟩ := hgn
    have hgA : ∀ w ∈ gl, w.s.size ≤ 4096 := fun w hw => vOK_size (hsA w (by rw [hrg]; exact List.mem_append_right _ hw))
    have hus := hgA u (List.mem_of_getElem? hu)
    have hvs := hgA v (List.mem_of_getElem? hv)
    have hDv : doR pg pr f.stack f.pc f.vars (fs.length + 1) out.length = if (madeR c u v).2 = 0 then .go (r ++ [(madeR c u v).1]) (f.pc + 1) f.vars else .halt (madeR c u v).2 := by
      rw [hD]; unfold refD
      rw [if_neg c1, if_neg c2, if_neg (by omega), if_neg c4, if_neg c5, if_neg c6, if_neg (by omega), if_neg (by omega), if_neg c11, hhd, hla]
    have q1 : (c == 1) = false := beq_eq_false_iff_ne.2 c1
    have q2 : (c == 2) = false := beq_eq_false_iff_ne.2 c2
    have q3 : (c == 3) = false := beq_eq_false_iff_ne.2 (by omega)
    have q4 : (c == 4) = false := beq_eq_false_iff_ne.2 c4
    have q5 : (c == 5) = false := beq_eq_false_iff_ne.2 c5
    have q6 : (c == 6) = false := beq_eq_false_iff_ne.2 c6
    have q7 : (c == 7) = false := beq_eq_false_iff_ne.2 (by omega)
    have q9 : (c == 9) = false := beq_eq_false_iff_ne.2 (by omega)
    have q10 : (c == 10) = false := beq_eq_false_iff_ne.2 (by omega)
    have q11 : (c == 11) = false := beq_eq_false_iff_ne.2 c11
    clear hfit hsi hsb
    rw [q1]
    refine go ?_
    refine WL.op (by kernel_rfl) (OW.callK rfl (rmade_fn G2 c hopc A1 cap1 gl hGl u v hu hv hg2 (by omega) (by omega)) rfl fun v' G' H' h hg => ?_)
    obtain ⟨he, rfl, rfl⟩ := h
    cases he
    refine go ?_
    refine WL.op (by kernel_rfl) (OW.alloc rfl fun b7 => ?_)
    by_cases hend : (madeR c u v).2 = 0
    rotate_left
    · have e7 : ((madeR c u v).2 != 0) = true := by simpa using hend
      have hsm : stepM pg ⟨f :: fs, out, steps, en, val, false⟩ = ⟨f :: fs, out, steps + 1, (madeR c u v).2, val, true⟩ := by unfold stepM; simp only [hpr, hDv, if_neg hend]
      rw [hsm]
      refine go ?_
      refine WL.op (by kernel_rfl) (OW.callK rfl (rended_fn G2 CA (some ⟨pb, po, none⟩) QA pg.consts.length pg.procs.length qn cc pc qc (some ⟨fb, fo, none⟩) (ps.length + 1) fc en val OA out.length oc ((steps + 1 : Nat) : Int) (madeR c u v).2) rfl fun v' G' H' h hg => ?_)
      obtain ⟨he, rfl, rfl⟩ := h
      cases he
      refine go ?_
      refine WC.ret ?_
      refine WK.un ?_
      exact QF.p1 (.inl rfl) rfl (.cell rfl inferInstance inferInstance (by (repeat first | exact .here | apply At.there)) rfl rfl) (⟨some ⟨fb, fo, none⟩, fc, OA, oc, x, by unfold sV; rw [hfl2]; rfl, h2, ⟨by rw [List.reverse_cons, ← hps]; exact hF0.mono h2, by rw [hfl2, ← hfl]; exact hfc, ho⟩, rfl⟩)
    have e7 : ((madeR c u v).2 != 0) = false := by simpa using hend
    have hsm : stepM pg ⟨f :: fs, out, steps, en, val, false⟩ = ⟨⟨f.proc, f.pc + 1, r ++ [(madeR c u v).1], f.vars⟩ :: fs, out, steps + 1, en, val, false⟩ := by unfold stepM; simp only [hpr, hDv, if_pos hend]
    rw [hsm]
    refine go ?_
    refine WL.op (by kernel_rfl) (OW.buildSlice rfl (by kernel_rfl) (by kernel_rfl) (by rfl) rfl fun b6 => ?_)
    refine WL.op (by kernel_rfl) (OW.append rfl rfl (by kernel_rfl) (by kernel_rfl) hy2 (by (repeat first | exact .here | apply At.there)) (Rds.blk0 (cs := vcells (madeR c u v).1) .here rfl) rfl rfl (by omega) (by omega) rfl fun A3 cap3 y3 hy3 => ?_)
    have hy4 := VVec.of_snoc hy3
    refine go ?_
    refine WL.frozenVec hy4 (by (repeat first | exact .here | apply At.there)) fun G3 h3 z3 => ?_
    have hS3 : Sl Kd.val G3 A3 (r ++ [(madeR c u v).1]) := VVec.sl z3
    have hw := rwith_fn G3 CA (some ⟨pb, po, none⟩) QA pg.consts.length pg.procs.length qn cc pc qc (some ⟨fb, fo, none⟩) fc en val OA out.length oc ((steps + 1 : Nat) : Int) ps f ⟨f.proc, f.pc + 1, r ++ [(madeR c u v).1], f.vars⟩ (hF0.mono (Gh.le_trans h2 h3)) (by rw [← hfl]; exact hfc) (by omega) VA A3 vc cap3 (hy4).le (hVV.mono (Gh.le_trans h2 h3)) hS3
    dsimp only at hw
    rw [show (r ++ [(madeR c u v).1]).length = r.length + 1 by simp] at hw
    refine WL.op (by kernel_rfl) (OW.callK rfl (hw) rfl fun v' G' H' h hg => ?_)
    obtain ⟨FA', fc', cs4, x4', he, rfl, hx4, hfv4, rfl⟩ := h
    cases he
    refine go ?_
    refine WC.ret ?_
    refine WK.un ?_
    refine WK.frozenVec hx4 (by (repeat first | exact .here | apply At.there)) fun G4 h4 z4 => ?_
    exact QF.p1 (.inl rfl) rfl (.cell rfl inferInstance inferInstance (by (repeat first | exact .here | apply At.there)) rfl rfl) ⟨FA', fc', OA, oc, x, by unfold sV; rw [hfl2]; rfl, (Gh.le_trans h2 (Gh.le_trans h3 h4)), ⟨by rw [List.reverse_cons, ← hps]; exact FV.sl (hfv4.mono h4) z4, by rw [hfl2]; exact hx4.le, ho⟩, rfl⟩
  by_cases c3 : c = 3
  · subst c3
    rw [taken_num (by decide)] at htk0
    unfold takenC at htk0
    simp only [show ¬ (3 : Int) = 1 by decide, show ¬ (3 : Int) = 2 by decide, if_true, if_false, Int.toNat_natCast] at htk0
    have hm : m < f.vars.length := Classical.byContradiction fun h => by rw [if_neg h] at htk0; omega
    rw [if_pos hm] at htk0
    obtain ⟨u, rfl⟩ := one_of htk0
    have hDv : doR pg pr f.stack f.pc f.vars (fs.length + 1) out.length = .go r (f.pc + 1) (f.vars.set m u) := by rw [hD]; simp [refD]
    have hsm : stepM pg ⟨f :: fs, out, steps, en, val, false⟩ = ⟨⟨f.proc, f.pc + 1, r, f.vars.set m u⟩ :: fs, out, steps + 1, en, val, false⟩ := by unfold stepM; simp only [hpr, hDv]
    rw [hsm]
    obtain ⟨qb, qo, qs, rfl, hqs, hqc⟩ := hGl 0 u rfl
    obtain rfl : qs = vcells u := hqs
    have i1 : (0 : Int) < (([u] : List V).length : Int) := by simp
    have i2 : (m : Int) < (f.vars.length : Int) := by omega
    have i0 : (0 : Int) ≤ (m : Int) := by omega
    refine go ?_
    refine WL.op (by kernel_rfl) (OW.callK rfl (values_fn G2 [] VA vc f.vars (Sl.vals (hVV.mono h2)) (by omega)) rfl fun v' G' H' h hg => ?_)
    obtain ⟨A5, cap5, y5, he, rfl, hy5, rfl⟩ := h
    cases he
    obtain ⟨hlv, ⟨_, w2, _, _⟩ | ⟨yb, yc, rfl, rfl, w1, w2, w3⟩⟩ := id hy5
    · omega
    obtain ⟨_, hfit5, hput⟩ := Vec.put hy5 hm (vcells u) rfl
    rw [show (vflat f.vars).take (m * 4) ++ vcells u ++ (vflat f.vars).drop (m * 4 + (vcells u).length) = vflat (f.vars.set m u) from vflat_set f.vars m u hm] at hput
    have el : (f.vars.set m u).length = f.vars.length := List.length_set
    rw [← el] at hput
    refine go ?_
    refine WQ.start mixed ?_
    refine goQ ?_
    refine WQ.one (by kernel_rfl) (by kernel_rfl) (OW.store (n := 4) (c' := splice yc (m * 4) (vcells u)) rfl rfl (by (repeat first | exact .here | apply At.there)) rfl rfl rfl (by have : (vcells u).length = 4 := rfl; exact Nat.ble_eq_true_of_le (by simp; omega)) (by simp; rfl) ?_ rfl)
    refine WQ.done (by kernel_rfl) ?_
    refine go ?_
    refine WL.frozenVec hput (by (repeat first | exact .here | apply At.there)) fun G5 hx5 z5 => ?_
    have hV5 : Sl Kd.val G5 (some ⟨yb, 0, none⟩) (f.vars.set m u) := VVec.sl z5
    have h2 := Gh.le_trans h2 hx5
    refine WL.frozenVec hy2 (by (repeat first | exact .here | apply At.there)) fun G3 h3 z3 => ?_
    have hS3 : Sl Kd.val G3 A2 r := VVec.sl z3
    have hw := rwith_fn G3 CA (some ⟨pb, po, none⟩) QA pg.consts.length pg.procs.length qn cc pc qc (some ⟨fb, fo, none⟩) fc en val OA out.length oc ((steps + 1 : Nat) : Int) ps f ⟨f.proc, f.pc + 1, r, f.vars.set m u⟩ (hF0.mono (Gh.le_trans h2 h3)) (by rw [← hfl]; exact hfc) (by omega) (some ⟨yb, 0, none⟩) A2 cap5 cap2 (hy2).le (hV5.mono h3) hS3
    dsimp only at hw
    rw [el] at hw
    refine WL.op (by kernel_rfl) (OW.callK rfl (hw) rfl fun v' G' H' h hg => ?_)
    obtain ⟨FA', fc', cs4, x4', he, rfl, hx4, hfv4, rfl⟩ := h
    cases he
    refine go ?_
    refine WC.ret ?_
    refine WK.un ?_
    refine WK.frozenVec hx4 (by (repeat first | exact .here | apply At.there)) fun G4 h4 z4 => ?_
    exact QF.p1 (.inl rfl) rfl (.cell rfl inferInstance inferInstance (by (repeat first | exact .here | apply At.there)) rfl rfl) ⟨FA', fc', OA, oc, x, by unfold sV; rw [hfl2]; rfl, (Gh.le_trans h2 (Gh.le_trans h3 h4)), ⟨by rw [List.reverse_cons, ← hps]; exact FV.sl (hfv4.mono h4) z4, by rw [hfl2]; exact hx4.le, ho⟩, rfl⟩
  by_cases c9 : c = 9 ∨ c = 10
  · have hgl1 : gl.length ≤ 1 := by
      have ht : takenR pg pr f.vars c m = -1 ∨ takenR pg pr f.vars c m = 0 ∨ takenR pg pr f.vars c m = 1 := by
        obtain rfl : m = 0 := by omega
        rcases c9 with rfl | rfl
        · show takenR pg pr f.vars 9 0 = -1 ∨ takenR pg pr f.vars 9 0 = 0 ∨ takenR pg pr f.vars 9 0 = 1
          rw [taken_plain (by decide)]; by_cases hz : pr.result = 0 <;> simp [takenC, hz]
        · show takenR pg pr f.vars 10 0 = -1 ∨ takenR pg pr f.vars 10 0 = 0 ∨ takenR pg pr f.vars 10 0 = 1
          rw [taken_plain (by decide)]; by_cases hz : pr.result = 0 <;> simp [takenC, hz]
      omega
    have hDv : doR pg pr f.stack f.pc f.vars (fs.length + 1) out.length = .leave r gl := by rw [hD]; rcases c9 with rfl | rfl <;> simp [refD]
    cases fs with
    | nil =>
      obtain rfl : ps = [] := by rw [hps]; rfl
      have hsm : stepM pg ⟨[f], out, steps, en, val, false⟩ = ⟨[], out, steps + 1, 1, lastV val gl, true⟩ := by unfold stepM; simp only [hpr, hDv]
      rw [hsm]
      have hlf := rleft_nil G2 CA (some ⟨pb, po, none⟩) QA pg.consts.length pg.procs.length qn cc pc qc (some ⟨fb, fo, none⟩) fc en val OA out.length oc ((steps + 1 : Nat) : Int) f (hF0.mono h2) (by simpa using hfc) [] A1 cap1 gl (Sl.vals hGl) hgl1
      rcases c9 with rfl | rfl
      · refine go ?_
        refine WL.op (by kernel_rfl) (OW.callK rfl (hlf) rfl fun v' G' H' h hg => ?_)
        obtain ⟨FA', fc', he, rfl, rfl⟩ := h
        cases he
        refine go ?_
        refine WC.ret ?_
        refine WK.un ?_
        exact QF.p1 (.inl rfl) rfl (.cell rfl inferInstance inferInstance (by (repeat first | exact .here | apply At.there)) rfl rfl) (⟨FA', fc', OA, oc, x, rfl, h2, ⟨Sl.nil _ _ _, Nat.zero_le _, ho⟩, rfl⟩)
      · refine go ?_
        refine WL.op (by kernel_rfl) (OW.callK rfl (hlf) rfl fun v' G' H' h hg => ?_)
        obtain ⟨FA', fc', he, rfl, rfl⟩ := h
        cases he
        refine go ?_
        refine WC.ret ?_
        refine WK.un ?_
        exact QF.p1 (.inl rfl) rfl (.cell rfl inferInstance inferInstance (by (repeat first | exact .here | apply At.there)) rfl rfl) (⟨FA', fc', OA, oc, x, rfl, h2, ⟨Sl.nil _ _ _, Nat.zero_le _, ho⟩, rfl⟩)
    | cons f0 fs' =>
      obtain ⟨ps', hps'⟩ : ∃ ps', ps' = fs'.reverse := ⟨_, rfl⟩
      have hpe : ps = ps' ++ [f0] := by rw [hps, List.reverse_cons, hps']
      have hpl' : ps'.length = fs'.length := by rw [hps', List.length_reverse]
      have hpl2 : ps.length + 1 = ps'.length + 2 := by rw [hpe]; simp
      have hsm : stepM pg ⟨f :: f0 :: fs', out, steps, en, val, false⟩ = ⟨⟨f0.proc, f0.pc, f0.stack ++ gl, f0.vars⟩ :: fs', out, steps + 1, en, val, false⟩ := by unfold stepM; simp only [hpr, hDv]
      rw [hsm]
      have hfl3 : ∀ g : Fr, (g :: fs').length = ps'.length + 1 := fun g => by rw [hpl']; rfl
      have hst0 := (hI.stack f0 (by simp)).1
      have hlf := rleft_snoc G2 CA (some ⟨pb, po, none⟩) QA pg.consts.length pg.procs.length qn cc pc qc (some ⟨fb, fo, none⟩) fc en val OA out.length oc ((steps + 1 : Nat) : Int) ps' f0 f (by rw [← hpe]; exact hF0.mono h2) (by rw [← hpl2, ← hfl]; exact hfc) (by omega) (by omega) [] A1 cap1 gl (Sl.vals hGl) hgl1
      rw [← hpl2] at hlf
      rcases c9 with rfl | rfl
      · refine go ?_
        refine WL.op (by kernel_rfl) (OW.callK rfl (hlf) rfl fun v' G' H' h hg => ?_)
        obtain ⟨FA', fc', cs4, x4', he, hg4, hx4, hfv4, rfl⟩ := h
        cases he
        refine go ?_
        refine WC.ret ?_
        refine WK.un ?_
        refine WK.frozenVec hx4 (by (repeat first | exact .here | apply At.there)) fun G4 h4 z4 => ?_
        exact QF.p1 (.inl rfl) rfl (.cell rfl inferInstance inferInstance (by (repeat first | exact .here | apply At.there)) rfl rfl) ⟨FA', fc', OA, oc, x, by unfold sV; rw [hfl3]; rfl, Gh.le_trans h2 (Gh.le_trans hg4 h4), ⟨by rw [List.reverse_cons, ← hps']; exact FV.sl (hfv4.mono h4) z4, by rw [hfl3]; exact hx4.le, ho⟩, rfl⟩
      · refine go ?_
        refine WL.op (by kernel_rfl) (OW.callK rfl (hlf) rfl fun v' G' H' h hg => ?_)
        obtain ⟨FA', fc', cs4, x4', he, hg4, hx4, hfv4, rfl⟩ := h
        cases he
        refine go ?_
        refine WC.ret ?_
        refine WK.un ?_
        refine WK.frozenVec hx4 (by (repeat first | exact .here | apply At.there)) fun G4 h4 z4 => ?_
        exact QF.p1 (.inl rfl) rfl (.cell rfl inferInstance inferInstance (by (repeat first | exact .here | apply At.there)) rfl rfl) ⟨FA', fc', OA, oc, x, by unfold sV; rw [hfl3]; rfl, Gh.le_trans h2 (Gh.le_trans hg4 h4), ⟨by rw [List.reverse_cons, ← hps']; exact FV.sl (hfv4.mono h4) z4, by rw [hfl3]; exact hx4.le, ho⟩, rfl⟩
  obtain rfl : c = 7 := by rcases hop with h | h | h | h | h <;> omega
  rw [taken_num (by decide)] at htk0
  unfold takenC at htk0
  simp only [show ¬ (7 : Int) = 1 by decide, show ¬ (7 : Int) = 2 by decide, show ¬ (7 : Int) = 3 by decide, show ¬ (7 : Int) = 5 by decide, show ¬ (7 : Int) = 6 by decide, if_true, if_false, Int.toNat_natCast] at htk0
  cases hq : pg.procs[m]? with
  | none => rw [hq] at htk0; simp at htk0
  | some q =>
    rw [hq] at htk0
    dsimp only at htk0
    have hsz : sizedP q = true := Classical.byContradiction fun h => by rw [if_neg h] at htk0; omega
    rw [if_pos hsz] at htk0
    have hsz2 : (q.params.length : Int) ≤ q.locals ∧ q.locals ≤ 64 := by unfold sizedP at hsz; simpa using hsz
    by_cases hdp : 64 ≤ fs.length + 1
    · have hDv : doR pg pr f.stack f.pc f.vars (fs.length + 1) out.length = .halt 4 := by rw [hD]; simp [refD, hdp]
      have hsm : stepM pg ⟨f :: fs, out, steps, en, val, false⟩ = ⟨f :: fs, out, steps + 1, 4, val, true⟩ := by unfold stepM; simp only [hpr, hDv]
      have e7 : decide ((64 : Int) ≤ ((ps.length + 1 : Nat) : Int)) = true := decide_eq_true (by omega)
      rw [hsm]
      refine go ?_
      refine WL.op (by kernel_rfl) (OW.callK rfl (rended_fn G2 CA (some ⟨pb, po, none⟩) QA pg.consts.length pg.procs.length qn cc pc qc (some ⟨fb, fo, none⟩) (ps.length + 1) fc en val OA out.length oc ((steps + 1 : Nat) : Int) 4) rfl fun v' G' H' h hg => ?_)
      obtain ⟨he, rfl, rfl⟩ := h
      cases he
      refine go ?_
      refine WC.ret ?_
      refine WK.un ?_
      exact QF.p1 (.inl rfl) rfl (.cell rfl inferInstance inferInstance (by (repeat first | exact .here | apply At.there)) rfl rfl) (⟨some ⟨fb, fo, none⟩, fc, OA, oc, x, by unfold sV; rw [hfl2]; rfl, h2, ⟨by rw [List.reverse_cons, ← hps]; exact hF0.mono h2, by rw [hfl2, ← hfl]; exact hfc, ho⟩, rfl⟩)
    have e7 : decide ((64 : Int) ≤ ((ps.length + 1 : Nat) : Int)) = false := decide_eq_false (by omega)
    have hDv : doR pg pr f.stack f.pc f.vars (fs.length + 1) out.length = .call q r gl m := by rw [hD]; simp [refD, hq, hdp]
    have hsm : stepM pg ⟨f :: fs, out, steps, en, val, false⟩ = ⟨⟨m, 0, [], padded gl q.locals⟩ :: ⟨f.proc, f.pc + 1, r, f.vars⟩ :: fs, out, steps + 1, en, val, false⟩ := by unfold stepM; simp only [hpr, hDv, Int.toNat_natCast]
    rw [hsm]
    refine go ?_
    refine WL.frozenVec hy2 (by (repeat first | exact .here | apply At.there)) fun G3 h3 z3 => ?_
    have hS3 : Sl Kd.val G3 A2 r := VVec.sl z3
    have hw := rwith_fn G3 CA (some ⟨pb, po, none⟩) QA pg.consts.length pg.procs.length qn cc pc qc (some ⟨fb, fo, none⟩) fc en val OA out.length oc ((steps + 1 : Nat) : Int) ps f ⟨f.proc, f.pc + 1, r, f.vars⟩ (hF0.mono (Gh.le_trans h2 h3)) (by rw [← hfl]; exact hfc) (by omega) VA A2 vc cap2 (hy2).le (hVV.mono (Gh.le_trans h2 h3)) hS3
    dsimp only at hw
    refine WL.op (by kernel_rfl) (OW.callK rfl (hw) rfl fun v' G' H' h hg => ?_)
    obtain ⟨FA', fc', cs4, x4', he, rfl, hx4, hfv4, rfl⟩ := h
    cases he
    refine go ?_
    have hfrm := rframe_fn G3 CA (some ⟨pb, po, none⟩) QA pg.consts.length qn cc pc qc pg.procs (hP0.mono (Gh.le_trans h2 h3)) m q hq hpl [] A1 cap1 gl (Sl.vals (hGl.mono h3)) (by omega) hsz2.2
    have hpd : (padded gl q.locals).length ≤ 64 := by rw [padded_length (by omega)]; omega
    refine WC.joinR (X := {t : Option Addr × Nat × Own × Option Addr × Nat × Own // FVec t.1 (ps.length + 1 + 1) t.2.1 (cs4 ++ [.int .i64 m, .int .i64 0, .slice t.2.2.2.1 (padded gl q.locals).length t.2.2.2.2.1, .slice none 0 0]) t.2.2.1 ∧ VVec t.2.2.2.1 t.2.2.2.2.1 (padded gl q.locals) t.2.2.2.2.2}) (fun t => [(1, .pointer (some ⟨b1, 0, none⟩)), (2, .pointer (some ⟨b2, 0, none⟩))])
      (fun t => [.blk b1 (.cells #[.slice CA pg.consts.length cc, .slice (some ⟨pb, po, none⟩) pg.procs.length pc, .slice QA qn qc, .slice t.1.1 (ps.length + 1 + 1) t.1.2.1, .int .i64 en, .int .i64 val.t, .int .i64 val.i, .bool val.b, .string val.s, .slice OA out.length oc, .int .i64 ((steps + 1 : Nat) : Int)] 70 (0, 0)), t.1.2.2.1, t.1.2.2.2.2.2, .blk b2 (.cells #[.slice none 0 0, .slice none 0 0, .slice none 0 0, .slice none 0 0, .int .i64 0, .int .i64 0, .int .i64 0, .bool false, .string ⟨#[]⟩, .slice none 0 0, .int .i64 0] 70 (0, 0)), x]) ?_ fun t => ?_
    · refine WC.draw mixed ?_
      refine WA.tp (i := 0) rfl (by kernel_rfl) (by kernel_rfl) rfl (Gp.fieldAddr rfl) ?_
      refine WA.tp (i := 2) rfl (by kernel_rfl) (by kernel_rfl) rfl (Gp.fieldAddr rfl) ?_
      refine WA.tv (i := 3) rfl (by kernel_rfl) (by kernel_rfl) rfl (Gv.loadN rfl (by (repeat first | exact .here | apply At.there)) rfl rfl) ?_
      refine WA.tp (i := 4) rfl (by kernel_rfl) (by kernel_rfl) rfl (Gp.fieldAddr rfl) ?_
      (first | (refine WA.tv (i := 5) rfl (by kernel_rfl) (by kernel_rfl) rfl (Gv.load1 rfl (by (repeat first | exact .here | apply At.there)) (by first | rfl | assumption)) ?_) | (refine WA.tv (i := 5) rfl (by kernel_rfl) (by kernel_rfl) rfl (Gv.loadN rfl (by (repeat first | exact .here | apply At.there)) (by rfl) (by rfl)) ?_) | (refine WA.tv (i := 5) rfl (by kernel_rfl) (by kernel_rfl) rfl (Gv.loadG1 rfl (by assumption) rfl) ?_) | (refine WA.tv (i := 5) rfl (by kernel_rfl) (by kernel_rfl) rfl (Gv.loadG0 rfl (by assumption) rfl) ?_) | (refine WA.tv (i := 5) rfl (by kernel_rfl) (by kernel_rfl) rfl (Gv.loadGN rfl (by assumption) rfl) ?_))
      refine WA.tp (i := 6) rfl (by kernel_rfl) (by kernel_rfl) rfl (Gp.move rfl) ?_
      refine WA.two (i := 1) (j := 7) (by kernel_rfl) rfl rfl (by kernel_rfl) (by kernel_rfl) (OW.gv (Gv.load1 rfl (by (repeat first | exact .here | apply At.there)) rfl) rfl ?_) (OW.callK rfl hfrm rfl fun v' G' H' h hg => ?_)
      ·
        refine WA.one (i := 7) (by kernel_rfl) rfl (by kernel_rfl) (OW.callK rfl (hfrm) rfl fun v' G' H' h hg => ?_)
        obtain ⟨A5, cap5, y5, he, rfl, hy5, rfl⟩ := h
        cases he
        refine WA.one (i := 8) (by kernel_rfl) rfl (by kernel_rfl) (OW.buildSlice rfl (by kernel_rfl) (by kernel_rfl) (by rfl) rfl fun b7 => ?_)
        refine WA.one (i := 9) (by kernel_rfl) rfl (by kernel_rfl) (OW.append rfl rfl (by kernel_rfl) (by kernel_rfl) hx4 (by (repeat first | exact .here | apply At.there)) (Rds.blk0 (cs := [.int .i64 m, .int .i64 0, .slice A5 (padded gl q.locals).length cap5, .slice none 0 0]) .here rfl) rfl rfl (by omega) (by omega) rfl fun A6 cap6 y6 hy6 => ?_)
        refine WA.tp (i := 10) rfl (by kernel_rfl) (by kernel_rfl) rfl (Gp.fieldAddr rfl) ?_
        refine WA.one (i := 11) (by kernel_rfl) rfl (by kernel_rfl) (OW.store rfl rfl (by (repeat first | exact .here | apply At.there)) rfl (by rfl) (by rfl) (by kernel_rfl) (by rfl) ?_ rfl)
        refine WA.done (by kernel_rfl) ?_
        refine WK.un ?_
        exact WK.meetR ⟨(A6, cap6, y6, A5, cap5, y5), hy6, hy5⟩ (by exact ⟨rfl, rfl, trivial⟩) (by repeat (first | exact Pk.nil | exact Pk.all | exact Pk.app | exact Pk.appR | with_reducible apply Pk.na | (apply Pk.cons; (repeat first | exact .here | apply Rem.there | apply Rem.app)) | apply Pk.skip | apply Pk.skipA))
      · obtain ⟨A5, cap5, y5, he, rfl, hy5, rfl⟩ := h
        cases he
        refine WA.two (i := 1) (j := 8) (by kernel_rfl) rfl rfl (by kernel_rfl) (by kernel_rfl) (OW.gv (Gv.load1 rfl (by (repeat first | exact .here | apply At.there)) rfl) rfl ?_) (OW.buildSlice rfl (by kernel_rfl) (by kernel_rfl) (by rfl) rfl fun b7 => ?_)
        ·
          refine WA.one (i := 8) (by kernel_rfl) rfl (by kernel_rfl) (OW.buildSlice rfl (by kernel_rfl) (by kernel_rfl) (by rfl) rfl fun b7 => ?_)
          refine WA.one (i := 9) (by kernel_rfl) rfl (by kernel_rfl) (OW.append rfl rfl (by kernel_rfl) (by kernel_rfl) hx4 (by (repeat first | exact .here | apply At.there)) (Rds.blk0 (cs := [.int .i64 m, .int .i64 0, .slice A5 (padded gl q.locals).length cap5, .slice none 0 0]) .here rfl) rfl rfl (by omega) (by omega) rfl fun A6 cap6 y6 hy6 => ?_)
          refine WA.tp (i := 10) rfl (by kernel_rfl) (by kernel_rfl) rfl (Gp.fieldAddr rfl) ?_
          refine WA.one (i := 11) (by kernel_rfl) rfl (by kernel_rfl) (OW.store rfl rfl (by (repeat first | exact .here | apply At.there)) rfl (by rfl) (by rfl) (by kernel_rfl) (by rfl) ?_ rfl)
          refine WA.done (by kernel_rfl) ?_
          refine WK.un ?_
          exact WK.meetR ⟨(A6, cap6, y6, A5, cap5, y5), hy6, hy5⟩ (by exact ⟨rfl, rfl, trivial⟩) (by repeat (first | exact Pk.nil | exact Pk.all | exact Pk.app | exact Pk.appR | with_reducible apply Pk.na | (apply Pk.cons; (repeat first | exact .here | apply Rem.there | apply Rem.app)) | apply Pk.skip | apply Pk.skipA))
        ·
          refine WA.one (i := 1) (by kernel_rfl) rfl (by kernel_rfl) (OW.gv (Gv.load1 rfl (by (repeat first | exact .here | apply At.there)) rfl) rfl ?_)
          refine WA.one (i := 9) (by kernel_rfl) rfl (by kernel_rfl) (OW.append rfl rfl (by kernel_rfl) (by kernel_rfl) hx4 (by (repeat first | exact .here | apply At.there)) (Rds.blk0 (cs := [.int .i64 m, .int .i64 0, .slice A5 (padded gl q.locals).length cap5, .slice none 0 0]) .here rfl) rfl rfl (by omega) (by omega) rfl fun A6 cap6 y6 hy6 => ?_)
          refine WA.tp (i := 10) rfl (by kernel_rfl) (by kernel_rfl) rfl (Gp.fieldAddr rfl) ?_
          refine WA.one (i := 11) (by kernel_rfl) rfl (by kernel_rfl) (OW.store rfl rfl (by (repeat first | exact .here | apply At.there)) rfl (by rfl) (by rfl) (by kernel_rfl) (by rfl) ?_ rfl)
          refine WA.done (by kernel_rfl) ?_
          refine WK.un ?_
          exact WK.meetR ⟨(A6, cap6, y6, A5, cap5, y5), hy6, hy5⟩ (by exact ⟨rfl, rfl, trivial⟩) (by repeat (first | exact Pk.nil | exact Pk.all | exact Pk.app | exact Pk.appR | with_reducible apply Pk.na | (apply Pk.cons; (repeat first | exact .here | apply Rem.there | apply Rem.app)) | apply Pk.skip | apply Pk.skipA))
    obtain ⟨⟨A6, cap6, y6, A5, cap5, y5⟩, hy6, hy5⟩ := t
    dsimp only at hy6 hy5 ⊢
    refine go ?_
    refine WC.ret ?_
    refine WK.un ?_
    refine WK.frozenVec hy5 (by (repeat first | exact .here | apply At.there)) fun G5 h5 z5 => ?_
    refine WK.frozenVec hy6 (by (repeat first | exact .here | apply At.there)) fun G6 h6 z6 => ?_
    have hl5 : ∀ g g' : Fr, (g :: g' :: fs).length = ps.length + 1 + 1 := fun g g' => by rw [hpsl]; rfl
    have hnew : Kd.fr.K G6 ⟨m, 0, [], padded gl q.locals⟩ [.int .i64 m, .int .i64 0, .slice A5 (padded gl q.locals).length cap5, .slice none 0 0] := ⟨A5, cap5, none, 0, rfl, Nat.zero_le _, (VVec.sl z5).mono h6, Sl.nil _ _ _⟩
    have hfv6 := (hfv4.mono (Gh.le_trans h5 h6)).snoc hnew
    exact QF.p1 (.inl rfl) rfl (.cell rfl inferInstance inferInstance (by (repeat first | exact .here | apply At.there)) rfl rfl) ⟨A6, cap6, OA, oc, x, by unfold sV; rw [hl5]; rfl, Gh.le_trans h2 (Gh.le_trans h3 (Gh.le_trans h5 h6)), ⟨by rw [List.reverse_cons, List.reverse_cons, ← hps]; exact FV.sl hfv6 z6, by rw [hl5]; exact hy6.le, ho⟩, rfl⟩
end
end Go.Proofs.Ytjgohbepageicaa.Gb
namespace Go.Proofs.Ytjgohbepageicaa.Gb
open Go Go.Proofs
set_option linter.unusedVariables false
set_option linter.unusedSimpArgs false
set_option linter.unusedSectionVars false
attribute [local irreducible] Try.prog

abbrev mZ : Array Value := #[.slice none 0 0, .slice none 0 0, .slice none 0 0, .slice none 0 0, .int .i64 0, .int .i64 0, .int .i64 0, .bool false, .string ⟨#[]⟩, .slice none 0 0, .int .i64 0]
abbrev mC (pg : Pg) (CA PA QA : Option Addr) (qn cc pc qc : Nat) (s : Mc) (FA : Option Addr) (fc : Nat) (OA : Option Addr) (oc : Nat) : Array Value :=
  #[.slice CA pg.consts.length cc, .slice PA pg.procs.length pc, .slice QA qn qc, .slice FA s.frames.length fc, .int .i64 s.en, .int .i64 s.val.t, .int .i64 s.val.i, .bool s.val.b, .string s.val.s, .slice OA s.out.length oc, .int .i64 s.steps]
theorem RRep.mono {G G' : Gh} {s : Mc} {FA : Option Addr} {fc : Nat} {OA : Option Addr} {oc : Nat} {x : Own} (h : RRep G s FA fc OA oc x) (hg : G.le G') : RRep G' s FA fc OA oc x := ⟨h.fr.mono hg, h.fc, h.out⟩

section
variable (pg : Pg) (CA PA QA : Option Addr) (qn cc pc qc : Nat) (hB : PgB pg)
include hB
theorem rsteps_fn (G : Gh) (hC : Sl Kd.val G CA pg.consts) (hP : Sl Kd.prc G PA pg.procs) (s : Mc) (FA : Option Addr) (fc : Nat) (OA : Option Addr) (oc : Nat) (x : Own) (hR : RRep G s FA fc OA oc x) (hI : Inv pg s) (hL : Live s) (hE : EInv s) (n : Int) (hn : n ≤ 1000000) (hst : s.steps + 1000000 ≤ 100000000000000) :
    Fn Try.prog 32 #[sV pg CA PA QA qn cc pc qc s FA fc OA oc, .int .i64 n] G [x]
      fun e G' H' => ∃ FA' fc' OA' oc' x', e = .returned (.tuple #[sV pg CA PA QA qn cc pc qc (runM pg n.toNat s).2 FA' fc' OA' oc', .int .i64 (runM pg n.toNat s).1]) ∧ G.le G' ∧ RRep G' (runM pg n.toNat s).2 FA' fc' OA' oc' x' ∧ H' = [x'] := by
  refine Fn.enter Try.func32 rfl rfl fun w0 => ?_
  refine WC.seq ?_
  refine WC.region ?_
  refine WL.op (by kernel_rfl) (OW.box rfl rfl fun b1 => ?_)
  refine WL.op (by kernel_rfl) (OW.alloc rfl fun b2 => ?_)
  refine go ?_
  refine WC.pick (.blk b1 (.cells (mC pg CA PA QA qn cc pc qc s FA fc OA oc) 70 (0, 0)) :: x :: [.blk b2 (.cells mZ 70 (0, 0))]) ?_
  refine WC.loop (X := Nat × Mc × Gh × (Option Addr × Nat × Option Addr × Nat × Own)) (fun t => [(2, .pointer (some ⟨b1, 0, none⟩)), (1, .int .i64 n), (6, .int .i64 t.1), (4, .pointer (some ⟨b2, 0, none⟩))]) (fun t => t.2.2.1)
    (fun t => .blk b1 (.cells (mC pg CA PA QA qn cc pc qc t.2.1 t.2.2.2.1 t.2.2.2.2.1 t.2.2.2.2.2.1 t.2.2.2.2.2.2.1) 70 (0, 0)) :: t.2.2.2.2.2.2.2 :: [.blk b2 (.cells mZ 70 (0, 0))]) (fun t => n.toNat - t.1)
    (fun t => t.1 ≤ n.toNat ∧ G.le t.2.2.1 ∧ RRep t.2.2.1 t.2.1 t.2.2.2.1 t.2.2.2.2.1 t.2.2.2.2.2.1 t.2.2.2.2.2.2.1 t.2.2.2.2.2.2.2 ∧ Inv pg t.2.1 ∧ Live t.2.1 ∧ EInv t.2.1 ∧ t.2.1.steps ≤ s.steps + t.1 ∧ runM pg n.toNat s = (t.1 + (runM pg (n.toNat - t.1) t.2.1).1, (runM pg (n.toNat - t.1) t.2.1).2))
    (0, s, G, FA, fc, OA, oc, x) ⟨Nat.zero_le _, Gh.le_refl _, hR, hI, hL, hE, by simp, by simp⟩ (by exact ⟨rfl, rfl, rfl, rfl, trivial⟩) rfl (List.Sublist.refl _) fun t ht => ?_
  obtain ⟨k, s1, G1, FA1, fc1, OA1, oc1, x1⟩ := t
  obtain ⟨hk, hg1, hR1, hI1, hL1, hE1, hst1, hrun⟩ := ht
  dsimp only at hk hg1 hR1 hI1 hL1 hE1 hst1 hrun
  by_cases hkn : (k : Int) < n
  rotate_left
  · have e1 : decide ((k : Int) < n) = false := decide_eq_false hkn
    have h0 : n.toNat - k = 0 := by omega
    rw [h0] at hrun
    rw [hrun]
    simp only [runM, Nat.add_zero]
    refine go ?_
    refine WC.ret ?_
    refine WK.un ?_
    exact QF.p2 (.inl rfl) rfl (.cell rfl inferInstance inferInstance (by (repeat first | exact .here | apply At.there)) rfl rfl) (.tmp rfl) (⟨FA1, fc1, OA1, oc1, x1, rfl, hg1, hR1, rfl⟩)
  have e1 : decide ((k : Int) < n) = true := decide_eq_true hkn
  cases hen : s1.ended with
  | true =>
    have e2 : (s1.en == 0) = false := by
      rcases hE1.shut hen with h | h
      · rw [h]; rfl
      · unfold badE at h; rw [beq_eq_false_iff_ne]; omega
    rw [runM_ended hen] at hrun
    rw [hrun]
    simp only [Nat.add_zero]
    refine go ?_
    refine WC.ret ?_
    refine WK.un ?_
    exact QF.p2 (.inl rfl) rfl (.cell rfl inferInstance inferInstance (by (repeat first | exact .here | apply At.there)) rfl rfl) (.tmp rfl) (⟨FA1, fc1, OA1, oc1, x1, rfl, hg1, hR1, rfl⟩)
  | false =>
    have e2 : (s1.en == 0) = true := by rw [(hE1.open_ hen).2]; rfl
    have e3 : IntKind.i64.wrap ((k : Int) + 1) = ((k + 1 : Nat) : Int) := by rw [wrap_small (by omega) (by omega)]; omega
    have hs1 := stepM_steps1 (hL1 hen) hI1.procs
    refine go ?_
    refine WL.op (by kernel_rfl) (OW.callK rfl (rstep_fn G1 pg CA PA QA qn cc pc qc (hC.mono hg1) (hP.mono hg1) hB s1 FA1 fc1 OA1 oc1 x1 hR1 hI1 hL1 hen (by omega)) rfl fun v' G' H' h hg => ?_)
    obtain ⟨FA', fc', OA', oc', x', he, hg2, hR', rfl⟩ := h
    cases he
    refine go ?_
    refine WK.pick (.blk b1 (.cells (mC pg CA PA QA qn cc pc qc (stepM pg s1) FA' fc' OA' oc') 70 (0, 0)) :: x' :: [.blk b2 (.cells mZ 70 (0, 0))]) ?_
    have hm : n.toNat - k = (n.toNat - (k + 1)) + 1 := by omega
    exact WK.again (k + 1, stepM pg s1, G', FA', fc', OA', oc', x') (by dsimp only; omega) ⟨by dsimp only; omega, Gh.le_trans hg1 hg2, hR', hI1.step, hL1.step, hE1.step hen, by dsimp only; omega, by dsimp only; rw [hrun, hm, runM, hen]; simp; omega⟩ (by exact ⟨rfl, rfl, rfl, rfl, trivial⟩) rfl (List.Sublist.refl _)
end
end Go.Proofs.Ytjgohbepageicaa.Gb
namespace Go.Proofs.Ytjgohbepageicaa.Gb
open Go Go.Proofs
set_option linter.unusedVariables false
set_option linter.unusedSimpArgs false
set_option linter.unusedSectionVars false
attribute [local irreducible] Try.prog

theorem WB.pick {P : Program} {Q : Exit → Act → World → Prop} {cx : Cx} {L : List (Nat × Value)} {G Gs : Gh} {H Hs F : List Own} {l : List Oper} {fuel : Nat} {listed : Array Bool} (H' : List Own) (k : WB P l Q Gs Hs fuel listed cx L G H') (h : Pk H H' F := by repeat (first | exact Pk.nil | exact Pk.all | exact Pk.app | exact Pk.appR | with_reducible apply Pk.na | (apply Pk.cons; (repeat first | exact .here | apply Rem.there | apply Rem.app)) | apply Pk.assoc | apply Pk.skip | apply Pk.skipA)) : WB P l Q Gs Hs fuel listed cx L G H := fun a w st ss => k a w (st.pk h) ss
/-- how the document's start ends -/
def RStartP (G : Gh) (pg : Pg) (CA PA QA : Option Addr) (qn cc pc qc : Nat) (n : Int) (args : List V) (Ha : List Own) (r : Option Pr) : Ending → Gh → List Own → Prop := fun e G' H' => match r with
  | none => e = .returned (.tuple #[.agg mZ, .int .i64 1]) ∧ G = G' ∧ H' = Ha
  | some q => ∃ FA fc x, e = .returned (.tuple #[sV pg CA PA QA qn cc pc qc (startS q n args) FA fc none 0, .int .i64 0]) ∧ G.le G' ∧ RRep G' (startS q n args) FA fc none 0 x ∧ H' = x :: Ha

theorem startR_eq {pg : Pg} {i : Nat} {q : Pr} (hq : pg.procs[i]? = some q) (args : List V) : startR pg (i : Int) args = if sizedP q = true ∧ typedR args q.params = true then some q else none := by
  rw [startR, if_neg (by omega), Int.toNat_natCast, hq]
  dsimp only
  cases hz : sizedP q
  · simp
  · rw [if_neg (by simp)]
    unfold typedR
    by_cases hl : args.length = q.params.length
    · rw [if_neg (by simpa using hl)]
      simp
    · rw [if_pos hl]
      have : tys args ≠ q.params := fun e => hl (by rw [← e]; simp [tys])
      simp [this]

section
variable (G : Gh) (pg : Pg) (CA PA QA : Option Addr) (qn cc pc qc : Nat) (hC : Sl Kd.val G CA pg.consts) (hP : Sl Kd.prc G PA pg.procs) (hB : PgB pg)
include hC hP hB
set_option maxHeartbeats 1000000 in
theorem rstart_fn (n : Int) (AA : Option Addr) (ac : Nat) (args : List V) (Ha : List Own) (hr : Rds G Ha AA (vflat args)) (hal : args.length ≤ 100000000000000) :
    Fn Try.prog 30 #[.agg #[.slice CA pg.consts.length cc, .slice PA pg.procs.length pc, .slice QA qn qc], .int .i64 n, .slice AA args.length ac] G Ha (RStartP G pg CA PA QA qn cc pc qc n args Ha (startR pg n args)) := by
  have hpl : pg.procs.length ≤ 10000000000000 := by have := hB.procs; omega
  refine Fn.enter Try.func30 rfl rfl fun w0 => ?_
  refine WC.seq ?_
  refine WC.region ?_
  refine WL.op (by kernel_rfl) (OW.box rfl rfl fun b1 => ?_)
  refine WL.op (by kernel_rfl) (OW.alloc rfl fun b2 => ?_)
  by_cases hn0 : n < 0
  · have e1 : decide (n < 0) = true := decide_eq_true hn0
    rw [show startR pg n args = none by rw [startR, if_pos hn0]]
    refine go ?_
    refine WC.ret ?_
    refine WK.un ?_
    exact QF.p2 (.inl rfl) rfl (.cell rfl inferInstance inferInstance (by (repeat first | exact .here | apply At.there)) rfl rfl) (.tmp rfl) (⟨rfl, rfl, rfl⟩)
  have e1 : decide (n < 0) = false := decide_eq_false hn0
  obtain ⟨i, rfl⟩ : ∃ i : Nat, n = i := ⟨n.toNat, by omega⟩
  cases hq : pg.procs[i]? with
  | none =>
    have e2 : decide (((pg.procs.length : Nat) : Int) ≤ (i : Int)) = true := decide_eq_true (by have := List.getElem?_eq_none_iff.1 hq; omega)
    rw [show startR pg (i : Int) args = none by rw [startR, if_neg hn0, Int.toNat_natCast, hq]]
    refine go ?_
    refine WC.ret ?_
    refine WK.un ?_
    exact QF.p2 (.inl rfl) rfl (.cell rfl inferInstance inferInstance (by (repeat first | exact .here | apply At.there)) rfl rfl) (.tmp rfl) (⟨rfl, rfl, rfl⟩)
  | some q =>
  have hil := (List.getElem?_eq_some_iff.1 hq).1
  have e2 : decide (((pg.procs.length : Nat) : Int) ≤ (i : Int)) = false := decide_eq_false (by omega)
  have hP0 := hP
  obtain ⟨pb, po, cs, rfl, ⟨QPA, qpc, ICA, icc, rfl, hPar, hIns⟩, hcs⟩ := hP i q hq
  rw [startR_eq hq]
  refine go ?_
  refine WL.op (by kernel_rfl) (OW.callK rfl (rsized_fn G q.name q.exp QPA q.params.length qpc q.locals q.result (.slice ICA q.code.length icc)) rfl fun v' G' H' h hg => ?_)
  obtain ⟨he, rfl, rfl⟩ := h
  cases he
  rw [show (decide ((q.params.length : Int) ≤ q.locals) && decide (q.locals ≤ 64)) = sizedP q from rfl]
  cases hz : sizedP q with
  | false =>
    rw [if_neg (by simp)]
    refine go ?_
    refine WC.ret ?_
    refine WK.un ?_
    exact QF.p2 (.inl rfl) rfl (.cell rfl inferInstance inferInstance (by (repeat first | exact .here | apply At.there)) rfl rfl) (.tmp rfl) (⟨rfl, rfl, rfl⟩)
  | true =>
  have hsz : (q.params.length : Int) ≤ q.locals ∧ q.locals ≤ 64 := by unfold sizedP at hz; simpa using hz
  refine go ?_
  refine WL.op (by kernel_rfl) (OW.callK rfl (rtyped_fn G Ha AA QPA ac qpc args q.params hr hPar hal) rfl fun v' G' H' h hg => ?_)
  obtain ⟨he, rfl, hh⟩ := h
  cases hh.symm
  cases he
  refine WL.pick (.blk b1 (.cells #[.slice CA pg.consts.length cc, .slice (some ⟨pb, po, none⟩) pg.procs.length pc, .slice QA qn qc] 26 (0, 0)) :: .blk b2 (.cells mZ 70 (0, 0)) :: Ha) ?_
  cases hty : typedR args q.params with
  | false =>
    rw [if_neg (by simp)]
    refine go ?_
    refine WC.ret ?_
    refine WK.un ?_
    exact QF.p2 (.inl rfl) rfl (.cell rfl inferInstance inferInstance (by (repeat first | exact .here | apply At.there)) rfl rfl) (.tmp rfl) (⟨rfl, rfl, rfl⟩)
  | true =>
  rw [if_pos ⟨rfl, rfl⟩]
  have hal2 : args.length = q.params.length := by unfold typedR at hty; rw [Bool.and_eq_true, decide_eq_true_iff] at hty; rw [← hty.2]; simp [tys]
  refine go ?_
  refine WC.drawS (Hs := [.blk b1 (.cells #[.slice CA pg.consts.length cc, .slice (some ⟨pb, po, none⟩) pg.procs.length pc, .slice QA qn qc] 26 (0, 0))]) mixed (by repeat (first | exact Pk.nil | exact Pk.all | exact Pk.app | exact Pk.appR | with_reducible apply Pk.na | (apply Pk.cons; (repeat first | exact .here | apply Rem.there | apply Rem.app)) | apply Pk.skip | apply Pk.skipA)) ?_
  (first | (refine WB.tv (i := 1) rfl (by kernel_rfl) (by kernel_rfl) rfl (Gv.load1 rfl (by (repeat first | exact .here | apply At.there)) (by first | rfl | assumption)) ?_) | (refine WB.tv (i := 1) rfl (by kernel_rfl) (by kernel_rfl) rfl (Gv.loadN rfl (by (repeat first | exact .here | apply At.there)) (by rfl) (by rfl)) ?_) | (refine WB.tv (i := 1) rfl (by kernel_rfl) (by kernel_rfl) rfl (Gv.loadG1 rfl (by assumption) rfl) ?_) | (refine WB.tv (i := 1) rfl (by kernel_rfl) (by kernel_rfl) rfl (Gv.loadG0 rfl (by assumption) rfl) ?_) | (refine WB.tv (i := 1) rfl (by kernel_rfl) (by kernel_rfl) rfl (Gv.loadGN rfl (by assumption) rfl) ?_))
  refine WB.tp (i := 2) rfl (by kernel_rfl) (by kernel_rfl) rfl (Gp.move rfl) ?_
  refine WB.tp (i := 3) rfl (by kernel_rfl) (by kernel_rfl) rfl (Gp.move rfl) ?_
  (first | (refine WB.tv (i := 0) rfl (by kernel_rfl) (by kernel_rfl) rfl (Gv.load1 rfl (by (repeat first | exact .here | apply At.there)) (by first | rfl | assumption)) ?_) | (refine WB.tv (i := 0) rfl (by kernel_rfl) (by kernel_rfl) rfl (Gv.loadN rfl (by (repeat first | exact .here | apply At.there)) (by rfl) (by rfl)) ?_) | (refine WB.tv (i := 0) rfl (by kernel_rfl) (by kernel_rfl) rfl (Gv.loadG1 rfl (by assumption) rfl) ?_) | (refine WB.tv (i := 0) rfl (by kernel_rfl) (by kernel_rfl) rfl (Gv.loadG0 rfl (by assumption) rfl) ?_) | (refine WB.tv (i := 0) rfl (by kernel_rfl) (by kernel_rfl) rfl (Gv.loadGN rfl (by assumption) rfl) ?_))
  refine WB.one (i := 4) (by kernel_rfl) rfl (by kernel_rfl) (OW.callK rfl (rframe_fn G CA (some ⟨pb, po, none⟩) QA pg.consts.length qn cc pc qc pg.procs hP0 i q hq hpl Ha AA ac args hr (by omega) (by omega)) rfl fun v' G' H' h hg => ?_)
  obtain ⟨A', cap', x', he, rfl, hx, rfl⟩ := h
  cases he
  refine ⟨fun w hw => hw.pk (by repeat (first | exact Pk.nil | exact Pk.all | exact Pk.app | exact Pk.appR | with_reducible apply Pk.na | (apply Pk.cons; (repeat first | exact .here | apply Rem.there | apply Rem.app)) | apply Pk.skip | apply Pk.skipA)), ?_⟩
  refine WB.pick (x' :: .blk b1 (.cells #[.slice CA pg.consts.length cc, .slice (some ⟨pb, po, none⟩) pg.procs.length pc, .slice QA qn qc] 26 (0, 0)) :: .blk b2 (.cells mZ 70 (0, 0)) :: Ha) ?_
  refine WB.one (i := 5) (by kernel_rfl) rfl (by kernel_rfl) (OW.buildSlice rfl (by kernel_rfl) (by kernel_rfl) (by rfl) rfl fun b3 => ?_)
  refine ⟨fun w hw => hw.pk (by repeat (first | exact Pk.nil | exact Pk.all | exact Pk.app | exact Pk.appR | with_reducible apply Pk.na | (apply Pk.cons; (repeat first | exact .here | apply Rem.there | apply Rem.app)) | apply Pk.skip | apply Pk.skipA)), ?_⟩
  refine WB.tp (i := 6) rfl (by kernel_rfl) (by kernel_rfl) rfl (Gp.build rfl rfl) ?_
  refine WB.one (i := 7) (by kernel_rfl) rfl (by kernel_rfl) (OW.store rfl rfl (by (repeat first | exact .here | apply At.there)) rfl (by rfl) (by rfl) (by kernel_rfl) (by rfl) ?_ rfl)
  refine ⟨fun w hw => hw.pk (by repeat (first | exact Pk.nil | exact Pk.all | exact Pk.app | exact Pk.appR | with_reducible apply Pk.na | (apply Pk.cons; (repeat first | exact .here | apply Rem.there | apply Rem.app)) | apply Pk.skip | apply Pk.skipA)), ?_⟩
  refine WB.tp (i := 8) rfl (by kernel_rfl) (by kernel_rfl) rfl (Gp.assign rfl) ?_
  refine WB.done (by kernel_rfl) ?_
  refine WK.frozenVec hx (by (repeat first | exact .here | apply At.there)) fun G1 h1 z1 => ?_
  refine WK.freeze (b := b3) (by (repeat first | exact .here | apply At.there)) fun h2 => ?_
  have hF : Sl Kd.fr (G1.add b3 #[.int .i64 i, .int .i64 0, .slice A' (padded args q.locals).length cap', .slice none 0 0]) (some ⟨b3, 0, none⟩) [⟨i, 0, [], padded args q.locals⟩] :=
    FV.sl (cs := [.int .i64 i, .int .i64 0, .slice A' (padded args q.locals).length cap', .slice none 0 0]) ⟨rfl, fun j f hf => by
      cases j with
      | zero => cases hf; exact ⟨A', cap', none, 0, rfl, Nat.le_refl _, (VVec.sl z1).mono h2, by exact Sl.nil _ _ _⟩
      | succ j => cases hf⟩ (.inr ⟨b3, rfl, fun j v hj => by rw [Gh.add_at]; simpa using hj⟩)
  refine WK.nothing ?_
  refine WK.un ?_
  refine WC.ret ?_
  refine WK.un ?_
  exact QF.p2 (.inl rfl) rfl (.cell rfl inferInstance inferInstance (by (repeat first | exact .here | apply At.there)) rfl rfl) (.tmp rfl) (⟨some ⟨b3, 0, none⟩, 1, .spare 0 0 0, rfl, Gh.le_trans h1 h2, ⟨hF, Nat.le_refl _, ⟨rfl, .inl ⟨rfl, rfl, rfl, rfl⟩⟩⟩, rfl⟩)

theorem rrun_fn (n fuel : Int) (hfu : fuel ≤ 1000000) (AA : Option Addr) (ac : Nat) (args : List V) (Ha : List Own) (hr : Rds G Ha AA (vflat args)) (hal : args.length ≤ 100000000000000) :
    Fn Try.prog 16 #[.agg #[.slice CA pg.consts.length cc, .slice PA pg.procs.length pc, .slice QA qn qc], .int .i64 n, .int .i64 fuel, .slice AA args.length ac] G Ha
      fun e G' H' => ∃ OA oc x, e = .returned (ocV (runR pg n fuel args) OA oc) ∧ G.le G' ∧ VVec OA oc (runR pg n fuel args).out x ∧ H' = x :: Ha := by
  refine Fn.enter Try.func16 rfl rfl fun w0 => ?_
  refine WC.seq ?_
  refine WC.region ?_
  refine WL.op (by kernel_rfl) (OW.box rfl rfl fun b1 => ?_)
  refine WL.op (by kernel_rfl) (OW.alloc rfl fun b2 => ?_)
  have hst := rstart_fn G pg CA PA QA qn cc pc qc hC hP hB n AA ac args Ha hr hal
  cases hs : startR pg n args with
  | none =>
    rw [hs] at hst
    unfold RStartP at hst
    dsimp only at hst
    rw [show runR pg n fuel args = Oc0 by rw [runR, hs]]
    refine go ?_
    refine WL.op (by kernel_rfl) (OW.callK rfl (hst) rfl fun v' G' H' h hg => ?_)
    obtain ⟨he, rfl, hh⟩ := h
    cases hh.symm
    cases he
    refine go ?_
    refine WL.op (by kernel_rfl) (OW.alloc rfl fun b3 => ?_)
    refine WL.pick (.blk b3 (.cells mZ 70 (0, 0)) :: .blk b2 (.cells #[.int .i64 0, .int .i64 0, .int .i64 0, .bool false, .string ⟨#[]⟩, .slice none 0 0, .int .i64 0] 35 (0, 0)) :: Ha) ?_
    refine go ?_
    refine WK.nothing ?_
    refine WC.ret ?_
    refine WK.un ?_
    exact QF.p1 (.inl rfl) rfl (.cell rfl inferInstance inferInstance (by (repeat first | exact .here | apply At.there)) rfl rfl) (⟨none, 0, .spare 0 0 0, rfl, Gh.le_refl _, ⟨rfl, .inl ⟨rfl, rfl, rfl, rfl⟩⟩, rfl⟩)
  | some q =>
    rw [hs] at hst
    unfold RStartP at hst
    dsimp only at hst
    refine go ?_
    refine WL.op (by kernel_rfl) (OW.callK rfl (hst) rfl fun v' G' H' h hg => ?_)
    obtain ⟨FA, fc, x, he, hg1, hR, hh⟩ := h
    cases hh.symm
    cases he
    refine go ?_
    refine WL.op (by kernel_rfl) (OW.alloc rfl fun b3 => ?_)
    refine WL.pick (.blk b3 (.cells mZ 70 (0, 0)) :: x :: .blk b2 (.cells #[.int .i64 0, .int .i64 0, .int .i64 0, .bool false, .string ⟨#[]⟩, .slice none 0 0, .int .i64 0] 35 (0, 0)) :: Ha) ?_
    refine go ?_
    have hinv := startS_inv hs
    refine WL.op (by kernel_rfl) (OW.callK rfl (rsteps_fn pg CA PA QA qn cc pc qc hB G' (hC.mono hg1) (hP.mono hg1) (startS q n args) FA fc none 0 x hR hinv.1 hinv.2 (startS_E q n args) fuel hfu (by show 0 + 1000000 ≤ _; decide)) rfl fun v' G' H' h hg => ?_)
    obtain ⟨FA2, fc2, OA2, oc2, x2, he, hg2, hR2, rfl⟩ := h
    cases he
    have hE := (startS_E q n args).run (pg := pg) fuel.toNat
    have hrr : runR pg n fuel args = if (runM pg fuel.toNat (startS q n args)).2.ended then (runM pg fuel.toNat (startS q n args)).2.oc else { (runM pg fuel.toNat (startS q n args)).2.oc with en := 5 } := by rw [runR, hs]
    rw [hrr]
    obtain ⟨r, hr0⟩ : ∃ r, r = (runM pg fuel.toNat (startS q n args)) := ⟨_, rfl⟩
    rw [← hr0] at hE hR2 ⊢
    obtain ⟨k, s⟩ := r
    dsimp only at hE hR2 ⊢
    have hO := hR2.out
    cases hen : s.ended with
    | true =>
      have e2 : (s.en == 0) = false := by
        rcases hE.shut hen with h | h
        · rw [h]; rfl
        · unfold badE at h; rw [beq_eq_false_iff_ne]; omega
      rw [if_pos rfl]
      refine go ?_
      refine WC.ret ?_
      refine WK.un ?_
      exact QF.p1 (.inl rfl) rfl (.cell rfl inferInstance inferInstance (by (repeat first | exact .here | apply At.there)) rfl rfl) (⟨OA2, oc2, x2, rfl, Gh.le_trans hg1 hg2, hO, rfl⟩)
    | false =>
      have e2 : (s.en == 0) = true := by rw [(hE.open_ hen).2]; rfl
      rw [if_neg (by simp)]
      refine go ?_
      refine WC.ret ?_
      refine WK.un ?_
      exact QF.p1 (.inl rfl) rfl (.cell rfl inferInstance inferInstance (by (repeat first | exact .here | apply At.there)) rfl rfl) (⟨OA2, oc2, x2, rfl, Gh.le_trans hg1 hg2, hO, rfl⟩)
end
end Go.Proofs.Ytjgohbepageicaa.Gb
namespace Go.Proofs.Ytjgohbepageicaa.Gb
open Go Go.Proofs
set_option linter.unusedVariables false
set_option linter.unusedSimpArgs false
set_option linter.unusedSectionVars false
attribute [local irreducible] Try.prog

theorem Inv.tellS {pg : Pg} {s : Mc} (h : Inv pg s) : (topStack s).length ≤ 128 := by
  unfold topStack
  split
  · simp
  · rename_i f fs e; exact (h.stack f (by rw [e]; simp)).1
theorem Inv.tellV {pg : Pg} {s : Mc} (h : Inv pg s) : (topVars s).length ≤ 64 := by
  unfold topVars
  split
  · simp
  · rename_i f fs e; exact (h.stack f (by rw [e]; simp)).2.1
section
variable (G : Gh) (pg : Pg) (CA PA QA : Option Addr) (qn cc pc qc : Nat) (s : Mc) (FA : Option Addr) (fc : Nat) (OA : Option Addr) (oc : Nat) (hF : Sl Kd.fr G FA s.frames.reverse) (hfl : s.frames.length ≤ 1000000)
include hF hfl
theorem rspot_fn : Fn Try.prog 46 #[sV pg CA PA QA qn cc pc qc s FA fc OA oc] G []
    fun e G' H' => e = .returned (.agg #[.int .i64 (spotR s).1, .int .i64 (spotR s).2]) ∧ G = G' ∧ H' = [] := by
  obtain ⟨frames, out, steps, en, val, ended⟩ := s
  dsimp only at hF hfl
  refine Fn.enter Try.func46 rfl rfl fun w0 => ?_
  refine WC.seq ?_
  refine WC.region ?_
  refine WL.op (by kernel_rfl) (OW.box rfl rfl fun b1 => ?_)
  refine WL.op (by kernel_rfl) (OW.alloc rfl fun b2 => ?_)
  cases frames with
  | nil =>
    refine go ?_
    refine WC.ret ?_
    refine WK.un ?_
    exact QF.p1 (.inl rfl) rfl (.cell rfl inferInstance inferInstance (by (repeat first | exact .here | apply At.there)) rfl rfl) (⟨rfl, rfl, rfl⟩)
  | cons f fs =>
    have hfl1 : fs.length + 1 ≤ 1000000 := hfl
    have e1 : (((fs.length + 1 : Nat) : Int) == 0) = false := by rw [beq_eq_false_iff_ne]; omega
    have e2 : IntKind.i64.wrap (((fs.length + 1 : Nat) : Int) - 1) = (fs.length : Int) := by rw [wrap_small (by omega) (by omega)]; omega
    have x1 : (0 : Int) ≤ (fs.length : Int) := by omega
    have x2 : (fs.length : Int) < ((fs.length + 1 : Nat) : Int) := by omega
    obtain ⟨fb, fo, fcs, rfl, ⟨VA, vc, SA, sc, rfl, hsc, hVV, hSS⟩, hfc2⟩ := hF fs.length f (by simp)
    refine go ?_
    refine WL.op (by kernel_rfl) (OW.alloc rfl fun b3 => ?_)
    refine go ?_
    refine WC.ret ?_
    refine WK.un ?_
    exact QF.p1 (.inl rfl) rfl (.cell rfl inferInstance inferInstance (by (repeat first | exact .here | apply At.there)) rfl rfl) (⟨rfl, rfl, rfl⟩)
theorem rvars_fn : Fn Try.prog 47 #[sV pg CA PA QA qn cc pc qc s FA fc OA oc] G []
    fun e G' H' => ∃ A cap, e = .returned (.slice A (topVars s).length cap) ∧ G = G' ∧ Sl Kd.val G' A (topVars s) ∧ H' = [] := by
  obtain ⟨frames, out, steps, en, val, ended⟩ := s
  dsimp only at hF hfl
  refine Fn.enter Try.func47 rfl rfl fun w0 => ?_
  refine WC.seq ?_
  refine WC.region ?_
  refine WL.op (by kernel_rfl) (OW.box rfl rfl fun b1 => ?_)
  cases frames with
  | nil =>
    refine go ?_
    refine WC.ret ?_
    refine WK.un ?_
    exact QF.p1 (.inl rfl) rfl (.tmp rfl) (⟨none, 0, rfl, rfl, Sl.nil _ _ _, rfl⟩)
  | cons f fs =>
    have hfl1 : fs.length + 1 ≤ 1000000 := hfl
    have e1 : (((fs.length + 1 : Nat) : Int) == 0) = false := by rw [beq_eq_false_iff_ne]; omega
    have e2 : IntKind.i64.wrap (((fs.length + 1 : Nat) : Int) - 1) = (fs.length : Int) := by rw [wrap_small (by omega) (by omega)]; omega
    have x1 : (0 : Int) ≤ (fs.length : Int) := by omega
    have x2 : (fs.length : Int) < ((fs.length + 1 : Nat) : Int) := by omega
    obtain ⟨fb, fo, fcs, rfl, ⟨VA, vc, SA, sc, rfl, hsc, hVV, hSS⟩, hfc2⟩ := hF fs.length f (by simp)
    refine go ?_
    refine WC.ret ?_
    refine WK.un ?_
    exact QF.p1 (.inl rfl) rfl (.tmp rfl) (⟨VA, vc, rfl, rfl, hVV, rfl⟩)
theorem rstack_fn : Fn Try.prog 48 #[sV pg CA PA QA qn cc pc qc s FA fc OA oc] G []
    fun e G' H' => ∃ A cap, e = .returned (.slice A (topStack s).length cap) ∧ G = G' ∧ Sl Kd.val G' A (topStack s) ∧ H' = [] := by
  obtain ⟨frames, out, steps, en, val, ended⟩ := s
  dsimp only at hF hfl
  refine Fn.enter Try.func48 rfl rfl fun w0 => ?_
  refine WC.seq ?_
  refine WC.region ?_
  refine WL.op (by kernel_rfl) (OW.box rfl rfl fun b1 => ?_)
  cases frames with
  | nil =>
    refine go ?_
    refine WC.ret ?_
    refine WK.un ?_
    exact QF.p1 (.inl rfl) rfl (.tmp rfl) (⟨none, 0, rfl, rfl, Sl.nil _ _ _, rfl⟩)
  | cons f fs =>
    have hfl1 : fs.length + 1 ≤ 1000000 := hfl
    have e1 : (((fs.length + 1 : Nat) : Int) == 0) = false := by rw [beq_eq_false_iff_ne]; omega
    have e2 : IntKind.i64.wrap (((fs.length + 1 : Nat) : Int) - 1) = (fs.length : Int) := by rw [wrap_small (by omega) (by omega)]; omega
    have x1 : (0 : Int) ≤ (fs.length : Int) := by omega
    have x2 : (fs.length : Int) < ((fs.length + 1 : Nat) : Int) := by omega
    obtain ⟨fb, fo, fcs, rfl, ⟨VA, vc, SA, sc, rfl, hsc, hVV, hSS⟩, hfc2⟩ := hF fs.length f (by simp)
    refine go ?_
    refine WC.ret ?_
    refine WK.un ?_
    exact QF.p1 (.inl rfl) rfl (.tmp rfl) (⟨SA, sc, rfl, rfl, hSS, rfl⟩)
end
section
variable (G : Gh) (pg : Pg) (CA PA QA : Option Addr) (qn cc pc qc : Nat) (CA1 PA1 : Option Addr) (cc1 pc1 cn1 pn1 : Nat) (c31 : Value) (mb : Nat)
theorem told_fn (s : Mc) (Hm : List Own) (hM : MRep CA1 PA1 cc1 pc1 cn1 pn1 c31 mb s Hm) (hI : Inv pg s) (hL : Live s) (hE : EInv s) (FA : Option Addr) (fc : Nat) (OA : Option Addr) (oc : Nat) (x : Own) (hR : RRep G s FA fc OA oc x) :
    Fn Try.prog 31 #[.pointer (some ⟨mb, 0, none⟩), sV pg CA PA QA qn cc pc qc s FA fc OA oc] G (x :: Hm)
      fun e G' H' => e = .returned (.bool true) ∧ G = G' ∧ H' = x :: Hm := by
  have hmd := hL.made
  have hout := hI.out.1
  have htS := hI.tellS
  have htV := hI.tellV
  have hfr := hI.frames
  refine Fn.enter Try.func31 rfl rfl fun w0 => ?_
  refine WC.seq ?_
  refine WC.region ?_
  refine WL.op (by kernel_rfl) (OW.box rfl rfl fun b1 => ?_)
  refine go ?_
  have hen : (s.en != 0) = s.ended := by
    cases he : s.ended with
    | true =>
      rcases hE.shut he with h | h
      · rw [h]; rfl
      · unfold badE at h; rw [bne_iff_ne]; omega
    | false => rw [(hE.open_ he).2]; rfl
  refine WC.drawS (Hs := [.blk b1 (.cells (mC pg CA PA QA qn cc pc qc s FA fc OA oc) 70 (0, 0))]) mixed (by repeat (first | exact Pk.nil | exact Pk.all | exact Pk.app | exact Pk.appR | with_reducible apply Pk.na | (apply Pk.cons; (repeat first | exact .here | apply Rem.there | apply Rem.app)) | apply Pk.skip | apply Pk.skipA)) ?_
  refine WB.tp (i := 0) rfl (by kernel_rfl) (by kernel_rfl) rfl (Gp.move rfl) ?_
  refine WB.tp (i := 2) rfl (by kernel_rfl) (by kernel_rfl) rfl (Gp.fieldAddr rfl) ?_
  refine WB.tp (i := 3) rfl (by kernel_rfl) (by kernel_rfl) rfl (Gp.fieldAddr rfl) ?_
  (first | (refine WB.tv (i := 4) rfl (by kernel_rfl) (by kernel_rfl) rfl (Gv.load1 rfl (by (repeat first | exact .here | apply At.there)) (by first | rfl | assumption)) ?_) | (refine WB.tv (i := 4) rfl (by kernel_rfl) (by kernel_rfl) rfl (Gv.loadN rfl (by (repeat first | exact .here | apply At.there)) (by rfl) (by rfl)) ?_) | (refine WB.tv (i := 4) rfl (by kernel_rfl) (by kernel_rfl) rfl (Gv.loadG1 rfl (by assumption) rfl) ?_) | (refine WB.tv (i := 4) rfl (by kernel_rfl) (by kernel_rfl) rfl (Gv.loadG0 rfl (by assumption) rfl) ?_) | (refine WB.tv (i := 4) rfl (by kernel_rfl) (by kernel_rfl) rfl (Gv.loadGN rfl (by assumption) rfl) ?_))
  (first | refine WB.tp (i := 5) rfl (by kernel_rfl) (by kernel_rfl) rfl (Gp.neI rfl rfl) ?_ | refine WB.tp (i := 5) rfl (by kernel_rfl) (by kernel_rfl) rfl (Gp.neS rfl rfl) ?_ | refine WB.tp (i := 5) rfl (by kernel_rfl) (by kernel_rfl) rfl (Gp.neB rfl rfl) ?_)
  refine WB.one (i := 1) (by kernel_rfl) rfl (by kernel_rfl) (OW.callK rfl (Ended_fn G CA1 PA1 cc1 pc1 cn1 pn1 c31 mb s Hm hM) rfl fun v' G' H' h hg => ?_)
  obtain ⟨he, rfl, rfl⟩ := h
  cases he
  refine ⟨fun w hw => hw.pk (by repeat (first | exact Pk.nil | exact Pk.all | exact Pk.app | exact Pk.appR | with_reducible apply Pk.na | (apply Pk.cons; (repeat first | exact .here | apply Rem.there | apply Rem.app)) | apply Pk.skip | apply Pk.skipA)), ?_⟩
  rw [hmd, hen, show (true && s.ended) = s.ended from Bool.true_and _]
  (first | refine WB.tp (i := 6) rfl (by kernel_rfl) (by kernel_rfl) rfl (Gp.neI rfl rfl) ?_ | refine WB.tp (i := 6) rfl (by kernel_rfl) (by kernel_rfl) rfl (Gp.neS rfl rfl) ?_ | refine WB.tp (i := 6) rfl (by kernel_rfl) (by kernel_rfl) rfl (Gp.neB rfl rfl) ?_)
  rw [show (!(s.ended == s.ended)) = false by cases s.ended <;> rfl]
  refine WB.tp (i := 7) rfl (by kernel_rfl) (by kernel_rfl) rfl (Gp.move rfl) ?_
  refine WB.tp (i := 8) rfl (by kernel_rfl) (by kernel_rfl) rfl (Gp.move rfl) ?_
  refine WB.tp (i := 10) rfl (by kernel_rfl) (by kernel_rfl) rfl (Gp.fieldAddr rfl) ?_
  (first | (refine WB.tv (i := 11) rfl (by kernel_rfl) (by kernel_rfl) rfl (Gv.load1 rfl (by (repeat first | exact .here | apply At.there)) (by first | rfl | assumption)) ?_) | (refine WB.tv (i := 11) rfl (by kernel_rfl) (by kernel_rfl) rfl (Gv.loadN rfl (by (repeat first | exact .here | apply At.there)) (by rfl) (by rfl)) ?_) | (refine WB.tv (i := 11) rfl (by kernel_rfl) (by kernel_rfl) rfl (Gv.loadG1 rfl (by assumption) rfl) ?_) | (refine WB.tv (i := 11) rfl (by kernel_rfl) (by kernel_rfl) rfl (Gv.loadG0 rfl (by assumption) rfl) ?_) | (refine WB.tv (i := 11) rfl (by kernel_rfl) (by kernel_rfl) rfl (Gv.loadGN rfl (by assumption) rfl) ?_))
  refine WB.one (i := 9) (by kernel_rfl) rfl (by kernel_rfl) (OW.callK rfl (Outcome_fn G CA1 PA1 cc1 pc1 cn1 pn1 c31 mb s _ hM hmd (by omega)) rfl fun v' G' H' h hg => ?_)
  obtain ⟨A1, cap1, x1, he, rfl, hx1, rfl⟩ := h
  cases he
  refine ⟨fun w hw => hw.pk (by repeat (first | exact Pk.nil | exact Pk.all | exact Pk.app | exact Pk.appR | with_reducible apply Pk.na | (apply Pk.cons; (repeat first | exact .here | apply Rem.there | apply Rem.app)) | apply Pk.skip | apply Pk.skipA)), ?_⟩
  refine WB.one (i := 12) (by kernel_rfl) rfl (by kernel_rfl) (OW.callK rfl (same_fn _ [x1, x] A1 OA cap1 oc s.oc s.oc (Vec.rds hx1 .here) (Vec.rds hR.out (.there .here)) (by show s.out.length ≤ _; omega)) rfl fun v' G' H' h hg => ?_)
  obtain ⟨he, rfl, rfl⟩ := h
  cases he
  rw [sameO_refl]
  refine ⟨fun w hw => hw.pk (by repeat (first | exact Pk.nil | exact Pk.all | exact Pk.app | exact Pk.appR | with_reducible apply Pk.na | (apply Pk.cons; (repeat first | exact .here | apply Rem.there | apply Rem.app)) | apply Pk.skip | apply Pk.skipA)), ?_⟩
  refine WB.tp (i := 13) rfl (by kernel_rfl) (by kernel_rfl) rfl (Gp.notB rfl) ?_
  (first | refine WB.tp (i := 14) rfl (by kernel_rfl) (by kernel_rfl) rfl (Gp.pickT rfl rfl) ?_ | refine WB.tp (i := 14) rfl (by kernel_rfl) (by kernel_rfl) rfl (Gp.pickF rfl rfl) ?_)
  refine WB.tp (i := 15) rfl (by kernel_rfl) (by kernel_rfl) rfl (Gp.move rfl) ?_
  refine WB.tp (i := 16) rfl (by kernel_rfl) (by kernel_rfl) rfl (Gp.move rfl) ?_
  refine WB.tp (i := 18) rfl (by kernel_rfl) (by kernel_rfl) rfl (Gp.fieldAddr rfl) ?_
  (first | (refine WB.tv (i := 19) rfl (by kernel_rfl) (by kernel_rfl) rfl (Gv.load1 rfl (by (repeat first | exact .here | apply At.there)) (by first | rfl | assumption)) ?_) | (refine WB.tv (i := 19) rfl (by kernel_rfl) (by kernel_rfl) rfl (Gv.loadN rfl (by (repeat first | exact .here | apply At.there)) (by rfl) (by rfl)) ?_) | (refine WB.tv (i := 19) rfl (by kernel_rfl) (by kernel_rfl) rfl (Gv.loadG1 rfl (by assumption) rfl) ?_) | (refine WB.tv (i := 19) rfl (by kernel_rfl) (by kernel_rfl) rfl (Gv.loadG0 rfl (by assumption) rfl) ?_) | (refine WB.tv (i := 19) rfl (by kernel_rfl) (by kernel_rfl) rfl (Gv.loadGN rfl (by assumption) rfl) ?_))
  (first | refine WB.tp (i := 20) rfl (by kernel_rfl) (by kernel_rfl) rfl (Gp.lenSl rfl) ?_ | refine WB.tp (i := 20) rfl (by kernel_rfl) (by kernel_rfl) rfl (Gp.lenS rfl) ?_)
  refine WB.one (i := 17) (by kernel_rfl) rfl (by kernel_rfl) (OW.callK rfl (Depth_fn G CA1 PA1 cc1 pc1 cn1 pn1 c31 mb s _ hM) rfl fun v' G' H' h hg => ?_)
  obtain ⟨he, rfl, rfl⟩ := h
  cases he
  refine ⟨fun w hw => hw.pk (by repeat (first | exact Pk.nil | exact Pk.all | exact Pk.app | exact Pk.appR | with_reducible apply Pk.na | (apply Pk.cons; (repeat first | exact .here | apply Rem.there | apply Rem.app)) | apply Pk.skip | apply Pk.skipA)), ?_⟩
  refine WB.tp (i := 21) rfl (by kernel_rfl) (by kernel_rfl) rfl (Gp.neI' rfl rfl (show ((s.frames.length : Int) != s.frames.length) = false by simp)) ?_
  (first | refine WB.tp (i := 22) rfl (by kernel_rfl) (by kernel_rfl) rfl (Gp.pickT rfl rfl) ?_ | refine WB.tp (i := 22) rfl (by kernel_rfl) (by kernel_rfl) rfl (Gp.pickF rfl rfl) ?_)
  refine WB.tp (i := 23) rfl (by kernel_rfl) (by kernel_rfl) rfl (Gp.move rfl) ?_
  refine WB.tp (i := 24) rfl (by kernel_rfl) (by kernel_rfl) rfl (Gp.move rfl) ?_
  (first | (refine WB.tv (i := 26) rfl (by kernel_rfl) (by kernel_rfl) rfl (Gv.load1 rfl (by (repeat first | exact .here | apply At.there)) (by first | rfl | assumption)) ?_) | (refine WB.tv (i := 26) rfl (by kernel_rfl) (by kernel_rfl) rfl (Gv.loadN rfl (by (repeat first | exact .here | apply At.there)) (by rfl) (by rfl)) ?_) | (refine WB.tv (i := 26) rfl (by kernel_rfl) (by kernel_rfl) rfl (Gv.loadG1 rfl (by assumption) rfl) ?_) | (refine WB.tv (i := 26) rfl (by kernel_rfl) (by kernel_rfl) rfl (Gv.loadG0 rfl (by assumption) rfl) ?_) | (refine WB.tv (i := 26) rfl (by kernel_rfl) (by kernel_rfl) rfl (Gv.loadGN rfl (by assumption) rfl) ?_))
  refine WB.one (i := 25) (by kernel_rfl) rfl (by kernel_rfl) (OW.callK rfl (Spot_fn G CA1 PA1 cc1 pc1 cn1 pn1 c31 mb s _ hM hmd (by omega)) rfl fun v' G' H' h hg => ?_)
  obtain ⟨he, rfl, rfl⟩ := h
  cases he
  refine ⟨fun w hw => hw.pk (by repeat (first | exact Pk.nil | exact Pk.all | exact Pk.app | exact Pk.appR | with_reducible apply Pk.na | (apply Pk.cons; (repeat first | exact .here | apply Rem.there | apply Rem.app)) | apply Pk.skip | apply Pk.skipA)), ?_⟩
  refine WB.one (i := 27) (by kernel_rfl) rfl (by kernel_rfl) (OW.callK rfl (rspot_fn G pg CA PA QA qn cc pc qc s FA fc OA oc hR.fr (by omega)) rfl fun v' G' H' h hg => ?_)
  obtain ⟨he, rfl, rfl⟩ := h
  cases he
  refine ⟨fun w hw => hw.pk (by repeat (first | exact Pk.nil | exact Pk.all | exact Pk.app | exact Pk.appR | with_reducible apply Pk.na | (apply Pk.cons; (repeat first | exact .here | apply Rem.there | apply Rem.app)) | apply Pk.skip | apply Pk.skipA)), ?_⟩
  refine WB.tp (i := 28) rfl (by kernel_rfl) (by kernel_rfl) rfl (Gp.neSpot rfl rfl) ?_
  rw [decide_eq_true rfl]
  (first | refine WB.tp (i := 29) rfl (by kernel_rfl) (by kernel_rfl) rfl (Gp.pickT rfl rfl) ?_ | refine WB.tp (i := 29) rfl (by kernel_rfl) (by kernel_rfl) rfl (Gp.pickF rfl rfl) ?_)
  refine WB.done (by kernel_rfl) ?_
  refine WK.un ?_
  refine go ?_
  refine WC.drawS (Hs := [.blk b1 (.cells (mC pg CA PA QA qn cc pc qc s FA fc OA oc) 70 (0, 0))]) mixed (by repeat (first | exact Pk.nil | exact Pk.all | exact Pk.app | exact Pk.appR | with_reducible apply Pk.na | (apply Pk.cons; (repeat first | exact .here | apply Rem.there | apply Rem.app)) | apply Pk.skip | apply Pk.skipA)) ?_
  refine WB.tp (i := 0) rfl (by kernel_rfl) (by kernel_rfl) rfl (Gp.move rfl) ?_
  (first | (refine WB.tv (i := 2) rfl (by kernel_rfl) (by kernel_rfl) rfl (Gv.load1 rfl (by (repeat first | exact .here | apply At.there)) (by first | rfl | assumption)) ?_) | (refine WB.tv (i := 2) rfl (by kernel_rfl) (by kernel_rfl) rfl (Gv.loadN rfl (by (repeat first | exact .here | apply At.there)) (by rfl) (by rfl)) ?_) | (refine WB.tv (i := 2) rfl (by kernel_rfl) (by kernel_rfl) rfl (Gv.loadG1 rfl (by assumption) rfl) ?_) | (refine WB.tv (i := 2) rfl (by kernel_rfl) (by kernel_rfl) rfl (Gv.loadG0 rfl (by assumption) rfl) ?_) | (refine WB.tv (i := 2) rfl (by kernel_rfl) (by kernel_rfl) rfl (Gv.loadGN rfl (by assumption) rfl) ?_))
  refine WB.one (i := 1) (by kernel_rfl) rfl (by kernel_rfl) (OW.callK rfl (Vars_fn G CA1 PA1 cc1 pc1 cn1 pn1 c31 mb s _ hM (by omega) (by omega)) rfl fun v' G' H' h hg => ?_)
  obtain ⟨A3, cap3, x3, he, rfl, hx3, rfl⟩ := h
  cases he
  refine ⟨fun w hw => hw.pk (by repeat (first | exact Pk.nil | exact Pk.all | exact Pk.app | exact Pk.appR | with_reducible apply Pk.na | (apply Pk.cons; (repeat first | exact .here | apply Rem.there | apply Rem.app)) | apply Pk.skip | apply Pk.skipA)), ?_⟩
  refine WB.one (i := 3) (by kernel_rfl) rfl (by kernel_rfl) (OW.callK rfl (rvars_fn G pg CA PA QA qn cc pc qc s FA fc OA oc hR.fr (by omega)) rfl fun v' G' H' h hg => ?_)
  obtain ⟨A4, cap4, he, rfl, hx4, rfl⟩ := h
  cases he
  refine ⟨fun w hw => hw.pk (by repeat (first | exact Pk.nil | exact Pk.all | exact Pk.app | exact Pk.appR | with_reducible apply Pk.na | (apply Pk.cons; (repeat first | exact .here | apply Rem.there | apply Rem.app)) | apply Pk.skip | apply Pk.skipA)), ?_⟩
  refine WB.one (i := 4) (by kernel_rfl) rfl (by kernel_rfl) (OW.callK rfl (samevals_fn _ [x3] A3 A4 cap3 cap4 (topVars s) (topVars s) (Vec.rds hx3 .here) (Sl.vals hx4) (by omega)) rfl fun v' G' H' h hg => ?_)
  obtain ⟨he, rfl, rfl⟩ := h
  cases he
  rw [decide_eq_true rfl]
  refine ⟨fun w hw => hw.pk (by repeat (first | exact Pk.nil | exact Pk.all | exact Pk.app | exact Pk.appR | with_reducible apply Pk.na | (apply Pk.cons; (repeat first | exact .here | apply Rem.there | apply Rem.app)) | apply Pk.skip | apply Pk.skipA)), ?_⟩
  refine WB.tp (i := 5) rfl (by kernel_rfl) (by kernel_rfl) rfl (Gp.move rfl) ?_
  refine WB.tp (i := 6) rfl (by kernel_rfl) (by kernel_rfl) rfl (Gp.move rfl) ?_
  (first | (refine WB.tv (i := 8) rfl (by kernel_rfl) (by kernel_rfl) rfl (Gv.load1 rfl (by (repeat first | exact .here | apply At.there)) (by first | rfl | assumption)) ?_) | (refine WB.tv (i := 8) rfl (by kernel_rfl) (by kernel_rfl) rfl (Gv.loadN rfl (by (repeat first | exact .here | apply At.there)) (by rfl) (by rfl)) ?_) | (refine WB.tv (i := 8) rfl (by kernel_rfl) (by kernel_rfl) rfl (Gv.loadG1 rfl (by assumption) rfl) ?_) | (refine WB.tv (i := 8) rfl (by kernel_rfl) (by kernel_rfl) rfl (Gv.loadG0 rfl (by assumption) rfl) ?_) | (refine WB.tv (i := 8) rfl (by kernel_rfl) (by kernel_rfl) rfl (Gv.loadGN rfl (by assumption) rfl) ?_))
  refine WB.one (i := 7) (by kernel_rfl) rfl (by kernel_rfl) (OW.callK rfl (Stack_fn G CA1 PA1 cc1 pc1 cn1 pn1 c31 mb s _ hM (by omega) (by omega)) rfl fun v' G' H' h hg => ?_)
  obtain ⟨A5, cap5, x5, he, rfl, hx5, rfl⟩ := h
  cases he
  refine ⟨fun w hw => hw.pk (by repeat (first | exact Pk.nil | exact Pk.all | exact Pk.app | exact Pk.appR | with_reducible apply Pk.na | (apply Pk.cons; (repeat first | exact .here | apply Rem.there | apply Rem.app)) | apply Pk.skip | apply Pk.skipA)), ?_⟩
  refine WB.one (i := 9) (by kernel_rfl) rfl (by kernel_rfl) (OW.callK rfl (rstack_fn G pg CA PA QA qn cc pc qc s FA fc OA oc hR.fr (by omega)) rfl fun v' G' H' h hg => ?_)
  obtain ⟨A6, cap6, he, rfl, hx6, rfl⟩ := h
  cases he
  refine ⟨fun w hw => hw.pk (by repeat (first | exact Pk.nil | exact Pk.all | exact Pk.app | exact Pk.appR | with_reducible apply Pk.na | (apply Pk.cons; (repeat first | exact .here | apply Rem.there | apply Rem.app)) | apply Pk.skip | apply Pk.skipA)), ?_⟩
  refine WB.one (i := 10) (by kernel_rfl) rfl (by kernel_rfl) (OW.callK rfl (samevals_fn _ [x5] A5 A6 cap5 cap6 (topStack s) (topStack s) (Vec.rds hx5 .here) (Sl.vals hx6) (by omega)) rfl fun v' G' H' h hg => ?_)
  obtain ⟨he, rfl, rfl⟩ := h
  cases he
  rw [decide_eq_true rfl]
  refine ⟨fun w hw => hw.pk (by repeat (first | exact Pk.nil | exact Pk.all | exact Pk.app | exact Pk.appR | with_reducible apply Pk.na | (apply Pk.cons; (repeat first | exact .here | apply Rem.there | apply Rem.app)) | apply Pk.skip | apply Pk.skipA)), ?_⟩
  (first | refine WB.tp (i := 11) rfl (by kernel_rfl) (by kernel_rfl) rfl (Gp.pickT rfl rfl) ?_ | refine WB.tp (i := 11) rfl (by kernel_rfl) (by kernel_rfl) rfl (Gp.pickF rfl rfl) ?_)
  refine WB.tp (i := 12) rfl (by kernel_rfl) (by kernel_rfl) rfl (Gp.assign rfl) ?_
  refine WB.done (by kernel_rfl) ?_
  refine WK.un ?_
  refine WC.ret ?_
  refine WK.un ?_
  exact QF.p1 (.inl rfl) rfl (.tmp rfl) (⟨rfl, rfl, rfl⟩)
end
end Go.Proofs.Ytjgohbepageicaa.Gb
