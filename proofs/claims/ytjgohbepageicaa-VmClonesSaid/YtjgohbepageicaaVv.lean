/- What holds of a machine at each step. -/
import Derived.Test.YtjgohbepageicaaVu
namespace Go.Proofs.Ytjgohbepageicaa.Gb
open Go Go.Proofs
set_option linter.unusedVariables false
set_option linter.unusedSimpArgs false
set_option linter.unusedSectionVars false
attribute [local irreducible] Try.prog

def AllOK (l : List V) : Prop := ∀ v ∈ l, vOK v = true
def VarsOK (l : List V) : Prop := ∀ v ∈ l, vOK v = true ∨ v = V0
theorem AllOK.snoc {l : List V} {v : V} (h : AllOK l) (hv : vOK v = true) : AllOK (l ++ [v]) := by
  intro u hu
  rcases List.mem_append.1 hu with hu | hu
  · exact h u hu
  · rw [List.mem_singleton] at hu; subst hu; exact hv
theorem AllOK.left {l r : List V} (h : AllOK (l ++ r)) : AllOK l := fun v hv => h v (List.mem_append_left _ hv)
theorem AllOK.right {l r : List V} (h : AllOK (l ++ r)) : AllOK r := fun v hv => h v (List.mem_append_right _ hv)
theorem vOK_truth (b : Bool) : vOK (truthV b) = true := by simp [vOK, truthV, bytes_beq]
theorem vOK_num (n : Int) : vOK (numV n) = true := by simp [vOK, numV, bytes_beq]
theorem vOK_text {s : ByteArray} (h : s.size ≤ 4096) : vOK (textV s) = true := by
  unfold vOK
  rw [if_neg (show ¬ (textV s).t = 1 from (by decide : ¬ (3 : Int) = 1)), if_neg (show ¬ (textV s).t = 2 from (by decide : ¬ (3 : Int) = 2)), if_pos (show (textV s).t = 3 from rfl)]
  show ((0 : Int) == 0 && !false && decide ((s.size : Int) ≤ 4096)) = true
  simp; omega
theorem vOK_size {v : V} (h : vOK v = true) : v.s.size ≤ 4096 := by
  unfold vOK at h
  split at h
  · simp [bytes_beq] at h; rw [h.2]; decide
  · split at h
    · simp [bytes_beq] at h; rw [h.2]; decide
    · split at h
      · simp at h; omega
      · cases h
theorem size_append (a b : ByteArray) : (a ++ b).size = a.size + b.size := ByteArray.size_append

/-- what is known of what an instruction comes to -/
def DOk (pg : Pg) (pr : Pr) (l : List V) (k : Nat) (vars : List V) (depth outn : Nat) : DR → Prop
  | .halt _ => True
  | .go l' k' vars' => l'.length ≤ 128 ∧ AllOK l' ∧ k' ≤ pr.code.length ∧ vars'.length = vars.length ∧ VarsOK vars'
  | .print l' v => l'.length ≤ 128 ∧ AllOK l' ∧ vOK v = true ∧ outn < 4096 ∧ k + 1 ≤ pr.code.length
  | .call q r args n => callR pg.procs l n depth = .ok (q, r, args) ∧ k + 1 ≤ pr.code.length
  | .leave r g => g = [] ∨ ∃ v, g = [v] ∧ vOK v = true ∧ pr.result ≠ 0

def POk (res : Int) (outn : Nat) : PR → Prop
  | .halt _ => True
  | .set l => l.length ≤ 128 ∧ AllOK l
  | .print l v => l.length ≤ 128 ∧ AllOK l ∧ vOK v = true ∧ outn < 4096
  | .leave l g => g = [] ∨ ∃ v, g = [v] ∧ vOK v = true ∧ res ≠ 0

section
variable {pg : Pg} {pr : Pr} {l vars : List V} {k depth outn : Nat} (hl : l.length ≤ 128) (ha : AllOK l) (hv : VarsOK vars)

theorem POk.ite {res : Int} {o : Nat} {p : Prop} [Decidable p] {a b : PR} (h1 : p → POk res o a) (h2 : ¬ p → POk res o b) : POk res o (if p then a else b) := by
  split
  · exact h1 ‹_›
  · exact h2 ‹_›
theorem DOk.ite {p : Prop} [Decidable p] {a b : DR} (h1 : p → DOk pg pr l k vars depth outn a) (h2 : ¬ p → DOk pg pr l k vars depth outn b) : DOk pg pr l k vars depth outn (if p then a else b) := by
  split
  · exact h1 ‹_›
  · exact h2 ‹_›
include hl ha in
theorem onA_ok {res : Int} {f : List V → V → PR} (hf : ∀ r v, l = r ++ [v] → POk res outn (f r v)) : POk res outn (onA l f) := by
  unfold onA
  split
  · trivial
  · rename_i r v h; exact hf r v (pop1_some h)
include hl ha in
theorem onB_ok {res : Int} {f : List V → V → V → PR} (hf : ∀ r u v, l = r ++ [u, v] → POk res outn (f r u v)) : POk res outn (onB l f) := by
  unfold onB
  split
  · trivial
  · rename_i r u v h; exact hf r u v (pop2_some h)
include hl ha in
theorem on1_ok {res t : Int} {f : List V → V → PR} (hf : ∀ r v, l = r ++ [v] → v.t = t → POk res outn (f r v)) : POk res outn (on1 l t f) := by
  unfold on1
  split
  · trivial
  · rename_i r v h; exact hf r v (ty1_some h).1 (ty1_some h).2
include hl ha in
theorem on2_ok {res t : Int} {f : List V → V → V → PR} (hf : ∀ r u v, l = r ++ [u, v] → POk res outn (f r u v)) : POk res outn (on2 l t f) := by
  unfold on2
  split
  · trivial
  · rename_i r u v h; exact hf r u v (ty2_some h).1

include hl ha in
theorem plainR_ok (res c : Int) : POk res outn (plainR res l c outn) := by
  have h1 : ∀ r v, l = r ++ [v] → ∀ u, vOK u = true → POk res outn (.set (r ++ [u])) := by
    intro r v e u hu
    subst e
    simp at hl
    exact ⟨by simp; omega, ha.left.snoc hu⟩
  have h2 : ∀ r v v', l = r ++ [v, v'] → ∀ u, vOK u = true → POk res outn (.set (r ++ [u])) := by
    intro r v v' e u hu
    subst e
    simp at hl
    exact ⟨by simp; omega, ha.left.snoc hu⟩
  unfold plainR
  refine POk.ite (fun _ => ?_) (fun _ => ?_)
  · exact onA_ok hl ha fun r v e => by subst e; simp at hl; exact ⟨by omega, ha.left⟩
  refine POk.ite (fun _ => ?_) (fun _ => ?_)
  · split
    · exact .inl rfl
    · trivial
  refine POk.ite (fun _ => ?_) (fun _ => ?_)
  · split
    · trivial
    · rename_i hr
      exact on1_ok hl ha fun r v e _ => by subst e; exact .inr ⟨v, rfl, ha.right v (by simp), hr⟩
  refine POk.ite (fun _ => ?_) (fun _ => ?_)
  · exact onA_ok hl ha fun r v e => by
      subst e; simp at hl
      split
      · trivial
      · exact ⟨by omega, ha.left, ha.right v (by simp), by omega⟩
  refine POk.ite (fun _ => ?_) (fun _ => ?_)
  · exact onB_ok hl ha fun r u v e => by
      split
      · exact h2 r u v e _ (vOK_truth _)
      · trivial
  refine POk.ite (fun _ => ?_) (fun _ => ?_)
  · exact onB_ok hl ha fun r u v e => by
      split
      · exact h2 r u v e _ (vOK_truth _)
      · trivial
  refine POk.ite (fun _ => ?_) (fun _ => ?_)
  · exact on1_ok hl ha fun r v e _ => h1 r v e _ (vOK_truth _)
  refine POk.ite (fun _ => ?_) (fun _ => ?_)
  · exact on1_ok hl ha fun r v e _ => h1 r v e _ (vOK_num _)
  refine POk.ite (fun _ => ?_) (fun _ => ?_)
  · exact on2_ok hl ha fun r u v e => by
      split
      · trivial
      · exact h2 r u v e _ (vOK_text (by rw [size_append]; omega))
  refine POk.ite (fun _ => ?_) (fun _ => ?_)
  · exact onB_ok hl ha fun r u v e => by
      split
      · exact h2 r u v e _ (vOK_truth _)
      · trivial
  refine POk.ite (fun _ => ?_) (fun _ => ?_)
  · exact on1_ok hl ha fun r v e _ => h1 r v e _ (vOK_num _)
  refine POk.ite (fun _ => ?_) (fun _ => ?_)
  · exact on2_ok hl ha fun r u v e => by
      unfold recR
      split
      · trivial
      · exact h2 r u v e _ (vOK_num _)
  · trivial

include hl ha hv in
theorem doR_ok : DOk pg pr l k vars depth outn (doR pg pr l k vars depth outn) := by
  have hlay : ∀ v, vOK v = true → k + 1 ≤ pr.code.length → DOk pg pr l k vars depth outn (layR l k vars v) := by
    intro v h1 h2
    unfold layR
    split
    · trivial
    · exact ⟨by simp; omega, ha.snoc h1, h2, rfl, hv⟩
  unfold doR
  split
  · trivial
  · rename_i c n hc
    have hk : k + 1 ≤ pr.code.length := (List.getElem?_eq_some_iff.1 hc).1
    refine DOk.ite (fun _ => ?_) (fun _ => ?_)
    · unfold constR; split; · trivial
      split; · trivial
      split
      · exact hlay _ ‹_› hk
      · trivial
    refine DOk.ite (fun _ => ?_) (fun _ => ?_)
    · unfold loadR; split; · trivial
      split; · trivial
      rename_i v hg
      split
      · trivial
      · rename_i ht
        rcases hv v (List.mem_of_getElem? hg) with h | h
        · exact hlay _ h hk
        · subst h; exact absurd rfl ht
    refine DOk.ite (fun _ => ?_) (fun _ => ?_)
    · unfold storeR; split; · trivial
      split; · trivial
      rename_i r v hp
      obtain rfl := pop1_some hp
      simp at hl
      refine ⟨by omega, ha.left, hk, by simp, fun u hu => ?_⟩
      rcases List.mem_or_eq_of_mem_set hu with h | h
      · exact hv u h
      · subst h; exact .inl (ha.right _ (by simp))
    refine DOk.ite (fun _ => ?_) (fun _ => ?_)
    · unfold jumpR; split; · trivial
      · exact ⟨hl, ha, by omega, rfl, hv⟩
    refine DOk.ite (fun _ => ?_) (fun _ => ?_)
    · unfold unlessR; split; · trivial
      split; · trivial
      rename_i r v ht
      obtain ⟨rfl, _⟩ := ty1_some ht
      simp at hl
      refine ⟨by omega, ha.left, ?_, rfl, hv⟩
      split
      · exact hk
      · omega
    refine DOk.ite (fun _ => ?_) (fun _ => ?_)
    · unfold callD
      split
      · trivial
      · exact ⟨‹_›, hk⟩
    refine DOk.ite (fun _ => ?_) (fun _ => ?_)
    · trivial
    · unfold plainD
      have hp := plainR_ok (outn := outn) hl ha pr.result c
      split
      · trivial
      · rename_i e; rw [e] at hp; exact ⟨hp.1, hp.2, hk, rfl, hv⟩
      · rename_i e; rw [e] at hp; exact ⟨hp.1, hp.2.1, hp.2.2.1, hp.2.2.2, hk⟩
      · rename_i e; rw [e] at hp; exact hp
end

def Chn (pg : Pg) : List Fr → Prop
  | [] => True
  | [_] => True
  | f :: g :: r => (∀ pr, pg.procs[f.proc]? = some pr → pr.result ≠ 0 → g.stack.length < 128) ∧ Chn pg (g :: r)
structure Inv (pg : Pg) (s : Mc) : Prop where
  procs : ∀ f ∈ s.frames, ∃ pr, pg.procs[f.proc]? = some pr ∧ f.pc ≤ pr.code.length
  frames : s.frames.length ≤ 64
  stack : ∀ f ∈ s.frames, f.stack.length ≤ 128 ∧ f.vars.length ≤ 64 ∧ AllOK f.stack ∧ VarsOK f.vars
  chain : Chn pg s.frames
  out : s.out.length ≤ 4096 ∧ AllOK s.out

theorem Inv.step {pg : Pg} {s : Mc} (h : Inv pg s) : Inv pg (stepM pg s) := by
  obtain ⟨frames, out, steps, en, val, ended⟩ := s
  obtain ⟨h1, h2, h3, h4, h5⟩ := h
  simp only at h1 h2 h3 h4 h5
  unfold stepM
  cases frames with
  | nil => exact ⟨h1, h2, h3, h4, h5⟩
  | cons f fs =>
    obtain ⟨pr, hpr, hpc⟩ := h1 f (by simp)
    obtain ⟨hs1, hs2, hs3, hs4⟩ := h3 f (by simp)
    simp only [hpr]
    have hd := doR_ok (pg := pg) (pr := pr) (k := f.pc) (depth := fs.length + 1) (outn := out.length) hs1 hs3 hs4
    have hrest : ∀ g ∈ fs, (∃ pr, pg.procs[g.proc]? = some pr ∧ g.pc ≤ pr.code.length) ∧ g.stack.length ≤ 128 ∧ g.vars.length ≤ 64 ∧ AllOK g.stack ∧ VarsOK g.vars := fun g hg => ⟨h1 g (by simp [hg]), h3 g (by simp [hg])⟩
    have hch : ∀ f' : Fr, f'.proc = f.proc → Chn pg (f' :: fs) := by
      intro f' e
      cases fs with
      | nil => trivial
      | cons g r => exact ⟨by rw [e]; exact h4.1, h4.2⟩
    have hone : ∀ f' : Fr, f'.proc = f.proc → f'.pc ≤ pr.code.length → f'.stack.length ≤ 128 → f'.vars.length ≤ 64 → AllOK f'.stack → VarsOK f'.vars →
        (∀ g ∈ f' :: fs, ∃ pr, pg.procs[g.proc]? = some pr ∧ g.pc ≤ pr.code.length) ∧ (∀ g ∈ f' :: fs, g.stack.length ≤ 128 ∧ g.vars.length ≤ 64 ∧ AllOK g.stack ∧ VarsOK g.vars) := by
      intro f' e1 e2 e3 e4 e5 e6
      refine ⟨fun g hg => ?_, fun g hg => ?_⟩
      · rcases List.mem_cons.1 hg with rfl | hg
        · exact ⟨pr, by rw [e1]; exact hpr, e2⟩
        · exact (hrest g hg).1
      · rcases List.mem_cons.1 hg with rfl | hg
        · exact ⟨e3, e4, e5, e6⟩
        · exact (hrest g hg).2
    cases hq : doR pg pr f.stack f.pc f.vars (fs.length + 1) out.length with
    | halt n => exact ⟨h1, h2, h3, h4, h5⟩
    | go l k vs =>
      rw [hq] at hd
      obtain ⟨d1, d2, d3, d4, d5⟩ := hd
      obtain ⟨a1, a2⟩ := hone ⟨f.proc, k, l, vs⟩ rfl d3 d1 (by simp only [d4]; exact hs2) d2 d5
      exact ⟨a1, h2, a2, hch _ rfl, h5⟩
    | print l v =>
      rw [hq] at hd
      obtain ⟨d1, d2, d3, d4, d5⟩ := hd
      obtain ⟨a1, a2⟩ := hone ⟨f.proc, f.pc + 1, l, f.vars⟩ rfl d5 d1 hs2 d2 hs4
      exact ⟨a1, h2, a2, hch _ rfl, by simp; omega, h5.2.snoc d3⟩
    | call q r args n =>
      rw [hq] at hd
      obtain ⟨c0, d5⟩ := hd
      obtain ⟨c1, c2, c3, c4, c5, c6, c7, c8⟩ := callR_ok c0
      have hsz : (q.params.length : Int) ≤ q.locals ∧ q.locals ≤ 64 := by unfold sizedP at c3; simpa using c3
      have hr : r.length ≤ 128 ∧ AllOK r := by rw [c4] at hs1 hs3; simp at hs1; exact ⟨by omega, hs3.left⟩
      obtain ⟨a1, a2⟩ := hone ⟨f.proc, f.pc + 1, r, f.vars⟩ rfl d5 hr.1 hs2 hr.2 hs4
      have hpl : (padded args q.locals).length ≤ 64 := by rw [padded_length (by omega)]; omega
      refine ⟨fun g hg => ?_, by simp at h2 ⊢; omega, fun g hg => ?_, ⟨fun pr' hp' hres => ?_, hch _ rfl⟩, h5⟩
      · rcases List.mem_cons.1 hg with rfl | hg
        · exact ⟨q, c2, by simp⟩
        · exact a1 g hg
      · rcases List.mem_cons.1 hg with rfl | hg
        · refine ⟨by simp, hpl, fun v hv => by simp at hv, fun v hv => ?_⟩
          rcases List.mem_append.1 hv with hv | hv
          · rw [c4] at hs3; exact .inl (hs3.right v hv)
          · exact .inr (List.eq_of_mem_replicate hv)
        · exact a2 g hg
      · rw [c2] at hp'; cases hp'; exact c8 hres
    | leave r g =>
      rw [hq] at hd
      cases fs with
      | nil => exact ⟨fun g hg => by simp at hg, by simp, fun g hg => by simp at hg, trivial, h5⟩
      | cons f0 fs' =>
        obtain ⟨⟨pr0, hpr0, hpc0⟩, b1, b2, b3, b4⟩ := hrest f0 (by simp)
        have hst : (f0.stack ++ g).length ≤ 128 ∧ AllOK (f0.stack ++ g) := by
          rcases hd with rfl | ⟨v, rfl, hv, hne⟩
          · simpa using ⟨b1, b3⟩
          · have := h4.1 pr hpr hne
            exact ⟨by simp; omega, b3.snoc hv⟩
        refine ⟨fun x hx => ?_, by simp at h2 ⊢; omega, fun x hx => ?_, ?_, h5⟩
        · rcases List.mem_cons.1 hx with rfl | hx
          · exact ⟨pr0, hpr0, hpc0⟩
          · exact (hrest x (by simp [hx])).1
        · rcases List.mem_cons.1 hx with rfl | hx
          · exact ⟨hst.1, b2, hst.2, b4⟩
          · exact (hrest x (by simp [hx])).2
        · cases fs' with
          | nil => trivial
          | cons g2 r2 => exact ⟨h4.2.1, h4.2.2⟩
theorem Inv.bd {pg : Pg} {s : Mc} (h : Inv pg s) (hc : ∀ pr ∈ pg.procs, pr.code.length ≤ 90000000000000) (hs : s.steps ≤ 100000000000000) : Bd pg s :=
  ⟨h.procs, hc, h.frames, fun f hf => by
    obtain ⟨h1, h2, h3, h4⟩ := h.stack f hf
    exact ⟨by omega, by omega, fun v hv => by have := vOK_size (h3 v hv); omega⟩, hs⟩
end Go.Proofs.Ytjgohbepageicaa.Gb
