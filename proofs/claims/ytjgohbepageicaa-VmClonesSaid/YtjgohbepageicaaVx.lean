/- Many steps. -/
import Derived.Test.YtjgohbepageicaaVw
namespace Go.Proofs.Ytjgohbepageicaa.Gb
open Go Go.Proofs
set_option linter.unusedVariables false
set_option linter.unusedSimpArgs false
set_option linter.unusedSectionVars false
attribute [local irreducible] Try.prog

def Live (s : Mc) : Prop := s.ended = false → s.frames ≠ []
theorem Live.step {pg : Pg} {s : Mc} (h : Live s) : Live (stepM pg s) := by
  unfold stepM
  split
  · exact h
  · split
    · exact h
    · split
      · intro h'; cases h'
      · intro _ h'; cases h'
      · intro _ h'; cases h'
      · intro _ h'; cases h'
      · split
        · intro h'; cases h'
        · intro _ h'; cases h'
/-- so many steps at most -/
def runM (pg : Pg) : Nat → Mc → Nat × Mc
  | 0, s => (0, s)
  | n + 1, s => if s.ended then (0, s) else ((runM pg n (stepM pg s)).1 + 1, (runM pg n (stepM pg s)).2)
theorem runM_ended {pg : Pg} {s : Mc} (h : s.ended = true) : ∀ n, runM pg n s = (0, s)
  | 0 => rfl
  | n + 1 => by simp [runM, h]
theorem stepM_steps {pg : Pg} {s : Mc} : (stepM pg s).steps ≤ s.steps + 1 := by
  unfold stepM
  split
  · omega
  · split
    · omega
    · split <;> (try split) <;> simp
theorem stepM_steps1 {pg : Pg} {s : Mc} (hne : s.frames ≠ []) (hp : ∀ f ∈ s.frames, ∃ pr, pg.procs[f.proc]? = some pr ∧ f.pc ≤ pr.code.length) : (stepM pg s).steps = s.steps + 1 := by
  obtain ⟨frames, out, steps, en, val, ended⟩ := s
  cases frames with
  | nil => exact absurd rfl hne
  | cons f fs =>
    obtain ⟨pr, h1, _⟩ := hp f (by simp)
    simp only [stepM, h1]
    split <;> (try split) <;> rfl

section
variable (G : Gh) (pg : Pg) (CA PA : Option Addr) (cc pc : Nat) (hC : Sl Kd.val G CA pg.consts) (hP : Sl Kd.prc G PA pg.procs) (hcode : ∀ pr ∈ pg.procs, pr.code.length ≤ 90000000000000) (mb : Nat) (c3 : Value)
include hC hP hcode

theorem Step_fn (s : Mc) (H : List Own) (hR : MRep CA PA cc pc pg.consts.length pg.procs.length c3 mb s H) (hI : Inv pg s) (hv : Live s) (n : Int) (hn : n ≤ 1000000) (hst : s.steps + 1000000 ≤ 100000000000000) :
    Fn Try.prog 23 #[.pointer (some ⟨mb, 0, none⟩), .int .i64 n] G H fun e G' H' => e = .returned (.int .i64 (runM pg n.toNat s).1) ∧ G = G' ∧ MRep CA PA cc pc pg.consts.length pg.procs.length c3 mb (runM pg n.toNat s).2 H' := by
  have hm : madeB s = true := by
    unfold madeB
    cases he : s.ended with
    | true => simp
    | false => have := hv he; simp [List.length_pos_iff, this]
  refine Fn.enter Try.func23 rfl rfl fun w0 => ?_
  refine WC.seq ?_
  refine WC.region ?_
  refine WL.p (Gp.assign rfl) (by kernel_rfl) rfl ?_
  refine WL.nil ?_
  refine WK.un ?_
  refine WC.seq ?_
  refine WC.seq ?_
  refine WC.region ?_
  refine WL.p (Gp.move rfl) (by kernel_rfl) rfl ?_
  refine WL.op (by kernel_rfl) (OW.callK rfl (made_fn G CA PA cc pc pg.consts.length pg.procs.length c3 mb s H hR) rfl fun v' G' H' h hg => ?_)
  obtain ⟨he, rfl, rfl⟩ := h
  cases he
  rw [hm]
  refine WL.p (Gp.notB rfl) (by kernel_rfl) rfl ?_
  refine WL.nil ?_
  refine WK.un ?_
  refine WC.cond_false rfl ?_
  refine WC.skip ?_
  refine WK.un ?_
  refine WC.seq ?_
  refine WC.region ?_
  refine WL.p (Gp.assign rfl) (by kernel_rfl) rfl ?_
  refine WL.nil ?_
  refine WK.un ?_
  refine WC.seq ?_
  refine WC.block ?_  -- 0
  refine WC.loop (X := Nat × Mc × List Own) (fun x => [(5, .int .i64 x.1), (1, .int .i64 n), (0, .pointer (some ⟨mb, 0, none⟩))]) (fun x => G) (fun x => x.2.2) (fun x => n.toNat - x.1)
    (fun x => x.1 ≤ n.toNat ∧ MRep CA PA cc pc pg.consts.length pg.procs.length c3 mb x.2.1 x.2.2 ∧ Inv pg x.2.1 ∧ Live x.2.1 ∧ x.2.1.steps + (n.toNat - x.1) ≤ 100000000000000 ∧ runM pg n.toNat s = (x.1 + (runM pg (n.toNat - x.1) x.2.1).1, (runM pg (n.toNat - x.1) x.2.1).2))
    (0, s, H') ⟨by simp, hR, hI, hv, by simp only; omega, by simp⟩ (by exact ⟨rfl, rfl, rfl, trivial⟩) rfl (by simp) fun x hx => ?_
  obtain ⟨j, t, Ht⟩ := x
  obtain ⟨hj, hRt, hIt, hvt, hst', hrun⟩ := hx
  simp only at hj hRt hIt hvt hst' hrun
  have hRt0 := hRt
  obtain ⟨FA, fcap, OA, ocap, ox, fx, bs, Hf, hF, hfv, ho, rfl⟩ := hRt
  refine WC.seq ?_
  refine WC.seq ?_
  refine WC.region ?_
  refine WL.p (Gp.move rfl) (by kernel_rfl) rfl ?_
  refine WL.p (Gp.move rfl) (by kernel_rfl) rfl ?_
  by_cases hjn : (j : Int) < n
  rotate_left
  ·
    refine WL.p (Gp.ltI' rfl rfl (show decide ((j : Int) < n) = false from decide_eq_false hjn)) (by kernel_rfl) rfl ?_
    refine WL.p (Gp.move rfl) (by kernel_rfl) rfl ?_
    refine WL.skip (by kernel_rfl) rfl ?_
    refine WL.skip (by kernel_rfl) rfl ?_
    refine WL.skip (by kernel_rfl) rfl ?_
    refine WL.skip (by kernel_rfl) rfl ?_
    refine WL.skip (by kernel_rfl) rfl ?_
    (first | refine WL.p (Gp.pickT rfl rfl) (by kernel_rfl) rfl ?_ | refine WL.p (Gp.pickF rfl rfl) (by kernel_rfl) rfl ?_)
    refine WL.nil ?_
    refine WK.un ?_
    refine WC.cond_false rfl ?_
    refine WC.exit ?_
    refine WK.un ?_
    refine WC.seq ?_
    refine WC.region ?_
    refine WL.p (Gp.move rfl) (by kernel_rfl) rfl ?_
    refine WL.p (Gp.assign rfl) (by kernel_rfl) rfl ?_
    refine WL.nil ?_
    refine WK.un ?_
    have hj' : n.toNat - j = 0 := by omega
    rw [hj'] at hrun
    refine WC.ret ?_
    refine WK.un ?_
    exact QF.p1 (.inl rfl) rfl (.tmp rfl) (⟨by rw [hrun]; simp [runM], rfl, by rw [hrun]; exact hRt0⟩)
  refine WL.p (Gp.ltI' rfl rfl (show decide ((j : Int) < n) = true from decide_eq_true hjn)) (by kernel_rfl) rfl ?_
  refine WL.p (Gp.move rfl) (by kernel_rfl) rfl ?_
  refine WL.p (Gp.move rfl) (by kernel_rfl) rfl ?_
  refine WL.p (Gp.nilCheck rfl) (by kernel_rfl) rfl ?_
  refine WL.p (Gp.fieldAddr rfl) (by kernel_rfl) rfl ?_
  (first | (refine WL.v (Gv.load1 rfl (by (repeat first | exact .here | apply At.there)) (by first | rfl | assumption)) (by kernel_rfl) rfl ?_) | (refine WL.v (Gv.loadN rfl (by (repeat first | exact .here | apply At.there)) (by rfl) (by rfl)) (by kernel_rfl) rfl ?_) | (refine WL.v (Gv.loadG1 rfl (by assumption) rfl) (by kernel_rfl) rfl ?_) | (refine WL.v (Gv.loadG0 rfl (by assumption) rfl) (by kernel_rfl) rfl ?_) | (refine WL.v (Gv.loadGN rfl (by assumption) rfl) (by kernel_rfl) rfl ?_))
  cases hen : t.ended with
  | true =>
    refine WL.p (Gp.notB rfl) (by kernel_rfl) rfl ?_
    (first | refine WL.p (Gp.pickT rfl rfl) (by kernel_rfl) rfl ?_ | refine WL.p (Gp.pickF rfl rfl) (by kernel_rfl) rfl ?_)
    refine WL.nil ?_
    refine WK.un ?_
    refine WC.cond_false rfl ?_
    refine WC.exit ?_
    refine WK.un ?_
    refine WC.seq ?_
    refine WC.region ?_
    refine WL.p (Gp.move rfl) (by kernel_rfl) rfl ?_
    refine WL.p (Gp.assign rfl) (by kernel_rfl) rfl ?_
    refine WL.nil ?_
    refine WK.un ?_
    rw [runM_ended hen] at hrun
    rw [hen] at hRt0
    refine WC.ret ?_
    refine WK.un ?_
    exact QF.p1 (.inl rfl) rfl (.tmp rfl) (⟨by rw [hrun]; simp, rfl, by rw [hrun]; exact hRt0⟩)
  | false =>
    refine WL.p (Gp.notB rfl) (by kernel_rfl) rfl ?_
    (first | refine WL.p (Gp.pickT rfl rfl) (by kernel_rfl) rfl ?_ | refine WL.p (Gp.pickF rfl rfl) (by kernel_rfl) rfl ?_)
    refine WL.nil ?_
    refine WK.un ?_
    refine WC.cond_true rfl ?_
    refine WC.skip ?_
    refine WK.un ?_
    refine WC.block ?_  -- 1
    refine WC.seq ?_
    refine WC.region ?_
    refine WL.p (Gp.move rfl) (by kernel_rfl) rfl ?_
    have hne := hvt hen
    rw [hen] at hRt0
    have hs1 := stepM_steps1 hne hIt.procs
    refine WL.op (by kernel_rfl) (OW.callK rfl (stepM_fn G pg CA PA cc pc hC hP mb c3 t _ hRt0 (hIt.bd hcode (by omega)) hne) rfl fun v' G' H' h hg => ?_)
    obtain ⟨he, rfl, hR'⟩ := h
    cases he
    refine WL.nil ?_
    refine WK.un ?_
    refine WC.region ?_
    refine WL.p (Gp.move rfl) (by kernel_rfl) rfl ?_
    (first | refine WL.p (Gp.add rfl rfl) (by kernel_rfl) rfl ?_ | refine WL.p (Gp.addS rfl rfl (by first | assumption | omega)) (by kernel_rfl) rfl ?_)
    refine WL.p (Gp.assign rfl) (by kernel_rfl) rfl ?_
    refine WL.nil ?_
    refine WK.un ?_
    obtain ⟨m, hm'⟩ : ∃ m, n.toNat - j = m + 1 := ⟨n.toNat - j - 1, by omega⟩
    have hm2 : n.toNat - (j + 1) = m := by omega
    have hrun' : runM pg n.toNat s = (j + 1 + (runM pg (n.toNat - (j + 1)) (stepM pg t)).1, (runM pg (n.toNat - (j + 1)) (stepM pg t)).2) := by
      rw [hrun, hm', hm2, runM, hen]
      simp; omega
    refine WK.pk (H' := H') (by repeat (first | exact Pk.nil | exact Pk.all | exact Pk.app | exact Pk.appR | with_reducible apply Pk.na | (apply Pk.cons; (repeat first | exact .here | apply Rem.there | apply Rem.app)) | apply Pk.skip | apply Pk.skipA)) ?_
    exact WK.again (j + 1, stepM pg t, H') (show n.toNat - (j + 1) < n.toNat - j by omega) ⟨show j + 1 ≤ n.toNat by omega, hR', hIt.step, hvt.step, by simp only; rw [hs1]; omega, hrun'⟩ (by refine ⟨?_, rfl, rfl, trivial⟩; show some _ = some _; rw [wrap_small (by omega) (by omega)]; rfl) rfl (List.Sublist.refl _)
end
end Go.Proofs.Ytjgohbepageicaa.Gb
