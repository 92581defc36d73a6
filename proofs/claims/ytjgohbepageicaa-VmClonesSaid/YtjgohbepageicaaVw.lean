/- Many steps; what a machine tells. -/
import Derived.Test.YtjgohbepageicaaVv
namespace Go.Proofs.Ytjgohbepageicaa.Gb
open Go Go.Proofs
set_option linter.unusedVariables false
set_option linter.unusedSimpArgs false
set_option linter.unusedSectionVars false
attribute [local irreducible] Try.prog

def madeB (s : Mc) : Bool := decide (0 < s.frames.length) || s.ended
theorem ptrM : Try.prog.underlying 57 = some (.pointer (Try.prog.pointee 57)) := by kernel_rfl

theorem made_nil (G : Gh) : Fn Try.prog 39 #[.pointer none] G [] fun e G' H' => e = .returned (.bool false) ∧ G = G' ∧ H' = [] := by
  refine Fn.enter Try.func39 rfl rfl fun w0 => ?_
  refine WC.seq ?_
  refine WC.region ?_
  refine WL.p (Gp.assign rfl) (by kernel_rfl) rfl ?_
  refine WL.nil ?_
  refine WK.un ?_
  refine WC.seq ?_
  refine WC.region ?_
  refine WL.p (Gp.move rfl) (by kernel_rfl) rfl ?_
  refine WL.p (Gp.nePtrNil rfl ptrM) (by kernel_rfl) rfl ?_
  refine WL.p (Gp.move rfl) (by kernel_rfl) rfl ?_
  refine WL.skip (by kernel_rfl) rfl ?_
  refine WL.skip (by kernel_rfl) rfl ?_
  refine WL.skip (by kernel_rfl) rfl ?_
  refine WL.skip (by kernel_rfl) rfl ?_
  refine WL.skip (by kernel_rfl) rfl ?_
  refine WL.skip (by kernel_rfl) rfl ?_
  refine WL.skip (by kernel_rfl) rfl ?_
  refine WL.skip (by kernel_rfl) rfl ?_
  refine WL.skip (by kernel_rfl) rfl ?_
  refine WL.skip (by kernel_rfl) rfl ?_
  refine WL.skip (by kernel_rfl) rfl ?_
  refine WL.skip (by kernel_rfl) rfl ?_
  (first | refine WL.p (Gp.pickT rfl rfl) (by kernel_rfl) rfl ?_ | refine WL.p (Gp.pickF rfl rfl) (by kernel_rfl) rfl ?_)
  refine WL.p (Gp.assign rfl) (by kernel_rfl) rfl ?_
  refine WL.nil ?_
  refine WK.un ?_
  refine WC.ret ?_
  refine WK.un ?_
  exact QF.p1 (.inl rfl) rfl (.tmp rfl) (⟨rfl, rfl, rfl⟩)

section
variable (G : Gh) (CA PA : Option Addr) (cc pc cn pn : Nat) (c3 : Value) (mb : Nat)

theorem made_fn (s : Mc) (H : List Own) (hR : MRep CA PA cc pc cn pn c3 mb s H) :
    Fn Try.prog 39 #[.pointer (some ⟨mb, 0, none⟩)] G H fun e G' H' => e = .returned (.bool (madeB s)) ∧ G = G' ∧ H' = H := by
  obtain ⟨FA, fcap, OA, ocap, ox, fx, bs, Hf, hF, hfv, ho, rfl⟩ := hR
  have hlen := hF.len
  have hl2 : bs.reverse.length = s.frames.length := by simp [hlen]
  rw [hl2]
  refine Fn.enter Try.func39 rfl rfl fun w0 => ?_
  refine WC.seq ?_
  refine WC.region ?_
  refine WL.p (Gp.assign rfl) (by kernel_rfl) rfl ?_
  refine WL.nil ?_
  refine WK.un ?_
  refine WC.seq ?_
  refine WC.region ?_
  refine WL.p (Gp.move rfl) (by kernel_rfl) rfl ?_
  refine WL.p (Gp.nePtrNil rfl ptrM) (by kernel_rfl) rfl ?_
  refine WL.p (Gp.move rfl) (by kernel_rfl) rfl ?_
  refine WL.p (Gp.move rfl) (by kernel_rfl) rfl ?_
  refine WL.p (Gp.nilCheck rfl) (by kernel_rfl) rfl ?_
  refine WL.p (Gp.fieldAddr rfl) (by kernel_rfl) rfl ?_
  (first | (refine WL.v (Gv.load1 rfl (by (repeat first | exact .here | apply At.there)) (by first | rfl | assumption)) (by kernel_rfl) rfl ?_) | (refine WL.v (Gv.loadN rfl (by (repeat first | exact .here | apply At.there)) (by rfl) (by rfl)) (by kernel_rfl) rfl ?_) | (refine WL.v (Gv.loadG1 rfl (by assumption) rfl) (by kernel_rfl) rfl ?_) | (refine WL.v (Gv.loadG0 rfl (by assumption) rfl) (by kernel_rfl) rfl ?_) | (refine WL.v (Gv.loadGN rfl (by assumption) rfl) (by kernel_rfl) rfl ?_))
  (first | refine WL.p (Gp.lenSl rfl) (by kernel_rfl) rfl ?_ | refine WL.p (Gp.lenS rfl) (by kernel_rfl) rfl ?_)
  by_cases hf : 0 < s.frames.length
  ·
    refine WL.p (Gp.gtI' rfl rfl (show decide ((0 : Int) < (s.frames.length : Int)) = true from decide_eq_true (by omega))) (by kernel_rfl) rfl ?_
    refine WL.p (Gp.move rfl) (by kernel_rfl) rfl ?_
    refine WL.skip (by kernel_rfl) rfl ?_
    refine WL.skip (by kernel_rfl) rfl ?_
    refine WL.skip (by kernel_rfl) rfl ?_
    refine WL.skip (by kernel_rfl) rfl ?_
    (first | refine WL.p (Gp.pickT rfl rfl) (by kernel_rfl) rfl ?_ | refine WL.p (Gp.pickF rfl rfl) (by kernel_rfl) rfl ?_)
    (first | refine WL.p (Gp.pickT rfl rfl) (by kernel_rfl) rfl ?_ | refine WL.p (Gp.pickF rfl rfl) (by kernel_rfl) rfl ?_)
    refine WL.p (Gp.assign rfl) (by kernel_rfl) rfl ?_
    refine WL.nil ?_
    refine WK.un ?_
    refine WC.ret ?_
    refine WK.un ?_
    exact QF.p1 (.inl rfl) rfl (.tmp rfl) (⟨by simp [madeB, hf], rfl, rfl⟩)
  ·
    refine WL.p (Gp.gtI' rfl rfl (show decide ((0 : Int) < (s.frames.length : Int)) = false from decide_eq_false (by omega))) (by kernel_rfl) rfl ?_
    refine WL.p (Gp.move rfl) (by kernel_rfl) rfl ?_
    refine WL.p (Gp.move rfl) (by kernel_rfl) rfl ?_
    refine WL.p (Gp.nilCheck rfl) (by kernel_rfl) rfl ?_
    refine WL.p (Gp.fieldAddr rfl) (by kernel_rfl) rfl ?_
    (first | (refine WL.v (Gv.load1 rfl (by (repeat first | exact .here | apply At.there)) (by first | rfl | assumption)) (by kernel_rfl) rfl ?_) | (refine WL.v (Gv.loadN rfl (by (repeat first | exact .here | apply At.there)) (by rfl) (by rfl)) (by kernel_rfl) rfl ?_) | (refine WL.v (Gv.loadG1 rfl (by assumption) rfl) (by kernel_rfl) rfl ?_) | (refine WL.v (Gv.loadG0 rfl (by assumption) rfl) (by kernel_rfl) rfl ?_) | (refine WL.v (Gv.loadGN rfl (by assumption) rfl) (by kernel_rfl) rfl ?_))
    (first | refine WL.p (Gp.pickT rfl rfl) (by kernel_rfl) rfl ?_ | refine WL.p (Gp.pickF rfl rfl) (by kernel_rfl) rfl ?_)
    (first | refine WL.p (Gp.pickT rfl rfl) (by kernel_rfl) rfl ?_ | refine WL.p (Gp.pickF rfl rfl) (by kernel_rfl) rfl ?_)
    refine WL.p (Gp.assign rfl) (by kernel_rfl) rfl ?_
    refine WL.nil ?_
    refine WK.un ?_
    refine WC.ret ?_
    refine WK.un ?_
    exact QF.p1 (.inl rfl) rfl (.tmp rfl) (⟨by simp [madeB, hf], rfl, rfl⟩)

theorem Step_unmade (s : Mc) (H : List Own) (hR : MRep CA PA cc pc cn pn c3 mb s H) (hm : madeB s = false) (n : Int) :
    Fn Try.prog 23 #[.pointer (some ⟨mb, 0, none⟩), .int .i64 n] G H fun e G' H' => e = .returned (.int .i64 0) ∧ G = G' ∧ H' = H := by
  refine Fn.enter Try.func23 rfl rfl fun w0 => ?_
  refine WC.seq ?_
  refine WC.region ?_
  refine WL.p (Gp.assign rfl) (by kernel_rfl) rfl ?_
  refine WL.nil ?_
  refine WK.un ?_
  refine WC.seq ?_
  refine WC.seq ?_
  refine WC.region ?_
  refine WL.p (Gp.move rfl) (by kernel_rfl) rfl ?_
  refine WL.op (by kernel_rfl) (OW.callK rfl (made_fn G CA PA cc pc cn pn c3 mb s H hR) rfl fun v' G' H' h hg => ?_)
  obtain ⟨he, rfl, rfl⟩ := h
  cases he
  rw [hm]
  refine WL.p (Gp.notB rfl) (by kernel_rfl) rfl ?_
  refine WL.nil ?_
  refine WK.un ?_
  refine WC.cond_true rfl ?_
  refine WC.seq ?_
  refine WC.region ?_
  refine WL.p (Gp.assign rfl) (by kernel_rfl) rfl ?_
  refine WL.nil ?_
  refine WK.un ?_
  refine WC.ret ?_
  refine WK.un ?_
  exact QF.p1 (.inl rfl) rfl (.tmp rfl) (⟨rfl, rfl, rfl⟩)
theorem Step_nil (n : Int) : Fn Try.prog 23 #[.pointer none, .int .i64 n] G [] fun e G' H' => e = .returned (.int .i64 0) ∧ G = G' ∧ H' = [] := by
  refine Fn.enter Try.func23 rfl rfl fun w0 => ?_
  refine WC.seq ?_
  refine WC.region ?_
  refine WL.p (Gp.assign rfl) (by kernel_rfl) rfl ?_
  refine WL.nil ?_
  refine WK.un ?_
  refine WC.seq ?_
  refine WC.seq ?_
  refine WC.region ?_
  refine WL.p (Gp.move rfl) (by kernel_rfl) rfl ?_
  refine WL.op (by kernel_rfl) (OW.callK rfl (made_nil G) rfl fun v' G' H' h hg => ?_)
  obtain ⟨he, rfl, rfl⟩ := h
  cases he
  refine WL.p (Gp.notB rfl) (by kernel_rfl) rfl ?_
  refine WL.nil ?_
  refine WK.un ?_
  refine WC.cond_true rfl ?_
  refine WC.seq ?_
  refine WC.region ?_
  refine WL.p (Gp.assign rfl) (by kernel_rfl) rfl ?_
  refine WL.nil ?_
  refine WK.un ?_
  refine WC.ret ?_
  refine WK.un ?_
  exact QF.p1 (.inl rfl) rfl (.tmp rfl) (⟨rfl, rfl, rfl⟩)
end
end Go.Proofs.Ytjgohbepageicaa.Gb
