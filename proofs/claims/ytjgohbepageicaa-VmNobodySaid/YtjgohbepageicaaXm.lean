/- Machines that nobody started do no harm: walked, and the statement proved. -/
import Derived.Test.YtjgohbepageicaaXl
import Derived.Test.YtjgohbepageicaaXd
import Derived.Test.YtjgohbepageicaaRows
import Derived.Test.YtjgohbepageicaaGm
import Derived.RowKit3
import Derived.WalkKit
import Derived.ProofKit
import Derived.OpenShut
namespace Go.Proofs.Ytjgohbepageicaa.Gb
open Go Go.Proofs
set_option linter.unusedVariables false
set_option linter.unusedSimpArgs false
set_option linter.unusedSectionVars false
attribute [local irreducible] Try.prog

def s00 : Mc := ⟨[], [], 0, 0, V0, false⟩
theorem s00_rep (mb : Nat) : MRep none none 0 0 0 0 (.slice none 0 0) mb s00 [mcB mb (.slice none 0 0) (.slice none 0 0) (.slice none 0 0) none 0 0 0 V0 none 0 0 0 false, .spare 0 0 0, .spare 0 0 0] :=
  ⟨none, 0, none, 0, .spare 0 0 0, .spare 0 0 0, [], [], .nil, ⟨rfl, .inl ⟨rfl, rfl, rfl, rfl⟩⟩, ⟨rfl, .inl ⟨rfl, rfl, rfl, rfl⟩⟩, rfl⟩

theorem nobody_fn (G : Gh) (n : Int) : Fn Try.prog 12 #[.int .i64 n] G [] fun e G' H' => e = .returned (.bool true) ∧ G.le G' ∧ H' = [] := by
  refine Fn.enter Try.func12 rfl rfl fun w0 => ?_
  refine WC.seq ?_
  refine WC.region ?_
  refine WL.p (Gp.assign rfl) (by kernel_rfl) rfl ?_
  refine WL.nil ?_
  repeat (first | with_reducible refine WK.thN ?_ | with_reducible refine WK.thR ?_ | with_reducible refine WK.thE ?_ | with_reducible refine WK.thP ?_ | with_reducible refine WK.blN ?_ | with_reducible refine WK.blR ?_ | with_reducible refine WK.blP ?_ | with_reducible refine WK.blE ?_ | with_reducible refine WK.blO rfl ?_ | with_reducible refine WK.thJ ?_)
  refine WC.seq ?_
  refine WC.region ?_
  refine WL.p (Gp.assign rfl) (by kernel_rfl) rfl ?_
  refine WL.nil ?_
  repeat (first | with_reducible refine WK.thN ?_ | with_reducible refine WK.thR ?_ | with_reducible refine WK.thE ?_ | with_reducible refine WK.thP ?_ | with_reducible refine WK.blN ?_ | with_reducible refine WK.blR ?_ | with_reducible refine WK.blP ?_ | with_reducible refine WK.blE ?_ | with_reducible refine WK.blO rfl ?_ | with_reducible refine WK.thJ ?_)
  refine WC.seq ?_
  refine WC.seq ?_
  refine WC.region ?_
  refine WL.p (Gp.assign rfl) (by kernel_rfl) rfl ?_
  refine WL.nil ?_
  repeat (first | with_reducible refine WK.thN ?_ | with_reducible refine WK.thR ?_ | with_reducible refine WK.thE ?_ | with_reducible refine WK.thP ?_ | with_reducible refine WK.blN ?_ | with_reducible refine WK.blR ?_ | with_reducible refine WK.blP ?_ | with_reducible refine WK.blE ?_ | with_reducible refine WK.blO rfl ?_ | with_reducible refine WK.thJ ?_)
  refine WC.block ?_  -- 0
  refine WC.loop (X := Nat) (fun i => [(4, .int .i64 (i : Int)), (3, .pointer none), (0, .int .i64 n)]) (fun _ => G) (fun _ => []) (fun i => 2 - i) (fun i => i ≤ 2) 0 (by decide) (by exact ⟨rfl, rfl, rfl, trivial⟩) rfl (List.Sublist.refl _) fun i hi => ?_
  match i, hi with
  | 0, _ =>
    refine WC.seq ?_
    refine WC.seq ?_
    refine WC.region ?_
    refine WL.p (Gp.move rfl) (by kernel_rfl) rfl ?_
    (first | refine WL.p (Gp.ltI rfl rfl) (by kernel_rfl) rfl ?_ | refine WL.p (Gp.ltS rfl rfl) (by kernel_rfl) rfl ?_)
    refine WL.nil ?_
    repeat (first | with_reducible refine WK.thN ?_ | with_reducible refine WK.thR ?_ | with_reducible refine WK.thE ?_ | with_reducible refine WK.thP ?_ | with_reducible refine WK.blN ?_ | with_reducible refine WK.blR ?_ | with_reducible refine WK.blP ?_ | with_reducible refine WK.blE ?_ | with_reducible refine WK.blO rfl ?_ | with_reducible refine WK.thJ ?_)
    refine WC.cond_true rfl ?_
    refine WC.skip ?_
    repeat (first | with_reducible refine WK.thN ?_ | with_reducible refine WK.thR ?_ | with_reducible refine WK.thE ?_ | with_reducible refine WK.thP ?_ | with_reducible refine WK.blN ?_ | with_reducible refine WK.blR ?_ | with_reducible refine WK.blP ?_ | with_reducible refine WK.blE ?_ | with_reducible refine WK.blO rfl ?_ | with_reducible refine WK.thJ ?_)
    refine WC.seq ?_
    refine WC.block ?_  -- 1
    refine WC.seq ?_
    refine WC.region ?_
    refine WL.p (Gp.move rfl) (by kernel_rfl) rfl ?_
    refine WL.p (Gp.assign rfl) (by kernel_rfl) rfl ?_
    refine WL.nil ?_
    repeat (first | with_reducible refine WK.thN ?_ | with_reducible refine WK.thR ?_ | with_reducible refine WK.thE ?_ | with_reducible refine WK.thP ?_ | with_reducible refine WK.blN ?_ | with_reducible refine WK.blR ?_ | with_reducible refine WK.blP ?_ | with_reducible refine WK.blE ?_ | with_reducible refine WK.blO rfl ?_ | with_reducible refine WK.thJ ?_)
    refine WC.seq ?_
    refine WC.seq ?_
    refine WC.region ?_
    refine WL.p (Gp.move rfl) (by kernel_rfl) rfl ?_
    (first | refine WL.p (Gp.eqI rfl rfl) (by kernel_rfl) rfl ?_ | refine WL.p (Gp.eqS rfl rfl) (by kernel_rfl) rfl ?_ | refine WL.p (Gp.nilSl rfl) (by kernel_rfl) rfl ?_ | refine WL.p (Gp.eqB rfl rfl) (by kernel_rfl) rfl ?_)
    refine WL.nil ?_
    repeat (first | with_reducible refine WK.thN ?_ | with_reducible refine WK.thR ?_ | with_reducible refine WK.thE ?_ | with_reducible refine WK.thP ?_ | with_reducible refine WK.blN ?_ | with_reducible refine WK.blR ?_ | with_reducible refine WK.blP ?_ | with_reducible refine WK.blE ?_ | with_reducible refine WK.blO rfl ?_ | with_reducible refine WK.thJ ?_)
    refine WC.cond_false rfl ?_
    refine WC.skip ?_
    repeat (first | with_reducible refine WK.thN ?_ | with_reducible refine WK.thR ?_ | with_reducible refine WK.thE ?_ | with_reducible refine WK.thP ?_ | with_reducible refine WK.blN ?_ | with_reducible refine WK.blR ?_ | with_reducible refine WK.blP ?_ | with_reducible refine WK.blE ?_ | with_reducible refine WK.blO rfl ?_ | with_reducible refine WK.thJ ?_)
    refine WC.seq ?_
    refine WC.region ?_
    refine WL.p (Gp.move rfl) (by kernel_rfl) rfl ?_
    refine WL.p (Gp.move rfl) (by kernel_rfl) rfl ?_
    refine WL.op (by kernel_rfl) (OW.callR rfl (Pk.perm (by repeat (first | exact Pk.nil | exact Pk.all | exact Pk.app | exact Pk.appR | with_reducible apply Pk.na | (apply Pk.cons; (repeat first | exact .here | apply Rem.there | apply Rem.app)) | apply Pk.skip | apply Pk.skipA))) (Step_nil G n) rfl (by intro e G' H' h; repeat (first | exact ⟨_, h.1⟩ | (obtain ⟨_, h⟩ := h))) fun v' G' H' h hg => ?_)
    obtain ⟨he, rfl, rfl⟩ := h
    cases he
    (first | refine WL.p (Gp.neI rfl rfl) (by kernel_rfl) rfl ?_ | refine WL.p (Gp.neS rfl rfl) (by kernel_rfl) rfl ?_ | refine WL.p (Gp.neB rfl rfl) (by kernel_rfl) rfl ?_)
    refine WL.p (Gp.move rfl) (by kernel_rfl) rfl ?_
    refine WL.p (Gp.move rfl) (by kernel_rfl) rfl ?_
    refine WL.op (by kernel_rfl) (OW.callR rfl (Pk.perm (by repeat (first | exact Pk.nil | exact Pk.all | exact Pk.app | exact Pk.appR | with_reducible apply Pk.na | (apply Pk.cons; (repeat first | exact .here | apply Rem.there | apply Rem.app)) | apply Pk.skip | apply Pk.skipA))) (Ended_nil G) rfl (by intro e G' H' h; repeat (first | exact ⟨_, h.1⟩ | (obtain ⟨_, h⟩ := h))) fun v' G' H' h hg => ?_)
    obtain ⟨he, rfl, rfl⟩ := h
    cases he
    (first | refine WL.p (Gp.pickT rfl rfl) (by kernel_rfl) rfl ?_ | refine WL.p (Gp.pickF rfl rfl) (by kernel_rfl) rfl ?_)
    refine WL.p (Gp.move rfl) (by kernel_rfl) rfl ?_
    refine WL.p (Gp.move rfl) (by kernel_rfl) rfl ?_
    refine WL.op (by kernel_rfl) (OW.callR rfl (Pk.perm (by repeat (first | exact Pk.nil | exact Pk.all | exact Pk.app | exact Pk.appR | with_reducible apply Pk.na | (apply Pk.cons; (repeat first | exact .here | apply Rem.there | apply Rem.app)) | apply Pk.skip | apply Pk.skipA))) (Outcome_nil G) rfl (by intro e G' H' h; repeat (first | exact ⟨_, h.1⟩ | (obtain ⟨_, h⟩ := h))) fun v' G' H' h hg => ?_)
    obtain ⟨he, rfl, rfl⟩ := h
    cases he
    refine WL.p (Gp.build rfl rfl) (by kernel_rfl) rfl ?_
    refine WL.op (by kernel_rfl) (OW.callR rfl (Pk.perm (by repeat (first | exact Pk.nil | exact Pk.all | exact Pk.app | exact Pk.appR | with_reducible apply Pk.na | (apply Pk.cons; (repeat first | exact .here | apply Rem.there | apply Rem.app)) | apply Pk.skip | apply Pk.skipA))) (same_fn G [] none none 0 0 Oc0 Oc0 (Rds.nil _ _ _) (Rds.nil _ _ _) (by simp [Oc0])) rfl (by intro e G' H' h; repeat (first | exact ⟨_, h.1⟩ | (obtain ⟨_, h⟩ := h))) fun v' G' H' h hg => ?_)
    obtain ⟨he, rfl, rfl⟩ := h
    cases he
    rw [sameO_refl]
    refine WL.p (Gp.notB rfl) (by kernel_rfl) rfl ?_
    (first | refine WL.p (Gp.pickT rfl rfl) (by kernel_rfl) rfl ?_ | refine WL.p (Gp.pickF rfl rfl) (by kernel_rfl) rfl ?_)
    refine WL.p (Gp.move rfl) (by kernel_rfl) rfl ?_
    refine WL.p (Gp.move rfl) (by kernel_rfl) rfl ?_
    refine WL.op (by kernel_rfl) (OW.callR rfl (Pk.perm (by repeat (first | exact Pk.nil | exact Pk.all | exact Pk.app | exact Pk.appR | with_reducible apply Pk.na | (apply Pk.cons; (repeat first | exact .here | apply Rem.there | apply Rem.app)) | apply Pk.skip | apply Pk.skipA))) (Spot_nil G) rfl (by intro e G' H' h; repeat (first | exact ⟨_, h.1⟩ | (obtain ⟨_, h⟩ := h))) fun v' G' H' h hg => ?_)
    obtain ⟨he, rfl, rfl⟩ := h
    cases he
    refine WL.p (Gp.build rfl rfl) (by kernel_rfl) rfl ?_
    refine WL.p (Gp.neSpot (a := 0) (b := 0) (c := 0) (f := 0) rfl rfl) (by kernel_rfl) rfl ?_
    (first | refine WL.p (Gp.pickT rfl rfl) (by kernel_rfl) rfl ?_ | refine WL.p (Gp.pickF rfl rfl) (by kernel_rfl) rfl ?_)
    refine WL.p (Gp.move rfl) (by kernel_rfl) rfl ?_
    refine WL.p (Gp.move rfl) (by kernel_rfl) rfl ?_
    refine WL.op (by kernel_rfl) (OW.callR rfl (Pk.perm (by repeat (first | exact Pk.nil | exact Pk.all | exact Pk.app | exact Pk.appR | with_reducible apply Pk.na | (apply Pk.cons; (repeat first | exact .here | apply Rem.there | apply Rem.app)) | apply Pk.skip | apply Pk.skipA))) (Depth_nil G) rfl (by intro e G' H' h; repeat (first | exact ⟨_, h.1⟩ | (obtain ⟨_, h⟩ := h))) fun v' G' H' h hg => ?_)
    obtain ⟨he, rfl, rfl⟩ := h
    cases he
    (first | refine WL.p (Gp.neI rfl rfl) (by kernel_rfl) rfl ?_ | refine WL.p (Gp.neS rfl rfl) (by kernel_rfl) rfl ?_ | refine WL.p (Gp.neB rfl rfl) (by kernel_rfl) rfl ?_)
    (first | refine WL.p (Gp.pickT rfl rfl) (by kernel_rfl) rfl ?_ | refine WL.p (Gp.pickF rfl rfl) (by kernel_rfl) rfl ?_)
    refine WL.p (Gp.move rfl) (by kernel_rfl) rfl ?_
    refine WL.p (Gp.move rfl) (by kernel_rfl) rfl ?_
    refine WL.op (by kernel_rfl) (OW.callR rfl (Pk.perm (by repeat (first | exact Pk.nil | exact Pk.all | exact Pk.app | exact Pk.appR | with_reducible apply Pk.na | (apply Pk.cons; (repeat first | exact .here | apply Rem.there | apply Rem.app)) | apply Pk.skip | apply Pk.skipA))) (Vars_nil G) rfl (by intro e G' H' h; repeat (first | exact ⟨_, h.1⟩ | (obtain ⟨_, h⟩ := h))) fun v' G' H' h hg => ?_)
    obtain ⟨he, rfl, rfl⟩ := h
    cases he
    (first | refine WL.p (Gp.lenSl rfl) (by kernel_rfl) rfl ?_ | refine WL.p (Gp.lenS rfl) (by kernel_rfl) rfl ?_)
    refine WL.p (Gp.move rfl) (by kernel_rfl) rfl ?_
    refine WL.op (by kernel_rfl) (OW.callR rfl (Pk.perm (by repeat (first | exact Pk.nil | exact Pk.all | exact Pk.app | exact Pk.appR | with_reducible apply Pk.na | (apply Pk.cons; (repeat first | exact .here | apply Rem.there | apply Rem.app)) | apply Pk.skip | apply Pk.skipA))) (Stack_nil G) rfl (by intro e G' H' h; repeat (first | exact ⟨_, h.1⟩ | (obtain ⟨_, h⟩ := h))) fun v' G' H' h hg => ?_)
    obtain ⟨he, rfl, rfl⟩ := h
    cases he
    (first | refine WL.p (Gp.lenSl rfl) (by kernel_rfl) rfl ?_ | refine WL.p (Gp.lenS rfl) (by kernel_rfl) rfl ?_)
    (first | refine WL.p (Gp.add rfl rfl) (by kernel_rfl) rfl ?_ | refine WL.p (Gp.addS rfl rfl (by first | assumption | omega)) (by kernel_rfl) rfl ?_)
    (first | refine WL.p (Gp.neI rfl rfl) (by kernel_rfl) rfl ?_ | refine WL.p (Gp.neS rfl rfl) (by kernel_rfl) rfl ?_ | refine WL.p (Gp.neB rfl rfl) (by kernel_rfl) rfl ?_)
    (first | refine WL.p (Gp.pickT rfl rfl) (by kernel_rfl) rfl ?_ | refine WL.p (Gp.pickF rfl rfl) (by kernel_rfl) rfl ?_)
    refine WL.p (Gp.move rfl) (by kernel_rfl) rfl ?_
    refine WL.p (Gp.move rfl) (by kernel_rfl) rfl ?_
    refine WL.op (by kernel_rfl) (OW.callR rfl (Pk.perm (by repeat (first | exact Pk.nil | exact Pk.all | exact Pk.app | exact Pk.appR | with_reducible apply Pk.na | (apply Pk.cons; (repeat first | exact .here | apply Rem.there | apply Rem.app)) | apply Pk.skip | apply Pk.skipA))) (Clone_nil G) rfl (by intro e G' H' h; repeat (first | exact ⟨_, h.1⟩ | (obtain ⟨_, h⟩ := h))) fun v' G' H' h hg => ?_)
    obtain ⟨he, rfl, rfl⟩ := h
    cases he
    refine WL.p (Gp.nePtrNil rfl ptrM) (by kernel_rfl) rfl ?_
    (first | refine WL.p (Gp.pickT rfl rfl) (by kernel_rfl) rfl ?_ | refine WL.p (Gp.pickF rfl rfl) (by kernel_rfl) rfl ?_)
    refine WL.nil ?_
    repeat (first | with_reducible refine WK.thN ?_ | with_reducible refine WK.thR ?_ | with_reducible refine WK.thE ?_ | with_reducible refine WK.thP ?_ | with_reducible refine WK.blN ?_ | with_reducible refine WK.blR ?_ | with_reducible refine WK.blP ?_ | with_reducible refine WK.blE ?_ | with_reducible refine WK.blO rfl ?_ | with_reducible refine WK.thJ ?_)
    refine WC.cond_false rfl ?_
    refine WC.skip ?_
    repeat (first | with_reducible refine WK.thN ?_ | with_reducible refine WK.thR ?_ | with_reducible refine WK.thE ?_ | with_reducible refine WK.thP ?_ | with_reducible refine WK.blN ?_ | with_reducible refine WK.blR ?_ | with_reducible refine WK.blP ?_ | with_reducible refine WK.blE ?_ | with_reducible refine WK.blO rfl ?_ | with_reducible refine WK.thJ ?_)
    refine WC.region ?_
    refine WL.p (Gp.move rfl) (by kernel_rfl) rfl ?_
    (first | refine WL.p (Gp.add rfl rfl) (by kernel_rfl) rfl ?_ | refine WL.p (Gp.addS rfl rfl (by first | assumption | omega)) (by kernel_rfl) rfl ?_)
    refine WL.p (Gp.assign rfl) (by kernel_rfl) rfl ?_
    refine WL.nil ?_
    repeat (first | with_reducible refine WK.thN ?_ | with_reducible refine WK.thR ?_ | with_reducible refine WK.thE ?_ | with_reducible refine WK.thP ?_ | with_reducible refine WK.blN ?_ | with_reducible refine WK.blR ?_ | with_reducible refine WK.blP ?_ | with_reducible refine WK.blE ?_ | with_reducible refine WK.blO rfl ?_ | with_reducible refine WK.thJ ?_)
    refine WK.pk (H' := []) (by repeat (first | exact Pk.nil | exact Pk.all | exact Pk.app | exact Pk.appR | with_reducible apply Pk.na | (apply Pk.cons; (repeat first | exact .here | apply Rem.there | apply Rem.app)) | apply Pk.skip | apply Pk.skipA)) ?_
    exact WK.again 1 (by decide) (show 1 ≤ 2 by decide) (by exact ⟨rfl, rfl, rfl, trivial⟩) rfl (List.Sublist.refl _)
  | 1, _ =>
    refine WC.seq ?_
    refine WC.seq ?_
    refine WC.region ?_
    refine WL.p (Gp.move rfl) (by kernel_rfl) rfl ?_
    (first | refine WL.p (Gp.ltI rfl rfl) (by kernel_rfl) rfl ?_ | refine WL.p (Gp.ltS rfl rfl) (by kernel_rfl) rfl ?_)
    refine WL.nil ?_
    repeat (first | with_reducible refine WK.thN ?_ | with_reducible refine WK.thR ?_ | with_reducible refine WK.thE ?_ | with_reducible refine WK.thP ?_ | with_reducible refine WK.blN ?_ | with_reducible refine WK.blR ?_ | with_reducible refine WK.blP ?_ | with_reducible refine WK.blE ?_ | with_reducible refine WK.blO rfl ?_ | with_reducible refine WK.thJ ?_)
    refine WC.cond_true rfl ?_
    refine WC.skip ?_
    repeat (first | with_reducible refine WK.thN ?_ | with_reducible refine WK.thR ?_ | with_reducible refine WK.thE ?_ | with_reducible refine WK.thP ?_ | with_reducible refine WK.blN ?_ | with_reducible refine WK.blR ?_ | with_reducible refine WK.blP ?_ | with_reducible refine WK.blE ?_ | with_reducible refine WK.blO rfl ?_ | with_reducible refine WK.thJ ?_)
    refine WC.seq ?_
    refine WC.block ?_  -- 1
    refine WC.seq ?_
    refine WC.region ?_
    refine WL.p (Gp.move rfl) (by kernel_rfl) rfl ?_
    refine WL.p (Gp.assign rfl) (by kernel_rfl) rfl ?_
    refine WL.nil ?_
    repeat (first | with_reducible refine WK.thN ?_ | with_reducible refine WK.thR ?_ | with_reducible refine WK.thE ?_ | with_reducible refine WK.thP ?_ | with_reducible refine WK.blN ?_ | with_reducible refine WK.blR ?_ | with_reducible refine WK.blP ?_ | with_reducible refine WK.blE ?_ | with_reducible refine WK.blO rfl ?_ | with_reducible refine WK.thJ ?_)
    refine WC.seq ?_
    refine WC.seq ?_
    refine WC.region ?_
    refine WL.p (Gp.move rfl) (by kernel_rfl) rfl ?_
    (first | refine WL.p (Gp.eqI rfl rfl) (by kernel_rfl) rfl ?_ | refine WL.p (Gp.eqS rfl rfl) (by kernel_rfl) rfl ?_ | refine WL.p (Gp.nilSl rfl) (by kernel_rfl) rfl ?_ | refine WL.p (Gp.eqB rfl rfl) (by kernel_rfl) rfl ?_)
    refine WL.nil ?_
    repeat (first | with_reducible refine WK.thN ?_ | with_reducible refine WK.thR ?_ | with_reducible refine WK.thE ?_ | with_reducible refine WK.thP ?_ | with_reducible refine WK.blN ?_ | with_reducible refine WK.blR ?_ | with_reducible refine WK.blP ?_ | with_reducible refine WK.blE ?_ | with_reducible refine WK.blO rfl ?_ | with_reducible refine WK.thJ ?_)
    refine WC.cond_true rfl ?_
    refine WC.region ?_
    refine WL.p (Gp.build rfl rfl) (by kernel_rfl) rfl ?_
    refine WL.op (by kernel_rfl) (OW.box rfl rfl fun b14 => ?_)
    refine WL.p (Gp.assign rfl) (by kernel_rfl) rfl ?_
    refine WL.nil ?_
    repeat (first | with_reducible refine WK.thN ?_ | with_reducible refine WK.thR ?_ | with_reducible refine WK.thE ?_ | with_reducible refine WK.thP ?_ | with_reducible refine WK.blN ?_ | with_reducible refine WK.blR ?_ | with_reducible refine WK.blP ?_ | with_reducible refine WK.blE ?_ | with_reducible refine WK.blO rfl ?_ | with_reducible refine WK.thJ ?_)
    refine WC.nothing ?_
    refine WC.nothing ?_
    refine WC.pk (H' := [mcB b14 (.slice none 0 0) (.slice none 0 0) (.slice none 0 0) none 0 0 0 V0 none 0 0 0 false, .spare 0 0 0, .spare 0 0 0]) (by repeat (first | exact Pk.nil | exact Pk.all | exact Pk.app | exact Pk.appR | with_reducible apply Pk.na | (apply Pk.cons; (repeat first | exact .here | apply Rem.there | apply Rem.app)) | apply Pk.skip | apply Pk.skipA)) ?_
    refine WC.seq ?_
    refine WC.region ?_
    refine WL.p (Gp.move rfl) (by kernel_rfl) rfl ?_
    refine WL.p (Gp.move rfl) (by kernel_rfl) rfl ?_
    refine WL.op (by kernel_rfl) (OW.callR rfl (Pk.perm (by repeat (first | exact Pk.nil | exact Pk.all | exact Pk.app | exact Pk.appR | with_reducible apply Pk.na | (apply Pk.cons; (repeat first | exact .here | apply Rem.there | apply Rem.app)) | apply Pk.skip | apply Pk.skipA))) (Step_unmade G none none 0 0 0 0 (.slice none 0 0) b14 s00 _ (s00_rep b14) rfl n) rfl (by intro e G' H' h; repeat (first | exact ⟨_, h.1⟩ | (obtain ⟨_, h⟩ := h))) fun v' G' H' h hg => ?_)
    obtain ⟨he, rfl, rfl⟩ := h
    cases he
    (first | refine WL.p (Gp.neI rfl rfl) (by kernel_rfl) rfl ?_ | refine WL.p (Gp.neS rfl rfl) (by kernel_rfl) rfl ?_ | refine WL.p (Gp.neB rfl rfl) (by kernel_rfl) rfl ?_)
    refine WL.p (Gp.move rfl) (by kernel_rfl) rfl ?_
    refine WL.p (Gp.move rfl) (by kernel_rfl) rfl ?_
    refine WL.op (by kernel_rfl) (OW.callR rfl (Pk.perm (by repeat (first | exact Pk.nil | exact Pk.all | exact Pk.app | exact Pk.appR | with_reducible apply Pk.na | (apply Pk.cons; (repeat first | exact .here | apply Rem.there | apply Rem.app)) | apply Pk.skip | apply Pk.skipA))) (Ended_un G none none 0 0 0 0 (.slice none 0 0) b14 s00 _ (s00_rep b14) rfl) rfl (by intro e G' H' h; repeat (first | exact ⟨_, h.1⟩ | (obtain ⟨_, h⟩ := h))) fun v' G' H' h hg => ?_)
    obtain ⟨he, rfl, rfl⟩ := h
    cases he
    (first | refine WL.p (Gp.pickT rfl rfl) (by kernel_rfl) rfl ?_ | refine WL.p (Gp.pickF rfl rfl) (by kernel_rfl) rfl ?_)
    refine WL.p (Gp.move rfl) (by kernel_rfl) rfl ?_
    refine WL.p (Gp.move rfl) (by kernel_rfl) rfl ?_
    refine WL.op (by kernel_rfl) (OW.callR rfl (Pk.perm (by repeat (first | exact Pk.nil | exact Pk.all | exact Pk.app | exact Pk.appR | with_reducible apply Pk.na | (apply Pk.cons; (repeat first | exact .here | apply Rem.there | apply Rem.app)) | apply Pk.skip | apply Pk.skipA))) (Outcome_un G none none 0 0 0 0 (.slice none 0 0) b14 s00 _ (s00_rep b14) rfl) rfl (by intro e G' H' h; repeat (first | exact ⟨_, h.1⟩ | (obtain ⟨_, h⟩ := h))) fun v' G' H' h hg => ?_)
    obtain ⟨he, rfl, rfl⟩ := h
    cases he
    refine WL.p (Gp.build rfl rfl) (by kernel_rfl) rfl ?_
    refine WL.op (by kernel_rfl) (OW.callR rfl (Pk.perm (by repeat (first | exact Pk.nil | exact Pk.all | exact Pk.app | exact Pk.appR | with_reducible apply Pk.na | (apply Pk.cons; (repeat first | exact .here | apply Rem.there | apply Rem.app)) | apply Pk.skip | apply Pk.skipA))) (same_fn G [] none none 0 0 Oc0 Oc0 (Rds.nil _ _ _) (Rds.nil _ _ _) (by simp [Oc0])) rfl (by intro e G' H' h; repeat (first | exact ⟨_, h.1⟩ | (obtain ⟨_, h⟩ := h))) fun v' G' H' h hg => ?_)
    obtain ⟨he, rfl, rfl⟩ := h
    cases he
    rw [sameO_refl]
    refine WL.p (Gp.notB rfl) (by kernel_rfl) rfl ?_
    (first | refine WL.p (Gp.pickT rfl rfl) (by kernel_rfl) rfl ?_ | refine WL.p (Gp.pickF rfl rfl) (by kernel_rfl) rfl ?_)
    refine WL.p (Gp.move rfl) (by kernel_rfl) rfl ?_
    refine WL.p (Gp.move rfl) (by kernel_rfl) rfl ?_
    refine WL.op (by kernel_rfl) (OW.callR rfl (Pk.perm (by repeat (first | exact Pk.nil | exact Pk.all | exact Pk.app | exact Pk.appR | with_reducible apply Pk.na | (apply Pk.cons; (repeat first | exact .here | apply Rem.there | apply Rem.app)) | apply Pk.skip | apply Pk.skipA))) (Spot_un G none none 0 0 0 0 (.slice none 0 0) b14 s00 _ (s00_rep b14) rfl) rfl (by intro e G' H' h; repeat (first | exact ⟨_, h.1⟩ | (obtain ⟨_, h⟩ := h))) fun v' G' H' h hg => ?_)
    obtain ⟨he, rfl, rfl⟩ := h
    cases he
    refine WL.p (Gp.build rfl rfl) (by kernel_rfl) rfl ?_
    refine WL.p (Gp.neSpot (a := 0) (b := 0) (c := 0) (f := 0) rfl rfl) (by kernel_rfl) rfl ?_
    (first | refine WL.p (Gp.pickT rfl rfl) (by kernel_rfl) rfl ?_ | refine WL.p (Gp.pickF rfl rfl) (by kernel_rfl) rfl ?_)
    refine WL.p (Gp.move rfl) (by kernel_rfl) rfl ?_
    refine WL.p (Gp.move rfl) (by kernel_rfl) rfl ?_
    refine WL.op (by kernel_rfl) (OW.callR rfl (Pk.perm (by repeat (first | exact Pk.nil | exact Pk.all | exact Pk.app | exact Pk.appR | with_reducible apply Pk.na | (apply Pk.cons; (repeat first | exact .here | apply Rem.there | apply Rem.app)) | apply Pk.skip | apply Pk.skipA))) (Depth_un G none none 0 0 0 0 (.slice none 0 0) b14 s00 _ (s00_rep b14) rfl) rfl (by intro e G' H' h; repeat (first | exact ⟨_, h.1⟩ | (obtain ⟨_, h⟩ := h))) fun v' G' H' h hg => ?_)
    obtain ⟨he, rfl, rfl⟩ := h
    cases he
    (first | refine WL.p (Gp.neI rfl rfl) (by kernel_rfl) rfl ?_ | refine WL.p (Gp.neS rfl rfl) (by kernel_rfl) rfl ?_ | refine WL.p (Gp.neB rfl rfl) (by kernel_rfl) rfl ?_)
    (first | refine WL.p (Gp.pickT rfl rfl) (by kernel_rfl) rfl ?_ | refine WL.p (Gp.pickF rfl rfl) (by kernel_rfl) rfl ?_)
    refine WL.p (Gp.move rfl) (by kernel_rfl) rfl ?_
    refine WL.p (Gp.move rfl) (by kernel_rfl) rfl ?_
    refine WL.op (by kernel_rfl) (OW.callR rfl (Pk.perm (by repeat (first | exact Pk.nil | exact Pk.all | exact Pk.app | exact Pk.appR | with_reducible apply Pk.na | (apply Pk.cons; (repeat first | exact .here | apply Rem.there | apply Rem.app)) | apply Pk.skip | apply Pk.skipA))) (Vars_un G none none 0 0 0 0 (.slice none 0 0) b14 s00 _ (s00_rep b14) rfl) rfl (by intro e G' H' h; repeat (first | exact ⟨_, h.1⟩ | (obtain ⟨_, h⟩ := h))) fun v' G' H' h hg => ?_)
    obtain ⟨he, rfl, rfl⟩ := h
    cases he
    (first | refine WL.p (Gp.lenSl rfl) (by kernel_rfl) rfl ?_ | refine WL.p (Gp.lenS rfl) (by kernel_rfl) rfl ?_)
    refine WL.p (Gp.move rfl) (by kernel_rfl) rfl ?_
    refine WL.op (by kernel_rfl) (OW.callR rfl (Pk.perm (by repeat (first | exact Pk.nil | exact Pk.all | exact Pk.app | exact Pk.appR | with_reducible apply Pk.na | (apply Pk.cons; (repeat first | exact .here | apply Rem.there | apply Rem.app)) | apply Pk.skip | apply Pk.skipA))) (Stack_un G none none 0 0 0 0 (.slice none 0 0) b14 s00 _ (s00_rep b14) rfl) rfl (by intro e G' H' h; repeat (first | exact ⟨_, h.1⟩ | (obtain ⟨_, h⟩ := h))) fun v' G' H' h hg => ?_)
    obtain ⟨he, rfl, rfl⟩ := h
    cases he
    (first | refine WL.p (Gp.lenSl rfl) (by kernel_rfl) rfl ?_ | refine WL.p (Gp.lenS rfl) (by kernel_rfl) rfl ?_)
    (first | refine WL.p (Gp.add rfl rfl) (by kernel_rfl) rfl ?_ | refine WL.p (Gp.addS rfl rfl (by first | assumption | omega)) (by kernel_rfl) rfl ?_)
    (first | refine WL.p (Gp.neI rfl rfl) (by kernel_rfl) rfl ?_ | refine WL.p (Gp.neS rfl rfl) (by kernel_rfl) rfl ?_ | refine WL.p (Gp.neB rfl rfl) (by kernel_rfl) rfl ?_)
    (first | refine WL.p (Gp.pickT rfl rfl) (by kernel_rfl) rfl ?_ | refine WL.p (Gp.pickF rfl rfl) (by kernel_rfl) rfl ?_)
    refine WL.p (Gp.move rfl) (by kernel_rfl) rfl ?_
    refine WL.p (Gp.move rfl) (by kernel_rfl) rfl ?_
    refine WL.op (by kernel_rfl) (OW.callR rfl (Pk.perm (by repeat (first | exact Pk.nil | exact Pk.all | exact Pk.app | exact Pk.appR | with_reducible apply Pk.na | (apply Pk.cons; (repeat first | exact .here | apply Rem.there | apply Rem.app)) | apply Pk.skip | apply Pk.skipA))) (Clone_un G none none 0 0 0 0 (.slice none 0 0) b14 s00 _ (s00_rep b14) rfl) rfl (by intro e G' H' h; repeat (first | exact ⟨_, h.1⟩ | (obtain ⟨_, h⟩ := h))) fun v' G' H' h hg => ?_)
    obtain ⟨he, rfl, rfl⟩ := h
    cases he
    refine WL.p (Gp.nePtrNil rfl ptrM) (by kernel_rfl) rfl ?_
    (first | refine WL.p (Gp.pickT rfl rfl) (by kernel_rfl) rfl ?_ | refine WL.p (Gp.pickF rfl rfl) (by kernel_rfl) rfl ?_)
    refine WL.nil ?_
    repeat (first | with_reducible refine WK.thN ?_ | with_reducible refine WK.thR ?_ | with_reducible refine WK.thE ?_ | with_reducible refine WK.thP ?_ | with_reducible refine WK.blN ?_ | with_reducible refine WK.blR ?_ | with_reducible refine WK.blP ?_ | with_reducible refine WK.blE ?_ | with_reducible refine WK.blO rfl ?_ | with_reducible refine WK.thJ ?_)
    refine WC.cond_false rfl ?_
    refine WC.skip ?_
    repeat (first | with_reducible refine WK.thN ?_ | with_reducible refine WK.thR ?_ | with_reducible refine WK.thE ?_ | with_reducible refine WK.thP ?_ | with_reducible refine WK.blN ?_ | with_reducible refine WK.blR ?_ | with_reducible refine WK.blP ?_ | with_reducible refine WK.blE ?_ | with_reducible refine WK.blO rfl ?_ | with_reducible refine WK.thJ ?_)
    refine WC.region ?_
    refine WL.p (Gp.move rfl) (by kernel_rfl) rfl ?_
    (first | refine WL.p (Gp.add rfl rfl) (by kernel_rfl) rfl ?_ | refine WL.p (Gp.addS rfl rfl (by first | assumption | omega)) (by kernel_rfl) rfl ?_)
    refine WL.p (Gp.assign rfl) (by kernel_rfl) rfl ?_
    refine WL.nil ?_
    repeat (first | with_reducible refine WK.thN ?_ | with_reducible refine WK.thR ?_ | with_reducible refine WK.thE ?_ | with_reducible refine WK.thP ?_ | with_reducible refine WK.blN ?_ | with_reducible refine WK.blR ?_ | with_reducible refine WK.blP ?_ | with_reducible refine WK.blE ?_ | with_reducible refine WK.blO rfl ?_ | with_reducible refine WK.thJ ?_)
    refine WK.pk (H' := []) (by repeat (first | exact Pk.nil | exact Pk.all | exact Pk.app | exact Pk.appR | with_reducible apply Pk.na | (apply Pk.cons; (repeat first | exact .here | apply Rem.there | apply Rem.app)) | apply Pk.skip | apply Pk.skipA)) ?_
    exact WK.again 2 (by decide) (show 2 ≤ 2 by decide) (by exact ⟨rfl, rfl, rfl, trivial⟩) rfl (List.Sublist.refl _)
  | 2, _ =>
    refine WC.seq ?_
    refine WC.seq ?_
    refine WC.region ?_
    refine WL.p (Gp.move rfl) (by kernel_rfl) rfl ?_
    (first | refine WL.p (Gp.ltI rfl rfl) (by kernel_rfl) rfl ?_ | refine WL.p (Gp.ltS rfl rfl) (by kernel_rfl) rfl ?_)
    refine WL.nil ?_
    repeat (first | with_reducible refine WK.thN ?_ | with_reducible refine WK.thR ?_ | with_reducible refine WK.thE ?_ | with_reducible refine WK.thP ?_ | with_reducible refine WK.blN ?_ | with_reducible refine WK.blR ?_ | with_reducible refine WK.blP ?_ | with_reducible refine WK.blE ?_ | with_reducible refine WK.blO rfl ?_ | with_reducible refine WK.thJ ?_)
    refine WC.cond_false rfl ?_
    refine WC.exit ?_
    repeat (first | with_reducible refine WK.thN ?_ | with_reducible refine WK.thR ?_ | with_reducible refine WK.thE ?_ | with_reducible refine WK.thP ?_ | with_reducible refine WK.blN ?_ | with_reducible refine WK.blR ?_ | with_reducible refine WK.blP ?_ | with_reducible refine WK.blE ?_ | with_reducible refine WK.blO rfl ?_ | with_reducible refine WK.thJ ?_)
    refine WC.seq ?_
    refine WC.region ?_
    refine WL.op (by kernel_rfl) (OW.callR rfl (Pk.perm (by repeat (first | exact Pk.nil | exact Pk.all | exact Pk.app | exact Pk.appR | with_reducible apply Pk.na | (apply Pk.cons; (repeat first | exact .here | apply Rem.there | apply Rem.app)) | apply Pk.skip | apply Pk.skipA))) (awake_fn _) rfl (by intro e G' H' h; repeat (first | exact ⟨_, h.1⟩ | (obtain ⟨_, h⟩ := h))) fun v' G' H' h hg => ?_)
    obtain ⟨he, hg3, rfl⟩ := h
    cases he
    refine WL.p (Gp.assign rfl) (by kernel_rfl) rfl ?_
    refine WL.nil ?_
    repeat (first | with_reducible refine WK.thN ?_ | with_reducible refine WK.thR ?_ | with_reducible refine WK.thE ?_ | with_reducible refine WK.thP ?_ | with_reducible refine WK.blN ?_ | with_reducible refine WK.blR ?_ | with_reducible refine WK.blP ?_ | with_reducible refine WK.blE ?_ | with_reducible refine WK.blO rfl ?_ | with_reducible refine WK.thJ ?_)
    refine WC.ret ?_
    repeat (first | with_reducible refine WK.thN ?_ | with_reducible refine WK.thR ?_ | with_reducible refine WK.thE ?_ | with_reducible refine WK.thP ?_ | with_reducible refine WK.blN ?_ | with_reducible refine WK.blR ?_ | with_reducible refine WK.blP ?_ | with_reducible refine WK.blE ?_ | with_reducible refine WK.blO rfl ?_ | with_reducible refine WK.thJ ?_)
    exact QF.p1 (.inl rfl) rfl (.tmp rfl) (⟨rfl, hg3, rfl⟩) (by repeat (first | exact Pk.nil | exact Pk.all | exact Pk.app | exact Pk.appR | with_reducible apply Pk.na | (apply Pk.cons; (repeat first | exact .here | apply Rem.there | apply Rem.app)) | apply Pk.skip | apply Pk.skipA))
  | i + 3, h => exact absurd h (by omega)
end Go.Proofs.Ytjgohbepageicaa.Gb

namespace Go.Proofs.Ytjgohbepageicaa.vmNobody
open Go.ChangeShapes Go.WideShapes Go.ChangeAt Go.RowKit Go Go.Proofs Go.WideMaps Go.WideElems
set_option linter.unusedVariables false

theorem own : ownKnob Try.prog.godebug = none := by kernel_rfl

theorem walk (a0 : Int) (w0 : (Lit.int .i64 a0).wf = true) (w : World) :
    Calls Try.prog 12 #[.int .i64 a0] w fun e w' => e = .returned (.bool true) ∧ Grown w w' :=
  (Gb.nobody_fn (fun _ _ => none) a0).grown fun e G' H' h => h.1

set_option maxRecDepth 100000 in
theorem lifted (os : Os) (started : os.Started) (H : Type) (enc : TypeId × Value → H) :
    ReturnsInHanded {} Try.checked os 12 .any (Rows.vmNobodySpec.pre6 enc Try.prog Try.f12 Rows.vmNobodyRow.domain false) (Rows.vmNobodySpec.post enc Try.prog Try.f12 false true false false) := by
  refine returnsInHanded_of_change (C := Try.checked) own started (by kernel_rfl) Try.func12
    (ChangeSpec.witness6 (enc := enc) (C := Try.checked) false ⟨#[], #[.int .i64 0], []⟩ 8 (by kernel_rfl) (by kernel_rfl) (by kernel_rfl) (by kernel_rfl)) ?_
  intro W base args ds gs before hval0 hW hcnd _
  have hval : ∀ (j : Nat) t v, Try.f12.params[j]? = some t → args[j]? = some v → Value.okWide Try.prog W .any base t v := hval0
  have hW' := hW
  obtain ⟨p, q, hA0, hV, rfl, hfz, hnd⟩ := hW
  have hA : DataW.TrodAll enc Try.prog W 0 (fun _ => true) true Try.f12.params.toList args.toList ds p := hA0
  rw [Try.params12] at hA hval
  obtain ⟨v0, vs0, d0, ds0, p0, q0, hargs, rfl, rfl, h0, r0⟩ := trodAll_cons hA
  obtain ⟨rfl, rfl, rfl⟩ := trodAll_nil r0
  obtain rfl : args = #[v0] := by cases args; simp_all
  obtain ⟨rfl, rfl⟩ := trodVars_none hV
  obtain ⟨a0, rfl, rfl, rfl, w0⟩ := open_int Try.underlying3 (hval 0 3 v0 rfl rfl) h0
  clear hA0 hval0
  simp only [List.append_nil] at hW'
  refine (walk a0 w0 W).mono fun e W' ⟨he, hg⟩ => ?_
  subst he
  exact ⟨_, rfl, post_of_same (pa := []) (pv := []) hW' (fun _ _ _ => (trodAll_cons_mk (shut_bool Try.underlying4 _) trodAll_mk0)) (fun sp _ => (trodAll_cons_mk (shut_int Try.underlying3 w0) trodAll_mk0)) (fun _ _ => rfl) rfl
    (hg.frame _) hg.2.1 (ok_one (by kernel_rfl) rfl (okWide_bool_mk Try.underlying4 _))⟩

theorem over : Rows.vmNobodyRow.holds Try.pinned (OpenSpec.ofChange Rows.vmNobodySpec) :=
  OpenClaim.holds_of_wide 12 Try.f12 rfl rfl rfl rfl rfl rfl rfl ⟨rfl, rfl, rfl, rfl, rfl⟩ rfl rfl rfl rfl rfl (by kernel_rfl) Try.func12 (by kernel_rfl)
    (of_decide_eq_true (by kernel_rfl)) (by unfold Func.isWrapper; first | (rw [if_pos (by decide +kernel)]; kernel_rfl) | (rw [if_neg (by decide +kernel)]; exact ⟨rfl, rfl⟩))
    (fun os started H enc _ => lifted os started H enc)

/-- the statement -/
theorem proved : Rows.VmNobodySaid :=
  over
#print axioms proved
end Go.Proofs.Ytjgohbepageicaa.vmNobody
