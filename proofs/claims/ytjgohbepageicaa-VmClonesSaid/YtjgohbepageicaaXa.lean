/- What a machine tells; a run. -/
import Derived.Test.YtjgohbepageicaaVz
namespace Go.Proofs.Ytjgohbepageicaa.Gb
open Go Go.Proofs
set_option linter.unusedVariables false
set_option linter.unusedSimpArgs false
set_option linter.unusedSectionVars false
attribute [local irreducible] Try.prog

theorem WL.swap {P : Program} {Q : Exit → Act → World → Prop} {ops : Array Oper} {rest : List Oper} {cx : Cx} {L : List (Nat × Value)} {G : Gh} {H F : List Own} (h : WL P ops Q rest cx L G (F ++ H)) : WL P ops Q rest cx L G (H ++ F) := fun a w st => h a w (st.perm List.perm_append_comm)
theorem WC.swap {P : Program} {Q : Exit → Act → World → Prop} {c : Code} {cx : Cx} {L : List (Nat × Value)} {G : Gh} {H F : List Own} (h : WC P c Q cx L G (F ++ H)) : WC P c Q cx L G (H ++ F) := fun a w st => h a w (st.perm List.perm_append_comm)
theorem VVec.none_zero {A : Option Addr} {cap : Nat} {l : List V} {x : Own} (h : VVec A cap l x) (hA : A = none) : l.length = 0 := by
  rcases h with ⟨_, ⟨_, h, _⟩ | ⟨b, c, h, _⟩⟩
  · exact h
  · rw [h] at hA; cases hA

section
variable (G : Gh) (CA PA : Option Addr) (cc pc cn pn : Nat) (c3 : Value) (mb : Nat)

theorem Outcome_fn (s : Mc) (H : List Own) (hR : MRep CA PA cc pc cn pn c3 mb s H) (hm : madeB s = true) (hb : s.out.length * 40 ≤ 140737488355328) :
    Fn Try.prog 24 #[.pointer (some ⟨mb, 0, none⟩)] G H fun e G' H' => ∃ A' cap' x', e = .returned (.agg #[.int .i64 s.en, .int .i64 s.val.t, .int .i64 s.val.i, .bool s.val.b, .string s.val.s, .slice A' s.out.length cap', .int .i64 s.steps]) ∧ G = G' ∧ VVec A' cap' s.out x' ∧ H' = x' :: H := by
  have hR0 := hR
  obtain ⟨FA, fcap, OA, ocap, ox, fx, bs, Hf, hF, hfv, ho, rfl⟩ := hR
  refine Fn.enter Try.func24 rfl rfl fun w0 => ?_
  refine WC.seq ?_
  refine WC.region ?_
  refine WL.op (by kernel_rfl) (OW.alloc rfl fun b3 => ?_)
  refine WL.nil ?_
  refine WK.un ?_
  refine WC.seq ?_
  refine WC.seq ?_
  refine WC.region ?_
  refine WL.p (Gp.move rfl) (by kernel_rfl) rfl ?_
  refine WL.op (by kernel_rfl) (OW.callR rfl (perm_at .here |>.trans (List.perm_append_comm (l₁ := [_]))) (made_fn G CA PA cc pc cn pn c3 mb s _ hR0) rfl (by intro e G' H' h; repeat (first | exact ⟨_, h.1⟩ | (obtain ⟨_, h⟩ := h))) fun v' G' H' h hg => ?_)
  obtain ⟨he, rfl, rfl⟩ := h
  cases he
  refine WL.swap ?_
  rw [hm]
  refine WL.p (Gp.notB rfl) (by kernel_rfl) rfl ?_
  refine WL.nil ?_
  refine WK.un ?_
  refine WC.cond_false rfl ?_
  refine WC.skip ?_
  refine WK.un ?_
  refine WC.seq ?_
  refine WC.region ?_
  refine WL.p (Gp.move rfl) (by kernel_rfl) rfl ?_
  refine WL.p (Gp.nilCheck rfl) (by kernel_rfl) rfl ?_
  refine WL.p (Gp.fieldAddr rfl) (by kernel_rfl) rfl ?_
  refine WL.v (Gv.loadN rfl (by (repeat first | exact .here | apply At.there)) rfl rfl) (by kernel_rfl) rfl ?_
  refine WL.op (by kernel_rfl) (OW.alloc rfl fun b5 => ?_)
  refine WL.op (by kernel_rfl) (OW.store rfl rfl (by (repeat first | exact .here | apply At.there)) rfl (by rfl) (by rfl) (by kernel_rfl) (by rfl) ?_ rfl)
  refine WL.nil ?_
  refine WK.un ?_
  refine WC.seq ?_
  refine WC.region ?_
  refine WL.p (Gp.fieldAddr rfl) (by kernel_rfl) rfl ?_
  (first | (refine WL.v (Gv.load1 rfl (by (repeat first | exact .here | apply At.there)) (by first | rfl | assumption)) (by kernel_rfl) rfl ?_) | (refine WL.v (Gv.loadN rfl (by (repeat first | exact .here | apply At.there)) (by rfl) (by rfl)) (by kernel_rfl) rfl ?_) | (refine WL.v (Gv.loadG1 rfl (by assumption) rfl) (by kernel_rfl) rfl ?_) | (refine WL.v (Gv.loadG0 rfl (by assumption) rfl) (by kernel_rfl) rfl ?_) | (refine WL.v (Gv.loadGN rfl (by assumption) rfl) (by kernel_rfl) rfl ?_))
  refine WL.op (by kernel_rfl) (OW.callK rfl (clone_vals G [ox] OA s.out.length ocap (vflat s.out) (ho.rds .here) (vflat_length _) (vflat_one _) ho.none_zero hb) rfl fun v' G' H' h hg => ?_)
  obtain ⟨A', cap', x', he, rfl, rfl, hx'⟩ := h
  cases he
  refine WL.p (Gp.fieldAddr rfl) (by kernel_rfl) rfl ?_
  refine WL.op (by kernel_rfl) (OW.store rfl rfl (by (repeat first | exact .here | apply At.there)) rfl (by rfl) (by rfl) (by kernel_rfl) (by rfl) ?_ rfl)
  refine WL.nil ?_
  refine WK.un ?_
  refine WC.seq ?_
  refine WC.region ?_
  (first | (refine WL.v (Gv.load1 rfl (by (repeat first | exact .here | apply At.there)) (by first | rfl | assumption)) (by kernel_rfl) rfl ?_) | (refine WL.v (Gv.loadN rfl (by (repeat first | exact .here | apply At.there)) (by rfl) (by rfl)) (by kernel_rfl) rfl ?_) | (refine WL.v (Gv.loadG1 rfl (by assumption) rfl) (by kernel_rfl) rfl ?_) | (refine WL.v (Gv.loadG0 rfl (by assumption) rfl) (by kernel_rfl) rfl ?_) | (refine WL.v (Gv.loadGN rfl (by assumption) rfl) (by kernel_rfl) rfl ?_))
  refine WL.op (by kernel_rfl) (OW.store rfl rfl (by (repeat first | exact .here | apply At.there)) rfl (by rfl) (by rfl) (by kernel_rfl) (by rfl) ?_ rfl)
  refine WL.nil ?_
  refine WK.un ?_
  refine WC.ret ?_
  refine WK.un ?_
  exact QF.p1 (.inl rfl) rfl (.cell rfl inferInstance inferInstance (by (repeat first | exact .here | apply At.there)) rfl rfl) (⟨A', cap', x', rfl, rfl, hx', rfl⟩)

theorem Ended_fn (s : Mc) (H : List Own) (hR : MRep CA PA cc pc cn pn c3 mb s H) :
    Fn Try.prog 34 #[.pointer (some ⟨mb, 0, none⟩)] G H fun e G' H' => e = .returned (.bool (madeB s && s.ended)) ∧ G = G' ∧ H' = H := by
  have hR0 := hR
  obtain ⟨FA, fcap, OA, ocap, ox, fx, bs, Hf, hF, hfv, ho, rfl⟩ := hR
  refine Fn.enter Try.func34 rfl rfl fun w0 => ?_
  refine WC.seq ?_
  refine WC.region ?_
  refine WL.p (Gp.assign rfl) (by kernel_rfl) rfl ?_
  refine WL.nil ?_
  refine WK.un ?_
  refine WC.seq ?_
  refine WC.region ?_
  refine WL.p (Gp.move rfl) (by kernel_rfl) rfl ?_
  refine WL.op (by kernel_rfl) (OW.callK rfl (made_fn G CA PA cc pc cn pn c3 mb s _ hR0) rfl fun v' G' H' h hg => ?_)
  obtain ⟨he, rfl, rfl⟩ := h
  cases he
  refine WL.p (Gp.move rfl) (by kernel_rfl) rfl ?_
  cases hm : madeB s with
  | false =>
    refine WL.skip (by kernel_rfl) rfl ?_
    refine WL.skip (by kernel_rfl) rfl ?_
    refine WL.skip (by kernel_rfl) rfl ?_
    refine WL.skip (by kernel_rfl) rfl ?_
    (first | refine WL.p (Gp.pickT rfl rfl) (by kernel_rfl) rfl ?_ | refine WL.p (Gp.pickF rfl rfl) (by kernel_rfl) rfl ?_)
    refine WL.p (Gp.assign rfl) (by kernel_rfl) rfl ?_
    refine WL.nil ?_
    refine WK.un ?_
    refine WC.ret ?_
    refine WK.un ?_
    exact QF.p1 (.inl rfl) rfl (.tmp rfl) (⟨by simp, rfl, rfl⟩)
  | true =>
    refine WL.p (Gp.move rfl) (by kernel_rfl) rfl ?_
    refine WL.p (Gp.nilCheck rfl) (by kernel_rfl) rfl ?_
    refine WL.p (Gp.fieldAddr rfl) (by kernel_rfl) rfl ?_
    (first | (refine WL.v (Gv.load1 rfl (by (repeat first | exact .here | apply At.there)) (by first | rfl | assumption)) (by kernel_rfl) rfl ?_) | (refine WL.v (Gv.loadN rfl (by (repeat first | exact .here | apply At.there)) (by rfl) (by rfl)) (by kernel_rfl) rfl ?_) | (refine WL.v (Gv.loadG1 rfl (by assumption) rfl) (by kernel_rfl) rfl ?_) | (refine WL.v (Gv.loadG0 rfl (by assumption) rfl) (by kernel_rfl) rfl ?_) | (refine WL.v (Gv.loadGN rfl (by assumption) rfl) (by kernel_rfl) rfl ?_))
    (first | refine WL.p (Gp.pickT rfl rfl) (by kernel_rfl) rfl ?_ | refine WL.p (Gp.pickF rfl rfl) (by kernel_rfl) rfl ?_)
    refine WL.p (Gp.assign rfl) (by kernel_rfl) rfl ?_
    refine WL.nil ?_
    refine WK.un ?_
    refine WC.ret ?_
    refine WK.un ?_
    exact QF.p1 (.inl rfl) rfl (.tmp rfl) (⟨by simp, rfl, rfl⟩)

theorem Depth_fn (s : Mc) (H : List Own) (hR : MRep CA PA cc pc cn pn c3 mb s H) :
    Fn Try.prog 26 #[.pointer (some ⟨mb, 0, none⟩)] G H fun e G' H' => e = .returned (.int .i64 s.frames.length) ∧ G = G' ∧ H' = H := by
  have hR0 := hR
  obtain ⟨FA, fcap, OA, ocap, ox, fx, bs, Hf, hF, hfv, ho, rfl⟩ := hR
  have hlen := hF.len
  refine Fn.enter Try.func26 rfl rfl fun w0 => ?_
  refine WC.seq ?_
  refine WC.region ?_
  refine WL.p (Gp.assign rfl) (by kernel_rfl) rfl ?_
  refine WL.nil ?_
  refine WK.un ?_
  refine WC.seq ?_
  refine WC.seq ?_
  refine WC.region ?_
  refine WL.p (Gp.move rfl) (by kernel_rfl) rfl ?_
  refine WL.op (by kernel_rfl) (OW.callK rfl (made_fn G CA PA cc pc cn pn c3 mb s _ hR0) rfl fun v' G' H' h hg => ?_)
  obtain ⟨he, rfl, rfl⟩ := h
  cases he
  cases hm : madeB s with
  | false =>
    refine WL.p (Gp.notB rfl) (by kernel_rfl) rfl ?_
    refine WL.nil ?_
    refine WK.un ?_
    refine WC.cond_true rfl ?_
    refine WC.seq ?_
    refine WC.region ?_
    refine WL.p (Gp.assign rfl) (by kernel_rfl) rfl ?_
    refine WL.nil ?_
    refine WK.un ?_
    have h0 : s.frames.length = 0 := by
      unfold madeB at hm
      simp at hm
      rw [hm.1]; rfl
    refine WC.ret ?_
    refine WK.un ?_
    exact QF.p1 (.inl rfl) rfl (.tmp rfl) (⟨by rw [h0]; rfl, rfl, rfl⟩)
  | true =>
    refine WL.p (Gp.notB rfl) (by kernel_rfl) rfl ?_
    refine WL.nil ?_
    refine WK.un ?_
    refine WC.cond_false rfl ?_
    refine WC.skip ?_
    refine WK.un ?_
    refine WC.seq ?_
    refine WC.region ?_
    refine WL.p (Gp.move rfl) (by kernel_rfl) rfl ?_
    refine WL.p (Gp.nilCheck rfl) (by kernel_rfl) rfl ?_
    refine WL.p (Gp.fieldAddr rfl) (by kernel_rfl) rfl ?_
    (first | (refine WL.v (Gv.load1 rfl (by (repeat first | exact .here | apply At.there)) (by first | rfl | assumption)) (by kernel_rfl) rfl ?_) | (refine WL.v (Gv.loadN rfl (by (repeat first | exact .here | apply At.there)) (by rfl) (by rfl)) (by kernel_rfl) rfl ?_) | (refine WL.v (Gv.loadG1 rfl (by assumption) rfl) (by kernel_rfl) rfl ?_) | (refine WL.v (Gv.loadG0 rfl (by assumption) rfl) (by kernel_rfl) rfl ?_) | (refine WL.v (Gv.loadGN rfl (by assumption) rfl) (by kernel_rfl) rfl ?_))
    (first | refine WL.p (Gp.lenSl rfl) (by kernel_rfl) rfl ?_ | refine WL.p (Gp.lenS rfl) (by kernel_rfl) rfl ?_)
    refine WL.p (Gp.assign rfl) (by kernel_rfl) rfl ?_
    refine WL.nil ?_
    refine WK.un ?_
    refine WC.ret ?_
    refine WK.un ?_
    exact QF.p1 (.inl rfl) rfl (.tmp rfl) (⟨by rw [← hlen]; simp, rfl, rfl⟩)
end
end Go.Proofs.Ytjgohbepageicaa.Gb
