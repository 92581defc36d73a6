/- A copy of a machine goes on as the machine would have: walked. -/
import Derived.Test.YtjgohbepageicaaXu
namespace Go.Proofs.Ytjgohbepageicaa.Gb
open Go Go.Proofs
set_option linter.unusedVariables false
set_option linter.unusedSimpArgs false
set_option linter.unusedSectionVars false
section
variable {L : List (Nat × Value)} {d : Option Tmp} {ty : TypeId} {pos : String} {af : Array Edge} {gu : Option (Nat × Bool)}
theorem Gp.eqSpot {x y : Operand} {t' : TypeId} {a b c f : Int} (hx : ev L x = some (.agg #[.int .i64 a, .int .i64 b])) (hy : ev L y = some (.agg #[.int .i64 c, .int .i64 f])) :
    Gp Try.prog L ⟨d, .binOp .eql 63 x y t', ty, pos, af, gu⟩ (.bool (decide ((a, b) = (c, f)))) := fun ac st w => by
  have h1 : Try.prog.eqGuardType Try.prog.depth 63 = false := by kernel_rfl
  have h2 : Try.prog.underlying 63 = some (.struct (Try.prog.fieldsOf 63)) := by kernel_rfl
  have h3 : Try.prog.stoodInHeld 63 = false := by kernel_rfl
  have key : (Op.eqFields 9999 #[.int .i64 a, .int .i64 b] #[.int .i64 c, .int .i64 f] (Try.prog.fieldsOf 63).toList).run Try.prog w = .ok (decide ((a, b) = (c, f))) w := by
    have a0 := fun w => (inferInstance : Agg Try.prog 3 false).h w
    have u0 : Try.prog.underlying 3 = some (.int .i64) := Und.h
    have e : decide ((a, b) = (c, f)) = (a == c && (b == f)) := by
      rw [Bool.eq_iff_iff]
      simp
    rw [e]
    simp only [Program.fieldsOf, Try.underlying63]
    simp only [Op.eqFields, part, Sem.run_bind, a0, Result.andThen_ok, Sem.run_ite]
    simp [run_equalIn_int _ _ _ _ _ _ _ u0]
    by_cases q0 : a = c <;> by_cases q1 : b = f <;> simp [q0, q1]
  simp only [execOp, Sem.run_bind, st.eval hx, st.eval hy, run_eqGuard_agg w .eql _ x y _ _ h1, Result.andThen_ok, run_eql_struct, run_equalIn_agg w 9999 _ _ _ h2 h3, key]
  rfl
end
attribute [local irreducible] Try.prog

theorem VmClones_fn (G : Gh) (x : GivenR) (CA PA AA : Option Addr) (cc pc ac : Nat) (qv : Value) (hC : Sl Kd.val G CA x.pg.consts) (hP : Sl Kd.prc G PA x.pg.procs) (hA : Sl Kd.val G AA x.args) (hB : PgB x.pg) (hal : x.args.length * 40 ≤ 140737488351232)
    (a b : Int) (ha0 : 0 ≤ a) (ha1 : a ≤ 65535) (hb0 : 0 ≤ b) (hb1 : b ≤ 65535) :
    Fn Try.prog 11 #[givV CA PA AA cc pc ac qv x, .int .u16 a, .int .u16 b] G [] fun e G' H' => e = .returned (.bool true) ∧ G.le G' := by
  obtain ⟨N, hN, hN1⟩ : ∃ N : Nat, a.tmod 20000 = N ∧ N < 20000 := ⟨(a.tmod 20000).toNat, by rw [Int.tmod_eq_emod_of_nonneg ha0]; omega, by rw [Int.tmod_eq_emod_of_nonneg ha0]; omega⟩
  obtain ⟨K, hK, hK1⟩ : ∃ K : Nat, b.tmod 20000 = K ∧ K < 20000 := ⟨(b.tmod 20000).toNat, by rw [Int.tmod_eq_emod_of_nonneg hb0]; omega, by rw [Int.tmod_eq_emod_of_nonneg hb0]; omega⟩
  have hr : ∀ {G' : Gh} {H : List Own}, G.le G' → Rds G' H AA (vflat x.args) := fun hg => Sl.vals (hA.mono hg)
  refine Fn.enter Try.func11 rfl rfl fun w0 => ?_
  refine WC.seq ?_
  refine WC.region ?_
  refine WL.op (by kernel_rfl) (OW.box rfl rfl fun b1 => ?_)
  refine WL.p (Gp.assign rfl) (by kernel_rfl) rfl ?_
  refine WL.nil ?_
  refine WK.un ?_
  refine WC.seq ?_
  refine WC.region ?_
  refine WL.p (Gp.fieldAddr rfl) (by kernel_rfl) rfl ?_
  refine WL.v (Gv.loadN rfl (by (repeat first | exact .here | apply At.there)) rfl rfl) (by kernel_rfl) rfl ?_
  refine WL.p (Gp.fieldAddr rfl) (by kernel_rfl) rfl ?_
  refine WL.v (Gv.load1 rfl (by (repeat first | exact .here | apply At.there)) rfl) (by kernel_rfl) rfl ?_
  refine WL.p (Gp.fieldAddr rfl) (by kernel_rfl) rfl ?_
  refine WL.v (Gv.load1 rfl (by (repeat first | exact .here | apply At.there)) rfl) (by kernel_rfl) rfl ?_
  cases hs : startR x.pg x.n x.args with
  | none =>
    refine WL.op (by kernel_rfl) (OW.callK rfl ((Start_fn G x.pg CA PA cc pc qv hC hP hB x.n AA ac x.args [] (hr G.le_refl) (by omega)).mono fun e G' H' h => (by rw [hs] at h; exact h)) rfl fun v' G' H' h hg => ?_)
    obtain ⟨he, rfl, rfl⟩ := h
    cases he
    refine WL.p (Gp.move rfl) (by kernel_rfl) rfl ?_
    refine WL.p (Gp.extract rfl rfl) (by kernel_rfl) rfl ?_
    refine WL.p (Gp.extract rfl rfl) (by kernel_rfl) rfl ?_
    refine WL.p (Gp.assign rfl) (by kernel_rfl) rfl ?_
    refine WL.p (Gp.assign rfl) (by kernel_rfl) rfl ?_
    refine WL.nil ?_
    refine WK.un ?_
    refine WC.seq ?_
    refine WC.region ?_
    refine WL.p (Gp.fieldAddr rfl) (by kernel_rfl) rfl ?_
    refine WL.v (Gv.loadN rfl (by (repeat first | exact .here | apply At.there)) rfl rfl) (by kernel_rfl) rfl ?_
    refine WL.p (Gp.fieldAddr rfl) (by kernel_rfl) rfl ?_
    refine WL.v (Gv.load1 rfl (by (repeat first | exact .here | apply At.there)) rfl) (by kernel_rfl) rfl ?_
    refine WL.p (Gp.fieldAddr rfl) (by kernel_rfl) rfl ?_
    refine WL.v (Gv.load1 rfl (by (repeat first | exact .here | apply At.there)) rfl) (by kernel_rfl) rfl ?_
    refine WL.op (by kernel_rfl) (OW.callK rfl ((Start_fn G x.pg CA PA cc pc qv hC hP hB x.n AA ac x.args [] (hr G.le_refl) (by omega)).mono fun e G' H' h => (by rw [hs] at h; exact h)) rfl fun v' G' H' h hg => ?_)
    obtain ⟨he, rfl, rfl⟩ := h
    cases he
    refine WL.p (Gp.move rfl) (by kernel_rfl) rfl ?_
    refine WL.p (Gp.extract rfl rfl) (by kernel_rfl) rfl ?_
    refine WL.p (Gp.extract rfl rfl) (by kernel_rfl) rfl ?_
    refine WL.p (Gp.assign rfl) (by kernel_rfl) rfl ?_
    refine WL.p (Gp.assign rfl) (by kernel_rfl) rfl ?_
    refine WL.nil ?_
    refine WK.un ?_
    refine WC.seq ?_
    refine WC.seq ?_
    refine WC.region ?_
    refine WL.p (Gp.move rfl) (by kernel_rfl) rfl ?_
    refine WL.p (Gp.move rfl) (by kernel_rfl) rfl ?_
    (first | refine WL.p (Gp.neI rfl rfl) (by kernel_rfl) rfl ?_ | refine WL.p (Gp.neS rfl rfl) (by kernel_rfl) rfl ?_ | refine WL.p (Gp.neB rfl rfl) (by kernel_rfl) rfl ?_)
    refine WL.p (Gp.move rfl) (by kernel_rfl) rfl ?_
    refine WL.p (Gp.move rfl) (by kernel_rfl) rfl ?_
    (first | refine WL.p (Gp.neI rfl rfl) (by kernel_rfl) rfl ?_ | refine WL.p (Gp.neS rfl rfl) (by kernel_rfl) rfl ?_ | refine WL.p (Gp.neB rfl rfl) (by kernel_rfl) rfl ?_)
    (first | refine WL.p (Gp.pickT rfl rfl) (by kernel_rfl) rfl ?_ | refine WL.p (Gp.pickF rfl rfl) (by kernel_rfl) rfl ?_)
    refine WL.nil ?_
    refine WK.un ?_
    refine WC.cond_true rfl ?_
    refine WC.seq ?_
    refine WC.region ?_
    refine WL.p (Gp.move rfl) (by kernel_rfl) rfl ?_
    refine WL.p (Gp.move rfl) (by kernel_rfl) rfl ?_
    (first | refine WL.p (Gp.eqI rfl rfl) (by kernel_rfl) rfl ?_ | refine WL.p (Gp.eqS rfl rfl) (by kernel_rfl) rfl ?_ | refine WL.p (Gp.nilSl rfl) (by kernel_rfl) rfl ?_ | refine WL.p (Gp.eqB rfl rfl) (by kernel_rfl) rfl ?_)
    refine WL.p (Gp.move rfl) (by kernel_rfl) rfl ?_
    refine WL.op (by kernel_rfl) (OW.callK rfl (awake_fn _) rfl fun v' G' H' h hg => ?_)
    obtain ⟨he, hg3, rfl⟩ := h
    cases he
    (first | refine WL.p (Gp.pickT rfl rfl) (by kernel_rfl) rfl ?_ | refine WL.p (Gp.pickF rfl rfl) (by kernel_rfl) rfl ?_)
    refine WL.p (Gp.assign rfl) (by kernel_rfl) rfl ?_
    refine WL.nil ?_
    refine WK.un ?_
    refine WC.ret ?_
    refine WK.un ?_
    exact QF.p1 (.inl rfl) rfl (.tmp rfl) (⟨rfl, hg3⟩)
  | some q =>
    obtain ⟨hI, hL⟩ := startS_inv hs
    have hst0 : (startS q x.n x.args).steps = 0 := rfl
    have hI1 := Inv.run N _ hI hL
    have hI2 := Inv.run K _ hI1.1 hI1.2
    have hs1 := runM_steps N hI hL
    have hc1 := runM_le (pg := x.pg) N (startS q x.n x.args)
    have hs2 := runM_steps K hI1.1 hI1.2
    have hc2 := runM_le (pg := x.pg) K (runM x.pg N (startS q x.n x.args)).2
    have hadd := runM_add x.pg N K (startS q x.n x.args)
    have hout := hI2.1.out.1
    have htS := hI2.1.topS
    have htS1 := hI1.1.topS
    have hout1 := hI1.1.out.1
    have hfr1 := hI1.1.frames
    have hmd1 := hI1.2.made
    have hst1 : ∀ f ∈ (runM x.pg N (startS q x.n x.args)).2.frames, f.stack.length ≤ 128 ∧ f.vars.length ≤ 64 := fun f hf => ⟨(hI1.1.stack f hf).1, (hI1.1.stack f hf).2.1⟩
    have htV := hI2.1.topV
    have hfr := hI2.1.frames
    have hmd := hI2.2.made
    refine WL.op (by kernel_rfl) (OW.callK rfl ((Start_fn G x.pg CA PA cc pc qv hC hP hB x.n AA ac x.args [] (hr G.le_refl) (by omega)).mono fun e G' H' h => (by rw [hs] at h; exact h)) rfl fun v' G' H' h hg => ?_)
    obtain ⟨mb1, CA1, PA1, cc1, pc1, H1, he, hg1, hC1, hP1, hR1, rfl⟩ := h
    cases he
    refine WL.pk (H' := .blk b1 (.cells #[.slice CA x.pg.consts.length cc, .slice PA x.pg.procs.length pc, qv, .int .i64 x.n, .slice AA x.args.length ac] 28 (0, 0)) :: H1) (by repeat (first | exact Pk.nil | exact Pk.all | exact Pk.app | exact Pk.appR | with_reducible apply Pk.na | (apply Pk.cons; (repeat first | exact .here | apply Rem.there | apply Rem.app)) | apply Pk.assoc | apply Pk.skip | apply Pk.skipA)) ?_
    refine WL.p (Gp.move rfl) (by kernel_rfl) rfl ?_
    refine WL.p (Gp.extract rfl rfl) (by kernel_rfl) rfl ?_
    refine WL.p (Gp.extract rfl rfl) (by kernel_rfl) rfl ?_
    refine WL.p (Gp.assign rfl) (by kernel_rfl) rfl ?_
    refine WL.p (Gp.assign rfl) (by kernel_rfl) rfl ?_
    refine WL.nil ?_
    refine WK.un ?_
    refine WC.seq ?_
    refine WC.region ?_
    refine WL.p (Gp.fieldAddr rfl) (by kernel_rfl) rfl ?_
    refine WL.v (Gv.loadN rfl (by (repeat first | exact .here | apply At.there)) rfl rfl) (by kernel_rfl) rfl ?_
    refine WL.p (Gp.fieldAddr rfl) (by kernel_rfl) rfl ?_
    refine WL.v (Gv.load1 rfl (by (repeat first | exact .here | apply At.there)) rfl) (by kernel_rfl) rfl ?_
    refine WL.p (Gp.fieldAddr rfl) (by kernel_rfl) rfl ?_
    refine WL.v (Gv.load1 rfl (by (repeat first | exact .here | apply At.there)) rfl) (by kernel_rfl) rfl ?_
    refine WL.op (by kernel_rfl) (OW.callK rfl ((Start_fn _ x.pg CA PA cc pc qv (hC.mono hg1) (hP.mono hg1) hB x.n AA ac x.args [] (hr hg1) (by omega)).mono fun e G' H' h => (by rw [hs] at h; exact h)) rfl fun v' G' H' h hg => ?_)
    obtain ⟨mb2, CA2, PA2, cc2, pc2, H2, he, hg2, hC2, hP2, hR2, rfl⟩ := h
    cases he
    refine WL.pk (H' := H2 ++ (.blk b1 (.cells #[.slice CA x.pg.consts.length cc, .slice PA x.pg.procs.length pc, qv, .int .i64 x.n, .slice AA x.args.length ac] 28 (0, 0)) :: H1)) (by repeat (first | exact Pk.nil | exact Pk.all | exact Pk.app | exact Pk.appR | with_reducible apply Pk.na | (apply Pk.cons; (repeat first | exact .here | apply Rem.there | apply Rem.app)) | apply Pk.assoc | apply Pk.skip | apply Pk.skipA)) ?_
    refine WL.p (Gp.move rfl) (by kernel_rfl) rfl ?_
    refine WL.p (Gp.extract rfl rfl) (by kernel_rfl) rfl ?_
    refine WL.p (Gp.extract rfl rfl) (by kernel_rfl) rfl ?_
    refine WL.p (Gp.assign rfl) (by kernel_rfl) rfl ?_
    refine WL.p (Gp.assign rfl) (by kernel_rfl) rfl ?_
    refine WL.nil ?_
    refine WK.un ?_
    refine WC.seq ?_
    refine WC.seq ?_
    refine WC.region ?_
    refine WL.p (Gp.move rfl) (by kernel_rfl) rfl ?_
    refine WL.p (Gp.move rfl) (by kernel_rfl) rfl ?_
    (first | refine WL.p (Gp.neI rfl rfl) (by kernel_rfl) rfl ?_ | refine WL.p (Gp.neS rfl rfl) (by kernel_rfl) rfl ?_ | refine WL.p (Gp.neB rfl rfl) (by kernel_rfl) rfl ?_)
    refine WL.p (Gp.move rfl) (by kernel_rfl) rfl ?_
    refine WL.p (Gp.move rfl) (by kernel_rfl) rfl ?_
    (first | refine WL.p (Gp.neI rfl rfl) (by kernel_rfl) rfl ?_ | refine WL.p (Gp.neS rfl rfl) (by kernel_rfl) rfl ?_ | refine WL.p (Gp.neB rfl rfl) (by kernel_rfl) rfl ?_)
    (first | refine WL.p (Gp.pickT rfl rfl) (by kernel_rfl) rfl ?_ | refine WL.p (Gp.pickF rfl rfl) (by kernel_rfl) rfl ?_)
    refine WL.nil ?_
    refine WK.un ?_
    refine WC.cond_false rfl ?_
    refine WC.skip ?_
    refine WK.un ?_
    refine WC.seq ?_
    refine WC.region ?_
    refine WL.p (Gp.move rfl) (by kernel_rfl) rfl ?_
    refine WL.p (Gp.convIf rfl (wrap_small (x := a) (by omega) (by omega))) (by kernel_rfl) rfl ?_
    refine WL.p (Gp.remf rfl rfl (by decide) hN) (by kernel_rfl) rfl ?_
    refine WL.p (Gp.move rfl) (by kernel_rfl) rfl ?_
    refine WL.p (Gp.convIf rfl (wrap_small (x := b) (by omega) (by omega))) (by kernel_rfl) rfl ?_
    refine WL.p (Gp.remf rfl rfl (by decide) hK) (by kernel_rfl) rfl ?_
    refine WL.p (Gp.assign rfl) (by kernel_rfl) rfl ?_
    refine WL.p (Gp.assign rfl) (by kernel_rfl) rfl ?_
    refine WL.nil ?_
    refine WK.un ?_
    refine WC.seq ?_
    refine WC.region ?_
    refine WL.p (Gp.move rfl) (by kernel_rfl) rfl ?_
    refine WL.p (Gp.move rfl) (by kernel_rfl) rfl ?_
    refine WL.op (by kernel_rfl) (OW.callK rfl (Step_nat _ x.pg CA1 PA1 cc1 pc1 (hC1.mono hg2) (hP1.mono hg2) hB.codeB mb1 (.slice none 0 0) _ H1 hR1 hI hL N N rfl (by omega) (by rw [hst0]; omega)) rfl fun v' G' H' h hg => ?_)
    obtain ⟨he, rfl, hR1⟩ := h
    cases he
    refine WL.nil ?_
    refine WK.un ?_
    refine WC.seq ?_
    refine WC.region ?_
    refine WL.p (Gp.move rfl) (by kernel_rfl) rfl ?_
    refine WL.p (Gp.move rfl) (by kernel_rfl) rfl ?_
    refine WL.op (by kernel_rfl) (OW.callK rfl (Step_nat _ x.pg CA2 PA2 cc2 pc2 hC2 hP2 hB.codeB mb2 (.slice none 0 0) _ H2 hR2 hI hL N N rfl (by omega) (by rw [hst0]; omega)) rfl fun v' G' H' h hg => ?_)
    obtain ⟨he, rfl, hR2⟩ := h
    cases he
    refine WL.nil ?_
    refine WK.un ?_
    generalize hS : (runM x.pg N (startS q x.n x.args)).2 = S at *
    refine WC.seq ?_
    refine WC.region ?_
    refine WL.p (Gp.move rfl) (by kernel_rfl) rfl ?_
    refine WL.op (by kernel_rfl) (OW.callK rfl (Clone_fn _ CA1 PA1 cc1 pc1 _ _ mb1 S _ hR1 hmd1 (by omega) (by omega) hst1) rfl fun v' G' H' h hg => ?_)
    obtain ⟨mb3, H3, he, rfl, hR3, rfl⟩ := h
    cases he
    refine WL.p (Gp.assign rfl) (by kernel_rfl) rfl ?_
    refine WL.nil ?_
    refine WK.un ?_
    refine WC.seq ?_
    refine WC.seq ?_
    refine WC.region ?_
    refine WL.p (Gp.move rfl) (by kernel_rfl) rfl ?_
    refine WL.p (Gp.eqPtrNil rfl ptrM) (by kernel_rfl) rfl ?_
    refine WL.nil ?_
    refine WK.un ?_
    refine WC.cond_false rfl ?_
    refine WC.skip ?_
    refine WK.un ?_
    refine WC.seq ?_
    refine WC.region ?_
    refine WL.p (Gp.move rfl) (by kernel_rfl) rfl ?_
    refine WL.p (Gp.move rfl) (by kernel_rfl) rfl ?_
    refine WL.op (by kernel_rfl) (OW.callK rfl (Step_nat _ x.pg CA1 PA1 cc1 pc1 (hC1.mono hg2) (hP1.mono hg2) hB.codeB mb3 (.slice none 0 0) _ _ hR3 hI1.1 hI1.2 K K rfl (by omega) (by omega)) rfl fun v' G' H' h hg => ?_)
    obtain ⟨he, rfl, hR3⟩ := h
    cases he
    refine WL.nil ?_
    refine WK.un ?_
    refine WC.seq ?_
    refine WC.seq ?_
    refine WC.region ?_
    refine WL.p (Gp.move rfl) (by kernel_rfl) rfl ?_
    refine WL.op (by kernel_rfl) (OW.callK rfl (Outcome_fn _ CA1 PA1 cc1 pc1 _ _ (.slice none 0 0) mb1 S _ hR1 hmd1 (by omega)) rfl fun v' G' H' h hg => ?_)
    obtain ⟨A1, cap1, x1, he, rfl, hx1, rfl⟩ := h
    cases he
    refine WL.p (Gp.move rfl) (by kernel_rfl) rfl ?_
    refine WL.op (by kernel_rfl) (OW.callK rfl (Outcome_fn _ CA2 PA2 cc2 pc2 _ _ (.slice none 0 0) mb2 S _ hR2 hmd1 (by omega)) rfl fun v' G' H' h hg => ?_)
    obtain ⟨A2, cap2, x2, he, rfl, hx2, rfl⟩ := h
    cases he
    refine WL.op (by kernel_rfl) (OW.callK rfl (same_fn _ [x1, x2] A1 A2 cap1 cap2 S.oc S.oc (Vec.rds hx1 .here) (Vec.rds hx2 (.there .here)) (by show S.out.length ≤ _; omega)) rfl fun v' G' H' h hg => ?_)
    obtain ⟨he, rfl, rfl⟩ := h
    cases he
    rw [sameO_refl]
    refine WL.p (Gp.notB rfl) (by kernel_rfl) rfl ?_
    refine WL.p (Gp.move rfl) (by kernel_rfl) rfl ?_
    refine WL.p (Gp.move rfl) (by kernel_rfl) rfl ?_
    refine WL.op (by kernel_rfl) (OW.callK rfl (Stack_fn _ CA1 PA1 cc1 pc1 _ _ (.slice none 0 0) mb1 S _ hR1 (by omega) (by omega)) rfl fun v' G' H' h hg => ?_)
    obtain ⟨A3, cap3, x3, he, rfl, hx3, rfl⟩ := h
    cases he
    refine WL.p (Gp.move rfl) (by kernel_rfl) rfl ?_
    refine WL.op (by kernel_rfl) (OW.callK rfl (Stack_fn _ CA2 PA2 cc2 pc2 _ _ (.slice none 0 0) mb2 S _ hR2 (by omega) (by omega)) rfl fun v' G' H' h hg => ?_)
    obtain ⟨A4, cap4, x4, he, rfl, hx4, rfl⟩ := h
    cases he
    refine WL.op (by kernel_rfl) (OW.callK rfl (samevals_fn _ [x3, x4] A3 A4 cap3 cap4 (topStack S) (topStack S) (Vec.rds hx3 .here) (Vec.rds hx4 (.there .here)) (by omega)) rfl fun v' G' H' h hg => ?_)
    obtain ⟨he, rfl, rfl⟩ := h
    cases he
    rw [decide_eq_true rfl]
    refine WL.p (Gp.notB rfl) (by kernel_rfl) rfl ?_
    (first | refine WL.p (Gp.pickT rfl rfl) (by kernel_rfl) rfl ?_ | refine WL.p (Gp.pickF rfl rfl) (by kernel_rfl) rfl ?_)
    refine WL.p (Gp.move rfl) (by kernel_rfl) rfl ?_
    refine WL.p (Gp.move rfl) (by kernel_rfl) rfl ?_
    refine WL.op (by kernel_rfl) (OW.callK rfl (Spot_fn _ CA1 PA1 cc1 pc1 _ _ (.slice none 0 0) mb1 S _ hR1 hmd1 (by omega)) rfl fun v' G' H' h hg => ?_)
    obtain ⟨he, rfl, rfl⟩ := h
    cases he
    refine WL.p (Gp.move rfl) (by kernel_rfl) rfl ?_
    refine WL.op (by kernel_rfl) (OW.callK rfl (Spot_fn _ CA2 PA2 cc2 pc2 _ _ (.slice none 0 0) mb2 S _ hR2 hmd1 (by omega)) rfl fun v' G' H' h hg => ?_)
    obtain ⟨he, rfl, rfl⟩ := h
    cases he
    refine WL.p (Gp.neSpot rfl rfl) (by kernel_rfl) rfl ?_
    rw [decide_eq_true rfl]
    (first | refine WL.p (Gp.pickT rfl rfl) (by kernel_rfl) rfl ?_ | refine WL.p (Gp.pickF rfl rfl) (by kernel_rfl) rfl ?_)
    refine WL.nil ?_
    refine WK.un ?_
    refine WC.cond_false rfl ?_
    refine WC.skip ?_
    refine WK.un ?_
    refine WC.seq ?_
    refine WC.region ?_
    refine WL.p (Gp.move rfl) (by kernel_rfl) rfl ?_
    refine WL.p (Gp.move rfl) (by kernel_rfl) rfl ?_
    refine WL.op (by kernel_rfl) (OW.callK rfl (Step_nat _ x.pg CA1 PA1 cc1 pc1 (hC1.mono hg2) (hP1.mono hg2) hB.codeB mb1 (.slice none 0 0) _ _ hR1 hI1.1 hI1.2 K K rfl (by omega) (by omega)) rfl fun v' G' H' h hg => ?_)
    obtain ⟨he, rfl, hR1⟩ := h
    cases he
    refine WL.nil ?_
    refine WK.un ?_
    generalize hT : (runM x.pg K S).2 = T at *
    refine WC.seq ?_
    refine WC.region ?_
    refine WL.p (Gp.move rfl) (by kernel_rfl) rfl ?_
    refine WL.op (by kernel_rfl) (OW.callK rfl (Outcome_fn _ CA1 PA1 cc1 pc1 _ _ (.slice none 0 0) mb1 T _ hR1 hmd (by omega)) rfl fun v' G' H' h hg => ?_)
    obtain ⟨A5, cap5, x5, he, rfl, hx5, rfl⟩ := h
    cases he
    refine WL.p (Gp.move rfl) (by kernel_rfl) rfl ?_
    refine WL.op (by kernel_rfl) (OW.callK rfl (Outcome_fn _ CA1 PA1 cc1 pc1 _ _ (.slice none 0 0) mb3 T _ hR3 hmd (by omega)) rfl fun v' G' H' h hg => ?_)
    obtain ⟨A6, cap6, x6, he, rfl, hx6, rfl⟩ := h
    cases he
    refine WL.op (by kernel_rfl) (OW.callK rfl (same_fn _ [x5, x6] A5 A6 cap5 cap6 T.oc T.oc (Vec.rds hx5 .here) (Vec.rds hx6 (.there .here)) (by show T.out.length ≤ _; omega)) rfl fun v' G' H' h hg => ?_)
    obtain ⟨he, rfl, rfl⟩ := h
    cases he
    rw [sameO_refl]
    refine WL.p (Gp.move rfl) (by kernel_rfl) rfl ?_
    refine WL.p (Gp.move rfl) (by kernel_rfl) rfl ?_
    refine WL.op (by kernel_rfl) (OW.callK rfl (Stack_fn _ CA1 PA1 cc1 pc1 _ _ (.slice none 0 0) mb1 T _ hR1 (by omega) (by omega)) rfl fun v' G' H' h hg => ?_)
    obtain ⟨A7, cap7, x7, he, rfl, hx7, rfl⟩ := h
    cases he
    refine WL.p (Gp.move rfl) (by kernel_rfl) rfl ?_
    refine WL.op (by kernel_rfl) (OW.callK rfl (Stack_fn _ CA1 PA1 cc1 pc1 _ _ (.slice none 0 0) mb3 T _ hR3 (by omega) (by omega)) rfl fun v' G' H' h hg => ?_)
    obtain ⟨A8, cap8, x8, he, rfl, hx8, rfl⟩ := h
    cases he
    refine WL.op (by kernel_rfl) (OW.callK rfl (samevals_fn _ [x7, x8] A7 A8 cap7 cap8 (topStack T) (topStack T) (Vec.rds hx7 .here) (Vec.rds hx8 (.there .here)) (by omega)) rfl fun v' G' H' h hg => ?_)
    obtain ⟨he, rfl, rfl⟩ := h
    cases he
    rw [decide_eq_true rfl]
    (first | refine WL.p (Gp.pickT rfl rfl) (by kernel_rfl) rfl ?_ | refine WL.p (Gp.pickF rfl rfl) (by kernel_rfl) rfl ?_)
    refine WL.p (Gp.move rfl) (by kernel_rfl) rfl ?_
    refine WL.p (Gp.move rfl) (by kernel_rfl) rfl ?_
    refine WL.op (by kernel_rfl) (OW.callK rfl (Vars_fn _ CA1 PA1 cc1 pc1 _ _ (.slice none 0 0) mb1 T _ hR1 (by omega) (by omega)) rfl fun v' G' H' h hg => ?_)
    obtain ⟨A9, cap9, x9, he, rfl, hx9, rfl⟩ := h
    cases he
    refine WL.p (Gp.move rfl) (by kernel_rfl) rfl ?_
    refine WL.op (by kernel_rfl) (OW.callK rfl (Vars_fn _ CA1 PA1 cc1 pc1 _ _ (.slice none 0 0) mb3 T _ hR3 (by omega) (by omega)) rfl fun v' G' H' h hg => ?_)
    obtain ⟨A10, cap10, x10, he, rfl, hx10, rfl⟩ := h
    cases he
    refine WL.op (by kernel_rfl) (OW.callK rfl (samevals_fn _ [x9, x10] A9 A10 cap9 cap10 (topVars T) (topVars T) (Vec.rds hx9 .here) (Vec.rds hx10 (.there .here)) (by omega)) rfl fun v' G' H' h hg => ?_)
    obtain ⟨he, rfl, rfl⟩ := h
    cases he
    rw [decide_eq_true rfl]
    (first | refine WL.p (Gp.pickT rfl rfl) (by kernel_rfl) rfl ?_ | refine WL.p (Gp.pickF rfl rfl) (by kernel_rfl) rfl ?_)
    refine WL.p (Gp.move rfl) (by kernel_rfl) rfl ?_
    refine WL.p (Gp.move rfl) (by kernel_rfl) rfl ?_
    refine WL.op (by kernel_rfl) (OW.callK rfl (Spot_fn _ CA1 PA1 cc1 pc1 _ _ (.slice none 0 0) mb1 T _ hR1 hmd (by omega)) rfl fun v' G' H' h hg => ?_)
    obtain ⟨he, rfl, rfl⟩ := h
    cases he
    refine WL.p (Gp.move rfl) (by kernel_rfl) rfl ?_
    refine WL.op (by kernel_rfl) (OW.callK rfl (Spot_fn _ CA1 PA1 cc1 pc1 _ _ (.slice none 0 0) mb3 T _ hR3 hmd (by omega)) rfl fun v' G' H' h hg => ?_)
    obtain ⟨he, rfl, rfl⟩ := h
    cases he
    refine WL.p (Gp.eqSpot rfl rfl) (by kernel_rfl) rfl ?_
    rw [decide_eq_true rfl]
    (first | refine WL.p (Gp.pickT rfl rfl) (by kernel_rfl) rfl ?_ | refine WL.p (Gp.pickF rfl rfl) (by kernel_rfl) rfl ?_)
    refine WL.p (Gp.move rfl) (by kernel_rfl) rfl ?_
    refine WL.op (by kernel_rfl) (OW.callK rfl (awake_fn _) rfl fun v' G' H' h hg => ?_)
    obtain ⟨he, hg3, rfl⟩ := h
    cases he
    (first | refine WL.p (Gp.pickT rfl rfl) (by kernel_rfl) rfl ?_ | refine WL.p (Gp.pickF rfl rfl) (by kernel_rfl) rfl ?_)
    refine WL.p (Gp.assign rfl) (by kernel_rfl) rfl ?_
    refine WL.nil ?_
    refine WK.un ?_
    refine WC.ret ?_
    refine WK.un ?_
    exact QF.p1 (.inl rfl) rfl (.tmp rfl) (⟨rfl, Gh.le_trans hg1 (Gh.le_trans hg2 hg3)⟩)
end Go.Proofs.Ytjgohbepageicaa.Gb
