/- Stopping between steps does not matter: walked. -/
import Derived.Test.YtjgohbepageicaaXl
import Derived.Test.YtjgohbepageicaaXq
namespace Go.Proofs.Ytjgohbepageicaa.Gb
open Go Go.Proofs
set_option linter.unusedVariables false
set_option linter.unusedSimpArgs false
set_option linter.unusedSectionVars false
section
variable {P : Program} {Q : Exit → Act → World → Prop} {cx : Cx} {L : List (Nat × Value)} {G : Gh} {H H' F : List Own}
theorem WL.pk {ops : Array Oper} {rest : List Oper} (h : Pk H H' F) (k : WL P ops Q rest cx L G H') : WL P ops Q rest cx L G H := fun a w st => k a w (st.pk h)
end
theorem runM_le {pg : Pg} : ∀ (n : Nat) (s : Mc), (runM pg n s).1 ≤ n
  | 0, s => Nat.le_refl _
  | n + 1, s => by
    unfold runM
    split
    · omega
    · have := runM_le (pg := pg) n (stepM pg s); simp; exact this
theorem Inv.topS {pg : Pg} {s : Mc} (h : Inv pg s) : (topStack s).length ≤ 128 := by
  unfold topStack
  split
  · simp
  · rename_i f fs e; exact (h.stack f (by rw [e]; simp)).1
theorem Inv.topV {pg : Pg} {s : Mc} (h : Inv pg s) : (topVars s).length ≤ 64 := by
  unfold topVars
  split
  · simp
  · rename_i f fs e; exact (h.stack f (by rw [e]; simp)).2.1
attribute [local irreducible] Try.prog

section
variable (G : Gh) (pg : Pg) (CA PA : Option Addr) (cc pc : Nat) (hC : Sl Kd.val G CA pg.consts) (hP : Sl Kd.prc G PA pg.procs) (hcode : ∀ pr ∈ pg.procs, pr.code.length ≤ 90000000000000) (mb : Nat) (c3 : Value)
include hC hP hcode
theorem Step_nat (s : Mc) (H : List Own) (hR : MRep CA PA cc pc pg.consts.length pg.procs.length c3 mb s H) (hI : Inv pg s) (hv : Live s) (z : Int) (n : Nat) (hz : z = n) (hn : n ≤ 1000000) (hst : s.steps + 1000000 ≤ 100000000000000) :
    Fn Try.prog 23 #[.pointer (some ⟨mb, 0, none⟩), .int .i64 z] G H fun e G' H' => e = .returned (.int .i64 (runM pg n s).1) ∧ G = G' ∧ MRep CA PA cc pc pg.consts.length pg.procs.length c3 mb (runM pg n s).2 H' := by
  subst hz
  exact Step_fn G pg CA PA cc pc hC hP hcode mb c3 s H hR hI hv n (by omega) hst
end

theorem VmParts_fn (G : Gh) (x : GivenR) (CA PA AA : Option Addr) (cc pc ac : Nat) (qv : Value) (hC : Sl Kd.val G CA x.pg.consts) (hP : Sl Kd.prc G PA x.pg.procs) (hA : Sl Kd.val G AA x.args) (hB : PgB x.pg) (hal : x.args.length * 40 ≤ 140737488351232)
    (a b : Int) (ha0 : 0 ≤ a) (ha1 : a ≤ 65535) (hb0 : 0 ≤ b) (hb1 : b ≤ 65535) :
    Fn Try.prog 8 #[givV CA PA AA cc pc ac qv x, .int .u16 a, .int .u16 b] G [] fun e G' H' => e = .returned (.bool true) ∧ G.le G' := by
  obtain ⟨N, hN, hN1⟩ : ∃ N : Nat, a.tmod 20000 = N ∧ N < 20000 := ⟨(a.tmod 20000).toNat, by rw [Int.tmod_eq_emod_of_nonneg ha0]; omega, by rw [Int.tmod_eq_emod_of_nonneg ha0]; omega⟩
  obtain ⟨K, hK, hK1⟩ : ∃ K : Nat, b.tmod 20000 = K ∧ K < 20000 := ⟨(b.tmod 20000).toNat, by rw [Int.tmod_eq_emod_of_nonneg hb0]; omega, by rw [Int.tmod_eq_emod_of_nonneg hb0]; omega⟩
  have hr : ∀ {G' : Gh} {H : List Own}, G.le G' → Rds G' H AA (vflat x.args) := fun hg => Sl.vals (hA.mono hg)
  refine Fn.enter Try.func8 rfl rfl fun w0 => ?_
  refine WC.seq ?_
  refine WC.region ?_
  refine WL.op (by kernel_rfl) (OW.box rfl rfl fun b1 => ?_)
  refine WL.p (Gp.assign rfl) (by kernel_rfl) rfl ?_
  refine WL.nil ?_
  refine WK.un ?_
  refine WC.seq ?_
  refine WC.region ?_
  refine WL.p (Gp.fieldAddr rfl) (by kernel_rfl) rfl ?_
  refine WL.v (Gv.loadN rfl (by (repeat first | exact .here | apply At.there)) rfl rfl) (by kernel_rfl) rfl ?_
  refine WL.p (Gp.fieldAddr rfl) (by kernel_rfl) rfl ?_
  refine WL.v (Gv.load1 rfl (by (repeat first | exact .here | apply At.there)) rfl) (by kernel_rfl) rfl ?_
  refine WL.p (Gp.fieldAddr rfl) (by kernel_rfl) rfl ?_
  refine WL.v (Gv.load1 rfl (by (repeat first | exact .here | apply At.there)) rfl) (by kernel_rfl) rfl ?_
  cases hs : startR x.pg x.n x.args with
  | none =>
    refine WL.op (by kernel_rfl) (OW.callK rfl ((Start_fn G x.pg CA PA cc pc qv hC hP hB x.n AA ac x.args [] (hr G.le_refl) (by omega)).mono fun e G' H' h => (by rw [hs] at h; exact h)) rfl fun v' G' H' h hg => ?_)
    obtain ⟨he, rfl, rfl⟩ := h
    cases he
    refine WL.p (Gp.move rfl) (by kernel_rfl) rfl ?_
    refine WL.p (Gp.extract rfl rfl) (by kernel_rfl) rfl ?_
    refine WL.p (Gp.extract rfl rfl) (by kernel_rfl) rfl ?_
    refine WL.p (Gp.assign rfl) (by kernel_rfl) rfl ?_
    refine WL.p (Gp.assign rfl) (by kernel_rfl) rfl ?_
    refine WL.nil ?_
    refine WK.un ?_
    refine WC.seq ?_
    refine WC.region ?_
    refine WL.p (Gp.fieldAddr rfl) (by kernel_rfl) rfl ?_
    refine WL.v (Gv.loadN rfl (by (repeat first | exact .here | apply At.there)) rfl rfl) (by kernel_rfl) rfl ?_
    refine WL.p (Gp.fieldAddr rfl) (by kernel_rfl) rfl ?_
    refine WL.v (Gv.load1 rfl (by (repeat first | exact .here | apply At.there)) rfl) (by kernel_rfl) rfl ?_
    refine WL.p (Gp.fieldAddr rfl) (by kernel_rfl) rfl ?_
    refine WL.v (Gv.load1 rfl (by (repeat first | exact .here | apply At.there)) rfl) (by kernel_rfl) rfl ?_
    refine WL.op (by kernel_rfl) (OW.callK rfl ((Start_fn G x.pg CA PA cc pc qv hC hP hB x.n AA ac x.args [] (hr G.le_refl) (by omega)).mono fun e G' H' h => (by rw [hs] at h; exact h)) rfl fun v' G' H' h hg => ?_)
    obtain ⟨he, rfl, rfl⟩ := h
    cases he
    refine WL.p (Gp.move rfl) (by kernel_rfl) rfl ?_
    refine WL.p (Gp.extract rfl rfl) (by kernel_rfl) rfl ?_
    refine WL.p (Gp.extract rfl rfl) (by kernel_rfl) rfl ?_
    refine WL.p (Gp.assign rfl) (by kernel_rfl) rfl ?_
    refine WL.p (Gp.assign rfl) (by kernel_rfl) rfl ?_
    refine WL.nil ?_
    refine WK.un ?_
    refine WC.seq ?_
    refine WC.seq ?_
    refine WC.region ?_
    refine WL.p (Gp.move rfl) (by kernel_rfl) rfl ?_
    refine WL.p (Gp.move rfl) (by kernel_rfl) rfl ?_
    (first | refine WL.p (Gp.neI rfl rfl) (by kernel_rfl) rfl ?_ | refine WL.p (Gp.neS rfl rfl) (by kernel_rfl) rfl ?_ | refine WL.p (Gp.neB rfl rfl) (by kernel_rfl) rfl ?_)
    refine WL.p (Gp.move rfl) (by kernel_rfl) rfl ?_
    refine WL.p (Gp.move rfl) (by kernel_rfl) rfl ?_
    (first | refine WL.p (Gp.neI rfl rfl) (by kernel_rfl) rfl ?_ | refine WL.p (Gp.neS rfl rfl) (by kernel_rfl) rfl ?_ | refine WL.p (Gp.neB rfl rfl) (by kernel_rfl) rfl ?_)
    (first | refine WL.p (Gp.pickT rfl rfl) (by kernel_rfl) rfl ?_ | refine WL.p (Gp.pickF rfl rfl) (by kernel_rfl) rfl ?_)
    refine WL.nil ?_
    refine WK.un ?_
    refine WC.cond_true rfl ?_
    refine WC.seq ?_
    refine WC.region ?_
    refine WL.p (Gp.move rfl) (by kernel_rfl) rfl ?_
    refine WL.p (Gp.move rfl) (by kernel_rfl) rfl ?_
    (first | refine WL.p (Gp.eqI rfl rfl) (by kernel_rfl) rfl ?_ | refine WL.p (Gp.eqS rfl rfl) (by kernel_rfl) rfl ?_ | refine WL.p (Gp.nilSl rfl) (by kernel_rfl) rfl ?_ | refine WL.p (Gp.eqB rfl rfl) (by kernel_rfl) rfl ?_)
    refine WL.p (Gp.move rfl) (by kernel_rfl) rfl ?_
    refine WL.op (by kernel_rfl) (OW.callK rfl (awake_fn _) rfl fun v' G' H' h hg => ?_)
    obtain ⟨he, hg3, rfl⟩ := h
    cases he
    (first | refine WL.p (Gp.pickT rfl rfl) (by kernel_rfl) rfl ?_ | refine WL.p (Gp.pickF rfl rfl) (by kernel_rfl) rfl ?_)
    refine WL.p (Gp.assign rfl) (by kernel_rfl) rfl ?_
    refine WL.nil ?_
    refine WK.un ?_
    refine WC.ret ?_
    refine WK.un ?_
    exact QF.p1 (.inl rfl) rfl (.tmp rfl) (⟨rfl, hg3⟩)
  | some q =>
    obtain ⟨hI, hL⟩ := startS_inv hs
    have hst0 : (startS q x.n x.args).steps = 0 := rfl
    have hI1 := Inv.run N _ hI hL
    have hI2 := Inv.run K _ hI1.1 hI1.2
    have hs1 := runM_steps N hI hL
    have hc1 := runM_le (pg := x.pg) N (startS q x.n x.args)
    have hs2 := runM_steps K hI1.1 hI1.2
    have hc2 := runM_le (pg := x.pg) K (runM x.pg N (startS q x.n x.args)).2
    have hadd := runM_add x.pg N K (startS q x.n x.args)
    have hout := hI2.1.out.1
    have htS := hI2.1.topS
    have htV := hI2.1.topV
    have hfr := hI2.1.frames
    have hmd := hI2.2.made
    refine WL.op (by kernel_rfl) (OW.callK rfl ((Start_fn G x.pg CA PA cc pc qv hC hP hB x.n AA ac x.args [] (hr G.le_refl) (by omega)).mono fun e G' H' h => (by rw [hs] at h; exact h)) rfl fun v' G' H' h hg => ?_)
    obtain ⟨mb1, CA1, PA1, cc1, pc1, H1, he, hg1, hC1, hP1, hR1, rfl⟩ := h
    cases he
    refine WL.pk (H' := .blk b1 (.cells #[.slice CA x.pg.consts.length cc, .slice PA x.pg.procs.length pc, qv, .int .i64 x.n, .slice AA x.args.length ac] 28 (0, 0)) :: H1) (by repeat (first | exact Pk.nil | exact Pk.all | exact Pk.app | exact Pk.appR | with_reducible apply Pk.na | (apply Pk.cons; (repeat first | exact .here | apply Rem.there | apply Rem.app)) | apply Pk.assoc | apply Pk.skip | apply Pk.skipA)) ?_
    refine WL.p (Gp.move rfl) (by kernel_rfl) rfl ?_
    refine WL.p (Gp.extract rfl rfl) (by kernel_rfl) rfl ?_
    refine WL.p (Gp.extract rfl rfl) (by kernel_rfl) rfl ?_
    refine WL.p (Gp.assign rfl) (by kernel_rfl) rfl ?_
    refine WL.p (Gp.assign rfl) (by kernel_rfl) rfl ?_
    refine WL.nil ?_
    refine WK.un ?_
    refine WC.seq ?_
    refine WC.region ?_
    refine WL.p (Gp.fieldAddr rfl) (by kernel_rfl) rfl ?_
    refine WL.v (Gv.loadN rfl (by (repeat first | exact .here | apply At.there)) rfl rfl) (by kernel_rfl) rfl ?_
    refine WL.p (Gp.fieldAddr rfl) (by kernel_rfl) rfl ?_
    refine WL.v (Gv.load1 rfl (by (repeat first | exact .here | apply At.there)) rfl) (by kernel_rfl) rfl ?_
    refine WL.p (Gp.fieldAddr rfl) (by kernel_rfl) rfl ?_
    refine WL.v (Gv.load1 rfl (by (repeat first | exact .here | apply At.there)) rfl) (by kernel_rfl) rfl ?_
    refine WL.op (by kernel_rfl) (OW.callK rfl ((Start_fn _ x.pg CA PA cc pc qv (hC.mono hg1) (hP.mono hg1) hB x.n AA ac x.args [] (hr hg1) (by omega)).mono fun e G' H' h => (by rw [hs] at h; exact h)) rfl fun v' G' H' h hg => ?_)
    obtain ⟨mb2, CA2, PA2, cc2, pc2, H2, he, hg2, hC2, hP2, hR2, rfl⟩ := h
    cases he
    refine WL.pk (H' := H2 ++ (.blk b1 (.cells #[.slice CA x.pg.consts.length cc, .slice PA x.pg.procs.length pc, qv, .int .i64 x.n, .slice AA x.args.length ac] 28 (0, 0)) :: H1)) (by repeat (first | exact Pk.nil | exact Pk.all | exact Pk.app | exact Pk.appR | with_reducible apply Pk.na | (apply Pk.cons; (repeat first | exact .here | apply Rem.there | apply Rem.app)) | apply Pk.assoc | apply Pk.skip | apply Pk.skipA)) ?_
    refine WL.p (Gp.move rfl) (by kernel_rfl) rfl ?_
    refine WL.p (Gp.extract rfl rfl) (by kernel_rfl) rfl ?_
    refine WL.p (Gp.extract rfl rfl) (by kernel_rfl) rfl ?_
    refine WL.p (Gp.assign rfl) (by kernel_rfl) rfl ?_
    refine WL.p (Gp.assign rfl) (by kernel_rfl) rfl ?_
    refine WL.nil ?_
    refine WK.un ?_
    refine WC.seq ?_
    refine WC.seq ?_
    refine WC.region ?_
    refine WL.p (Gp.move rfl) (by kernel_rfl) rfl ?_
    refine WL.p (Gp.move rfl) (by kernel_rfl) rfl ?_
    (first | refine WL.p (Gp.neI rfl rfl) (by kernel_rfl) rfl ?_ | refine WL.p (Gp.neS rfl rfl) (by kernel_rfl) rfl ?_ | refine WL.p (Gp.neB rfl rfl) (by kernel_rfl) rfl ?_)
    refine WL.p (Gp.move rfl) (by kernel_rfl) rfl ?_
    refine WL.p (Gp.move rfl) (by kernel_rfl) rfl ?_
    (first | refine WL.p (Gp.neI rfl rfl) (by kernel_rfl) rfl ?_ | refine WL.p (Gp.neS rfl rfl) (by kernel_rfl) rfl ?_ | refine WL.p (Gp.neB rfl rfl) (by kernel_rfl) rfl ?_)
    (first | refine WL.p (Gp.pickT rfl rfl) (by kernel_rfl) rfl ?_ | refine WL.p (Gp.pickF rfl rfl) (by kernel_rfl) rfl ?_)
    refine WL.nil ?_
    refine WK.un ?_
    refine WC.cond_false rfl ?_
    refine WC.skip ?_
    refine WK.un ?_
    refine WC.seq ?_
    refine WC.region ?_
    refine WL.p (Gp.move rfl) (by kernel_rfl) rfl ?_
    refine WL.p (Gp.convIf rfl (wrap_small (x := a) (by omega) (by omega))) (by kernel_rfl) rfl ?_
    refine WL.p (Gp.remf rfl rfl (by decide) hN) (by kernel_rfl) rfl ?_
    refine WL.p (Gp.move rfl) (by kernel_rfl) rfl ?_
    refine WL.p (Gp.convIf rfl (wrap_small (x := b) (by omega) (by omega))) (by kernel_rfl) rfl ?_
    refine WL.p (Gp.remf rfl rfl (by decide) hK) (by kernel_rfl) rfl ?_
    refine WL.p (Gp.assign rfl) (by kernel_rfl) rfl ?_
    refine WL.p (Gp.assign rfl) (by kernel_rfl) rfl ?_
    refine WL.nil ?_
    refine WK.un ?_
    refine WC.seq ?_
    refine WC.region ?_
    refine WL.p (Gp.move rfl) (by kernel_rfl) rfl ?_
    refine WL.p (Gp.move rfl) (by kernel_rfl) rfl ?_
    refine WL.op (by kernel_rfl) (OW.callK rfl (Step_nat _ x.pg CA1 PA1 cc1 pc1 (hC1.mono hg2) (hP1.mono hg2) hB.codeB mb1 (.slice none 0 0) _ H1 hR1 hI hL N N rfl (by omega) (by rw [hst0]; omega)) rfl fun v' G' H' h hg => ?_)
    obtain ⟨he, rfl, hR1⟩ := h
    cases he
    refine WL.p (Gp.assign rfl) (by kernel_rfl) rfl ?_
    refine WL.nil ?_
    refine WK.un ?_
    refine WC.seq ?_
    refine WC.region ?_
    refine WL.p (Gp.move rfl) (by kernel_rfl) rfl ?_
    refine WL.p (Gp.move rfl) (by kernel_rfl) rfl ?_
    refine WL.op (by kernel_rfl) (OW.callK rfl (Step_nat _ x.pg CA1 PA1 cc1 pc1 (hC1.mono hg2) (hP1.mono hg2) hB.codeB mb1 (.slice none 0 0) _ _ hR1 hI1.1 hI1.2 K K rfl (by omega) (by omega)) rfl fun v' G' H' h hg => ?_)
    obtain ⟨he, rfl, hR1⟩ := h
    cases he
    refine WL.p (Gp.assign rfl) (by kernel_rfl) rfl ?_
    refine WL.nil ?_
    refine WK.un ?_
    refine WC.seq ?_
    refine WC.region ?_
    refine WL.p (Gp.move rfl) (by kernel_rfl) rfl ?_
    refine WL.p (Gp.move rfl) (by kernel_rfl) rfl ?_
    refine WL.p (Gp.move rfl) (by kernel_rfl) rfl ?_
    refine WL.p (Gp.add' rfl rfl (wrap_small (x := (N : Int) + K) (by omega) (by omega))) (by kernel_rfl) rfl ?_
    refine WL.op (by kernel_rfl) (OW.callK rfl (Step_nat _ x.pg CA2 PA2 cc2 pc2 hC2 hP2 hB.codeB mb2 (.slice none 0 0) _ H2 hR2 hI hL ((N : Int) + K) (N + K) (by omega) (by omega) (by rw [hst0]; omega)) rfl fun v' G' H' h hg => ?_)
    obtain ⟨he, rfl, hR2⟩ := h
    cases he
    rw [hadd] at hR2
    refine WL.p (Gp.assign rfl) (by kernel_rfl) rfl ?_
    refine WL.nil ?_
    refine WK.un ?_
    rw [hadd]
    generalize hT : (runM x.pg K (runM x.pg N (startS q x.n x.args)).2).2 = T at *
    refine WC.seq ?_
    refine WC.seq ?_
    refine WC.region ?_
    refine WL.p (Gp.move rfl) (by kernel_rfl) rfl ?_
    refine WL.p (Gp.move rfl) (by kernel_rfl) rfl ?_
    refine WL.p (Gp.add' rfl rfl (wrap_small (x := (((runM x.pg N (startS q x.n x.args)).1 : Nat) : Int) + ((runM x.pg K (runM x.pg N (startS q x.n x.args)).2).1 : Nat)) (by omega) (by omega))) (by kernel_rfl) rfl ?_
    refine WL.p (Gp.move rfl) (by kernel_rfl) rfl ?_
    refine WL.p (Gp.neI' rfl rfl (show ((((runM x.pg N (startS q x.n x.args)).1 : Nat) : Int) + ((runM x.pg K (runM x.pg N (startS q x.n x.args)).2).1 : Nat) != (((runM x.pg N (startS q x.n x.args)).1 + (runM x.pg K (runM x.pg N (startS q x.n x.args)).2).1 : Nat) : Int)) = false by simp)) (by kernel_rfl) rfl ?_
    refine WL.p (Gp.move rfl) (by kernel_rfl) rfl ?_
    refine WL.p (Gp.move rfl) (by kernel_rfl) rfl ?_
    refine WL.op (by kernel_rfl) (OW.callK rfl (Outcome_fn _ CA1 PA1 cc1 pc1 _ _ (.slice none 0 0) mb1 T _ hR1 hmd (by omega)) rfl fun v' G' H' h hg => ?_)
    obtain ⟨A1, cap1, x1, he, rfl, hx1, rfl⟩ := h
    cases he
    refine WL.p (Gp.move rfl) (by kernel_rfl) rfl ?_
    refine WL.op (by kernel_rfl) (OW.callK rfl (Outcome_fn _ CA2 PA2 cc2 pc2 _ _ (.slice none 0 0) mb2 T _ hR2 hmd (by omega)) rfl fun v' G' H' h hg => ?_)
    obtain ⟨A2, cap2, x2, he, rfl, hx2, rfl⟩ := h
    cases he
    refine WL.op (by kernel_rfl) (OW.callK rfl (same_fn _ [x1, x2] A1 A2 cap1 cap2 T.oc T.oc (Vec.rds hx1 .here) (Vec.rds hx2 (.there .here)) (by show T.out.length ≤ _; omega)) rfl fun v' G' H' h hg => ?_)
    obtain ⟨he, rfl, rfl⟩ := h
    cases he
    rw [sameO_refl]
    refine WL.p (Gp.notB rfl) (by kernel_rfl) rfl ?_
    (first | refine WL.p (Gp.pickT rfl rfl) (by kernel_rfl) rfl ?_ | refine WL.p (Gp.pickF rfl rfl) (by kernel_rfl) rfl ?_)
    refine WL.p (Gp.move rfl) (by kernel_rfl) rfl ?_
    refine WL.p (Gp.move rfl) (by kernel_rfl) rfl ?_
    refine WL.op (by kernel_rfl) (OW.callK rfl (Spot_fn _ CA1 PA1 cc1 pc1 _ _ (.slice none 0 0) mb1 T _ hR1 hmd (by omega)) rfl fun v' G' H' h hg => ?_)
    obtain ⟨he, rfl, rfl⟩ := h
    cases he
    refine WL.p (Gp.move rfl) (by kernel_rfl) rfl ?_
    refine WL.op (by kernel_rfl) (OW.callK rfl (Spot_fn _ CA2 PA2 cc2 pc2 _ _ (.slice none 0 0) mb2 T _ hR2 hmd (by omega)) rfl fun v' G' H' h hg => ?_)
    obtain ⟨he, rfl, rfl⟩ := h
    cases he
    refine WL.p (Gp.neSpot rfl rfl) (by kernel_rfl) rfl ?_
    rw [decide_eq_true rfl]
    (first | refine WL.p (Gp.pickT rfl rfl) (by kernel_rfl) rfl ?_ | refine WL.p (Gp.pickF rfl rfl) (by kernel_rfl) rfl ?_)
    refine WL.p (Gp.move rfl) (by kernel_rfl) rfl ?_
    refine WL.p (Gp.move rfl) (by kernel_rfl) rfl ?_
    refine WL.op (by kernel_rfl) (OW.callK rfl (Depth_fn _ CA1 PA1 cc1 pc1 _ _ (.slice none 0 0) mb1 T _ hR1) rfl fun v' G' H' h hg => ?_)
    obtain ⟨he, rfl, rfl⟩ := h
    cases he
    refine WL.p (Gp.move rfl) (by kernel_rfl) rfl ?_
    refine WL.op (by kernel_rfl) (OW.callK rfl (Depth_fn _ CA2 PA2 cc2 pc2 _ _ (.slice none 0 0) mb2 T _ hR2) rfl fun v' G' H' h hg => ?_)
    obtain ⟨he, rfl, rfl⟩ := h
    cases he
    refine WL.p (Gp.neI' rfl rfl (show ((T.frames.length : Int) != T.frames.length) = false by simp)) (by kernel_rfl) rfl ?_
    (first | refine WL.p (Gp.pickT rfl rfl) (by kernel_rfl) rfl ?_ | refine WL.p (Gp.pickF rfl rfl) (by kernel_rfl) rfl ?_)
    refine WL.nil ?_
    refine WK.un ?_
    refine WC.cond_false rfl ?_
    refine WC.skip ?_
    refine WK.un ?_
    refine WC.seq ?_
    refine WC.region ?_
    refine WL.p (Gp.move rfl) (by kernel_rfl) rfl ?_
    refine WL.op (by kernel_rfl) (OW.callK rfl (Vars_fn _ CA1 PA1 cc1 pc1 _ _ (.slice none 0 0) mb1 T _ hR1 (by omega) (by omega)) rfl fun v' G' H' h hg => ?_)
    obtain ⟨A3, cap3, x3, he, rfl, hx3, rfl⟩ := h
    cases he
    refine WL.p (Gp.move rfl) (by kernel_rfl) rfl ?_
    refine WL.op (by kernel_rfl) (OW.callK rfl (Vars_fn _ CA2 PA2 cc2 pc2 _ _ (.slice none 0 0) mb2 T _ hR2 (by omega) (by omega)) rfl fun v' G' H' h hg => ?_)
    obtain ⟨A4, cap4, x4, he, rfl, hx4, rfl⟩ := h
    cases he
    refine WL.op (by kernel_rfl) (OW.callK rfl (samevals_fn _ [x3, x4] A3 A4 cap3 cap4 (topVars T) (topVars T) (Vec.rds hx3 .here) (Vec.rds hx4 (.there .here)) (by omega)) rfl fun v' G' H' h hg => ?_)
    obtain ⟨he, rfl, rfl⟩ := h
    cases he
    rw [decide_eq_true rfl]
    refine WL.p (Gp.move rfl) (by kernel_rfl) rfl ?_
    refine WL.p (Gp.move rfl) (by kernel_rfl) rfl ?_
    refine WL.op (by kernel_rfl) (OW.callK rfl (Stack_fn _ CA1 PA1 cc1 pc1 _ _ (.slice none 0 0) mb1 T _ hR1 (by omega) (by omega)) rfl fun v' G' H' h hg => ?_)
    obtain ⟨A5, cap5, x5, he, rfl, hx5, rfl⟩ := h
    cases he
    refine WL.p (Gp.move rfl) (by kernel_rfl) rfl ?_
    refine WL.op (by kernel_rfl) (OW.callK rfl (Stack_fn _ CA2 PA2 cc2 pc2 _ _ (.slice none 0 0) mb2 T _ hR2 (by omega) (by omega)) rfl fun v' G' H' h hg => ?_)
    obtain ⟨A6, cap6, x6, he, rfl, hx6, rfl⟩ := h
    cases he
    refine WL.op (by kernel_rfl) (OW.callK rfl (samevals_fn _ [x5, x6] A5 A6 cap5 cap6 (topStack T) (topStack T) (Vec.rds hx5 .here) (Vec.rds hx6 (.there .here)) (by omega)) rfl fun v' G' H' h hg => ?_)
    obtain ⟨he, rfl, rfl⟩ := h
    cases he
    rw [decide_eq_true rfl]
    (first | refine WL.p (Gp.pickT rfl rfl) (by kernel_rfl) rfl ?_ | refine WL.p (Gp.pickF rfl rfl) (by kernel_rfl) rfl ?_)
    refine WL.p (Gp.move rfl) (by kernel_rfl) rfl ?_
    refine WL.op (by kernel_rfl) (OW.callK rfl (awake_fn _) rfl fun v' G' H' h hg => ?_)
    obtain ⟨he, hg3, rfl⟩ := h
    cases he
    (first | refine WL.p (Gp.pickT rfl rfl) (by kernel_rfl) rfl ?_ | refine WL.p (Gp.pickF rfl rfl) (by kernel_rfl) rfl ?_)
    refine WL.p (Gp.assign rfl) (by kernel_rfl) rfl ?_
    refine WL.nil ?_
    refine WK.un ?_
    refine WC.ret ?_
    refine WK.un ?_
    exact QF.p1 (.inl rfl) rfl (.tmp rfl) (⟨rfl, Gh.le_trans hg1 (Gh.le_trans hg2 hg3)⟩)
end Go.Proofs.Ytjgohbepageicaa.Gb
