/- A program of its own. -/
import Derived.Test.YtjgohbepageicaaVx
import Derived.Test.YtjgohbepageicaaGl
namespace Go.Proofs.Ytjgohbepageicaa.Gb
open Go Go.Proofs
set_option linter.unusedVariables false
set_option linter.unusedSimpArgs false
set_option linter.unusedSectionVars false
attribute [local irreducible] Try.prog

/-- the bounds of a program that is read -/
structure PgB (pg : Pg) : Prop where
  consts : pg.consts.length * 40 ≤ 140737488355328
  procs : pg.procs.length * 88 ≤ 140737488355328
  params : ∀ p ∈ pg.procs, p.params.length * 8 ≤ 140737488355328
  code : ∀ p ∈ pg.procs, p.code.length * 16 ≤ 140737488355328

theorem own_fn (G : Gh) (pg : Pg) (CA PA : Option Addr) (cc pc : Nat) (qv : Value) (hC : Sl Kd.val G CA pg.consts) (hP : Sl Kd.prc G PA pg.procs) (hB : PgB pg) :
    Fn Try.prog 37 #[.agg #[.slice CA pg.consts.length cc, .slice PA pg.procs.length pc, qv]] G []
      fun e G' H' => ∃ CA' PA' cc' pc', e = .returned (.agg #[.slice CA' pg.consts.length cc', .slice PA' pg.procs.length pc', .slice none 0 0]) ∧ G.le G' ∧ Sl Kd.val G' CA' pg.consts ∧ Sl Kd.prc G' PA' pg.procs ∧ H' = [] := by
  obtain ⟨csC, hrC, hlC, h1C, hkC⟩ := Sl.rds (H := []) (by decide : 0 < Kd.val.n) hC
  obtain ⟨csP, hrP, hlP, h1P, hkP⟩ := Sl.rds (H := []) (by decide : 0 < Kd.prc.n) hP
  refine Fn.enter Try.func37 rfl rfl fun w0 => ?_
  refine WC.seq ?_
  refine WC.region ?_
  refine WL.op (by kernel_rfl) (OW.box rfl rfl fun b5 => ?_)
  refine WL.op (by kernel_rfl) (OW.alloc rfl fun b6 => ?_)
  refine WL.nil ?_
  refine WK.un ?_
  refine WC.join (X := Option Addr × Nat × Own × Option Addr × Nat × Own × Nat × Nat) (fun x => [(3, .pointer (some ⟨x.2.2.2.2.2.2.1, 0, none⟩)), (2, .pointer (some ⟨x.2.2.2.2.2.2.2, 0, none⟩))]) (fun x => G)
    (fun x => [x.2.2.1, x.2.2.2.2.2.1, .blk x.2.2.2.2.2.2.1 (.cells #[.slice x.1 pg.consts.length x.2.1, .slice x.2.2.2.1 pg.procs.length x.2.2.2.2.1, .slice none 0 0] 26 (0, 0)), .blk x.2.2.2.2.2.2.2 (.cells #[.slice none 0 0, .slice none 0 0, .slice none 0 0] 26 (0, 0))])
    (fun x => Vec 33 4 x.1 pg.consts.length x.2.1 csC x.2.2.1 ∧ Vec 55 6 x.2.2.2.1 pg.procs.length x.2.2.2.2.1 csP x.2.2.2.2.2.1) ?_ fun x hx => ?_
  · refine WC.drawS (Hs := [.blk b5 (.cells #[.slice CA pg.consts.length cc, .slice PA pg.procs.length pc, qv] 26 (0, 0))]) mixed (by repeat (first | exact Pk.nil | exact Pk.all | exact Pk.app | exact Pk.appR | with_reducible apply Pk.na | (apply Pk.cons; (repeat first | exact .here | apply Rem.there | apply Rem.app)) | apply Pk.skip | apply Pk.skipA)) ?_
    refine WB.tp (i := 0) rfl (by kernel_rfl) (by kernel_rfl) rfl (Gp.fieldAddr rfl) ?_
    refine WB.tp (i := 3) rfl (by kernel_rfl) (by kernel_rfl) rfl (Gp.fieldAddr rfl) ?_
    (first | (refine WB.tv (i := 1) rfl (by kernel_rfl) (by kernel_rfl) rfl (Gv.load1 rfl (by (repeat first | exact .here | apply At.there)) (by first | rfl | assumption)) ?_) | (refine WB.tv (i := 1) rfl (by kernel_rfl) (by kernel_rfl) rfl (Gv.loadN rfl (by (repeat first | exact .here | apply At.there)) (by rfl) (by rfl)) ?_) | (refine WB.tv (i := 1) rfl (by kernel_rfl) (by kernel_rfl) rfl (Gv.loadG1 rfl (by assumption) rfl) ?_) | (refine WB.tv (i := 1) rfl (by kernel_rfl) (by kernel_rfl) rfl (Gv.loadG0 rfl (by assumption) rfl) ?_) | (refine WB.tv (i := 1) rfl (by kernel_rfl) (by kernel_rfl) rfl (Gv.loadGN rfl (by assumption) rfl) ?_))
    (first | (refine WB.tv (i := 4) rfl (by kernel_rfl) (by kernel_rfl) rfl (Gv.load1 rfl (by (repeat first | exact .here | apply At.there)) (by first | rfl | assumption)) ?_) | (refine WB.tv (i := 4) rfl (by kernel_rfl) (by kernel_rfl) rfl (Gv.loadN rfl (by (repeat first | exact .here | apply At.there)) (by rfl) (by rfl)) ?_) | (refine WB.tv (i := 4) rfl (by kernel_rfl) (by kernel_rfl) rfl (Gv.loadG1 rfl (by assumption) rfl) ?_) | (refine WB.tv (i := 4) rfl (by kernel_rfl) (by kernel_rfl) rfl (Gv.loadG0 rfl (by assumption) rfl) ?_) | (refine WB.tv (i := 4) rfl (by kernel_rfl) (by kernel_rfl) rfl (Gv.loadGN rfl (by assumption) rfl) ?_))
    refine WB.two (i := 2) (j := 7) (by kernel_rfl) rfl rfl (by kernel_rfl) (by kernel_rfl) ?_ ?_
    · refine OW.callR rfl (Pk.perm (by repeat (first | exact Pk.nil | exact Pk.all | exact Pk.app | exact Pk.appR | with_reducible apply Pk.na | (apply Pk.cons; (repeat first | exact .here | apply Rem.there | apply Rem.app)) | apply Pk.skip | apply Pk.skipA))) (clone_vals G [] CA pg.consts.length cc csC hrC hlC h1C hC.none_zero hB.consts) rfl (by intro e G' H' h; repeat (first | exact ⟨_, h.1⟩ | (obtain ⟨_, h⟩ := h))) fun v' G' H' h hg => ?_
      obtain ⟨A1, cap1, x1, he, rfl, rfl, hx1⟩ := h
      cases he
      refine ⟨fun w hw => hw.pk (by repeat (first | exact Pk.nil | exact Pk.all | exact Pk.app | exact Pk.appR | with_reducible apply Pk.na | (apply Pk.cons; (repeat first | exact .here | apply Rem.there | apply Rem.app)) | apply Pk.skip | apply Pk.skipA)), ?_⟩
      refine WB.two (i := 5) (j := 7) (by kernel_rfl) rfl rfl (by kernel_rfl) (by kernel_rfl) ?_ ?_
      · refine OW.callR rfl (Pk.perm (by repeat (first | exact Pk.nil | exact Pk.all | exact Pk.app | exact Pk.appR | with_reducible apply Pk.na | (apply Pk.cons; (repeat first | exact .here | apply Rem.there | apply Rem.app)) | apply Pk.skip | apply Pk.skipA))) (clone_procs G [] PA pg.procs.length pc csP hrP hlP h1P hP.none_zero hB.procs) rfl (by intro e G' H' h; repeat (first | exact ⟨_, h.1⟩ | (obtain ⟨_, h⟩ := h))) fun v' G' H' h hg => ?_
        obtain ⟨A2, cap2, x2, he, rfl, rfl, hx2⟩ := h
        cases he
        refine ⟨fun w hw => hw.pk (by repeat (first | exact Pk.nil | exact Pk.all | exact Pk.app | exact Pk.appR | with_reducible apply Pk.na | (apply Pk.cons; (repeat first | exact .here | apply Rem.there | apply Rem.app)) | apply Pk.skip | apply Pk.skipA)), ?_⟩
        refine WB.tp (i := 6) rfl (by kernel_rfl) (by kernel_rfl) rfl (Gp.build rfl rfl) ?_
        refine WB.one (i := 7) (by kernel_rfl) rfl (by kernel_rfl) (OW.alloc rfl fun b7 => ?_)
        refine ⟨fun w hw => hw.pk (by repeat (first | exact Pk.nil | exact Pk.all | exact Pk.app | exact Pk.appR | with_reducible apply Pk.na | (apply Pk.cons; (repeat first | exact .here | apply Rem.there | apply Rem.app)) | apply Pk.skip | apply Pk.skipA)), ?_⟩
        refine WB.one (i := 8) (by kernel_rfl) rfl (by kernel_rfl) (OW.store rfl rfl (by (repeat first | exact .here | apply At.there)) rfl (by rfl) (by rfl) (by kernel_rfl) (by rfl) ?_ rfl)
        refine ⟨fun w hw => hw.pk (by repeat (first | exact Pk.nil | exact Pk.all | exact Pk.app | exact Pk.appR | with_reducible apply Pk.na | (apply Pk.cons; (repeat first | exact .here | apply Rem.there | apply Rem.app)) | apply Pk.skip | apply Pk.skipA)), ?_⟩
        refine WB.done (by kernel_rfl) ?_
        refine WK.un ?_
        refine WK.pk (H' := [x1, x2, .blk b7 (.cells #[.slice A1 pg.consts.length cap1, .slice A2 pg.procs.length cap2, .slice none 0 0] 26 (0, 0)), .blk b6 (.cells #[.slice none 0 0, .slice none 0 0, .slice none 0 0] 26 (0, 0))]) (by repeat (first | exact Pk.nil | exact Pk.all | exact Pk.app | exact Pk.appR | with_reducible apply Pk.na | (apply Pk.cons; (repeat first | exact .here | apply Rem.there | apply Rem.app)) | apply Pk.skip | apply Pk.skipA)) ?_
        exact WK.meet (A1, cap1, x1, A2, cap2, x2, b7, b6) ⟨hx1, hx2⟩ (by exact ⟨rfl, rfl, trivial⟩) rfl (List.Sublist.refl _)
      · refine OW.alloc rfl fun b7 => ?_
        refine ⟨fun w hw => hw.pk (by repeat (first | exact Pk.nil | exact Pk.all | exact Pk.app | exact Pk.appR | with_reducible apply Pk.na | (apply Pk.cons; (repeat first | exact .here | apply Rem.there | apply Rem.app)) | apply Pk.skip | apply Pk.skipA)), ?_⟩
        refine WB.one (i := 5) (by kernel_rfl) rfl (by kernel_rfl) (OW.callR rfl (Pk.perm (by repeat (first | exact Pk.nil | exact Pk.all | exact Pk.app | exact Pk.appR | with_reducible apply Pk.na | (apply Pk.cons; (repeat first | exact .here | apply Rem.there | apply Rem.app)) | apply Pk.skip | apply Pk.skipA))) (clone_procs G [] PA pg.procs.length pc csP hrP hlP h1P hP.none_zero hB.procs) rfl (by intro e G' H' h; repeat (first | exact ⟨_, h.1⟩ | (obtain ⟨_, h⟩ := h))) fun v' G' H' h hg => ?_)
        obtain ⟨A2, cap2, x2, he, rfl, rfl, hx2⟩ := h
        cases he
        refine ⟨fun w hw => hw.pk (by repeat (first | exact Pk.nil | exact Pk.all | exact Pk.app | exact Pk.appR | with_reducible apply Pk.na | (apply Pk.cons; (repeat first | exact .here | apply Rem.there | apply Rem.app)) | apply Pk.skip | apply Pk.skipA)), ?_⟩
        refine WB.tp (i := 6) rfl (by kernel_rfl) (by kernel_rfl) rfl (Gp.build rfl rfl) ?_
        refine WB.one (i := 8) (by kernel_rfl) rfl (by kernel_rfl) (OW.store rfl rfl (by (repeat first | exact .here | apply At.there)) rfl (by rfl) (by rfl) (by kernel_rfl) (by rfl) ?_ rfl)
        refine ⟨fun w hw => hw.pk (by repeat (first | exact Pk.nil | exact Pk.all | exact Pk.app | exact Pk.appR | with_reducible apply Pk.na | (apply Pk.cons; (repeat first | exact .here | apply Rem.there | apply Rem.app)) | apply Pk.skip | apply Pk.skipA)), ?_⟩
        refine WB.done (by kernel_rfl) ?_
        refine WK.un ?_
        refine WK.pk (H' := [x1, x2, .blk b7 (.cells #[.slice A1 pg.consts.length cap1, .slice A2 pg.procs.length cap2, .slice none 0 0] 26 (0, 0)), .blk b6 (.cells #[.slice none 0 0, .slice none 0 0, .slice none 0 0] 26 (0, 0))]) (by repeat (first | exact Pk.nil | exact Pk.all | exact Pk.app | exact Pk.appR | with_reducible apply Pk.na | (apply Pk.cons; (repeat first | exact .here | apply Rem.there | apply Rem.app)) | apply Pk.skip | apply Pk.skipA)) ?_
        exact WK.meet (A1, cap1, x1, A2, cap2, x2, b7, b6) ⟨hx1, hx2⟩ (by exact ⟨rfl, rfl, trivial⟩) rfl (List.Sublist.refl _)
    · refine OW.alloc rfl fun b7 => ?_
      refine ⟨fun w hw => hw.pk (by repeat (first | exact Pk.nil | exact Pk.all | exact Pk.app | exact Pk.appR | with_reducible apply Pk.na | (apply Pk.cons; (repeat first | exact .here | apply Rem.there | apply Rem.app)) | apply Pk.skip | apply Pk.skipA)), ?_⟩
      refine WB.one (i := 2) (by kernel_rfl) rfl (by kernel_rfl) (OW.callR rfl (Pk.perm (by repeat (first | exact Pk.nil | exact Pk.all | exact Pk.app | exact Pk.appR | with_reducible apply Pk.na | (apply Pk.cons; (repeat first | exact .here | apply Rem.there | apply Rem.app)) | apply Pk.skip | apply Pk.skipA))) (clone_vals G [] CA pg.consts.length cc csC hrC hlC h1C hC.none_zero hB.consts) rfl (by intro e G' H' h; repeat (first | exact ⟨_, h.1⟩ | (obtain ⟨_, h⟩ := h))) fun v' G' H' h hg => ?_)
      obtain ⟨A1, cap1, x1, he, rfl, rfl, hx1⟩ := h
      cases he
      refine ⟨fun w hw => hw.pk (by repeat (first | exact Pk.nil | exact Pk.all | exact Pk.app | exact Pk.appR | with_reducible apply Pk.na | (apply Pk.cons; (repeat first | exact .here | apply Rem.there | apply Rem.app)) | apply Pk.skip | apply Pk.skipA)), ?_⟩
      refine WB.one (i := 5) (by kernel_rfl) rfl (by kernel_rfl) (OW.callR rfl (Pk.perm (by repeat (first | exact Pk.nil | exact Pk.all | exact Pk.app | exact Pk.appR | with_reducible apply Pk.na | (apply Pk.cons; (repeat first | exact .here | apply Rem.there | apply Rem.app)) | apply Pk.skip | apply Pk.skipA))) (clone_procs G [] PA pg.procs.length pc csP hrP hlP h1P hP.none_zero hB.procs) rfl (by intro e G' H' h; repeat (first | exact ⟨_, h.1⟩ | (obtain ⟨_, h⟩ := h))) fun v' G' H' h hg => ?_)
      obtain ⟨A2, cap2, x2, he, rfl, rfl, hx2⟩ := h
      cases he
      refine ⟨fun w hw => hw.pk (by repeat (first | exact Pk.nil | exact Pk.all | exact Pk.app | exact Pk.appR | with_reducible apply Pk.na | (apply Pk.cons; (repeat first | exact .here | apply Rem.there | apply Rem.app)) | apply Pk.skip | apply Pk.skipA)), ?_⟩
      refine WB.tp (i := 6) rfl (by kernel_rfl) (by kernel_rfl) rfl (Gp.build rfl rfl) ?_
      refine WB.one (i := 8) (by kernel_rfl) rfl (by kernel_rfl) (OW.store rfl rfl (by (repeat first | exact .here | apply At.there)) rfl (by rfl) (by rfl) (by kernel_rfl) (by rfl) ?_ rfl)
      refine ⟨fun w hw => hw.pk (by repeat (first | exact Pk.nil | exact Pk.all | exact Pk.app | exact Pk.appR | with_reducible apply Pk.na | (apply Pk.cons; (repeat first | exact .here | apply Rem.there | apply Rem.app)) | apply Pk.skip | apply Pk.skipA)), ?_⟩
      refine WB.done (by kernel_rfl) ?_
      refine WK.un ?_
      refine WK.pk (H' := [x1, x2, .blk b7 (.cells #[.slice A1 pg.consts.length cap1, .slice A2 pg.procs.length cap2, .slice none 0 0] 26 (0, 0)), .blk b6 (.cells #[.slice none 0 0, .slice none 0 0, .slice none 0 0] 26 (0, 0))]) (by repeat (first | exact Pk.nil | exact Pk.all | exact Pk.app | exact Pk.appR | with_reducible apply Pk.na | (apply Pk.cons; (repeat first | exact .here | apply Rem.there | apply Rem.app)) | apply Pk.skip | apply Pk.skipA)) ?_
      exact WK.meet (A1, cap1, x1, A2, cap2, x2, b7, b6) ⟨hx1, hx2⟩ (by exact ⟨rfl, rfl, trivial⟩) rfl (List.Sublist.refl _)
  obtain ⟨A1, cap1, x1, A2, cap2, x2, bq, br⟩ := x
  obtain ⟨hx1, hx2⟩ := hx
  simp only at hx1 hx2
  refine WC.frozenVec hx1 .here fun G1 hG1 hz1 => ?_
  have hC1 : Sl Kd.val G1 A1 pg.consts := Sl.ofCs hz1 hlC (by decide) fun i x hx => Kd.val.mono hG1 (hkC i x hx)
  refine WC.seq ?_
  refine WC.seq ?_
  refine WC.region ?_
  refine WL.p (Gp.fieldAddr rfl) (by kernel_rfl) rfl ?_
  (first | (refine WL.v (Gv.load1 rfl (by (repeat first | exact .here | apply At.there)) (by first | rfl | assumption)) (by kernel_rfl) rfl ?_) | (refine WL.v (Gv.loadN rfl (by (repeat first | exact .here | apply At.there)) (by rfl) (by rfl)) (by kernel_rfl) rfl ?_) | (refine WL.v (Gv.loadG1 rfl (by assumption) rfl) (by kernel_rfl) rfl ?_) | (refine WL.v (Gv.loadG0 rfl (by assumption) rfl) (by kernel_rfl) rfl ?_) | (refine WL.v (Gv.loadGN rfl (by assumption) rfl) (by kernel_rfl) rfl ?_))
  (first | refine WL.p (Gp.lenSl rfl) (by kernel_rfl) rfl ?_ | refine WL.p (Gp.lenS rfl) (by kernel_rfl) rfl ?_)
  refine WL.p (Gp.move rfl) (by kernel_rfl) rfl ?_
  refine WL.nil ?_
  refine WK.un ?_
  refine WC.block ?_  -- 0
  have hmb := hB.procs
  refine WC.loop (X := Nat × Gh × Own) (fun x => [(15, .int .i64 x.1), (14, .int .i64 pg.procs.length), (3, .pointer (some ⟨bq, 0, none⟩)), (2, .pointer (some ⟨br, 0, none⟩))]) (fun x => x.2.1)
    (fun x => [x.2.2, .blk bq (.cells #[.slice A1 pg.consts.length cap1, .slice A2 pg.procs.length cap2, .slice none 0 0] 26 (0, 0)), .blk br (.cells #[.slice none 0 0, .slice none 0 0, .slice none 0 0] 26 (0, 0))]) (fun x => pg.procs.length - x.1)
    (fun x => x.1 ≤ pg.procs.length ∧ G1.le x.2.1 ∧ ∃ cs, Vec 55 6 A2 pg.procs.length cap2 cs x.2.2 ∧ ∀ i p, pg.procs[i]? = some p → Kd.prc.K x.2.1 p ((cs.drop (i * 6)).take 6))
    (0, G1, x2) ⟨by simp, Gh.le_refl _, csP, hx2, fun i p hp => Kd.prc.mono hG1 (hkP i p hp)⟩ (by exact ⟨rfl, rfl, rfl, rfl, trivial⟩) rfl (List.Sublist.refl _) fun x hx => ?_
  obtain ⟨j, Gj, xj⟩ := x
  obtain ⟨hj, hGj, cs, hvj, hkj⟩ := hx
  simp only at hj hGj hvj hkj
  refine WC.seq ?_
  refine WC.region ?_
  (first | refine WL.p (Gp.ltI rfl rfl) (by kernel_rfl) rfl ?_ | refine WL.p (Gp.ltS rfl rfl) (by kernel_rfl) rfl ?_)
  refine WL.nil ?_
  refine WK.un ?_
  refine WC.seq ?_
  refine WC.cond rfl (fun hc8 => ?_) (fun hc8 => ?_)
  · -- yes
    have hlt : j < pg.procs.length := by have h := of_decide_eq_true hc8; simp only at h; omega
    obtain ⟨pr, hpr⟩ : ∃ pr, pg.procs[j]? = some pr := ⟨_, List.getElem?_eq_getElem hlt⟩
    obtain ⟨QA, qc, IA, ic, hes, hQ, hI⟩ := hkj j pr hpr
    obtain ⟨hlv, ⟨h1, h2, h3, h4⟩ | ⟨pb, c, rfl, rfl, hv1, hv2, hv3⟩⟩ := id hvj
    · omega
    have hvv := hvj
    obtain ⟨csQ, hrQ, hlQ, h1Q, hkQ⟩ := Sl.rds (H := []) (by decide : 0 < (Kd.int .i64).n) hQ
    refine WC.skip ?_
    refine WK.un ?_
    refine WC.seq ?_
    refine WC.block ?_  -- 1
    refine WC.seq ?_
    refine WC.region ?_
    refine WL.p (Gp.move rfl) (by kernel_rfl) rfl ?_
    refine WL.p (Gp.assign rfl) (by kernel_rfl) rfl ?_
    refine WL.nil ?_
    refine WK.un ?_
    refine WC.seq ?_
    refine WC.drawS (Hs := [.blk bq (.cells #[.slice A1 pg.consts.length cap1, .slice (some ⟨pb, 0, none⟩) pg.procs.length cap2, .slice none 0 0] 26 (0, 0))]) mixed (by repeat (first | exact Pk.nil | exact Pk.all | exact Pk.app | exact Pk.appR | with_reducible apply Pk.na | (apply Pk.cons; (repeat first | exact .here | apply Rem.there | apply Rem.app)) | apply Pk.skip | apply Pk.skipA)) ?_
    refine WB.tp (i := 0) rfl (by kernel_rfl) (by kernel_rfl) rfl (Gp.fieldAddr rfl) ?_
    refine WB.tp (i := 2) rfl (by kernel_rfl) (by kernel_rfl) rfl (Gp.move rfl) ?_
    refine WB.tp (i := 3) rfl (by kernel_rfl) (by kernel_rfl) rfl (Gp.fieldAddr rfl) ?_
    refine WB.tp (i := 5) rfl (by kernel_rfl) (by kernel_rfl) rfl (Gp.move rfl) ?_
    (first | (refine WB.tv (i := 1) rfl (by kernel_rfl) (by kernel_rfl) rfl (Gv.load1 rfl (by (repeat first | exact .here | apply At.there)) (by first | rfl | assumption)) ?_) | (refine WB.tv (i := 1) rfl (by kernel_rfl) (by kernel_rfl) rfl (Gv.loadN rfl (by (repeat first | exact .here | apply At.there)) (by rfl) (by rfl)) ?_) | (refine WB.tv (i := 1) rfl (by kernel_rfl) (by kernel_rfl) rfl (Gv.loadG1 rfl (by assumption) rfl) ?_) | (refine WB.tv (i := 1) rfl (by kernel_rfl) (by kernel_rfl) rfl (Gv.loadG0 rfl (by assumption) rfl) ?_) | (refine WB.tv (i := 1) rfl (by kernel_rfl) (by kernel_rfl) rfl (Gv.loadGN rfl (by assumption) rfl) ?_))
    (first | (refine WB.tv (i := 4) rfl (by kernel_rfl) (by kernel_rfl) rfl (Gv.load1 rfl (by (repeat first | exact .here | apply At.there)) (by first | rfl | assumption)) ?_) | (refine WB.tv (i := 4) rfl (by kernel_rfl) (by kernel_rfl) rfl (Gv.loadN rfl (by (repeat first | exact .here | apply At.there)) (by rfl) (by rfl)) ?_) | (refine WB.tv (i := 4) rfl (by kernel_rfl) (by kernel_rfl) rfl (Gv.loadG1 rfl (by assumption) rfl) ?_) | (refine WB.tv (i := 4) rfl (by kernel_rfl) (by kernel_rfl) rfl (Gv.loadG0 rfl (by assumption) rfl) ?_) | (refine WB.tv (i := 4) rfl (by kernel_rfl) (by kernel_rfl) rfl (Gv.loadGN rfl (by assumption) rfl) ?_))
    refine WB.tp (i := 6) rfl (by kernel_rfl) (by kernel_rfl) rfl (Gp.indexAddr rfl rfl (by first | assumption | omega | decide) (by first | assumption | omega | decide | (simp only [List.length_cons, List.length_nil]; decide))) ?_
    refine WB.tp (i := 7) rfl (by kernel_rfl) (by kernel_rfl) rfl (Gp.fieldAddr rfl) ?_
    refine WB.one (i := 8) (by kernel_rfl) rfl (by kernel_rfl) (OW.gv (Gv.load1 rfl (by (repeat first | exact .here | apply At.there)) (elem_cell (k := 2) hv3 hes rfl)) rfl ?_)
    refine ⟨fun w hw => hw.pk (by repeat (first | exact Pk.nil | exact Pk.all | exact Pk.app | exact Pk.appR | with_reducible apply Pk.na | (apply Pk.cons; (repeat first | exact .here | apply Rem.there | apply Rem.app)) | apply Pk.skip | apply Pk.skipA)), ?_⟩
    refine WB.one (i := 9) (by kernel_rfl) rfl (by kernel_rfl) (OW.callK rfl (clone_types Gj [] QA pr.params.length _ csQ hrQ hlQ h1Q hQ.none_zero (hB.params pr (List.mem_of_getElem? hpr))) rfl fun v' G' H' h hg => ?_)
    obtain ⟨QA1, qc1, y1, he, rfl, rfl, hy1⟩ := h
    cases he
    refine ⟨fun w hw => hw.pk (by repeat (first | exact Pk.nil | exact Pk.all | exact Pk.app | exact Pk.appR | with_reducible apply Pk.na | (apply Pk.cons; (repeat first | exact .here | apply Rem.there | apply Rem.app)) | apply Pk.skip | apply Pk.skipA)), ?_⟩
    obtain ⟨_, hfitQ, hputQ⟩ := Vec.put1 hvv (o := j * 6 + 2) (by omega) (.slice QA1 pr.params.length qc1)
    refine WB.tp (i := 10) rfl (by kernel_rfl) (by kernel_rfl) rfl (Gp.indexAddr rfl rfl (by first | assumption | omega | decide) (by first | assumption | omega | decide | (simp only [List.length_cons, List.length_nil]; decide))) ?_
    refine WB.tp (i := 11) rfl (by kernel_rfl) (by kernel_rfl) rfl (Gp.fieldAddr rfl) ?_
    refine WB.one (i := 12) (by kernel_rfl) rfl (by kernel_rfl) (OW.store (n := 1) (c' := splice c (j * 6 + 2) [.slice QA1 pr.params.length qc1]) rfl rfl (by (repeat first | exact .here | apply At.there)) rfl rfl rfl (Nat.ble_eq_true_of_le (by simp; omega)) (by simp; rfl) ?_ rfl)
    refine ⟨fun w hw => hw.pk (by repeat (first | exact Pk.nil | exact Pk.all | exact Pk.app | exact Pk.appR | with_reducible apply Pk.na | (apply Pk.cons; (repeat first | exact .here | apply Rem.there | apply Rem.app)) | apply Pk.skip | apply Pk.skipA)), ?_⟩
    refine WB.done (by kernel_rfl) ?_
    refine WK.un ?_
    refine WC.frozenVec hy1 (by (repeat first | exact .here | apply At.there)) fun G2 hG2 hzQ => ?_
    have hQ2 : Sl (Kd.int .i64) G2 QA1 pr.params := Sl.ofCs hzQ hlQ (by decide) fun i x hx => (Kd.int .i64).mono hG2 (hkQ i x hx)
    have hI2 : Sl Kd.ins G2 IA pr.code := hI.mono hG2
    obtain ⟨csI, hrI, hlI, h1I, hkI⟩ := Sl.rds (H := []) (by decide : 0 < Kd.ins.n) hI2
    have hes2 : ((cs.set (j * 6 + 2) (.slice QA1 pr.params.length qc1)).drop (j * 6)).take 6 = [.string pr.name, .bool pr.exp, .slice QA1 pr.params.length qc1, .int .i64 pr.locals, .int .i64 pr.result, .slice IA pr.code.length ic] := by
      rw [set_elem (by omega), if_pos rfl, hes]; rfl
    obtain ⟨c2, hc2⟩ : ∃ c2, c2 = splice c (j * 6 + 2) [.slice QA1 pr.params.length qc1] := ⟨_, rfl⟩
    rw [← hc2] at hputQ
    have hvv2 := hputQ
    obtain ⟨hlv2, ⟨h1, h2, h3, h4⟩ | ⟨pb2, c2', hpb, hxx, hv12, hv22, hv32⟩⟩ := id hputQ
    · omega
    cases hxx
    refine WC.pk (H' := [.blk pb (.cells c2 55 (0, 0)), .blk bq (.cells #[.slice A1 pg.consts.length cap1, .slice (some ⟨pb, 0, none⟩) pg.procs.length cap2, .slice none 0 0] 26 (0, 0)), .blk br (.cells #[.slice none 0 0, .slice none 0 0, .slice none 0 0] 26 (0, 0))]) (by subst hc2; exact (by repeat (first | exact Pk.nil | exact Pk.all | exact Pk.app | exact Pk.appR | with_reducible apply Pk.na | (apply Pk.cons; (repeat first | exact .here | apply Rem.there | apply Rem.app)) | apply Pk.skip | apply Pk.skipA))) ?_
    refine WC.drawS (Hs := [.blk bq (.cells #[.slice A1 pg.consts.length cap1, .slice (some ⟨pb, 0, none⟩) pg.procs.length cap2, .slice none 0 0] 26 (0, 0))]) mixed (by repeat (first | exact Pk.nil | exact Pk.all | exact Pk.app | exact Pk.appR | with_reducible apply Pk.na | (apply Pk.cons; (repeat first | exact .here | apply Rem.there | apply Rem.app)) | apply Pk.skip | apply Pk.skipA)) ?_
    refine WB.tp (i := 0) rfl (by kernel_rfl) (by kernel_rfl) rfl (Gp.fieldAddr rfl) ?_
    refine WB.tp (i := 2) rfl (by kernel_rfl) (by kernel_rfl) rfl (Gp.move rfl) ?_
    refine WB.tp (i := 3) rfl (by kernel_rfl) (by kernel_rfl) rfl (Gp.fieldAddr rfl) ?_
    refine WB.tp (i := 5) rfl (by kernel_rfl) (by kernel_rfl) rfl (Gp.move rfl) ?_
    (first | (refine WB.tv (i := 1) rfl (by kernel_rfl) (by kernel_rfl) rfl (Gv.load1 rfl (by (repeat first | exact .here | apply At.there)) (by first | rfl | assumption)) ?_) | (refine WB.tv (i := 1) rfl (by kernel_rfl) (by kernel_rfl) rfl (Gv.loadN rfl (by (repeat first | exact .here | apply At.there)) (by rfl) (by rfl)) ?_) | (refine WB.tv (i := 1) rfl (by kernel_rfl) (by kernel_rfl) rfl (Gv.loadG1 rfl (by assumption) rfl) ?_) | (refine WB.tv (i := 1) rfl (by kernel_rfl) (by kernel_rfl) rfl (Gv.loadG0 rfl (by assumption) rfl) ?_) | (refine WB.tv (i := 1) rfl (by kernel_rfl) (by kernel_rfl) rfl (Gv.loadGN rfl (by assumption) rfl) ?_))
    (first | (refine WB.tv (i := 4) rfl (by kernel_rfl) (by kernel_rfl) rfl (Gv.load1 rfl (by (repeat first | exact .here | apply At.there)) (by first | rfl | assumption)) ?_) | (refine WB.tv (i := 4) rfl (by kernel_rfl) (by kernel_rfl) rfl (Gv.loadN rfl (by (repeat first | exact .here | apply At.there)) (by rfl) (by rfl)) ?_) | (refine WB.tv (i := 4) rfl (by kernel_rfl) (by kernel_rfl) rfl (Gv.loadG1 rfl (by assumption) rfl) ?_) | (refine WB.tv (i := 4) rfl (by kernel_rfl) (by kernel_rfl) rfl (Gv.loadG0 rfl (by assumption) rfl) ?_) | (refine WB.tv (i := 4) rfl (by kernel_rfl) (by kernel_rfl) rfl (Gv.loadGN rfl (by assumption) rfl) ?_))
    refine WB.tp (i := 6) rfl (by kernel_rfl) (by kernel_rfl) rfl (Gp.indexAddr rfl rfl (by first | assumption | omega | decide) (by first | assumption | omega | decide | (simp only [List.length_cons, List.length_nil]; decide))) ?_
    refine WB.tp (i := 7) rfl (by kernel_rfl) (by kernel_rfl) rfl (Gp.fieldAddr rfl) ?_
    refine WB.one (i := 8) (by kernel_rfl) rfl (by kernel_rfl) (OW.gv (Gv.load1 rfl (by (repeat first | exact .here | apply At.there)) (elem_cell (k := 5) hv32 hes2 rfl)) rfl ?_)
    refine ⟨fun w hw => hw.pk (by repeat (first | exact Pk.nil | exact Pk.all | exact Pk.app | exact Pk.appR | with_reducible apply Pk.na | (apply Pk.cons; (repeat first | exact .here | apply Rem.there | apply Rem.app)) | apply Pk.skip | apply Pk.skipA)), ?_⟩
    refine WB.one (i := 9) (by kernel_rfl) rfl (by kernel_rfl) (OW.callK rfl (clone_instrs G2 [] IA pr.code.length _ csI hrI hlI h1I hI2.none_zero (hB.code pr (List.mem_of_getElem? hpr))) rfl fun v' G' H' h hg => ?_)
    obtain ⟨IA1, ic1, z1, he, rfl, rfl, hz1'⟩ := h
    cases he
    refine ⟨fun w hw => hw.pk (by repeat (first | exact Pk.nil | exact Pk.all | exact Pk.app | exact Pk.appR | with_reducible apply Pk.na | (apply Pk.cons; (repeat first | exact .here | apply Rem.there | apply Rem.app)) | apply Pk.skip | apply Pk.skipA)), ?_⟩
    obtain ⟨_, hfitI, hputI⟩ := Vec.put1 hvv2 (o := j * 6 + 5) (by omega) (.slice IA1 pr.code.length ic1)
    refine WB.tp (i := 10) rfl (by kernel_rfl) (by kernel_rfl) rfl (Gp.indexAddr rfl rfl (by first | assumption | omega | decide) (by first | assumption | omega | decide | (simp only [List.length_cons, List.length_nil]; decide))) ?_
    refine WB.tp (i := 11) rfl (by kernel_rfl) (by kernel_rfl) rfl (Gp.fieldAddr rfl) ?_
    refine WB.one (i := 12) (by kernel_rfl) rfl (by kernel_rfl) (OW.store (n := 1) (c' := splice c2 (j * 6 + 5) [.slice IA1 pr.code.length ic1]) rfl rfl (by (repeat first | exact .here | apply At.there)) rfl rfl rfl (Nat.ble_eq_true_of_le (by simp; omega)) (by simp; rfl) ?_ rfl)
    refine ⟨fun w hw => hw.pk (by repeat (first | exact Pk.nil | exact Pk.all | exact Pk.app | exact Pk.appR | with_reducible apply Pk.na | (apply Pk.cons; (repeat first | exact .here | apply Rem.there | apply Rem.app)) | apply Pk.skip | apply Pk.skipA)), ?_⟩
    refine WB.done (by kernel_rfl) ?_
    refine WK.un ?_
    refine WC.frozenVec hz1' (by (repeat first | exact .here | apply At.there)) fun G3 hG3 hzI => ?_
    have hI3 : Sl Kd.ins G3 IA1 pr.code := Sl.ofCs hzI hlI (by decide) fun i x hx => Kd.ins.mono hG3 (hkI i x hx)
    have hes3 : (((cs.set (j * 6 + 2) (.slice QA1 pr.params.length qc1)).set (j * 6 + 5) (.slice IA1 pr.code.length ic1)).drop (j * 6)).take 6 = [.string pr.name, .bool pr.exp, .slice QA1 pr.params.length qc1, .int .i64 pr.locals, .int .i64 pr.result, .slice IA1 pr.code.length ic1] := by
      rw [set_elem (by omega), if_pos rfl, hes2]; rfl
    refine WC.region ?_
    (first | refine WL.p (Gp.add rfl rfl) (by kernel_rfl) rfl ?_ | refine WL.p (Gp.addS rfl rfl (by first | assumption | omega)) (by kernel_rfl) rfl ?_)
    refine WL.p (Gp.move rfl) (by kernel_rfl) rfl ?_
    refine WL.nil ?_
    refine WK.un ?_
    refine WK.pk (H' := [.blk pb (.cells (splice c2 (j * 6 + 5) [.slice IA1 pr.code.length ic1]) 55 (0, 0)), .blk bq (.cells #[.slice A1 pg.consts.length cap1, .slice (some ⟨pb, 0, none⟩) pg.procs.length cap2, .slice none 0 0] 26 (0, 0)), .blk br (.cells #[.slice none 0 0, .slice none 0 0, .slice none 0 0] 26 (0, 0))]) (by repeat (first | exact Pk.nil | exact Pk.all | exact Pk.app | exact Pk.appR | with_reducible apply Pk.na | (apply Pk.cons; (repeat first | exact .here | apply Rem.there | apply Rem.app)) | apply Pk.skip | apply Pk.skipA)) ?_
    exact WK.again (j + 1, G3, .blk pb (.cells (splice c2 (j * 6 + 5) [.slice IA1 pr.code.length ic1]) 55 (0, 0))) (show pg.procs.length - (j + 1) < pg.procs.length - j by omega)
      ⟨show j + 1 ≤ pg.procs.length by omega, Gh.le_trans hGj (Gh.le_trans hG2 hG3), _, hputI, fun i p hp => by
        by_cases hij : i = j
        · subst hij
          rw [hpr] at hp; cases hp
          exact ⟨QA1, qc1, IA1, ic1, hes3, hQ2.mono hG3, hI3⟩
        · rw [set_elem (by omega), if_neg hij, set_elem (by omega), if_neg hij]
          exact Kd.prc.mono (Gh.le_trans hG2 hG3) (hkj i p hp)⟩ (by refine ⟨?_, rfl, rfl, rfl, trivial⟩; show some _ = some _; rw [wrap_small (by omega) (by omega)]; rfl) rfl (List.Sublist.refl _)
  · -- no
    have hge : j = pg.procs.length := by have h := of_decide_eq_false hc8; simp only at h; omega
    refine WC.exit ?_
    refine WK.un ?_
    refine WC.frozenVec hvj .here fun G4 hG4 hz4 => ?_
    have hP4 : Sl Kd.prc G4 A2 pg.procs := Sl.ofCs hz4 hvj.1 (by decide) fun i x hx => Kd.prc.mono hG4 (hkj i x hx)
    refine WC.seq ?_
    refine WC.region ?_
    refine WL.v (Gv.loadN rfl (by (repeat first | exact .here | apply At.there)) rfl rfl) (by kernel_rfl) rfl ?_
    refine WL.op (by kernel_rfl) (OW.store rfl rfl (by (repeat first | exact .here | apply At.there)) rfl (by rfl) (by rfl) (by kernel_rfl) (by rfl) ?_ rfl)
    refine WL.nil ?_
    refine WK.un ?_
    refine WC.ret ?_
    refine WK.un ?_
    exact QF.p1 (.inl rfl) rfl (.cell rfl inferInstance inferInstance (by (repeat first | exact .here | apply At.there)) rfl rfl) (⟨A1, A2, cap1, cap2, rfl, Gh.le_trans hG1 (Gh.le_trans hGj hG4), hC1.mono (Gh.le_trans hGj hG4), hP4, rfl⟩)
end Go.Proofs.Ytjgohbepageicaa.Gb
