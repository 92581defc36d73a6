/- A program runs on the machine as told: the statement proved. -/
import Derived.Test.YtjgohbepageicaaMk
import Derived.Test.YtjgohbepageicaaRows
import Derived.RowKit3
import Derived.WalkKit
import Derived.ProofKit
import Derived.OpenShut
import Derived.ShutString
import Derived.ChangeOld
import Derived.Below
import Derived.Carry
import Derived.SizedLaws
namespace Go.Proofs.Ytjgohbepageicaa.Gb
open Go Go.Proofs Go.RowKit Go.ChangeShapes Go.WideShapes
set_option linter.unusedVariables false
set_option linter.unusedSimpArgs false
set_option linter.unusedSectionVars false

/-- any slice -/
def Kd.shp : Kd (Option Addr × Nat × Nat) where
  n := 1
  K _ x cs := cs = [.slice x.1 x.2.1 x.2.2]
  mono _ h := h
  len h := by rw [h]; rfl
  one h := by rw [h]; rfl
section
attribute [local irreducible] Try.prog
variable {H : Type} (enc : TypeId × Value → H) (w : World)
theorem Opens.shape (P : Program) {t e : TypeId} (ht : P.underlying t = some (.slice e)) : Opens enc P w t Kd.shp (fun _ => True) := by
  intro fuel cs d ps hd hw
  rcases DataW.trod_slice ht hd with ⟨rfl, _⟩ | ⟨a, len, cap, elems, rest, n, _, rfl, _⟩
  · exact ⟨(none, 0, 0), rfl, trivial⟩
  · exact ⟨(some a, len, cap), rfl, trivial⟩
theorem open_givenQ {v : Value} {d : DataW H} {ps : List MemPlace} {base : Nat} (hval : Value.okWide Try.prog w .any base 28 v) (hd : DataW.Trod enc Try.prog w 0 (fun _ => true) true 28 v d ps) (hw : ∀ n ∈ d.weights Try.prog 28, n ≤ reachBytes) :
    ∃ (x : GivenR) (CA PA QA AA : Option Addr) (cc pc qn qc ac : Nat), v = .agg #[.slice CA x.pg.consts.length cc, .slice PA x.pg.procs.length pc, .slice QA qn qc, .int .i64 x.n, .slice AA x.args.length ac] ∧
      Sl Kd.val (Gw w) CA x.pg.consts ∧ Sl Kd.prc (Gw w) PA x.pg.procs ∧ Sl Kd.val (Gw w) AA x.args ∧ PgB x.pg ∧ x.args.length * 40 ≤ 140737488351232 := by
  obtain ⟨x, CA, PA, AA, cc, pc, ac, qv, rfl, h1, h2, h3, h4, h5⟩ := open_given enc w hval hd hw
  obtain ⟨fuel, hd⟩ := hd
  obtain ⟨hl, hr⟩ := field_raw enc Try.prog w Try.underlying28 hd hw
  obtain ⟨fuel', d', ps', hp, hpw⟩ := hr 0 _ rfl rfl rfl cellsG
  obtain ⟨_, hg⟩ := field_open enc Try.prog w Try.underlying26 hp hpw
  obtain ⟨⟨QA, qn, qc⟩, h6, _⟩ := hg 2 _ rfl rfl rfl cells_lo (Opens.shape enc w Try.prog Try.underlying24)
  have e6 : [qv] = [Value.slice QA qn qc] := h6
  cases e6
  exact ⟨x, CA, PA, QA, AA, cc, pc, qn, qc, ac, rfl, h1, h2, h3, h4, h5⟩
end
attribute [local irreducible] Try.prog

abbrev gvQ (CA PA QA AA : Option Addr) (cc pc qn qc ac : Nat) (x : GivenR) : Value := .agg #[.slice CA x.pg.consts.length cc, .slice PA x.pg.procs.length pc, .slice QA qn qc, .int .i64 x.n, .slice AA x.args.length ac]

theorem VmRuns_fn (G : Gh) (x : GivenR) (CA PA QA AA : Option Addr) (cc pc qn qc ac : Nat) (hC : Sl Kd.val G CA x.pg.consts) (hP : Sl Kd.prc G PA x.pg.procs) (hA : Sl Kd.val G AA x.args) (hB : PgB x.pg) (hal : x.args.length * 40 ≤ 140737488351232) (n : Int) :
    Fn Try.prog 3 #[gvQ CA PA QA AA cc pc qn qc ac x, .int .i64 n] G [] fun e G' H' => e = .returned (.bool true) ∧ G.le G' := by
  have hr : ∀ {G' : Gh} {H : List Own}, G.le G' → Rds G' H AA (vflat x.args) := fun hg => Sl.vals (hA.mono hg)
  refine Fn.enter Try.func3 rfl rfl fun w0 => ?_
  refine WC.seq ?_
  refine WC.region ?_
  refine WL.op (by kernel_rfl) (OW.box rfl rfl fun b1 => ?_)
  refine go ?_
  refine WL.op (by kernel_rfl) (OW.callK rfl (capped_fn G n) rfl fun v' G' H' h hg => ?_)
  obtain ⟨he, rfl, rfl⟩ := h
  cases he
  obtain ⟨m, hm⟩ : ∃ m : Int, m = if 20000 < n then 20000 else n := ⟨_, rfl⟩
  rw [← hm]
  have hm1 : m ≤ 1000000 := by rw [hm]; split <;> omega
  clear hm
  have hol : (runR x.pg x.n m x.args).out.length ≤ 4096 := runR_out
  refine go ?_
  refine WC.drawS (Hs := [.blk b1 (.cells #[.slice CA x.pg.consts.length cc, .slice PA x.pg.procs.length pc, .slice QA qn qc, .int .i64 x.n, .slice AA x.args.length ac] 28 (0, 0))]) mixed (by repeat (first | exact Pk.nil | exact Pk.all | exact Pk.app | exact Pk.appR | with_reducible apply Pk.na | (apply Pk.cons; (repeat first | exact .here | apply Rem.there | apply Rem.app)) | apply Pk.skip | apply Pk.skipA)) ?_
  refine WB.tp (i := 0) rfl (by kernel_rfl) (by kernel_rfl) rfl (Gp.fieldAddr rfl) ?_
  (first | (refine WB.tv (i := 1) rfl (by kernel_rfl) (by kernel_rfl) rfl (Gv.load1 rfl (by (repeat first | exact .here | apply At.there)) (by first | rfl | assumption)) ?_) | (refine WB.tv (i := 1) rfl (by kernel_rfl) (by kernel_rfl) rfl (Gv.loadN rfl (by (repeat first | exact .here | apply At.there)) (by rfl) (by rfl)) ?_) | (refine WB.tv (i := 1) rfl (by kernel_rfl) (by kernel_rfl) rfl (Gv.loadG1 rfl (by assumption) rfl) ?_) | (refine WB.tv (i := 1) rfl (by kernel_rfl) (by kernel_rfl) rfl (Gv.loadG0 rfl (by assumption) rfl) ?_) | (refine WB.tv (i := 1) rfl (by kernel_rfl) (by kernel_rfl) rfl (Gv.loadGN rfl (by assumption) rfl) ?_))
  refine WB.tp (i := 2) rfl (by kernel_rfl) (by kernel_rfl) rfl (Gp.fieldAddr rfl) ?_
  (first | (refine WB.tv (i := 3) rfl (by kernel_rfl) (by kernel_rfl) rfl (Gv.load1 rfl (by (repeat first | exact .here | apply At.there)) (by first | rfl | assumption)) ?_) | (refine WB.tv (i := 3) rfl (by kernel_rfl) (by kernel_rfl) rfl (Gv.loadN rfl (by (repeat first | exact .here | apply At.there)) (by rfl) (by rfl)) ?_) | (refine WB.tv (i := 3) rfl (by kernel_rfl) (by kernel_rfl) rfl (Gv.loadG1 rfl (by assumption) rfl) ?_) | (refine WB.tv (i := 3) rfl (by kernel_rfl) (by kernel_rfl) rfl (Gv.loadG0 rfl (by assumption) rfl) ?_) | (refine WB.tv (i := 3) rfl (by kernel_rfl) (by kernel_rfl) rfl (Gv.loadGN rfl (by assumption) rfl) ?_))
  refine WB.tp (i := 4) rfl (by kernel_rfl) (by kernel_rfl) rfl (Gp.move rfl) ?_
  refine WB.tp (i := 5) rfl (by kernel_rfl) (by kernel_rfl) rfl (Gp.fieldAddr rfl) ?_
  (first | (refine WB.tv (i := 6) rfl (by kernel_rfl) (by kernel_rfl) rfl (Gv.load1 rfl (by (repeat first | exact .here | apply At.there)) (by first | rfl | assumption)) ?_) | (refine WB.tv (i := 6) rfl (by kernel_rfl) (by kernel_rfl) rfl (Gv.loadN rfl (by (repeat first | exact .here | apply At.there)) (by rfl) (by rfl)) ?_) | (refine WB.tv (i := 6) rfl (by kernel_rfl) (by kernel_rfl) rfl (Gv.loadG1 rfl (by assumption) rfl) ?_) | (refine WB.tv (i := 6) rfl (by kernel_rfl) (by kernel_rfl) rfl (Gv.loadG0 rfl (by assumption) rfl) ?_) | (refine WB.tv (i := 6) rfl (by kernel_rfl) (by kernel_rfl) rfl (Gv.loadGN rfl (by assumption) rfl) ?_))
  refine WB.tp (i := 8) rfl (by kernel_rfl) (by kernel_rfl) rfl (Gp.fieldAddr rfl) ?_
  (first | (refine WB.tv (i := 9) rfl (by kernel_rfl) (by kernel_rfl) rfl (Gv.load1 rfl (by (repeat first | exact .here | apply At.there)) (by first | rfl | assumption)) ?_) | (refine WB.tv (i := 9) rfl (by kernel_rfl) (by kernel_rfl) rfl (Gv.loadN rfl (by (repeat first | exact .here | apply At.there)) (by rfl) (by rfl)) ?_) | (refine WB.tv (i := 9) rfl (by kernel_rfl) (by kernel_rfl) rfl (Gv.loadG1 rfl (by assumption) rfl) ?_) | (refine WB.tv (i := 9) rfl (by kernel_rfl) (by kernel_rfl) rfl (Gv.loadG0 rfl (by assumption) rfl) ?_) | (refine WB.tv (i := 9) rfl (by kernel_rfl) (by kernel_rfl) rfl (Gv.loadGN rfl (by assumption) rfl) ?_))
  refine WB.tp (i := 10) rfl (by kernel_rfl) (by kernel_rfl) rfl (Gp.fieldAddr rfl) ?_
  (first | (refine WB.tv (i := 11) rfl (by kernel_rfl) (by kernel_rfl) rfl (Gv.load1 rfl (by (repeat first | exact .here | apply At.there)) (by first | rfl | assumption)) ?_) | (refine WB.tv (i := 11) rfl (by kernel_rfl) (by kernel_rfl) rfl (Gv.loadN rfl (by (repeat first | exact .here | apply At.there)) (by rfl) (by rfl)) ?_) | (refine WB.tv (i := 11) rfl (by kernel_rfl) (by kernel_rfl) rfl (Gv.loadG1 rfl (by assumption) rfl) ?_) | (refine WB.tv (i := 11) rfl (by kernel_rfl) (by kernel_rfl) rfl (Gv.loadG0 rfl (by assumption) rfl) ?_) | (refine WB.tv (i := 11) rfl (by kernel_rfl) (by kernel_rfl) rfl (Gv.loadGN rfl (by assumption) rfl) ?_))
  refine WB.tp (i := 12) rfl (by kernel_rfl) (by kernel_rfl) rfl (Gp.move rfl) ?_
  refine WB.tp (i := 13) rfl (by kernel_rfl) (by kernel_rfl) rfl (Gp.fieldAddr rfl) ?_
  (first | (refine WB.tv (i := 14) rfl (by kernel_rfl) (by kernel_rfl) rfl (Gv.load1 rfl (by (repeat first | exact .here | apply At.there)) (by first | rfl | assumption)) ?_) | (refine WB.tv (i := 14) rfl (by kernel_rfl) (by kernel_rfl) rfl (Gv.loadN rfl (by (repeat first | exact .here | apply At.there)) (by rfl) (by rfl)) ?_) | (refine WB.tv (i := 14) rfl (by kernel_rfl) (by kernel_rfl) rfl (Gv.loadG1 rfl (by assumption) rfl) ?_) | (refine WB.tv (i := 14) rfl (by kernel_rfl) (by kernel_rfl) rfl (Gv.loadG0 rfl (by assumption) rfl) ?_) | (refine WB.tv (i := 14) rfl (by kernel_rfl) (by kernel_rfl) rfl (Gv.loadGN rfl (by assumption) rfl) ?_))
  refine WB.one (i := 7) (by kernel_rfl) rfl (by kernel_rfl) (OW.callK rfl (Run_fn G x.pg CA PA cc pc (.slice QA qn qc) hC hP hB x.n m hm1 AA ac x.args [] (hr G.le_refl) (by omega)) rfl fun v' G' H' h hg => ?_)
  obtain ⟨A1, cap1, x1, he, hg1, hx1, rfl⟩ := h
  cases he
  refine ⟨fun w hw => Sat.leSub hw hg1 (by repeat (first | exact List.Sublist.refl _ | exact List.nil_sublist _ | apply List.Sublist.cons)), ?_⟩
  refine WB.one (i := 15) (by kernel_rfl) rfl (by kernel_rfl) (OW.callK rfl (rrun_fn G' x.pg CA PA QA qn cc pc qc (hC.mono hg1) (hP.mono hg1) hB x.n m hm1 AA ac x.args [] (hr hg1) (by omega)) rfl fun v' G' H' h hg => ?_)
  obtain ⟨A2, cap2, x2, he, hg2, hx2, rfl⟩ := h
  cases he
  refine ⟨fun w hw => Sat.leSub hw (Gh.le_trans hg1 hg2) (by repeat (first | exact List.Sublist.refl _ | exact List.nil_sublist _ | apply List.Sublist.cons)), ?_⟩
  refine WB.one (i := 16) (by kernel_rfl) rfl (by kernel_rfl) (OW.callK rfl (same_fn _ [x1, x2] A1 A2 cap1 cap2 _ _ (Vec.rds hx1 .here) (Vec.rds hx2 (.there .here)) (by omega)) rfl fun v' G' H' h hg => ?_)
  obtain ⟨he, rfl, rfl⟩ := h
  cases he
  rw [sameO_refl]
  refine ⟨fun w hw => Sat.leSub hw (Gh.le_trans hg1 hg2) (by repeat (first | exact List.Sublist.refl _ | exact List.nil_sublist _ | apply List.Sublist.cons)), ?_⟩
  refine WB.tp (i := 17) rfl (by kernel_rfl) (by kernel_rfl) rfl (Gp.move rfl) ?_
  refine WB.one (i := 18) (by kernel_rfl) rfl (by kernel_rfl) (OW.callK rfl (awake_fn _) rfl fun v' G' H' h hg => ?_)
  obtain ⟨he, hg3, rfl⟩ := h
  cases he
  refine ⟨fun w hw => Sat.leSub hw (Gh.le_trans hg1 (Gh.le_trans hg2 hg3)) (by repeat (first | exact List.Sublist.refl _ | exact List.nil_sublist _ | apply List.Sublist.cons)), ?_⟩
  (first | refine WB.tp (i := 19) rfl (by kernel_rfl) (by kernel_rfl) rfl (Gp.pickT rfl rfl) ?_ | refine WB.tp (i := 19) rfl (by kernel_rfl) (by kernel_rfl) rfl (Gp.pickF rfl rfl) ?_)
  refine WB.tp (i := 20) rfl (by kernel_rfl) (by kernel_rfl) rfl (Gp.assign rfl) ?_
  refine WB.done (by kernel_rfl) ?_
  refine WK.un ?_
  refine WC.ret ?_
  refine WK.un ?_
  exact QF.p1 (.inl rfl) rfl (.tmp rfl) (⟨rfl, Gh.le_trans hg1 (Gh.le_trans hg2 hg3)⟩)
end Go.Proofs.Ytjgohbepageicaa.Gb
namespace Go.Proofs.Ytjgohbepageicaa.vmRuns
open Go.ChangeShapes Go.WideShapes Go.ChangeAt Go.RowKit Go Go.Proofs Go.WideMaps Go.WideElems
open Go.ChangeMaps (open_string shut_string)
set_option linter.unusedVariables false

theorem own : ownKnob Try.prog.godebug = none := by kernel_rfl

theorem walk (w : World) (x : Gb.GivenR) (CA PA QA AA : Option Addr) (cc pc qn qc ac : Nat) (hC : Gb.Sl Gb.Kd.val (Gb.Gw w) CA x.pg.consts) (hP : Gb.Sl Gb.Kd.prc (Gb.Gw w) PA x.pg.procs) (hA : Gb.Sl Gb.Kd.val (Gb.Gw w) AA x.args) (hB : Gb.PgB x.pg) (hal : x.args.length * 40 ≤ 140737488351232) (a1 : Int) (w1 : (Lit.int .i64 a1).wf = true) :
    Calls Try.prog 3 #[Gb.gvQ CA PA QA AA cc pc qn qc ac x, .int .i64 a1] w fun e w' => e = .returned (.bool true) ∧ Gb.Kept w w' := by
  exact (Gb.VmRuns_fn (Gb.Gw w) x CA PA QA AA cc pc qn qc ac hC hP hA hB hal a1).keptG (fun e G' H' h => h.1) (Gb.Sat.whole w)

theorem laidOut : laidOutB Try.prog = true := by kernel_rfl
set_option maxRecDepth 100000 in
theorem lifted (os : Os) (started : os.Started) (H : Type) (enc : TypeId × Value → H) :
    ReturnsInHanded {} Try.checked os 3 .any (Rows.vmRunsSpec.pre6 enc Try.prog Try.f3 Rows.vmRunsRow.domain false) (Rows.vmRunsSpec.post enc Try.prog Try.f3 false true false false) := by
  refine returnsInHanded_of_change_sized (C := Try.checked) own started (by kernel_rfl) Try.func3
    (ChangeSpec.witness6 (enc := enc) (C := Try.checked) false ⟨#[], #[.agg #[.slice none 0 0, .slice none 0 0, .slice none 0 0, .int .i64 0, .slice none 0 0], .int .i64 0], []⟩ 8 (by kernel_rfl) (by kernel_rfl) (by kernel_rfl) (by kernel_rfl)) ?_
  intro W base args ds gs before hval0 hW hcnd hsz0 _
  have hsz : (DataW.weightsEach Try.prog (Try.f3.params.toList ++ Rows.vmRunsSpec.plain.varTypes Try.prog) (ds ++ gs)).all (· ≤ reachBytes) = true := hsz0
  have hval : ∀ (j : Nat) t v, Try.f3.params[j]? = some t → args[j]? = some v → Value.okWide Try.prog W .any base t v := hval0
  have hW' := hW
  obtain ⟨p, q, hA0, hV, rfl, hfz, hnd⟩ := hW
  have hA : DataW.TrodAll enc Try.prog W 0 (fun _ => true) true Try.f3.params.toList args.toList ds p := hA0
  rw [Try.params3] at hA hval hsz
  obtain ⟨v0, vs0, d0, ds0, p0, q0, hargs, rfl, rfl, h0, r0⟩ := trodAll_cons hA
  obtain ⟨v1, vs1, d1, ds1, p1, q1, rfl, rfl, rfl, h1, r1⟩ := trodAll_cons r0
  obtain ⟨rfl, rfl, rfl⟩ := trodAll_nil r1
  obtain rfl : args = #[v0, v1] := by cases args; simp_all
  obtain ⟨rfl, rfl⟩ := trodVars_none hV
  obtain ⟨x0, CA0, PA0, QA0, AA0, cc0, pc0, qn0, qc0, ac0, rfl, hC0, hP0, hA0, hB0, hal0⟩ := Gb.open_givenQ enc W (hval 0 28 v0 rfl rfl) h0 (Gb.sized_each hsz (j := 0) rfl rfl)
  obtain ⟨a1, rfl, rfl, rfl, w1⟩ := open_int Try.underlying3 (hval 1 3 v1 rfl rfl) h1
  clear hA0 hval0 hsz0 hsz
  refine (walk W x0 CA0 PA0 QA0 AA0 cc0 pc0 qn0 qc0 ac0 hC0 hP0 hA0 hB0 hal0 a1 w1).mono fun e W' ⟨he, hg⟩ => ?_
  subst he
  exact ⟨_, rfl, _, _, _, [], _, [], hW', trodAll_mk1 (shut_bool Try.underlying4 _), (trodAll_cons_mk (Gb.Kept.trod laidOut (by kernel_rfl) (of_decide_eq_true (by kernel_rfl)) h0 hg) (trodAll_cons_mk (shut_int Try.underlying3 w1) trodAll_mk0)), rfl, hg.grown.frame _, fun h => by cases h⟩

theorem over : Rows.vmRunsRow.holds Try.pinned (OpenSpec.ofChange Rows.vmRunsSpec) :=
  OpenClaim.holds_of_wide 3 Try.f3 rfl rfl rfl rfl rfl rfl rfl ⟨rfl, rfl, rfl, rfl, rfl⟩ rfl rfl rfl rfl rfl (by kernel_rfl) Try.func3 (by kernel_rfl)
    (of_decide_eq_true (by kernel_rfl)) (by unfold Func.isWrapper; first | (rw [if_pos (by decide +kernel)]; kernel_rfl) | (rw [if_neg (by decide +kernel)]; exact ⟨rfl, rfl⟩))
    (fun os started H enc _ => lifted os started H enc)

/-- the statement -/
theorem proved : Rows.VmRunsSaid :=
  over
#print axioms proved
end Go.Proofs.Ytjgohbepageicaa.vmRuns
