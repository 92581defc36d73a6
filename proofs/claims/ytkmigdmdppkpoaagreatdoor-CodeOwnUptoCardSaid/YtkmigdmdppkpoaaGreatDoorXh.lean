/- The document's look at the kinds an instruction takes: walked. What the document finds wrong with an instruction that is reached: walked. -/
import Derived.Test.YtkmigdmdppkpoaaGreatDoorXg
set_option linter.unusedVariables false
set_option linter.unusedSimpArgs false
set_option linter.unusedSectionVars false
namespace Go.Proofs.YtkmigdmdppkpoaaGreatDoor.Gb
open Go Go.Proofs Go.MapKept
set_option linter.unusedVariables false
set_option linter.unusedSimpArgs false
set_option linter.unusedSectionVars false
attribute [local irreducible] Tryz.prog
theorem drop_one {l : List Int} {x : Int} (h0 : 1 ≤ l.length) (h : l[l.length - 1]? = some x) : l.drop (l.length - 1) = [x] := by
  have hl := (List.getElem?_eq_some_iff.1 h).1
  rw [List.drop_eq_getElem_cons hl, (List.getElem?_eq_some_iff.1 h).2, List.drop_eq_nil_of_le (by omega)]
theorem drop_two {l : List Int} {x y : Int} (h0 : 2 ≤ l.length) (hx : l[l.length - 2]? = some x) (hy : l[l.length - 1]? = some y) : l.drop (l.length - 2) = [x, y] := by
  have hl := (List.getElem?_eq_some_iff.1 hx).1
  rw [List.drop_eq_getElem_cons hl, (List.getElem?_eq_some_iff.1 hx).2, show l.length - 2 + 1 = l.length - 1 by omega, drop_one (by omega) hy]
theorem kinds_rel (x y : Int) : (allT 1 [y, x] || allT 3 [y, x]) = (y == x && (x == 1 || x == 3)) := by
  unfold allT
  simp only [List.all_cons, List.all_nil, Bool.and_true]
  rw [Bool.eq_iff_iff]
  simp only [Bool.or_eq_true, Bool.and_eq_true, beq_iff_eq]
  omega
section
variable (G : Gh) (w : Wd) (p : Pr) (CA NA PA : Option Addr) (cc nc pc : Nat) (hW : RWp G w CA NA PA) (QA IA : Option Addr) (qc ic : Nat)
include hW
set_option maxHeartbeats 8000000 in
theorem rkinds_fn (s : SS) (VA : Option Addr) (vc : Nat) (SA : Option Addr) (sc : Nat) (hS : SRep G s VA vc SA sc) (hv : s.vars.length ≤ 1000000000) (hk : s.stack.length ≤ 1000000000) (c : Int) (n : Nat) (ho : EOk w s.vars.length c n) (htk : (effC w s.vars (c, n)).1 ≤ s.stack.length) :
    Fn Tryz.prog 149 #[.agg (wdC w CA NA PA cc nc pc), .agg (prC p QA qc IA ic), .agg #[.int .i64 c, .int .i64 n], rsV s VA vc SA sc] G []
      fun e G' H' => e = .returned (.bool (kindsR w p (c, n) s (s.stack.drop (s.stack.length - (effC w s.vars (c, n)).1)))) ∧ G = G' ∧ H' = [] := by
  have hsc := hS.hs
  refine Fn.enter Tryz.func149 rfl rfl fun w0 => ?_
  obtain ⟨sr, su, sv, sk⟩ := s
  dsimp only at hv hk ho htk hsc ⊢
  obtain ⟨ho1, ho2, ho3, ho7, ho8⟩ := ho
  refine WC.seq ?_
  refine WC.region ?_
  refine WL.op (by kernel_rfl) (OW.box rfl rfl fun b1 => ?_)
  refine WL.op (by kernel_rfl) (OW.box rfl rfl fun b2 => ?_)
  refine WL.op (by kernel_rfl) (OW.box rfl rfl fun b3 => ?_)
  refine WL.op (by kernel_rfl) (OW.box rfl rfl fun b4 => ?_)
  by_cases c2 : c = 2
  · subst c2
    obtain ⟨v, hvv⟩ : ∃ v, sv[n]? = some v := ⟨_, List.getElem?_eq_getElem (ho2 rfl)⟩
    obtain ⟨cb, co, rfl, hcs⟩ := hS.vars.at hvv
    have x0 : (0 : Int) ≤ (n : Int) := by omega
    have x1 : (n : Int) < (sv.length : Int) := by have := ho2 rfl; omega
    have he : ∀ top, kindsR w p ((2 : Int), (n : Int)) ⟨sr, su, sv, sk⟩ top = (v != 0) := fun top => by unfold kindsR; simp [hvv]
    rw [he]
    refine gom ?_
    refine WC.ret ?_
    refine WK.un ?_
    exact QF.p1 (.inl rfl) rfl (.tmp rfl) (⟨rfl, rfl, rfl⟩)
  have y2 : (c == 2) = false := by simpa using c2
  by_cases c3 : c = 3
  · subst c3
    have htk1 : 1 ≤ sk.length := htk
    obtain ⟨x, hx⟩ : ∃ x, sk[sk.length - 1]? = some x := ⟨_, List.getElem?_eq_getElem (by omega)⟩
    obtain ⟨xb, xo, rfl, hxc⟩ := hS.stack.at hx
    have z1 : IntKind.i64.wrap ((sk.length : Int) - 1) = ((sk.length - 1 : Nat) : Int) := by rw [wrapI (by omega) (by omega)]; omega
    have z2 : (0 : Int) ≤ ((sk.length - 1 : Nat) : Int) := by omega
    have z3 : ((sk.length - 1 : Nat) : Int) < (sk.length : Int) := by omega
    have he : kindsR w p ((3 : Int), (n : Int)) ⟨sr, su, sv, sk⟩ (sk.drop (sk.length - (effC w sv ((3 : Int), (n : Int))).1)) = (x != 0) := by
      rw [show (effC w sv ((3 : Int), (n : Int))).1 = 1 from rfl, drop_one htk1 hx]; unfold kindsR; simp [allT]
    rw [he]
    refine gom ?_
    refine WC.ret ?_
    refine WK.un ?_
    exact QF.p1 (.inl rfl) rfl (.tmp rfl) (⟨rfl, rfl, rfl⟩)
  have y3 : (c == 3) = false := by simpa using c3
  by_cases c11 : c = 11
  · subst c11
    have htk1 : 1 ≤ sk.length := htk
    obtain ⟨x, hx⟩ : ∃ x, sk[sk.length - 1]? = some x := ⟨_, List.getElem?_eq_getElem (by omega)⟩
    obtain ⟨xb, xo, rfl, hxc⟩ := hS.stack.at hx
    have z1 : IntKind.i64.wrap ((sk.length : Int) - 1) = ((sk.length - 1 : Nat) : Int) := by rw [wrapI (by omega) (by omega)]; omega
    have z2 : (0 : Int) ≤ ((sk.length - 1 : Nat) : Int) := by omega
    have z3 : ((sk.length - 1 : Nat) : Int) < (sk.length : Int) := by omega
    have he : kindsR w p ((11 : Int), (n : Int)) ⟨sr, su, sv, sk⟩ (sk.drop (sk.length - (effC w sv ((11 : Int), (n : Int))).1)) = (x != 0) := by
      rw [show (effC w sv ((11 : Int), (n : Int))).1 = 1 from rfl, drop_one htk1 hx]; unfold kindsR; simp [allT]
    rw [he]
    refine gom ?_
    refine WC.ret ?_
    refine WK.un ?_
    exact QF.p1 (.inl rfl) rfl (.tmp rfl) (⟨rfl, rfl, rfl⟩)
  have y11 : (c == 11) = false := by simpa using c11
  by_cases c6 : c = 6
  · subst c6
    have htk1 : 1 ≤ sk.length := htk
    obtain ⟨x, hx⟩ : ∃ x, sk[sk.length - 1]? = some x := ⟨_, List.getElem?_eq_getElem (by omega)⟩
    obtain ⟨xb, xo, rfl, hxc⟩ := hS.stack.at hx
    have z1 : IntKind.i64.wrap ((sk.length : Int) - 1) = ((sk.length - 1 : Nat) : Int) := by rw [wrapI (by omega) (by omega)]; omega
    have z2 : (0 : Int) ≤ ((sk.length - 1 : Nat) : Int) := by omega
    have z3 : ((sk.length - 1 : Nat) : Int) < (sk.length : Int) := by omega
    have he : kindsR w p ((6 : Int), (n : Int)) ⟨sr, su, sv, sk⟩ (sk.drop (sk.length - (effC w sv ((6 : Int), (n : Int))).1)) = (x == 2) := by
      rw [show (effC w sv ((6 : Int), (n : Int))).1 = 1 from rfl, drop_one htk1 hx]; unfold kindsR; simp [allT]
    rw [he]
    refine gom ?_
    refine WC.ret ?_
    refine WK.un ?_
    exact QF.p1 (.inl rfl) rfl (.tmp rfl) (⟨rfl, rfl, rfl⟩)
  have y6 : (c == 6) = false := by simpa using c6
  by_cases c25 : c = 25
  · subst c25
    have htk1 : 1 ≤ sk.length := htk
    obtain ⟨x, hx⟩ : ∃ x, sk[sk.length - 1]? = some x := ⟨_, List.getElem?_eq_getElem (by omega)⟩
    obtain ⟨xb, xo, rfl, hxc⟩ := hS.stack.at hx
    have z1 : IntKind.i64.wrap ((sk.length : Int) - 1) = ((sk.length - 1 : Nat) : Int) := by rw [wrapI (by omega) (by omega)]; omega
    have z2 : (0 : Int) ≤ ((sk.length - 1 : Nat) : Int) := by omega
    have z3 : ((sk.length - 1 : Nat) : Int) < (sk.length : Int) := by omega
    have he : kindsR w p ((25 : Int), (n : Int)) ⟨sr, su, sv, sk⟩ (sk.drop (sk.length - (effC w sv ((25 : Int), (n : Int))).1)) = (x == 2) := by
      rw [show (effC w sv ((25 : Int), (n : Int))).1 = 1 from rfl, drop_one htk1 hx]; unfold kindsR; simp [allT]
    rw [he]
    refine gom ?_
    refine WC.ret ?_
    refine WK.un ?_
    exact QF.p1 (.inl rfl) rfl (.tmp rfl) (⟨rfl, rfl, rfl⟩)
  have y25 : (c == 25) = false := by simpa using c25
  by_cases c24 : c = 24
  · subst c24
    have htk1 : 1 ≤ sk.length := htk
    obtain ⟨x, hx⟩ : ∃ x, sk[sk.length - 1]? = some x := ⟨_, List.getElem?_eq_getElem (by omega)⟩
    obtain ⟨xb, xo, rfl, hxc⟩ := hS.stack.at hx
    have z1 : IntKind.i64.wrap ((sk.length : Int) - 1) = ((sk.length - 1 : Nat) : Int) := by rw [wrapI (by omega) (by omega)]; omega
    have z2 : (0 : Int) ≤ ((sk.length - 1 : Nat) : Int) := by omega
    have z3 : ((sk.length - 1 : Nat) : Int) < (sk.length : Int) := by omega
    have he : kindsR w p ((24 : Int), (n : Int)) ⟨sr, su, sv, sk⟩ (sk.drop (sk.length - (effC w sv ((24 : Int), (n : Int))).1)) = (x == 1) := by
      rw [show (effC w sv ((24 : Int), (n : Int))).1 = 1 from rfl, drop_one htk1 hx]; unfold kindsR; simp [allT]
    rw [he]
    refine gom ?_
    refine WC.ret ?_
    refine WK.un ?_
    exact QF.p1 (.inl rfl) rfl (.tmp rfl) (⟨rfl, rfl, rfl⟩)
  have y24 : (c == 24) = false := by simpa using c24
  by_cases c26 : c = 26
  · subst c26
    have htk1 : 1 ≤ sk.length := htk
    obtain ⟨x, hx⟩ : ∃ x, sk[sk.length - 1]? = some x := ⟨_, List.getElem?_eq_getElem (by omega)⟩
    obtain ⟨xb, xo, rfl, hxc⟩ := hS.stack.at hx
    have z1 : IntKind.i64.wrap ((sk.length : Int) - 1) = ((sk.length - 1 : Nat) : Int) := by rw [wrapI (by omega) (by omega)]; omega
    have z2 : (0 : Int) ≤ ((sk.length - 1 : Nat) : Int) := by omega
    have z3 : ((sk.length - 1 : Nat) : Int) < (sk.length : Int) := by omega
    have he : kindsR w p ((26 : Int), (n : Int)) ⟨sr, su, sv, sk⟩ (sk.drop (sk.length - (effC w sv ((26 : Int), (n : Int))).1)) = (x == 3) := by
      rw [show (effC w sv ((26 : Int), (n : Int))).1 = 1 from rfl, drop_one htk1 hx]; unfold kindsR; simp [allT]
    rw [he]
    refine gom ?_
    refine WC.ret ?_
    refine WK.un ?_
    exact QF.p1 (.inl rfl) rfl (.tmp rfl) (⟨rfl, rfl, rfl⟩)
  have y26 : (c == 26) = false := by simpa using c26
  by_cases c10 : c = 10
  · subst c10
    have htk1 : 1 ≤ sk.length := htk
    obtain ⟨x, hx⟩ : ∃ x, sk[sk.length - 1]? = some x := ⟨_, List.getElem?_eq_getElem (by omega)⟩
    obtain ⟨xb, xo, rfl, hxc⟩ := hS.stack.at hx
    have z1 : IntKind.i64.wrap ((sk.length : Int) - 1) = ((sk.length - 1 : Nat) : Int) := by rw [wrapI (by omega) (by omega)]; omega
    have z2 : (0 : Int) ≤ ((sk.length - 1 : Nat) : Int) := by omega
    have z3 : ((sk.length - 1 : Nat) : Int) < (sk.length : Int) := by omega
    have he : kindsR w p ((10 : Int), (n : Int)) ⟨sr, su, sv, sk⟩ (sk.drop (sk.length - (effC w sv ((10 : Int), (n : Int))).1)) = (x == p.result) := by
      rw [show (effC w sv ((10 : Int), (n : Int))).1 = 1 from rfl, drop_one htk1 hx]; unfold kindsR; simp [allT]
    rw [he]
    refine go ?_
    refine WC.draw mixed ?_
    refine WA.tp (i := 0) rfl (by kernel_rfl) (by kernel_rfl) rfl (Gp.fieldAddr rfl) ?_
    refine WA.tp (i := 2) rfl (by kernel_rfl) (by kernel_rfl) rfl (Gp.move rfl) ?_
    refine WA.tp (i := 3) rfl (by kernel_rfl) (by kernel_rfl) rfl (Gp.sub' rfl rfl z1) ?_
    (first | (refine WA.tv (i := 1) rfl (by kernel_rfl) (by kernel_rfl) rfl (Gv.load1 rfl (by (repeat first | exact .here | apply At.there)) (by first | rfl | assumption)) ?_) | (refine WA.tv (i := 1) rfl (by kernel_rfl) (by kernel_rfl) rfl (Gv.loadN rfl (by (repeat first | exact .here | apply At.there)) (by rfl) (by rfl)) ?_) | (refine WA.tv (i := 1) rfl (by kernel_rfl) (by kernel_rfl) rfl (Gv.loadG1 rfl (by assumption) rfl) ?_) | (refine WA.tv (i := 1) rfl (by kernel_rfl) (by kernel_rfl) rfl (Gv.loadG0 rfl (by assumption) rfl) ?_) | (refine WA.tv (i := 1) rfl (by kernel_rfl) (by kernel_rfl) rfl (Gv.loadGN rfl (by assumption) rfl) ?_))
    refine WA.tp (i := 4) rfl (by kernel_rfl) (by kernel_rfl) rfl (Gp.indexAddr rfl rfl (by first | assumption | omega | decide) (by first | assumption | omega | decide | (simp only [List.length_cons, List.length_nil]; decide))) ?_
    refine WA.tv (i := 5) rfl (by kernel_rfl) (by kernel_rfl) rfl (Gv.loadG1 (i := 0) rfl hxc rfl) ?_
    refine WA.tp (i := 6) rfl (by kernel_rfl) (by kernel_rfl) rfl (Gp.fieldAddr rfl) ?_
    (first | (refine WA.tv (i := 7) rfl (by kernel_rfl) (by kernel_rfl) rfl (Gv.load1 rfl (by (repeat first | exact .here | apply At.there)) (by first | rfl | assumption)) ?_) | (refine WA.tv (i := 7) rfl (by kernel_rfl) (by kernel_rfl) rfl (Gv.loadN rfl (by (repeat first | exact .here | apply At.there)) (by rfl) (by rfl)) ?_) | (refine WA.tv (i := 7) rfl (by kernel_rfl) (by kernel_rfl) rfl (Gv.loadG1 rfl (by assumption) rfl) ?_) | (refine WA.tv (i := 7) rfl (by kernel_rfl) (by kernel_rfl) rfl (Gv.loadG0 rfl (by assumption) rfl) ?_) | (refine WA.tv (i := 7) rfl (by kernel_rfl) (by kernel_rfl) rfl (Gv.loadGN rfl (by assumption) rfl) ?_))
    (first | refine WA.tp (i := 8) rfl (by kernel_rfl) (by kernel_rfl) rfl (Gp.eqI rfl rfl) ?_ | refine WA.tp (i := 8) rfl (by kernel_rfl) (by kernel_rfl) rfl (Gp.eqS rfl rfl) ?_ | refine WA.tp (i := 8) rfl (by kernel_rfl) (by kernel_rfl) rfl (Gp.nilSl rfl) ?_ | refine WA.tp (i := 8) rfl (by kernel_rfl) (by kernel_rfl) rfl (Gp.eqB rfl rfl) ?_)
    refine WA.tp (i := 9) rfl (by kernel_rfl) (by kernel_rfl) rfl (Gp.assign rfl) ?_
    refine WA.done (by kernel_rfl) ?_
    refine WK.un ?_
    refine gom ?_
    refine WC.ret ?_
    refine WK.un ?_
    exact QF.p1 (.inl rfl) rfl (.tmp rfl) (⟨rfl, rfl, rfl⟩)
  have y10 : (c == 10) = false := by simpa using c10
  by_cases c7 : c = 7
  · subst c7
    obtain ⟨q, hq⟩ : ∃ q, w.procs[n]? = some q := ⟨_, List.getElem?_eq_getElem (ho7 rfl)⟩
    obtain ⟨cb, co, cs, rfl, hk1, hcs⟩ := hW.procs n q hq
    obtain ⟨PA2, pc2, CA2, cc2, rfl, hkp, hk2⟩ := hk1
    have x0 : (0 : Int) ≤ (n : Int) := by omega
    have x1 : (n : Int) < (w.procs.length : Int) := by have := ho7 rfl; omega
    have he1 : (effC w sv ((7 : Int), (n : Int))).1 = q.params.length := by unfold effC; simp [hq, hdE]
    rw [he1] at htk ⊢
    have he : kindsR w p ((7 : Int), (n : Int)) ⟨sr, su, sv, sk⟩ (sk.drop (sk.length - q.params.length)) = decide (sk.drop (sk.length - q.params.length) = q.params) := by
      unfold kindsR; simp only [hq, Int.toNat_natCast]; simp; rw [Bool.eq_iff_iff, beq_iff_eq, decide_eq_true_iff]
    rw [he]
    have z1 : IntKind.i64.wrap ((sk.length : Int) - (q.params.length : Int)) = (sk.length : Int) - (q.params.length : Int) := wrapI (by omega) (by omega)
    have e5 : ((sk.length : Int) - (q.params.length : Int)).toNat = sk.length - q.params.length := by omega
    have hl5 : sk.length - (sk.length - q.params.length) = (sk.drop (sk.length - q.params.length)).length := by rw [List.length_drop]
    have hrs := rsame_fn G (if sc = sk.length - q.params.length then SA else SA.map (·.add ((sk.length - q.params.length) * (Kd.int .i64).n))) PA2 (sk.drop (sk.length - q.params.length)) q.params (sc - (sk.length - q.params.length)) pc2 (hS.stack.fromG hsc) hkp (by rw [← hl5]; omega)
    rw [← hl5, ← e5] at hrs
    refine go ?_
    refine WC.draw mixed ?_
    refine WA.tp (i := 0) rfl (by kernel_rfl) (by kernel_rfl) rfl (Gp.fieldAddr rfl) ?_
    refine WA.tp (i := 2) rfl (by kernel_rfl) (by kernel_rfl) rfl (Gp.move rfl) ?_
    refine WA.tp (i := 3) rfl (by kernel_rfl) (by kernel_rfl) rfl (Gp.move rfl) ?_
    refine WA.tp (i := 4) rfl (by kernel_rfl) (by kernel_rfl) rfl (Gp.sub' rfl rfl z1) ?_
    (first | (refine WA.tv (i := 1) rfl (by kernel_rfl) (by kernel_rfl) rfl (Gv.load1 rfl (by (repeat first | exact .here | apply At.there)) (by first | rfl | assumption)) ?_) | (refine WA.tv (i := 1) rfl (by kernel_rfl) (by kernel_rfl) rfl (Gv.loadN rfl (by (repeat first | exact .here | apply At.there)) (by rfl) (by rfl)) ?_) | (refine WA.tv (i := 1) rfl (by kernel_rfl) (by kernel_rfl) rfl (Gv.loadG1 rfl (by assumption) rfl) ?_) | (refine WA.tv (i := 1) rfl (by kernel_rfl) (by kernel_rfl) rfl (Gv.loadG0 rfl (by assumption) rfl) ?_) | (refine WA.tv (i := 1) rfl (by kernel_rfl) (by kernel_rfl) rfl (Gv.loadGN rfl (by assumption) rfl) ?_))
    refine WA.tp (i := 5) rfl (by kernel_rfl) (by kernel_rfl) rfl (Gp.sliceFrom rfl rfl (by omega) (by show _ ≤ ((sk.length : Nat) : Int); omega)) ?_
    refine WA.tp (i := 6) rfl (by kernel_rfl) (by kernel_rfl) rfl (Gp.fieldAddr rfl) ?_
    (first | (refine WA.tv (i := 7) rfl (by kernel_rfl) (by kernel_rfl) rfl (Gv.load1 rfl (by (repeat first | exact .here | apply At.there)) (by first | rfl | assumption)) ?_) | (refine WA.tv (i := 7) rfl (by kernel_rfl) (by kernel_rfl) rfl (Gv.loadN rfl (by (repeat first | exact .here | apply At.there)) (by rfl) (by rfl)) ?_) | (refine WA.tv (i := 7) rfl (by kernel_rfl) (by kernel_rfl) rfl (Gv.loadG1 rfl (by assumption) rfl) ?_) | (refine WA.tv (i := 7) rfl (by kernel_rfl) (by kernel_rfl) rfl (Gv.loadG0 rfl (by assumption) rfl) ?_) | (refine WA.tv (i := 7) rfl (by kernel_rfl) (by kernel_rfl) rfl (Gv.loadGN rfl (by assumption) rfl) ?_))
    refine WA.tp (i := 8) rfl (by kernel_rfl) (by kernel_rfl) rfl (Gp.fieldAddr rfl) ?_
    (first | (refine WA.tv (i := 9) rfl (by kernel_rfl) (by kernel_rfl) rfl (Gv.load1 rfl (by (repeat first | exact .here | apply At.there)) (by first | rfl | assumption)) ?_) | (refine WA.tv (i := 9) rfl (by kernel_rfl) (by kernel_rfl) rfl (Gv.loadN rfl (by (repeat first | exact .here | apply At.there)) (by rfl) (by rfl)) ?_) | (refine WA.tv (i := 9) rfl (by kernel_rfl) (by kernel_rfl) rfl (Gv.loadG1 rfl (by assumption) rfl) ?_) | (refine WA.tv (i := 9) rfl (by kernel_rfl) (by kernel_rfl) rfl (Gv.loadG0 rfl (by assumption) rfl) ?_) | (refine WA.tv (i := 9) rfl (by kernel_rfl) (by kernel_rfl) rfl (Gv.loadGN rfl (by assumption) rfl) ?_))
    refine WA.tp (i := 10) rfl (by kernel_rfl) (by kernel_rfl) rfl (Gp.indexAddr rfl rfl (by first | assumption | omega | decide) (by first | assumption | omega | decide | (simp only [List.length_cons, List.length_nil]; decide))) ?_
    refine WA.tp (i := 11) rfl (by kernel_rfl) (by kernel_rfl) rfl (Gp.fieldAddr rfl) ?_
    (first | (refine WA.tv (i := 12) rfl (by kernel_rfl) (by kernel_rfl) rfl (Gv.load1 rfl (by (repeat first | exact .here | apply At.there)) (by first | rfl | assumption)) ?_) | (refine WA.tv (i := 12) rfl (by kernel_rfl) (by kernel_rfl) rfl (Gv.loadN rfl (by (repeat first | exact .here | apply At.there)) (by rfl) (by rfl)) ?_) | (refine WA.tv (i := 12) rfl (by kernel_rfl) (by kernel_rfl) rfl (Gv.loadG1 rfl (by assumption) rfl) ?_) | (refine WA.tv (i := 12) rfl (by kernel_rfl) (by kernel_rfl) rfl (Gv.loadG0 rfl (by assumption) rfl) ?_) | (refine WA.tv (i := 12) rfl (by kernel_rfl) (by kernel_rfl) rfl (Gv.loadGN rfl (by assumption) rfl) ?_))
    refine WA.one (i := 13) (by kernel_rfl) rfl (by kernel_rfl) (OW.callK rfl (hrs) rfl fun v' G' H' h hg => ?_)
    obtain ⟨he2, rfl, rfl⟩ := h
    cases he2
    refine WA.tp (i := 14) rfl (by kernel_rfl) (by kernel_rfl) rfl (Gp.assign rfl) ?_
    refine WA.done (by kernel_rfl) ?_
    refine WK.un ?_
    rw [e5]
    refine gom ?_
    refine WC.ret ?_
    refine WK.un ?_
    exact QF.p1 (.inl rfl) rfl (.tmp rfl) (⟨rfl, rfl, rfl⟩)
  have y7 : (c == 7) = false := by simpa using c7
  by_cases c8 : c = 8
  · subst c8
    obtain ⟨q, hq⟩ : ∃ q, w.needs[n]? = some q := ⟨_, List.getElem?_eq_getElem (ho8 rfl)⟩
    obtain ⟨cb, co, cs, rfl, hk1, hcs⟩ := hW.needs n q hq
    obtain ⟨PA2, pc2, rfl, hkp⟩ := hk1
    have x0 : (0 : Int) ≤ (n : Int) := by omega
    have x1 : (n : Int) < (w.needs.length : Int) := by have := ho8 rfl; omega
    have he1 : (effC w sv ((8 : Int), (n : Int))).1 = q.params.length := by unfold effC; simp [hq, hdE]
    rw [he1] at htk ⊢
    have he : kindsR w p ((8 : Int), (n : Int)) ⟨sr, su, sv, sk⟩ (sk.drop (sk.length - q.params.length)) = decide (sk.drop (sk.length - q.params.length) = q.params) := by
      unfold kindsR; simp only [hq, Int.toNat_natCast]; simp; rw [Bool.eq_iff_iff, beq_iff_eq, decide_eq_true_iff]
    rw [he]
    have z1 : IntKind.i64.wrap ((sk.length : Int) - (q.params.length : Int)) = (sk.length : Int) - (q.params.length : Int) := wrapI (by omega) (by omega)
    have e5 : ((sk.length : Int) - (q.params.length : Int)).toNat = sk.length - q.params.length := by omega
    have hl5 : sk.length - (sk.length - q.params.length) = (sk.drop (sk.length - q.params.length)).length := by rw [List.length_drop]
    have hrs := rsame_fn G (if sc = sk.length - q.params.length then SA else SA.map (·.add ((sk.length - q.params.length) * (Kd.int .i64).n))) PA2 (sk.drop (sk.length - q.params.length)) q.params (sc - (sk.length - q.params.length)) pc2 (hS.stack.fromG hsc) hkp (by rw [← hl5]; omega)
    rw [← hl5, ← e5] at hrs
    refine go ?_
    refine WC.draw mixed ?_
    refine WA.tp (i := 0) rfl (by kernel_rfl) (by kernel_rfl) rfl (Gp.fieldAddr rfl) ?_
    refine WA.tp (i := 2) rfl (by kernel_rfl) (by kernel_rfl) rfl (Gp.move rfl) ?_
    refine WA.tp (i := 3) rfl (by kernel_rfl) (by kernel_rfl) rfl (Gp.move rfl) ?_
    refine WA.tp (i := 4) rfl (by kernel_rfl) (by kernel_rfl) rfl (Gp.sub' rfl rfl z1) ?_
    (first | (refine WA.tv (i := 1) rfl (by kernel_rfl) (by kernel_rfl) rfl (Gv.load1 rfl (by (repeat first | exact .here | apply At.there)) (by first | rfl | assumption)) ?_) | (refine WA.tv (i := 1) rfl (by kernel_rfl) (by kernel_rfl) rfl (Gv.loadN rfl (by (repeat first | exact .here | apply At.there)) (by rfl) (by rfl)) ?_) | (refine WA.tv (i := 1) rfl (by kernel_rfl) (by kernel_rfl) rfl (Gv.loadG1 rfl (by assumption) rfl) ?_) | (refine WA.tv (i := 1) rfl (by kernel_rfl) (by kernel_rfl) rfl (Gv.loadG0 rfl (by assumption) rfl) ?_) | (refine WA.tv (i := 1) rfl (by kernel_rfl) (by kernel_rfl) rfl (Gv.loadGN rfl (by assumption) rfl) ?_))
    refine WA.tp (i := 5) rfl (by kernel_rfl) (by kernel_rfl) rfl (Gp.sliceFrom rfl rfl (by omega) (by show _ ≤ ((sk.length : Nat) : Int); omega)) ?_
    refine WA.tp (i := 6) rfl (by kernel_rfl) (by kernel_rfl) rfl (Gp.fieldAddr rfl) ?_
    (first | (refine WA.tv (i := 7) rfl (by kernel_rfl) (by kernel_rfl) rfl (Gv.load1 rfl (by (repeat first | exact .here | apply At.there)) (by first | rfl | assumption)) ?_) | (refine WA.tv (i := 7) rfl (by kernel_rfl) (by kernel_rfl) rfl (Gv.loadN rfl (by (repeat first | exact .here | apply At.there)) (by rfl) (by rfl)) ?_) | (refine WA.tv (i := 7) rfl (by kernel_rfl) (by kernel_rfl) rfl (Gv.loadG1 rfl (by assumption) rfl) ?_) | (refine WA.tv (i := 7) rfl (by kernel_rfl) (by kernel_rfl) rfl (Gv.loadG0 rfl (by assumption) rfl) ?_) | (refine WA.tv (i := 7) rfl (by kernel_rfl) (by kernel_rfl) rfl (Gv.loadGN rfl (by assumption) rfl) ?_))
    refine WA.tp (i := 8) rfl (by kernel_rfl) (by kernel_rfl) rfl (Gp.fieldAddr rfl) ?_
    (first | (refine WA.tv (i := 9) rfl (by kernel_rfl) (by kernel_rfl) rfl (Gv.load1 rfl (by (repeat first | exact .here | apply At.there)) (by first | rfl | assumption)) ?_) | (refine WA.tv (i := 9) rfl (by kernel_rfl) (by kernel_rfl) rfl (Gv.loadN rfl (by (repeat first | exact .here | apply At.there)) (by rfl) (by rfl)) ?_) | (refine WA.tv (i := 9) rfl (by kernel_rfl) (by kernel_rfl) rfl (Gv.loadG1 rfl (by assumption) rfl) ?_) | (refine WA.tv (i := 9) rfl (by kernel_rfl) (by kernel_rfl) rfl (Gv.loadG0 rfl (by assumption) rfl) ?_) | (refine WA.tv (i := 9) rfl (by kernel_rfl) (by kernel_rfl) rfl (Gv.loadGN rfl (by assumption) rfl) ?_))
    refine WA.tp (i := 10) rfl (by kernel_rfl) (by kernel_rfl) rfl (Gp.indexAddr rfl rfl (by first | assumption | omega | decide) (by first | assumption | omega | decide | (simp only [List.length_cons, List.length_nil]; decide))) ?_
    refine WA.tp (i := 11) rfl (by kernel_rfl) (by kernel_rfl) rfl (Gp.fieldAddr rfl) ?_
    (first | (refine WA.tv (i := 12) rfl (by kernel_rfl) (by kernel_rfl) rfl (Gv.load1 rfl (by (repeat first | exact .here | apply At.there)) (by first | rfl | assumption)) ?_) | (refine WA.tv (i := 12) rfl (by kernel_rfl) (by kernel_rfl) rfl (Gv.loadN rfl (by (repeat first | exact .here | apply At.there)) (by rfl) (by rfl)) ?_) | (refine WA.tv (i := 12) rfl (by kernel_rfl) (by kernel_rfl) rfl (Gv.loadG1 rfl (by assumption) rfl) ?_) | (refine WA.tv (i := 12) rfl (by kernel_rfl) (by kernel_rfl) rfl (Gv.loadG0 rfl (by assumption) rfl) ?_) | (refine WA.tv (i := 12) rfl (by kernel_rfl) (by kernel_rfl) rfl (Gv.loadGN rfl (by assumption) rfl) ?_))
    refine WA.one (i := 13) (by kernel_rfl) rfl (by kernel_rfl) (OW.callK rfl (hrs) rfl fun v' G' H' h hg => ?_)
    obtain ⟨he2, rfl, rfl⟩ := h
    cases he2
    refine WA.tp (i := 14) rfl (by kernel_rfl) (by kernel_rfl) rfl (Gp.assign rfl) ?_
    refine WA.done (by kernel_rfl) ?_
    refine WK.un ?_
    rw [e5]
    refine gom ?_
    refine WC.ret ?_
    refine WK.un ?_
    exact QF.p1 (.inl rfl) rfl (.tmp rfl) (⟨rfl, rfl, rfl⟩)
  have y8 : (c == 8) = false := by simpa using c8
  by_cases c12 : c = 12
  · subst c12
    have htk1 : 2 ≤ sk.length := htk
    obtain ⟨x, hx⟩ : ∃ x, sk[sk.length - 1]? = some x := ⟨_, List.getElem?_eq_getElem (by omega)⟩
    obtain ⟨xb, xo, rfl, hxc⟩ := hS.stack.at hx
    have z1 : IntKind.i64.wrap ((sk.length : Int) - 1) = ((sk.length - 1 : Nat) : Int) := by rw [wrapI (by omega) (by omega)]; omega
    have z2 : (0 : Int) ≤ ((sk.length - 1 : Nat) : Int) := by omega
    have z3 : ((sk.length - 1 : Nat) : Int) < (sk.length : Int) := by omega
    obtain ⟨y, hy⟩ : ∃ y, sk[sk.length - 2]? = some y := ⟨_, List.getElem?_eq_getElem (by omega)⟩
    obtain ⟨yb, yo, hye, hyc⟩ := hS.stack.at hy
    cases hye
    have z4 : IntKind.i64.wrap ((sk.length : Int) - 2) = ((sk.length - 2 : Nat) : Int) := by rw [wrapI (by omega) (by omega)]; omega
    have z5 : (0 : Int) ≤ ((sk.length - 2 : Nat) : Int) := by omega
    have z6 : ((sk.length - 2 : Nat) : Int) < (sk.length : Int) := by omega
    have he : kindsR w p ((12 : Int), (n : Int)) ⟨sr, su, sv, sk⟩ (sk.drop (sk.length - (effC w sv ((12 : Int), (n : Int))).1)) = (y == x && y != 0) := by
      rw [show (effC w sv ((12 : Int), (n : Int))).1 = 2 from rfl, drop_two htk1 hy hx]; unfold kindsR; simp [allT]
    rw [he]
    cases hxy : (y == x) with
    | true =>
      refine go ?_
      refine WC.draw mixed ?_
      refine WA.tp (i := 0) rfl (by kernel_rfl) (by kernel_rfl) rfl (Gp.fieldAddr rfl) ?_
      refine WA.tp (i := 2) rfl (by kernel_rfl) (by kernel_rfl) rfl (Gp.move rfl) ?_
      refine WA.tp (i := 3) rfl (by kernel_rfl) (by kernel_rfl) rfl (Gp.sub' rfl rfl z4) ?_
      refine WA.tp (i := 6) rfl (by kernel_rfl) (by kernel_rfl) rfl (Gp.fieldAddr rfl) ?_
      refine WA.tp (i := 8) rfl (by kernel_rfl) (by kernel_rfl) rfl (Gp.move rfl) ?_
      refine WA.tp (i := 9) rfl (by kernel_rfl) (by kernel_rfl) rfl (Gp.sub' rfl rfl z1) ?_
      (first | (refine WA.tv (i := 1) rfl (by kernel_rfl) (by kernel_rfl) rfl (Gv.load1 rfl (by (repeat first | exact .here | apply At.there)) (by first | rfl | assumption)) ?_) | (refine WA.tv (i := 1) rfl (by kernel_rfl) (by kernel_rfl) rfl (Gv.loadN rfl (by (repeat first | exact .here | apply At.there)) (by rfl) (by rfl)) ?_) | (refine WA.tv (i := 1) rfl (by kernel_rfl) (by kernel_rfl) rfl (Gv.loadG1 rfl (by assumption) rfl) ?_) | (refine WA.tv (i := 1) rfl (by kernel_rfl) (by kernel_rfl) rfl (Gv.loadG0 rfl (by assumption) rfl) ?_) | (refine WA.tv (i := 1) rfl (by kernel_rfl) (by kernel_rfl) rfl (Gv.loadGN rfl (by assumption) rfl) ?_))
      refine WA.tp (i := 4) rfl (by kernel_rfl) (by kernel_rfl) rfl (Gp.indexAddr rfl rfl (by first | assumption | omega | decide) (by first | assumption | omega | decide | (simp only [List.length_cons, List.length_nil]; decide))) ?_
      refine WA.tv (i := 5) rfl (by kernel_rfl) (by kernel_rfl) rfl (Gv.loadG1 (i := 0) rfl hyc rfl) ?_
      (first | (refine WA.tv (i := 7) rfl (by kernel_rfl) (by kernel_rfl) rfl (Gv.load1 rfl (by (repeat first | exact .here | apply At.there)) (by first | rfl | assumption)) ?_) | (refine WA.tv (i := 7) rfl (by kernel_rfl) (by kernel_rfl) rfl (Gv.loadN rfl (by (repeat first | exact .here | apply At.there)) (by rfl) (by rfl)) ?_) | (refine WA.tv (i := 7) rfl (by kernel_rfl) (by kernel_rfl) rfl (Gv.loadG1 rfl (by assumption) rfl) ?_) | (refine WA.tv (i := 7) rfl (by kernel_rfl) (by kernel_rfl) rfl (Gv.loadG0 rfl (by assumption) rfl) ?_) | (refine WA.tv (i := 7) rfl (by kernel_rfl) (by kernel_rfl) rfl (Gv.loadGN rfl (by assumption) rfl) ?_))
      refine WA.tp (i := 10) rfl (by kernel_rfl) (by kernel_rfl) rfl (Gp.indexAddr rfl rfl (by first | assumption | omega | decide) (by first | assumption | omega | decide | (simp only [List.length_cons, List.length_nil]; decide))) ?_
      refine WA.tv (i := 11) rfl (by kernel_rfl) (by kernel_rfl) rfl (Gv.loadG1 (i := 0) rfl hxc rfl) ?_
      refine WA.tp (i := 12) rfl (by kernel_rfl) (by kernel_rfl) rfl (Gp.eqI' rfl rfl hxy) ?_
      refine WA.tp (i := 13) rfl (by kernel_rfl) (by kernel_rfl) rfl (Gp.move rfl) ?_
      refine WA.tp (i := 14) rfl (by kernel_rfl) (by kernel_rfl) rfl (Gp.fieldAddr rfl) ?_
      refine WA.tp (i := 16) rfl (by kernel_rfl) (by kernel_rfl) rfl (Gp.move rfl) ?_
      refine WA.tp (i := 17) rfl (by kernel_rfl) (by kernel_rfl) rfl (Gp.sub' rfl rfl z1) ?_
      (first | (refine WA.tv (i := 15) rfl (by kernel_rfl) (by kernel_rfl) rfl (Gv.load1 rfl (by (repeat first | exact .here | apply At.there)) (by first | rfl | assumption)) ?_) | (refine WA.tv (i := 15) rfl (by kernel_rfl) (by kernel_rfl) rfl (Gv.loadN rfl (by (repeat first | exact .here | apply At.there)) (by rfl) (by rfl)) ?_) | (refine WA.tv (i := 15) rfl (by kernel_rfl) (by kernel_rfl) rfl (Gv.loadG1 rfl (by assumption) rfl) ?_) | (refine WA.tv (i := 15) rfl (by kernel_rfl) (by kernel_rfl) rfl (Gv.loadG0 rfl (by assumption) rfl) ?_) | (refine WA.tv (i := 15) rfl (by kernel_rfl) (by kernel_rfl) rfl (Gv.loadGN rfl (by assumption) rfl) ?_))
      refine WA.tp (i := 18) rfl (by kernel_rfl) (by kernel_rfl) rfl (Gp.indexAddr rfl rfl (by first | assumption | omega | decide) (by first | assumption | omega | decide | (simp only [List.length_cons, List.length_nil]; decide))) ?_
      refine WA.tv (i := 19) rfl (by kernel_rfl) (by kernel_rfl) rfl (Gv.loadG1 (i := 0) rfl hxc rfl) ?_
      (first | refine WA.tp (i := 20) rfl (by kernel_rfl) (by kernel_rfl) rfl (Gp.neI rfl rfl) ?_ | refine WA.tp (i := 20) rfl (by kernel_rfl) (by kernel_rfl) rfl (Gp.neS rfl rfl) ?_ | refine WA.tp (i := 20) rfl (by kernel_rfl) (by kernel_rfl) rfl (Gp.neB rfl rfl) ?_)
      (first | refine WA.tp (i := 21) rfl (by kernel_rfl) (by kernel_rfl) rfl (Gp.pickT rfl rfl) ?_ | refine WA.tp (i := 21) rfl (by kernel_rfl) (by kernel_rfl) rfl (Gp.pickF rfl rfl) ?_)
      refine WA.tp (i := 22) rfl (by kernel_rfl) (by kernel_rfl) rfl (Gp.assign rfl) ?_
      refine WA.done (by kernel_rfl) ?_
      refine WK.un ?_
      refine gom ?_
      refine WC.ret ?_
      refine WK.un ?_
      exact QF.p1 (.inl rfl) rfl (.tmp rfl) (⟨by simp at hxy; rw [hxy]; rfl, rfl, rfl⟩)
    | false =>
      refine go ?_
      refine WC.draw mixed ?_
      refine WA.tp (i := 0) rfl (by kernel_rfl) (by kernel_rfl) rfl (Gp.fieldAddr rfl) ?_
      refine WA.tp (i := 2) rfl (by kernel_rfl) (by kernel_rfl) rfl (Gp.move rfl) ?_
      refine WA.tp (i := 3) rfl (by kernel_rfl) (by kernel_rfl) rfl (Gp.sub' rfl rfl z4) ?_
      refine WA.tp (i := 6) rfl (by kernel_rfl) (by kernel_rfl) rfl (Gp.fieldAddr rfl) ?_
      refine WA.tp (i := 8) rfl (by kernel_rfl) (by kernel_rfl) rfl (Gp.move rfl) ?_
      refine WA.tp (i := 9) rfl (by kernel_rfl) (by kernel_rfl) rfl (Gp.sub' rfl rfl z1) ?_
      (first | (refine WA.tv (i := 1) rfl (by kernel_rfl) (by kernel_rfl) rfl (Gv.load1 rfl (by (repeat first | exact .here | apply At.there)) (by first | rfl | assumption)) ?_) | (refine WA.tv (i := 1) rfl (by kernel_rfl) (by kernel_rfl) rfl (Gv.loadN rfl (by (repeat first | exact .here | apply At.there)) (by rfl) (by rfl)) ?_) | (refine WA.tv (i := 1) rfl (by kernel_rfl) (by kernel_rfl) rfl (Gv.loadG1 rfl (by assumption) rfl) ?_) | (refine WA.tv (i := 1) rfl (by kernel_rfl) (by kernel_rfl) rfl (Gv.loadG0 rfl (by assumption) rfl) ?_) | (refine WA.tv (i := 1) rfl (by kernel_rfl) (by kernel_rfl) rfl (Gv.loadGN rfl (by assumption) rfl) ?_))
      refine WA.tp (i := 4) rfl (by kernel_rfl) (by kernel_rfl) rfl (Gp.indexAddr rfl rfl (by first | assumption | omega | decide) (by first | assumption | omega | decide | (simp only [List.length_cons, List.length_nil]; decide))) ?_
      refine WA.tv (i := 5) rfl (by kernel_rfl) (by kernel_rfl) rfl (Gv.loadG1 (i := 0) rfl hyc rfl) ?_
      (first | (refine WA.tv (i := 7) rfl (by kernel_rfl) (by kernel_rfl) rfl (Gv.load1 rfl (by (repeat first | exact .here | apply At.there)) (by first | rfl | assumption)) ?_) | (refine WA.tv (i := 7) rfl (by kernel_rfl) (by kernel_rfl) rfl (Gv.loadN rfl (by (repeat first | exact .here | apply At.there)) (by rfl) (by rfl)) ?_) | (refine WA.tv (i := 7) rfl (by kernel_rfl) (by kernel_rfl) rfl (Gv.loadG1 rfl (by assumption) rfl) ?_) | (refine WA.tv (i := 7) rfl (by kernel_rfl) (by kernel_rfl) rfl (Gv.loadG0 rfl (by assumption) rfl) ?_) | (refine WA.tv (i := 7) rfl (by kernel_rfl) (by kernel_rfl) rfl (Gv.loadGN rfl (by assumption) rfl) ?_))
      refine WA.tp (i := 10) rfl (by kernel_rfl) (by kernel_rfl) rfl (Gp.indexAddr rfl rfl (by first | assumption | omega | decide) (by first | assumption | omega | decide | (simp only [List.length_cons, List.length_nil]; decide))) ?_
      refine WA.tv (i := 11) rfl (by kernel_rfl) (by kernel_rfl) rfl (Gv.loadG1 (i := 0) rfl hxc rfl) ?_
      refine WA.tp (i := 12) rfl (by kernel_rfl) (by kernel_rfl) rfl (Gp.eqI' rfl rfl hxy) ?_
      refine WA.tp (i := 13) rfl (by kernel_rfl) (by kernel_rfl) rfl (Gp.move rfl) ?_
      refine WA.sp (i := 14) rfl (by kernel_rfl) (by kernel_rfl) rfl ?_
      refine WA.sp (i := 16) rfl (by kernel_rfl) (by kernel_rfl) rfl ?_
      refine WA.sp (i := 17) rfl (by kernel_rfl) (by kernel_rfl) rfl ?_
      refine WA.sp (i := 15) rfl (by kernel_rfl) (by kernel_rfl) rfl ?_
      refine WA.sp (i := 18) rfl (by kernel_rfl) (by kernel_rfl) rfl ?_
      refine WA.sp (i := 19) rfl (by kernel_rfl) (by kernel_rfl) rfl ?_
      refine WA.sp (i := 20) rfl (by kernel_rfl) (by kernel_rfl) rfl ?_
      (first | refine WA.tp (i := 21) rfl (by kernel_rfl) (by kernel_rfl) rfl (Gp.pickT rfl rfl) ?_ | refine WA.tp (i := 21) rfl (by kernel_rfl) (by kernel_rfl) rfl (Gp.pickF rfl rfl) ?_)
      refine WA.tp (i := 22) rfl (by kernel_rfl) (by kernel_rfl) rfl (Gp.assign rfl) ?_
      refine WA.done (by kernel_rfl) ?_
      refine WK.un ?_
      refine gom ?_
      refine WC.ret ?_
      refine WK.un ?_
      exact QF.p1 (.inl rfl) rfl (.tmp rfl) (⟨rfl, rfl, rfl⟩)
  have y12 : (c == 12) = false := by simpa using c12
  by_cases c13 : c = 13
  · subst c13
    have htk1 : 2 ≤ sk.length := htk
    obtain ⟨x, hx⟩ : ∃ x, sk[sk.length - 1]? = some x := ⟨_, List.getElem?_eq_getElem (by omega)⟩
    obtain ⟨xb, xo, rfl, hxc⟩ := hS.stack.at hx
    have z1 : IntKind.i64.wrap ((sk.length : Int) - 1) = ((sk.length - 1 : Nat) : Int) := by rw [wrapI (by omega) (by omega)]; omega
    have z2 : (0 : Int) ≤ ((sk.length - 1 : Nat) : Int) := by omega
    have z3 : ((sk.length - 1 : Nat) : Int) < (sk.length : Int) := by omega
    obtain ⟨y, hy⟩ : ∃ y, sk[sk.length - 2]? = some y := ⟨_, List.getElem?_eq_getElem (by omega)⟩
    obtain ⟨yb, yo, hye, hyc⟩ := hS.stack.at hy
    cases hye
    have z4 : IntKind.i64.wrap ((sk.length : Int) - 2) = ((sk.length - 2 : Nat) : Int) := by rw [wrapI (by omega) (by omega)]; omega
    have z5 : (0 : Int) ≤ ((sk.length - 2 : Nat) : Int) := by omega
    have z6 : ((sk.length - 2 : Nat) : Int) < (sk.length : Int) := by omega
    have he : kindsR w p ((13 : Int), (n : Int)) ⟨sr, su, sv, sk⟩ (sk.drop (sk.length - (effC w sv ((13 : Int), (n : Int))).1)) = (y == x && y != 0) := by
      rw [show (effC w sv ((13 : Int), (n : Int))).1 = 2 from rfl, drop_two htk1 hy hx]; unfold kindsR; simp [allT]
    rw [he]
    cases hxy : (y == x) with
    | true =>
      refine go ?_
      refine WC.draw mixed ?_
      refine WA.tp (i := 0) rfl (by kernel_rfl) (by kernel_rfl) rfl (Gp.fieldAddr rfl) ?_
      refine WA.tp (i := 2) rfl (by kernel_rfl) (by kernel_rfl) rfl (Gp.move rfl) ?_
      refine WA.tp (i := 3) rfl (by kernel_rfl) (by kernel_rfl) rfl (Gp.sub' rfl rfl z4) ?_
      refine WA.tp (i := 6) rfl (by kernel_rfl) (by kernel_rfl) rfl (Gp.fieldAddr rfl) ?_
      refine WA.tp (i := 8) rfl (by kernel_rfl) (by kernel_rfl) rfl (Gp.move rfl) ?_
      refine WA.tp (i := 9) rfl (by kernel_rfl) (by kernel_rfl) rfl (Gp.sub' rfl rfl z1) ?_
      (first | (refine WA.tv (i := 1) rfl (by kernel_rfl) (by kernel_rfl) rfl (Gv.load1 rfl (by (repeat first | exact .here | apply At.there)) (by first | rfl | assumption)) ?_) | (refine WA.tv (i := 1) rfl (by kernel_rfl) (by kernel_rfl) rfl (Gv.loadN rfl (by (repeat first | exact .here | apply At.there)) (by rfl) (by rfl)) ?_) | (refine WA.tv (i := 1) rfl (by kernel_rfl) (by kernel_rfl) rfl (Gv.loadG1 rfl (by assumption) rfl) ?_) | (refine WA.tv (i := 1) rfl (by kernel_rfl) (by kernel_rfl) rfl (Gv.loadG0 rfl (by assumption) rfl) ?_) | (refine WA.tv (i := 1) rfl (by kernel_rfl) (by kernel_rfl) rfl (Gv.loadGN rfl (by assumption) rfl) ?_))
      refine WA.tp (i := 4) rfl (by kernel_rfl) (by kernel_rfl) rfl (Gp.indexAddr rfl rfl (by first | assumption | omega | decide) (by first | assumption | omega | decide | (simp only [List.length_cons, List.length_nil]; decide))) ?_
      refine WA.tv (i := 5) rfl (by kernel_rfl) (by kernel_rfl) rfl (Gv.loadG1 (i := 0) rfl hyc rfl) ?_
      (first | (refine WA.tv (i := 7) rfl (by kernel_rfl) (by kernel_rfl) rfl (Gv.load1 rfl (by (repeat first | exact .here | apply At.there)) (by first | rfl | assumption)) ?_) | (refine WA.tv (i := 7) rfl (by kernel_rfl) (by kernel_rfl) rfl (Gv.loadN rfl (by (repeat first | exact .here | apply At.there)) (by rfl) (by rfl)) ?_) | (refine WA.tv (i := 7) rfl (by kernel_rfl) (by kernel_rfl) rfl (Gv.loadG1 rfl (by assumption) rfl) ?_) | (refine WA.tv (i := 7) rfl (by kernel_rfl) (by kernel_rfl) rfl (Gv.loadG0 rfl (by assumption) rfl) ?_) | (refine WA.tv (i := 7) rfl (by kernel_rfl) (by kernel_rfl) rfl (Gv.loadGN rfl (by assumption) rfl) ?_))
      refine WA.tp (i := 10) rfl (by kernel_rfl) (by kernel_rfl) rfl (Gp.indexAddr rfl rfl (by first | assumption | omega | decide) (by first | assumption | omega | decide | (simp only [List.length_cons, List.length_nil]; decide))) ?_
      refine WA.tv (i := 11) rfl (by kernel_rfl) (by kernel_rfl) rfl (Gv.loadG1 (i := 0) rfl hxc rfl) ?_
      refine WA.tp (i := 12) rfl (by kernel_rfl) (by kernel_rfl) rfl (Gp.eqI' rfl rfl hxy) ?_
      refine WA.tp (i := 13) rfl (by kernel_rfl) (by kernel_rfl) rfl (Gp.move rfl) ?_
      refine WA.tp (i := 14) rfl (by kernel_rfl) (by kernel_rfl) rfl (Gp.fieldAddr rfl) ?_
      refine WA.tp (i := 16) rfl (by kernel_rfl) (by kernel_rfl) rfl (Gp.move rfl) ?_
      refine WA.tp (i := 17) rfl (by kernel_rfl) (by kernel_rfl) rfl (Gp.sub' rfl rfl z1) ?_
      (first | (refine WA.tv (i := 15) rfl (by kernel_rfl) (by kernel_rfl) rfl (Gv.load1 rfl (by (repeat first | exact .here | apply At.there)) (by first | rfl | assumption)) ?_) | (refine WA.tv (i := 15) rfl (by kernel_rfl) (by kernel_rfl) rfl (Gv.loadN rfl (by (repeat first | exact .here | apply At.there)) (by rfl) (by rfl)) ?_) | (refine WA.tv (i := 15) rfl (by kernel_rfl) (by kernel_rfl) rfl (Gv.loadG1 rfl (by assumption) rfl) ?_) | (refine WA.tv (i := 15) rfl (by kernel_rfl) (by kernel_rfl) rfl (Gv.loadG0 rfl (by assumption) rfl) ?_) | (refine WA.tv (i := 15) rfl (by kernel_rfl) (by kernel_rfl) rfl (Gv.loadGN rfl (by assumption) rfl) ?_))
      refine WA.tp (i := 18) rfl (by kernel_rfl) (by kernel_rfl) rfl (Gp.indexAddr rfl rfl (by first | assumption | omega | decide) (by first | assumption | omega | decide | (simp only [List.length_cons, List.length_nil]; decide))) ?_
      refine WA.tv (i := 19) rfl (by kernel_rfl) (by kernel_rfl) rfl (Gv.loadG1 (i := 0) rfl hxc rfl) ?_
      (first | refine WA.tp (i := 20) rfl (by kernel_rfl) (by kernel_rfl) rfl (Gp.neI rfl rfl) ?_ | refine WA.tp (i := 20) rfl (by kernel_rfl) (by kernel_rfl) rfl (Gp.neS rfl rfl) ?_ | refine WA.tp (i := 20) rfl (by kernel_rfl) (by kernel_rfl) rfl (Gp.neB rfl rfl) ?_)
      (first | refine WA.tp (i := 21) rfl (by kernel_rfl) (by kernel_rfl) rfl (Gp.pickT rfl rfl) ?_ | refine WA.tp (i := 21) rfl (by kernel_rfl) (by kernel_rfl) rfl (Gp.pickF rfl rfl) ?_)
      refine WA.tp (i := 22) rfl (by kernel_rfl) (by kernel_rfl) rfl (Gp.assign rfl) ?_
      refine WA.done (by kernel_rfl) ?_
      refine WK.un ?_
      refine gom ?_
      refine WC.ret ?_
      refine WK.un ?_
      exact QF.p1 (.inl rfl) rfl (.tmp rfl) (⟨by simp at hxy; rw [hxy]; rfl, rfl, rfl⟩)
    | false =>
      refine go ?_
      refine WC.draw mixed ?_
      refine WA.tp (i := 0) rfl (by kernel_rfl) (by kernel_rfl) rfl (Gp.fieldAddr rfl) ?_
      refine WA.tp (i := 2) rfl (by kernel_rfl) (by kernel_rfl) rfl (Gp.move rfl) ?_
      refine WA.tp (i := 3) rfl (by kernel_rfl) (by kernel_rfl) rfl (Gp.sub' rfl rfl z4) ?_
      refine WA.tp (i := 6) rfl (by kernel_rfl) (by kernel_rfl) rfl (Gp.fieldAddr rfl) ?_
      refine WA.tp (i := 8) rfl (by kernel_rfl) (by kernel_rfl) rfl (Gp.move rfl) ?_
      refine WA.tp (i := 9) rfl (by kernel_rfl) (by kernel_rfl) rfl (Gp.sub' rfl rfl z1) ?_
      (first | (refine WA.tv (i := 1) rfl (by kernel_rfl) (by kernel_rfl) rfl (Gv.load1 rfl (by (repeat first | exact .here | apply At.there)) (by first | rfl | assumption)) ?_) | (refine WA.tv (i := 1) rfl (by kernel_rfl) (by kernel_rfl) rfl (Gv.loadN rfl (by (repeat first | exact .here | apply At.there)) (by rfl) (by rfl)) ?_) | (refine WA.tv (i := 1) rfl (by kernel_rfl) (by kernel_rfl) rfl (Gv.loadG1 rfl (by assumption) rfl) ?_) | (refine WA.tv (i := 1) rfl (by kernel_rfl) (by kernel_rfl) rfl (Gv.loadG0 rfl (by assumption) rfl) ?_) | (refine WA.tv (i := 1) rfl (by kernel_rfl) (by kernel_rfl) rfl (Gv.loadGN rfl (by assumption) rfl) ?_))
      refine WA.tp (i := 4) rfl (by kernel_rfl) (by kernel_rfl) rfl (Gp.indexAddr rfl rfl (by first | assumption | omega | decide) (by first | assumption | omega | decide | (simp only [List.length_cons, List.length_nil]; decide))) ?_
      refine WA.tv (i := 5) rfl (by kernel_rfl) (by kernel_rfl) rfl (Gv.loadG1 (i := 0) rfl hyc rfl) ?_
      (first | (refine WA.tv (i := 7) rfl (by kernel_rfl) (by kernel_rfl) rfl (Gv.load1 rfl (by (repeat first | exact .here | apply At.there)) (by first | rfl | assumption)) ?_) | (refine WA.tv (i := 7) rfl (by kernel_rfl) (by kernel_rfl) rfl (Gv.loadN rfl (by (repeat first | exact .here | apply At.there)) (by rfl) (by rfl)) ?_) | (refine WA.tv (i := 7) rfl (by kernel_rfl) (by kernel_rfl) rfl (Gv.loadG1 rfl (by assumption) rfl) ?_) | (refine WA.tv (i := 7) rfl (by kernel_rfl) (by kernel_rfl) rfl (Gv.loadG0 rfl (by assumption) rfl) ?_) | (refine WA.tv (i := 7) rfl (by kernel_rfl) (by kernel_rfl) rfl (Gv.loadGN rfl (by assumption) rfl) ?_))
      refine WA.tp (i := 10) rfl (by kernel_rfl) (by kernel_rfl) rfl (Gp.indexAddr rfl rfl (by first | assumption | omega | decide) (by first | assumption | omega | decide | (simp only [List.length_cons, List.length_nil]; decide))) ?_
      refine WA.tv (i := 11) rfl (by kernel_rfl) (by kernel_rfl) rfl (Gv.loadG1 (i := 0) rfl hxc rfl) ?_
      refine WA.tp (i := 12) rfl (by kernel_rfl) (by kernel_rfl) rfl (Gp.eqI' rfl rfl hxy) ?_
      refine WA.tp (i := 13) rfl (by kernel_rfl) (by kernel_rfl) rfl (Gp.move rfl) ?_
      refine WA.sp (i := 14) rfl (by kernel_rfl) (by kernel_rfl) rfl ?_
      refine WA.sp (i := 16) rfl (by kernel_rfl) (by kernel_rfl) rfl ?_
      refine WA.sp (i := 17) rfl (by kernel_rfl) (by kernel_rfl) rfl ?_
      refine WA.sp (i := 15) rfl (by kernel_rfl) (by kernel_rfl) rfl ?_
      refine WA.sp (i := 18) rfl (by kernel_rfl) (by kernel_rfl) rfl ?_
      refine WA.sp (i := 19) rfl (by kernel_rfl) (by kernel_rfl) rfl ?_
      refine WA.sp (i := 20) rfl (by kernel_rfl) (by kernel_rfl) rfl ?_
      (first | refine WA.tp (i := 21) rfl (by kernel_rfl) (by kernel_rfl) rfl (Gp.pickT rfl rfl) ?_ | refine WA.tp (i := 21) rfl (by kernel_rfl) (by kernel_rfl) rfl (Gp.pickF rfl rfl) ?_)
      refine WA.tp (i := 22) rfl (by kernel_rfl) (by kernel_rfl) rfl (Gp.assign rfl) ?_
      refine WA.done (by kernel_rfl) ?_
      refine WK.un ?_
      refine gom ?_
      refine WC.ret ?_
      refine WK.un ?_
      exact QF.p1 (.inl rfl) rfl (.tmp rfl) (⟨rfl, rfl, rfl⟩)
  have y13 : (c == 13) = false := by simpa using c13
  by_cases c20 : c = 20
  · subst c20
    have htk1 : 2 ≤ sk.length := htk
    obtain ⟨x, hx⟩ : ∃ x, sk[sk.length - 1]? = some x := ⟨_, List.getElem?_eq_getElem (by omega)⟩
    obtain ⟨xb, xo, rfl, hxc⟩ := hS.stack.at hx
    have z1 : IntKind.i64.wrap ((sk.length : Int) - 1) = ((sk.length - 1 : Nat) : Int) := by rw [wrapI (by omega) (by omega)]; omega
    have z2 : (0 : Int) ≤ ((sk.length - 1 : Nat) : Int) := by omega
    have z3 : ((sk.length - 1 : Nat) : Int) < (sk.length : Int) := by omega
    obtain ⟨y, hy⟩ : ∃ y, sk[sk.length - 2]? = some y := ⟨_, List.getElem?_eq_getElem (by omega)⟩
    obtain ⟨yb, yo, hye, hyc⟩ := hS.stack.at hy
    cases hye
    have z4 : IntKind.i64.wrap ((sk.length : Int) - 2) = ((sk.length - 2 : Nat) : Int) := by rw [wrapI (by omega) (by omega)]; omega
    have z5 : (0 : Int) ≤ ((sk.length - 2 : Nat) : Int) := by omega
    have z6 : ((sk.length - 2 : Nat) : Int) < (sk.length : Int) := by omega
    have he : kindsR w p ((20 : Int), (n : Int)) ⟨sr, su, sv, sk⟩ (sk.drop (sk.length - (effC w sv ((20 : Int), (n : Int))).1)) = (y == 3 && x == 3) := by
      rw [show (effC w sv ((20 : Int), (n : Int))).1 = 2 from rfl, drop_two htk1 hy hx]; unfold kindsR; simp [allT]
    rw [he]
    cases hxy : (y == 3) with
    | true =>
      refine gom ?_
      try rw [hxy]
      refine gom ?_
      refine WC.ret ?_
      refine WK.un ?_
      exact QF.p1 (.inl rfl) rfl (.tmp rfl) (⟨rfl, rfl, rfl⟩)
    | false =>
      refine gom ?_
      try rw [hxy]
      refine gom ?_
      refine WC.ret ?_
      refine WK.un ?_
      exact QF.p1 (.inl rfl) rfl (.tmp rfl) (⟨rfl, rfl, rfl⟩)
  have y20 : (c == 20) = false := by simpa using c20
  by_cases c18 : c = 18
  · subst c18
    have htk1 : 2 ≤ sk.length := htk
    obtain ⟨x, hx⟩ : ∃ x, sk[sk.length - 1]? = some x := ⟨_, List.getElem?_eq_getElem (by omega)⟩
    obtain ⟨xb, xo, rfl, hxc⟩ := hS.stack.at hx
    have z1 : IntKind.i64.wrap ((sk.length : Int) - 1) = ((sk.length - 1 : Nat) : Int) := by rw [wrapI (by omega) (by omega)]; omega
    have z2 : (0 : Int) ≤ ((sk.length - 1 : Nat) : Int) := by omega
    have z3 : ((sk.length - 1 : Nat) : Int) < (sk.length : Int) := by omega
    obtain ⟨y, hy⟩ : ∃ y, sk[sk.length - 2]? = some y := ⟨_, List.getElem?_eq_getElem (by omega)⟩
    obtain ⟨yb, yo, hye, hyc⟩ := hS.stack.at hy
    cases hye
    have z4 : IntKind.i64.wrap ((sk.length : Int) - 2) = ((sk.length - 2 : Nat) : Int) := by rw [wrapI (by omega) (by omega)]; omega
    have z5 : (0 : Int) ≤ ((sk.length - 2 : Nat) : Int) := by omega
    have z6 : ((sk.length - 2 : Nat) : Int) < (sk.length : Int) := by omega
    have he : kindsR w p ((18 : Int), (n : Int)) ⟨sr, su, sv, sk⟩ (sk.drop (sk.length - (effC w sv ((18 : Int), (n : Int))).1)) = (y == 1 && x == 1) := by
      rw [show (effC w sv ((18 : Int), (n : Int))).1 = 2 from rfl, drop_two htk1 hy hx]; unfold kindsR; simp [allT]
    rw [he]
    cases hxy : (y == 1) with
    | true =>
      refine gom ?_
      try rw [hxy]
      refine gom ?_
      refine WC.ret ?_
      refine WK.un ?_
      exact QF.p1 (.inl rfl) rfl (.tmp rfl) (⟨rfl, rfl, rfl⟩)
    | false =>
      refine gom ?_
      try rw [hxy]
      refine gom ?_
      refine WC.ret ?_
      refine WK.un ?_
      exact QF.p1 (.inl rfl) rfl (.tmp rfl) (⟨rfl, rfl, rfl⟩)
  have y18 : (c == 18) = false := by simpa using c18
  by_cases c19 : c = 19
  · subst c19
    have htk1 : 2 ≤ sk.length := htk
    obtain ⟨x, hx⟩ : ∃ x, sk[sk.length - 1]? = some x := ⟨_, List.getElem?_eq_getElem (by omega)⟩
    obtain ⟨xb, xo, rfl, hxc⟩ := hS.stack.at hx
    have z1 : IntKind.i64.wrap ((sk.length : Int) - 1) = ((sk.length - 1 : Nat) : Int) := by rw [wrapI (by omega) (by omega)]; omega
    have z2 : (0 : Int) ≤ ((sk.length - 1 : Nat) : Int) := by omega
    have z3 : ((sk.length - 1 : Nat) : Int) < (sk.length : Int) := by omega
    obtain ⟨y, hy⟩ : ∃ y, sk[sk.length - 2]? = some y := ⟨_, List.getElem?_eq_getElem (by omega)⟩
    obtain ⟨yb, yo, hye, hyc⟩ := hS.stack.at hy
    cases hye
    have z4 : IntKind.i64.wrap ((sk.length : Int) - 2) = ((sk.length - 2 : Nat) : Int) := by rw [wrapI (by omega) (by omega)]; omega
    have z5 : (0 : Int) ≤ ((sk.length - 2 : Nat) : Int) := by omega
    have z6 : ((sk.length - 2 : Nat) : Int) < (sk.length : Int) := by omega
    have he : kindsR w p ((19 : Int), (n : Int)) ⟨sr, su, sv, sk⟩ (sk.drop (sk.length - (effC w sv ((19 : Int), (n : Int))).1)) = (y == 1 && x == 1) := by
      rw [show (effC w sv ((19 : Int), (n : Int))).1 = 2 from rfl, drop_two htk1 hy hx]; unfold kindsR; simp [allT]
    rw [he]
    cases hxy : (y == 1) with
    | true =>
      refine gom ?_
      try rw [hxy]
      refine gom ?_
      refine WC.ret ?_
      refine WK.un ?_
      exact QF.p1 (.inl rfl) rfl (.tmp rfl) (⟨rfl, rfl, rfl⟩)
    | false =>
      refine gom ?_
      try rw [hxy]
      refine gom ?_
      refine WC.ret ?_
      refine WK.un ?_
      exact QF.p1 (.inl rfl) rfl (.tmp rfl) (⟨rfl, rfl, rfl⟩)
  have y19 : (c == 19) = false := by simpa using c19
  by_cases c21 : c = 21
  · subst c21
    have htk1 : 2 ≤ sk.length := htk
    obtain ⟨x, hx⟩ : ∃ x, sk[sk.length - 1]? = some x := ⟨_, List.getElem?_eq_getElem (by omega)⟩
    obtain ⟨xb, xo, rfl, hxc⟩ := hS.stack.at hx
    have z1 : IntKind.i64.wrap ((sk.length : Int) - 1) = ((sk.length - 1 : Nat) : Int) := by rw [wrapI (by omega) (by omega)]; omega
    have z2 : (0 : Int) ≤ ((sk.length - 1 : Nat) : Int) := by omega
    have z3 : ((sk.length - 1 : Nat) : Int) < (sk.length : Int) := by omega
    obtain ⟨y, hy⟩ : ∃ y, sk[sk.length - 2]? = some y := ⟨_, List.getElem?_eq_getElem (by omega)⟩
    obtain ⟨yb, yo, hye, hyc⟩ := hS.stack.at hy
    cases hye
    have z4 : IntKind.i64.wrap ((sk.length : Int) - 2) = ((sk.length - 2 : Nat) : Int) := by rw [wrapI (by omega) (by omega)]; omega
    have z5 : (0 : Int) ≤ ((sk.length - 2 : Nat) : Int) := by omega
    have z6 : ((sk.length - 2 : Nat) : Int) < (sk.length : Int) := by omega
    have he : kindsR w p ((21 : Int), (n : Int)) ⟨sr, su, sv, sk⟩ (sk.drop (sk.length - (effC w sv ((21 : Int), (n : Int))).1)) = (y == 1 && x == 1) := by
      rw [show (effC w sv ((21 : Int), (n : Int))).1 = 2 from rfl, drop_two htk1 hy hx]; unfold kindsR; simp [allT]
    rw [he]
    cases hxy : (y == 1) with
    | true =>
      refine gom ?_
      try rw [hxy]
      refine gom ?_
      refine WC.ret ?_
      refine WK.un ?_
      exact QF.p1 (.inl rfl) rfl (.tmp rfl) (⟨rfl, rfl, rfl⟩)
    | false =>
      refine gom ?_
      try rw [hxy]
      refine gom ?_
      refine WC.ret ?_
      refine WK.un ?_
      exact QF.p1 (.inl rfl) rfl (.tmp rfl) (⟨rfl, rfl, rfl⟩)
  have y21 : (c == 21) = false := by simpa using c21
  by_cases c22 : c = 22
  · subst c22
    have htk1 : 2 ≤ sk.length := htk
    obtain ⟨x, hx⟩ : ∃ x, sk[sk.length - 1]? = some x := ⟨_, List.getElem?_eq_getElem (by omega)⟩
    obtain ⟨xb, xo, rfl, hxc⟩ := hS.stack.at hx
    have z1 : IntKind.i64.wrap ((sk.length : Int) - 1) = ((sk.length - 1 : Nat) : Int) := by rw [wrapI (by omega) (by omega)]; omega
    have z2 : (0 : Int) ≤ ((sk.length - 1 : Nat) : Int) := by omega
    have z3 : ((sk.length - 1 : Nat) : Int) < (sk.length : Int) := by omega
    obtain ⟨y, hy⟩ : ∃ y, sk[sk.length - 2]? = some y := ⟨_, List.getElem?_eq_getElem (by omega)⟩
    obtain ⟨yb, yo, hye, hyc⟩ := hS.stack.at hy
    cases hye
    have z4 : IntKind.i64.wrap ((sk.length : Int) - 2) = ((sk.length - 2 : Nat) : Int) := by rw [wrapI (by omega) (by omega)]; omega
    have z5 : (0 : Int) ≤ ((sk.length - 2 : Nat) : Int) := by omega
    have z6 : ((sk.length - 2 : Nat) : Int) < (sk.length : Int) := by omega
    have he : kindsR w p ((22 : Int), (n : Int)) ⟨sr, su, sv, sk⟩ (sk.drop (sk.length - (effC w sv ((22 : Int), (n : Int))).1)) = (y == 1 && x == 1) := by
      rw [show (effC w sv ((22 : Int), (n : Int))).1 = 2 from rfl, drop_two htk1 hy hx]; unfold kindsR; simp [allT]
    rw [he]
    cases hxy : (y == 1) with
    | true =>
      refine gom ?_
      try rw [hxy]
      refine gom ?_
      refine WC.ret ?_
      refine WK.un ?_
      exact QF.p1 (.inl rfl) rfl (.tmp rfl) (⟨rfl, rfl, rfl⟩)
    | false =>
      refine gom ?_
      try rw [hxy]
      refine gom ?_
      refine WC.ret ?_
      refine WK.un ?_
      exact QF.p1 (.inl rfl) rfl (.tmp rfl) (⟨rfl, rfl, rfl⟩)
  have y22 : (c == 22) = false := by simpa using c22
  by_cases c23 : c = 23
  · subst c23
    have htk1 : 2 ≤ sk.length := htk
    obtain ⟨x, hx⟩ : ∃ x, sk[sk.length - 1]? = some x := ⟨_, List.getElem?_eq_getElem (by omega)⟩
    obtain ⟨xb, xo, rfl, hxc⟩ := hS.stack.at hx
    have z1 : IntKind.i64.wrap ((sk.length : Int) - 1) = ((sk.length - 1 : Nat) : Int) := by rw [wrapI (by omega) (by omega)]; omega
    have z2 : (0 : Int) ≤ ((sk.length - 1 : Nat) : Int) := by omega
    have z3 : ((sk.length - 1 : Nat) : Int) < (sk.length : Int) := by omega
    obtain ⟨y, hy⟩ : ∃ y, sk[sk.length - 2]? = some y := ⟨_, List.getElem?_eq_getElem (by omega)⟩
    obtain ⟨yb, yo, hye, hyc⟩ := hS.stack.at hy
    cases hye
    have z4 : IntKind.i64.wrap ((sk.length : Int) - 2) = ((sk.length - 2 : Nat) : Int) := by rw [wrapI (by omega) (by omega)]; omega
    have z5 : (0 : Int) ≤ ((sk.length - 2 : Nat) : Int) := by omega
    have z6 : ((sk.length - 2 : Nat) : Int) < (sk.length : Int) := by omega
    have he : kindsR w p ((23 : Int), (n : Int)) ⟨sr, su, sv, sk⟩ (sk.drop (sk.length - (effC w sv ((23 : Int), (n : Int))).1)) = (y == 1 && x == 1) := by
      rw [show (effC w sv ((23 : Int), (n : Int))).1 = 2 from rfl, drop_two htk1 hy hx]; unfold kindsR; simp [allT]
    rw [he]
    cases hxy : (y == 1) with
    | true =>
      refine gom ?_
      try rw [hxy]
      refine gom ?_
      refine WC.ret ?_
      refine WK.un ?_
      exact QF.p1 (.inl rfl) rfl (.tmp rfl) (⟨rfl, rfl, rfl⟩)
    | false =>
      refine gom ?_
      try rw [hxy]
      refine gom ?_
      refine WC.ret ?_
      refine WK.un ?_
      exact QF.p1 (.inl rfl) rfl (.tmp rfl) (⟨rfl, rfl, rfl⟩)
  have y23 : (c == 23) = false := by simpa using c23
  by_cases c14 : c = 14
  · subst c14
    have htk1 : 2 ≤ sk.length := htk
    obtain ⟨x, hx⟩ : ∃ x, sk[sk.length - 1]? = some x := ⟨_, List.getElem?_eq_getElem (by omega)⟩
    obtain ⟨xb, xo, rfl, hxc⟩ := hS.stack.at hx
    have z1 : IntKind.i64.wrap ((sk.length : Int) - 1) = ((sk.length - 1 : Nat) : Int) := by rw [wrapI (by omega) (by omega)]; omega
    have z2 : (0 : Int) ≤ ((sk.length - 1 : Nat) : Int) := by omega
    have z3 : ((sk.length - 1 : Nat) : Int) < (sk.length : Int) := by omega
    obtain ⟨y, hy⟩ : ∃ y, sk[sk.length - 2]? = some y := ⟨_, List.getElem?_eq_getElem (by omega)⟩
    obtain ⟨yb, yo, hye, hyc⟩ := hS.stack.at hy
    cases hye
    have z4 : IntKind.i64.wrap ((sk.length : Int) - 2) = ((sk.length - 2 : Nat) : Int) := by rw [wrapI (by omega) (by omega)]; omega
    have z5 : (0 : Int) ≤ ((sk.length - 2 : Nat) : Int) := by omega
    have z6 : ((sk.length - 2 : Nat) : Int) < (sk.length : Int) := by omega
    have he : kindsR w p ((14 : Int), (n : Int)) ⟨sr, su, sv, sk⟩ (sk.drop (sk.length - (effC w sv ((14 : Int), (n : Int))).1)) = (y == x && (x == 1 || x == 3)) := by
      rw [show (effC w sv ((14 : Int), (n : Int))).1 = 2 from rfl, drop_two htk1 hy hx]; unfold kindsR; exact kinds_rel x y
    rw [he]
    cases hxy : (y == x) with
    | false =>
      refine go ?_
      refine WC.draw mixed ?_
      refine WA.tp (i := 0) rfl (by kernel_rfl) (by kernel_rfl) rfl (Gp.fieldAddr rfl) ?_
      refine WA.tp (i := 2) rfl (by kernel_rfl) (by kernel_rfl) rfl (Gp.move rfl) ?_
      refine WA.tp (i := 3) rfl (by kernel_rfl) (by kernel_rfl) rfl (Gp.sub' rfl rfl z4) ?_
      refine WA.tp (i := 6) rfl (by kernel_rfl) (by kernel_rfl) rfl (Gp.fieldAddr rfl) ?_
      refine WA.tp (i := 8) rfl (by kernel_rfl) (by kernel_rfl) rfl (Gp.move rfl) ?_
      refine WA.tp (i := 9) rfl (by kernel_rfl) (by kernel_rfl) rfl (Gp.sub' rfl rfl z1) ?_
      (first | (refine WA.tv (i := 1) rfl (by kernel_rfl) (by kernel_rfl) rfl (Gv.load1 rfl (by (repeat first | exact .here | apply At.there)) (by first | rfl | assumption)) ?_) | (refine WA.tv (i := 1) rfl (by kernel_rfl) (by kernel_rfl) rfl (Gv.loadN rfl (by (repeat first | exact .here | apply At.there)) (by rfl) (by rfl)) ?_) | (refine WA.tv (i := 1) rfl (by kernel_rfl) (by kernel_rfl) rfl (Gv.loadG1 rfl (by assumption) rfl) ?_) | (refine WA.tv (i := 1) rfl (by kernel_rfl) (by kernel_rfl) rfl (Gv.loadG0 rfl (by assumption) rfl) ?_) | (refine WA.tv (i := 1) rfl (by kernel_rfl) (by kernel_rfl) rfl (Gv.loadGN rfl (by assumption) rfl) ?_))
      refine WA.tp (i := 4) rfl (by kernel_rfl) (by kernel_rfl) rfl (Gp.indexAddr rfl rfl (by first | assumption | omega | decide) (by first | assumption | omega | decide | (simp only [List.length_cons, List.length_nil]; decide))) ?_
      refine WA.tv (i := 5) rfl (by kernel_rfl) (by kernel_rfl) rfl (Gv.loadG1 (i := 0) rfl hyc rfl) ?_
      (first | (refine WA.tv (i := 7) rfl (by kernel_rfl) (by kernel_rfl) rfl (Gv.load1 rfl (by (repeat first | exact .here | apply At.there)) (by first | rfl | assumption)) ?_) | (refine WA.tv (i := 7) rfl (by kernel_rfl) (by kernel_rfl) rfl (Gv.loadN rfl (by (repeat first | exact .here | apply At.there)) (by rfl) (by rfl)) ?_) | (refine WA.tv (i := 7) rfl (by kernel_rfl) (by kernel_rfl) rfl (Gv.loadG1 rfl (by assumption) rfl) ?_) | (refine WA.tv (i := 7) rfl (by kernel_rfl) (by kernel_rfl) rfl (Gv.loadG0 rfl (by assumption) rfl) ?_) | (refine WA.tv (i := 7) rfl (by kernel_rfl) (by kernel_rfl) rfl (Gv.loadGN rfl (by assumption) rfl) ?_))
      refine WA.tp (i := 10) rfl (by kernel_rfl) (by kernel_rfl) rfl (Gp.indexAddr rfl rfl (by first | assumption | omega | decide) (by first | assumption | omega | decide | (simp only [List.length_cons, List.length_nil]; decide))) ?_
      refine WA.tv (i := 11) rfl (by kernel_rfl) (by kernel_rfl) rfl (Gv.loadG1 (i := 0) rfl hxc rfl) ?_
      refine WA.tp (i := 12) rfl (by kernel_rfl) (by kernel_rfl) rfl (Gp.eqI' rfl rfl hxy) ?_
      refine WA.tp (i := 13) rfl (by kernel_rfl) (by kernel_rfl) rfl (Gp.move rfl) ?_
      refine WA.sp (i := 14) rfl (by kernel_rfl) (by kernel_rfl) rfl ?_
      refine WA.sp (i := 16) rfl (by kernel_rfl) (by kernel_rfl) rfl ?_
      refine WA.sp (i := 17) rfl (by kernel_rfl) (by kernel_rfl) rfl ?_
      refine WA.sp (i := 15) rfl (by kernel_rfl) (by kernel_rfl) rfl ?_
      refine WA.sp (i := 18) rfl (by kernel_rfl) (by kernel_rfl) rfl ?_
      refine WA.sp (i := 19) rfl (by kernel_rfl) (by kernel_rfl) rfl ?_
      refine WA.sp (i := 20) rfl (by kernel_rfl) (by kernel_rfl) rfl ?_
      refine WA.sp (i := 21) rfl (by kernel_rfl) (by kernel_rfl) rfl ?_
      refine WA.sp (i := 22) rfl (by kernel_rfl) (by kernel_rfl) rfl ?_
      refine WA.sp (i := 24) rfl (by kernel_rfl) (by kernel_rfl) rfl ?_
      refine WA.sp (i := 25) rfl (by kernel_rfl) (by kernel_rfl) rfl ?_
      refine WA.sp (i := 23) rfl (by kernel_rfl) (by kernel_rfl) rfl ?_
      refine WA.sp (i := 26) rfl (by kernel_rfl) (by kernel_rfl) rfl ?_
      refine WA.sp (i := 27) rfl (by kernel_rfl) (by kernel_rfl) rfl ?_
      refine WA.sp (i := 28) rfl (by kernel_rfl) (by kernel_rfl) rfl ?_
      refine WA.sp (i := 29) rfl (by kernel_rfl) (by kernel_rfl) rfl ?_
      (first | refine WA.tp (i := 30) rfl (by kernel_rfl) (by kernel_rfl) rfl (Gp.pickT rfl rfl) ?_ | refine WA.tp (i := 30) rfl (by kernel_rfl) (by kernel_rfl) rfl (Gp.pickF rfl rfl) ?_)
      refine WA.tp (i := 31) rfl (by kernel_rfl) (by kernel_rfl) rfl (Gp.assign rfl) ?_
      refine WA.done (by kernel_rfl) ?_
      refine WK.un ?_
      refine gom ?_
      refine WC.ret ?_
      refine WK.un ?_
      exact QF.p1 (.inl rfl) rfl (.tmp rfl) (⟨rfl, rfl, rfl⟩)
    | true =>
    cases hx1 : (x == 1) with
    | true =>
      refine go ?_
      refine WC.draw mixed ?_
      refine WA.tp (i := 0) rfl (by kernel_rfl) (by kernel_rfl) rfl (Gp.fieldAddr rfl) ?_
      refine WA.tp (i := 2) rfl (by kernel_rfl) (by kernel_rfl) rfl (Gp.move rfl) ?_
      refine WA.tp (i := 3) rfl (by kernel_rfl) (by kernel_rfl) rfl (Gp.sub' rfl rfl z4) ?_
      refine WA.tp (i := 6) rfl (by kernel_rfl) (by kernel_rfl) rfl (Gp.fieldAddr rfl) ?_
      refine WA.tp (i := 8) rfl (by kernel_rfl) (by kernel_rfl) rfl (Gp.move rfl) ?_
      refine WA.tp (i := 9) rfl (by kernel_rfl) (by kernel_rfl) rfl (Gp.sub' rfl rfl z1) ?_
      (first | (refine WA.tv (i := 1) rfl (by kernel_rfl) (by kernel_rfl) rfl (Gv.load1 rfl (by (repeat first | exact .here | apply At.there)) (by first | rfl | assumption)) ?_) | (refine WA.tv (i := 1) rfl (by kernel_rfl) (by kernel_rfl) rfl (Gv.loadN rfl (by (repeat first | exact .here | apply At.there)) (by rfl) (by rfl)) ?_) | (refine WA.tv (i := 1) rfl (by kernel_rfl) (by kernel_rfl) rfl (Gv.loadG1 rfl (by assumption) rfl) ?_) | (refine WA.tv (i := 1) rfl (by kernel_rfl) (by kernel_rfl) rfl (Gv.loadG0 rfl (by assumption) rfl) ?_) | (refine WA.tv (i := 1) rfl (by kernel_rfl) (by kernel_rfl) rfl (Gv.loadGN rfl (by assumption) rfl) ?_))
      refine WA.tp (i := 4) rfl (by kernel_rfl) (by kernel_rfl) rfl (Gp.indexAddr rfl rfl (by first | assumption | omega | decide) (by first | assumption | omega | decide | (simp only [List.length_cons, List.length_nil]; decide))) ?_
      refine WA.tv (i := 5) rfl (by kernel_rfl) (by kernel_rfl) rfl (Gv.loadG1 (i := 0) rfl hyc rfl) ?_
      (first | (refine WA.tv (i := 7) rfl (by kernel_rfl) (by kernel_rfl) rfl (Gv.load1 rfl (by (repeat first | exact .here | apply At.there)) (by first | rfl | assumption)) ?_) | (refine WA.tv (i := 7) rfl (by kernel_rfl) (by kernel_rfl) rfl (Gv.loadN rfl (by (repeat first | exact .here | apply At.there)) (by rfl) (by rfl)) ?_) | (refine WA.tv (i := 7) rfl (by kernel_rfl) (by kernel_rfl) rfl (Gv.loadG1 rfl (by assumption) rfl) ?_) | (refine WA.tv (i := 7) rfl (by kernel_rfl) (by kernel_rfl) rfl (Gv.loadG0 rfl (by assumption) rfl) ?_) | (refine WA.tv (i := 7) rfl (by kernel_rfl) (by kernel_rfl) rfl (Gv.loadGN rfl (by assumption) rfl) ?_))
      refine WA.tp (i := 10) rfl (by kernel_rfl) (by kernel_rfl) rfl (Gp.indexAddr rfl rfl (by first | assumption | omega | decide) (by first | assumption | omega | decide | (simp only [List.length_cons, List.length_nil]; decide))) ?_
      refine WA.tv (i := 11) rfl (by kernel_rfl) (by kernel_rfl) rfl (Gv.loadG1 (i := 0) rfl hxc rfl) ?_
      refine WA.tp (i := 12) rfl (by kernel_rfl) (by kernel_rfl) rfl (Gp.eqI' rfl rfl hxy) ?_
      refine WA.tp (i := 13) rfl (by kernel_rfl) (by kernel_rfl) rfl (Gp.move rfl) ?_
      refine WA.tp (i := 14) rfl (by kernel_rfl) (by kernel_rfl) rfl (Gp.fieldAddr rfl) ?_
      refine WA.tp (i := 16) rfl (by kernel_rfl) (by kernel_rfl) rfl (Gp.move rfl) ?_
      refine WA.tp (i := 17) rfl (by kernel_rfl) (by kernel_rfl) rfl (Gp.sub' rfl rfl z1) ?_
      (first | (refine WA.tv (i := 15) rfl (by kernel_rfl) (by kernel_rfl) rfl (Gv.load1 rfl (by (repeat first | exact .here | apply At.there)) (by first | rfl | assumption)) ?_) | (refine WA.tv (i := 15) rfl (by kernel_rfl) (by kernel_rfl) rfl (Gv.loadN rfl (by (repeat first | exact .here | apply At.there)) (by rfl) (by rfl)) ?_) | (refine WA.tv (i := 15) rfl (by kernel_rfl) (by kernel_rfl) rfl (Gv.loadG1 rfl (by assumption) rfl) ?_) | (refine WA.tv (i := 15) rfl (by kernel_rfl) (by kernel_rfl) rfl (Gv.loadG0 rfl (by assumption) rfl) ?_) | (refine WA.tv (i := 15) rfl (by kernel_rfl) (by kernel_rfl) rfl (Gv.loadGN rfl (by assumption) rfl) ?_))
      refine WA.tp (i := 18) rfl (by kernel_rfl) (by kernel_rfl) rfl (Gp.indexAddr rfl rfl (by first | assumption | omega | decide) (by first | assumption | omega | decide | (simp only [List.length_cons, List.length_nil]; decide))) ?_
      refine WA.tv (i := 19) rfl (by kernel_rfl) (by kernel_rfl) rfl (Gv.loadG1 (i := 0) rfl hxc rfl) ?_
      refine WA.tp (i := 20) rfl (by kernel_rfl) (by kernel_rfl) rfl (Gp.eqI' rfl rfl hx1) ?_
      refine WA.tp (i := 21) rfl (by kernel_rfl) (by kernel_rfl) rfl (Gp.move rfl) ?_
      refine WA.sp (i := 22) rfl (by kernel_rfl) (by kernel_rfl) rfl ?_
      refine WA.sp (i := 24) rfl (by kernel_rfl) (by kernel_rfl) rfl ?_
      refine WA.sp (i := 25) rfl (by kernel_rfl) (by kernel_rfl) rfl ?_
      refine WA.sp (i := 23) rfl (by kernel_rfl) (by kernel_rfl) rfl ?_
      refine WA.sp (i := 26) rfl (by kernel_rfl) (by kernel_rfl) rfl ?_
      refine WA.sp (i := 27) rfl (by kernel_rfl) (by kernel_rfl) rfl ?_
      refine WA.sp (i := 28) rfl (by kernel_rfl) (by kernel_rfl) rfl ?_
      (first | refine WA.tp (i := 29) rfl (by kernel_rfl) (by kernel_rfl) rfl (Gp.pickT rfl rfl) ?_ | refine WA.tp (i := 29) rfl (by kernel_rfl) (by kernel_rfl) rfl (Gp.pickF rfl rfl) ?_)
      (first | refine WA.tp (i := 30) rfl (by kernel_rfl) (by kernel_rfl) rfl (Gp.pickT rfl rfl) ?_ | refine WA.tp (i := 30) rfl (by kernel_rfl) (by kernel_rfl) rfl (Gp.pickF rfl rfl) ?_)
      refine WA.tp (i := 31) rfl (by kernel_rfl) (by kernel_rfl) rfl (Gp.assign rfl) ?_
      refine WA.done (by kernel_rfl) ?_
      refine WK.un ?_
      refine gom ?_
      refine WC.ret ?_
      refine WK.un ?_
      exact QF.p1 (.inl rfl) rfl (.tmp rfl) (⟨rfl, rfl, rfl⟩)
    | false =>
      refine go ?_
      refine WC.draw mixed ?_
      refine WA.tp (i := 0) rfl (by kernel_rfl) (by kernel_rfl) rfl (Gp.fieldAddr rfl) ?_
      refine WA.tp (i := 2) rfl (by kernel_rfl) (by kernel_rfl) rfl (Gp.move rfl) ?_
      refine WA.tp (i := 3) rfl (by kernel_rfl) (by kernel_rfl) rfl (Gp.sub' rfl rfl z4) ?_
      refine WA.tp (i := 6) rfl (by kernel_rfl) (by kernel_rfl) rfl (Gp.fieldAddr rfl) ?_
      refine WA.tp (i := 8) rfl (by kernel_rfl) (by kernel_rfl) rfl (Gp.move rfl) ?_
      refine WA.tp (i := 9) rfl (by kernel_rfl) (by kernel_rfl) rfl (Gp.sub' rfl rfl z1) ?_
      (first | (refine WA.tv (i := 1) rfl (by kernel_rfl) (by kernel_rfl) rfl (Gv.load1 rfl (by (repeat first | exact .here | apply At.there)) (by first | rfl | assumption)) ?_) | (refine WA.tv (i := 1) rfl (by kernel_rfl) (by kernel_rfl) rfl (Gv.loadN rfl (by (repeat first | exact .here | apply At.there)) (by rfl) (by rfl)) ?_) | (refine WA.tv (i := 1) rfl (by kernel_rfl) (by kernel_rfl) rfl (Gv.loadG1 rfl (by assumption) rfl) ?_) | (refine WA.tv (i := 1) rfl (by kernel_rfl) (by kernel_rfl) rfl (Gv.loadG0 rfl (by assumption) rfl) ?_) | (refine WA.tv (i := 1) rfl (by kernel_rfl) (by kernel_rfl) rfl (Gv.loadGN rfl (by assumption) rfl) ?_))
      refine WA.tp (i := 4) rfl (by kernel_rfl) (by kernel_rfl) rfl (Gp.indexAddr rfl rfl (by first | assumption | omega | decide) (by first | assumption | omega | decide | (simp only [List.length_cons, List.length_nil]; decide))) ?_
      refine WA.tv (i := 5) rfl (by kernel_rfl) (by kernel_rfl) rfl (Gv.loadG1 (i := 0) rfl hyc rfl) ?_
      (first | (refine WA.tv (i := 7) rfl (by kernel_rfl) (by kernel_rfl) rfl (Gv.load1 rfl (by (repeat first | exact .here | apply At.there)) (by first | rfl | assumption)) ?_) | (refine WA.tv (i := 7) rfl (by kernel_rfl) (by kernel_rfl) rfl (Gv.loadN rfl (by (repeat first | exact .here | apply At.there)) (by rfl) (by rfl)) ?_) | (refine WA.tv (i := 7) rfl (by kernel_rfl) (by kernel_rfl) rfl (Gv.loadG1 rfl (by assumption) rfl) ?_) | (refine WA.tv (i := 7) rfl (by kernel_rfl) (by kernel_rfl) rfl (Gv.loadG0 rfl (by assumption) rfl) ?_) | (refine WA.tv (i := 7) rfl (by kernel_rfl) (by kernel_rfl) rfl (Gv.loadGN rfl (by assumption) rfl) ?_))
      refine WA.tp (i := 10) rfl (by kernel_rfl) (by kernel_rfl) rfl (Gp.indexAddr rfl rfl (by first | assumption | omega | decide) (by first | assumption | omega | decide | (simp only [List.length_cons, List.length_nil]; decide))) ?_
      refine WA.tv (i := 11) rfl (by kernel_rfl) (by kernel_rfl) rfl (Gv.loadG1 (i := 0) rfl hxc rfl) ?_
      refine WA.tp (i := 12) rfl (by kernel_rfl) (by kernel_rfl) rfl (Gp.eqI' rfl rfl hxy) ?_
      refine WA.tp (i := 13) rfl (by kernel_rfl) (by kernel_rfl) rfl (Gp.move rfl) ?_
      refine WA.tp (i := 14) rfl (by kernel_rfl) (by kernel_rfl) rfl (Gp.fieldAddr rfl) ?_
      refine WA.tp (i := 16) rfl (by kernel_rfl) (by kernel_rfl) rfl (Gp.move rfl) ?_
      refine WA.tp (i := 17) rfl (by kernel_rfl) (by kernel_rfl) rfl (Gp.sub' rfl rfl z1) ?_
      (first | (refine WA.tv (i := 15) rfl (by kernel_rfl) (by kernel_rfl) rfl (Gv.load1 rfl (by (repeat first | exact .here | apply At.there)) (by first | rfl | assumption)) ?_) | (refine WA.tv (i := 15) rfl (by kernel_rfl) (by kernel_rfl) rfl (Gv.loadN rfl (by (repeat first | exact .here | apply At.there)) (by rfl) (by rfl)) ?_) | (refine WA.tv (i := 15) rfl (by kernel_rfl) (by kernel_rfl) rfl (Gv.loadG1 rfl (by assumption) rfl) ?_) | (refine WA.tv (i := 15) rfl (by kernel_rfl) (by kernel_rfl) rfl (Gv.loadG0 rfl (by assumption) rfl) ?_) | (refine WA.tv (i := 15) rfl (by kernel_rfl) (by kernel_rfl) rfl (Gv.loadGN rfl (by assumption) rfl) ?_))
      refine WA.tp (i := 18) rfl (by kernel_rfl) (by kernel_rfl) rfl (Gp.indexAddr rfl rfl (by first | assumption | omega | decide) (by first | assumption | omega | decide | (simp only [List.length_cons, List.length_nil]; decide))) ?_
      refine WA.tv (i := 19) rfl (by kernel_rfl) (by kernel_rfl) rfl (Gv.loadG1 (i := 0) rfl hxc rfl) ?_
      refine WA.tp (i := 20) rfl (by kernel_rfl) (by kernel_rfl) rfl (Gp.eqI' rfl rfl hx1) ?_
      refine WA.tp (i := 21) rfl (by kernel_rfl) (by kernel_rfl) rfl (Gp.move rfl) ?_
      refine WA.tp (i := 22) rfl (by kernel_rfl) (by kernel_rfl) rfl (Gp.fieldAddr rfl) ?_
      refine WA.tp (i := 24) rfl (by kernel_rfl) (by kernel_rfl) rfl (Gp.move rfl) ?_
      refine WA.tp (i := 25) rfl (by kernel_rfl) (by kernel_rfl) rfl (Gp.sub' rfl rfl z1) ?_
      (first | (refine WA.tv (i := 23) rfl (by kernel_rfl) (by kernel_rfl) rfl (Gv.load1 rfl (by (repeat first | exact .here | apply At.there)) (by first | rfl | assumption)) ?_) | (refine WA.tv (i := 23) rfl (by kernel_rfl) (by kernel_rfl) rfl (Gv.loadN rfl (by (repeat first | exact .here | apply At.there)) (by rfl) (by rfl)) ?_) | (refine WA.tv (i := 23) rfl (by kernel_rfl) (by kernel_rfl) rfl (Gv.loadG1 rfl (by assumption) rfl) ?_) | (refine WA.tv (i := 23) rfl (by kernel_rfl) (by kernel_rfl) rfl (Gv.loadG0 rfl (by assumption) rfl) ?_) | (refine WA.tv (i := 23) rfl (by kernel_rfl) (by kernel_rfl) rfl (Gv.loadGN rfl (by assumption) rfl) ?_))
      refine WA.tp (i := 26) rfl (by kernel_rfl) (by kernel_rfl) rfl (Gp.indexAddr rfl rfl (by first | assumption | omega | decide) (by first | assumption | omega | decide | (simp only [List.length_cons, List.length_nil]; decide))) ?_
      refine WA.tv (i := 27) rfl (by kernel_rfl) (by kernel_rfl) rfl (Gv.loadG1 (i := 0) rfl hxc rfl) ?_
      (first | refine WA.tp (i := 28) rfl (by kernel_rfl) (by kernel_rfl) rfl (Gp.eqI rfl rfl) ?_ | refine WA.tp (i := 28) rfl (by kernel_rfl) (by kernel_rfl) rfl (Gp.eqS rfl rfl) ?_ | refine WA.tp (i := 28) rfl (by kernel_rfl) (by kernel_rfl) rfl (Gp.nilSl rfl) ?_ | refine WA.tp (i := 28) rfl (by kernel_rfl) (by kernel_rfl) rfl (Gp.eqB rfl rfl) ?_)
      (first | refine WA.tp (i := 29) rfl (by kernel_rfl) (by kernel_rfl) rfl (Gp.pickT rfl rfl) ?_ | refine WA.tp (i := 29) rfl (by kernel_rfl) (by kernel_rfl) rfl (Gp.pickF rfl rfl) ?_)
      (first | refine WA.tp (i := 30) rfl (by kernel_rfl) (by kernel_rfl) rfl (Gp.pickT rfl rfl) ?_ | refine WA.tp (i := 30) rfl (by kernel_rfl) (by kernel_rfl) rfl (Gp.pickF rfl rfl) ?_)
      refine WA.tp (i := 31) rfl (by kernel_rfl) (by kernel_rfl) rfl (Gp.assign rfl) ?_
      refine WA.done (by kernel_rfl) ?_
      refine WK.un ?_
      refine gom ?_
      refine WC.ret ?_
      refine WK.un ?_
      exact QF.p1 (.inl rfl) rfl (.tmp rfl) (⟨rfl, rfl, rfl⟩)
  have y14 : (c == 14) = false := by simpa using c14
  by_cases c15 : c = 15
  · subst c15
    have htk1 : 2 ≤ sk.length := htk
    obtain ⟨x, hx⟩ : ∃ x, sk[sk.length - 1]? = some x := ⟨_, List.getElem?_eq_getElem (by omega)⟩
    obtain ⟨xb, xo, rfl, hxc⟩ := hS.stack.at hx
    have z1 : IntKind.i64.wrap ((sk.length : Int) - 1) = ((sk.length - 1 : Nat) : Int) := by rw [wrapI (by omega) (by omega)]; omega
    have z2 : (0 : Int) ≤ ((sk.length - 1 : Nat) : Int) := by omega
    have z3 : ((sk.length - 1 : Nat) : Int) < (sk.length : Int) := by omega
    obtain ⟨y, hy⟩ : ∃ y, sk[sk.length - 2]? = some y := ⟨_, List.getElem?_eq_getElem (by omega)⟩
    obtain ⟨yb, yo, hye, hyc⟩ := hS.stack.at hy
    cases hye
    have z4 : IntKind.i64.wrap ((sk.length : Int) - 2) = ((sk.length - 2 : Nat) : Int) := by rw [wrapI (by omega) (by omega)]; omega
    have z5 : (0 : Int) ≤ ((sk.length - 2 : Nat) : Int) := by omega
    have z6 : ((sk.length - 2 : Nat) : Int) < (sk.length : Int) := by omega
    have he : kindsR w p ((15 : Int), (n : Int)) ⟨sr, su, sv, sk⟩ (sk.drop (sk.length - (effC w sv ((15 : Int), (n : Int))).1)) = (y == x && (x == 1 || x == 3)) := by
      rw [show (effC w sv ((15 : Int), (n : Int))).1 = 2 from rfl, drop_two htk1 hy hx]; unfold kindsR; exact kinds_rel x y
    rw [he]
    cases hxy : (y == x) with
    | false =>
      refine go ?_
      refine WC.draw mixed ?_
      refine WA.tp (i := 0) rfl (by kernel_rfl) (by kernel_rfl) rfl (Gp.fieldAddr rfl) ?_
      refine WA.tp (i := 2) rfl (by kernel_rfl) (by kernel_rfl) rfl (Gp.move rfl) ?_
      refine WA.tp (i := 3) rfl (by kernel_rfl) (by kernel_rfl) rfl (Gp.sub' rfl rfl z4) ?_
      refine WA.tp (i := 6) rfl (by kernel_rfl) (by kernel_rfl) rfl (Gp.fieldAddr rfl) ?_
      refine WA.tp (i := 8) rfl (by kernel_rfl) (by kernel_rfl) rfl (Gp.move rfl) ?_
      refine WA.tp (i := 9) rfl (by kernel_rfl) (by kernel_rfl) rfl (Gp.sub' rfl rfl z1) ?_
      (first | (refine WA.tv (i := 1) rfl (by kernel_rfl) (by kernel_rfl) rfl (Gv.load1 rfl (by (repeat first | exact .here | apply At.there)) (by first | rfl | assumption)) ?_) | (refine WA.tv (i := 1) rfl (by kernel_rfl) (by kernel_rfl) rfl (Gv.loadN rfl (by (repeat first | exact .here | apply At.there)) (by rfl) (by rfl)) ?_) | (refine WA.tv (i := 1) rfl (by kernel_rfl) (by kernel_rfl) rfl (Gv.loadG1 rfl (by assumption) rfl) ?_) | (refine WA.tv (i := 1) rfl (by kernel_rfl) (by kernel_rfl) rfl (Gv.loadG0 rfl (by assumption) rfl) ?_) | (refine WA.tv (i := 1) rfl (by kernel_rfl) (by kernel_rfl) rfl (Gv.loadGN rfl (by assumption) rfl) ?_))
      refine WA.tp (i := 4) rfl (by kernel_rfl) (by kernel_rfl) rfl (Gp.indexAddr rfl rfl (by first | assumption | omega | decide) (by first | assumption | omega | decide | (simp only [List.length_cons, List.length_nil]; decide))) ?_
      refine WA.tv (i := 5) rfl (by kernel_rfl) (by kernel_rfl) rfl (Gv.loadG1 (i := 0) rfl hyc rfl) ?_
      (first | (refine WA.tv (i := 7) rfl (by kernel_rfl) (by kernel_rfl) rfl (Gv.load1 rfl (by (repeat first | exact .here | apply At.there)) (by first | rfl | assumption)) ?_) | (refine WA.tv (i := 7) rfl (by kernel_rfl) (by kernel_rfl) rfl (Gv.loadN rfl (by (repeat first | exact .here | apply At.there)) (by rfl) (by rfl)) ?_) | (refine WA.tv (i := 7) rfl (by kernel_rfl) (by kernel_rfl) rfl (Gv.loadG1 rfl (by assumption) rfl) ?_) | (refine WA.tv (i := 7) rfl (by kernel_rfl) (by kernel_rfl) rfl (Gv.loadG0 rfl (by assumption) rfl) ?_) | (refine WA.tv (i := 7) rfl (by kernel_rfl) (by kernel_rfl) rfl (Gv.loadGN rfl (by assumption) rfl) ?_))
      refine WA.tp (i := 10) rfl (by kernel_rfl) (by kernel_rfl) rfl (Gp.indexAddr rfl rfl (by first | assumption | omega | decide) (by first | assumption | omega | decide | (simp only [List.length_cons, List.length_nil]; decide))) ?_
      refine WA.tv (i := 11) rfl (by kernel_rfl) (by kernel_rfl) rfl (Gv.loadG1 (i := 0) rfl hxc rfl) ?_
      refine WA.tp (i := 12) rfl (by kernel_rfl) (by kernel_rfl) rfl (Gp.eqI' rfl rfl hxy) ?_
      refine WA.tp (i := 13) rfl (by kernel_rfl) (by kernel_rfl) rfl (Gp.move rfl) ?_
      refine WA.sp (i := 14) rfl (by kernel_rfl) (by kernel_rfl) rfl ?_
      refine WA.sp (i := 16) rfl (by kernel_rfl) (by kernel_rfl) rfl ?_
      refine WA.sp (i := 17) rfl (by kernel_rfl) (by kernel_rfl) rfl ?_
      refine WA.sp (i := 15) rfl (by kernel_rfl) (by kernel_rfl) rfl ?_
      refine WA.sp (i := 18) rfl (by kernel_rfl) (by kernel_rfl) rfl ?_
      refine WA.sp (i := 19) rfl (by kernel_rfl) (by kernel_rfl) rfl ?_
      refine WA.sp (i := 20) rfl (by kernel_rfl) (by kernel_rfl) rfl ?_
      refine WA.sp (i := 21) rfl (by kernel_rfl) (by kernel_rfl) rfl ?_
      refine WA.sp (i := 22) rfl (by kernel_rfl) (by kernel_rfl) rfl ?_
      refine WA.sp (i := 24) rfl (by kernel_rfl) (by kernel_rfl) rfl ?_
      refine WA.sp (i := 25) rfl (by kernel_rfl) (by kernel_rfl) rfl ?_
      refine WA.sp (i := 23) rfl (by kernel_rfl) (by kernel_rfl) rfl ?_
      refine WA.sp (i := 26) rfl (by kernel_rfl) (by kernel_rfl) rfl ?_
      refine WA.sp (i := 27) rfl (by kernel_rfl) (by kernel_rfl) rfl ?_
      refine WA.sp (i := 28) rfl (by kernel_rfl) (by kernel_rfl) rfl ?_
      refine WA.sp (i := 29) rfl (by kernel_rfl) (by kernel_rfl) rfl ?_
      (first | refine WA.tp (i := 30) rfl (by kernel_rfl) (by kernel_rfl) rfl (Gp.pickT rfl rfl) ?_ | refine WA.tp (i := 30) rfl (by kernel_rfl) (by kernel_rfl) rfl (Gp.pickF rfl rfl) ?_)
      refine WA.tp (i := 31) rfl (by kernel_rfl) (by kernel_rfl) rfl (Gp.assign rfl) ?_
      refine WA.done (by kernel_rfl) ?_
      refine WK.un ?_
      refine gom ?_
      refine WC.ret ?_
      refine WK.un ?_
      exact QF.p1 (.inl rfl) rfl (.tmp rfl) (⟨rfl, rfl, rfl⟩)
    | true =>
    cases hx1 : (x == 1) with
    | true =>
      refine go ?_
      refine WC.draw mixed ?_
      refine WA.tp (i := 0) rfl (by kernel_rfl) (by kernel_rfl) rfl (Gp.fieldAddr rfl) ?_
      refine WA.tp (i := 2) rfl (by kernel_rfl) (by kernel_rfl) rfl (Gp.move rfl) ?_
      refine WA.tp (i := 3) rfl (by kernel_rfl) (by kernel_rfl) rfl (Gp.sub' rfl rfl z4) ?_
      refine WA.tp (i := 6) rfl (by kernel_rfl) (by kernel_rfl) rfl (Gp.fieldAddr rfl) ?_
      refine WA.tp (i := 8) rfl (by kernel_rfl) (by kernel_rfl) rfl (Gp.move rfl) ?_
      refine WA.tp (i := 9) rfl (by kernel_rfl) (by kernel_rfl) rfl (Gp.sub' rfl rfl z1) ?_
      (first | (refine WA.tv (i := 1) rfl (by kernel_rfl) (by kernel_rfl) rfl (Gv.load1 rfl (by (repeat first | exact .here | apply At.there)) (by first | rfl | assumption)) ?_) | (refine WA.tv (i := 1) rfl (by kernel_rfl) (by kernel_rfl) rfl (Gv.loadN rfl (by (repeat first | exact .here | apply At.there)) (by rfl) (by rfl)) ?_) | (refine WA.tv (i := 1) rfl (by kernel_rfl) (by kernel_rfl) rfl (Gv.loadG1 rfl (by assumption) rfl) ?_) | (refine WA.tv (i := 1) rfl (by kernel_rfl) (by kernel_rfl) rfl (Gv.loadG0 rfl (by assumption) rfl) ?_) | (refine WA.tv (i := 1) rfl (by kernel_rfl) (by kernel_rfl) rfl (Gv.loadGN rfl (by assumption) rfl) ?_))
      refine WA.tp (i := 4) rfl (by kernel_rfl) (by kernel_rfl) rfl (Gp.indexAddr rfl rfl (by first | assumption | omega | decide) (by first | assumption | omega | decide | (simp only [List.length_cons, List.length_nil]; decide))) ?_
      refine WA.tv (i := 5) rfl (by kernel_rfl) (by kernel_rfl) rfl (Gv.loadG1 (i := 0) rfl hyc rfl) ?_
      (first | (refine WA.tv (i := 7) rfl (by kernel_rfl) (by kernel_rfl) rfl (Gv.load1 rfl (by (repeat first | exact .here | apply At.there)) (by first | rfl | assumption)) ?_) | (refine WA.tv (i := 7) rfl (by kernel_rfl) (by kernel_rfl) rfl (Gv.loadN rfl (by (repeat first | exact .here | apply At.there)) (by rfl) (by rfl)) ?_) | (refine WA.tv (i := 7) rfl (by kernel_rfl) (by kernel_rfl) rfl (Gv.loadG1 rfl (by assumption) rfl) ?_) | (refine WA.tv (i := 7) rfl (by kernel_rfl) (by kernel_rfl) rfl (Gv.loadG0 rfl (by assumption) rfl) ?_) | (refine WA.tv (i := 7) rfl (by kernel_rfl) (by kernel_rfl) rfl (Gv.loadGN rfl (by assumption) rfl) ?_))
      refine WA.tp (i := 10) rfl (by kernel_rfl) (by kernel_rfl) rfl (Gp.indexAddr rfl rfl (by first | assumption | omega | decide) (by first | assumption | omega | decide | (simp only [List.length_cons, List.length_nil]; decide))) ?_
      refine WA.tv (i := 11) rfl (by kernel_rfl) (by kernel_rfl) rfl (Gv.loadG1 (i := 0) rfl hxc rfl) ?_
      refine WA.tp (i := 12) rfl (by kernel_rfl) (by kernel_rfl) rfl (Gp.eqI' rfl rfl hxy) ?_
      refine WA.tp (i := 13) rfl (by kernel_rfl) (by kernel_rfl) rfl (Gp.move rfl) ?_
      refine WA.tp (i := 14) rfl (by kernel_rfl) (by kernel_rfl) rfl (Gp.fieldAddr rfl) ?_
      refine WA.tp (i := 16) rfl (by kernel_rfl) (by kernel_rfl) rfl (Gp.move rfl) ?_
      refine WA.tp (i := 17) rfl (by kernel_rfl) (by kernel_rfl) rfl (Gp.sub' rfl rfl z1) ?_
      (first | (refine WA.tv (i := 15) rfl (by kernel_rfl) (by kernel_rfl) rfl (Gv.load1 rfl (by (repeat first | exact .here | apply At.there)) (by first | rfl | assumption)) ?_) | (refine WA.tv (i := 15) rfl (by kernel_rfl) (by kernel_rfl) rfl (Gv.loadN rfl (by (repeat first | exact .here | apply At.there)) (by rfl) (by rfl)) ?_) | (refine WA.tv (i := 15) rfl (by kernel_rfl) (by kernel_rfl) rfl (Gv.loadG1 rfl (by assumption) rfl) ?_) | (refine WA.tv (i := 15) rfl (by kernel_rfl) (by kernel_rfl) rfl (Gv.loadG0 rfl (by assumption) rfl) ?_) | (refine WA.tv (i := 15) rfl (by kernel_rfl) (by kernel_rfl) rfl (Gv.loadGN rfl (by assumption) rfl) ?_))
      refine WA.tp (i := 18) rfl (by kernel_rfl) (by kernel_rfl) rfl (Gp.indexAddr rfl rfl (by first | assumption | omega | decide) (by first | assumption | omega | decide | (simp only [List.length_cons, List.length_nil]; decide))) ?_
      refine WA.tv (i := 19) rfl (by kernel_rfl) (by kernel_rfl) rfl (Gv.loadG1 (i := 0) rfl hxc rfl) ?_
      refine WA.tp (i := 20) rfl (by kernel_rfl) (by kernel_rfl) rfl (Gp.eqI' rfl rfl hx1) ?_
      refine WA.tp (i := 21) rfl (by kernel_rfl) (by kernel_rfl) rfl (Gp.move rfl) ?_
      refine WA.sp (i := 22) rfl (by kernel_rfl) (by kernel_rfl) rfl ?_
      refine WA.sp (i := 24) rfl (by kernel_rfl) (by kernel_rfl) rfl ?_
      refine WA.sp (i := 25) rfl (by kernel_rfl) (by kernel_rfl) rfl ?_
      refine WA.sp (i := 23) rfl (by kernel_rfl) (by kernel_rfl) rfl ?_
      refine WA.sp (i := 26) rfl (by kernel_rfl) (by kernel_rfl) rfl ?_
      refine WA.sp (i := 27) rfl (by kernel_rfl) (by kernel_rfl) rfl ?_
      refine WA.sp (i := 28) rfl (by kernel_rfl) (by kernel_rfl) rfl ?_
      (first | refine WA.tp (i := 29) rfl (by kernel_rfl) (by kernel_rfl) rfl (Gp.pickT rfl rfl) ?_ | refine WA.tp (i := 29) rfl (by kernel_rfl) (by kernel_rfl) rfl (Gp.pickF rfl rfl) ?_)
      (first | refine WA.tp (i := 30) rfl (by kernel_rfl) (by kernel_rfl) rfl (Gp.pickT rfl rfl) ?_ | refine WA.tp (i := 30) rfl (by kernel_rfl) (by kernel_rfl) rfl (Gp.pickF rfl rfl) ?_)
      refine WA.tp (i := 31) rfl (by kernel_rfl) (by kernel_rfl) rfl (Gp.assign rfl) ?_
      refine WA.done (by kernel_rfl) ?_
      refine WK.un ?_
      refine gom ?_
      refine WC.ret ?_
      refine WK.un ?_
      exact QF.p1 (.inl rfl) rfl (.tmp rfl) (⟨rfl, rfl, rfl⟩)
    | false =>
      refine go ?_
      refine WC.draw mixed ?_
      refine WA.tp (i := 0) rfl (by kernel_rfl) (by kernel_rfl) rfl (Gp.fieldAddr rfl) ?_
      refine WA.tp (i := 2) rfl (by kernel_rfl) (by kernel_rfl) rfl (Gp.move rfl) ?_
      refine WA.tp (i := 3) rfl (by kernel_rfl) (by kernel_rfl) rfl (Gp.sub' rfl rfl z4) ?_
      refine WA.tp (i := 6) rfl (by kernel_rfl) (by kernel_rfl) rfl (Gp.fieldAddr rfl) ?_
      refine WA.tp (i := 8) rfl (by kernel_rfl) (by kernel_rfl) rfl (Gp.move rfl) ?_
      refine WA.tp (i := 9) rfl (by kernel_rfl) (by kernel_rfl) rfl (Gp.sub' rfl rfl z1) ?_
      (first | (refine WA.tv (i := 1) rfl (by kernel_rfl) (by kernel_rfl) rfl (Gv.load1 rfl (by (repeat first | exact .here | apply At.there)) (by first | rfl | assumption)) ?_) | (refine WA.tv (i := 1) rfl (by kernel_rfl) (by kernel_rfl) rfl (Gv.loadN rfl (by (repeat first | exact .here | apply At.there)) (by rfl) (by rfl)) ?_) | (refine WA.tv (i := 1) rfl (by kernel_rfl) (by kernel_rfl) rfl (Gv.loadG1 rfl (by assumption) rfl) ?_) | (refine WA.tv (i := 1) rfl (by kernel_rfl) (by kernel_rfl) rfl (Gv.loadG0 rfl (by assumption) rfl) ?_) | (refine WA.tv (i := 1) rfl (by kernel_rfl) (by kernel_rfl) rfl (Gv.loadGN rfl (by assumption) rfl) ?_))
      refine WA.tp (i := 4) rfl (by kernel_rfl) (by kernel_rfl) rfl (Gp.indexAddr rfl rfl (by first | assumption | omega | decide) (by first | assumption | omega | decide | (simp only [List.length_cons, List.length_nil]; decide))) ?_
      refine WA.tv (i := 5) rfl (by kernel_rfl) (by kernel_rfl) rfl (Gv.loadG1 (i := 0) rfl hyc rfl) ?_
      (first | (refine WA.tv (i := 7) rfl (by kernel_rfl) (by kernel_rfl) rfl (Gv.load1 rfl (by (repeat first | exact .here | apply At.there)) (by first | rfl | assumption)) ?_) | (refine WA.tv (i := 7) rfl (by kernel_rfl) (by kernel_rfl) rfl (Gv.loadN rfl (by (repeat first | exact .here | apply At.there)) (by rfl) (by rfl)) ?_) | (refine WA.tv (i := 7) rfl (by kernel_rfl) (by kernel_rfl) rfl (Gv.loadG1 rfl (by assumption) rfl) ?_) | (refine WA.tv (i := 7) rfl (by kernel_rfl) (by kernel_rfl) rfl (Gv.loadG0 rfl (by assumption) rfl) ?_) | (refine WA.tv (i := 7) rfl (by kernel_rfl) (by kernel_rfl) rfl (Gv.loadGN rfl (by assumption) rfl) ?_))
      refine WA.tp (i := 10) rfl (by kernel_rfl) (by kernel_rfl) rfl (Gp.indexAddr rfl rfl (by first | assumption | omega | decide) (by first | assumption | omega | decide | (simp only [List.length_cons, List.length_nil]; decide))) ?_
      refine WA.tv (i := 11) rfl (by kernel_rfl) (by kernel_rfl) rfl (Gv.loadG1 (i := 0) rfl hxc rfl) ?_
      refine WA.tp (i := 12) rfl (by kernel_rfl) (by kernel_rfl) rfl (Gp.eqI' rfl rfl hxy) ?_
      refine WA.tp (i := 13) rfl (by kernel_rfl) (by kernel_rfl) rfl (Gp.move rfl) ?_
      refine WA.tp (i := 14) rfl (by kernel_rfl) (by kernel_rfl) rfl (Gp.fieldAddr rfl) ?_
      refine WA.tp (i := 16) rfl (by kernel_rfl) (by kernel_rfl) rfl (Gp.move rfl) ?_
      refine WA.tp (i := 17) rfl (by kernel_rfl) (by kernel_rfl) rfl (Gp.sub' rfl rfl z1) ?_
      (first | (refine WA.tv (i := 15) rfl (by kernel_rfl) (by kernel_rfl) rfl (Gv.load1 rfl (by (repeat first | exact .here | apply At.there)) (by first | rfl | assumption)) ?_) | (refine WA.tv (i := 15) rfl (by kernel_rfl) (by kernel_rfl) rfl (Gv.loadN rfl (by (repeat first | exact .here | apply At.there)) (by rfl) (by rfl)) ?_) | (refine WA.tv (i := 15) rfl (by kernel_rfl) (by kernel_rfl) rfl (Gv.loadG1 rfl (by assumption) rfl) ?_) | (refine WA.tv (i := 15) rfl (by kernel_rfl) (by kernel_rfl) rfl (Gv.loadG0 rfl (by assumption) rfl) ?_) | (refine WA.tv (i := 15) rfl (by kernel_rfl) (by kernel_rfl) rfl (Gv.loadGN rfl (by assumption) rfl) ?_))
      refine WA.tp (i := 18) rfl (by kernel_rfl) (by kernel_rfl) rfl (Gp.indexAddr rfl rfl (by first | assumption | omega | decide) (by first | assumption | omega | decide | (simp only [List.length_cons, List.length_nil]; decide))) ?_
      refine WA.tv (i := 19) rfl (by kernel_rfl) (by kernel_rfl) rfl (Gv.loadG1 (i := 0) rfl hxc rfl) ?_
      refine WA.tp (i := 20) rfl (by kernel_rfl) (by kernel_rfl) rfl (Gp.eqI' rfl rfl hx1) ?_
      refine WA.tp (i := 21) rfl (by kernel_rfl) (by kernel_rfl) rfl (Gp.move rfl) ?_
      refine WA.tp (i := 22) rfl (by kernel_rfl) (by kernel_rfl) rfl (Gp.fieldAddr rfl) ?_
      refine WA.tp (i := 24) rfl (by kernel_rfl) (by kernel_rfl) rfl (Gp.move rfl) ?_
      refine WA.tp (i := 25) rfl (by kernel_rfl) (by kernel_rfl) rfl (Gp.sub' rfl rfl z1) ?_
      (first | (refine WA.tv (i := 23) rfl (by kernel_rfl) (by kernel_rfl) rfl (Gv.load1 rfl (by (repeat first | exact .here | apply At.there)) (by first | rfl | assumption)) ?_) | (refine WA.tv (i := 23) rfl (by kernel_rfl) (by kernel_rfl) rfl (Gv.loadN rfl (by (repeat first | exact .here | apply At.there)) (by rfl) (by rfl)) ?_) | (refine WA.tv (i := 23) rfl (by kernel_rfl) (by kernel_rfl) rfl (Gv.loadG1 rfl (by assumption) rfl) ?_) | (refine WA.tv (i := 23) rfl (by kernel_rfl) (by kernel_rfl) rfl (Gv.loadG0 rfl (by assumption) rfl) ?_) | (refine WA.tv (i := 23) rfl (by kernel_rfl) (by kernel_rfl) rfl (Gv.loadGN rfl (by assumption) rfl) ?_))
      refine WA.tp (i := 26) rfl (by kernel_rfl) (by kernel_rfl) rfl (Gp.indexAddr rfl rfl (by first | assumption | omega | decide) (by first | assumption | omega | decide | (simp only [List.length_cons, List.length_nil]; decide))) ?_
      refine WA.tv (i := 27) rfl (by kernel_rfl) (by kernel_rfl) rfl (Gv.loadG1 (i := 0) rfl hxc rfl) ?_
      (first | refine WA.tp (i := 28) rfl (by kernel_rfl) (by kernel_rfl) rfl (Gp.eqI rfl rfl) ?_ | refine WA.tp (i := 28) rfl (by kernel_rfl) (by kernel_rfl) rfl (Gp.eqS rfl rfl) ?_ | refine WA.tp (i := 28) rfl (by kernel_rfl) (by kernel_rfl) rfl (Gp.nilSl rfl) ?_ | refine WA.tp (i := 28) rfl (by kernel_rfl) (by kernel_rfl) rfl (Gp.eqB rfl rfl) ?_)
      (first | refine WA.tp (i := 29) rfl (by kernel_rfl) (by kernel_rfl) rfl (Gp.pickT rfl rfl) ?_ | refine WA.tp (i := 29) rfl (by kernel_rfl) (by kernel_rfl) rfl (Gp.pickF rfl rfl) ?_)
      (first | refine WA.tp (i := 30) rfl (by kernel_rfl) (by kernel_rfl) rfl (Gp.pickT rfl rfl) ?_ | refine WA.tp (i := 30) rfl (by kernel_rfl) (by kernel_rfl) rfl (Gp.pickF rfl rfl) ?_)
      refine WA.tp (i := 31) rfl (by kernel_rfl) (by kernel_rfl) rfl (Gp.assign rfl) ?_
      refine WA.done (by kernel_rfl) ?_
      refine WK.un ?_
      refine gom ?_
      refine WC.ret ?_
      refine WK.un ?_
      exact QF.p1 (.inl rfl) rfl (.tmp rfl) (⟨rfl, rfl, rfl⟩)
  have y15 : (c == 15) = false := by simpa using c15
  by_cases c16 : c = 16
  · subst c16
    have htk1 : 2 ≤ sk.length := htk
    obtain ⟨x, hx⟩ : ∃ x, sk[sk.length - 1]? = some x := ⟨_, List.getElem?_eq_getElem (by omega)⟩
    obtain ⟨xb, xo, rfl, hxc⟩ := hS.stack.at hx
    have z1 : IntKind.i64.wrap ((sk.length : Int) - 1) = ((sk.length - 1 : Nat) : Int) := by rw [wrapI (by omega) (by omega)]; omega
    have z2 : (0 : Int) ≤ ((sk.length - 1 : Nat) : Int) := by omega
    have z3 : ((sk.length - 1 : Nat) : Int) < (sk.length : Int) := by omega
    obtain ⟨y, hy⟩ : ∃ y, sk[sk.length - 2]? = some y := ⟨_, List.getElem?_eq_getElem (by omega)⟩
    obtain ⟨yb, yo, hye, hyc⟩ := hS.stack.at hy
    cases hye
    have z4 : IntKind.i64.wrap ((sk.length : Int) - 2) = ((sk.length - 2 : Nat) : Int) := by rw [wrapI (by omega) (by omega)]; omega
    have z5 : (0 : Int) ≤ ((sk.length - 2 : Nat) : Int) := by omega
    have z6 : ((sk.length - 2 : Nat) : Int) < (sk.length : Int) := by omega
    have he : kindsR w p ((16 : Int), (n : Int)) ⟨sr, su, sv, sk⟩ (sk.drop (sk.length - (effC w sv ((16 : Int), (n : Int))).1)) = (y == x && (x == 1 || x == 3)) := by
      rw [show (effC w sv ((16 : Int), (n : Int))).1 = 2 from rfl, drop_two htk1 hy hx]; unfold kindsR; exact kinds_rel x y
    rw [he]
    cases hxy : (y == x) with
    | false =>
      refine go ?_
      refine WC.draw mixed ?_
      refine WA.tp (i := 0) rfl (by kernel_rfl) (by kernel_rfl) rfl (Gp.fieldAddr rfl) ?_
      refine WA.tp (i := 2) rfl (by kernel_rfl) (by kernel_rfl) rfl (Gp.move rfl) ?_
      refine WA.tp (i := 3) rfl (by kernel_rfl) (by kernel_rfl) rfl (Gp.sub' rfl rfl z4) ?_
      refine WA.tp (i := 6) rfl (by kernel_rfl) (by kernel_rfl) rfl (Gp.fieldAddr rfl) ?_
      refine WA.tp (i := 8) rfl (by kernel_rfl) (by kernel_rfl) rfl (Gp.move rfl) ?_
      refine WA.tp (i := 9) rfl (by kernel_rfl) (by kernel_rfl) rfl (Gp.sub' rfl rfl z1) ?_
      (first | (refine WA.tv (i := 1) rfl (by kernel_rfl) (by kernel_rfl) rfl (Gv.load1 rfl (by (repeat first | exact .here | apply At.there)) (by first | rfl | assumption)) ?_) | (refine WA.tv (i := 1) rfl (by kernel_rfl) (by kernel_rfl) rfl (Gv.loadN rfl (by (repeat first | exact .here | apply At.there)) (by rfl) (by rfl)) ?_) | (refine WA.tv (i := 1) rfl (by kernel_rfl) (by kernel_rfl) rfl (Gv.loadG1 rfl (by assumption) rfl) ?_) | (refine WA.tv (i := 1) rfl (by kernel_rfl) (by kernel_rfl) rfl (Gv.loadG0 rfl (by assumption) rfl) ?_) | (refine WA.tv (i := 1) rfl (by kernel_rfl) (by kernel_rfl) rfl (Gv.loadGN rfl (by assumption) rfl) ?_))
      refine WA.tp (i := 4) rfl (by kernel_rfl) (by kernel_rfl) rfl (Gp.indexAddr rfl rfl (by first | assumption | omega | decide) (by first | assumption | omega | decide | (simp only [List.length_cons, List.length_nil]; decide))) ?_
      refine WA.tv (i := 5) rfl (by kernel_rfl) (by kernel_rfl) rfl (Gv.loadG1 (i := 0) rfl hyc rfl) ?_
      (first | (refine WA.tv (i := 7) rfl (by kernel_rfl) (by kernel_rfl) rfl (Gv.load1 rfl (by (repeat first | exact .here | apply At.there)) (by first | rfl | assumption)) ?_) | (refine WA.tv (i := 7) rfl (by kernel_rfl) (by kernel_rfl) rfl (Gv.loadN rfl (by (repeat first | exact .here | apply At.there)) (by rfl) (by rfl)) ?_) | (refine WA.tv (i := 7) rfl (by kernel_rfl) (by kernel_rfl) rfl (Gv.loadG1 rfl (by assumption) rfl) ?_) | (refine WA.tv (i := 7) rfl (by kernel_rfl) (by kernel_rfl) rfl (Gv.loadG0 rfl (by assumption) rfl) ?_) | (refine WA.tv (i := 7) rfl (by kernel_rfl) (by kernel_rfl) rfl (Gv.loadGN rfl (by assumption) rfl) ?_))
      refine WA.tp (i := 10) rfl (by kernel_rfl) (by kernel_rfl) rfl (Gp.indexAddr rfl rfl (by first | assumption | omega | decide) (by first | assumption | omega | decide | (simp only [List.length_cons, List.length_nil]; decide))) ?_
      refine WA.tv (i := 11) rfl (by kernel_rfl) (by kernel_rfl) rfl (Gv.loadG1 (i := 0) rfl hxc rfl) ?_
      refine WA.tp (i := 12) rfl (by kernel_rfl) (by kernel_rfl) rfl (Gp.eqI' rfl rfl hxy) ?_
      refine WA.tp (i := 13) rfl (by kernel_rfl) (by kernel_rfl) rfl (Gp.move rfl) ?_
      refine WA.sp (i := 14) rfl (by kernel_rfl) (by kernel_rfl) rfl ?_
      refine WA.sp (i := 16) rfl (by kernel_rfl) (by kernel_rfl) rfl ?_
      refine WA.sp (i := 17) rfl (by kernel_rfl) (by kernel_rfl) rfl ?_
      refine WA.sp (i := 15) rfl (by kernel_rfl) (by kernel_rfl) rfl ?_
      refine WA.sp (i := 18) rfl (by kernel_rfl) (by kernel_rfl) rfl ?_
      refine WA.sp (i := 19) rfl (by kernel_rfl) (by kernel_rfl) rfl ?_
      refine WA.sp (i := 20) rfl (by kernel_rfl) (by kernel_rfl) rfl ?_
      refine WA.sp (i := 21) rfl (by kernel_rfl) (by kernel_rfl) rfl ?_
      refine WA.sp (i := 22) rfl (by kernel_rfl) (by kernel_rfl) rfl ?_
      refine WA.sp (i := 24) rfl (by kernel_rfl) (by kernel_rfl) rfl ?_
      refine WA.sp (i := 25) rfl (by kernel_rfl) (by kernel_rfl) rfl ?_
      refine WA.sp (i := 23) rfl (by kernel_rfl) (by kernel_rfl) rfl ?_
      refine WA.sp (i := 26) rfl (by kernel_rfl) (by kernel_rfl) rfl ?_
      refine WA.sp (i := 27) rfl (by kernel_rfl) (by kernel_rfl) rfl ?_
      refine WA.sp (i := 28) rfl (by kernel_rfl) (by kernel_rfl) rfl ?_
      refine WA.sp (i := 29) rfl (by kernel_rfl) (by kernel_rfl) rfl ?_
      (first | refine WA.tp (i := 30) rfl (by kernel_rfl) (by kernel_rfl) rfl (Gp.pickT rfl rfl) ?_ | refine WA.tp (i := 30) rfl (by kernel_rfl) (by kernel_rfl) rfl (Gp.pickF rfl rfl) ?_)
      refine WA.tp (i := 31) rfl (by kernel_rfl) (by kernel_rfl) rfl (Gp.assign rfl) ?_
      refine WA.done (by kernel_rfl) ?_
      refine WK.un ?_
      refine gom ?_
      refine WC.ret ?_
      refine WK.un ?_
      exact QF.p1 (.inl rfl) rfl (.tmp rfl) (⟨rfl, rfl, rfl⟩)
    | true =>
    cases hx1 : (x == 1) with
    | true =>
      refine go ?_
      refine WC.draw mixed ?_
      refine WA.tp (i := 0) rfl (by kernel_rfl) (by kernel_rfl) rfl (Gp.fieldAddr rfl) ?_
      refine WA.tp (i := 2) rfl (by kernel_rfl) (by kernel_rfl) rfl (Gp.move rfl) ?_
      refine WA.tp (i := 3) rfl (by kernel_rfl) (by kernel_rfl) rfl (Gp.sub' rfl rfl z4) ?_
      refine WA.tp (i := 6) rfl (by kernel_rfl) (by kernel_rfl) rfl (Gp.fieldAddr rfl) ?_
      refine WA.tp (i := 8) rfl (by kernel_rfl) (by kernel_rfl) rfl (Gp.move rfl) ?_
      refine WA.tp (i := 9) rfl (by kernel_rfl) (by kernel_rfl) rfl (Gp.sub' rfl rfl z1) ?_
      (first | (refine WA.tv (i := 1) rfl (by kernel_rfl) (by kernel_rfl) rfl (Gv.load1 rfl (by (repeat first | exact .here | apply At.there)) (by first | rfl | assumption)) ?_) | (refine WA.tv (i := 1) rfl (by kernel_rfl) (by kernel_rfl) rfl (Gv.loadN rfl (by (repeat first | exact .here | apply At.there)) (by rfl) (by rfl)) ?_) | (refine WA.tv (i := 1) rfl (by kernel_rfl) (by kernel_rfl) rfl (Gv.loadG1 rfl (by assumption) rfl) ?_) | (refine WA.tv (i := 1) rfl (by kernel_rfl) (by kernel_rfl) rfl (Gv.loadG0 rfl (by assumption) rfl) ?_) | (refine WA.tv (i := 1) rfl (by kernel_rfl) (by kernel_rfl) rfl (Gv.loadGN rfl (by assumption) rfl) ?_))
      refine WA.tp (i := 4) rfl (by kernel_rfl) (by kernel_rfl) rfl (Gp.indexAddr rfl rfl (by first | assumption | omega | decide) (by first | assumption | omega | decide | (simp only [List.length_cons, List.length_nil]; decide))) ?_
      refine WA.tv (i := 5) rfl (by kernel_rfl) (by kernel_rfl) rfl (Gv.loadG1 (i := 0) rfl hyc rfl) ?_
      (first | (refine WA.tv (i := 7) rfl (by kernel_rfl) (by kernel_rfl) rfl (Gv.load1 rfl (by (repeat first | exact .here | apply At.there)) (by first | rfl | assumption)) ?_) | (refine WA.tv (i := 7) rfl (by kernel_rfl) (by kernel_rfl) rfl (Gv.loadN rfl (by (repeat first | exact .here | apply At.there)) (by rfl) (by rfl)) ?_) | (refine WA.tv (i := 7) rfl (by kernel_rfl) (by kernel_rfl) rfl (Gv.loadG1 rfl (by assumption) rfl) ?_) | (refine WA.tv (i := 7) rfl (by kernel_rfl) (by kernel_rfl) rfl (Gv.loadG0 rfl (by assumption) rfl) ?_) | (refine WA.tv (i := 7) rfl (by kernel_rfl) (by kernel_rfl) rfl (Gv.loadGN rfl (by assumption) rfl) ?_))
      refine WA.tp (i := 10) rfl (by kernel_rfl) (by kernel_rfl) rfl (Gp.indexAddr rfl rfl (by first | assumption | omega | decide) (by first | assumption | omega | decide | (simp only [List.length_cons, List.length_nil]; decide))) ?_
      refine WA.tv (i := 11) rfl (by kernel_rfl) (by kernel_rfl) rfl (Gv.loadG1 (i := 0) rfl hxc rfl) ?_
      refine WA.tp (i := 12) rfl (by kernel_rfl) (by kernel_rfl) rfl (Gp.eqI' rfl rfl hxy) ?_
      refine WA.tp (i := 13) rfl (by kernel_rfl) (by kernel_rfl) rfl (Gp.move rfl) ?_
      refine WA.tp (i := 14) rfl (by kernel_rfl) (by kernel_rfl) rfl (Gp.fieldAddr rfl) ?_
      refine WA.tp (i := 16) rfl (by kernel_rfl) (by kernel_rfl) rfl (Gp.move rfl) ?_
      refine WA.tp (i := 17) rfl (by kernel_rfl) (by kernel_rfl) rfl (Gp.sub' rfl rfl z1) ?_
      (first | (refine WA.tv (i := 15) rfl (by kernel_rfl) (by kernel_rfl) rfl (Gv.load1 rfl (by (repeat first | exact .here | apply At.there)) (by first | rfl | assumption)) ?_) | (refine WA.tv (i := 15) rfl (by kernel_rfl) (by kernel_rfl) rfl (Gv.loadN rfl (by (repeat first | exact .here | apply At.there)) (by rfl) (by rfl)) ?_) | (refine WA.tv (i := 15) rfl (by kernel_rfl) (by kernel_rfl) rfl (Gv.loadG1 rfl (by assumption) rfl) ?_) | (refine WA.tv (i := 15) rfl (by kernel_rfl) (by kernel_rfl) rfl (Gv.loadG0 rfl (by assumption) rfl) ?_) | (refine WA.tv (i := 15) rfl (by kernel_rfl) (by kernel_rfl) rfl (Gv.loadGN rfl (by assumption) rfl) ?_))
      refine WA.tp (i := 18) rfl (by kernel_rfl) (by kernel_rfl) rfl (Gp.indexAddr rfl rfl (by first | assumption | omega | decide) (by first | assumption | omega | decide | (simp only [List.length_cons, List.length_nil]; decide))) ?_
      refine WA.tv (i := 19) rfl (by kernel_rfl) (by kernel_rfl) rfl (Gv.loadG1 (i := 0) rfl hxc rfl) ?_
      refine WA.tp (i := 20) rfl (by kernel_rfl) (by kernel_rfl) rfl (Gp.eqI' rfl rfl hx1) ?_
      refine WA.tp (i := 21) rfl (by kernel_rfl) (by kernel_rfl) rfl (Gp.move rfl) ?_
      refine WA.sp (i := 22) rfl (by kernel_rfl) (by kernel_rfl) rfl ?_
      refine WA.sp (i := 24) rfl (by kernel_rfl) (by kernel_rfl) rfl ?_
      refine WA.sp (i := 25) rfl (by kernel_rfl) (by kernel_rfl) rfl ?_
      refine WA.sp (i := 23) rfl (by kernel_rfl) (by kernel_rfl) rfl ?_
      refine WA.sp (i := 26) rfl (by kernel_rfl) (by kernel_rfl) rfl ?_
      refine WA.sp (i := 27) rfl (by kernel_rfl) (by kernel_rfl) rfl ?_
      refine WA.sp (i := 28) rfl (by kernel_rfl) (by kernel_rfl) rfl ?_
      (first | refine WA.tp (i := 29) rfl (by kernel_rfl) (by kernel_rfl) rfl (Gp.pickT rfl rfl) ?_ | refine WA.tp (i := 29) rfl (by kernel_rfl) (by kernel_rfl) rfl (Gp.pickF rfl rfl) ?_)
      (first | refine WA.tp (i := 30) rfl (by kernel_rfl) (by kernel_rfl) rfl (Gp.pickT rfl rfl) ?_ | refine WA.tp (i := 30) rfl (by kernel_rfl) (by kernel_rfl) rfl (Gp.pickF rfl rfl) ?_)
      refine WA.tp (i := 31) rfl (by kernel_rfl) (by kernel_rfl) rfl (Gp.assign rfl) ?_
      refine WA.done (by kernel_rfl) ?_
      refine WK.un ?_
      refine gom ?_
      refine WC.ret ?_
      refine WK.un ?_
      exact QF.p1 (.inl rfl) rfl (.tmp rfl) (⟨rfl, rfl, rfl⟩)
    | false =>
      refine go ?_
      refine WC.draw mixed ?_
      refine WA.tp (i := 0) rfl (by kernel_rfl) (by kernel_rfl) rfl (Gp.fieldAddr rfl) ?_
      refine WA.tp (i := 2) rfl (by kernel_rfl) (by kernel_rfl) rfl (Gp.move rfl) ?_
      refine WA.tp (i := 3) rfl (by kernel_rfl) (by kernel_rfl) rfl (Gp.sub' rfl rfl z4) ?_
      refine WA.tp (i := 6) rfl (by kernel_rfl) (by kernel_rfl) rfl (Gp.fieldAddr rfl) ?_
      refine WA.tp (i := 8) rfl (by kernel_rfl) (by kernel_rfl) rfl (Gp.move rfl) ?_
      refine WA.tp (i := 9) rfl (by kernel_rfl) (by kernel_rfl) rfl (Gp.sub' rfl rfl z1) ?_
      (first | (refine WA.tv (i := 1) rfl (by kernel_rfl) (by kernel_rfl) rfl (Gv.load1 rfl (by (repeat first | exact .here | apply At.there)) (by first | rfl | assumption)) ?_) | (refine WA.tv (i := 1) rfl (by kernel_rfl) (by kernel_rfl) rfl (Gv.loadN rfl (by (repeat first | exact .here | apply At.there)) (by rfl) (by rfl)) ?_) | (refine WA.tv (i := 1) rfl (by kernel_rfl) (by kernel_rfl) rfl (Gv.loadG1 rfl (by assumption) rfl) ?_) | (refine WA.tv (i := 1) rfl (by kernel_rfl) (by kernel_rfl) rfl (Gv.loadG0 rfl (by assumption) rfl) ?_) | (refine WA.tv (i := 1) rfl (by kernel_rfl) (by kernel_rfl) rfl (Gv.loadGN rfl (by assumption) rfl) ?_))
      refine WA.tp (i := 4) rfl (by kernel_rfl) (by kernel_rfl) rfl (Gp.indexAddr rfl rfl (by first | assumption | omega | decide) (by first | assumption | omega | decide | (simp only [List.length_cons, List.length_nil]; decide))) ?_
      refine WA.tv (i := 5) rfl (by kernel_rfl) (by kernel_rfl) rfl (Gv.loadG1 (i := 0) rfl hyc rfl) ?_
      (first | (refine WA.tv (i := 7) rfl (by kernel_rfl) (by kernel_rfl) rfl (Gv.load1 rfl (by (repeat first | exact .here | apply At.there)) (by first | rfl | assumption)) ?_) | (refine WA.tv (i := 7) rfl (by kernel_rfl) (by kernel_rfl) rfl (Gv.loadN rfl (by (repeat first | exact .here | apply At.there)) (by rfl) (by rfl)) ?_) | (refine WA.tv (i := 7) rfl (by kernel_rfl) (by kernel_rfl) rfl (Gv.loadG1 rfl (by assumption) rfl) ?_) | (refine WA.tv (i := 7) rfl (by kernel_rfl) (by kernel_rfl) rfl (Gv.loadG0 rfl (by assumption) rfl) ?_) | (refine WA.tv (i := 7) rfl (by kernel_rfl) (by kernel_rfl) rfl (Gv.loadGN rfl (by assumption) rfl) ?_))
      refine WA.tp (i := 10) rfl (by kernel_rfl) (by kernel_rfl) rfl (Gp.indexAddr rfl rfl (by first | assumption | omega | decide) (by first | assumption | omega | decide | (simp only [List.length_cons, List.length_nil]; decide))) ?_
      refine WA.tv (i := 11) rfl (by kernel_rfl) (by kernel_rfl) rfl (Gv.loadG1 (i := 0) rfl hxc rfl) ?_
      refine WA.tp (i := 12) rfl (by kernel_rfl) (by kernel_rfl) rfl (Gp.eqI' rfl rfl hxy) ?_
      refine WA.tp (i := 13) rfl (by kernel_rfl) (by kernel_rfl) rfl (Gp.move rfl) ?_
      refine WA.tp (i := 14) rfl (by kernel_rfl) (by kernel_rfl) rfl (Gp.fieldAddr rfl) ?_
      refine WA.tp (i := 16) rfl (by kernel_rfl) (by kernel_rfl) rfl (Gp.move rfl) ?_
      refine WA.tp (i := 17) rfl (by kernel_rfl) (by kernel_rfl) rfl (Gp.sub' rfl rfl z1) ?_
      (first | (refine WA.tv (i := 15) rfl (by kernel_rfl) (by kernel_rfl) rfl (Gv.load1 rfl (by (repeat first | exact .here | apply At.there)) (by first | rfl | assumption)) ?_) | (refine WA.tv (i := 15) rfl (by kernel_rfl) (by kernel_rfl) rfl (Gv.loadN rfl (by (repeat first | exact .here | apply At.there)) (by rfl) (by rfl)) ?_) | (refine WA.tv (i := 15) rfl (by kernel_rfl) (by kernel_rfl) rfl (Gv.loadG1 rfl (by assumption) rfl) ?_) | (refine WA.tv (i := 15) rfl (by kernel_rfl) (by kernel_rfl) rfl (Gv.loadG0 rfl (by assumption) rfl) ?_) | (refine WA.tv (i := 15) rfl (by kernel_rfl) (by kernel_rfl) rfl (Gv.loadGN rfl (by assumption) rfl) ?_))
      refine WA.tp (i := 18) rfl (by kernel_rfl) (by kernel_rfl) rfl (Gp.indexAddr rfl rfl (by first | assumption | omega | decide) (by first | assumption | omega | decide | (simp only [List.length_cons, List.length_nil]; decide))) ?_
      refine WA.tv (i := 19) rfl (by kernel_rfl) (by kernel_rfl) rfl (Gv.loadG1 (i := 0) rfl hxc rfl) ?_
      refine WA.tp (i := 20) rfl (by kernel_rfl) (by kernel_rfl) rfl (Gp.eqI' rfl rfl hx1) ?_
      refine WA.tp (i := 21) rfl (by kernel_rfl) (by kernel_rfl) rfl (Gp.move rfl) ?_
      refine WA.tp (i := 22) rfl (by kernel_rfl) (by kernel_rfl) rfl (Gp.fieldAddr rfl) ?_
      refine WA.tp (i := 24) rfl (by kernel_rfl) (by kernel_rfl) rfl (Gp.move rfl) ?_
      refine WA.tp (i := 25) rfl (by kernel_rfl) (by kernel_rfl) rfl (Gp.sub' rfl rfl z1) ?_
      (first | (refine WA.tv (i := 23) rfl (by kernel_rfl) (by kernel_rfl) rfl (Gv.load1 rfl (by (repeat first | exact .here | apply At.there)) (by first | rfl | assumption)) ?_) | (refine WA.tv (i := 23) rfl (by kernel_rfl) (by kernel_rfl) rfl (Gv.loadN rfl (by (repeat first | exact .here | apply At.there)) (by rfl) (by rfl)) ?_) | (refine WA.tv (i := 23) rfl (by kernel_rfl) (by kernel_rfl) rfl (Gv.loadG1 rfl (by assumption) rfl) ?_) | (refine WA.tv (i := 23) rfl (by kernel_rfl) (by kernel_rfl) rfl (Gv.loadG0 rfl (by assumption) rfl) ?_) | (refine WA.tv (i := 23) rfl (by kernel_rfl) (by kernel_rfl) rfl (Gv.loadGN rfl (by assumption) rfl) ?_))
      refine WA.tp (i := 26) rfl (by kernel_rfl) (by kernel_rfl) rfl (Gp.indexAddr rfl rfl (by first | assumption | omega | decide) (by first | assumption | omega | decide | (simp only [List.length_cons, List.length_nil]; decide))) ?_
      refine WA.tv (i := 27) rfl (by kernel_rfl) (by kernel_rfl) rfl (Gv.loadG1 (i := 0) rfl hxc rfl) ?_
      (first | refine WA.tp (i := 28) rfl (by kernel_rfl) (by kernel_rfl) rfl (Gp.eqI rfl rfl) ?_ | refine WA.tp (i := 28) rfl (by kernel_rfl) (by kernel_rfl) rfl (Gp.eqS rfl rfl) ?_ | refine WA.tp (i := 28) rfl (by kernel_rfl) (by kernel_rfl) rfl (Gp.nilSl rfl) ?_ | refine WA.tp (i := 28) rfl (by kernel_rfl) (by kernel_rfl) rfl (Gp.eqB rfl rfl) ?_)
      (first | refine WA.tp (i := 29) rfl (by kernel_rfl) (by kernel_rfl) rfl (Gp.pickT rfl rfl) ?_ | refine WA.tp (i := 29) rfl (by kernel_rfl) (by kernel_rfl) rfl (Gp.pickF rfl rfl) ?_)
      (first | refine WA.tp (i := 30) rfl (by kernel_rfl) (by kernel_rfl) rfl (Gp.pickT rfl rfl) ?_ | refine WA.tp (i := 30) rfl (by kernel_rfl) (by kernel_rfl) rfl (Gp.pickF rfl rfl) ?_)
      refine WA.tp (i := 31) rfl (by kernel_rfl) (by kernel_rfl) rfl (Gp.assign rfl) ?_
      refine WA.done (by kernel_rfl) ?_
      refine WK.un ?_
      refine gom ?_
      refine WC.ret ?_
      refine WK.un ?_
      exact QF.p1 (.inl rfl) rfl (.tmp rfl) (⟨rfl, rfl, rfl⟩)
  have y16 : (c == 16) = false := by simpa using c16
  by_cases c17 : c = 17
  · subst c17
    have htk1 : 2 ≤ sk.length := htk
    obtain ⟨x, hx⟩ : ∃ x, sk[sk.length - 1]? = some x := ⟨_, List.getElem?_eq_getElem (by omega)⟩
    obtain ⟨xb, xo, rfl, hxc⟩ := hS.stack.at hx
    have z1 : IntKind.i64.wrap ((sk.length : Int) - 1) = ((sk.length - 1 : Nat) : Int) := by rw [wrapI (by omega) (by omega)]; omega
    have z2 : (0 : Int) ≤ ((sk.length - 1 : Nat) : Int) := by omega
    have z3 : ((sk.length - 1 : Nat) : Int) < (sk.length : Int) := by omega
    obtain ⟨y, hy⟩ : ∃ y, sk[sk.length - 2]? = some y := ⟨_, List.getElem?_eq_getElem (by omega)⟩
    obtain ⟨yb, yo, hye, hyc⟩ := hS.stack.at hy
    cases hye
    have z4 : IntKind.i64.wrap ((sk.length : Int) - 2) = ((sk.length - 2 : Nat) : Int) := by rw [wrapI (by omega) (by omega)]; omega
    have z5 : (0 : Int) ≤ ((sk.length - 2 : Nat) : Int) := by omega
    have z6 : ((sk.length - 2 : Nat) : Int) < (sk.length : Int) := by omega
    have he : kindsR w p ((17 : Int), (n : Int)) ⟨sr, su, sv, sk⟩ (sk.drop (sk.length - (effC w sv ((17 : Int), (n : Int))).1)) = (y == x && (x == 1 || x == 3)) := by
      rw [show (effC w sv ((17 : Int), (n : Int))).1 = 2 from rfl, drop_two htk1 hy hx]; unfold kindsR; exact kinds_rel x y
    rw [he]
    cases hxy : (y == x) with
    | false =>
      refine go ?_
      refine WC.draw mixed ?_
      refine WA.tp (i := 0) rfl (by kernel_rfl) (by kernel_rfl) rfl (Gp.fieldAddr rfl) ?_
      refine WA.tp (i := 2) rfl (by kernel_rfl) (by kernel_rfl) rfl (Gp.move rfl) ?_
      refine WA.tp (i := 3) rfl (by kernel_rfl) (by kernel_rfl) rfl (Gp.sub' rfl rfl z4) ?_
      refine WA.tp (i := 6) rfl (by kernel_rfl) (by kernel_rfl) rfl (Gp.fieldAddr rfl) ?_
      refine WA.tp (i := 8) rfl (by kernel_rfl) (by kernel_rfl) rfl (Gp.move rfl) ?_
      refine WA.tp (i := 9) rfl (by kernel_rfl) (by kernel_rfl) rfl (Gp.sub' rfl rfl z1) ?_
      (first | (refine WA.tv (i := 1) rfl (by kernel_rfl) (by kernel_rfl) rfl (Gv.load1 rfl (by (repeat first | exact .here | apply At.there)) (by first | rfl | assumption)) ?_) | (refine WA.tv (i := 1) rfl (by kernel_rfl) (by kernel_rfl) rfl (Gv.loadN rfl (by (repeat first | exact .here | apply At.there)) (by rfl) (by rfl)) ?_) | (refine WA.tv (i := 1) rfl (by kernel_rfl) (by kernel_rfl) rfl (Gv.loadG1 rfl (by assumption) rfl) ?_) | (refine WA.tv (i := 1) rfl (by kernel_rfl) (by kernel_rfl) rfl (Gv.loadG0 rfl (by assumption) rfl) ?_) | (refine WA.tv (i := 1) rfl (by kernel_rfl) (by kernel_rfl) rfl (Gv.loadGN rfl (by assumption) rfl) ?_))
      refine WA.tp (i := 4) rfl (by kernel_rfl) (by kernel_rfl) rfl (Gp.indexAddr rfl rfl (by first | assumption | omega | decide) (by first | assumption | omega | decide | (simp only [List.length_cons, List.length_nil]; decide))) ?_
      refine WA.tv (i := 5) rfl (by kernel_rfl) (by kernel_rfl) rfl (Gv.loadG1 (i := 0) rfl hyc rfl) ?_
      (first | (refine WA.tv (i := 7) rfl (by kernel_rfl) (by kernel_rfl) rfl (Gv.load1 rfl (by (repeat first | exact .here | apply At.there)) (by first | rfl | assumption)) ?_) | (refine WA.tv (i := 7) rfl (by kernel_rfl) (by kernel_rfl) rfl (Gv.loadN rfl (by (repeat first | exact .here | apply At.there)) (by rfl) (by rfl)) ?_) | (refine WA.tv (i := 7) rfl (by kernel_rfl) (by kernel_rfl) rfl (Gv.loadG1 rfl (by assumption) rfl) ?_) | (refine WA.tv (i := 7) rfl (by kernel_rfl) (by kernel_rfl) rfl (Gv.loadG0 rfl (by assumption) rfl) ?_) | (refine WA.tv (i := 7) rfl (by kernel_rfl) (by kernel_rfl) rfl (Gv.loadGN rfl (by assumption) rfl) ?_))
      refine WA.tp (i := 10) rfl (by kernel_rfl) (by kernel_rfl) rfl (Gp.indexAddr rfl rfl (by first | assumption | omega | decide) (by first | assumption | omega | decide | (simp only [List.length_cons, List.length_nil]; decide))) ?_
      refine WA.tv (i := 11) rfl (by kernel_rfl) (by kernel_rfl) rfl (Gv.loadG1 (i := 0) rfl hxc rfl) ?_
      refine WA.tp (i := 12) rfl (by kernel_rfl) (by kernel_rfl) rfl (Gp.eqI' rfl rfl hxy) ?_
      refine WA.tp (i := 13) rfl (by kernel_rfl) (by kernel_rfl) rfl (Gp.move rfl) ?_
      refine WA.sp (i := 14) rfl (by kernel_rfl) (by kernel_rfl) rfl ?_
      refine WA.sp (i := 16) rfl (by kernel_rfl) (by kernel_rfl) rfl ?_
      refine WA.sp (i := 17) rfl (by kernel_rfl) (by kernel_rfl) rfl ?_
      refine WA.sp (i := 15) rfl (by kernel_rfl) (by kernel_rfl) rfl ?_
      refine WA.sp (i := 18) rfl (by kernel_rfl) (by kernel_rfl) rfl ?_
      refine WA.sp (i := 19) rfl (by kernel_rfl) (by kernel_rfl) rfl ?_
      refine WA.sp (i := 20) rfl (by kernel_rfl) (by kernel_rfl) rfl ?_
      refine WA.sp (i := 21) rfl (by kernel_rfl) (by kernel_rfl) rfl ?_
      refine WA.sp (i := 22) rfl (by kernel_rfl) (by kernel_rfl) rfl ?_
      refine WA.sp (i := 24) rfl (by kernel_rfl) (by kernel_rfl) rfl ?_
      refine WA.sp (i := 25) rfl (by kernel_rfl) (by kernel_rfl) rfl ?_
      refine WA.sp (i := 23) rfl (by kernel_rfl) (by kernel_rfl) rfl ?_
      refine WA.sp (i := 26) rfl (by kernel_rfl) (by kernel_rfl) rfl ?_
      refine WA.sp (i := 27) rfl (by kernel_rfl) (by kernel_rfl) rfl ?_
      refine WA.sp (i := 28) rfl (by kernel_rfl) (by kernel_rfl) rfl ?_
      refine WA.sp (i := 29) rfl (by kernel_rfl) (by kernel_rfl) rfl ?_
      (first | refine WA.tp (i := 30) rfl (by kernel_rfl) (by kernel_rfl) rfl (Gp.pickT rfl rfl) ?_ | refine WA.tp (i := 30) rfl (by kernel_rfl) (by kernel_rfl) rfl (Gp.pickF rfl rfl) ?_)
      refine WA.tp (i := 31) rfl (by kernel_rfl) (by kernel_rfl) rfl (Gp.assign rfl) ?_
      refine WA.done (by kernel_rfl) ?_
      refine WK.un ?_
      refine gom ?_
      refine WC.ret ?_
      refine WK.un ?_
      exact QF.p1 (.inl rfl) rfl (.tmp rfl) (⟨rfl, rfl, rfl⟩)
    | true =>
    cases hx1 : (x == 1) with
    | true =>
      refine go ?_
      refine WC.draw mixed ?_
      refine WA.tp (i := 0) rfl (by kernel_rfl) (by kernel_rfl) rfl (Gp.fieldAddr rfl) ?_
      refine WA.tp (i := 2) rfl (by kernel_rfl) (by kernel_rfl) rfl (Gp.move rfl) ?_
      refine WA.tp (i := 3) rfl (by kernel_rfl) (by kernel_rfl) rfl (Gp.sub' rfl rfl z4) ?_
      refine WA.tp (i := 6) rfl (by kernel_rfl) (by kernel_rfl) rfl (Gp.fieldAddr rfl) ?_
      refine WA.tp (i := 8) rfl (by kernel_rfl) (by kernel_rfl) rfl (Gp.move rfl) ?_
      refine WA.tp (i := 9) rfl (by kernel_rfl) (by kernel_rfl) rfl (Gp.sub' rfl rfl z1) ?_
      (first | (refine WA.tv (i := 1) rfl (by kernel_rfl) (by kernel_rfl) rfl (Gv.load1 rfl (by (repeat first | exact .here | apply At.there)) (by first | rfl | assumption)) ?_) | (refine WA.tv (i := 1) rfl (by kernel_rfl) (by kernel_rfl) rfl (Gv.loadN rfl (by (repeat first | exact .here | apply At.there)) (by rfl) (by rfl)) ?_) | (refine WA.tv (i := 1) rfl (by kernel_rfl) (by kernel_rfl) rfl (Gv.loadG1 rfl (by assumption) rfl) ?_) | (refine WA.tv (i := 1) rfl (by kernel_rfl) (by kernel_rfl) rfl (Gv.loadG0 rfl (by assumption) rfl) ?_) | (refine WA.tv (i := 1) rfl (by kernel_rfl) (by kernel_rfl) rfl (Gv.loadGN rfl (by assumption) rfl) ?_))
      refine WA.tp (i := 4) rfl (by kernel_rfl) (by kernel_rfl) rfl (Gp.indexAddr rfl rfl (by first | assumption | omega | decide) (by first | assumption | omega | decide | (simp only [List.length_cons, List.length_nil]; decide))) ?_
      refine WA.tv (i := 5) rfl (by kernel_rfl) (by kernel_rfl) rfl (Gv.loadG1 (i := 0) rfl hyc rfl) ?_
      (first | (refine WA.tv (i := 7) rfl (by kernel_rfl) (by kernel_rfl) rfl (Gv.load1 rfl (by (repeat first | exact .here | apply At.there)) (by first | rfl | assumption)) ?_) | (refine WA.tv (i := 7) rfl (by kernel_rfl) (by kernel_rfl) rfl (Gv.loadN rfl (by (repeat first | exact .here | apply At.there)) (by rfl) (by rfl)) ?_) | (refine WA.tv (i := 7) rfl (by kernel_rfl) (by kernel_rfl) rfl (Gv.loadG1 rfl (by assumption) rfl) ?_) | (refine WA.tv (i := 7) rfl (by kernel_rfl) (by kernel_rfl) rfl (Gv.loadG0 rfl (by assumption) rfl) ?_) | (refine WA.tv (i := 7) rfl (by kernel_rfl) (by kernel_rfl) rfl (Gv.loadGN rfl (by assumption) rfl) ?_))
      refine WA.tp (i := 10) rfl (by kernel_rfl) (by kernel_rfl) rfl (Gp.indexAddr rfl rfl (by first | assumption | omega | decide) (by first | assumption | omega | decide | (simp only [List.length_cons, List.length_nil]; decide))) ?_
      refine WA.tv (i := 11) rfl (by kernel_rfl) (by kernel_rfl) rfl (Gv.loadG1 (i := 0) rfl hxc rfl) ?_
      refine WA.tp (i := 12) rfl (by kernel_rfl) (by kernel_rfl) rfl (Gp.eqI' rfl rfl hxy) ?_
      refine WA.tp (i := 13) rfl (by kernel_rfl) (by kernel_rfl) rfl (Gp.move rfl) ?_
      refine WA.tp (i := 14) rfl (by kernel_rfl) (by kernel_rfl) rfl (Gp.fieldAddr rfl) ?_
      refine WA.tp (i := 16) rfl (by kernel_rfl) (by kernel_rfl) rfl (Gp.move rfl) ?_
      refine WA.tp (i := 17) rfl (by kernel_rfl) (by kernel_rfl) rfl (Gp.sub' rfl rfl z1) ?_
      (first | (refine WA.tv (i := 15) rfl (by kernel_rfl) (by kernel_rfl) rfl (Gv.load1 rfl (by (repeat first | exact .here | apply At.there)) (by first | rfl | assumption)) ?_) | (refine WA.tv (i := 15) rfl (by kernel_rfl) (by kernel_rfl) rfl (Gv.loadN rfl (by (repeat first | exact .here | apply At.there)) (by rfl) (by rfl)) ?_) | (refine WA.tv (i := 15) rfl (by kernel_rfl) (by kernel_rfl) rfl (Gv.loadG1 rfl (by assumption) rfl) ?_) | (refine WA.tv (i := 15) rfl (by kernel_rfl) (by kernel_rfl) rfl (Gv.loadG0 rfl (by assumption) rfl) ?_) | (refine WA.tv (i := 15) rfl (by kernel_rfl) (by kernel_rfl) rfl (Gv.loadGN rfl (by assumption) rfl) ?_))
      refine WA.tp (i := 18) rfl (by kernel_rfl) (by kernel_rfl) rfl (Gp.indexAddr rfl rfl (by first | assumption | omega | decide) (by first | assumption | omega | decide | (simp only [List.length_cons, List.length_nil]; decide))) ?_
      refine WA.tv (i := 19) rfl (by kernel_rfl) (by kernel_rfl) rfl (Gv.loadG1 (i := 0) rfl hxc rfl) ?_
      refine WA.tp (i := 20) rfl (by kernel_rfl) (by kernel_rfl) rfl (Gp.eqI' rfl rfl hx1) ?_
      refine WA.tp (i := 21) rfl (by kernel_rfl) (by kernel_rfl) rfl (Gp.move rfl) ?_
      refine WA.sp (i := 22) rfl (by kernel_rfl) (by kernel_rfl) rfl ?_
      refine WA.sp (i := 24) rfl (by kernel_rfl) (by kernel_rfl) rfl ?_
      refine WA.sp (i := 25) rfl (by kernel_rfl) (by kernel_rfl) rfl ?_
      refine WA.sp (i := 23) rfl (by kernel_rfl) (by kernel_rfl) rfl ?_
      refine WA.sp (i := 26) rfl (by kernel_rfl) (by kernel_rfl) rfl ?_
      refine WA.sp (i := 27) rfl (by kernel_rfl) (by kernel_rfl) rfl ?_
      refine WA.sp (i := 28) rfl (by kernel_rfl) (by kernel_rfl) rfl ?_
      (first | refine WA.tp (i := 29) rfl (by kernel_rfl) (by kernel_rfl) rfl (Gp.pickT rfl rfl) ?_ | refine WA.tp (i := 29) rfl (by kernel_rfl) (by kernel_rfl) rfl (Gp.pickF rfl rfl) ?_)
      (first | refine WA.tp (i := 30) rfl (by kernel_rfl) (by kernel_rfl) rfl (Gp.pickT rfl rfl) ?_ | refine WA.tp (i := 30) rfl (by kernel_rfl) (by kernel_rfl) rfl (Gp.pickF rfl rfl) ?_)
      refine WA.tp (i := 31) rfl (by kernel_rfl) (by kernel_rfl) rfl (Gp.assign rfl) ?_
      refine WA.done (by kernel_rfl) ?_
      refine WK.un ?_
      refine gom ?_
      refine WC.ret ?_
      refine WK.un ?_
      exact QF.p1 (.inl rfl) rfl (.tmp rfl) (⟨rfl, rfl, rfl⟩)
    | false =>
      refine go ?_
      refine WC.draw mixed ?_
      refine WA.tp (i := 0) rfl (by kernel_rfl) (by kernel_rfl) rfl (Gp.fieldAddr rfl) ?_
      refine WA.tp (i := 2) rfl (by kernel_rfl) (by kernel_rfl) rfl (Gp.move rfl) ?_
      refine WA.tp (i := 3) rfl (by kernel_rfl) (by kernel_rfl) rfl (Gp.sub' rfl rfl z4) ?_
      refine WA.tp (i := 6) rfl (by kernel_rfl) (by kernel_rfl) rfl (Gp.fieldAddr rfl) ?_
      refine WA.tp (i := 8) rfl (by kernel_rfl) (by kernel_rfl) rfl (Gp.move rfl) ?_
      refine WA.tp (i := 9) rfl (by kernel_rfl) (by kernel_rfl) rfl (Gp.sub' rfl rfl z1) ?_
      (first | (refine WA.tv (i := 1) rfl (by kernel_rfl) (by kernel_rfl) rfl (Gv.load1 rfl (by (repeat first | exact .here | apply At.there)) (by first | rfl | assumption)) ?_) | (refine WA.tv (i := 1) rfl (by kernel_rfl) (by kernel_rfl) rfl (Gv.loadN rfl (by (repeat first | exact .here | apply At.there)) (by rfl) (by rfl)) ?_) | (refine WA.tv (i := 1) rfl (by kernel_rfl) (by kernel_rfl) rfl (Gv.loadG1 rfl (by assumption) rfl) ?_) | (refine WA.tv (i := 1) rfl (by kernel_rfl) (by kernel_rfl) rfl (Gv.loadG0 rfl (by assumption) rfl) ?_) | (refine WA.tv (i := 1) rfl (by kernel_rfl) (by kernel_rfl) rfl (Gv.loadGN rfl (by assumption) rfl) ?_))
      refine WA.tp (i := 4) rfl (by kernel_rfl) (by kernel_rfl) rfl (Gp.indexAddr rfl rfl (by first | assumption | omega | decide) (by first | assumption | omega | decide | (simp only [List.length_cons, List.length_nil]; decide))) ?_
      refine WA.tv (i := 5) rfl (by kernel_rfl) (by kernel_rfl) rfl (Gv.loadG1 (i := 0) rfl hyc rfl) ?_
      (first | (refine WA.tv (i := 7) rfl (by kernel_rfl) (by kernel_rfl) rfl (Gv.load1 rfl (by (repeat first | exact .here | apply At.there)) (by first | rfl | assumption)) ?_) | (refine WA.tv (i := 7) rfl (by kernel_rfl) (by kernel_rfl) rfl (Gv.loadN rfl (by (repeat first | exact .here | apply At.there)) (by rfl) (by rfl)) ?_) | (refine WA.tv (i := 7) rfl (by kernel_rfl) (by kernel_rfl) rfl (Gv.loadG1 rfl (by assumption) rfl) ?_) | (refine WA.tv (i := 7) rfl (by kernel_rfl) (by kernel_rfl) rfl (Gv.loadG0 rfl (by assumption) rfl) ?_) | (refine WA.tv (i := 7) rfl (by kernel_rfl) (by kernel_rfl) rfl (Gv.loadGN rfl (by assumption) rfl) ?_))
      refine WA.tp (i := 10) rfl (by kernel_rfl) (by kernel_rfl) rfl (Gp.indexAddr rfl rfl (by first | assumption | omega | decide) (by first | assumption | omega | decide | (simp only [List.length_cons, List.length_nil]; decide))) ?_
      refine WA.tv (i := 11) rfl (by kernel_rfl) (by kernel_rfl) rfl (Gv.loadG1 (i := 0) rfl hxc rfl) ?_
      refine WA.tp (i := 12) rfl (by kernel_rfl) (by kernel_rfl) rfl (Gp.eqI' rfl rfl hxy) ?_
      refine WA.tp (i := 13) rfl (by kernel_rfl) (by kernel_rfl) rfl (Gp.move rfl) ?_
      refine WA.tp (i := 14) rfl (by kernel_rfl) (by kernel_rfl) rfl (Gp.fieldAddr rfl) ?_
      refine WA.tp (i := 16) rfl (by kernel_rfl) (by kernel_rfl) rfl (Gp.move rfl) ?_
      refine WA.tp (i := 17) rfl (by kernel_rfl) (by kernel_rfl) rfl (Gp.sub' rfl rfl z1) ?_
      (first | (refine WA.tv (i := 15) rfl (by kernel_rfl) (by kernel_rfl) rfl (Gv.load1 rfl (by (repeat first | exact .here | apply At.there)) (by first | rfl | assumption)) ?_) | (refine WA.tv (i := 15) rfl (by kernel_rfl) (by kernel_rfl) rfl (Gv.loadN rfl (by (repeat first | exact .here | apply At.there)) (by rfl) (by rfl)) ?_) | (refine WA.tv (i := 15) rfl (by kernel_rfl) (by kernel_rfl) rfl (Gv.loadG1 rfl (by assumption) rfl) ?_) | (refine WA.tv (i := 15) rfl (by kernel_rfl) (by kernel_rfl) rfl (Gv.loadG0 rfl (by assumption) rfl) ?_) | (refine WA.tv (i := 15) rfl (by kernel_rfl) (by kernel_rfl) rfl (Gv.loadGN rfl (by assumption) rfl) ?_))
      refine WA.tp (i := 18) rfl (by kernel_rfl) (by kernel_rfl) rfl (Gp.indexAddr rfl rfl (by first | assumption | omega | decide) (by first | assumption | omega | decide | (simp only [List.length_cons, List.length_nil]; decide))) ?_
      refine WA.tv (i := 19) rfl (by kernel_rfl) (by kernel_rfl) rfl (Gv.loadG1 (i := 0) rfl hxc rfl) ?_
      refine WA.tp (i := 20) rfl (by kernel_rfl) (by kernel_rfl) rfl (Gp.eqI' rfl rfl hx1) ?_
      refine WA.tp (i := 21) rfl (by kernel_rfl) (by kernel_rfl) rfl (Gp.move rfl) ?_
      refine WA.tp (i := 22) rfl (by kernel_rfl) (by kernel_rfl) rfl (Gp.fieldAddr rfl) ?_
      refine WA.tp (i := 24) rfl (by kernel_rfl) (by kernel_rfl) rfl (Gp.move rfl) ?_
      refine WA.tp (i := 25) rfl (by kernel_rfl) (by kernel_rfl) rfl (Gp.sub' rfl rfl z1) ?_
      (first | (refine WA.tv (i := 23) rfl (by kernel_rfl) (by kernel_rfl) rfl (Gv.load1 rfl (by (repeat first | exact .here | apply At.there)) (by first | rfl | assumption)) ?_) | (refine WA.tv (i := 23) rfl (by kernel_rfl) (by kernel_rfl) rfl (Gv.loadN rfl (by (repeat first | exact .here | apply At.there)) (by rfl) (by rfl)) ?_) | (refine WA.tv (i := 23) rfl (by kernel_rfl) (by kernel_rfl) rfl (Gv.loadG1 rfl (by assumption) rfl) ?_) | (refine WA.tv (i := 23) rfl (by kernel_rfl) (by kernel_rfl) rfl (Gv.loadG0 rfl (by assumption) rfl) ?_) | (refine WA.tv (i := 23) rfl (by kernel_rfl) (by kernel_rfl) rfl (Gv.loadGN rfl (by assumption) rfl) ?_))
      refine WA.tp (i := 26) rfl (by kernel_rfl) (by kernel_rfl) rfl (Gp.indexAddr rfl rfl (by first | assumption | omega | decide) (by first | assumption | omega | decide | (simp only [List.length_cons, List.length_nil]; decide))) ?_
      refine WA.tv (i := 27) rfl (by kernel_rfl) (by kernel_rfl) rfl (Gv.loadG1 (i := 0) rfl hxc rfl) ?_
      (first | refine WA.tp (i := 28) rfl (by kernel_rfl) (by kernel_rfl) rfl (Gp.eqI rfl rfl) ?_ | refine WA.tp (i := 28) rfl (by kernel_rfl) (by kernel_rfl) rfl (Gp.eqS rfl rfl) ?_ | refine WA.tp (i := 28) rfl (by kernel_rfl) (by kernel_rfl) rfl (Gp.nilSl rfl) ?_ | refine WA.tp (i := 28) rfl (by kernel_rfl) (by kernel_rfl) rfl (Gp.eqB rfl rfl) ?_)
      (first | refine WA.tp (i := 29) rfl (by kernel_rfl) (by kernel_rfl) rfl (Gp.pickT rfl rfl) ?_ | refine WA.tp (i := 29) rfl (by kernel_rfl) (by kernel_rfl) rfl (Gp.pickF rfl rfl) ?_)
      (first | refine WA.tp (i := 30) rfl (by kernel_rfl) (by kernel_rfl) rfl (Gp.pickT rfl rfl) ?_ | refine WA.tp (i := 30) rfl (by kernel_rfl) (by kernel_rfl) rfl (Gp.pickF rfl rfl) ?_)
      refine WA.tp (i := 31) rfl (by kernel_rfl) (by kernel_rfl) rfl (Gp.assign rfl) ?_
      refine WA.done (by kernel_rfl) ?_
      refine WK.un ?_
      refine gom ?_
      refine WC.ret ?_
      refine WK.un ?_
      exact QF.p1 (.inl rfl) rfl (.tmp rfl) (⟨rfl, rfl, rfl⟩)
  have y17 : (c == 17) = false := by simpa using c17
  have he : kindsR w p (c, (n : Int)) ⟨sr, su, sv, sk⟩ (sk.drop (sk.length - (effC w sv (c, (n : Int))).1)) = true := by
    unfold kindsR
    rw [if_neg c2, if_neg (by simp [c3, c11]), if_neg (by simp [c6, c25]), if_neg c7, if_neg c8, if_neg c10, if_neg (by simp [c12, c13]), if_neg (by omega), if_neg (by simp [c20, c26]), if_neg (by omega)]
  rw [he]
  refine gom ?_
  refine WC.ret ?_
  refine WK.un ?_
  exact QF.p1 (.inl rfl) rfl (.tmp rfl) (⟨rfl, rfl, rfl⟩)
end
end Go.Proofs.YtkmigdmdppkpoaaGreatDoor.Gb
namespace Go.Proofs.YtkmigdmdppkpoaaGreatDoor.Gb
open Go Go.Proofs Go.MapKept
set_option linter.unusedVariables false
set_option linter.unusedSimpArgs false
set_option linter.unusedSectionVars false
attribute [local irreducible] Tryz.prog
theorem any_onwR (i : Int × Int) (k : Nat) (f : Int → Bool) : (onwR i k).any f = (nextR i k).any f := by
  rw [Bool.eq_iff_iff, List.any_eq_true, List.any_eq_true]
  constructor
  · rintro ⟨x, h, h'⟩; exact ⟨x, (mem_onwR i k x).1 h, h'⟩
  · rintro ⟨x, h, h'⟩; exact ⟨x, (mem_onwR i k x).2 h, h'⟩
theorem onwR_len (i : Int × Int) (k : Nat) : (onwR i k).length ≤ 2 := by
  unfold onwR
  split
  · simp
  split
  · simp
  split <;> simp
section
variable (G : Gh) (w : Wd) (p : Pr) (CA NA PA : Option Addr) (cc nc pc : Nat) (hW : RWp G w CA NA PA) (QA IA : Option Addr) (qc ic : Nat) (hC : Sl Kd.ins G IA p.code) (hfew : p.code.length ≤ 100000000000)
include hW hC hfew
set_option maxHeartbeats 4000000 in
theorem rmet_fn (s : SS) (VA : Option Addr) (vc : Nat) (SA : Option Addr) (sc : Nat) (hS : SRep G s VA vc SA sc) (hv : s.vars.length ≤ 1000000000) (hk : s.stack.length ≤ 1000000000) (k : Nat) (hkk : k ≤ 1000000000) (c : Int) (n : Nat) (hi : p.code[k]? = some (c, (n : Int))) (ho : s.reached = true → EOk w s.vars.length c n) :
    Fn Tryz.prog 126 #[.agg (wdC w CA NA PA cc nc pc), .agg (prC p QA qc IA ic), .int .i64 (k : Int), rsV s VA vc SA sc] G []
      fun e G' H' => e = .returned (.int .i64 (if s.reached = true then metR w p k (c, n) s else 0)) ∧ G.le G' ∧ H' = [] := by
  have htk := hW.takes (cc := cc) (nc := nc) (pc := pc) s.vars (c, n)
  have hly := effC_lays w s.vars (c, n)
  have hsc := hS.hs
  refine Fn.enter Tryz.func126 rfl rfl fun w0 => ?_
  obtain ⟨sr, su, sv, sk⟩ := s
  dsimp only at hv hk ho htk hly hsc ⊢
  obtain ⟨ib, io, ics, rfl, hik, hic⟩ := hC k _ hi
  obtain rfl : ics = [.int .i64 c, .int .i64 n] := hik
  have hkl := (List.getElem?_eq_some_iff.1 hi).1
  have z0 : (0 : Int) ≤ (k : Int) := by omega
  have z1 : (k : Int) < (p.code.length : Int) := by omega
  refine WC.seq ?_
  refine WC.region ?_
  refine WL.op (by kernel_rfl) (OW.box rfl rfl fun b1 => ?_)
  refine WL.op (by kernel_rfl) (OW.box rfl rfl fun b2 => ?_)
  refine WL.op (by kernel_rfl) (OW.box rfl rfl fun b3 => ?_)
  cases sr with
  | false =>
    refine gom ?_
    refine WC.ret ?_
    refine WK.un ?_
    exact QF.p1 (.inl rfl) rfl (.tmp rfl) (⟨rfl, Gh.le_refl _, rfl⟩)
  | true =>
  replace ho := ho rfl
  rw [if_pos rfl]
  refine gom ?_
  refine WL.op (by kernel_rfl) (OW.alloc rfl fun b5 => ?_)
  refine gom ?_
  refine WL.op (by kernel_rfl) (OW.callK rfl (ronwards_fn _ c n k hkk) rfl fun v' G' H' h hg => ?_)
  obtain ⟨XA, xcap, he, hg5, hx5, rfl⟩ := h
  cases he
  obtain ⟨nx, hnx⟩ : ∃ nx, nx = onwR (c, (n : Int)) k := ⟨_, rfl⟩
  have hmet : metR w p k (c, (n : Int)) ⟨true, su, sv, sk⟩ = if nx.any (fun x => decide ((p.code.length : Int) ≤ x)) then 183
      else if badS w (c, (n : Int)) ⟨true, su, sv, sk⟩ then 181
      else if (c = 9 ∧ p.result ≠ 0) ∨ (c = 10 ∧ p.result = 0) then 181
      else if kindsR w p (c, (n : Int)) ⟨true, su, sv, sk⟩ (sk.drop (sk.length - (effC w sv (c, (n : Int))).1)) = false then 184 else 0 := by rw [hnx, any_onwR]; rfl
  have hnxl : nx.length ≤ 2 := by rw [hnx]; exact onwR_len _ _
  rw [← hnx] at hx5 ⊢
  refine gom ?_
  refine WC.pick [.blk b5 (.cells #[.int .i64 c, .int .i64 n] 50 (0, 0)), .blk b1 (.cells (wdC w CA NA PA cc nc pc) 143 (0, 0)), .blk b2 (.cells (prC p QA qc (some ⟨ib, io, none⟩) ic) 45 (0, 0)), .blk b3 (.cells #[.bool true, .slice VA sv.length vc, .bool su, .slice SA sk.length sc] 95 (0, 0))] ?_
  refine WC.loop (X := Nat) (fun j => [(4, .pointer (some ⟨b1, 0, none⟩)), (5, .pointer (some ⟨b2, 0, none⟩)), (7, .pointer (some ⟨b3, 0, none⟩)), (9, .pointer (some ⟨b5, 0, none⟩)), (10, .slice XA nx.length xcap), (11, .int .i64 (j : Int))]) (fun _ => G') (fun _ => [.blk b5 (.cells #[.int .i64 c, .int .i64 n] 50 (0, 0)), .blk b1 (.cells (wdC w CA NA PA cc nc pc) 143 (0, 0)), .blk b2 (.cells (prC p QA qc (some ⟨ib, io, none⟩) ic) 45 (0, 0)), .blk b3 (.cells #[.bool true, .slice VA sv.length vc, .bool su, .slice SA sk.length sc] 95 (0, 0))])
    (fun j => nx.length - j) (fun j => j ≤ nx.length ∧ ∀ (q : Nat) x, q < j → nx[q]? = some x → x < (p.code.length : Int)) 0 ⟨Nat.zero_le _, fun q x h => by omega⟩ (by exact ⟨rfl, rfl, rfl, rfl, rfl, rfl, trivial⟩) rfl (List.Sublist.refl _) fun j hj => ?_
  obtain ⟨hj, hall⟩ := hj
  by_cases hjl : j < nx.length
  · have y1 : decide ((j : Int) < (nx.length : Int)) = true := decide_eq_true (by omega)
    obtain ⟨x, hx⟩ : ∃ x, nx[j]? = some x := ⟨_, List.getElem?_eq_getElem hjl⟩
    obtain ⟨xb', xo', rfl, hxc⟩ := hx5.at hx
    have w0' : (0 : Int) ≤ (j : Int) := by omega
    have w1 : (j : Int) < (nx.length : Int) := by omega
    have w2 := wrapS j (by omega)
    by_cases hq : (p.code.length : Int) ≤ x
    · have y2 : decide ((p.code.length : Int) ≤ x) = true := decide_eq_true hq
      have hany : nx.any (fun x => decide ((p.code.length : Int) ≤ x)) = true := List.any_eq_true.2 ⟨x, List.mem_of_getElem? hx, y2⟩
      rw [hmet, if_pos hany]
      refine gom ?_
      refine WC.ret ?_
      refine WK.un ?_
      exact QF.p1 (.inl rfl) rfl (.tmp rfl) (⟨rfl, hg5, rfl⟩)
    · have y2 : decide ((p.code.length : Int) ≤ x) = false := decide_eq_false hq
      refine gom ?_
      exact WK.again (j + 1) (by omega) ⟨by omega, fun q z hq' hz => by
        rcases Nat.lt_or_ge q j with h | h
        · exact hall q z h hz
        · obtain rfl : q = j := by omega
          rw [hx] at hz; cases hz; omega⟩ (by exact ⟨rfl, rfl, rfl, rfl, rfl, rfl, trivial⟩) rfl (List.Sublist.refl _)
  have y1 : decide ((j : Int) < (nx.length : Int)) = false := decide_eq_false (by omega)
  have hany : nx.any (fun x => decide ((p.code.length : Int) ≤ x)) = false := by
    rw [List.any_eq_false]
    intro x hx
    obtain ⟨q, hq⟩ := List.getElem?_of_mem hx
    have := hall q x (by have := (List.getElem?_eq_some_iff.1 hq).1; omega) hq
    simp; omega
  rw [if_neg (by rw [hany]; simp)] at hmet
  refine gom ?_
  refine WL.op (by kernel_rfl) (OW.callK rfl (reffect_fn _ w p CA NA PA cc nc pc (hW.mono hg5) QA (some ⟨ib, io, none⟩) qc ic VA sv vc (hS.vars.mono hg5) c n ho) rfl fun v' G' H' h hg => ?_)
  obtain ⟨LA, lc, he, hg1, hs1, rfl⟩ := h
  cases he
  have hgl := Gh.le_trans hg5 hg1
  obtain ⟨tk, htke⟩ : ∃ tk, tk = (effC w sv (c, n)).1 := ⟨_, rfl⟩
  obtain ⟨ly, hlye⟩ : ∃ ly, ly = (effC w sv (c, n)).2 := ⟨_, rfl⟩
  rw [← htke] at htk
  rw [← hlye] at hly hs1
  rw [← htke, ← hlye]
  refine WL.pick [.blk b5 (.cells #[.int .i64 c, .int .i64 n] 50 (0, 0)), .blk b1 (.cells (wdC w CA NA PA cc nc pc) 143 (0, 0)), .blk b2 (.cells (prC p QA qc (some ⟨ib, io, none⟩) ic) 45 (0, 0)), .blk b3 (.cells #[.bool true, .slice VA sv.length vc, .bool su, .slice SA sk.length sc] 95 (0, 0))] ?_
  have y3 : IntKind.i64.wrap ((sk.length : Int) - (tk : Int)) = (sk.length : Int) - (tk : Int) := wrapI (by omega) (by omega)
  by_cases hb : badS w (c, (n : Int)) ⟨true, su, sv, sk⟩
  · rw [hmet, if_pos hb]
    have hb' : su = true ∨ (sk.length < tk ∨ 128 < sk.length - tk + ly.length) := by unfold badS at hb; rw [htke, hlye]; exact hb
    cases su with
    | true =>
      refine gom ?_
      refine WC.ret ?_
      refine WK.un ?_
      exact QF.p1 (.inl rfl) rfl (.tmp rfl) (⟨rfl, hgl, rfl⟩)
    | false =>
    by_cases h1 : sk.length < tk
    · have y7 : decide ((sk.length : Int) < (tk : Int)) = true := decide_eq_true (by omega)
      refine gom ?_
      refine WC.ret ?_
      refine WK.un ?_
      exact QF.p1 (.inl rfl) rfl (.tmp rfl) (⟨rfl, hgl, rfl⟩)
    · have y7 : decide ((sk.length : Int) < (tk : Int)) = false := decide_eq_false (by omega)
      have h2 : 128 < sk.length - tk + ly.length := by
        rcases hb' with h | h | h
        · cases h
        · exact absurd h h1
        · exact h
      have y8 : IntKind.i64.wrap ((sk.length : Int) - (tk : Int) + (ly.length : Int)) = (sk.length : Int) - (tk : Int) + (ly.length : Int) := wrapI (by omega) (by omega)
      have y9 : decide ((128 : Int) < (sk.length : Int) - (tk : Int) + (ly.length : Int)) = true := decide_eq_true (by omega)
      refine gom ?_
      refine WC.ret ?_
      refine WK.un ?_
      exact QF.p1 (.inl rfl) rfl (.tmp rfl) (⟨rfl, hgl, rfl⟩)
  rw [if_neg hb] at hmet
  have hb' : ¬ (su = true ∨ (sk.length < tk ∨ 128 < sk.length - tk + ly.length)) := by unfold badS at hb; rw [htke, hlye]; exact hb
  have hus : su = false := by cases h : su with | false => rfl | true => exact absurd (.inl h) hb'
  subst hus
  have h1 : ¬ sk.length < tk := fun h => hb' (.inr (.inl h))
  have h2 : ¬ 128 < sk.length - tk + ly.length := fun h => hb' (.inr (.inr h))
  have y7 : decide ((sk.length : Int) < (tk : Int)) = false := decide_eq_false (by omega)
  have y8 : IntKind.i64.wrap ((sk.length : Int) - (tk : Int) + (ly.length : Int)) = (sk.length : Int) - (tk : Int) + (ly.length : Int) := wrapI (by omega) (by omega)
  have y9 : decide ((128 : Int) < (sk.length : Int) - (tk : Int) + (ly.length : Int)) = false := decide_eq_false (by omega)
  by_cases h9 : (c = 9 ∧ p.result ≠ 0) ∨ (c = 10 ∧ p.result = 0)
  · rw [if_pos h9] at hmet
    rw [hmet]
    rcases h9 with ⟨rfl, h9⟩ | ⟨rfl, h9⟩
    · have hrb : (p.result != 0) = true := by simpa using h9
      refine gom ?_
      refine WC.ret ?_
      refine WK.un ?_
      exact QF.p1 (.inl rfl) rfl (.tmp rfl) (⟨rfl, hgl, rfl⟩)
    · have hrb : (p.result == 0) = true := by simpa using h9
      refine gom ?_
      refine WC.ret ?_
      refine WK.un ?_
      exact QF.p1 (.inl rfl) rfl (.tmp rfl) (⟨rfl, hgl, rfl⟩)
  rw [if_neg h9] at hmet
  have hkf := rkinds_fn _ w p CA NA PA cc nc pc (hW.mono hgl) QA (some ⟨ib, io, none⟩) qc ic ⟨true, false, sv, sk⟩ VA vc SA sc (hS.mono hgl) hv hk c n ho (by dsimp only; omega)
  dsimp only at hkf
  by_cases d9 : c = 9
  · subst d9
    have hres : p.result = 0 := by
      apply Decidable.byContradiction; intro h; exact h9 (.inl ⟨rfl, h⟩)
    have hrb : (p.result != 0) = false := by rw [hres]; rfl
    refine gom ?_
    refine WL.op (by kernel_rfl) (OW.callK rfl (hkf) rfl fun v' G' H' h hg => ?_)
    obtain ⟨he, rfl, rfl⟩ := h
    cases he
    cases hb5 : kindsR w p ((9 : Int), (n : Int)) ⟨true, false, sv, sk⟩ (sk.drop (sk.length - (effC w sv ((9 : Int), (n : Int))).1)) with
    | true =>
      rw [hb5, if_neg (by simp)] at hmet
      rw [hmet]
      refine gom ?_
      refine WC.ret ?_
      refine WK.un ?_
      exact QF.p1 (.inl rfl) rfl (.tmp rfl) (⟨rfl, hgl, rfl⟩)
    | false =>
      rw [hb5, if_pos rfl] at hmet
      rw [hmet]
      refine gom ?_
      refine WC.ret ?_
      refine WK.un ?_
      exact QF.p1 (.inl rfl) rfl (.tmp rfl) (⟨rfl, hgl, rfl⟩)
  have y10 : (c == 9) = false := by simpa using d9
  by_cases d10 : c = 10
  · subst d10
    have hres : p.result ≠ 0 := fun h => h9 (.inr ⟨rfl, h⟩)
    have hrb : (p.result == 0) = false := by simpa using hres
    refine gom ?_
    refine WL.op (by kernel_rfl) (OW.callK rfl (hkf) rfl fun v' G' H' h hg => ?_)
    obtain ⟨he, rfl, rfl⟩ := h
    cases he
    cases hb5 : kindsR w p ((10 : Int), (n : Int)) ⟨true, false, sv, sk⟩ (sk.drop (sk.length - (effC w sv ((10 : Int), (n : Int))).1)) with
    | true =>
      rw [hb5, if_neg (by simp)] at hmet
      rw [hmet]
      refine gom ?_
      refine WC.ret ?_
      refine WK.un ?_
      exact QF.p1 (.inl rfl) rfl (.tmp rfl) (⟨rfl, hgl, rfl⟩)
    | false =>
      rw [hb5, if_pos rfl] at hmet
      rw [hmet]
      refine gom ?_
      refine WC.ret ?_
      refine WK.un ?_
      exact QF.p1 (.inl rfl) rfl (.tmp rfl) (⟨rfl, hgl, rfl⟩)
  have y11 : (c == 10) = false := by simpa using d10
  refine gom ?_
  refine WL.op (by kernel_rfl) (OW.callK rfl (hkf) rfl fun v' G' H' h hg => ?_)
  obtain ⟨he, rfl, rfl⟩ := h
  cases he
  cases hb5 : kindsR w p (c, (n : Int)) ⟨true, false, sv, sk⟩ (sk.drop (sk.length - (effC w sv (c, (n : Int))).1)) with
  | true =>
    rw [hb5, if_neg (by simp)] at hmet
    rw [hmet]
    refine gom ?_
    refine WC.ret ?_
    refine WK.un ?_
    exact QF.p1 (.inl rfl) rfl (.tmp rfl) (⟨rfl, hgl, rfl⟩)
  | false =>
    rw [hb5, if_pos rfl] at hmet
    rw [hmet]
    refine gom ?_
    refine WC.ret ?_
    refine WK.un ?_
    exact QF.p1 (.inl rfl) rfl (.tmp rfl) (⟨rfl, hgl, rfl⟩)
end
end Go.Proofs.YtkmigdmdppkpoaaGreatDoor.Gb
