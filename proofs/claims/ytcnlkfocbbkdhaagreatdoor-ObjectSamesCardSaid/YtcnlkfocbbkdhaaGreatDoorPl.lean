/- ObjectSames. -/
import Derived.Test.YtcnlkfocbbkdhaaGreatDoorPk
import Derived.Test.YtcnlkfocbbkdhaaGreatDoorTie
import Derived.Test.YtcnlkfocbbkdhaaGreatDoorCards
import Derived.SevenTiedAt
import Derived.ShutString
import Derived.ChangeMaps5
set_option linter.unusedVariables false
set_option linter.unusedSimpArgs false
set_option linter.unusedSectionVars false
namespace Go.Proofs.YtcnlkfocbbkdhaaGreatDoor.objectSames
open Go Go.Proofs Go.ChangeShapes Go.WideShapes Go.ChangeAt Go.RowKit Go.ChangeMaps
attribute [local irreducible] Tryz.prog
theorem walk (W : World) (hE : Gb.Env (Gb.Gw W)) (hX : Gb.Ex (Gb.covs []) W) (a : Gb.Ob) (CA0 NA0 PA0 : Option Addr) (cc0 nc0 pc0 : Nat) (hO0 : Gb.ORep (Gb.Gw W) a CA0 NA0 PA0) (hL0 : Gb.SLim a) (b : Gb.Ob) (CA1 NA1 PA1 : Option Addr) (cc1 nc1 pc1 : Nat) (hO1 : Gb.ORep (Gb.Gw W) b CA1 NA1 PA1) (hL1 : Gb.SLim b) :
  Calls Tryz.prog 7 #[.agg (Gb.obC a CA0 NA0 PA0 cc0 nc0 pc0), .agg (Gb.obC b CA1 NA1 PA1 cc1 nc1 pc1)] W fun e W' => e = .returned (.bool true) ∧ Gb.Kept W W' :=
 (Gb.sames_fn (Gb.Gw W) hE a b CA0 NA0 PA0 CA1 NA1 PA1 cc0 nc0 pc0 cc1 nc1 pc1 hO0 hO1 hL0).keptG (R' := fun e => e = .returned (.bool true)) (fun e G' H' h => h.1) (Gb.Sat.whole W) hX
theorem own : ownKnob Tryz.prog.godebug = none := by kernel_rfl
theorem laidOut : laidOutB Tryz.prog = true := by kernel_rfl
set_option maxHeartbeats 8000000 in
set_option maxRecDepth 100000 in
theorem lifted (os : Os) (started : os.Started) (H : Type) (enc : TypeId × Value → H) :
  ReturnsInHanded {} Tryz.checked os 7 .any (fun w args => (Rows.objectSamesSpec.pre enc Tryz.prog Tryz.f7 [] false w args ∧ laidMetH Tryz.prog Rows.objectSamesRow.laid w) ∧ sizedMet enc Tryz.prog Tryz.f7 (OpenSpec.ofChange Rows.objectSamesSpec) false w args)
   (Rows.objectSamesSpec.post enc Tryz.prog Tryz.f7 false true false false) := by
 refine Gb.handed_all (C := Tryz.checked) (X := fun w => laidMetH Tryz.prog Rows.objectSamesRow.laid w) (fun _ _ hh h => h.of_heap hh) own started (by kernel_rfl) Tryz.func7
  (ChangeSpec.witness_shaped (enc := enc) (C := Tryz.checked) (os := os) (X := fun w _ => laidMetH Tryz.prog Rows.objectSamesRow.laid w) false (World.laidAll Tryz.prog os Rows.objectSamesRow.laid) #[.agg #[.string ⟨#[]⟩, .slice none 0 0, .slice none 0 0, .slice none 0 0], .agg #[.string ⟨#[]⟩, .slice none 0 0, .slice none 0 0, .slice none 0 0]] 8 (World.laidAll_os _ _ _)
   (World.shaped_of_ZipB (by kernel_rfl) (by kernel_rfl)) (by kernel_rfl) (by kernel_rfl) (by kernel_rfl)
   (by rw [MakeChecks.laidMetH_plain _ _ _ (by kernel_rfl)]; exact laidMet_laidAll _ (by kernel_rfl) (by kernel_rfl))) ?_
 intro W base args ds gs before hval0 hW hsz0 hL hsh
 rw [MakeChecks.laidMetH_plain _ _ _ (by kernel_rfl)] at hL
 have hE := Gb.env_of (Lib.laidMet.reads hL (by simp [Rows.objectSamesRow])) (Lib.laidMet.reads hL (by simp [Rows.objectSamesRow])) hsh
 have hX := Gb.ex_of (Lib.laidMet.reads hL (by simp [Rows.objectSamesRow]))
 have hsz : (DataW.weightsEach Tryz.prog (Tryz.f7.params.toList ++ Rows.objectSamesSpec.plain.varTypes Tryz.prog) (ds ++ gs)).all (· ≤ reachBytes) = true := hsz0
 have hval : ∀ (j : Nat) t v, Tryz.f7.params[j]? = some t → args[j]? = some v → Value.okWide Tryz.prog W .any base t v := hval0
 have hW' := hW
 obtain ⟨p, q, hA0, hV, rfl, hfz, hnd⟩ := hW
 have hA : DataW.TrodAll enc Tryz.prog W 0 (fun _ => true) true Tryz.f7.params.toList args.toList ds p := hA0
 rw [Tryz.params7] at hA hval hsz
 obtain ⟨v0, vs0, d0, ds0, p0, q0, hargs, rfl, rfl, h0, r0⟩ := trodAll_cons hA
 obtain ⟨v1, vs1, d1, ds1, p1, q1, rfl, rfl, rfl, h1, r1⟩ := trodAll_cons r0
 obtain ⟨rfl, rfl, rfl⟩ := trodAll_nil r1
 obtain rfl : args = #[v0, v1] := by cases args; simp_all
 obtain ⟨rfl, rfl⟩ := trodVars_none hV
 obtain ⟨o0, CA0, NA0, PA0, cc0, nc0, pc0, rfl, hO0, hL0⟩ := Gb.open_obj enc W (hval 0 38 v0 rfl rfl) h0 (Gb.sized_each hsz (j := 0) rfl rfl)
 obtain ⟨o1, CA1, NA1, PA1, cc1, nc1, pc1, rfl, hO1, hL1⟩ := Gb.open_obj enc W (hval 1 38 v1 rfl rfl) h1 (Gb.sized_each hsz (j := 1) rfl rfl)
 clear hA0 hval0 hsz0 hsz
 refine (walk W hE hX o0 CA0 NA0 PA0 cc0 nc0 pc0 hO0 hL0 o1 CA1 NA1 PA1 cc1 nc1 pc1 hO1 hL1).mono fun e W' ⟨he, hg⟩ => ?_
 subst he
 exact ⟨_, rfl, _, _, _, [], _, [], hW', trodAll_mk1 (shut_bool Tryz.underlying4 _), (trodAll_cons_mk (Gb.Kept.trod laidOut (by kernel_rfl) (of_decide_eq_true (by kernel_rfl)) h0 hg) (trodAll_cons_mk (Gb.Kept.trod laidOut (by kernel_rfl) (of_decide_eq_true (by kernel_rfl)) h1 hg) trodAll_mk0)), rfl, hg.frame _, fun h => by cases h⟩
theorem ovNamed : Tryz.pinned.checked.prog.funcNamed Rows.objectSamesRow.func = some 7 := by kernel_rfl
set_option maxHeartbeats 8000000 in
theorem ovClosed : joinedFacts Tryz.pinned.checked.prog 7 Tryz.f7 Rows.objectSamesSpec Rows.objectSamesRow = true := by
 unfold joinedFacts
 simp only [Bool.and_eq_true]
 repeat' apply And.intro
 all_goals (as_aux_lemma => kernel_rfl)
theorem ovInst : Tryz.f7.isInstance Tryz.pinned.checked.prog Rows.objectSamesRow.origin Rows.objectSamesRow.targs := of_decide_eq_true (by kernel_rfl)
theorem ovWrap : Tryz.f7.isWrapper Tryz.pinned.checked.prog Rows.objectSamesRow.wrapper Rows.objectSamesRow.mainSum := by unfold Func.isWrapper; first | (rw [if_pos (by decide +kernel)]; kernel_rfl) | (rw [if_neg (by decide +kernel)]; exact ⟨rfl, rfl⟩)
theorem over : Rows.objectSamesRow.holds Tryz.pinned (OpenSpec.ofChange Rows.objectSamesSpec) :=
 OpenClaim.holds_of_wide 7 Tryz.f7 rfl rfl rfl rfl rfl rfl rfl ⟨rfl, rfl, rfl, rfl, rfl⟩ rfl rfl rfl rfl rfl ovNamed Tryz.func7 ovClosed ovInst ovWrap
  (fun os started H enc _ => lifted os started H enc)
theorem prNamed : Tryz.prog.funcNamed "treadle/treadlelaw22.ObjectSames" = some 7 := by kernel_rfl
theorem proved : Rows.ObjectSamesCardSaid :=
 Claim7.holds_tied_plain_at .later [] [.data, .data, .data, .data, .sentinel, .sentinel, .pinned] true (true, "0785b4fc4b9ea9146e29a5d086a67957060c21a85025a4b61498d097055deb6f") true
  over (fun _ h => by cases h) (by as_aux_lemma => kernel_rfl) (fun _ h => by cases h) objectSames_row_tie rfl ⟨rfl, rfl⟩ (by as_aux_lemma => kernel_rfl) rfl
  (fun f fn hf hfn => by
   obtain rfl : f = 7 := Option.some.inj (prNamed.symm.trans hf) |>.symm
   obtain rfl : fn = Tryz.f7 := (Option.some.inj (Tryz.func7.symm.trans hfn)).symm
   exact ⟨by as_aux_lemma => kernel_rfl, fun j t ht => by
    rw [Tryz.params7] at ht
    have hm : t ∈ [38, 38] := by simpa using Array.mem_of_getElem? ht
    have hall : ([38, 38].all fun u => !Tryz.prog.wantsStandIn u) = true := by kernel_rfl
    exact (show Tryz.prog.wantsStandIn t = false by simpa using List.all_eq_true.1 hall t hm)⟩)
  (by as_aux_lemma => kernel_rfl)
#print axioms proved
end Go.Proofs.YtcnlkfocbbkdhaaGreatDoor.objectSames
