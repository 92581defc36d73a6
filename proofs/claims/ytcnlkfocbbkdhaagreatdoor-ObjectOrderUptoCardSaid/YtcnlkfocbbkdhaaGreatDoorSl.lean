/- ObjectOrder, where what it reads is of bounded bulk. -/
import Derived.Test.YtcnlkfocbbkdhaaGreatDoorSk
import Derived.Test.YtcnlkfocbbkdhaaGreatDoorTie
import Derived.Test.YtcnlkfocbbkdhaaGreatDoorCards
import Derived.SevenTiedAt
import Derived.ShutString
import Derived.ChangeMaps5
import Derived.Deep.DeepHandedRow
set_option linter.unusedVariables false
set_option linter.unusedSimpArgs false
set_option linter.unusedSectionVars false
namespace Go.Proofs.YtcnlkfocbbkdhaaGreatDoor.objectOrder
open Go Go.Proofs Go.ChangeShapes Go.WideShapes Go.ChangeAt Go.RowKit Go.ChangeMaps
attribute [local irreducible] Tryz.prog
theorem walk (W : World) (hE : Gb.Env (Gb.Gw W)) (hX : Gb.Ex (Gb.covs []) W) (l : List Gb.Ob) (A : Option Addr) (c : Nat) (hC : l.length ≤ c) (hS : Gb.Sl Gb.Kd.ob (Gb.Gw W) A l) (hM : (l.map Gb.mOb).sum ≤ 1048576) (z : Int) (hz : (Lit.int .u8 z).wf = true)
  (xp f : Nat) (x : List Gb.V) (B : Option Addr) (d : Nat) (hP : xp < 256) (hF : f < 65536) (hA : Gb.Sl Gb.Kd.val (Gb.Gw W) B x) (hN : x.length ≤ 1048576) :
  Calls Tryz.prog 6 #[.slice A l.length c, .int .u8 z, .agg #[.int .u8 (xp : Int), .slice B x.length d, .int .u16 (f : Int)]] W fun e W' => e = .returned (.bool true) ∧ Gb.Kept W W' := by
 obtain ⟨n, rfl, hn⟩ := Gb.wf_nat8 hz
 exact (Gb.order_fn (Gb.Gw W) hE A c l hC hS hM n xp f hn hP hF B d x hA hN).keptG (R' := fun e => e = .returned (.bool true)) (fun e G' H' h => h.1) (Gb.Sat.whole W) hX
theorem own : ownKnob Tryz.prog.godebug = none := by kernel_rfl
theorem laidOut : laidOutB Tryz.prog = true := by kernel_rfl
theorem reads (os : Os) {H : Type} (enc : TypeId × Value → H) : ∃ places, DataW.whole enc Tryz.prog ((World.laidAll Tryz.prog os Rows.objectOrderUptoRow.laid).forCall (fun _ _ => 0) ⟨#[], #[.slice none 0 0, .int .u8 0, .agg #[.int .u8 0, .slice none 0 0, .int .u16 0]], []⟩).memory Tryz.f6.params.toList Rows.objectOrderSpec.vars false (#[.slice none 0 0, .int .u8 0, .agg #[.int .u8 0, .slice none 0 0, .int .u16 0]] : Array Value).toList 8 = some ([.nil, .lit (.int .u8 0), .agg [.lit (.int .u8 0), .nil, .lit (.int .u16 0)]], [], places) :=
 ⟨[], by kernel_rfl⟩
set_option maxHeartbeats 8000000 in
set_option maxRecDepth 100000 in
theorem lifted (os : Os) (started : os.Started) (H : Type) (enc : TypeId × Value → H) (F : Stop.Interp) :
  ReturnsInHanded {} Tryz.checked os 6 .any ((Rows.OpenSpec.upto Rows.objectOrderSpec).preRow enc Tryz.prog Tryz.f6 Rows.objectOrderUptoRow.domain false Rows.objectOrderUptoRow.laid) (((Rows.OpenSpec.upto Rows.objectOrderSpec).at F).post enc Tryz.prog Tryz.f6 false true false false) := by
 obtain ⟨places, hx⟩ := reads os enc
 refine returnsInHanded_of_row (C := Tryz.checked) (s := Rows.OpenSpec.upto Rows.objectOrderSpec) own started (by kernel_rfl) Tryz.func6
  (Gb.witness_row (enc := enc) (C := Tryz.checked) false (World.laidAll Tryz.prog os Rows.objectOrderUptoRow.laid) #[.slice none 0 0, .int .u8 0, .agg #[.int .u8 0, .slice none 0 0, .int .u16 0]] (World.laidAll_os _ _ _) (World.shaped_of_ZipB (by kernel_rfl) (by kernel_rfl)) (by kernel_rfl)
   (OpenSpec.preRow_of_cond 8 hx (by kernel_rfl) (fun k hk => by cases hk; kernel_rfl) (by kernel_rfl) (by rw [MakeChecks.laidMetH_plain _ _ _ (by kernel_rfl)]; exact laidMet_laidAll _ (by kernel_rfl) (by kernel_rfl)))) ?_
 intro W base args ds gs before hval0 hW _ hcond _ hL hsh _
 rw [MakeChecks.laidMetH_plain _ _ _ (by kernel_rfl)] at hL
 have hE := Gb.env_of (Lib.laidMet.reads hL (by simp [Rows.objectOrderUptoRow])) (Lib.laidMet.reads hL (by simp [Rows.objectOrderUptoRow])) hsh
 have hX := Gb.ex_of (Lib.laidMet.reads hL (by simp [Rows.objectOrderUptoRow]))
 have hval : ∀ (j : Nat) t v, Tryz.f6.params[j]? = some t → args[j]? = some v → Value.okWide Tryz.prog W .any base t v := hval0
 have hbk := hcond _ rfl
 have hW' := hW
 obtain ⟨p, q, hA0, hV, rfl, hfz, hnd⟩ := hW
 have hA : DataW.TrodAll enc Tryz.prog W 0 (fun _ => true) true Tryz.f6.params.toList args.toList ds p := hA0
 rw [Tryz.params6] at hA hval
 obtain ⟨v0, vs0, d0, ds0, p0, q0, hargs, rfl, rfl, h0, r0⟩ := trodAll_cons hA
 obtain ⟨v1, vs1, d1, ds1, p1, q1, rfl, rfl, rfl, h1, r1⟩ := trodAll_cons r0
 obtain ⟨v2, vs2, d2, ds2, p2, q2, rfl, rfl, rfl, h2, r2⟩ := trodAll_cons r1
 obtain ⟨rfl, rfl, rfl⟩ := trodAll_nil r2
 obtain rfl : args = #[v0, v1, v2] := by cases args; simp_all
 obtain ⟨rfl, rfl⟩ := trodVars_none hV
 obtain ⟨l0, A0, c0, rfl, hC0, hS0, hM0⟩ := Gb.open_objsM enc W (hval 0 22 v0 rfl rfl) h0 (Gb.bulk_of hbk (by simp))
 obtain ⟨a1, rfl, rfl, rfl, w1⟩ := open_int Tryz.underlying5 (hval 1 5 v1 rfl rfl) h1
 obtain ⟨xp2, f2, x2, A2, c2, rfl, hP2, hF2, hS2, hN2⟩ := Gb.open_entryU enc W (hval 2 62 v2 rfl rfl) h2 (Gb.bulk_of hbk (by simp))
 clear hA0 hval0 hbk hcond
 refine (walk W hE hX l0 A0 c0 hC0 hS0 hM0 a1 w1 xp2 f2 x2 A2 c2 hP2 hF2 hS2 hN2).mono fun e W' ⟨he, hg⟩ => ?_
 subst he
 exact ⟨_, rfl, _, _, _, [], _, [], hW', trodAll_mk1 (shut_bool Tryz.underlying4 _), (trodAll_cons_mk (Gb.Kept.trod laidOut (by kernel_rfl) (of_decide_eq_true (by kernel_rfl)) h0 hg) (trodAll_cons_mk (shut_int Tryz.underlying5 w1) (trodAll_cons_mk (Gb.Kept.trod laidOut (by kernel_rfl) (of_decide_eq_true (by kernel_rfl)) h2 hg) trodAll_mk0))), rfl, hg.frame _, fun h => by cases h⟩
theorem ovNamed : Tryz.pinned.checked.prog.funcNamed Rows.objectOrderUptoRow.func = some 6 := by kernel_rfl
set_option maxHeartbeats 8000000 in
theorem ovClosed : joinedFacts Tryz.pinned.checked.prog 6 Tryz.f6 ((Rows.OpenSpec.upto Rows.objectOrderSpec).bare) Rows.objectOrderUptoRow = true := by
 unfold joinedFacts
 simp only [Bool.and_eq_true]
 repeat' apply And.intro
 all_goals (as_aux_lemma => kernel_rfl)
theorem ovInst : Tryz.f6.isInstance Tryz.pinned.checked.prog Rows.objectOrderUptoRow.origin Rows.objectOrderUptoRow.targs := of_decide_eq_true (by kernel_rfl)
theorem ovWrap : Tryz.f6.isWrapper Tryz.pinned.checked.prog Rows.objectOrderUptoRow.wrapper Rows.objectOrderUptoRow.mainSum := by unfold Func.isWrapper; first | (rw [if_pos (by decide +kernel)]; kernel_rfl) | (rw [if_neg (by decide +kernel)]; exact ⟨rfl, rfl⟩)
theorem over : Rows.ObjectOrderUptoSaid :=
 OpenClaim.holds_of_cond 6 Tryz.f6 rfl rfl rfl rfl rfl rfl rfl ⟨rfl, rfl, rfl, rfl, rfl⟩ rfl rfl rfl rfl rfl ovNamed Tryz.func6 ovClosed ovInst ovWrap
  (fun os started H enc _ F => by rw [OpenClaim.pre_eq_preRow]; exact lifted os started H enc F)
theorem prNamed : Tryz.prog.funcNamed "treadle/treadlelaw22.ObjectOrder" = some 6 := by kernel_rfl
theorem proved : Rows.ObjectOrderUptoCardSaid :=
 Claim7.holds_tied_plain_at .later [] _ _ _ _
  over (fun _ h => by cases h) (by as_aux_lemma => kernel_rfl) (fun _ h => by cases h) objectOrderUpto_row_tie rfl ⟨rfl, rfl⟩ (by as_aux_lemma => kernel_rfl) rfl
  (fun f fn hf hfn => by
   obtain rfl : f = 6 := Option.some.inj (prNamed.symm.trans hf) |>.symm
   obtain rfl : fn = Tryz.f6 := (Option.some.inj (Tryz.func6.symm.trans hfn)).symm
   exact ⟨by as_aux_lemma => kernel_rfl, fun j t ht => by
    rw [Tryz.params6] at ht
    have hm : t ∈ [22, 5, 62] := by simpa using Array.mem_of_getElem? ht
    have hall : ([22, 5, 62].all fun u => !Tryz.prog.wantsStandIn u) = true := by kernel_rfl
    exact (show Tryz.prog.wantsStandIn t = false by simpa using List.all_eq_true.1 hall t hm)⟩)
  (by as_aux_lemma => kernel_rfl)
#print axioms proved
end Go.Proofs.YtcnlkfocbbkdhaaGreatDoor.objectOrder
