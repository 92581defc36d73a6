/- ObjectWhole, where what it reads is of bounded bulk. -/
import Derived.Test.YtcnlkfocbbkdhaaGreatDoorVj
import Derived.Test.YtcnlkfocbbkdhaaGreatDoorTie
import Derived.Test.YtcnlkfocbbkdhaaGreatDoorCards
import Derived.SevenTiedAt
import Derived.ShutString
import Derived.ChangeMaps5
import Derived.Deep.DeepHandedRow
set_option linter.unusedVariables false
set_option linter.unusedSimpArgs false
set_option linter.unusedSectionVars false
namespace Go.Proofs.YtcnlkfocbbkdhaaGreatDoor.objectWhole
open Go Go.Proofs Go.ChangeShapes Go.WideShapes Go.ChangeAt Go.RowKit Go.ChangeMaps
attribute [local irreducible] Tryz.prog
theorem walk (W:World) (hE:Gb.Env (Gb.Gw W)) (hX:Gb.Ex (Gb.covs []) W) (l:List Gb.Ob) (B:Option Addr) (b:Nat) (hB:l.length≤b) (hS:Gb.Sl Gb.Kd.ob (Gb.Gw W) B l) (hL:Gb.LLim l) (hI:∀o∈l,Gb.OInt o)
  (x:List Int) (A:Option Addr) (c:Nat) (hD:Gb.Sl (Gb.Kd.int .u8) (Gb.Gw W) A x) (hc:x.length≤c) (hl:x.length≤1048576) (hx:∀z∈x,0≤z∧z<256):
  Calls Tryz.prog 11 #[.slice B l.length b, .slice A x.length c] W fun e W'=>e= .returned (.bool true)∧Gb.Kept W W':=
 (Gb.lawWhole_fn (Gb.Gw W) hE B b l hS hL hI A x c hD hx (by omega)).keptG (R':=fun e=>e= .returned (.bool true)) (fun e G' H' h=>h.1) (Gb.Sat.whole W) hX
theorem own:ownKnob Tryz.prog.godebug=none:=by kernel_rfl
theorem laidOut:laidOutB Tryz.prog=true:=by kernel_rfl
theorem reads (os:Os) {H:Type} (enc:TypeId×Value→H):∃places,DataW.whole enc Tryz.prog ((World.laidAll Tryz.prog os Rows.objectWholeUptoRow.laid).forCall (fun _ _=>0) ⟨#[], #[.slice none 0 0, .slice none 0 0],[]⟩).memory Tryz.f11.params.toList Rows.objectWholeSpec.vars false (#[.slice none 0 0, .slice none 0 0]:Array Value).toList 8=some ([.nil, .nil],[],places):=
 ⟨[],by kernel_rfl⟩
set_option maxHeartbeats 8000000 in
set_option maxRecDepth 100000 in
theorem lifted (os:Os) (started:os.Started) (H:Type) (enc:TypeId×Value→H) (F:Stop.Interp):
  ReturnsInHanded {} Tryz.checked os 11 .any ((Rows.OpenSpec.upto Rows.objectWholeSpec).preRow enc Tryz.prog Tryz.f11 Rows.objectWholeUptoRow.domain false Rows.objectWholeUptoRow.laid) (((Rows.OpenSpec.upto Rows.objectWholeSpec).at F).post enc Tryz.prog Tryz.f11 false true false false):=by
 obtain⟨places,hx⟩:=reads os enc
 refine returnsInHanded_of_row (C:=Tryz.checked) (s:=Rows.OpenSpec.upto Rows.objectWholeSpec) own started (by kernel_rfl) Tryz.func11
  (Gb.witness_row (enc:=enc) (C:=Tryz.checked) false (World.laidAll Tryz.prog os Rows.objectWholeUptoRow.laid) #[.slice none 0 0, .slice none 0 0] (World.laidAll_os _ _ _) (World.shaped_of_ZipB (by kernel_rfl) (by kernel_rfl)) (by kernel_rfl)
   (OpenSpec.preRow_of_cond 8 hx (by kernel_rfl) (fun k hk=>by cases hk;kernel_rfl) (by kernel_rfl) (by rw[MakeChecks.laidMetH_plain _ _ _ (by kernel_rfl)];exact laidMet_laidAll _ (by kernel_rfl) (by kernel_rfl)))) ?_
 intro W base args ds gs before hval0 hW _ hcond _ hL hsh _
 rw[MakeChecks.laidMetH_plain _ _ _ (by kernel_rfl)]at hL
 have hE:=Gb.env_of (Lib.laidMet.reads hL (by simp[Rows.objectWholeUptoRow])) (Lib.laidMet.reads hL (by simp[Rows.objectWholeUptoRow])) hsh
 have hX:=Gb.ex_of (Lib.laidMet.reads hL (by simp[Rows.objectWholeUptoRow]))
 have hval:∀(j:Nat) t v,Tryz.f11.params[j]? =some t→args[j]? =some v→Value.okWide Tryz.prog W .any base t v:=hval0
 have hbk:=hcond _ rfl
 have hW':=hW
 obtain⟨p,q,hA0,hV,rfl,hfz,hnd⟩:=hW
 have hA:DataW.TrodAll enc Tryz.prog W 0 (fun _=>true) true Tryz.f11.params.toList args.toList ds p:=hA0
 rw[Tryz.params11]at hA hval
 obtain⟨v0,vs0,d0,ds0,p0,q0,hargs,rfl,rfl,h0,r0⟩:=trodAll_cons hA
 obtain⟨v1,vs1,d1,ds1,p1,q1,rfl,rfl,rfl,h1,r1⟩:=trodAll_cons r0
 obtain⟨rfl,rfl,rfl⟩:=trodAll_nil r1
 obtain rfl:args= #[v0,v1]:=by cases args;simp_all
 obtain⟨rfl,rfl⟩:=trodVars_none hV
 obtain⟨l0,A0,c0,rfl,hC0,hS0,hL0,hO0⟩:=Gb.open_objsU enc W (hval 0 22 v0 rfl rfl) h0 (Gb.bulk_of hbk (by simp))
 obtain⟨x1,A1,c1,rfl,hD1,hM1,hN1,hW1⟩:=Gb.open_bytesU enc W (hval 1 71 v1 rfl rfl) h1 (Gb.bulk_of hbk (by simp))
 clear hA0 hval0 hbk hcond
 refine(walk W hE hX l0 A0 c0 hC0 hS0 hL0 hO0 x1 A1 c1 hD1 hM1 hN1 hW1).mono fun e W' ⟨he,hg⟩=>?_
 subst he
 exact⟨_,rfl,_,_,_,[],_,[],hW',trodAll_mk1 (shut_bool Tryz.underlying4 _),(trodAll_cons_mk (Gb.Kept.trod laidOut (by kernel_rfl) (of_decide_eq_true (by kernel_rfl)) h0 hg) (trodAll_cons_mk (Gb.Kept.trod laidOut (by kernel_rfl) (of_decide_eq_true (by kernel_rfl)) h1 hg) trodAll_mk0)),rfl,hg.frame _,fun h=>by cases h⟩
theorem ovNamed:Tryz.pinned.checked.prog.funcNamed Rows.objectWholeUptoRow.func=some 11:=by kernel_rfl
set_option maxHeartbeats 8000000 in
theorem ovClosed:joinedFacts Tryz.pinned.checked.prog 11 Tryz.f11 ((Rows.OpenSpec.upto Rows.objectWholeSpec).bare) Rows.objectWholeUptoRow=true:=by
 unfold joinedFacts
 simp only[Bool.and_eq_true]
 repeat' apply And.intro
 all_goals (as_aux_lemma=>kernel_rfl)
theorem ovInst:Tryz.f11.isInstance Tryz.pinned.checked.prog Rows.objectWholeUptoRow.origin Rows.objectWholeUptoRow.targs:=of_decide_eq_true (by kernel_rfl)
theorem ovWrap:Tryz.f11.isWrapper Tryz.pinned.checked.prog Rows.objectWholeUptoRow.wrapper Rows.objectWholeUptoRow.mainSum:=by unfold Func.isWrapper;first | (rw[if_pos (by decide+kernel)];kernel_rfl) | (rw[if_neg (by decide+kernel)];exact⟨rfl,rfl⟩)
theorem over:Rows.ObjectWholeUptoSaid:=
 OpenClaim.holds_of_cond 11 Tryz.f11 rfl rfl rfl rfl rfl rfl rfl ⟨rfl,rfl,rfl,rfl,rfl⟩ rfl rfl rfl rfl rfl ovNamed Tryz.func11 ovClosed ovInst ovWrap
  (fun os started H enc _ F=>by rw[OpenClaim.pre_eq_preRow];exact lifted os started H enc F)
theorem prNamed:Tryz.prog.funcNamed "treadle/treadlelaw22.ObjectWhole" =some 11:=by kernel_rfl
theorem proved:Rows.ObjectWholeUptoCardSaid:=
 Claim7.holds_tied_plain_at .later [] _ _ _ _
  over (fun _ h=>by cases h) (by as_aux_lemma=>kernel_rfl) (fun _ h=>by cases h) objectWholeUpto_row_tie rfl ⟨rfl,rfl⟩ (by as_aux_lemma=>kernel_rfl) rfl
  (fun f fn hf hfn=>by
   obtain rfl:f=11:=Option.some.inj (prNamed.symm.trans hf) |>.symm
   obtain rfl:fn=Tryz.f11:=(Option.some.inj (Tryz.func11.symm.trans hfn)).symm
   exact⟨by as_aux_lemma=>kernel_rfl,fun j t ht=>by
    rw[Tryz.params11]at ht
    have hm:t∈[22,71]:=by simpa using Array.mem_of_getElem? ht
    have hall:([22,71].all fun u=> !Tryz.prog.wantsStandIn u)=true:=by kernel_rfl
    exact(show Tryz.prog.wantsStandIn t=false by simpa using List.all_eq_true.1 hall t hm)⟩)
  (by as_aux_lemma=>kernel_rfl)
#print axioms proved
end Go.Proofs.YtcnlkfocbbkdhaaGreatDoor.objectWhole
