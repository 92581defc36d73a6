/- ObjectBack, where what it reads is of bounded bulk. -/
import Derived.Test.YtcnlkfocbbkdhaaGreatDoorUk
import Derived.Test.YtcnlkfocbbkdhaaGreatDoorTie
import Derived.Test.YtcnlkfocbbkdhaaGreatDoorCards
import Derived.SevenTiedAt
import Derived.ShutString
import Derived.ChangeMaps5
import Derived.Deep.DeepHandedRow
set_option linter.unusedVariables false
set_option linter.unusedSimpArgs false
set_option linter.unusedSectionVars false
namespace Go.Proofs.YtcnlkfocbbkdhaaGreatDoor.objectBack
open Go Go.Proofs Go.ChangeShapes Go.WideShapes Go.ChangeAt Go.RowKit Go.ChangeMaps
attribute [local irreducible] Tryz.prog
theorem walk (W:World) (hE:Gb.Env (Gb.Gw W)) (hX:Gb.Ex (Gb.covs []) W) (o:Gb.Ob) (CA NA PA:Option Addr) (cc nc pc:Nat) (hO:Gb.ORep (Gb.Gw W) o CA NA PA) (hM:Gb.mOb o≤1048576) (hI:Gb.OInt o)
  (x:List Int) (A:Option Addr) (c:Nat) (hD:Gb.Sl (Gb.Kd.int .u8) (Gb.Gw W) A x) (hc:x.length≤c) (hl:x.length≤1048576) (hx:∀z∈x,0≤z∧z<256):
  Calls Tryz.prog 10 #[.agg (Gb.obC o CA NA PA cc nc pc), .slice A x.length c] W fun e W'=>e= .returned (.bool true)∧Gb.Kept W W':=
 (Gb.lawBack_fn (Gb.Gw W) hE o CA NA PA cc nc pc hO hM (fun v hv=>Gb.i64_in (hI.cs v hv).2) A x c hD hx (by omega)).keptG (R':=fun e=>e= .returned (.bool true)) (fun e G' H' h=>h.1) (Gb.Sat.whole W) hX
theorem own:ownKnob Tryz.prog.godebug=none:=by kernel_rfl
theorem laidOut:laidOutB Tryz.prog=true:=by kernel_rfl
theorem reads (os:Os) {H:Type} (enc:TypeId×Value→H):∃places,DataW.whole enc Tryz.prog ((World.laidAll Tryz.prog os Rows.objectBackUptoRow.laid).forCall (fun _ _=>0) ⟨#[], #[.agg #[.string ⟨#[]⟩, .slice none 0 0, .slice none 0 0, .slice none 0 0], .slice none 0 0],[]⟩).memory Tryz.f10.params.toList Rows.objectBackSpec.vars false (#[.agg #[.string ⟨#[]⟩, .slice none 0 0, .slice none 0 0, .slice none 0 0], .slice none 0 0]:Array Value).toList 8=some ([.agg [.lit (.string []), .nil, .nil, .nil], .nil],[],places):=
 ⟨[],by kernel_rfl⟩
set_option maxHeartbeats 8000000 in
set_option maxRecDepth 100000 in
theorem lifted (os:Os) (started:os.Started) (H:Type) (enc:TypeId×Value→H) (F:Stop.Interp):
  ReturnsInHanded {} Tryz.checked os 10 .any ((Rows.OpenSpec.upto Rows.objectBackSpec).preRow enc Tryz.prog Tryz.f10 Rows.objectBackUptoRow.domain false Rows.objectBackUptoRow.laid) (((Rows.OpenSpec.upto Rows.objectBackSpec).at F).post enc Tryz.prog Tryz.f10 false true false false):=by
 obtain⟨places,hx⟩:=reads os enc
 refine returnsInHanded_of_row (C:=Tryz.checked) (s:=Rows.OpenSpec.upto Rows.objectBackSpec) own started (by kernel_rfl) Tryz.func10
  (Gb.witness_row (enc:=enc) (C:=Tryz.checked) false (World.laidAll Tryz.prog os Rows.objectBackUptoRow.laid) #[.agg #[.string ⟨#[]⟩, .slice none 0 0, .slice none 0 0, .slice none 0 0], .slice none 0 0] (World.laidAll_os _ _ _) (World.shaped_of_ZipB (by kernel_rfl) (by kernel_rfl)) (by kernel_rfl)
   (OpenSpec.preRow_of_cond 8 hx (by kernel_rfl) (fun k hk=>by cases hk;kernel_rfl) (by kernel_rfl) (by rw[MakeChecks.laidMetH_plain _ _ _ (by kernel_rfl)];exact laidMet_laidAll _ (by kernel_rfl) (by kernel_rfl)))) ?_
 intro W base args ds gs before hval0 hW _ hcond _ hL hsh _
 rw[MakeChecks.laidMetH_plain _ _ _ (by kernel_rfl)]at hL
 have hE:=Gb.env_of (Lib.laidMet.reads hL (by simp[Rows.objectBackUptoRow])) (Lib.laidMet.reads hL (by simp[Rows.objectBackUptoRow])) hsh
 have hX:=Gb.ex_of (Lib.laidMet.reads hL (by simp[Rows.objectBackUptoRow]))
 have hval:∀(j:Nat) t v,Tryz.f10.params[j]? =some t→args[j]? =some v→Value.okWide Tryz.prog W .any base t v:=hval0
 have hbk:=hcond _ rfl
 have hW':=hW
 obtain⟨p,q,hA0,hV,rfl,hfz,hnd⟩:=hW
 have hA:DataW.TrodAll enc Tryz.prog W 0 (fun _=>true) true Tryz.f10.params.toList args.toList ds p:=hA0
 rw[Tryz.params10]at hA hval
 obtain⟨v0,vs0,d0,ds0,p0,q0,hargs,rfl,rfl,h0,r0⟩:=trodAll_cons hA
 obtain⟨v1,vs1,d1,ds1,p1,q1,rfl,rfl,rfl,h1,r1⟩:=trodAll_cons r0
 obtain⟨rfl,rfl,rfl⟩:=trodAll_nil r1
 obtain rfl:args= #[v0,v1]:=by cases args;simp_all
 obtain⟨rfl,rfl⟩:=trodVars_none hV
 obtain⟨o0,CA0,NA0,PA0,cc0,nc0,pc0,rfl,hO0,hM0,hI0⟩:=Gb.open_objM enc W (hval 0 38 v0 rfl rfl) h0 (Gb.bulk_of hbk (by simp))
 obtain⟨x1,A1,c1,rfl,hD1,hM1,hN1,hW1⟩:=Gb.open_bytesU enc W (hval 1 71 v1 rfl rfl) h1 (Gb.bulk_of hbk (by simp))
 clear hA0 hval0 hbk hcond
 refine(walk W hE hX o0 CA0 NA0 PA0 cc0 nc0 pc0 hO0 hM0 hI0 x1 A1 c1 hD1 hM1 hN1 hW1).mono fun e W' ⟨he,hg⟩=>?_
 subst he
 exact⟨_,rfl,_,_,_,[],_,[],hW',trodAll_mk1 (shut_bool Tryz.underlying4 _),(trodAll_cons_mk (Gb.Kept.trod laidOut (by kernel_rfl) (of_decide_eq_true (by kernel_rfl)) h0 hg) (trodAll_cons_mk (Gb.Kept.trod laidOut (by kernel_rfl) (of_decide_eq_true (by kernel_rfl)) h1 hg) trodAll_mk0)),rfl,hg.frame _,fun h=>by cases h⟩
theorem ovNamed:Tryz.pinned.checked.prog.funcNamed Rows.objectBackUptoRow.func=some 10:=by kernel_rfl
set_option maxHeartbeats 8000000 in
theorem ovClosed:joinedFacts Tryz.pinned.checked.prog 10 Tryz.f10 ((Rows.OpenSpec.upto Rows.objectBackSpec).bare) Rows.objectBackUptoRow=true:=by
 unfold joinedFacts
 simp only[Bool.and_eq_true]
 repeat' apply And.intro
 all_goals (as_aux_lemma=>kernel_rfl)
theorem ovInst:Tryz.f10.isInstance Tryz.pinned.checked.prog Rows.objectBackUptoRow.origin Rows.objectBackUptoRow.targs:=of_decide_eq_true (by kernel_rfl)
theorem ovWrap:Tryz.f10.isWrapper Tryz.pinned.checked.prog Rows.objectBackUptoRow.wrapper Rows.objectBackUptoRow.mainSum:=by unfold Func.isWrapper;first | (rw[if_pos (by decide+kernel)];kernel_rfl) | (rw[if_neg (by decide+kernel)];exact⟨rfl,rfl⟩)
theorem over:Rows.ObjectBackUptoSaid:=
 OpenClaim.holds_of_cond 10 Tryz.f10 rfl rfl rfl rfl rfl rfl rfl ⟨rfl,rfl,rfl,rfl,rfl⟩ rfl rfl rfl rfl rfl ovNamed Tryz.func10 ovClosed ovInst ovWrap
  (fun os started H enc _ F=>by rw[OpenClaim.pre_eq_preRow];exact lifted os started H enc F)
theorem prNamed:Tryz.prog.funcNamed "treadle/treadlelaw22.ObjectBack" =some 10:=by kernel_rfl
theorem proved:Rows.ObjectBackUptoCardSaid:=
 Claim7.holds_tied_plain_at .later [] _ _ _ _
  over (fun _ h=>by cases h) (by as_aux_lemma=>kernel_rfl) (fun _ h=>by cases h) objectBackUpto_row_tie rfl ⟨rfl,rfl⟩ (by as_aux_lemma=>kernel_rfl) rfl
  (fun f fn hf hfn=>by
   obtain rfl:f=10:=Option.some.inj (prNamed.symm.trans hf) |>.symm
   obtain rfl:fn=Tryz.f10:=(Option.some.inj (Tryz.func10.symm.trans hfn)).symm
   exact⟨by as_aux_lemma=>kernel_rfl,fun j t ht=>by
    rw[Tryz.params10]at ht
    have hm:t∈[38,71]:=by simpa using Array.mem_of_getElem? ht
    have hall:([38,71].all fun u=> !Tryz.prog.wantsStandIn u)=true:=by kernel_rfl
    exact(show Tryz.prog.wantsStandIn t=false by simpa using List.all_eq_true.1 hall t hm)⟩)
  (by as_aux_lemma=>kernel_rfl)
#print axioms proved
end Go.Proofs.YtcnlkfocbbkdhaaGreatDoor.objectBack
