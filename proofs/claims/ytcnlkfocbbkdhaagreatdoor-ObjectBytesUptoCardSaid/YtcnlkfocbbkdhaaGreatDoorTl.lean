/- ObjectBytes, where what it reads is of bounded bulk. -/
import Derived.Test.YtcnlkfocbbkdhaaGreatDoorTk
import Derived.Test.YtcnlkfocbbkdhaaGreatDoorTie
import Derived.Test.YtcnlkfocbbkdhaaGreatDoorCards
import Derived.SevenTiedAt
import Derived.ShutString
import Derived.ChangeMaps5
import Derived.Deep.DeepHandedRow
set_option linter.unusedVariables false
set_option linter.unusedSimpArgs false
set_option linter.unusedSectionVars false
namespace Go.Proofs.YtcnlkfocbbkdhaaGreatDoor.objectBytes
open Go Go.Proofs Go.ChangeShapes Go.WideShapes Go.ChangeAt Go.RowKit Go.ChangeMaps
attribute [local irreducible] Tryz.prog
theorem walk (W:World) (hE:Gb.Env (Gb.Gw W)) (hX:Gb.Ex (Gb.covs []) W) (o:Gb.Ob) (CA NA PA:Option Addr) (cc nc pc:Nat) (hO:Gb.ORep (Gb.Gw W) o CA NA PA) (hM:Gb.mOb o≤1048576) (hI:Gb.OInt o)
  (cs:List Gb.V) (prs:List Gb.Pr) (pts:List Gb.Pt) (DA QA TA:Option Addr) (dc qc tc:Nat) (hC:Gb.Sl Gb.Kd.val (Gb.Gw W) DA cs) (hP:Gb.Sl Gb.Kd.prc (Gb.Gw W) QA prs) (hT:Gb.Sl Gb.Kd.pnt (Gb.Gw W) TA pts) (hS:Gb.GSum cs prs pts) (hJ:∀v∈cs,Gb.i64 v.t∧Gb.i64 v.i):
  Calls Tryz.prog 9 #[.agg (Gb.obC o CA NA PA cc nc pc), .agg #[.slice DA cs.length dc, .slice QA prs.length qc, .slice TA pts.length tc]] W fun e W'=>e= .returned (.bool true)∧Gb.Kept W W':=
 (Gb.lawBytes_fn (Gb.Gw W) hE o CA NA PA cc nc pc hO hM (fun v hv=>Gb.i64_in (hI.cs v hv).2) cs prs pts DA QA TA dc qc tc hC hP hT hS (fun v hv=>Gb.i64_in (hJ v hv).2)).keptG (R':=fun e=>e= .returned (.bool true)) (fun e G' H' h=>h.1) (Gb.Sat.whole W) hX
theorem own:ownKnob Tryz.prog.godebug=none:=by kernel_rfl
theorem laidOut:laidOutB Tryz.prog=true:=by kernel_rfl
theorem reads (os:Os) {H:Type} (enc:TypeId×Value→H):∃places,DataW.whole enc Tryz.prog ((World.laidAll Tryz.prog os Rows.objectBytesUptoRow.laid).forCall (fun _ _=>0) ⟨#[], #[.agg #[.string ⟨#[]⟩, .slice none 0 0, .slice none 0 0, .slice none 0 0], .agg #[.slice none 0 0, .slice none 0 0, .slice none 0 0]],[]⟩).memory Tryz.f9.params.toList Rows.objectBytesSpec.vars false (#[.agg #[.string ⟨#[]⟩, .slice none 0 0, .slice none 0 0, .slice none 0 0], .agg #[.slice none 0 0, .slice none 0 0, .slice none 0 0]]:Array Value).toList 8=some ([.agg [.lit (.string []), .nil, .nil, .nil], .agg [.nil, .nil, .nil]],[],places):=
 ⟨[],by kernel_rfl⟩
set_option maxHeartbeats 8000000 in
set_option maxRecDepth 100000 in
theorem lifted (os:Os) (started:os.Started) (H:Type) (enc:TypeId×Value→H) (F:Stop.Interp):
  ReturnsInHanded {} Tryz.checked os 9 .any ((Rows.OpenSpec.upto Rows.objectBytesSpec).preRow enc Tryz.prog Tryz.f9 Rows.objectBytesUptoRow.domain false Rows.objectBytesUptoRow.laid) (((Rows.OpenSpec.upto Rows.objectBytesSpec).at F).post enc Tryz.prog Tryz.f9 false true false false):=by
 obtain⟨places,hx⟩:=reads os enc
 refine returnsInHanded_of_row (C:=Tryz.checked) (s:=Rows.OpenSpec.upto Rows.objectBytesSpec) own started (by kernel_rfl) Tryz.func9
  (Gb.witness_row (enc:=enc) (C:=Tryz.checked) false (World.laidAll Tryz.prog os Rows.objectBytesUptoRow.laid) #[.agg #[.string ⟨#[]⟩, .slice none 0 0, .slice none 0 0, .slice none 0 0], .agg #[.slice none 0 0, .slice none 0 0, .slice none 0 0]] (World.laidAll_os _ _ _) (World.shaped_of_ZipB (by kernel_rfl) (by kernel_rfl)) (by kernel_rfl)
   (OpenSpec.preRow_of_cond 8 hx (by kernel_rfl) (fun k hk=>by cases hk;kernel_rfl) (by kernel_rfl) (by rw[MakeChecks.laidMetH_plain _ _ _ (by kernel_rfl)];exact laidMet_laidAll _ (by kernel_rfl) (by kernel_rfl)))) ?_
 intro W base args ds gs before hval0 hW _ hcond _ hL hsh _
 rw[MakeChecks.laidMetH_plain _ _ _ (by kernel_rfl)]at hL
 have hE:=Gb.env_of (Lib.laidMet.reads hL (by simp[Rows.objectBytesUptoRow])) (Lib.laidMet.reads hL (by simp[Rows.objectBytesUptoRow])) hsh
 have hX:=Gb.ex_of (Lib.laidMet.reads hL (by simp[Rows.objectBytesUptoRow]))
 have hval:∀(j:Nat) t v,Tryz.f9.params[j]? =some t→args[j]? =some v→Value.okWide Tryz.prog W .any base t v:=hval0
 have hbk:=hcond _ rfl
 have hW':=hW
 obtain⟨p,q,hA0,hV,rfl,hfz,hnd⟩:=hW
 have hA:DataW.TrodAll enc Tryz.prog W 0 (fun _=>true) true Tryz.f9.params.toList args.toList ds p:=hA0
 rw[Tryz.params9]at hA hval
 obtain⟨v0,vs0,d0,ds0,p0,q0,hargs,rfl,rfl,h0,r0⟩:=trodAll_cons hA
 obtain⟨v1,vs1,d1,ds1,p1,q1,rfl,rfl,rfl,h1,r1⟩:=trodAll_cons r0
 obtain⟨rfl,rfl,rfl⟩:=trodAll_nil r1
 obtain rfl:args= #[v0,v1]:=by cases args;simp_all
 obtain⟨rfl,rfl⟩:=trodVars_none hV
 obtain⟨o0,CA0,NA0,PA0,cc0,nc0,pc0,rfl,hO0,hM0,hI0⟩:=Gb.open_objM enc W (hval 0 38 v0 rfl rfl) h0 (Gb.bulk_of hbk (by simp))
 obtain⟨cs1,prs1,pts1,CA1,PA1,QA1,cc1,pc1,qc1,rfl,hC1,hP1,hQ1,hS1,hI1⟩:=Gb.open_progM enc W (hval 1 27 v1 rfl rfl) h1 (Gb.bulk_of hbk (by simp))
 clear hA0 hval0 hbk hcond
 refine(walk W hE hX o0 CA0 NA0 PA0 cc0 nc0 pc0 hO0 hM0 hI0 cs1 prs1 pts1 CA1 PA1 QA1 cc1 pc1 qc1 hC1 hP1 hQ1 hS1 hI1).mono fun e W' ⟨he,hg⟩=>?_
 subst he
 exact⟨_,rfl,_,_,_,[],_,[],hW',trodAll_mk1 (shut_bool Tryz.underlying4 _),(trodAll_cons_mk (Gb.Kept.trod laidOut (by kernel_rfl) (of_decide_eq_true (by kernel_rfl)) h0 hg) (trodAll_cons_mk (Gb.Kept.trod laidOut (by kernel_rfl) (of_decide_eq_true (by kernel_rfl)) h1 hg) trodAll_mk0)),rfl,hg.frame _,fun h=>by cases h⟩
theorem ovNamed:Tryz.pinned.checked.prog.funcNamed Rows.objectBytesUptoRow.func=some 9:=by kernel_rfl
set_option maxHeartbeats 8000000 in
theorem ovClosed:joinedFacts Tryz.pinned.checked.prog 9 Tryz.f9 ((Rows.OpenSpec.upto Rows.objectBytesSpec).bare) Rows.objectBytesUptoRow=true:=by
 unfold joinedFacts
 simp only[Bool.and_eq_true]
 repeat' apply And.intro
 all_goals (as_aux_lemma=>kernel_rfl)
theorem ovInst:Tryz.f9.isInstance Tryz.pinned.checked.prog Rows.objectBytesUptoRow.origin Rows.objectBytesUptoRow.targs:=of_decide_eq_true (by kernel_rfl)
theorem ovWrap:Tryz.f9.isWrapper Tryz.pinned.checked.prog Rows.objectBytesUptoRow.wrapper Rows.objectBytesUptoRow.mainSum:=by unfold Func.isWrapper;first | (rw[if_pos (by decide+kernel)];kernel_rfl) | (rw[if_neg (by decide+kernel)];exact⟨rfl,rfl⟩)
theorem over:Rows.ObjectBytesUptoSaid:=
 OpenClaim.holds_of_cond 9 Tryz.f9 rfl rfl rfl rfl rfl rfl rfl ⟨rfl,rfl,rfl,rfl,rfl⟩ rfl rfl rfl rfl rfl ovNamed Tryz.func9 ovClosed ovInst ovWrap
  (fun os started H enc _ F=>by rw[OpenClaim.pre_eq_preRow];exact lifted os started H enc F)
theorem prNamed:Tryz.prog.funcNamed "treadle/treadlelaw22.ObjectBytes" =some 9:=by kernel_rfl
theorem proved:Rows.ObjectBytesUptoCardSaid:=
 Claim7.holds_tied_plain_at .later [] _ _ _ _
  over (fun _ h=>by cases h) (by as_aux_lemma=>kernel_rfl) (fun _ h=>by cases h) objectBytesUpto_row_tie rfl ⟨rfl,rfl⟩ (by as_aux_lemma=>kernel_rfl) rfl
  (fun f fn hf hfn=>by
   obtain rfl:f=9:=Option.some.inj (prNamed.symm.trans hf) |>.symm
   obtain rfl:fn=Tryz.f9:=(Option.some.inj (Tryz.func9.symm.trans hfn)).symm
   exact⟨by as_aux_lemma=>kernel_rfl,fun j t ht=>by
    rw[Tryz.params9]at ht
    have hm:t∈[38,27]:=by simpa using Array.mem_of_getElem? ht
    have hall:([38,27].all fun u=> !Tryz.prog.wantsStandIn u)=true:=by kernel_rfl
    exact(show Tryz.prog.wantsStandIn t=false by simpa using List.all_eq_true.1 hall t hm)⟩)
  (by as_aux_lemma=>kernel_rfl)
#print axioms proved
end Go.Proofs.YtcnlkfocbbkdhaaGreatDoor.objectBytes
