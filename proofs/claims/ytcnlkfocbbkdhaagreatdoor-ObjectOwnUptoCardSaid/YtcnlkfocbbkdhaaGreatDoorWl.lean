/- ObjectOwn, where what it reads is of bounded bulk. -/
import Derived.Test.YtcnlkfocbbkdhaaGreatDoorWk
import Derived.Test.YtcnlkfocbbkdhaaGreatDoorTie
import Derived.Test.YtcnlkfocbbkdhaaGreatDoorCards
import Derived.SevenTiedAt
import Derived.ShutString
import Derived.ChangeMaps5
import Derived.Deep.DeepHandedRow
set_option linter.unusedVariables false
set_option linter.unusedSimpArgs false
set_option linter.unusedSectionVars false
namespace Go.Proofs.YtcnlkfocbbkdhaaGreatDoor.objectOwn
open Go Go.Proofs Go.ChangeShapes Go.WideShapes Go.ChangeAt Go.RowKit Go.ChangeMaps
attribute [local irreducible] Tryz.prog
theorem walk (W:World) (hE:Gb.Env (Gb.Gw W)) (hX:Gb.Ex (Gb.covs []) W) (l:List Gb.Ob) (B:Option Addr) (b:Nat) (hB:l.length≤b) (hS:Gb.Sl Gb.Kd.ob (Gb.Gw W) B l) (hL:Gb.LLim l) (hI:∀o∈l,Gb.OInt o):
  Calls Tryz.prog 4 #[.slice B l.length b] W fun e W'=>e= .returned (.bool true)∧Gb.Kept W W':=
 (Gb.lawOwn_fn (Gb.Gw W) hE B b l hS hL).keptG (R':=fun e=>e= .returned (.bool true)) (fun e G' H' h=>h.1) (Gb.Sat.whole W) hX
theorem own:ownKnob Tryz.prog.godebug=none:=by kernel_rfl
theorem laidOut:laidOutB Tryz.prog=true:=by kernel_rfl
theorem reads (os:Os) {H:Type} (enc:TypeId×Value→H):∃places,DataW.whole enc Tryz.prog ((World.laidAll Tryz.prog os Rows.objectOwnUptoRow.laid).forCall (fun _ _=>0) ⟨#[], #[.slice none 0 0],[]⟩).memory Tryz.f4.params.toList Rows.objectOwnSpec.vars false (#[.slice none 0 0]:Array Value).toList 8=some ([.nil],[],places):=
 ⟨[],by kernel_rfl⟩
set_option maxHeartbeats 8000000 in
set_option maxRecDepth 100000 in
theorem lifted (os:Os) (started:os.Started) (H:Type) (enc:TypeId×Value→H) (F:Stop.Interp):
  ReturnsInHanded {} Tryz.checked os 4 .any ((Rows.OpenSpec.upto Rows.objectOwnSpec).preRow enc Tryz.prog Tryz.f4 Rows.objectOwnUptoRow.domain false Rows.objectOwnUptoRow.laid) (((Rows.OpenSpec.upto Rows.objectOwnSpec).at F).post enc Tryz.prog Tryz.f4 false true false false):=by
 obtain⟨places,hx⟩:=reads os enc
 refine returnsInHanded_of_row (C:=Tryz.checked) (s:=Rows.OpenSpec.upto Rows.objectOwnSpec) own started (by kernel_rfl) Tryz.func4
  (Gb.witness_row (enc:=enc) (C:=Tryz.checked) false (World.laidAll Tryz.prog os Rows.objectOwnUptoRow.laid) #[.slice none 0 0] (World.laidAll_os _ _ _) (World.shaped_of_ZipB (by kernel_rfl) (by kernel_rfl)) (by kernel_rfl)
   (OpenSpec.preRow_of_cond 8 hx (by kernel_rfl) (fun k hk=>by cases hk;kernel_rfl) (by kernel_rfl) (by rw[MakeChecks.laidMetH_plain _ _ _ (by kernel_rfl)];exact laidMet_laidAll _ (by kernel_rfl) (by kernel_rfl)))) ?_
 intro W base args ds gs before hval0 hW _ hcond _ hL hsh _
 rw[MakeChecks.laidMetH_plain _ _ _ (by kernel_rfl)]at hL
 have hE:=Gb.env_of (Lib.laidMet.reads hL (by simp[Rows.objectOwnUptoRow])) (Lib.laidMet.reads hL (by simp[Rows.objectOwnUptoRow])) hsh
 have hX:=Gb.ex_of (Lib.laidMet.reads hL (by simp[Rows.objectOwnUptoRow]))
 have hval:∀(j:Nat) t v,Tryz.f4.params[j]? =some t→args[j]? =some v→Value.okWide Tryz.prog W .any base t v:=hval0
 have hbk:=hcond _ rfl
 have hW':=hW
 obtain⟨p,q,hA0,hV,rfl,hfz,hnd⟩:=hW
 have hA:DataW.TrodAll enc Tryz.prog W 0 (fun _=>true) true Tryz.f4.params.toList args.toList ds p:=hA0
 rw[Tryz.params4]at hA hval
 obtain⟨v0,vs0,d0,ds0,p0,q0,hargs,rfl,rfl,h0,r0⟩:=trodAll_cons hA
 obtain⟨rfl,rfl,rfl⟩:=trodAll_nil r0
 obtain rfl:args= #[v0]:=by cases args;simp_all
 obtain⟨rfl,rfl⟩:=trodVars_none hV
 obtain⟨l0,A0,c0,rfl,hC0,hS0,hL0,hO0⟩:=Gb.open_objsU enc W (hval 0 22 v0 rfl rfl) h0 (Gb.bulk_of hbk (by simp))
 clear hA0 hval0 hbk hcond
 refine(walk W hE hX l0 A0 c0 hC0 hS0 hL0 hO0).mono fun e W' ⟨he,hg⟩=>?_
 subst he
 exact⟨_,rfl,_,_,_,[],_,[],hW',trodAll_mk1 (shut_bool Tryz.underlying4 _),(trodAll_cons_mk (Gb.Kept.trod laidOut (by kernel_rfl) (of_decide_eq_true (by kernel_rfl)) h0 hg) trodAll_mk0),rfl,hg.frame _,fun h=>by cases h⟩
theorem ovNamed:Tryz.pinned.checked.prog.funcNamed Rows.objectOwnUptoRow.func=some 4:=by kernel_rfl
set_option maxHeartbeats 8000000 in
theorem ovClosed:joinedFacts Tryz.pinned.checked.prog 4 Tryz.f4 ((Rows.OpenSpec.upto Rows.objectOwnSpec).bare) Rows.objectOwnUptoRow=true:=by
 unfold joinedFacts
 simp only[Bool.and_eq_true]
 repeat' apply And.intro
 all_goals (as_aux_lemma=>kernel_rfl)
theorem ovInst:Tryz.f4.isInstance Tryz.pinned.checked.prog Rows.objectOwnUptoRow.origin Rows.objectOwnUptoRow.targs:=of_decide_eq_true (by kernel_rfl)
theorem ovWrap:Tryz.f4.isWrapper Tryz.pinned.checked.prog Rows.objectOwnUptoRow.wrapper Rows.objectOwnUptoRow.mainSum:=by unfold Func.isWrapper;first | (rw[if_pos (by decide+kernel)];kernel_rfl) | (rw[if_neg (by decide+kernel)];exact⟨rfl,rfl⟩)
theorem over:Rows.ObjectOwnUptoSaid:=
 OpenClaim.holds_of_cond 4 Tryz.f4 rfl rfl rfl rfl rfl rfl rfl ⟨rfl,rfl,rfl,rfl,rfl⟩ rfl rfl rfl rfl rfl ovNamed Tryz.func4 ovClosed ovInst ovWrap
  (fun os started H enc _ F=>by rw[OpenClaim.pre_eq_preRow];exact lifted os started H enc F)
theorem prNamed:Tryz.prog.funcNamed "treadle/treadlelaw22.ObjectOwn" =some 4:=by kernel_rfl
theorem proved:Rows.ObjectOwnUptoCardSaid:=
 Claim7.holds_tied_plain_at .later [] _ _ _ _
  over (fun _ h=>by cases h) (by as_aux_lemma=>kernel_rfl) (fun _ h=>by cases h) objectOwnUpto_row_tie rfl ⟨rfl,rfl⟩ (by as_aux_lemma=>kernel_rfl) rfl
  (fun f fn hf hfn=>by
   obtain rfl:f=4:=Option.some.inj (prNamed.symm.trans hf) |>.symm
   obtain rfl:fn=Tryz.f4:=(Option.some.inj (Tryz.func4.symm.trans hfn)).symm
   exact⟨by as_aux_lemma=>kernel_rfl,fun j t ht=>by
    rw[Tryz.params4]at ht
    have hm:t∈[22]:=by simpa using Array.mem_of_getElem? ht
    have hall:([22].all fun u=> !Tryz.prog.wantsStandIn u)=true:=by kernel_rfl
    exact(show Tryz.prog.wantsStandIn t=false by simpa using List.all_eq_true.1 hall t hm)⟩)
  (by as_aux_lemma=>kernel_rfl)
#print axioms proved
end Go.Proofs.YtcnlkfocbbkdhaaGreatDoor.objectOwn
