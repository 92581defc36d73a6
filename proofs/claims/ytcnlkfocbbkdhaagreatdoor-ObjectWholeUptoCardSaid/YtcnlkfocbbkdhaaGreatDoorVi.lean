/- Many steps. A program of its own. A machine is started. What a machine tells; a run. A run. Layer 22: the same objects, linked in another order and with others beside them, run the same (no program in sight). Layer 22: what the small objects come to (no program in sight). Layer 22: what must come, whatever else is so: walked. Layer 22: Point, in the program's way and in the document's; ObjectPoints walked. All procedures of a world, where names may be alike: walked. What is linked is a program that may be; its points are all exported procedures (no program in sight). ObjectOrder: what is linked in another order, and with one more, is a program that runs the same (no program in sight). What a machine tells: its place, its variables, its stack; are values the same. ObjectOrder: a point's run, walked. Layer 22: a point as a key (of its path and name). A program, verified: walked. A program, verified; ObjectVerified: walked. What a call answers comes to stay; a linked program that stays. The reader of an object's file: constants, instructions, procedures, walked. The reader of an object's file: procedures, walked. How a file begins, and what stays of what was read, walked. Bytes onto bytes; the document's numbers, truths and texts in bytes: walked. The document's bytes of types, constants and procedures: walked. The document's bytes of constants and procedures: walked. The document's words, paths, heads, values: walked. A text's pieces between slashes: the law of their search; no program in sight. The document's paths, heads, values, rows of types, states: walked. The document's states: joined, compared; where an instruction goes on: walked. The document's look at one instruction; what it takes and lays: walked. What the document knows behind an instruction: walked. The document's look at the kinds an instruction takes: walked. What the document finds wrong with an instruction that is reached: walked. The document finds the least states of a procedure: walked. What the document finds wrong with a procedure: walked. The document's look at a whole object: walked. -/
import Derived.Test.YtcnlkfocbbkdhaaGreatDoorVh
import Derived.Laws.DeepStrings4
set_option linter.unusedVariables false
set_option linter.unusedSimpArgs false
set_option linter.unusedSectionVars false
namespace Go.Proofs.YtcnlkfocbbkdhaaGreatDoor.Gb
open Go Go.Proofs
section
attribute [local irreducible] Tryz.prog
def Live (s:Mc):Prop:=s.ended=false→s.frames≠ []
theorem Live.step {pg:Pg} {s:Mc} (h:Live s):Live (stepM pg s):=by
 unfold stepM
 split
 ·exact h
 ·split
  ·exact h
  ·split
   ·intro h';cases h'
   ·intro _ h';cases h'
   ·intro _ h';cases h'
   ·intro _ h';cases h'
   ·split
    ·intro h';cases h'
    ·intro _ h';cases h'
def runM (pg:Pg):Nat→Mc→Nat×Mc
 | 0,s=>(0,s)
 | n+1,s=>if s.ended then(0,s)else((runM pg n (stepM pg s)).1+1,(runM pg n (stepM pg s)).2)
theorem runM_ended {pg:Pg} {s:Mc} (h:s.ended=true):∀n,runM pg n s=(0,s)
 | 0=>rfl
 | n+1=>by simp[runM,h]
theorem stepM_steps1 {pg:Pg} {s:Mc} (hne:s.frames≠ []) (hp:∀f∈s.frames,∃pr,pg.procs[f.proc]? =some pr∧f.pc≤pr.code.length):(stepM pg s).steps=s.steps+1:=by
 obtain⟨frames,out,steps,en,val,ended⟩:=s
 cases frames with
 | nil=>exact absurd rfl hne
 | cons f fs=>
  obtain⟨pr,h1,_⟩:=hp f (by simp)
  simp only[stepM,h1]
  split<;>(try split)<;>rfl
section
variable (G:Gh) (pg:Pg) (CA PA:Option Addr) (cc pc:Nat) (hC:Sl Kd.val G CA pg.consts) (hP:Sl Kd.prc G PA pg.procs) (hcode:∀pr∈pg.procs,pr.code.length≤90000000000000∧OpS pr.code) (mb:Nat) (c3:Value)
include hC hP hcode
theorem Step_fn (s:Mc) (H:List Own) (hR:MRep CA PA cc pc pg.consts.length pg.procs.length c3 mb s H) (hI:Inv pg s) (hv:Live s) (n:Int) (hn:n≤1000000) (hst:s.steps+1000000≤100000000000000):
  Fn Tryz.prog 94 #[.pointer (some ⟨mb,0,none⟩), .int .i64 n] G H fun e G' H'=>e= .returned (.int .i64 (runM pg n.toNat s).1)∧G=G'∧MRep CA PA cc pc pg.consts.length pg.procs.length c3 mb (runM pg n.toNat s).2 H':=by
 have hm:madeB s=true:=by
  unfold madeB
  cases he:s.ended with
  | true=>simp
  | false=>have:=hv he;simp[List.length_pos_iff,this]
 refine Fn.enter Tryz.func94 rfl rfl fun w0=>?_
 refine WC.seq ?_
 refine WC.region ?_
 refine zw.assign ?_
 refine WL.nil ?_
 refine WK.un ?_
 refine WC.seq ?_
 refine WC.seq ?_
 refine WC.region ?_
 refine zw.move ?_
 refine WL.oo (OW.callK rfl (made_fn G CA PA cc pc pg.consts.length pg.procs.length c3 mb s H hR) rfl fun v' G' H' h hg=>?_)
 obtain⟨he,rfl,rfl⟩:=h
 cases he
 rw[hm]
 refine zw.not ?_
 refine WL.nil ?_
 refine WK.un ?_
 refine WC.cond_false rfl ?_
 refine WC.skip ?_
 refine WK.un ?_
 refine WC.seq ?_
 refine WC.region ?_
 refine zw.assign ?_
 refine WL.nil ?_
 refine WK.un ?_
 refine WC.seq ?_
 refine WC.block ?_  -- 0
 refine WC.loop (X:=Nat×Mc×List Own) (fun x=>[(5, .int .i64 x.1),(1, .int .i64 n),(0, .pointer (some ⟨mb,0,none⟩))]) (fun x=>G) (fun x=>x.2.2) (fun x=>n.toNat - x.1)
  (fun x=>x.1≤n.toNat∧MRep CA PA cc pc pg.consts.length pg.procs.length c3 mb x.2.1 x.2.2∧Inv pg x.2.1∧Live x.2.1∧x.2.1.steps+(n.toNat - x.1)≤100000000000000∧runM pg n.toNat s=(x.1+(runM pg (n.toNat - x.1) x.2.1).1,(runM pg (n.toNat - x.1) x.2.1).2))
  (0,s,H') ⟨by simp,hR,hI,hv,by simp only;omega,by simp⟩ (by exact⟨rfl,rfl,rfl,trivial⟩) rfl (by simp) fun x hx=>?_
 obtain⟨j,t,Ht⟩:=x
 obtain⟨hj,hRt,hIt,hvt,hst',hrun⟩:=hx
 simp only at hj hRt hIt hvt hst' hrun
 have hRt0:=hRt
 obtain⟨FA,fcap,OA,ocap,ox,fx,bs,Hf,hF,hfv,ho,rfl⟩:=hRt
 refine WC.seq ?_
 refine WC.seq ?_
 refine WC.region ?_
 refine zw.move ?_
 refine zw.move ?_
 by_cases hjn:(j:Int)<n
 rotate_left
 ·
  refine WL.pp (Gp.ltI' rfl rfl (show decide ((j:Int)<n)=false from decide_eq_false hjn)) ?_
  refine zw.move ?_
  refine zw.skip ?_
  refine zw.skip ?_
  refine zw.skip ?_
  refine zw.skip ?_
  refine zw.skip ?_
  refine zw.pick ?_
  refine WL.nil ?_
  refine WK.un ?_
  refine WC.cond_false rfl ?_
  refine WC.exit ?_
  refine WK.un ?_
  refine WC.seq ?_
  refine WC.region ?_
  refine zw.move ?_
  refine zw.assign ?_
  refine WL.nil ?_
  refine WK.un ?_
  have hj':n.toNat - j=0:=by omega
  rw[hj']at hrun
  refine WC.rt ?_
  exact QF.p1 (.inl rfl) rfl (.tmp rfl) (⟨by rw[hrun];simp[runM],rfl,by rw[hrun];exact hRt0⟩)
 refine WL.pp (Gp.ltI' rfl rfl (show decide ((j:Int)<n)=true from decide_eq_true hjn)) ?_
 refine zw.move ?_
 refine zw.move ?_
 refine zw.nil ?_
 refine zw.fa ?_
 refine zw.ld ?_
 cases hen:t.ended with
 | true=>
  refine zw.not ?_
  refine zw.pick ?_
  refine WL.nil ?_
  refine WK.un ?_
  refine WC.cond_false rfl ?_
  refine WC.exit ?_
  refine WK.un ?_
  refine WC.seq ?_
  refine WC.region ?_
  refine zw.move ?_
  refine zw.assign ?_
  refine WL.nil ?_
  refine WK.un ?_
  rw[runM_ended hen]at hrun
  rw[hen]at hRt0
  refine WC.rt ?_
  exact QF.p1 (.inl rfl) rfl (.tmp rfl) (⟨by rw[hrun];simp,rfl,by rw[hrun];exact hRt0⟩)
 | false=>
  refine zw.not ?_
  refine zw.pick ?_
  refine WL.nil ?_
  refine WK.un ?_
  refine WC.cond_true rfl ?_
  refine WC.skip ?_
  refine WK.un ?_
  refine WC.block ?_  -- 1
  refine WC.seq ?_
  refine WC.region ?_
  refine zw.move ?_
  have hne:=hvt hen
  rw[hen]at hRt0
  have hs1:=stepM_steps1 hne hIt.procs
  refine WL.oo (OW.callK rfl (stepM_fn G pg CA PA cc pc hC hP mb c3 t _ hRt0 (hIt.bd hcode (by omega)) hne) rfl fun v' G' H' h hg=>?_)
  obtain⟨he,rfl,hR'⟩:=h
  cases he
  refine WL.nil ?_
  refine WK.un ?_
  refine WC.region ?_
  refine zw.move ?_
  refine zw.add ?_
  refine zw.assign ?_
  refine WL.nil ?_
  refine WK.un ?_
  obtain⟨m,hm'⟩:∃m,n.toNat - j=m+1:=⟨n.toNat - j - 1,by omega⟩
  have hm2:n.toNat - (j+1)=m:=by omega
  have hrun':runM pg n.toNat s=(j+1+(runM pg (n.toNat - (j+1)) (stepM pg t)).1,(runM pg (n.toNat - (j+1)) (stepM pg t)).2):=by
   rw[hrun,hm',hm2,runM,hen]
   simp;omega
  refine WK.pk (H':=H') pkA ?_
  exact WK.again (j+1,stepM pg t,H') (show n.toNat - (j+1)<n.toNat - j by omega) ⟨show j+1≤n.toNat by omega,hR',hIt.step,hvt.step,by simp only;rw[hs1];omega,hrun'⟩ (by refine⟨?_,rfl,rfl,trivial⟩;show some _=some _;rw[wrap_small (by omega) (by omega)];rfl) rfl (List.Sublist.refl _)
end
end
section
attribute [local irreducible] Tryz.prog
structure PgB (pg:Pg):Prop where
 consts:pg.consts.length*40≤140737488355328
 procs:pg.procs.length*88≤140737488355328
 params:∀p∈pg.procs,p.params.length*8≤140737488355328
 code:∀p∈pg.procs,p.code.length*16≤140737488355328
 ops:∀p∈pg.procs,OpS p.code
theorem own_fn (G:Gh) (pg:Pg) (CA PA:Option Addr) (cc pc:Nat) (qv:Value) (hC:Sl Kd.val G CA pg.consts) (hP:Sl Kd.prc G PA pg.procs) (hB:PgB pg):
  Fn Tryz.prog 139 #[.agg #[.slice CA pg.consts.length cc, .slice PA pg.procs.length pc,qv]] G []
   fun e G' H'=>∃CA' PA' cc' pc',e= .returned (.agg #[.slice CA' pg.consts.length cc', .slice PA' pg.procs.length pc', .slice none 0 0])∧G.le G'∧Sl Kd.val G' CA' pg.consts∧Sl Kd.prc G' PA' pg.procs∧H'=[]:=by
 obtain⟨csC,hrC,hlC,h1C,hkC⟩:=Sl.rds (H:=[]) (by decide:0<Kd.val.n) hC
 obtain⟨csP,hrP,hlP,h1P,hkP⟩:=Sl.rds (H:=[]) (by decide:0<Kd.prc.n) hP
 refine Fn.enter Tryz.func139 rfl rfl fun w0=>?_
 refine WC.seq ?_
 refine WC.region ?_
 refine WL.oo (OW.box rfl rfl fun b5=>?_)
 refine WL.oo (OW.alloc rfl fun b6=>?_)
 refine WL.nil ?_
 refine WK.un ?_
 refine WC.join (X:=Option Addr×Nat×Own×Option Addr×Nat×Own×Nat×Nat) (fun x=>[(3, .pointer (some ⟨x.2.2.2.2.2.2.1,0,none⟩)),(2, .pointer (some ⟨x.2.2.2.2.2.2.2,0,none⟩))]) (fun x=>G)
  (fun x=>[x.2.2.1,x.2.2.2.2.2.1, .blk x.2.2.2.2.2.2.1 (.cells #[.slice x.1 pg.consts.length x.2.1, .slice x.2.2.2.1 pg.procs.length x.2.2.2.2.1, .slice none 0 0] 27 (0,0)), .blk x.2.2.2.2.2.2.2 (.cells #[.slice none 0 0, .slice none 0 0, .slice none 0 0] 27 (0,0))])
  (fun x=>Vec 52 4 x.1 pg.consts.length x.2.1 csC x.2.2.1∧Vec 47 6 x.2.2.2.1 pg.procs.length x.2.2.2.2.1 csP x.2.2.2.2.2.1) ?_ fun x hx=>?_
 ·refine WC.drawS (Hs:=[.blk b5 (.cells #[.slice CA pg.consts.length cc, .slice PA pg.procs.length pc,qv] 27 (0,0))]) mixed pkA ?_
  refine zb.fa 0 ?_
  refine zb.fa 3 ?_
  refine zb.ld 1 ?_
  refine zb.ld 4 ?_
  refine WB.two (i:=2) (j:=7) kr rfl rfl kr kr ?_ ?_
  ·refine OW.callR rfl (Pk.perm pkA) (clone_vals G [] CA pg.consts.length cc csC hrC hlC h1C hC.none_zero hB.consts) rfl (by intro e G' H' h;repeat (first | exact⟨_,h.1⟩ | (obtain⟨_,h⟩:=h))) fun v' G' H' h hg=>?_
   obtain⟨A1,cap1,x1,he,rfl,rfl,hx1⟩:=h
   cases he
   refine⟨fun w hw=>hw.pk pkA,?_⟩
   refine WB.two (i:=5) (j:=7) kr rfl rfl kr kr ?_ ?_
   ·refine OW.callR rfl (Pk.perm pkA) (clone_procs G [] PA pg.procs.length pc csP hrP hlP h1P hP.none_zero hB.procs) rfl (by intro e G' H' h;repeat (first | exact⟨_,h.1⟩ | (obtain⟨_,h⟩:=h))) fun v' G' H' h hg=>?_
    obtain⟨A2,cap2,x2,he,rfl,rfl,hx2⟩:=h
    cases he
    refine⟨fun w hw=>hw.pk pkA,?_⟩
    refine zb.build 6 ?_
    refine WB.oo 7 rfl (OW.alloc rfl fun b7=>?_)
    refine⟨fun w hw=>hw.pk pkA,?_⟩
    refine zb.st 8 ?_
    refine⟨fun w hw=>hw.pk pkA,?_⟩
    refine WB.done kr ?_
    refine WK.un ?_
    refine WK.pk (H':=[x1,x2, .blk b7 (.cells #[.slice A1 pg.consts.length cap1, .slice A2 pg.procs.length cap2, .slice none 0 0] 27 (0,0)), .blk b6 (.cells #[.slice none 0 0, .slice none 0 0, .slice none 0 0] 27 (0,0))]) pkA ?_
    exact WK.meet (A1,cap1,x1,A2,cap2,x2,b7,b6) ⟨hx1,hx2⟩ (by exact⟨rfl,rfl,trivial⟩) rfl (List.Sublist.refl _)
   ·refine OW.alloc rfl fun b7=>?_
    refine⟨fun w hw=>hw.pk pkA,?_⟩
    refine WB.oo 5 rfl (OW.callR rfl (Pk.perm pkA) (clone_procs G [] PA pg.procs.length pc csP hrP hlP h1P hP.none_zero hB.procs) rfl (by intro e G' H' h;repeat (first | exact⟨_,h.1⟩ | (obtain⟨_,h⟩:=h))) fun v' G' H' h hg=>?_)
    obtain⟨A2,cap2,x2,he,rfl,rfl,hx2⟩:=h
    cases he
    refine⟨fun w hw=>hw.pk pkA,?_⟩
    refine zb.build 6 ?_
    refine zb.st 8 ?_
    refine⟨fun w hw=>hw.pk pkA,?_⟩
    refine WB.done kr ?_
    refine WK.un ?_
    refine WK.pk (H':=[x1,x2, .blk b7 (.cells #[.slice A1 pg.consts.length cap1, .slice A2 pg.procs.length cap2, .slice none 0 0] 27 (0,0)), .blk b6 (.cells #[.slice none 0 0, .slice none 0 0, .slice none 0 0] 27 (0,0))]) pkA ?_
    exact WK.meet (A1,cap1,x1,A2,cap2,x2,b7,b6) ⟨hx1,hx2⟩ (by exact⟨rfl,rfl,trivial⟩) rfl (List.Sublist.refl _)
  ·refine OW.alloc rfl fun b7=>?_
   refine⟨fun w hw=>hw.pk pkA,?_⟩
   refine WB.oo 2 rfl (OW.callR rfl (Pk.perm pkA) (clone_vals G [] CA pg.consts.length cc csC hrC hlC h1C hC.none_zero hB.consts) rfl (by intro e G' H' h;repeat (first | exact⟨_,h.1⟩ | (obtain⟨_,h⟩:=h))) fun v' G' H' h hg=>?_)
   obtain⟨A1,cap1,x1,he,rfl,rfl,hx1⟩:=h
   cases he
   refine⟨fun w hw=>hw.pk pkA,?_⟩
   refine WB.oo 5 rfl (OW.callR rfl (Pk.perm pkA) (clone_procs G [] PA pg.procs.length pc csP hrP hlP h1P hP.none_zero hB.procs) rfl (by intro e G' H' h;repeat (first | exact⟨_,h.1⟩ | (obtain⟨_,h⟩:=h))) fun v' G' H' h hg=>?_)
   obtain⟨A2,cap2,x2,he,rfl,rfl,hx2⟩:=h
   cases he
   refine⟨fun w hw=>hw.pk pkA,?_⟩
   refine zb.build 6 ?_
   refine zb.st 8 ?_
   refine⟨fun w hw=>hw.pk pkA,?_⟩
   refine WB.done kr ?_
   refine WK.un ?_
   refine WK.pk (H':=[x1,x2, .blk b7 (.cells #[.slice A1 pg.consts.length cap1, .slice A2 pg.procs.length cap2, .slice none 0 0] 27 (0,0)), .blk b6 (.cells #[.slice none 0 0, .slice none 0 0, .slice none 0 0] 27 (0,0))]) pkA ?_
   exact WK.meet (A1,cap1,x1,A2,cap2,x2,b7,b6) ⟨hx1,hx2⟩ (by exact⟨rfl,rfl,trivial⟩) rfl (List.Sublist.refl _)
 obtain⟨A1,cap1,x1,A2,cap2,x2,bq,br⟩:=x
 obtain⟨hx1,hx2⟩:=hx
 simp only at hx1 hx2
 refine WC.frozenVec hx1 .here fun G1 hG1 hz1=>?_
 have hC1:Sl Kd.val G1 A1 pg.consts:=Sl.ofCs hz1 hlC (by decide) fun i x hx=>Kd.val.mono hG1 (hkC i x hx)
 refine WC.seq ?_
 refine WC.seq ?_
 refine WC.region ?_
 refine zw.fa ?_
 refine zw.ld ?_
 refine zw.len ?_
 refine zw.move ?_
 refine WL.nil ?_
 refine WK.un ?_
 refine WC.block ?_  -- 0
 have hmb:=hB.procs
 refine WC.loop (X:=Nat×Gh×Own) (fun x=>[(15, .int .i64 x.1),(14, .int .i64 pg.procs.length),(3, .pointer (some ⟨bq,0,none⟩)),(2, .pointer (some ⟨br,0,none⟩))]) (fun x=>x.2.1)
  (fun x=>[x.2.2, .blk bq (.cells #[.slice A1 pg.consts.length cap1, .slice A2 pg.procs.length cap2, .slice none 0 0] 27 (0,0)), .blk br (.cells #[.slice none 0 0, .slice none 0 0, .slice none 0 0] 27 (0,0))]) (fun x=>pg.procs.length - x.1)
  (fun x=>x.1≤pg.procs.length∧G1.le x.2.1∧∃cs,Vec 47 6 A2 pg.procs.length cap2 cs x.2.2∧∀i p,pg.procs[i]? =some p→Kd.prc.K x.2.1 p ((cs.drop (i*6)).take 6))
  (0,G1,x2) ⟨by simp,Gh.le_refl _,csP,hx2,fun i p hp=>Kd.prc.mono hG1 (hkP i p hp)⟩ (by exact⟨rfl,rfl,rfl,rfl,trivial⟩) rfl (List.Sublist.refl _) fun x hx=>?_
 obtain⟨j,Gj,xj⟩:=x
 obtain⟨hj,hGj,cs,hvj,hkj⟩:=hx
 simp only at hj hGj hvj hkj
 refine WC.seq ?_
 refine WC.region ?_
 refine zw.lt ?_
 refine WL.nil ?_
 refine WK.un ?_
 refine WC.seq ?_
 refine WC.cond rfl (fun hc8=>?_) (fun hc8=>?_)
 ·-- yes
  have hlt:j<pg.procs.length:=by have h:=of_decide_eq_true hc8;simp only at h;omega
  obtain⟨pr,hpr⟩:∃pr,pg.procs[j]? =some pr:=⟨_,List.getElem?_eq_getElem hlt⟩
  obtain⟨QA,qc,IA,ic,hes,hQ,hI⟩:=hkj j pr hpr
  obtain⟨hlv,⟨h1,h2,h3,h4⟩ | ⟨pb,c,rfl,rfl,hv1,hv2,hv3⟩⟩:=id hvj
  ·omega
  have hvv:=hvj
  obtain⟨csQ,hrQ,hlQ,h1Q,hkQ⟩:=Sl.rds (H:=[]) (by decide:0<(Kd.int .i64).n) hQ
  refine WC.skip ?_
  refine WK.un ?_
  refine WC.seq ?_
  refine WC.block ?_  -- 1
  refine WC.seq ?_
  refine WC.region ?_
  refine zw.move ?_
  refine zw.assign ?_
  refine WL.nil ?_
  refine WK.un ?_
  refine WC.seq ?_
  refine WC.drawS (Hs:=[.blk bq (.cells #[.slice A1 pg.consts.length cap1, .slice (some ⟨pb,0,none⟩) pg.procs.length cap2, .slice none 0 0] 27 (0,0))]) mixed pkA ?_
  refine zb.fa 0 ?_
  refine zb.move 2 ?_
  refine zb.fa 3 ?_
  refine zb.move 5 ?_
  refine zb.ld 1 ?_
  refine zb.ld 4 ?_
  refine zb.ix 6 ?_
  refine zb.fa 7 ?_
  refine WB.oo 8 rfl (OW.gv (Gv.load1 rfl atA (elem_cell (k:=2) hv3 hes rfl)) rfl ?_)
  refine⟨fun w hw=>hw.pk pkA,?_⟩
  refine WB.oo 9 rfl (OW.callK rfl (clone_types Gj [] QA pr.params.length _ csQ hrQ hlQ h1Q hQ.none_zero (hB.params pr (List.mem_of_getElem? hpr))) rfl fun v' G' H' h hg=>?_)
  obtain⟨QA1,qc1,y1,he,rfl,rfl,hy1⟩:=h
  cases he
  refine⟨fun w hw=>hw.pk pkA,?_⟩
  obtain⟨_,hfitQ,hputQ⟩:=Vec.put1 hvv (o:=j*6+2) (by omega) (.slice QA1 pr.params.length qc1)
  refine zb.ix 10 ?_
  refine zb.fa 11 ?_
  refine WB.oo 12 rfl (OW.store (n:=1) (c':=splice c (j*6+2) [.slice QA1 pr.params.length qc1]) rfl rfl atA rfl rfl rfl (Nat.ble_eq_true_of_le (by simp;omega)) (by simp;rfl) ?_ rfl)
  refine⟨fun w hw=>hw.pk pkA,?_⟩
  refine WB.done kr ?_
  refine WK.un ?_
  refine WC.frozenVec hy1 atA fun G2 hG2 hzQ=>?_
  have hQ2:Sl (Kd.int .i64) G2 QA1 pr.params:=Sl.ofCs hzQ hlQ (by decide) fun i x hx=>(Kd.int .i64).mono hG2 (hkQ i x hx)
  have hI2:Sl Kd.ins G2 IA pr.code:=hI.mono hG2
  obtain⟨csI,hrI,hlI,h1I,hkI⟩:=Sl.rds (H:=[]) (by decide:0<Kd.ins.n) hI2
  have hes2:((cs.set (j*6+2) (.slice QA1 pr.params.length qc1)).drop (j*6)).take 6=[.string pr.name, .bool pr.exp, .slice QA1 pr.params.length qc1, .int .i64 pr.locals, .int .i64 pr.result, .slice IA pr.code.length ic]:=by
   rw[set_elem (by omega),if_pos rfl,hes];rfl
  obtain⟨c2,hc2⟩:∃c2,c2=splice c (j*6+2) [.slice QA1 pr.params.length qc1]:=⟨_,rfl⟩
  rw[←hc2]at hputQ
  have hvv2:=hputQ
  obtain⟨hlv2,⟨h1,h2,h3,h4⟩ | ⟨pb2,c2',hpb,hxx,hv12,hv22,hv32⟩⟩:=id hputQ
  ·omega
  cases hxx
  refine WC.pk (H':=[.blk pb (.cells c2 47 (0,0)), .blk bq (.cells #[.slice A1 pg.consts.length cap1, .slice (some ⟨pb,0,none⟩) pg.procs.length cap2, .slice none 0 0] 27 (0,0)), .blk br (.cells #[.slice none 0 0, .slice none 0 0, .slice none 0 0] 27 (0,0))]) (by subst hc2;exact pkA) ?_
  refine WC.drawS (Hs:=[.blk bq (.cells #[.slice A1 pg.consts.length cap1, .slice (some ⟨pb,0,none⟩) pg.procs.length cap2, .slice none 0 0] 27 (0,0))]) mixed pkA ?_
  refine zb.fa 0 ?_
  refine zb.move 2 ?_
  refine zb.fa 3 ?_
  refine zb.move 5 ?_
  refine zb.ld 1 ?_
  refine zb.ld 4 ?_
  refine zb.ix 6 ?_
  refine zb.fa 7 ?_
  refine WB.oo 8 rfl (OW.gv (Gv.load1 rfl atA (elem_cell (k:=5) hv32 hes2 rfl)) rfl ?_)
  refine⟨fun w hw=>hw.pk pkA,?_⟩
  refine WB.oo 9 rfl (OW.callK rfl (clone_instrs G2 [] IA pr.code.length _ csI hrI hlI h1I hI2.none_zero (hB.code pr (List.mem_of_getElem? hpr))) rfl fun v' G' H' h hg=>?_)
  obtain⟨IA1,ic1,z1,he,rfl,rfl,hz1'⟩:=h
  cases he
  refine⟨fun w hw=>hw.pk pkA,?_⟩
  obtain⟨_,hfitI,hputI⟩:=Vec.put1 hvv2 (o:=j*6+5) (by omega) (.slice IA1 pr.code.length ic1)
  refine zb.ix 10 ?_
  refine zb.fa 11 ?_
  refine WB.oo 12 rfl (OW.store (n:=1) (c':=splice c2 (j*6+5) [.slice IA1 pr.code.length ic1]) rfl rfl atA rfl rfl rfl (Nat.ble_eq_true_of_le (by simp;omega)) (by simp;rfl) ?_ rfl)
  refine⟨fun w hw=>hw.pk pkA,?_⟩
  refine WB.done kr ?_
  refine WK.un ?_
  refine WC.frozenVec hz1' atA fun G3 hG3 hzI=>?_
  have hI3:Sl Kd.ins G3 IA1 pr.code:=Sl.ofCs hzI hlI (by decide) fun i x hx=>Kd.ins.mono hG3 (hkI i x hx)
  have hes3:(((cs.set (j*6+2) (.slice QA1 pr.params.length qc1)).set (j*6+5) (.slice IA1 pr.code.length ic1)).drop (j*6)).take 6=[.string pr.name, .bool pr.exp, .slice QA1 pr.params.length qc1, .int .i64 pr.locals, .int .i64 pr.result, .slice IA1 pr.code.length ic1]:=by
   rw[set_elem (by omega),if_pos rfl,hes2];rfl
  refine WC.region ?_
  refine zw.add ?_
  refine zw.move ?_
  refine WL.nil ?_
  refine WK.un ?_
  refine WK.pk (H':=[.blk pb (.cells (splice c2 (j*6+5) [.slice IA1 pr.code.length ic1]) 47 (0,0)), .blk bq (.cells #[.slice A1 pg.consts.length cap1, .slice (some ⟨pb,0,none⟩) pg.procs.length cap2, .slice none 0 0] 27 (0,0)), .blk br (.cells #[.slice none 0 0, .slice none 0 0, .slice none 0 0] 27 (0,0))]) pkA ?_
  exact WK.again (j+1,G3, .blk pb (.cells (splice c2 (j*6+5) [.slice IA1 pr.code.length ic1]) 47 (0,0))) (show pg.procs.length - (j+1)<pg.procs.length - j by omega)
   ⟨show j+1≤pg.procs.length by omega,Gh.le_trans hGj (Gh.le_trans hG2 hG3),_,hputI,fun i p hp=>by
    by_cases hij:i=j
    ·subst hij
     rw[hpr]at hp;cases hp
     exact⟨QA1,qc1,IA1,ic1,hes3,hQ2.mono hG3,hI3⟩
    ·rw[set_elem (by omega),if_neg hij,set_elem (by omega),if_neg hij]
     exact Kd.prc.mono (Gh.le_trans hG2 hG3) (hkj i p hp)⟩ (by refine⟨?_,rfl,rfl,rfl,trivial⟩;show some _=some _;rw[wrap_small (by omega) (by omega)];rfl) rfl (List.Sublist.refl _)
 ·-- no
  have hge:j=pg.procs.length:=by have h:=of_decide_eq_false hc8;simp only at h;omega
  refine WC.exit ?_
  refine WK.un ?_
  refine WC.frozenVec hvj .here fun G4 hG4 hz4=>?_
  have hP4:Sl Kd.prc G4 A2 pg.procs:=Sl.ofCs hz4 hvj.1 (by decide) fun i x hx=>Kd.prc.mono hG4 (hkj i x hx)
  refine WC.seq ?_
  refine WC.region ?_
  refine WL.vv (Gv.loadN rfl atA rfl rfl) ?_
  refine zw.st ?_
  refine WL.nil ?_
  refine WK.un ?_
  refine WC.rt ?_
  exact QF.p1 (.inl rfl) rfl (.cell rfl inferInstance inferInstance atA rfl rfl) (⟨A1,A2,cap1,cap2,rfl,Gh.le_trans hG1 (Gh.le_trans hGj hG4),hC1.mono (Gh.le_trans hGj hG4),hP4,rfl⟩)
end
section
attribute [local irreducible] Tryz.prog
def startR (pg:Pg) (n:Int) (args:List V):Option Pr:=if n<0 then none else match pg.procs[n.toNat]? with
 | none=>none
 | some q=>if sizedP q=false then none else if args.length≠q.params.length then none else if(args.all vOK&&decide (tys args=q.params))=true then some q else none
def startS (q:Pr) (n:Int) (args:List V):Mc:=⟨[⟨n.toNat,0,[],padded args q.locals⟩],[],0,0,V0,false⟩
def StartP (G:Gh) (pg:Pg) (n:Int) (args:List V) (Ha:List Own) (r:Option Pr):Ending→Gh→List Own→Prop:=fun e G' H'=>match r with
 | none=>e= .returned (.tuple #[.pointer none, .int .i64 1])∧G=G'∧H'=Ha
 | some q=>∃mb CA' PA' cc' pc' H1,e= .returned (.tuple #[.pointer (some ⟨mb,0,none⟩), .int .i64 0])∧G.le G'∧Sl Kd.val G' CA' pg.consts∧Sl Kd.prc G' PA' pg.procs∧
   MRep CA' PA' cc' pc' pg.consts.length pg.procs.length (.slice none 0 0) mb (startS q n args) H1∧H'=H1++Ha
theorem Start_fn (G:Gh) (pg:Pg) (CA PA:Option Addr) (cc pc:Nat) (qv:Value) (hC:Sl Kd.val G CA pg.consts) (hP:Sl Kd.prc G PA pg.procs) (hB:PgB pg) (n:Int) (AA:Option Addr) (ac:Nat) (args:List V) (Ha:List Own) (hr:Rds G Ha AA (vflat args)) (hal:args.length*40≤140737488355328):
  Fn Tryz.prog 93 #[.agg #[.slice CA pg.consts.length cc, .slice PA pg.procs.length pc,qv], .int .i64 n, .slice AA args.length ac] G Ha (StartP G pg n args Ha (startR pg n args)):=by
 refine Fn.enter Tryz.func93 rfl rfl fun w0=>?_
 refine WC.seq ?_
 refine WC.region ?_
 refine WL.oo (OW.box rfl rfl fun b9=>?_)
 refine zw.assign ?_
 refine zw.assign ?_
 refine WL.nil ?_
 refine WK.un ?_
 refine WC.seq ?_
 refine WC.seq ?_
 refine WC.region ?_
 refine zw.move ?_
 by_cases hn0:n<0
 ·
  refine WL.pp (Gp.ltI' rfl rfl (decide_eq_true hn0)) ?_
  refine zw.move ?_
  refine zw.skip ?_
  refine zw.skip ?_
  refine zw.skip ?_
  refine zw.skip ?_
  refine zw.skip ?_
  refine zw.pick ?_
  refine WL.nil ?_
  refine WK.un ?_
  refine WC.cond_true rfl ?_
  refine WC.seq ?_
  refine WC.region ?_
  refine zw.assign ?_
  refine zw.assign ?_
  refine WL.nil ?_
  refine WK.un ?_
  rw[show startR pg n args=none by rw[startR,if_pos hn0]]
  refine WC.rt ?_
  exact QF.p2 (.inl rfl) rfl (.tmp rfl) (.tmp rfl) (⟨rfl,rfl,rfl⟩)
 refine WL.pp (Gp.ltI' rfl rfl (decide_eq_false hn0)) ?_
 obtain⟨i,rfl⟩:=Int.eq_ofNat_of_zero_le (Int.not_lt.1 hn0)
 refine zw.move ?_
 refine zw.move ?_
 refine zw.fa ?_
 refine zw.ld ?_
 refine zw.len ?_
 cases hq:pg.procs[i]? with
 | none=>
  refine WL.pp (Gp.geI' rfl rfl (decide_eq_true (by have:=List.getElem?_eq_none_iff.1 hq;omega))) ?_
  refine zw.pick ?_
  refine WL.nil ?_
  refine WK.un ?_
  refine WC.cond_true rfl ?_
  refine WC.seq ?_
  refine WC.region ?_
  refine zw.assign ?_
  refine zw.assign ?_
  refine WL.nil ?_
  refine WK.un ?_
  rw[show startR pg (i:Int) args=none by rw[startR,if_neg hn0,Int.toNat_natCast,hq]]
  refine WC.rt ?_
  exact QF.p2 (.inl rfl) rfl (.tmp rfl) (.tmp rfl) (⟨rfl,rfl,rfl⟩)
 | some q=>
 have hil:=(List.getElem?_eq_some_iff.1 hq).1
 refine WL.pp (Gp.geI' rfl rfl (decide_eq_false (by omega))) ?_
 refine zw.pick ?_
 refine WL.nil ?_
 refine WK.un ?_
 refine WC.cond_false rfl ?_
 refine WC.skip ?_
 refine WK.un ?_
 obtain⟨pb,po,cs,hPA,⟨QA,qc,IA,ic,rfl,hQ,hI⟩,hcs⟩:=hP i q hq
 have hP':=hP
 subst hPA
 have hcR:startR pg (i:Int) args=if sizedP q=false then none else if args.length≠q.params.length then none else if(args.all vOK&&decide (tys args=q.params))=true then some q else none:=by rw[startR,if_neg hn0,Int.toNat_natCast,hq]
 refine WC.seq ?_
 refine WC.region ?_
 refine zw.fa ?_
 refine zw.ld ?_
 refine zw.move ?_
 refine zw.ix ?_
 refine WL.vv (Gv.loadGN rfl hcs rfl) ?_
 refine WL.oo (OW.alloc rfl fun b11=>?_)
 refine zw.st ?_
 refine WL.nil ?_
 refine WK.un ?_
 refine WC.seq ?_
 refine WC.seq ?_
 refine WC.region ?_
 refine WL.vv (Gv.loadN rfl .here rfl rfl) ?_
 refine WL.oo (OW.callR rfl (Hf:=[]) (List.Perm.refl _) (sized_fn G q.name q.exp QA q.params.length qc q.locals q.result (.slice IA q.code.length ic)) rfl (by rintro e G' H' ⟨h,_⟩;exact⟨_,h⟩) fun v' G' H' h hg=>?_)
 obtain⟨he,rfl,rfl⟩:=h
 cases he
 rw[show(decide ((q.params.length:Int)≤q.locals)&&decide (q.locals≤64))=sizedP q from rfl]
 cases hs:sizedP q with
 | false=>
  refine zw.not ?_
  refine zw.move ?_
  refine zw.skip ?_
  refine zw.skip ?_
  refine zw.skip ?_
  refine zw.skip ?_
  refine zw.skip ?_
  refine zw.skip ?_
  refine zw.pick ?_
  refine WL.nil ?_
  refine WK.un ?_
  refine WC.cond_true rfl ?_
  refine WC.seq ?_
  refine WC.region ?_
  refine zw.assign ?_
  refine zw.assign ?_
  refine WL.nil ?_
  refine WK.un ?_
  rw[hcR,if_pos hs]
  refine WC.rt ?_
  exact QF.p2 (.inl rfl) rfl (.tmp rfl) (.tmp rfl) (⟨rfl,rfl,rfl⟩)
 | true=>
 rw[if_neg (by rw[hs];decide)]at hcR
 have hs':(q.params.length:Int)≤q.locals∧q.locals≤64:=by unfold sizedP at hs;simpa using hs
 refine zw.not ?_
 refine zw.move ?_
 refine zw.move ?_
 refine zw.len ?_
 refine zw.fa ?_
 refine zw.ld ?_
 refine zw.len ?_
 by_cases hal':args.length≠q.params.length
 ·
  refine WL.pp (Gp.neI' rfl rfl (show((args.length:Int) != (q.params.length:Int))=true by simp;omega)) ?_
  refine zw.pick ?_
  refine WL.nil ?_
  refine WK.un ?_
  refine WC.cond_true rfl ?_
  refine WC.seq ?_
  refine WC.region ?_
  refine zw.assign ?_
  refine zw.assign ?_
  refine WL.nil ?_
  refine WK.un ?_
  rw[hcR,if_pos hal']
  refine WC.rt ?_
  exact QF.p2 (.inl rfl) rfl (.tmp rfl) (.tmp rfl) (⟨rfl,rfl,rfl⟩)
 rw[if_neg hal']at hcR
 have hal2:args.length=q.params.length:=Classical.not_not.1 hal'
 refine WL.pp (Gp.neI' rfl rfl (show((args.length:Int) != (q.params.length:Int))=false by simp;omega)) ?_
 refine zw.pick ?_
 refine WL.nil ?_
 refine WK.un ?_
 refine WC.cond_false rfl ?_
 refine WC.skip ?_
 refine WK.un ?_
 refine WC.seq ?_
 refine WC.seq ?_
 refine WC.region ?_
 refine zw.move ?_
 refine zw.len ?_
 refine zw.move ?_
 refine WL.nil ?_
 refine WK.un ?_
 refine WC.block ?_  -- 0
 refine WC.pk (H':= .blk b11 (.cells #[.string q.name, .bool q.exp, .slice QA q.params.length qc, .int .i64 q.locals, .int .i64 q.result, .slice IA q.code.length ic] 47 (0,0)):: .blk b9 (.cells #[.slice CA pg.consts.length cc, .slice (some ⟨pb,po,none⟩) pg.procs.length pc,qv] 27 (0,0))::Ha) pkA ?_
 refine WC.loop (X:=Nat) (fun j=>[(39, .int .i64 j),(38, .int .i64 args.length),(37, .slice AA args.length ac),(8, .pointer (some ⟨b11,0,none⟩)),(3, .pointer (some ⟨b9,0,none⟩)),(1, .int .i64 i),(2, .slice AA args.length ac)]) (fun j=>G)
  (fun j=> .blk b11 (.cells #[.string q.name, .bool q.exp, .slice QA q.params.length qc, .int .i64 q.locals, .int .i64 q.result, .slice IA q.code.length ic] 47 (0,0)):: .blk b9 (.cells #[.slice CA pg.consts.length cc, .slice (some ⟨pb,po,none⟩) pg.procs.length pc,qv] 27 (0,0))::Ha) (fun j=>args.length - j)
  (fun j=>j≤args.length∧∀k (u:V) t,k<j→args[k]? =some u→q.params[k]? =some t→vOK u=true∧u.t=t) 0 ⟨by omega,fun k u t h=>by omega⟩ (by exact⟨rfl,rfl,rfl,rfl,rfl,rfl,rfl,trivial⟩) rfl (List.Sublist.refl _) fun j hx=>?_
 obtain⟨hj,hall⟩:=hx
 refine WC.seq ?_
 refine WC.region ?_
 refine zw.lt ?_
 refine WL.nil ?_
 refine WK.un ?_
 refine WC.seq ?_
 refine WC.cond rfl (fun hc13=>?_) (fun hc13=>?_)
 ·-- yes
  have hlt:j<args.length:=by have h:=of_decide_eq_true hc13;omega
  obtain⟨u,hu⟩:∃u,args[j]? =some u:=⟨_,List.getElem?_eq_getElem hlt⟩
  obtain⟨t,ht⟩:∃t,q.params[j]? =some t:=⟨_,List.getElem?_eq_getElem (by omega)⟩
  obtain⟨qb,qo,cs,rfl,hK,hcsq⟩:=hQ j t ht
  obtain rfl:cs=[.int .i64 t]:=hK
  rcases hr with h0 | ⟨lb,lo,rfl,hread⟩
  ·have h:=congrArg List.length h0
   rw[vflat_length]at h;simp only[List.length_nil]at h;omega
  have hbad:¬(vOK u=true∧u.t=t)→startR pg (i:Int) args=none:=fun hno=>by
   rw[hcR,if_neg]
   intro h
   rw[Bool.and_eq_true,decide_eq_true_iff,List.all_eq_true]at h
   refine hno ⟨h.1 u (List.mem_of_getElem? hu),?_⟩
   have h1:=congrArg (fun l=>l[j]?) h.2
   simp only[tys,List.getElem?_map,hu,ht,Option.map_some,Option.some.injEq]at h1
   exact h1
  refine WC.skip ?_
  refine WK.un ?_
  refine WC.seq ?_
  refine WC.block ?_  -- 1
  refine WC.seq ?_
  refine WC.region ?_
  refine zw.move ?_
  refine zw.ix ?_
  refine WL.vv (Gv.loadRN rfl hread (by repeat (first | exact List.Sublist.refl _ | exact List.nil_sublist _ | apply List.Sublist.cons)) (vflat_elem args j u hu) rfl) ?_
  refine WL.oo (OW.alloc rfl fun b14=>?_)
  refine zw.assign ?_
  refine zw.st ?_
  refine WL.nil ?_
  refine WK.un ?_
  refine WC.seq ?_
  refine WC.draw mixed ?_
  refine WA.vv 0 rfl (Gv.loadN rfl .here rfl rfl) ?_
  refine WA.oo 1 rfl (OW.callR rfl (Hf:=[]) (List.Perm.refl _) (value_fnQ G u) rfl (by rintro e G' H' ⟨h,_⟩;exact⟨_,h⟩) fun v' G' H' h hg=>?_)
  obtain⟨he,rfl,rfl⟩:=h
  cases he
  cases hok:vOK u with
  | false=>
   refine za.not 2 ?_
   refine za.move 3 ?_
   refine za.skip 4 ?_
   refine za.skip 5 ?_
   refine za.skip 6 ?_
   refine za.skip 7 ?_
   refine za.skip 8 ?_
   refine za.skip 9 ?_
   refine za.skip 10 ?_
   refine za.skip 11 ?_
   refine za.pick 12 ?_
   refine WA.done kr ?_
   refine WK.un ?_
   refine WC.cond_true rfl ?_
   refine WC.seq ?_
   refine WC.region ?_
   refine zw.assign ?_
   refine zw.assign ?_
   refine WL.nil ?_
   refine WK.un ?_
   rw[hbad (fun h=>by rw[hok]at h;exact absurd h.1 (by decide))]
   refine WC.rt ?_
   exact QF.p2 (.inl rfl) rfl (.tmp rfl) (.tmp rfl) (⟨rfl,rfl,rfl⟩)
  | true=>
  refine za.not 2 ?_
  refine za.move 3 ?_
  refine za.fa 4 ?_
  refine za.ld 5 ?_
  refine za.fa 6 ?_
  refine za.ld 7 ?_
  refine za.move 8 ?_
  refine za.ix 9 ?_
  refine WA.vv 10 rfl (Gv.loadG0 rfl hcsq rfl) ?_
  by_cases htt:u.t=t
  rotate_left
  ·
   refine WA.pp 11 rfl (Gp.neI' rfl rfl (show(u.t != t)=true by simpa using htt)) ?_
   refine za.pick 12 ?_
   refine WA.done kr ?_
   refine WK.un ?_
   refine WC.cond_true rfl ?_
   refine WC.seq ?_
   refine WC.region ?_
   refine zw.assign ?_
   refine zw.assign ?_
   refine WL.nil ?_
   refine WK.un ?_
   rw[hbad (fun h=>htt h.2)]
   refine WC.rt ?_
   exact QF.p2 (.inl rfl) rfl (.tmp rfl) (.tmp rfl) (⟨rfl,rfl,rfl⟩)
  refine WA.pp 11 rfl (Gp.neI' rfl rfl (show(u.t != t)=false by simpa using htt)) ?_
  refine za.pick 12 ?_
  refine WA.done kr ?_
  refine WK.un ?_
  refine WC.cond_false rfl ?_
  refine WC.skip ?_
  refine WK.un ?_
  refine WC.region ?_
  refine zw.add ?_
  refine zw.move ?_
  refine WL.nil ?_
  refine WK.un ?_
  exact WK.again (j+1) (by omega) ⟨by omega,fun k u' t' hk hu' ht'=>by
   rcases Nat.lt_or_ge k j with h | h
   ·exact hall k u' t' h hu' ht'
   ·obtain rfl:k=j:=by omega
    rw[hu]at hu';rw[ht]at ht';cases hu';cases ht';exact⟨hok,htt⟩⟩ (by refine⟨?_,rfl,rfl,rfl,rfl,rfl,rfl,trivial⟩;show some _=some _;rw[wrap_small (by omega) (by omega)];rfl) rfl (by exact .cons _ (List.Sublist.refl _))
 ·-- no
  have hge:j=args.length:=by have h:=of_decide_eq_false hc13;omega
  have hty:tys args=q.params:=by
   apply List.ext_getElem?
   intro k
   rcases Nat.lt_or_ge k args.length with hk' | hk'
   ·obtain⟨u,hu⟩:∃u,args[k]? =some u:=⟨_,List.getElem?_eq_getElem hk'⟩
    obtain⟨t,ht⟩:∃t,q.params[k]? =some t:=⟨_,List.getElem?_eq_getElem (by omega)⟩
    rw[tys,List.getElem?_map,hu,ht,Option.map_some,(hall k u t (by omega) hu ht).2]
   ·rw[List.getElem?_eq_none (by simpa [tys]using hk'),List.getElem?_eq_none (by omega)]
  have hok:args.all vOK=true:=by
   rw[List.all_eq_true]
   intro u hu
   obtain⟨k,hk,rfl⟩:=List.getElem_of_mem hu
   obtain⟨t,ht⟩:∃t,q.params[k]? =some t:=⟨_,List.getElem?_eq_getElem (by omega)⟩
   exact(hall k _ t (by omega) (List.getElem?_eq_getElem hk) ht).1
  rw[hcR,if_pos (by rw[hok,hty];simp)]
  refine WC.exit ?_
  refine WK.un ?_
  refine WC.seq ?_
  refine WC.region ?_
  refine WL.vv (Gv.loadN rfl atA rfl rfl) ?_
  refine WL.oo (OW.callK rfl (own_fn G pg CA (some ⟨pb,po,none⟩) cc pc qv hC hP hB) rfl fun v' G' H' h hg=>?_)
  obtain⟨CA',PA',cc',pc',he,hg2,hC2,hP2,rfl⟩:=h
  cases he
  refine zw.build ?_
  refine WL.oo (OW.box rfl rfl fun b16=>?_)
  refine zw.assign ?_
  refine WL.nil ?_
  refine WK.un ?_
  refine WC.seq ?_
  refine WC.nothing ?_
  refine WC.nothing ?_
  refine WC.region ?_
  refine zw.move ?_
  refine zw.move ?_
  refine zw.move ?_
  refine WL.oo (OW.callK rfl (enter_fn G' b16 (.slice CA' pg.consts.length cc') (.slice none 0 0) PA' pg.procs.length pc' pg.procs none 0 0 V0 none 0 0 0 false [] (.spare 0 0 0) i q hq rfl hP2 ⟨by simp[ptrs], .inl ⟨rfl,rfl,rfl,rfl⟩⟩ (by simp) AA ac args Ha (hr.le hg2) (by omega) hs'.2) rfl fun v' G' H' h hg=>?_)
  obtain⟨FA',fcap',b',VA,x',y,he,rfl,rfl,hx',hy'⟩:=h
  cases he
  refine WL.nil ?_
  refine WK.un ?_
  refine WC.seq ?_
  refine WC.region ?_
  refine zw.move ?_
  refine zw.assign ?_
  refine zw.assign ?_
  refine WL.nil ?_
  refine WK.un ?_
  refine WC.ret ?_
  refine WK.un ?_
  refine WK.swap ?_
  exact QF.p2 (.inl rfl) rfl (.tmp rfl) (.tmp rfl) (⟨b16,CA',PA',cc',pc',[mcB b16 (.slice CA' pg.consts.length cc') (.slice PA' pg.procs.length pc') (.slice none 0 0) FA' 1 fcap' 0 V0 none 0 0 0 false, .spare 0 0 0,x',frB b' none 0 0 i 0 VA (padded args q.locals).length (padded args q.locals).length, .spare 0 0 0,y],rfl,hg2,hC2,hP2,⟨FA',fcap',none,0, .spare 0 0 0,x',[b'],[frB b' none 0 0 i 0 VA (padded args q.locals).length (padded args q.locals).length, .spare 0 0 0,y], .cons ⟨by simp[vflat], .inl ⟨rfl,rfl,rfl,rfl⟩⟩ hy' .nil,hx',⟨by simp[startS,vflat], .inl ⟨rfl,rfl,rfl,rfl⟩⟩,rfl⟩,rfl⟩) pkA
end
section
attribute [local irreducible] Tryz.prog
theorem WL.swap {P:Program} {Q:Exit→Act→World→Prop} {ops:Array Oper} {rest:List Oper} {cx:Cx} {L:List (Nat×Value)} {G:Gh} {H F:List Own} (h:WL P ops Q rest cx L G (F++H)):WL P ops Q rest cx L G (H++F):=fun a w st=>h a w (st.perm List.perm_append_comm)
theorem VVec.none_zero {A:Option Addr} {cap:Nat} {l:List V} {x:Own} (h:VVec A cap l x) (hA:A=none):l.length=0:=by
 rcases h with⟨_,⟨_,h,_⟩ | ⟨b,c,h,_⟩⟩
 ·exact h
 ·rw[h]at hA;cases hA
section
variable (G:Gh) (CA PA:Option Addr) (cc pc cn pn:Nat) (c3:Value) (mb:Nat)
theorem Outcome_fn (s:Mc) (H:List Own) (hR:MRep CA PA cc pc cn pn c3 mb s H) (hm:madeB s=true) (hb:s.out.length*40≤140737488355328):
  Fn Tryz.prog 95 #[.pointer (some ⟨mb,0,none⟩)] G H fun e G' H'=>∃A' cap' x',e= .returned (.agg #[.int .i64 s.en, .int .i64 s.val.t, .int .i64 s.val.i, .bool s.val.b, .string s.val.s, .slice A' s.out.length cap', .int .i64 s.steps])∧G=G'∧VVec A' cap' s.out x'∧H'=x'::H:=by
 have hR0:=hR
 obtain⟨FA,fcap,OA,ocap,ox,fx,bs,Hf,hF,hfv,ho,rfl⟩:=hR
 refine Fn.enter Tryz.func95 rfl rfl fun w0=>?_
 refine WC.seq ?_
 refine WC.region ?_
 refine WL.oo (OW.alloc rfl fun b3=>?_)
 refine WL.nil ?_
 refine WK.un ?_
 refine WC.seq ?_
 refine WC.seq ?_
 refine WC.region ?_
 refine zw.move ?_
 refine WL.oo (OW.callR rfl (perm_at .here |>.trans (List.perm_append_comm (l₁:=[_]))) (made_fn G CA PA cc pc cn pn c3 mb s _ hR0) rfl (by intro e G' H' h;repeat (first | exact⟨_,h.1⟩ | (obtain⟨_,h⟩:=h))) fun v' G' H' h hg=>?_)
 obtain⟨he,rfl,rfl⟩:=h
 cases he
 refine WL.swap ?_
 rw[hm]
 refine zw.not ?_
 refine WL.nil ?_
 refine WK.un ?_
 refine WC.cond_false rfl ?_
 refine WC.skip ?_
 refine WK.un ?_
 refine WC.seq ?_
 refine WC.region ?_
 refine zw.move ?_
 refine zw.nil ?_
 refine zw.fa ?_
 refine WL.vv (Gv.loadN rfl atA rfl rfl) ?_
 refine WL.oo (OW.alloc rfl fun b5=>?_)
 refine zw.st ?_
 refine WL.nil ?_
 refine WK.un ?_
 refine WC.seq ?_
 refine WC.region ?_
 refine zw.fa ?_
 refine zw.ld ?_
 refine WL.oo (OW.callK rfl (clone_vals G [ox] OA s.out.length ocap (vflat s.out) (ho.rds .here) (vflat_length _) (vflat_one _) ho.none_zero hb) rfl fun v' G' H' h hg=>?_)
 obtain⟨A',cap',x',he,rfl,rfl,hx'⟩:=h
 cases he
 refine zw.fa ?_
 refine zw.st ?_
 refine WL.nil ?_
 refine WK.un ?_
 refine WC.seq ?_
 refine WC.region ?_
 refine zw.ld ?_
 refine zw.st ?_
 refine WL.nil ?_
 refine WK.un ?_
 refine WC.rt ?_
 exact QF.p1 (.inl rfl) rfl (.cell rfl inferInstance inferInstance atA rfl rfl) (⟨A',cap',x',rfl,rfl,hx',rfl⟩)
end
end
section
attribute [local irreducible] Tryz.prog
structure Oc where
 en:Int
 val:V
 out:List V
 steps:Int
def Oc0:Oc:=⟨0,V0,[],0⟩
def ocV (o:Oc) (A:Option Addr) (cap:Nat):Value:= .agg #[.int .i64 o.en, .int .i64 o.val.t, .int .i64 o.val.i, .bool o.val.b, .string o.val.s, .slice A o.out.length cap, .int .i64 o.steps]
def Mc.oc (s:Mc):Oc:=⟨s.en,s.val,s.out,s.steps⟩
def runR (pg:Pg) (n fuel:Int) (args:List V):Oc:=match startR pg n args with
 | none=>Oc0
 | some q=>let s:=(runM pg fuel.toNat (startS q n args)).2
  if s.ended then s.oc else { s.oc with en:=5 }
theorem PgB.codeB {pg:Pg} (h:PgB pg):∀pr∈pg.procs,pr.code.length≤90000000000000∧OpS pr.code:=fun pr hp=>⟨by have:=h.code pr hp;omega,h.ops pr hp⟩
theorem startR_some {pg:Pg} {n:Int} {args:List V} {q:Pr} (h:startR pg n args=some q):0≤n∧pg.procs[n.toNat]? =some q∧sizedP q=true∧args.length=q.params.length∧AllOK args:=by
 unfold startR at h
 split at h
 ·cases h
 ·rename_i hn
  split at h
  ·cases h
  ·rename_i q' hq
   split at h
   ·cases h
   ·rename_i hs
    split at h
    ·cases h
    ·rename_i hl
     split at h
     ·rename_i ha
      cases h
      rw[Bool.and_eq_true,List.all_eq_true]at ha
      exact⟨by omega,hq,by simpa using hs,Classical.not_not.1 hl,ha.1⟩
     ·cases h
theorem startS_inv {pg:Pg} {n:Int} {args:List V} {q:Pr} (h:startR pg n args=some q):Inv pg (startS q n args)∧Live (startS q n args):=by
 obtain⟨h1,h2,h3,h4,h5⟩:=startR_some h
 have hsz:(q.params.length:Int)≤q.locals∧q.locals≤64:=by unfold sizedP at h3;simpa using h3
 have hpl:(padded args q.locals).length≤64:=by rw[padded_length (by omega)];omega
 refine⟨⟨fun f hf=>?_,by simp[startS],fun f hf=>?_,trivial,by simp[startS],fun v hv=>by simp[startS]at hv⟩,fun _ h=>by cases h⟩
 ·simp only[startS,List.mem_singleton]at hf
  subst hf
  exact⟨q,h2,by simp⟩
 ·simp only[startS,List.mem_singleton]at hf
  subst hf
  refine⟨by simp,hpl,fun v hv=>by simp at hv,fun v hv=>?_⟩
  rcases List.mem_append.1 hv with hv | hv
  ·exact .inl (h5 v hv)
  ·exact .inr (List.eq_of_mem_replicate hv)
theorem Inv.run {pg:Pg} :∀(n:Nat) (s:Mc),Inv pg s→Live s→Inv pg (runM pg n s).2∧Live (runM pg n s).2
 | 0,s,h,hl=>⟨h,hl⟩
 | n+1,s,h,hl=>by
  unfold runM
  split
  ·exact⟨h,hl⟩
  ·exact Inv.run n _ h.step hl.step
theorem Live.made {s:Mc} (h:Live s):madeB s=true:=by
 unfold madeB
 cases he:s.ended with
 | true=>simp
 | false=>have:=h he;simp[List.length_pos_iff,this]
theorem Run_fn (G:Gh) (pg:Pg) (CA PA:Option Addr) (cc pc:Nat) (qv:Value) (hC:Sl Kd.val G CA pg.consts) (hP:Sl Kd.prc G PA pg.procs) (hB:PgB pg) (n fuel:Int) (hfu:fuel≤1000000) (AA:Option Addr) (ac:Nat) (args:List V) (Ha:List Own) (hr:Rds G Ha AA (vflat args)) (hal:args.length*40≤140737488355328):
  Fn Tryz.prog 44 #[.agg #[.slice CA pg.consts.length cc, .slice PA pg.procs.length pc,qv], .int .i64 n, .int .i64 fuel, .slice AA args.length ac] G Ha
   fun e G' H'=>∃A' cap' x',e= .returned (ocV (runR pg n fuel args) A' cap')∧G.le G'∧VVec A' cap' (runR pg n fuel args).out x'∧H'=x'::Ha:=by
 refine Fn.enter Tryz.func44 rfl rfl fun w0=>?_
 refine WC.seq ?_
 refine WC.region ?_
 refine WL.oo (OW.box rfl rfl fun b17=>?_)
 refine WL.oo (OW.alloc rfl fun b18=>?_)
 refine WL.nil ?_
 refine WK.un ?_
 refine WC.seq ?_
 refine WC.region ?_
 refine WL.vv (Gv.loadN rfl atA rfl rfl) ?_
 refine zw.move ?_
 refine zw.move ?_
 cases hs:startR pg n args with
 | none=>
  refine WL.oo (OW.callR rfl (Pk.perm pkA) ((Start_fn G pg CA PA cc pc qv hC hP hB n AA ac args Ha hr hal).mono fun e G' H' h=>(by rw[hs]at h;exact h)) rfl (by intro e G' H' h;repeat (first | exact⟨_,h.1⟩ | (obtain⟨_,h⟩:=h))) fun v' G' H' h hg=>?_)
  obtain⟨he,rfl,rfl⟩:=h
  cases he
  refine WL.swap ?_
  refine zw.move ?_
  refine zw.ext ?_
  refine zw.ext ?_
  refine zw.assign ?_
  refine zw.assign ?_
  refine WL.nil ?_
  refine WK.un ?_
  refine WC.seq ?_
  refine WC.seq ?_
  refine WC.region ?_
  refine zw.move ?_
  refine zw.ne ?_
  refine WL.nil ?_
  refine WK.un ?_
  refine WC.cond_true rfl ?_
  refine WC.seq ?_
  refine WC.region ?_
  refine zw.build ?_
  refine zw.st ?_
  refine WL.nil ?_
  refine WK.un ?_
  refine WC.nothing ?_
  rw[show runR pg n fuel args=Oc0 by rw[runR,hs]]
  refine WC.rt ?_
  exact QF.p1 (.inl rfl) rfl (.cell rfl inferInstance inferInstance atA rfl rfl) (⟨none,0, .spare 0 0 0,rfl,Gh.le_refl _,⟨by simp[vflat,Oc0], .inl ⟨rfl,rfl,rfl,rfl⟩⟩,rfl⟩)
 | some q=>
  obtain⟨hI,hL⟩:=startS_inv hs
  have hIr:=Inv.run fuel.toNat _ hI hL
  refine WL.oo (OW.callR rfl (Pk.perm pkA) ((Start_fn G pg CA PA cc pc qv hC hP hB n AA ac args Ha hr hal).mono fun e G' H' h=>(by rw[hs]at h;exact h)) rfl (by rintro e G' H' ⟨_,_,_,_,_,_,h,_⟩;exact⟨_,h⟩) fun v' G' H' h hg=>?_)
  obtain⟨mb,CA',PA',cc',pc',H1,he,hg1,hC1,hP1,hR,rfl⟩:=h
  cases he
  refine WL.swap ?_
  refine zw.move ?_
  refine zw.ext ?_
  refine zw.ext ?_
  refine zw.assign ?_
  refine zw.assign ?_
  refine WL.nil ?_
  refine WK.un ?_
  refine WC.seq ?_
  refine WC.seq ?_
  refine WC.region ?_
  refine zw.move ?_
  refine zw.ne ?_
  refine WL.nil ?_
  refine WK.un ?_
  refine WC.cond_false rfl ?_
  refine WC.skip ?_
  refine WK.un ?_
  refine WC.seq ?_
  refine WC.region ?_
  refine zw.move ?_
  refine zw.move ?_
  refine WL.oo (OW.callK rfl (Step_fn G' pg CA' PA' cc' pc' hC1 hP1 hB.codeB mb (.slice none 0 0) (startS q n args) H1 hR hI hL fuel hfu (by simp[startS])) rfl fun v' G' H' h hg=>?_)
  obtain⟨he,rfl,hR2⟩:=h
  cases he
  refine WL.swap ?_
  refine WL.nil ?_
  refine WK.un ?_
  obtain⟨t,ht⟩:∃t,t=(runM pg fuel.toNat (startS q n args)).2:=⟨_,rfl⟩
  rw[←ht]at hIr hR2
  have hrun:runR pg n fuel args=if t.ended then t.oc else { t.oc with en:=5 } :=by rw[runR,hs,ht]
  have hout:(runR pg n fuel args).out=t.out:=by rw[hrun];split<;>rfl
  rw[hrun]
  obtain⟨FA,fcap,OA,ocap,ox,fx,bs,Hf,hF,hfv,ho,rfl⟩:=id hR2
  refine WC.seq ?_
  refine WC.region ?_
  refine zw.move ?_
  refine WL.oo (OW.callK rfl (Outcome_fn G' CA' PA' cc' pc' pg.consts.length pg.procs.length (.slice none 0 0) mb _ _ hR2 hIr.2.made (by have:=hIr.1.out.1;omega)) rfl fun v' G' H' h hg=>?_)
  obtain⟨A',cap',x',he,rfl,hx',rfl⟩:=h
  cases he
  refine WL.oo (OW.alloc rfl fun b20=>?_)
  refine zw.st ?_
  refine WL.nil ?_
  refine WK.un ?_
  refine WC.front (H':=[.blk b20 (.cells #[.int .i64 t.en, .int .i64 t.val.t, .int .i64 t.val.i, .bool t.val.b, .string t.val.s, .slice A' t.out.length cap', .int .i64 t.steps] 65 (0,0)), .blk b18 (.cells #[.int .i64 0, .int .i64 0, .int .i64 0, .bool false, .string ⟨#[]⟩, .slice none 0 0, .int .i64 0] 65 (0,0)),mcB mb (.slice CA' pg.consts.length cc') (.slice PA' pg.procs.length pc') (.slice none 0 0) FA bs.reverse.length fcap t.en t.val OA t.out.length ocap t.steps t.ended,x']) pkA ?_
  refine WC.seq ?_
  refine WC.seq ?_
  refine WC.region ?_
  refine zw.move ?_
  refine zw.nil ?_
  refine zw.fa ?_
  refine zw.ld ?_
  cases hen:t.ended with
  | true=>
   refine zw.not ?_
   refine WL.nil ?_
   refine WK.un ?_
   refine WC.cond_false rfl ?_
   refine WC.skip ?_
   refine WK.un ?_
   refine WC.seq ?_
   refine WC.region ?_
   refine WL.vv (Gv.loadN rfl atA rfl rfl) ?_
   refine zw.st ?_
   refine WL.nil ?_
   refine WK.un ?_
   refine WC.rt ?_
   exact QF.p1 (.inl rfl) rfl (.cell rfl inferInstance inferInstance atA rfl rfl) (⟨A',cap',x',rfl,hg1,hx',rfl⟩)
  | false=>
   refine zw.not ?_
   refine WL.nil ?_
   refine WK.un ?_
   refine WC.cond_true rfl ?_
   refine WC.region ?_
   refine zw.fa ?_
   refine zw.st ?_
   refine WL.nil ?_
   refine WK.un ?_
   refine WC.seq ?_
   refine WC.region ?_
   refine WL.vv (Gv.loadN rfl atA rfl rfl) ?_
   refine zw.st ?_
   refine WL.nil ?_
   refine WK.un ?_
   refine WC.rt ?_
   exact QF.p1 (.inl rfl) rfl (.cell rfl inferInstance inferInstance atA rfl rfl) (⟨A',cap',x',rfl,hg1,hx',rfl⟩)
end
section
structure Good (l:List Ob):Prop where
 hv:∀o∈l,(objAns o).2.2=0
 hp:(l.map (·.path)).Nodup
 hm:missL l=[]
def pgL (l:List Ob):Pg:=⟨l.flatMap (·.consts),joinP (allPr l) l 0 0⟩
def relN (l l':List Ob) (n n':Nat):Prop:=∃(k j:Nat) (o:Ob) (p:Pr) (k':Nat),l[k]? =some o∧o.procs[j]? =some p∧l'[k']? =some o∧n=sumP (l.take k)+j∧n'=sumP (l'.take k')+j
def relDR (l l':List Ob):DR→DR→Prop
 | .call q r a n, .call q' r' a' n'=>q.locals=q'.locals∧r=r'∧a=a'∧relN l l' n.toNat n'.toNat
 | d,d'=>d=d'
def relF (l l':List Ob) (f f':Fr):Prop:=f.pc=f'.pc∧f.stack=f'.stack∧f.vars=f'.vars∧relN l l' f.proc f'.proc
inductive relFs (l l':List Ob):List Fr→List Fr→Prop where
 | nil:relFs l l' [] []
 | cons {f f':Fr} {fs fs':List Fr} (h:relF l l' f f') (t:relFs l l' fs fs'):relFs l l' (f::fs) (f'::fs')
structure relM (l l':List Ob) (s s':Mc):Prop where
 frames:relFs l l' s.frames s'.frames
 out:s.out=s'.out
 steps:s.steps=s'.steps
 en:s.en=s'.en
 val:s.val=s'.val
 ended:s.ended=s'.ended
section
variable {l l':List Ob} (g:Good l) (g':Good l') (inc:∀o∈l,o∈l')
include g g' inc
end
end
section
open Go.MapKept
def p2L:Pr:=⟨⟨#[109,97,105,110]⟩,true,[],0,1,[(7,0),(10,0)]⟩
theorem miss_12:missL [o1,o2]=[]:=by decide+kernel
theorem miss_2:missL [o2]=[n2]:=by kernel_rfl
theorem join_12:joinP (allPr [o1,o2]) [o1,o2] 0 0=[p1,p2L]:=by kernel_rfl
theorem pts_12:(joinT' [o1,o2] 0).length=2:=by decide+kernel
theorem link_12:linkE [o1,o2]=0:=by
 unfold linkE
 have h1:errL [o1,o2]=0:=errL_zero.2 fun o ho=>by
  rcases List.mem_cons.1 ho with rfl | ho
  ·rw[ans_1]
  ·obtain rfl:=List.mem_singleton.1 ho
   rw[ans_2]
 rw[h1,if_neg (by decide),if_neg (by decide+kernel),miss_12,if_neg (by simp),if_neg (by decide+kernel)]
theorem link_2:linkE [o2]=221:=by
 unfold linkE
 have h1:errL [o2]=0:=errL_zero.2 fun o ho=>by
  obtain rfl:=List.mem_singleton.1 ho
  rw[ans_2]
 rw[h1,if_neg (by decide),if_neg (by decide+kernel),miss_2,if_pos (by simp)]
theorem run_12:(runR ⟨[⟨1,7,false,⟨#[]⟩⟩],[p1,p2L]⟩ 1 9 []).val.i=7:=by kernel_rfl
theorem lim_1:OLim o1:=⟨by decide,by decide,by decide,by decide,fun q h=>(by cases h),fun q h=>by obtain rfl:=List.mem_singleton.1 h;decide⟩
theorem lim_2:OLim o2:=⟨by decide,by decide,by decide,by decide,fun q h=>by(obtain rfl:=List.mem_singleton.1 h;decide),fun q h=>by obtain rfl:=List.mem_singleton.1 h;decide⟩
theorem llim_2:LLim [o2] where
 len:=by decide
 sumP:=by decide
 sumN:=by decide
 sumC:=by decide
 lim o ho:=by obtain rfl:=List.mem_singleton.1 ho;exact lim_2
 pp o ho p hp:=by obtain rfl:=List.mem_singleton.1 ho;obtain rfl:=List.mem_singleton.1 hp;decide
 np o ho p hp:=by obtain rfl:=List.mem_singleton.1 ho;obtain rfl:=List.mem_singleton.1 hp;decide
theorem llim_12:LLim [o1,o2] where
 len:=by decide
 sumP:=by decide
 sumN:=by decide
 sumC:=by decide
 lim o ho:=by
  rcases List.mem_cons.1 ho with rfl | ho
  ·exact lim_1
  ·obtain rfl:=List.mem_singleton.1 ho;exact lim_2
 pp o ho p hp:=by
  rcases List.mem_cons.1 ho with rfl | ho
  ·obtain rfl:=List.mem_singleton.1 hp;decide
  ·exact llim_2.pp o ho p hp
 np o ho p hp:=by
  rcases List.mem_cons.1 ho with rfl | ho
  ·cases hp
  ·exact llim_2.np o ho p hp
theorem uintL_pos (n:Nat):1≤(uintL n).length:=by
 rw[uintL];split<;>simp
theorem bytes_1:bytesO o1=objI o1:=by rw[bytesO,ans_1];rfl
theorem objI_1:3<(objI o1).length∧(objI o1).length≤1000:=by
 have h10:∀n:Nat,n<18446744073709551616→(uintL n).length≤10:=fun n h=>uintL_len10 h
 have hc:∀l:List Int,l=(bytesR p1.code).1→l.length≤100:=fun l e=>by
  subst e
  unfold bytesR
  split
  ·unfold encP
   rw[List.length_append]
   have:=h10 p1.code.length (by decide)
   have h2:=flat_le (l:=p1.code) (k:=p1.code.length) fun j i hj hi=>by
    have:∀i∈p1.code,mayI i=true:=by decide+kernel
    exact this i (List.mem_of_getElem? hi)
   have h3:p1.code.length=2:=rfl
   omega
  ·simp
 have hcc:=hc _ rfl
 have hu:=uI_len
 have hz:=h10 (zzN 7) (by decide)
 have h1:=uintL_pos o1.path.size
 have h2:=h10 o1.path.size (by decide)
 have h3:=h10 p1.name.size (by decide)
 have a1:=hu o1.consts.length
 have a2:=hu o1.needs.length
 have a3:=hu o1.procs.length
 have a4:=hu p1.params.length
 have a5:=hu p1.locals
 have e1:(objI o1).length=3+((uintL o1.path.size).length+1)+((uI o1.consts.length).length+(1+(uintL (zzN 7)).length))+(uI o1.needs.length).length+((uI o1.procs.length).length+((uintL p1.name.size).length+1+(uI p1.params.length).length+0+1+1+(uI p1.locals).length+(bytesR p1.code).1.length)):=by
  have v1:o1.consts.flatMap valI=kindI 1++uintL (zzN 7):=by simp[o1,valI]
  have v2:o1.procs.flatMap procI=procI p1:=by simp[o1]
  have v3:p1.params=[]:=rfl
  simp only[objI,valsI,procsI,v1,v2,procI,headI,txtI,List.length_append,strI_length]
  simp only[v3]
  rfl
 omega
end
section
open Go.MapKept
attribute [local irreducible] Tryz.prog joinP joinT' allPr objI bytesO runR linkE
section
variable {L:List (Nat×Value)} {d:Option Tmp} {ty:TypeId} {pos:String} {af:Array Edge} {gu:Option (Nat×Bool)}
theorem Gp.ocVal {x:Operand} {o:Oc} {A:Option Addr} {c:Nat} (hx:ev L x=some (ocV o A c)):Gp Tryz.prog L ⟨d, .field 65 x 1,ty,pos,af,gu⟩ (.agg #[.int .i64 o.val.t, .int .i64 o.val.i, .bool o.val.b, .string o.val.s]):=fun a st w=>by
 have a0:=fun w=>(inferInstance:Agg Tryz.prog 52 true).h w
 have i0:=fun w=>(inferInstance:Inf Tryz.prog 3 1 8 (.int .i64 0)).sizeOf (w:=w)
 have i1:=fun w=>(inferInstance:Inf Tryz.prog 52 4 _ _).sizeOf (w:=w)
 simp[execOp,st.eval hx,ocV,Instr.field,part,asAgg,run_underlying Tryz.underlying65,a0,i0,i1,Result.andThen]
theorem Gp.valI {x:Operand} {v:V} (hx:ev L x=some (.agg #[.int .i64 v.t, .int .i64 v.i, .bool v.b, .string v.s])):Gp Tryz.prog L ⟨d, .field 52 x 1,ty,pos,af,gu⟩ (.int .i64 v.i):=fun a st w=>by
 have a0:=fun w=>(inferInstance:Agg Tryz.prog 2 false).h w
 simp[execOp,st.eval hx,Instr.field,part,asAgg,run_underlying Tryz.underlying52,a0,Result.andThen]
end
theorem Run_12 (G:Gh) (CA PA:Option Addr) (cc pc:Nat) (qv:Value) (hC:Sl Kd.val G CA (pgL [o1,o2]).consts) (hP:Sl Kd.prc G PA [p1,p2L]):
  Fn Tryz.prog 44 #[.agg #[.slice CA 1 cc, .slice PA 2 pc,qv], .int .i64 1, .int .i64 9, .slice none 0 0] G []
   fun e G' H'=>∃o A' cap' x',o.val.i=7∧e= .returned (ocV o A' cap')∧G.le G'∧VVec A' cap' o.out x'∧H'=[x']:=by
 have hB:PgB ⟨[⟨1,7,false,⟨#[]⟩⟩],[p1,p2L]⟩:=⟨by decide,by decide,by decide,by decide,by unfold OpS;decide⟩
 refine Fn.mono (Run_fn G ⟨[⟨1,7,false,⟨#[]⟩⟩],[p1,p2L]⟩ CA PA cc pc qv hC hP hB 1 9 (by decide) none 0 [] [] (Rds.nil _ _ _) (by simp)) fun e G' H' h=>?_
 obtain⟨A',cap',x',h1,h2,h3,h4⟩:=h
 exact⟨_,A',cap',x',run_12,h1,h2,h3,h4⟩
theorem link12_fn (G:Gh) (hE:Env G) (A:Option Addr) (cap:Nat) (hS:Sl Kd.ob G A [o1,o2]):
  Fn Tryz.prog 12 #[.slice A 2 cap] G [] fun e G' H'=>∃LA lc MA mc QA qc y1 y2 y3,e= .returned (.tuple #[.agg #[.slice LA 1 lc, .slice MA 2 mc, .slice QA 2 qc], .int .i64 0])∧G.le G'∧
   KVec Kd.val 52 G' LA lc (pgL [o1,o2]).consts y1∧KVec Kd.prc 47 G' MA mc [p1,p2L] y2∧H'=[y1,y2,y3]:=by
 refine Fn.mono (Link_fn G hE A cap [o1,o2] hS llim_12) fun e G' H' h=>?_
 obtain⟨hg,⟨hne,_⟩ | ⟨_,LA,lc,MA,mc,QA,qc,y1,y2,y3,he,hk1,hk2,hk3,rfl⟩⟩:=h
 ·exact absurd link_12 hne
 rw[join_12]at he hk2
 rw[pts_12]at he
 exact⟨LA,lc,MA,mc,QA,qc,y1,y2,y3,he,hg,hk1,hk2,rfl⟩
theorem link2_fn (G:Gh) (hE:Env G) (A:Option Addr) (cap:Nat) (hS:Sl Kd.ob G A [o2]):
  Fn Tryz.prog 12 #[.slice A 1 cap] G [] fun e G' H'=>e= .returned (.tuple #[.agg #[.slice none 0 0, .slice none 0 0, .slice none 0 0], .int .i64 221])∧G.le G'∧H'=[]:=by
 refine Fn.mono (Link_fn G hE A cap [o2] hS llim_2) fun e G' H' h=>?_
 obtain⟨hg,⟨_,he,rfl⟩ | ⟨hz,_⟩⟩:=h
 ·rw[link_2]at he
  exact⟨he,hg,rfl⟩
 ·rw[link_2]at hz;exact absurd hz (by decide)
theorem bytes1_fn (G:Gh) (hE:Env G) (CA PA:Option Addr) (cc nc pc:Nat) (hO:ORep G o1 CA none PA):
  Fn Tryz.prog 27 #[.agg (obC o1 CA none PA cc nc pc)] G [] fun e G' H'=>∃A' n cap' x',(3<n∧n≤1000)∧e= .returned (.tuple #[.slice A' n cap', .int .i64 0])∧G.le G'∧H'=[x']:=by
 refine Fn.mono (objBytes_fn G hE o1 CA none PA cc nc pc hO lim_1 (fun v hv=>by obtain rfl:=List.mem_singleton.1 hv;decide) (by decide) (by decide) (by decide) (fun p hp=>by obtain rfl:=List.mem_singleton.1 hp;decide) (by have:=objI_1.2;omega)) fun e G' H' h=>?_
 obtain⟨A',cap',x',he,hg,_,rfl⟩:=h
 rw[ans_1,bytes_1]at he
 exact⟨A',_,cap',x',objI_1,he,hg,rfl⟩
set_option maxRecDepth 20000 in
set_option maxHeartbeats 4000000 in
theorem awakeL (G:Gh) (hE:Env G):Fn Tryz.prog 15 #[] G [] fun e G' H'=>e= .returned (.bool true)∧G.le G'∧H'=[]:=by
 refine Fn.enter Tryz.func15 rfl rfl fun w0=>?_
 refine gom ?_
 refine WL.oo (OW.callK rfl (lawOne_fn G) rfl fun v' G' H' h hg=>?_)
 obtain⟨CA,PA,he,hg1,hO1,rfl⟩:=h
 cases he
 obtain⟨G1,rfl⟩:∃G1,G1=G':=⟨_,rfl⟩
 refine WL.oo (OW.callK rfl (lawTwo_fn G1) rfl fun v' G' H' h hg=>?_)
 obtain⟨NA,PB,he,hg2,hO2,rfl⟩:=h
 cases he
 obtain⟨G2,rfl⟩:∃G2,G2=G':=⟨_,rfl⟩
 refine WL.op kr (OW.buildSlice rfl kr kr (by rfl) rfl fun b10=>?_)
 refine WL.freezeC (cs:=[.string o1.path, .slice CA 1 1, .slice none 0 0, .slice PA 1 1]++[.string o2.path, .slice none 0 0, .slice NA 1 1, .slice PB 1 1]) .here rfl fun G3 hg3 h3=>?_
 have hS:Sl Kd.ob G3 (some ⟨b10,0,none⟩) [o1,o2]:=KFl.sl (k:=Kd.ob) (l:=[o1]++[o2]) (by decide)
  ((KFl.one (k:=Kd.ob) (x:=o1) ⟨CA,1,none,0,PA,1,rfl,hO1.mono (Gh.le_trans hg2 hg3)⟩).append (KFl.one (k:=Kd.ob) (x:=o2) ⟨none,0,NA,1,PB,1,rfl,hO2.mono hg3⟩)) (.inr ⟨b10,rfl,h3⟩)
 have hg13:=Gh.le_trans hg1 (Gh.le_trans hg2 hg3)
 refine WL.oo (OW.callK rfl (link12_fn G3 (hE.mono hg13) (some ⟨b10,0,none⟩) 2 hS) rfl fun v' G' H' h hg=>?_)
 obtain⟨G4,rfl⟩:∃G4,G4=G':=⟨_,rfl⟩
 obtain⟨LA,lc,MA,mc,QA,qc,y1,y2,y3,he,hg4,hk1,hk2,rfl⟩:=h
 cases he
 refine WL.freezeK (by decide) hk1 .here fun G5 hg5 hC=>?_
 refine WL.freezeK (by decide) (hk2.mono hg5) .here fun G6 hg6 hP=>?_
 have hC6:=hC.mono hg6
 have hg16:=Gh.le_trans hg13 (Gh.le_trans hg4 (Gh.le_trans hg5 hg6))
 refine gom ?_
 refine WL.oo (OW.alloc rfl fun b1=>?_)
 refine gom ?_
 refine WL.oo (OW.callK rfl (lawTwo_fn G6) rfl fun v' G' H' h hg=>?_)
 obtain⟨ND,PD,he,hg7,hO3,rfl⟩:=h
 cases he
 obtain⟨G7,rfl⟩:∃G7,G7=G':=⟨_,rfl⟩
 refine WL.op kr (OW.buildSlice rfl kr kr (by rfl) rfl fun b16=>?_)
 refine WL.freezeC (cs:=[.string o2.path, .slice none 0 0, .slice ND 1 1, .slice PD 1 1]) .here rfl fun G8 hg8 h8=>?_
 have hS2:Sl Kd.ob G8 (some ⟨b16,0,none⟩) [o2]:=KFl.sl (k:=Kd.ob) (l:=[o2]) (by decide) (KFl.one (k:=Kd.ob) (x:=o2) ⟨none,0,ND,1,PD,1,rfl,hO3.mono hg8⟩) (.inr ⟨b16,rfl,h8⟩)
 have hg18:=Gh.le_trans hg16 (Gh.le_trans hg7 hg8)
 refine WL.oo (OW.callK rfl (link2_fn G8 (hE.mono hg18) (some ⟨b16,0,none⟩) 1 hS2) rfl fun v' G' H' h hg=>?_)
 obtain⟨he,hg9,rfl⟩:=h
 cases he
 obtain⟨G9,rfl⟩:∃G9,G9=G':=⟨_,rfl⟩
 have hg19:=Gh.le_trans hg18 hg9
 refine gom ?_
 refine WL.oo (OW.alloc rfl fun b3=>?_)
 refine gom ?_
 refine WL.oo (OW.callK rfl (lawOne_fn _) rfl fun v' G' H' h hg=>?_)
 obtain⟨CE,PE,he,hg10,hO4,rfl⟩:=h
 cases he
 obtain⟨G10,rfl⟩:∃G10,G10=G':=⟨_,rfl⟩
 have hg20:=Gh.le_trans hg19 hg10
 refine WL.oo (OW.callK rfl (bytes1_fn _ (hE.mono hg20) CE PE 1 0 1 hO4) rfl fun v' G' H' h hg=>?_)
 obtain⟨BA,bn,bc,z1,hbn,he,hg11,rfl⟩:=h
 cases he
 obtain⟨G11,rfl⟩:∃G11,G11=G':=⟨_,rfl⟩
 have hg21:=Gh.le_trans hg20 hg11
 have hg611:G6.le G11:=Gh.le_trans hg7 (Gh.le_trans hg8 (Gh.le_trans hg9 (Gh.le_trans hg10 hg11)))
 have hC11:=hC6.mono hg611
 have hP11:=hP.mono hg611
 have hPP:=hP11
 obtain⟨mb,mo,pcs,rfl,hpk,hpc⟩:=hP11 1 p2L rfl
 obtain⟨PX,px,CX,cx',rfl,_,hcode⟩:=hpk
 obtain⟨ib,io,ics,rfl,hik,hic⟩:=hcode 0 (7,0) rfl
 obtain rfl:ics=[.int .i64 7, .int .i64 0]:=hik
 have e3:decide ((3:Int)<(bn:Int))=true:=decide_eq_true (by omega)
 have x0:(0:Int)≤1:=by decide
 have x1:(1:Int)<((2:Nat):Int):=by decide
 have x2:(0:Int)≤0:=by decide
 have x3:(0:Int)<((p2L.code.length:Nat):Int):=by decide
 refine gom ?_
 refine WL.pp (Gp.eqIns rfl rfl) ?_
 refine gom ?_
 refine WL.oo (OW.callK rfl (Run_12 G11 LA (some ⟨mb,mo,none⟩) lc mc _ hC11 hPP) rfl fun v' G' H' h hg=>?_)
 obtain⟨o,RA,rc,z2,ho,he,hg12,hv,rfl⟩:=h
 cases he
 refine gom ?_
 refine WL.pp (Gp.ocVal rfl) ?_
 refine WL.pp (Gp.valI rfl) ?_
 rw[ho]
 refine gom ?_
 refine WC.rt ?_
 exact QF.p1 (.inl rfl) rfl (.tmp rfl) (⟨rfl,Gh.le_trans hg21 hg12,rfl⟩)
end
section
open Go.MapKept
attribute [local irreducible] Tryz.prog
def ptR (l:List Pt) (a b:ByteArray):Int×Int:=match l.find? (fun p=>p.path==a&&p.name==b)with
 | some p=>(p.proc,0)
 | none=>(0,8)
section
variable (G:Gh) (A:Option Addr) (l:List Pt) (cap:Nat) (hl:Sl Kd.pnt G A l) (hn:l.length≤100000000000000) (a b:ByteArray)
include hl hn
end
end
section
open Go.MapKept
attribute [local irreducible] Tryz.prog
noncomputable def outA (w:Wd) (k:Nat):Int×Int:=match w.procs[k]? with | some p=>procOut w [] p | none=>(0,0)
noncomputable def allA (w:Wd):Int×Int×Int:=
 match (List.range w.procs.length).find? (fun k=>(outA w k).2 != 0)with
 | some k=>((k:Int),(outA w k).1,(outA w k).2)
 | none=>(0,0,0)
theorem allA_at {w:Wd} {k:Nat} (hk:k<w.procs.length) (h0:∀j,j<k→(outA w j).2=0) (h1:(outA w k).2≠0):allA w=((k:Int),(outA w k).1,(outA w k).2):=by
 unfold allA
 rw[find_range hk (fun j hj=>by simp[h0 j hj]) (by simpa using h1)]
theorem allA_none {w:Wd} (h0:∀j,j<w.procs.length→(outA w j).2=0):allA w=(0,0,0):=by
 unfold allA
 rw[List.find?_eq_none.2 (fun j hj=>by simp[h0 j (by simpa using hj)])]
theorem allA_zero {w:Wd} (h:∀(j:Nat) p,w.procs[j]? =some p→procOut w [] p=(0,0)):allA w=(0,0,0):=allA_none fun j hj=>by
 unfold outA
 rw[List.getElem?_eq_getElem hj]
 dsimp only
 rw[h j _ (List.getElem?_eq_getElem hj)]
theorem allA_ok {w:Wd} (h:(allA w).2.2=0) {j:Nat} {p:Pr} (hp:w.procs[j]? =some p):(procOut w [] p).2=0:=by
 have hj:=(List.getElem?_eq_some_iff.1 hp).1
 cases hf:(List.range w.procs.length).find? (fun k=>(outA w k).2 != 0)with
 | some k=>
  have h2:=List.find?_some hf
  unfold allA at h
  rw[hf]at h
  have h3:(outA w k).2=0:=h
  rw[h3]at h2
  cases h2
 | none=>
  have:=List.find?_eq_none.1 hf j (by simpa using hj)
  unfold outA at this
  rw[hp]at this
  simpa using this
theorem outA_eq {w:Wd} {k:Nat} {p:Pr} (h:w.procs[k]? =some p):outA w k=procOut w [] p:=by unfold outA;rw[h]
structure AK where
 k:Nat
 G:Gh
 es:Array MapEntry
 ck:Nat
 pm:List (ByteArray×Value)
def okA (w:Wd) (k:Nat):Prop:=∀j,j<k→(outA w j).2=0
set_option maxHeartbeats 4000000 in
theorem wallA_fn (G:Gh) (hE:Env G) (w:Wd) (bw:Nat) (CA NA PA:Option Addr) (cc nc pc:Nat) (hW:WRep G w bw CA NA PA cc nc pc) (hpr:∀q∈w.procs,q.code.length≤100000000000000∧q.name.size≤100000000000000):
  Fn Tryz.prog 42 #[.pointer (some ⟨bw,0,none⟩), .bool true] G [] fun e G' H'=>e= .returned (.tuple #[.agg #[.int .i64 (allA w).1, .int .i64 (allA w).2.1], .int .i64 (allA w).2.2])∧G.le G'∧H'=[]:=by
 have hwc:=hW.cells
 have hpl:=hW.pl
 refine Fn.enter Tryz.func42 rfl rfl fun w0=>?_
 refine WC.seq ?_
 refine WC.region ?_
 refine WL.oo (OW.alloc rfl fun b4=>?_)
 refine gom ?_
 refine WL.oo (OW.makeMap rfl fun bm=>?_)
 refine gom ?_
 refine WC.loop (X:=AK) (fun x=>[(0, .pointer (some ⟨bw,0,none⟩)),(1, .bool true),(4, .pointer (some ⟨b4,0,none⟩)),(6, .map (some bm)),(18, .slice PA w.procs.length pc),(19, .int .i64 w.procs.length),(20, .int .i64 x.k)]) (fun x=>x.G) (fun x=>[.blk bm (.map x.es x.ck),spB b4]) (fun x=>w.procs.length - x.k) (fun x=>x.k≤w.procs.length∧G.le x.G∧okA w x.k∧MRel Value.string .string x.es x.ck x.pm∧CntM x.pm ((w.procs.take x.k).map (·.name))) ⟨0,G, #[],0,[]⟩ ⟨Nat.zero_le _,Gh.le_refl _,(fun j h=>absurd h (Nat.not_lt_zero _)),MRel.empty,by dsimp only;rw[List.take_zero];exact CntM.nil⟩ (by exact⟨rfl,rfl,rfl,rfl,rfl,rfl,rfl,trivial⟩) rfl (List.Sublist.refl _) fun x hx=>?_
 obtain⟨k,G1,es,ck,pm⟩:=x
 obtain⟨hk,hg1,hok,hm,hN⟩:=hx
 dsimp only at hk hg1 hok hm hN
 have x2:=wrapS k (by omega)
 by_cases hlt:k<w.procs.length
 rotate_left
 ·have e2:decide ((k:Int)<(w.procs.length:Int))=false:=decide_eq_false (by omega)
  refine gom ?_
  refine WC.rt ?_
  exact QF.p2 (.inl rfl) rfl (.cell rfl inferInstance inferInstance atA rfl rfl) (.tmp rfl) (⟨by rw[allA_none fun j hj=>hok j (by omega)];rfl,hg1,rfl⟩)
 have e2:decide ((k:Int)<(w.procs.length:Int))=true:=decide_eq_true (by omega)
 obtain⟨p,hp⟩:∃p,w.procs[k]? =some p:=⟨_,List.getElem?_eq_getElem (by omega)⟩
 have hW1:=hW.mono hg1
 obtain⟨b,ofs,cs,rfl,hks,hcs⟩:=hW1.procs k p hp
 obtain⟨QA,qc,IA,ic,rfl,hQ,hI⟩:=hks
 have hpm:=List.mem_of_getElem? hp
 obtain⟨hpc,hpn⟩:=hpr p hpm
 have hpq:=hW.pp p hpm
 have x0:(0:Int)≤(k:Int):=by omega
 have x1:(k:Int)<(w.procs.length:Int):=by omega
 have hout:=outA_eq hp
 have hmap:(w.procs.take (k+1)).map (·.name)=(w.procs.take k).map (·.name)++[p.name]:=by rw[take_snoc' hp,List.map_append];rfl
 obtain⟨N,hNe⟩:∃N,N=cntS ((w.procs.take k).map (·.name)) p.name:=⟨_,rfl⟩
 have hNl:N≤100000000000000:=by have:=cntS_le ((w.procs.take k).map (·.name)) p.name;rw[←hNe]at this;simp at this;omega
 have hNv:=hN p.name
 rw[←hNe]at hNv
 have hw:=wrapS N (by omega)
 have hN1:=hN.snoc p.name
 rw[←hNe,←hmap]at hN1
 refine gom ?_
 refine WL.oo (OW.alloc rfl fun b8=>?_)
 refine gom ?_
 refine WL.vv (Gv.lookup (emb:=Value.string) (z:= .int .i64 0) rfl rfl atA hm hNv) ?_
 refine gom ?_
 refine WL.oo (OW.mapSet (emb:=Value.string) rfl rfl rfl atA hm rfl fun es1 ck1 hm1=>?_)
 refine gom ?_
 refine WL.oo (OW.callK rfl (proc_fn G1 (hE.mono hg1) p QA IA qc ic hQ hpn hpq) rfl fun v' G' H' h hg=>?_)
 obtain⟨he,rfl,rfl⟩:=h
 cases he
 cases h1:procR p with
 | false=>
  have hr:allA w=((k:Int),0,185):=by
   have h0:outA w k=(0,185):=by rw[hout,procOut,if_pos (.inl h1)]
   rw[allA_at hlt hok (by rw[h0];decide),h0]
  rw[hr]
  refine gom ?_
  refine WC.rt ?_
  exact QF.p2 (.inl rfl) rfl (.cell rfl inferInstance inferInstance atA rfl rfl) (.tmp rfl) (⟨rfl,hg1,rfl⟩)
 | true=>
 refine gom ?_
 have hnp:¬(procR p=false∨p.name∈([]:List ByteArray)):=fun h=>h.elim (fun h=>by rw[h1]at h;cases h) (fun h=>by cases h)
 refine WC.loop (X:=Nat) (fun j=>[(0, .pointer (some ⟨bw,0,none⟩)),(1, .bool true),(4, .pointer (some ⟨b4,0,none⟩)),(6, .map (some bm)),(7, .int .i64 k),(8, .pointer (some ⟨b8,0,none⟩)),(18, .slice (some ⟨b,ofs,none⟩) w.procs.length pc),(19, .int .i64 w.procs.length),(20, .int .i64 k),(47, .slice IA p.code.length ic),(48, .int .i64 p.code.length),(49, .int .i64 j)]) (fun _=>G1) (fun _=>[prB b8 p QA qc IA ic, .blk bm (.map es1 ck1),spB b4]) (fun j=>p.code.length - j) (fun j=>j≤p.code.length∧∀i,i<j→aloneAt w p i=0) 0 ⟨Nat.zero_le _,(fun j h=>absurd h (Nat.not_lt_zero _))⟩ (by exact⟨rfl,rfl,rfl,rfl,rfl,rfl,rfl,rfl,rfl,rfl,rfl,rfl,trivial⟩) rfl (List.Sublist.refl _) fun j hx=>?_
 obtain⟨hj,hal⟩:=hx
 have z2:=wrapS j (by omega)
 by_cases hjl:j<p.code.length
 ·have e3:decide ((j:Int)<(p.code.length:Int))=true:=decide_eq_true (by omega)
  obtain⟨i,hi⟩:∃i,p.code[j]? =some i:=⟨_,List.getElem?_eq_getElem (by omega)⟩
  obtain⟨ib,io,ics,rfl,hik,hic⟩:=hI j i hi
  obtain rfl:ics=[.int .i64 i.1, .int .i64 i.2]:=hik
  have z0:(0:Int)≤(j:Int):=by omega
  have z1:(j:Int)<(p.code.length:Int):=by omega
  have haa:aloneAt w p j=aloneR w p i:=by unfold aloneAt;rw[hi]
  refine gom ?_
  refine WL.oo (OW.alloc rfl fun b10=>?_)
  refine gom ?_
  refine WL.oo (OW.callK rfl (alone_fn G1 w p bw CA NA (some ⟨b,ofs,none⟩) cc nc pc hW1 QA (some ⟨ib,io,none⟩) qc ic i) rfl fun v' G' H' h hg=>?_)
  obtain⟨he,rfl,rfl⟩:=h
  cases he
  by_cases ha:aloneR w p i=0
  ·have e4:(aloneR w p i != 0)=false:=by simpa using ha
   refine gom ?_
   exact WK.again (j+1) (by omega) ⟨by omega,fun i' hi'=>by
    rcases Nat.lt_or_ge i' j with h | h
    ·exact hal i' h
    ·obtain rfl:i'=j:=by omega
     rw[haa];exact ha⟩ (by exact⟨rfl,rfl,rfl,rfl,rfl,rfl,rfl,rfl,rfl,rfl,rfl,rfl,trivial⟩) rfl (List.sublist_cons_self _ _)
  ·have e4:(aloneR w p i != 0)=true:=by simpa using ha
   have hr:allA w=((k:Int),(j:Int),aloneR w p i):=by
    have hf:firstR p.code.length (aloneAt w p)=((j:Int),aloneR w p i):=by rw[firstR_at hjl hal (by rw[haa];exact ha),haa]
    have h0:outA w k=((j:Int),aloneR w p i):=by rw[hout,procOut,if_neg hnp,hf,if_pos ha]
    rw[allA_at hlt hok (by rw[h0];exact ha),h0]
   rw[hr]
   refine gom ?_
   refine WC.rt ?_
   exact QF.p2 (.inl rfl) rfl (.cell rfl inferInstance inferInstance atA rfl rfl) (.tmp rfl) (⟨rfl,hg1,rfl⟩)
 have e3:decide ((j:Int)<(p.code.length:Int))=false:=decide_eq_false (by omega)
 have hpk:POk w p:=pok_of h1 fun i v hv=>by
  have:=hal i (by have:=(List.getElem?_eq_some_iff.1 hv).1;omega)
  unfold aloneAt at this;rw[hv]at this;exact this
 have hf0:firstR p.code.length (aloneAt w p)=(0,0):=firstR_none fun i hi=>hal i (by omega)
 refine gom ?_
 refine WL.oo (OW.callK rfl (flow_fn G1 w p bw CA NA (some ⟨b,ofs,none⟩) cc nc pc QA IA qc ic hW1 hQ hI hpk) rfl fun v' G' H' h hg=>?_)
 obtain⟨bf,TA,tc,l,he,hg2,hF,hT,htc,hL,rfl⟩:=h
 cases he
 have hg3:=Gh.le_trans hg1 hg2
 refine gom ?_
 refine WL.oo (OW.callK rfl (wrong_fn _ w p bf bw CA NA (some ⟨b,ofs,none⟩) cc nc pc QA IA qc ic TA tc l (hW.mono hg3) hF hT hpk hL.closed) rfl fun v' G' H' h hg=>?_)
 obtain⟨he,hg4,rfl⟩:=h
 cases he
 have hg5:=Gh.le_trans hg3 hg4
 have h0:outA w k=wrongR w p l:=by rw[hout,procOut,if_neg hnp,hf0,if_neg (by simp),hL.flow]
 obtain⟨at',wy,hw⟩:∃a y,wrongR w p l=(a,y):=⟨_,_,rfl⟩
 rw[hw]
 by_cases ha:wy=0
 ·have e5:(wy != 0)=false:=by simpa using ha
  refine gom ?_
  exact WK.again ⟨k+1,_,es1,ck1,_⟩ (by dsimp only;omega) ⟨by dsimp only;omega,hg5,fun i' hi'=>by
   rcases Nat.lt_or_ge i' k with h | h
   ·exact hok i' h
   ·obtain rfl:i'=k:=by dsimp only at hi';omega
    rw[h0,hw];exact ha,hm1,hN1⟩ (by exact⟨rfl,rfl,rfl,rfl,rfl,rfl,rfl,trivial⟩) rfl (List.sublist_cons_self _ _)
 ·have e5:(wy != 0)=true:=by simpa using ha
  have hr:allA w=((k:Int),at',wy):=by
   rw[allA_at hlt hok (by rw[h0,hw];exact ha),h0,hw]
  rw[hr]
  refine gom ?_
  refine WC.rt ?_
  exact QF.p2 (.inl rfl) rfl (.cell rfl inferInstance inferInstance atA rfl rfl) (.tmp rfl) (⟨rfl,hg5,rfl⟩)
end
section
def keyT (x:Pt):Ky:=(x.path,x.name)
def ptOk (prs:List Pr) (seen:List Ky) (x:Pt):Bool:=
 decide (0≤x.proc)&&(decide (x.proc<(prs.length:Int))&&(fileR x.path&&(!decide (keyT x∈seen)&&(match prs[x.proc.toNat]? with | some q=>q.exp&&(q.name==x.name) | none=>false))))
def ptsOkR (prs:List Pr) (pts:List Pt):Bool:=(List.range pts.length).all fun i=>match pts[i]? with
 | some x=>ptOk prs ((pts.take i).map keyT) x
 | none=>true
theorem ptsOk_false {prs:List Pr} {pts:List Pt} {i:Nat} {x:Pt} (h:pts[i]? =some x) (h0:ptOk prs ((pts.take i).map keyT) x=false):ptsOkR prs pts=false:=by
 cases hr:ptsOkR prs pts with
 | false=>rfl
 | true=>
  have:=List.all_eq_true.1 hr i (by simpa using(List.getElem?_eq_some_iff.1 h).1)
  rw[h]at this
  dsimp only at this
  rw[h0]at this
  cases this
theorem ptsOk_true {prs:List Pr} {pts:List Pt} (h:∀i x,pts[i]? =some x→ptOk prs ((pts.take i).map keyT) x=true):ptsOkR prs pts=true:=by
 refine List.all_eq_true.2 fun i _=>?_
 cases hx:pts[i]? with
 | none=>rfl
 | some x=>exact h i x hx
def progR (cs:List V) (prs:List Pr) (pts:List Pt):Bool:=cs.all valueR&&(decide ((cs.length:Int)≤65536)&&(decide ((prs.length:Int)≤4096)&&ptsOkR prs pts))
theorem ptsO_in:∀(ps:List Pr) (n:Nat) {path:ByteArray} {x:Pt},x∈ptsO path ps n→∃j p,ps[j]? =some p∧p.exp=true∧x=⟨path,p.name,((n+j:Nat):Int)⟩
 | [],n,path,x,h=>by simp[ptsO]at h
 | a::r,n,path,x,h=>by
  unfold ptsO at h
  have ih:x∈ptsO path r (n+1)→∃j p,(a::r)[j]? =some p∧p.exp=true∧x=⟨path,p.name,((n+j:Nat):Int)⟩:=fun h=>by
   obtain⟨j,p,h1,h2,h3⟩:=ptsO_in r (n+1) h
   exact⟨j+1,p,by simpa using h1,h2,by rw[h3,show n+1+j=n+(j+1) by omega]⟩
  split at h
  ·rename_i he
   rcases List.mem_cons.1 h with rfl | h
   ·exact⟨0,a,rfl,he,rfl⟩
   ·exact ih h
  ·exact ih h
theorem ptsO_keys (path:ByteArray):∀(ps:List Pr) (n:Nat),((ptsO path ps n).map keyT).Sublist (ps.map fun p=>(path,p.name))
 | [],n=>by simp[ptsO]
 | a::r,n=>by
  unfold ptsO
  split
  ·exact(ptsO_keys path r (n+1)).cons_cons _
  ·exact(ptsO_keys path r (n+1)).cons _
theorem joinT_in:∀(l:List Ob) (n:Nat) {x:Pt},x∈joinT' l n→∃k j o p,l[k]? =some o∧o.procs[j]? =some p∧p.exp=true∧x=⟨o.path,p.name,((n+(sumP (l.take k)+j):Nat):Int)⟩
 | [],n,x,h=>by simp[joinT']at h
 | a::r,n,x,h=>by
  unfold joinT' at h
  rcases List.mem_append.1 h with h | h
  ·obtain⟨j,p,h1,h2,h3⟩:=ptsO_in _ _ h
   exact⟨0,j,a,p,rfl,h1,h2,by rw[h3,List.take_zero,show sumP []=0 from rfl,Nat.zero_add]⟩
  ·obtain⟨k,j,o,p,h1,h2,h3,h4⟩:=joinT_in r _ h
   exact⟨k+1,j,o,p,by simpa using h1,h2,h3,by rw[h4,List.take_succ_cons,sumP_cons];congr 2;omega⟩
theorem joinT_keys:∀(l:List Ob) (n:Nat),((joinT' l n).map keyT).Sublist ((allPr l).map keyP)
 | [],n=>by simp[joinT',allPr]
 | a::r,n=>by
  unfold joinT' allPr
  rw[List.map_append,List.flatMap_cons,List.map_append,List.map_map]
  exact(ptsO_keys a.path a.procs n).append (joinT_keys r _)
section
variable {l:List Ob} (hv:∀o∈l,(objAns o).2.2=0) (hp:(l.map (·.path)).Nodup)
include hv hp
theorem keys_nodup:((allPr l).map keyP).Nodup:=all_nodup hp fun o ho=>names_nodup (hv o ho)
theorem link_points (hP:sumP l≤4096):ptsOkR (linkW l).procs (joinT' l 0)=true:=by
 refine ptsOk_true fun i x hx=>?_
 obtain⟨k,j,o,p,hk,hj,he,rfl⟩:=joinT_in l 0 (List.mem_of_getElem? hx)
 have hlt:=sumP_at hk (List.getElem?_eq_some_iff.1 hj).1
 have hq:=join_at (allPr l) l 0 0 hk hj
 have hfile:=(objAns_zero (hv o (List.mem_of_getElem? hk))).1
 unfold objR at hfile
 rw[Bool.and_eq_true]at hfile
 unfold ptOk
 dsimp only
 rw[Nat.zero_add]
 have h3:(linkW l).procs.length=sumP l:=join_len _ _ _ _
 have h4:¬keyT ⟨o.path,p.name,((sumP (l.take k)+j:Nat):Int)⟩∈((joinT' l 0).take i).map keyT:=fun hm=>by
  have hn:=(joinT_keys l 0).nodup (keys_nodup hv hp)
  obtain⟨i',hi'⟩:=List.mem_iff_getElem?.1 hm
  have c1:i'<i:=by have:=(List.getElem?_eq_some_iff.1 hi').1;simp at this;omega
  have c2:((joinT' l 0).map keyT)[i']? =some (o.path,p.name):=by
   rw[List.getElem?_map,List.getElem?_take,if_pos c1,←List.getElem?_map]at hi'
   exact hi'
  have c3:((joinT' l 0).map keyT)[i]? =some (o.path,p.name):=by rw[List.getElem?_map,hx];rfl
  have:=(List.getElem?_inj (List.getElem?_eq_some_iff.1 c2).1 hn).1 (c2.trans c3.symm)
  omega
 rw[decide_eq_true (by omega),decide_eq_true (by rw[h3];omega),hfile.1,decide_eq_false h4,Int.toNat_natCast,show(linkW l).procs[sumP (l.take k)+j]? =_ from hq]
 show(true&&(true&&(true&&(true&&(p.exp&&(p.name==p.name))))))=true
 rw[he,bb_refl]
 rfl
theorem link_prog (hm:missL l=[]) (hP:sumP l≤4096) (hC:sumC l≤65536):progR (linkW l).consts (linkW l).procs (joinT' l 0)=true:=by
 have h1:(linkW l).consts.all valueR=true:=by
  refine List.all_eq_true.2 fun v hvv=>?_
  obtain⟨o,ho,hvo⟩:=List.mem_flatMap.1 hvv
  have hob:=(objAns_zero (hv o ho)).1
  unfold objR at hob
  rw[Bool.and_eq_true,Bool.and_eq_true]at hob
  exact List.all_eq_true.1 hob.2.1 v hvo
 have h2:(linkW l).consts.length=sumC l:=consts_len l
 have h3:(linkW l).procs.length=sumP l:=join_len _ _ _ _
 unfold progR
 rw[h1,decide_eq_true (by omega),decide_eq_true (by omega),link_points hv hp hP]
 rfl
end
end
def turned (l:List Ob) (k:Nat):List Ob:=l.drop k++l.take k
section
section
variable {L:List (Nat×Value)} {d:Option Tmp} {ty:TypeId} {pos:String} {af:Array Edge} {gu:Option (Nat×Bool)}
end
attribute [local irreducible] Tryz.prog
def sameO (o p:Oc):Bool:=decide (o.en=p.en∧o.val=p.val∧o.steps=p.steps∧o.out=p.out)
end
section
open Go.MapKept
attribute [local irreducible] Tryz.prog runR ptR
abbrev ocC (o:Oc) (A:Option Addr) (cap:Nat):Array Value:= #[.int .i64 o.en, .int .i64 o.val.t, .int .i64 o.val.i, .bool o.val.b, .string o.val.s, .slice A o.out.length cap, .int .i64 o.steps]
end
section
open Go.MapKept
def kpV (k:Ky):Value:= .agg #[.string k.1, .string k.2, .int .i64 0]
theorem pnt_eq (a b:Ky) (w:World):(Op.equal 54 (kpV a) (kpV b)).run Tryz.prog w= .ok (decide (a=b)) w:=by
 obtain⟨a1,a2⟩:=a
 obtain⟨b1,b2⟩:=b
 have h2:Tryz.prog.underlying 54=some (.struct (Tryz.prog.fieldsOf 54)):=by kernel_rfl
 have h3:Tryz.prog.stoodInHeld 54=false:=by kernel_rfl
 have key:(Op.eqFields 9999 #[.string a1, .string a2, .int .i64 0] #[.string b1, .string b2, .int .i64 0] (Tryz.prog.fieldsOf 54).toList).run Tryz.prog w= .ok (decide ((a1,a2)=(b1,b2))) w:=by
  have a0:=fun w=>(inferInstance:Agg Tryz.prog 9 false).h w
  have a9:=fun w=>(inferInstance:Agg Tryz.prog 3 false).h w
  have u0:Tryz.prog.underlying 9=some .string:=Und.h
  have u9:Tryz.prog.underlying 3=some (.int .i64):=Und.h
  simp only[Program.fieldsOf,Tryz.underlying54]
  simp only[Op.eqFields,part,Sem.run_bind,a0,a9,Result.andThen_ok,Sem.run_ite]
  have r:=fun(x y:ByteArray) (w:World)=>run_equalIn_string (P:=Tryz.prog) w 9998 9 x y u0
  have r9:=fun(x y:Int) (w:World)=>run_equalIn_int (P:=Tryz.prog) w 9998 3 .i64 .i64 x y u9
  by_cases q1:a1=b1<;>by_cases q2:a2=b2
  ·subst q1 q2;simp[r,r9]
  ·subst q1
   have:(a2.toList==b2.toList)=false:=lists_ne q2
   simp[r,r9,this,q2]
  ·subst q2
   have:(a1.toList==b1.toList)=false:=lists_ne q1
   simp[r,r9,this,q1]
  ·have:(a1.toList==b1.toList)=false:=lists_ne q1
   simp[r,r9,this,q1]
 unfold Op.equal
 show(Op.equalIn (9999+1) _ (.agg _) (.agg _)).run _ w=_
 rw[run_equalIn_agg w 9999 _ _ _ h2 h3,key]
theorem int_check (n:Nat) (e:Bool) (x:Int) (w:World):(Instr.checkKey e (n+1) 3 (.int .i64 x)).run Tryz.prog w= .ok () w:=by
 have u0:Tryz.prog.underlying 3=some (.int .i64):=Und.h
 exact run_checkKey u0 (by exact rfl) e n
theorem pnt_check_n (n:Nat) (a:Ky) (e:Bool) (w:World):(Instr.checkKey e (n+1+1) 54 (kpV a)).run Tryz.prog w= .ok () w:=by
 have a0:=fun w=>(inferInstance:Agg Tryz.prog 9 false).h w
 have a9:=fun w=>(inferInstance:Agg Tryz.prog 3 false).h w
 rw[Instr.checkKey.eq_def]
 simp[kpV,run_underlying Tryz.underlying54,part,a0,a9,str_check,int_check,Result.andThen]
theorem pnt_check (a:Ky) (e:Bool) (w:World):(Instr.checkKey e 10000 54 (kpV a)).run Tryz.prog w= .ok () w:=pnt_check_n 9998 a e w
theorem pnt_inj {a b:Ky} (h:kpV a=kpV b):a=b:=by
 obtain⟨a1,a2⟩:=a
 obtain⟨b1,b2⟩:=b
 simp[kpV]at h
 rw[h.1,h.2]
theorem pnt_stay_n (n:Nat) (a:Ky):Instr.sameBits (n+1+1) (kpV a) (kpV a)=true:=by simp[kpV,Instr.sameBits,bb_refl]
theorem pnt_stay (a:Ky):Instr.sameBits 10000 (kpV a) (kpV a)=true:=pnt_stay_n 9998 a
instance:KeyK Tryz.prog 54 kpV:=KeyK.ofEqual (ds:= .struct (Tryz.prog.fieldsOf 54)) kr (fun a b=>rfl) pnt_inj pnt_check pnt_stay pnt_eq
def OneM (m:List (Ky×Value)) (seen:List Ky):Prop:=∀k,(getA m k).getD (.int .i64 0)= .int .i64 (if k∈seen then 1 else 0)
theorem OneM.nil:OneM [] []:=fun k=>by simp[getA]
end
section
open Go.MapKept
attribute [local irreducible] Tryz.prog ptsOkR fileR valueR
theorem OneM.twice {m:List (Ky×Value)} {seen:List Ky} (h:OneM m seen) (a:Ky) (v:Value):OneM (setA (setA m a v) a (.int .i64 1)) (seen++[a]):=fun k=>by
 by_cases e:k=a
 ·subst e;rw[getA_setA,if_pos (by simp)];rfl
 ·have:(k∈seen++[a])=(k∈seen):=by simp[e]
  rw[getA_setA_ne _ _ e,getA_setA_ne _ _ e,h k]
  simp only[this]
structure PK where
 i:Nat
 G:Gh
 es:Array MapEntry
 ck:Nat
 m:List (Ky×Value)
abbrev pgB (b:Nat) (CA PA QA:Option Addr) (c cc p pc q qc:Nat):Own:= .blk b (.cells #[.slice CA c cc, .slice PA p pc, .slice QA q qc] 27 (0,0))
set_option maxRecDepth 20000 in
set_option maxHeartbeats 4000000 in
theorem program_fn (G:Gh) (hE:Env G) (cs:List V) (prs:List Pr) (pts:List Pt) (CA PA QA:Option Addr) (cc pc qc:Nat) (hC:Sl Kd.val G CA cs) (hP:Sl Kd.prc G PA prs) (hQ:Sl Kd.pnt G QA pts)
  (hcl:cs.length≤100000000000000) (hpl:prs.length≤100000000000000) (hql:pts.length≤100000000000000) (hqs:∀x∈pts,x.path.size≤4000000000):
  Fn Tryz.prog 58 #[.agg #[.slice CA cs.length cc, .slice PA prs.length pc, .slice QA pts.length qc]] G [] fun e G' H'=>e= .returned (.bool (progR cs prs pts))∧G.le G'∧H'=[]:=by
 refine Fn.enter Tryz.func58 rfl rfl fun w0=>?_
 refine WC.seq ?_
 refine WC.region ?_
 refine WL.oo (OW.box rfl rfl fun b1=>?_)
 refine gom ?_
 refine WL.oo (OW.callK rfl (values_fn G CA cs cc hC hcl) rfl fun v' G' H' h hg=>?_)
 obtain⟨he,rfl,rfl⟩:=h
 cases he
 cases h1:cs.all valueR with
 | false=>
  rw[show progR cs prs pts=false by unfold progR;rw[h1];rfl]
  refine gom ?_
  refine WC.rt ?_
  exact QF.p1 (.inl rfl) rfl (.tmp rfl) (⟨rfl,Gh.le_refl _,rfl⟩)
 | true=>
 cases h2:decide ((cs.length:Int)≤65536)with
 | false=>
  have y2:=dgt h2
  rw[show progR cs prs pts=false by unfold progR;rw[h1,h2];rfl]
  refine gom ?_
  refine WC.rt ?_
  exact QF.p1 (.inl rfl) rfl (.tmp rfl) (⟨rfl,Gh.le_refl _,rfl⟩)
 | true=>
 have y2:=dgt h2
 cases h3:decide ((prs.length:Int)≤4096)with
 | false=>
  have y3:=dgt h3
  rw[show progR cs prs pts=false by unfold progR;rw[h1,h2,h3];rfl]
  refine gom ?_
  refine WC.rt ?_
  exact QF.p1 (.inl rfl) rfl (.tmp rfl) (⟨rfl,Gh.le_refl _,rfl⟩)
 | true=>
 have y3:=dgt h3
 refine gom ?_
 refine WL.oo (OW.makeMap rfl fun bm=>?_)
 refine gom ?_
 refine WC.loop (X:=PK) (fun x=>[(1, .pointer (some ⟨b1,0,none⟩)),(3, .map (some bm)),(26, .slice QA pts.length qc),(27, .int .i64 pts.length),(28, .int .i64 x.i)]) (fun x=>x.G) (fun x=>[.blk bm (.map x.es x.ck),pgB b1 CA PA QA cs.length cc prs.length pc pts.length qc]) (fun x=>pts.length - x.i)
  (fun x=>x.i≤pts.length∧G.le x.G∧MK kpV x.es x.ck x.m∧OneM x.m ((pts.take x.i).map keyT)∧∀(j:Nat) y,j<x.i→pts[j]? =some y→ptOk prs ((pts.take j).map keyT) y=true) ⟨0,G, #[],0,[]⟩ ⟨Nat.zero_le _,Gh.le_refl _,MK.empty,by dsimp only;rw[List.take_zero];exact OneM.nil,fun j y h=>absurd h (Nat.not_lt_zero _)⟩ (by exact⟨rfl,rfl,rfl,rfl,rfl,trivial⟩) rfl (List.Sublist.refl _) fun x hx=>?_
 obtain⟨i,G1,es,ck,m⟩:=x
 obtain⟨hi,hg1,hM,hN,hall⟩:=hx
 dsimp only at hi hg1 hM hN hall
 have x2:=wrapS i (by omega)
 by_cases hlt:i<pts.length
 rotate_left
 ·have e2:decide ((i:Int)<(pts.length:Int))=false:=decide_eq_false (by omega)
  rw[show progR cs prs pts=true by unfold progR;rw[h1,h2,h3,ptsOk_true fun j y hy=>hall j y (by have:=(List.getElem?_eq_some_iff.1 hy).1;omega) hy];rfl]
  refine gom ?_
  refine WC.rt ?_
  exact QF.p1 (.inl rfl) rfl (.tmp rfl) (⟨rfl,hg1,rfl⟩)
 have e2:decide ((i:Int)<(pts.length:Int))=true:=decide_eq_true (by omega)
 obtain⟨x,hx⟩:∃x,pts[i]? =some x:=⟨_,List.getElem?_eq_getElem hlt⟩
 have x0:(0:Int)≤(i:Int):=by omega
 have x1:(i:Int)<(pts.length:Int):=by omega
 have hxs:=hqs x (List.mem_of_getElem? hx)
 obtain⟨qb,qo,qcs,rfl,hqk,hqc⟩:=(hQ.mono hg1) i x hx
 obtain rfl:qcs=[.string x.path, .string x.name, .int .i64 x.proc]:=hqk
 obtain⟨xp,xn,xk⟩:=x
 dsimp only at hxs hqc
 refine gom ?_
 refine WL.oo (OW.alloc rfl fun b5=>?_)
 refine gom ?_
 refine WL.oo (OW.alloc rfl fun b6=>?_)
 by_cases a1:0≤xk
 rotate_left
 ·have b1:decide (xk<(0:Int))=true:=decide_eq_true (by omega)
  have hf:ptOk prs ((pts.take i).map keyT) ⟨xp,xn,xk⟩=false:=by unfold ptOk;dsimp only;rw[decide_eq_false a1];rfl
  rw[show progR cs prs pts=false by unfold progR;rw[ptsOk_false hx hf];simp]
  refine gom ?_
  refine WC.rt ?_
  exact QF.p1 (.inl rfl) rfl (.tmp rfl) (⟨rfl,hg1,rfl⟩)
 have b1':decide (xk<(0:Int))=false:=decide_eq_false (by omega)
 obtain⟨n,rfl⟩:∃n:Nat,xk=(n:Int):=⟨xk.toNat,by omega⟩
 by_cases a2:n<prs.length
 rotate_left
 ·have b2:decide ((prs.length:Int)≤(n:Int))=true:=decide_eq_true (by omega)
  have hf:ptOk prs ((pts.take i).map keyT) ⟨xp,xn,(n:Int)⟩=false:=by unfold ptOk;dsimp only;rw[decide_eq_true a1,decide_eq_false (by omega)];rfl
  rw[show progR cs prs pts=false by unfold progR;rw[ptsOk_false hx hf];simp]
  refine gom ?_
  refine WC.rt ?_
  exact QF.p1 (.inl rfl) rfl (.tmp rfl) (⟨rfl,hg1,rfl⟩)
 have b2:decide ((prs.length:Int)≤(n:Int))=false:=decide_eq_false (by omega)
 have b2':(n:Int)<(prs.length:Int):=by omega
 have b3':decide ((n:Int)<(prs.length:Int))=true:=decide_eq_true b2'
 refine gom ?_
 refine WL.oo (OW.callK rfl (file_fn G1 (hE.mono hg1) xp hxs) rfl fun v' G' H' h hg=>?_)
 obtain⟨he,hg2,rfl⟩:=h
 cases he
 have hg3:=Gh.le_trans hg1 hg2
 cases h4:fileR xp with
 | false=>
  have hf:ptOk prs ((pts.take i).map keyT) ⟨xp,xn,(n:Int)⟩=false:=by unfold ptOk;dsimp only;rw[h4];simp
  rw[show progR cs prs pts=false by unfold progR;rw[ptsOk_false hx hf];simp]
  refine gom ?_
  refine WC.rt ?_
  exact QF.p1 (.inl rfl) rfl (.tmp rfl) (⟨rfl,hg3,rfl⟩)
 | true=>
 refine gom ?_
 by_cases h5:(xp,xn)∈(pts.take i).map keyT
 ·have hv:=hN (xp,xn)
  rw[if_pos h5]at hv
  have hf:ptOk prs ((pts.take i).map keyT) ⟨xp,xn,(n:Int)⟩=false:=by unfold ptOk;dsimp only;rw[decide_eq_true (show keyT ⟨xp,xn,(n:Int)⟩∈_ from h5)];simp
  refine WL.vv (Gv.lookupK (emb:=kpV) (key:=(xp,xn)) (kt:=54) (z:= .int .i64 0) rfl rfl atA hM hv) ?_
  rw[show progR cs prs pts=false by unfold progR;rw[ptsOk_false hx hf];simp]
  refine gom ?_
  refine WC.rt ?_
  exact QF.p1 (.inl rfl) rfl (.tmp rfl) (⟨rfl,hg3,rfl⟩)
 have hv:=hN (xp,xn)
 rw[if_neg h5]at hv
 refine WL.vv (Gv.lookupK (emb:=kpV) (key:=(xp,xn)) (kt:=54) (z:= .int .i64 0) rfl rfl atA hM hv) ?_
 obtain⟨q,hq⟩:∃q,prs[n]? =some q:=⟨_,List.getElem?_eq_getElem a2⟩
 obtain⟨pb,po,pcs,rfl,hpk,hpc⟩:=(hP.mono hg3) n q hq
 obtain⟨QP,qpc,QI,qic,rfl,_,_⟩:=hpk
 have hok:ptOk prs ((pts.take i).map keyT) ⟨xp,xn,(n:Int)⟩=(q.exp&&(q.name==xn)):=by
  unfold ptOk
  dsimp only
  rw[decide_eq_true a1,b3',h4,decide_eq_false (show¬keyT ⟨xp,xn,(n:Int)⟩∈_ from h5),Int.toNat_natCast,hq]
  simp
 refine gom ?_
 refine WL.oo (OW.alloc rfl fun b7=>?_)
 cases h6:q.exp with
 | false=>
  have hf:ptOk prs ((pts.take i).map keyT) ⟨xp,xn,(n:Int)⟩=false:=by rw[hok,h6];rfl
  rw[show progR cs prs pts=false by unfold progR;rw[ptsOk_false hx hf];simp]
  refine gom ?_
  refine WC.rt ?_
  exact QF.p1 (.inl rfl) rfl (.tmp rfl) (⟨rfl,hg3,rfl⟩)
 | true=>
 refine gom ?_
 cases h7:(q.name==xn)with
 | false=>
  have hf:ptOk prs ((pts.take i).map keyT) ⟨xp,xn,(n:Int)⟩=false:=by rw[hok,h6,h7];rfl
  rw[show progR cs prs pts=false by unfold progR;rw[ptsOk_false hx hf];simp]
  refine gom ?_
  refine WC.rt ?_
  exact QF.p1 (.inl rfl) rfl (.tmp rfl) (⟨rfl,hg3,rfl⟩)
 | true=>
 refine go ?_
 have hseen:(pts.take (i+1)).map keyT=(pts.take i).map keyT++[(xp,xn)]:=by rw[take_snoc' hx,List.map_append];rfl
 have hone:=hN.twice (xp,xn) (.int .i64 0)
 rw[←hseen]at hone
 have w1:IntKind.i64.wrap (0+1)=1:=rfl
 have hstep:∀(j:Nat) y,j<i+1→pts[j]? =some y→ptOk prs ((pts.take j).map keyT) y=true:=fun j y hj hy=>by
  rcases Nat.lt_or_ge j i with h | h
  ·exact hall j y h hy
  ·obtain rfl:j=i:=by omega
   rw[hx]at hy;cases hy
   rw[hok,h6,h7];rfl
 refine WC.draw mixed ?_
 refine za.move 0 ?_
 refine za.ld 1 ?_
 refine WA.two (i:=2) (j:=4) kr rfl rfl kr kr (OW.gv (Gv.lookupK (emb:=kpV) (key:=(xp,xn)) (kt:=54) (z:= .int .i64 0) rfl rfl atA hM hv) rfl ?_) (OW.mapEntryK (emb:=kpV) (key:=(xp,xn)) (kt:=54) (z:= .int .i64 0) (v:= .int .i64 0) rfl rfl atA hM hv rfl fun es2 ck2 n2 hM2 hS2=>?_)
 ·
  refine za.add 3 ?_
  refine WA.oo 4 rfl (OW.mapEntryK (emb:=kpV) (key:=(xp,xn)) (kt:=54) (z:= .int .i64 0) (v:= .int .i64 0) rfl rfl atA hM hv rfl fun es2 ck2 n2 hM2 hS2=>?_)
  refine za.ext 5 ?_
  refine WA.oo 6 rfl (OW.entryStoreK (emb:=kpV) (kt:=54) (key:=(xp,xn)) rfl rfl rfl atA hM2 hS2 inferInstance rfl fun es3 hM3=>?_)
  refine WA.done kr ?_
  refine WK.un ?_
  refine gom ?_
  refine WK.pick [.blk bm (.map es3 ck2),pgB b1 CA (some ⟨pb,po,none⟩) (some ⟨qb,qo,none⟩) cs.length cc prs.length pc pts.length qc] ?_
  exact WK.again ⟨i+1,G',es3,ck2,_⟩ (by dsimp only;omega) ⟨by show i+1≤_;omega,hg3,hM3,hone,hstep⟩ (by exact⟨rfl,rfl,rfl,rfl,rfl,trivial⟩) rfl (List.Sublist.refl _)
 ·
  refine za.ext 5 ?_
  refine WA.vv 2 rfl (Gv.lookupK (emb:=kpV) (key:=(xp,xn)) (kt:=54) (z:= .int .i64 0) (v:= .int .i64 0) rfl rfl atA hM2 (by rw[getA_setA];rfl)) ?_
  refine za.add 3 ?_
  refine WA.oo 6 rfl (OW.entryStoreK (emb:=kpV) (kt:=54) (key:=(xp,xn)) rfl rfl rfl atA hM2 hS2 inferInstance rfl fun es3 hM3=>?_)
  refine WA.done kr ?_
  refine WK.un ?_
  refine gom ?_
  refine WK.pick [.blk bm (.map es3 ck2),pgB b1 CA (some ⟨pb,po,none⟩) (some ⟨qb,qo,none⟩) cs.length cc prs.length pc pts.length qc] ?_
  exact WK.again ⟨i+1,G',es3,ck2,_⟩ (by dsimp only;omega) ⟨by show i+1≤_;omega,hg3,hM3,hone,hstep⟩ (by exact⟨rfl,rfl,rfl,rfl,rfl,trivial⟩) rfl (List.Sublist.refl _)
end
section
open Go.MapKept
attribute [local irreducible] Tryz.prog progR allA linkE allPr joinP joinT' sumP sumC objAns ptR
noncomputable def progAns (cs:List V) (prs:List Pr) (pts:List Pt):Int×Int×Int:=if progR cs prs pts then allA ⟨cs,[],prs⟩else(0,0,185)
structure GLim (cs:List V) (prs:List Pr) (pts:List Pt):Prop where
 cl:cs.length≤100000000000000
 pl:prs.length≤100000000000000
 tl:pts.length≤100000000000000
 ts:∀x∈pts,x.path.size≤4000000000
 pr:∀q∈prs,q.params.length≤100000000000000∧q.code.length≤100000000000000∧q.name.size≤100000000000000
theorem Program_fn (G:Gh) (hE:Env G) (cs:List V) (prs:List Pr) (pts:List Pt) (CA PA QA:Option Addr) (cc pc qc:Nat) (hC:Sl Kd.val G CA cs) (hP:Sl Kd.prc G PA prs) (hQ:Sl Kd.pnt G QA pts) (hL:GLim cs prs pts):
  Fn Tryz.prog 26 #[.agg #[.slice CA cs.length cc, .slice PA prs.length pc, .slice QA pts.length qc]] G [] fun e G' H'=>e= .returned (.tuple #[.agg #[.int .i64 (progAns cs prs pts).1, .int .i64 (progAns cs prs pts).2.1], .int .i64 (progAns cs prs pts).2.2])∧G.le G'∧H'=[]:=by
 refine Fn.enter Tryz.func26 rfl rfl fun w0=>?_
 refine WC.seq ?_
 refine WC.region ?_
 refine WL.oo (OW.box rfl rfl fun b1=>?_)
 refine WL.oo (OW.alloc rfl fun b2=>?_)
 refine gom ?_
 refine WL.oo (OW.callK rfl (program_fn G hE cs prs pts CA PA QA cc pc qc hC hP hQ hL.cl hL.pl hL.tl hL.ts) rfl fun v' G' H' h hg=>?_)
 obtain⟨he,hg1,rfl⟩:=h
 cases he
 cases h1:progR cs prs pts with
 | false=>
  have hr:progAns cs prs pts=(0,0,185):=by rw[progAns,h1];rfl
  rw[hr]
  refine gom ?_
  refine WC.rt ?_
  exact QF.p2 (.inl rfl) rfl (.cell rfl inferInstance inferInstance atA rfl rfl) (.tmp rfl) (⟨rfl,hg1,rfl⟩)
 | true=>
 have hr:progAns cs prs pts=allA ⟨cs,[],prs⟩:=by rw[progAns,h1];rfl
 rw[hr]
 refine gom ?_
 refine WL.oo (OW.box rfl rfl fun b14=>?_)
 refine zw.assign ?_
 refine WL.nil ?_
 refine WK.un ?_
 refine WC.pick [.blk b14 (.cells #[.slice CA cs.length cc, .slice none 0 0, .slice PA prs.length pc] 97 (0,0)),spB b2] ?_
 refine WC.freezeC .here rfl fun G1 hg2 hf1=>?_
 have hg3:=Gh.le_trans hg1 hg2
 have hW:WRep G1 ⟨cs,[],prs⟩ b14 CA none PA cc 0 pc:=⟨hf1,hC.mono hg3,Sl.nil _ _ _,hP.mono hg3,hL.cl,by simp,hL.pl,by simp,fun q hq=>(hL.pr q hq).1⟩
 refine gom ?_
 refine WL.oo (OW.callK rfl (wallA_fn G1 (hE.mono hg3) ⟨cs,[],prs⟩ b14 CA none PA cc 0 pc hW (fun q hq=>(hL.pr q hq).2)) rfl fun v' G' H' h hg=>?_)
 obtain⟨he,hg4,rfl⟩:=h
 cases he
 refine gom ?_
 refine WC.rt ?_
 exact QF.p2 (.inl rfl) rfl (.cell rfl inferInstance inferInstance atA rfl rfl) (.tmp rfl) (⟨rfl,Gh.le_trans hg3 hg4,rfl⟩)
theorem linkBad_fn (G:Gh) (hE:Env G) (A:Option Addr) (cap:Nat) (l:List Ob) (hl:Sl Kd.ob G A l) (hL:LLim l) (hz:linkE l≠0):
  Fn Tryz.prog 12 #[.slice A l.length cap] G [] fun e G' H'=>e= .returned (.tuple #[.agg #[.slice none 0 0, .slice none 0 0, .slice none 0 0], .int .i64 (linkE l)])∧G.le G'∧H'=[]:=by
 refine Fn.mono (Link_fn G hE A cap l hl hL) fun e G' H' h=>?_
 obtain⟨hg,⟨_,he,rfl⟩ | ⟨hz',_⟩⟩:=h
 ·exact⟨he,hg,rfl⟩
 ·exact absurd hz' hz
theorem linkGood_fn (G:Gh) (hE:Env G) (A:Option Addr) (cap:Nat) (l:List Ob) (hl:Sl Kd.ob G A l) (hL:LLim l) (hz:linkE l=0):
  Fn Tryz.prog 12 #[.slice A l.length cap] G [] fun e G' H'=>∃CA cc PA pc QA qc x1 x2 x3,e= .returned (.tuple #[.agg #[.slice CA (l.flatMap (·.consts)).length cc, .slice PA (joinP (allPr l) l 0 0).length pc, .slice QA (joinT' l 0).length qc], .int .i64 0])∧G.le G'∧
   KVec Kd.val 52 G' CA cc (l.flatMap (·.consts)) x1∧KVec Kd.prc 47 G' PA pc (joinP (allPr l) l 0 0) x2∧KVec Kd.pnt 54 G' QA qc (joinT' l 0) x3∧H'=[x1,x2,x3]:=by
 refine Fn.mono (Link_fn G hE A cap l hl hL) fun e G' H' h=>?_
 obtain⟨hg,⟨hz',_⟩ | ⟨_,LA,lc,MA,mc,QA,qc,y1,y2,y3,he,hk1,hk2,hk3,rfl⟩⟩:=h
 ·exact absurd hz hz'
 ·exact⟨LA,lc,MA,mc,QA,qc,y1,y2,y3,he,hg,hk1,hk2,hk3,rfl⟩
section
attribute [local semireducible] joinP joinT' sumP allPr
theorem link_verified {l:List Ob} (hz:linkE l=0):progAns (l.flatMap (·.consts)) (joinP (allPr l) l 0 0) (joinT' l 0)=(0,0,0):=by
 obtain⟨hv,hp,hm,h1,h2⟩:=linkE_zero hz
 rw[progAns,show progR (l.flatMap (·.consts)) (joinP (allPr l) l 0 0) (joinT' l 0)=true from link_prog hv hp hm h1 h2,if_pos rfl]
 exact allA_zero (w:=linkW l) fun j p hj=>link_out hv hp hm h1 h2 hj
end
end
section
open Go.MapKept
theorem Stp.freeze {S:Nat→Nat→Prop} {G0 G:Gh} {w0 w:World} {H:List Own} (hs:Sat G H w) (stp:Stp S G0 w0 G H w) {j b:Nat} {c:Array Value} {T:TypeId} (hj:At H j (.blk b (.cells c T (0,0)))):Stp S G0 w0 (G.add b c) (H.eraseIdx j) w:=by
 refine⟨stp.size,stp.keep,Gh.le_trans stp.gle (hs.frozen hj).1,fun b' o v e=>?_,fun x hx=>stp.own x (List.mem_of_mem_eraseIdx hx),stp.weq⟩
 unfold Gh.add at e
 split at e
 ·rename_i hb
  subst hb
  exact .inr (stp.own _ (List.mem_of_getElem? hj.get) b' o rfl)
 ·exact stp.gnew b' o v e
theorem Stp.less {S:Nat→Nat→Prop} {G0 G:Gh} {w0 w:World} {H H':List Own} (stp:Stp S G0 w0 G H w) (h:H'.Sublist H):Stp S G0 w0 G H' w:=
 ⟨stp.size,stp.keep,stp.gle,stp.gnew,fun x hx=>stp.own x (h.subset hx),stp.weq⟩
theorem Fn.freezeK {α:Type} {k:Kd α} (hn:0<k.n) {P:Program} {f:FuncId} {vs:Array Value} {G:Gh} {H:List Own} {R R':Ending→Gh→List Own→Prop} (h:Fn P f vs G H R)
  (hr:∀e G' H',R e G' H'→∃T A cap l x j,KVec k T G' A cap l x∧At H' j x∧∀G'',G'.le G''→Sl k G'' A l→R' e G'' (H'.eraseIdx j)):Fn P f vs G H R':=
 fun w hs hx=>(h w hs hx).mono fun e w' ⟨G',H',r,s,st⟩=>by
  obtain⟨T,A,cap,l,x,j,⟨cs,⟨hl,hv⟩,hK⟩,hj,hk⟩:=hr _ _ _ r
  rcases hv with⟨h1,h2,h3,h4⟩ | ⟨b,c,rfl,rfl,h1,h2,rfl⟩
  ·refine⟨G',_,hk G' (Gh.le_refl _) (hK.sl hn (.inl ?_)),s.sub (List.eraseIdx_sublist ..),st.less (List.eraseIdx_sublist ..)⟩
   rw[h2]at hl
   exact List.eq_nil_of_length_eq_zero (by simpa using hl)
  ·have hg:=(s.frozen hj).1
   refine⟨_,_,hk _ hg ((hK.mono hg).sl hn (.inr ⟨b,rfl,fun i v e=>?_⟩)),(s.frozen hj).2,Stp.freeze s st hj⟩
   rw[Nat.zero_add,Gh.add_at]
   rw[List.getElem?_take]at e
   split at e
   ·simpa using e
   ·cases e
noncomputable def csZ (l:List Ob):List V:=if linkE l=0 then l.flatMap (·.consts)else []
noncomputable def prZ (l:List Ob):List Pr:=if linkE l=0 then joinP (allPr l) l 0 0 else []
noncomputable def ptZ (l:List Ob):List Pt:=if linkE l=0 then joinT' l 0 else []
attribute [local irreducible] Tryz.prog linkE allPr joinP joinT'
theorem linkZ_fn (G:Gh) (hE:Env G) (A:Option Addr) (cap:Nat) (l:List Ob) (hl:Sl Kd.ob G A l) (hL:LLim l):
  Fn Tryz.prog 12 #[.slice A l.length cap] G [] fun e G' H'=>∃CA cc PA pc QA qc,e= .returned (.tuple #[.agg #[.slice CA (csZ l).length cc, .slice PA (prZ l).length pc, .slice QA (ptZ l).length qc], .int .i64 (linkE l)])∧G.le G'∧
   Sl Kd.val G' CA (csZ l)∧Sl Kd.prc G' PA (prZ l)∧Sl Kd.pnt G' QA (ptZ l)∧H'=[]:=by
 by_cases hz:linkE l=0
 rotate_left
 ·refine Fn.mono (linkBad_fn G hE A cap l hl hL hz) fun e G' H' h=>?_
  obtain⟨he,hg,hh⟩:=h
  rw[csZ,prZ,ptZ,if_neg hz,if_neg hz,if_neg hz]
  exact⟨none,0,none,0,none,0,he,hg,Sl.nil _ _ _,Sl.nil _ _ _,Sl.nil _ _ _,hh⟩
 rw[csZ,prZ,ptZ,if_pos hz,if_pos hz,if_pos hz,hz]
 refine Fn.freezeK (k:=Kd.pnt) (R:=fun e G' H'=>∃CA cc PA pc QA qc x3,e= .returned (.tuple #[.agg #[.slice CA (l.flatMap (·.consts)).length cc, .slice PA (joinP (allPr l) l 0 0).length pc, .slice QA (joinT' l 0).length qc], .int .i64 0])∧G.le G'∧
   Sl Kd.val G' CA (l.flatMap (·.consts))∧Sl Kd.prc G' PA (joinP (allPr l) l 0 0)∧KVec Kd.pnt 54 G' QA qc (joinT' l 0) x3∧H'=[x3]) (by decide) ?_ fun e G' H' h=>?_
 rotate_left
 ·obtain⟨CA,cc,PA,pc,QA,qc,x3,he,hg,h1,h2,h3,rfl⟩:=h
  exact⟨_,_,_,_,x3,0,h3, .here,fun G'' hg' h3'=>⟨CA,cc,PA,pc,QA,qc,he,Gh.le_trans hg hg',h1.mono hg',h2.mono hg',h3',rfl⟩⟩
 refine Fn.freezeK (k:=Kd.prc) (R:=fun e G' H'=>∃CA cc PA pc QA qc x2 x3,e= .returned (.tuple #[.agg #[.slice CA (l.flatMap (·.consts)).length cc, .slice PA (joinP (allPr l) l 0 0).length pc, .slice QA (joinT' l 0).length qc], .int .i64 0])∧G.le G'∧
   Sl Kd.val G' CA (l.flatMap (·.consts))∧KVec Kd.prc 47 G' PA pc (joinP (allPr l) l 0 0) x2∧KVec Kd.pnt 54 G' QA qc (joinT' l 0) x3∧H'=[x2,x3]) (by decide) ?_ fun e G' H' h=>?_
 rotate_left
 ·obtain⟨CA,cc,PA,pc,QA,qc,x2,x3,he,hg,h1,h2,h3,rfl⟩:=h
  exact⟨_,_,_,_,x2,0,h2, .here,fun G'' hg' h2'=>⟨CA,cc,PA,pc,QA,qc,x3,he,Gh.le_trans hg hg',h1.mono hg',h2',h3.mono hg',rfl⟩⟩
 refine Fn.freezeK (k:=Kd.val) (by decide) (linkGood_fn G hE A cap l hl hL hz) fun e G' H' h=>?_
 obtain⟨CA,cc,PA,pc,QA,qc,x1,x2,x3,he,hg,h1,h2,h3,rfl⟩:=h
 exact⟨_,_,_,_,x1,0,h1, .here,fun G'' hg' h1'=>⟨CA,cc,PA,pc,QA,qc,x2,x3,he,Gh.le_trans hg hg',h1',h2.mono hg',h3.mono hg',rfl⟩⟩
end
section
open Go.MapKept
attribute [local irreducible] Tryz.prog
attribute [local irreducible] numL cntR byteR txtI encZ encT enV enI enP encH
section
variable (G:Gh) (b:Nat) (BA:Option Addr) (bs:List Int) (bc k:Nat) (f:Int×Int) (hB:Sl (Kd.int .u8) G BA bs) (hbs:∀c∈bs,0≤c∧c<256) (hk:k≤bs.length) (hn:bs.length≤140737488351232) (hbc:bs.length≤bc)
include hB hbs hk hn hbc
set_option maxHeartbeats 4000000 in
theorem vals2_fn (most:Nat) (hm:most≤1000000000):Fn Tryz.prog 72 #[rvA b, .int .i64 (most:Int)] G [rdB b BA bs.length bc k f] fun e G' H'=>∃A' vs cap x' k' f',e= .returned (.slice A' vs.length cap)∧G=G'∧vs.length≤most∧KVec Kd.val 52 G' A' cap vs x'∧Rd (encN enV) (okN most okVl) bs k f vs k' f'∧H'=[x',rdB b BA bs.length bc k' f']:=by
 refine Fn.enter Tryz.func72 rfl rfl fun w0=>?_
 refine WC.seq ?_
 refine WC.region ?_
 refine WL.oo (OW.box rfl rfl fun b2=>?_)
 refine gom ?_
 refine WL.oo (OW.callK rfl (cnt2_fn G b BA bs bc k f hB hbs hk hn most (by omega)) rfl fun v' G' H' h hg=>?_)
 obtain⟨n,k1,f1,he,rfl,hnm,hn0,hr1,rfl⟩:=h
 cases he
 refine gom ?_
 refine WC.nothing ?_
 refine WC.loop (X:=Nat×Nat×(Int×Int)×List V×Option Addr×Nat×Own) (fun x=>[(2, .pointer (some ⟨b2,0,none⟩)),(5, .slice x.2.2.2.2.1 x.2.2.2.1.length x.2.2.2.2.2.1),(9, .int .i64 (n:Int)),(10, .int .i64 (x.1:Int))]) (fun _=>G) (fun x=>[x.2.2.2.2.2.2,rdB b BA bs.length bc x.2.1 x.2.2.1,bxB b2 b]) (fun x=>n - x.1) (fun x=>x.1≤n∧x.2.2.2.1.length=x.1∧Rd (encL enV) (fun l=>l.length=x.1∧∀a∈l,okVl a) bs k1 f1 x.2.2.2.1 x.2.1 x.2.2.1∧KVec Kd.val 52 G x.2.2.2.2.1 x.2.2.2.2.2.1 x.2.2.2.1 x.2.2.2.2.2.2)
  (0,k1,f1,[],none,0, .spare 0 0 0) ⟨Nat.zero_le _,rfl,rd_nil hr1.le f1,KVec.nil⟩ (by exact⟨rfl,rfl,rfl,rfl,trivial⟩) rfl (List.Sublist.refl _) fun x hx=>?_
 obtain⟨i,k2,f2,vs,A1,c1,o1⟩:=x
 obtain⟨hi,hvl,hr2,hv⟩:=hx
 dsimp only at hi hvl hr2 hv
 have x2:=wrapS i (by omega)
 by_cases hlt:i<n
 rotate_left
 ·have e2:decide ((i:Int)<(n:Int))=false:=decide_eq_false (by omega)
  obtain rfl:i=n:=by omega
  refine gom ?_
  refine WC.rt ?_
  exact QF.p1 (.inl rfl) rfl (.tmp rfl) (⟨A1,vs,c1,o1,k2,f2,rfl,rfl,by omega,hv,Rd.list hr1 hr2,rfl⟩)
 have e2:decide ((i:Int)<(n:Int))=true:=decide_eq_true (by omega)
 refine gom ?_
 refine WL.oo (OW.callK rfl (kind2_fn G b BA bs bc k2 f2 hB hbs hr2.le hn) rfl fun v' G' H' h hg=>?_)
 obtain⟨t,k3,f3,he,rfl,hok,hr3,rfl⟩:=h
 cases he
 refine gom ?_
 refine WL.oo (OW.alloc rfl fun b6=>?_)
 by_cases h1:t=1
 ·subst h1
  refine gom ?_
  refine WL.oo (OW.callK rfl (rInt2_fn G b BA bs bc k3 f3 hB hbs hr3.le hn) rfl fun v' G' H' h hg=>?_)
  obtain⟨z,k4,f4,he,rfl,ho4,hr4,rfl⟩:=h
  cases he
  refine gom ?_
  refine WL.oo (OW.callK rfl (bad_fn G b BA bs.length bc k4 f4) rfl fun v' G' H' h hg=>?_)
  obtain⟨he,rfl,rfl⟩:=h
  cases he
  by_cases hbad:f4=(0,0)
  rotate_left
  ·rw[decide_eq_false hbad]
   refine gom ?_
   refine WC.nothing ?_
   refine WC.rt ?_
   exact QF.p1 (.inl rfl) rfl (.tmp rfl) (⟨none,[],0,_,k4,f4,rfl,rfl,Nat.zero_le _,KVec.nil,Rd.list hr1 ((hr2.snoc (rd_int1 hr3 hr4)).stop hlt hbad),rfl⟩)
  rw[decide_eq_true hbad]
  refine gom ?_
  refine WL.op kr (OW.buildSlice rfl kr kr (by rfl) rfl fun b39=>?_)
  refine WL.oo (OW.append1 (k:=Kd.val) (u:=(⟨1,z,false,⟨#[]⟩⟩:V)) rfl rfl kr rfl hv atA atA rfl rfl (by dsimp only;omega) (by dsimp only;omega) rfl fun A6 c6 o6 hv6=>?_)
  refine gom ?_
  refine WK.pick [o6,rdB b BA bs.length bc k4 f4,bxB b2 b] ?_
  exact WK.again (i+1,k4,f4,vs++[(⟨1,z,false,⟨#[]⟩⟩:V)],A6,c6,o6) (by dsimp only;omega) ⟨by dsimp only;omega,by rw[List.length_append,hvl];rfl,hr2.snoc (rd_int1 hr3 hr4),hv6⟩ (by exact⟨rfl,rfl,rfl,rfl,trivial⟩) rfl (List.Sublist.refl _)
 have g1:(t==1)=false:=by rw[beq_eq_false_iff_ne];exact h1
 by_cases h2:t=2
 ·subst h2
  refine gom ?_
  refine WL.oo (OW.callK rfl (rBool2_fn G b BA bs bc k3 f3 hB hbs hr3.le hn) rfl fun v' G' H' h hg=>?_)
  obtain⟨z,k4,f4,he,rfl,hr4,rfl⟩:=h
  cases he
  refine gom ?_
  refine WL.oo (OW.callK rfl (bad_fn G b BA bs.length bc k4 f4) rfl fun v' G' H' h hg=>?_)
  obtain⟨he,rfl,rfl⟩:=h
  cases he
  by_cases hbad:f4=(0,0)
  rotate_left
  ·rw[decide_eq_false hbad]
   refine gom ?_
   refine WC.nothing ?_
   refine WC.rt ?_
   exact QF.p1 (.inl rfl) rfl (.tmp rfl) (⟨none,[],0,_,k4,f4,rfl,rfl,Nat.zero_le _,KVec.nil,Rd.list hr1 ((hr2.snoc (rd_bool2 hr3 hr4)).stop hlt hbad),rfl⟩)
  rw[decide_eq_true hbad]
  refine gom ?_
  refine WL.op kr (OW.buildSlice rfl kr kr (by rfl) rfl fun b39=>?_)
  refine WL.oo (OW.append1 (k:=Kd.val) (u:=(⟨2,0,z,⟨#[]⟩⟩:V)) rfl rfl kr rfl hv atA atA rfl rfl (by dsimp only;omega) (by dsimp only;omega) rfl fun A6 c6 o6 hv6=>?_)
  refine gom ?_
  refine WK.pick [o6,rdB b BA bs.length bc k4 f4,bxB b2 b] ?_
  exact WK.again (i+1,k4,f4,vs++[(⟨2,0,z,⟨#[]⟩⟩:V)],A6,c6,o6) (by dsimp only;omega) ⟨by dsimp only;omega,by rw[List.length_append,hvl];rfl,hr2.snoc (rd_bool2 hr3 hr4),hv6⟩ (by exact⟨rfl,rfl,rfl,rfl,trivial⟩) rfl (List.Sublist.refl _)
 have g2:(t==2)=false:=by rw[beq_eq_false_iff_ne];exact h2
 by_cases h3:t=3
 ·subst h3
  refine gom ?_
  refine WL.oo (OW.callK rfl (rText2_fn G b BA bs bc k3 f3 hB hbs hr3.le hn hbc 4096 (by decide) (by decide)) rfl fun v' G' H' h hg=>?_)
  obtain⟨z,k4,f4,he,rfl,hsz,hr4,rfl⟩:=h
  cases he
  refine gom ?_
  refine WL.oo (OW.callK rfl (bad_fn G b BA bs.length bc k4 f4) rfl fun v' G' H' h hg=>?_)
  obtain⟨he,rfl,rfl⟩:=h
  cases he
  by_cases hbad:f4=(0,0)
  rotate_left
  ·rw[decide_eq_false hbad]
   refine gom ?_
   refine WC.nothing ?_
   refine WC.rt ?_
   exact QF.p1 (.inl rfl) rfl (.tmp rfl) (⟨none,[],0,_,k4,f4,rfl,rfl,Nat.zero_le _,KVec.nil,Rd.list hr1 ((hr2.snoc (rd_text3 hr3 hr4)).stop hlt hbad),rfl⟩)
  rw[decide_eq_true hbad]
  refine gom ?_
  refine WL.op kr (OW.buildSlice rfl kr kr (by rfl) rfl fun b39=>?_)
  refine WL.oo (OW.append1 (k:=Kd.val) (u:=(⟨3,0,false,z⟩:V)) rfl rfl kr rfl hv atA atA rfl rfl (by dsimp only;omega) (by dsimp only;omega) rfl fun A6 c6 o6 hv6=>?_)
  refine gom ?_
  refine WK.pick [o6,rdB b BA bs.length bc k4 f4,bxB b2 b] ?_
  exact WK.again (i+1,k4,f4,vs++[(⟨3,0,false,z⟩:V)],A6,c6,o6) (by dsimp only;omega) ⟨by dsimp only;omega,by rw[List.length_append,hvl];rfl,hr2.snoc (rd_text3 hr3 hr4),hv6⟩ (by exact⟨rfl,rfl,rfl,rfl,trivial⟩) rfl (List.Sublist.refl _)
 have g3:(t==3)=false:=by rw[beq_eq_false_iff_ne];exact h3
 refine gom ?_
 refine WL.oo (OW.callK rfl (bad_fn G b BA bs.length bc k3 f3) rfl fun v' G' H' h hg=>?_)
 obtain⟨he,rfl,rfl⟩:=h
 cases he
 by_cases hbad:f3=(0,0)
 rotate_left
 ·rw[decide_eq_false hbad]
  refine gom ?_
  refine WC.nothing ?_
  refine WC.rt ?_
  exact QF.p1 (.inl rfl) rfl (.tmp rfl) (⟨none,[],0,_,k3,f3,rfl,rfl,Nat.zero_le _,KVec.nil,Rd.list hr1 ((hr2.snoc (rd_other h1 h2 h3 hr3)).stop hlt hbad),rfl⟩)
 rw[decide_eq_true hbad]
 refine gom ?_
 refine WL.op kr (OW.buildSlice rfl kr kr (by rfl) rfl fun b39=>?_)
 refine WL.oo (OW.append1 (k:=Kd.val) (u:=(⟨t,0,false,⟨#[]⟩⟩:V)) rfl rfl kr rfl hv atA atA rfl rfl (by dsimp only;omega) (by dsimp only;omega) rfl fun A6 c6 o6 hv6=>?_)
 refine gom ?_
 refine WK.pick [o6,rdB b BA bs.length bc k3 f3,bxB b2 b] ?_
 exact WK.again (i+1,k3,f3,vs++[(⟨t,0,false,⟨#[]⟩⟩:V)],A6,c6,o6) (by dsimp only;omega) ⟨by dsimp only;omega,by rw[List.length_append,hvl];rfl,hr2.snoc (rd_other h1 h2 h3 hr3),hv6⟩ (by exact⟨rfl,rfl,rfl,rfl,trivial⟩) rfl (List.Sublist.refl _)
set_option maxHeartbeats 4000000 in
theorem code2_fn:Fn Tryz.prog 122 #[rvA b] G [rdB b BA bs.length bc k f] fun e G' H'=>∃A' vs cap x' k' f',e= .returned (.slice A' vs.length cap)∧G=G'∧vs.length≤16384∧KVec Kd.ins 50 G' A' cap vs x'∧Rd (encN enI) (okN 16384 okIn) bs k f vs k' f'∧H'=[x',rdB b BA bs.length bc k' f']:=by
 refine Fn.enter Tryz.func122 rfl rfl fun w0=>?_
 refine WC.seq ?_
 refine WC.region ?_
 refine WL.oo (OW.box rfl rfl fun b1=>?_)
 refine gom ?_
 refine WL.oo (OW.callK rfl (cnt2_fn G b BA bs bc k f hB hbs hk hn 16384 (by decide)) rfl fun v' G' H' h hg=>?_)
 obtain⟨n,k1,f1,he,rfl,hnm,hn0,hr1,rfl⟩:=h
 cases he
 refine gom ?_
 refine WC.nothing ?_
 refine WC.loop (X:=Nat×Nat×(Int×Int)×List (Int×Int)×Option Addr×Nat×Own) (fun x=>[(1, .pointer (some ⟨b1,0,none⟩)),(3, .slice x.2.2.2.2.1 x.2.2.2.1.length x.2.2.2.2.2.1),(6, .int .i64 (n:Int)),(7, .int .i64 (x.1:Int))]) (fun _=>G) (fun x=>[x.2.2.2.2.2.2,rdB b BA bs.length bc x.2.1 x.2.2.1,bxB b1 b]) (fun x=>n - x.1) (fun x=>x.1≤n∧x.2.2.2.1.length=x.1∧Rd (encL enI) (fun l=>l.length=x.1∧∀a∈l,okIn a) bs k1 f1 x.2.2.2.1 x.2.1 x.2.2.1∧KVec Kd.ins 50 G x.2.2.2.2.1 x.2.2.2.2.2.1 x.2.2.2.1 x.2.2.2.2.2.2)
  (0,k1,f1,[],none,0, .spare 0 0 0) ⟨Nat.zero_le _,rfl,rd_nil hr1.le f1,KVec.nil⟩ (by exact⟨rfl,rfl,rfl,rfl,trivial⟩) rfl (List.Sublist.refl _) fun x hx=>?_
 obtain⟨i,k2,f2,vs,A1,c1,o1⟩:=x
 obtain⟨hi,hvl,hr2,hv⟩:=hx
 dsimp only at hi hvl hr2 hv
 have x2:=wrapS i (by omega)
 by_cases hlt:i<n
 rotate_left
 ·have e2:decide ((i:Int)<(n:Int))=false:=decide_eq_false (by omega)
  obtain rfl:i=n:=by omega
  refine gom ?_
  refine WC.rt ?_
  exact QF.p1 (.inl rfl) rfl (.tmp rfl) (⟨A1,vs,c1,o1,k2,f2,rfl,rfl,by omega,hv,Rd.list hr1 hr2,rfl⟩)
 have e2:decide ((i:Int)<(n:Int))=true:=decide_eq_true (by omega)
 refine gom ?_
 refine WL.oo (OW.callK rfl (rbyte_fn G b BA bs bc k2 f2 hB hr2.le (by omega)) rfl fun v' G' H' h hg=>?_)
 obtain⟨he,rfl,rfl⟩:=h
 cases he
 have hok:=okB_byte hbs k2 f2
 have hr3:=rd_byte hbs hr2.le f2
 generalize (byteR bs k2 f2).1=c at hok hr3⊢
 generalize (byteR bs k2 f2).2.1=k3 at hr3⊢
 generalize (byteR bs k2 f2).2.2=f3 at hr3⊢
 refine WL.pp (Gp.convTo (r:=c) rfl (by rw[IntKind.wrap_i64];have:=hok.1;have:=hok.2;omega)) ?_
 refine gom ?_
 refine WL.oo (OW.alloc rfl fun b4=>?_)
 by_cases q1:c=1
 ·subst q1
  refine gom ?_
  refine WL.oo (OW.callK rfl (count_fn G b BA bs bc k3 f3 2147483647 hB hbs hr3.le hn (by decide) (by decide)) rfl fun v' G' H' h hg=>?_)
  obtain⟨he,rfl,rfl⟩:=h
  cases he
  have hr4:=rd_uint hbs hr3.le f3 2147483647 (by decide)
  obtain⟨_,hz0,hz1,_,_⟩:=cntR_le (bs:=bs) (most:=2147483647) (k:=k3) (f:=f3) hbs hr3.le (by decide)
  rw[show(((2147483647:Nat)):Int)=2147483647 from rfl]at hr4
  generalize (cntR bs 2147483647 k3 f3).1=z at hr4 hz0 hz1⊢
  generalize (cntR bs 2147483647 k3 f3).2.1=k4 at hr4⊢
  generalize (cntR bs 2147483647 k3 f3).2.2=f4 at hr4⊢
  obtain⟨m,rfl⟩:∃m:Nat,z=(m:Int):=⟨z.toNat,by omega⟩
  rw[Int.toNat_natCast]at hr4
  refine gom ?_
  refine WL.oo (OW.callK rfl (bad_fn G b BA bs.length bc k4 f4) rfl fun v' G' H' h hg=>?_)
  obtain⟨he,rfl,rfl⟩:=h
  cases he
  by_cases hbad:f4=(0,0)
  rotate_left
  ·rw[decide_eq_false hbad]
   refine gom ?_
   refine WC.nothing ?_
   refine WC.rt ?_
   exact QF.p1 (.inl rfl) rfl (.tmp rfl) (⟨none,[],0,_,k4,f4,rfl,rfl,Nat.zero_le _,KVec.nil,Rd.list hr1 ((hr2.snoc (rd_ins1 rfl hr3 hr4)).stop hlt hbad),rfl⟩)
  rw[decide_eq_true hbad]
  refine gom ?_
  refine WL.op kr (OW.buildSlice rfl kr kr (by rfl) rfl fun b32=>?_)
  refine WL.oo (OW.append1 (k:=Kd.ins) (u:=((1:Int),(m:Int))) rfl rfl kr rfl hv atA atA rfl rfl (by dsimp only;omega) (by dsimp only;omega) rfl fun A6 c6 o6 hv6=>?_)
  refine gom ?_
  refine WK.pick [o6,rdB b BA bs.length bc k4 f4,bxB b1 b] ?_
  exact WK.again (i+1,k4,f4,vs++[((1:Int),(m:Int))],A6,c6,o6) (by dsimp only;omega) ⟨by dsimp only;omega,by rw[List.length_append,hvl];rfl,hr2.snoc (rd_ins1 rfl hr3 hr4),hv6⟩ (by exact⟨rfl,rfl,rfl,rfl,trivial⟩) rfl (List.Sublist.refl _)
 have g1:(c==1)=false:=by rw[beq_eq_false_iff_ne];exact q1
 by_cases q2:c=2
 ·subst q2
  refine gom ?_
  refine WL.oo (OW.callK rfl (count_fn G b BA bs bc k3 f3 2147483647 hB hbs hr3.le hn (by decide) (by decide)) rfl fun v' G' H' h hg=>?_)
  obtain⟨he,rfl,rfl⟩:=h
  cases he
  have hr4:=rd_uint hbs hr3.le f3 2147483647 (by decide)
  obtain⟨_,hz0,hz1,_,_⟩:=cntR_le (bs:=bs) (most:=2147483647) (k:=k3) (f:=f3) hbs hr3.le (by decide)
  rw[show(((2147483647:Nat)):Int)=2147483647 from rfl]at hr4
  generalize (cntR bs 2147483647 k3 f3).1=z at hr4 hz0 hz1⊢
  generalize (cntR bs 2147483647 k3 f3).2.1=k4 at hr4⊢
  generalize (cntR bs 2147483647 k3 f3).2.2=f4 at hr4⊢
  obtain⟨m,rfl⟩:∃m:Nat,z=(m:Int):=⟨z.toNat,by omega⟩
  rw[Int.toNat_natCast]at hr4
  refine gom ?_
  refine WL.oo (OW.callK rfl (bad_fn G b BA bs.length bc k4 f4) rfl fun v' G' H' h hg=>?_)
  obtain⟨he,rfl,rfl⟩:=h
  cases he
  by_cases hbad:f4=(0,0)
  rotate_left
  ·rw[decide_eq_false hbad]
   refine gom ?_
   refine WC.nothing ?_
   refine WC.rt ?_
   exact QF.p1 (.inl rfl) rfl (.tmp rfl) (⟨none,[],0,_,k4,f4,rfl,rfl,Nat.zero_le _,KVec.nil,Rd.list hr1 ((hr2.snoc (rd_ins1 rfl hr3 hr4)).stop hlt hbad),rfl⟩)
  rw[decide_eq_true hbad]
  refine gom ?_
  refine WL.op kr (OW.buildSlice rfl kr kr (by rfl) rfl fun b32=>?_)
  refine WL.oo (OW.append1 (k:=Kd.ins) (u:=((2:Int),(m:Int))) rfl rfl kr rfl hv atA atA rfl rfl (by dsimp only;omega) (by dsimp only;omega) rfl fun A6 c6 o6 hv6=>?_)
  refine gom ?_
  refine WK.pick [o6,rdB b BA bs.length bc k4 f4,bxB b1 b] ?_
  exact WK.again (i+1,k4,f4,vs++[((2:Int),(m:Int))],A6,c6,o6) (by dsimp only;omega) ⟨by dsimp only;omega,by rw[List.length_append,hvl];rfl,hr2.snoc (rd_ins1 rfl hr3 hr4),hv6⟩ (by exact⟨rfl,rfl,rfl,rfl,trivial⟩) rfl (List.Sublist.refl _)
 have g2:(c==2)=false:=by rw[beq_eq_false_iff_ne];exact q2
 by_cases q3:c=3
 ·subst q3
  refine gom ?_
  refine WL.oo (OW.callK rfl (count_fn G b BA bs bc k3 f3 2147483647 hB hbs hr3.le hn (by decide) (by decide)) rfl fun v' G' H' h hg=>?_)
  obtain⟨he,rfl,rfl⟩:=h
  cases he
  have hr4:=rd_uint hbs hr3.le f3 2147483647 (by decide)
  obtain⟨_,hz0,hz1,_,_⟩:=cntR_le (bs:=bs) (most:=2147483647) (k:=k3) (f:=f3) hbs hr3.le (by decide)
  rw[show(((2147483647:Nat)):Int)=2147483647 from rfl]at hr4
  generalize (cntR bs 2147483647 k3 f3).1=z at hr4 hz0 hz1⊢
  generalize (cntR bs 2147483647 k3 f3).2.1=k4 at hr4⊢
  generalize (cntR bs 2147483647 k3 f3).2.2=f4 at hr4⊢
  obtain⟨m,rfl⟩:∃m:Nat,z=(m:Int):=⟨z.toNat,by omega⟩
  rw[Int.toNat_natCast]at hr4
  refine gom ?_
  refine WL.oo (OW.callK rfl (bad_fn G b BA bs.length bc k4 f4) rfl fun v' G' H' h hg=>?_)
  obtain⟨he,rfl,rfl⟩:=h
  cases he
  by_cases hbad:f4=(0,0)
  rotate_left
  ·rw[decide_eq_false hbad]
   refine gom ?_
   refine WC.nothing ?_
   refine WC.rt ?_
   exact QF.p1 (.inl rfl) rfl (.tmp rfl) (⟨none,[],0,_,k4,f4,rfl,rfl,Nat.zero_le _,KVec.nil,Rd.list hr1 ((hr2.snoc (rd_ins1 rfl hr3 hr4)).stop hlt hbad),rfl⟩)
  rw[decide_eq_true hbad]
  refine gom ?_
  refine WL.op kr (OW.buildSlice rfl kr kr (by rfl) rfl fun b32=>?_)
  refine WL.oo (OW.append1 (k:=Kd.ins) (u:=((3:Int),(m:Int))) rfl rfl kr rfl hv atA atA rfl rfl (by dsimp only;omega) (by dsimp only;omega) rfl fun A6 c6 o6 hv6=>?_)
  refine gom ?_
  refine WK.pick [o6,rdB b BA bs.length bc k4 f4,bxB b1 b] ?_
  exact WK.again (i+1,k4,f4,vs++[((3:Int),(m:Int))],A6,c6,o6) (by dsimp only;omega) ⟨by dsimp only;omega,by rw[List.length_append,hvl];rfl,hr2.snoc (rd_ins1 rfl hr3 hr4),hv6⟩ (by exact⟨rfl,rfl,rfl,rfl,trivial⟩) rfl (List.Sublist.refl _)
 have g3:(c==3)=false:=by rw[beq_eq_false_iff_ne];exact q3
 by_cases q5:c=5
 ·subst q5
  refine gom ?_
  refine WL.oo (OW.callK rfl (count_fn G b BA bs bc k3 f3 2147483647 hB hbs hr3.le hn (by decide) (by decide)) rfl fun v' G' H' h hg=>?_)
  obtain⟨he,rfl,rfl⟩:=h
  cases he
  have hr4:=rd_uint hbs hr3.le f3 2147483647 (by decide)
  obtain⟨_,hz0,hz1,_,_⟩:=cntR_le (bs:=bs) (most:=2147483647) (k:=k3) (f:=f3) hbs hr3.le (by decide)
  rw[show(((2147483647:Nat)):Int)=2147483647 from rfl]at hr4
  generalize (cntR bs 2147483647 k3 f3).1=z at hr4 hz0 hz1⊢
  generalize (cntR bs 2147483647 k3 f3).2.1=k4 at hr4⊢
  generalize (cntR bs 2147483647 k3 f3).2.2=f4 at hr4⊢
  obtain⟨m,rfl⟩:∃m:Nat,z=(m:Int):=⟨z.toNat,by omega⟩
  rw[Int.toNat_natCast]at hr4
  refine gom ?_
  refine WL.oo (OW.callK rfl (bad_fn G b BA bs.length bc k4 f4) rfl fun v' G' H' h hg=>?_)
  obtain⟨he,rfl,rfl⟩:=h
  cases he
  by_cases hbad:f4=(0,0)
  rotate_left
  ·rw[decide_eq_false hbad]
   refine gom ?_
   refine WC.nothing ?_
   refine WC.rt ?_
   exact QF.p1 (.inl rfl) rfl (.tmp rfl) (⟨none,[],0,_,k4,f4,rfl,rfl,Nat.zero_le _,KVec.nil,Rd.list hr1 ((hr2.snoc (rd_ins1 rfl hr3 hr4)).stop hlt hbad),rfl⟩)
  rw[decide_eq_true hbad]
  refine gom ?_
  refine WL.op kr (OW.buildSlice rfl kr kr (by rfl) rfl fun b32=>?_)
  refine WL.oo (OW.append1 (k:=Kd.ins) (u:=((5:Int),(m:Int))) rfl rfl kr rfl hv atA atA rfl rfl (by dsimp only;omega) (by dsimp only;omega) rfl fun A6 c6 o6 hv6=>?_)
  refine gom ?_
  refine WK.pick [o6,rdB b BA bs.length bc k4 f4,bxB b1 b] ?_
  exact WK.again (i+1,k4,f4,vs++[((5:Int),(m:Int))],A6,c6,o6) (by dsimp only;omega) ⟨by dsimp only;omega,by rw[List.length_append,hvl];rfl,hr2.snoc (rd_ins1 rfl hr3 hr4),hv6⟩ (by exact⟨rfl,rfl,rfl,rfl,trivial⟩) rfl (List.Sublist.refl _)
 have g5:(c==5)=false:=by rw[beq_eq_false_iff_ne];exact q5
 by_cases q6:c=6
 ·subst q6
  refine gom ?_
  refine WL.oo (OW.callK rfl (count_fn G b BA bs bc k3 f3 2147483647 hB hbs hr3.le hn (by decide) (by decide)) rfl fun v' G' H' h hg=>?_)
  obtain⟨he,rfl,rfl⟩:=h
  cases he
  have hr4:=rd_uint hbs hr3.le f3 2147483647 (by decide)
  obtain⟨_,hz0,hz1,_,_⟩:=cntR_le (bs:=bs) (most:=2147483647) (k:=k3) (f:=f3) hbs hr3.le (by decide)
  rw[show(((2147483647:Nat)):Int)=2147483647 from rfl]at hr4
  generalize (cntR bs 2147483647 k3 f3).1=z at hr4 hz0 hz1⊢
  generalize (cntR bs 2147483647 k3 f3).2.1=k4 at hr4⊢
  generalize (cntR bs 2147483647 k3 f3).2.2=f4 at hr4⊢
  obtain⟨m,rfl⟩:∃m:Nat,z=(m:Int):=⟨z.toNat,by omega⟩
  rw[Int.toNat_natCast]at hr4
  refine gom ?_
  refine WL.oo (OW.callK rfl (bad_fn G b BA bs.length bc k4 f4) rfl fun v' G' H' h hg=>?_)
  obtain⟨he,rfl,rfl⟩:=h
  cases he
  by_cases hbad:f4=(0,0)
  rotate_left
  ·rw[decide_eq_false hbad]
   refine gom ?_
   refine WC.nothing ?_
   refine WC.rt ?_
   exact QF.p1 (.inl rfl) rfl (.tmp rfl) (⟨none,[],0,_,k4,f4,rfl,rfl,Nat.zero_le _,KVec.nil,Rd.list hr1 ((hr2.snoc (rd_ins1 rfl hr3 hr4)).stop hlt hbad),rfl⟩)
  rw[decide_eq_true hbad]
  refine gom ?_
  refine WL.op kr (OW.buildSlice rfl kr kr (by rfl) rfl fun b32=>?_)
  refine WL.oo (OW.append1 (k:=Kd.ins) (u:=((6:Int),(m:Int))) rfl rfl kr rfl hv atA atA rfl rfl (by dsimp only;omega) (by dsimp only;omega) rfl fun A6 c6 o6 hv6=>?_)
  refine gom ?_
  refine WK.pick [o6,rdB b BA bs.length bc k4 f4,bxB b1 b] ?_
  exact WK.again (i+1,k4,f4,vs++[((6:Int),(m:Int))],A6,c6,o6) (by dsimp only;omega) ⟨by dsimp only;omega,by rw[List.length_append,hvl];rfl,hr2.snoc (rd_ins1 rfl hr3 hr4),hv6⟩ (by exact⟨rfl,rfl,rfl,rfl,trivial⟩) rfl (List.Sublist.refl _)
 have g6:(c==6)=false:=by rw[beq_eq_false_iff_ne];exact q6
 by_cases q7:c=7
 ·subst q7
  refine gom ?_
  refine WL.oo (OW.callK rfl (count_fn G b BA bs bc k3 f3 2147483647 hB hbs hr3.le hn (by decide) (by decide)) rfl fun v' G' H' h hg=>?_)
  obtain⟨he,rfl,rfl⟩:=h
  cases he
  have hr4:=rd_uint hbs hr3.le f3 2147483647 (by decide)
  obtain⟨_,hz0,hz1,_,_⟩:=cntR_le (bs:=bs) (most:=2147483647) (k:=k3) (f:=f3) hbs hr3.le (by decide)
  rw[show(((2147483647:Nat)):Int)=2147483647 from rfl]at hr4
  generalize (cntR bs 2147483647 k3 f3).1=z at hr4 hz0 hz1⊢
  generalize (cntR bs 2147483647 k3 f3).2.1=k4 at hr4⊢
  generalize (cntR bs 2147483647 k3 f3).2.2=f4 at hr4⊢
  obtain⟨m,rfl⟩:∃m:Nat,z=(m:Int):=⟨z.toNat,by omega⟩
  rw[Int.toNat_natCast]at hr4
  refine gom ?_
  refine WL.oo (OW.callK rfl (bad_fn G b BA bs.length bc k4 f4) rfl fun v' G' H' h hg=>?_)
  obtain⟨he,rfl,rfl⟩:=h
  cases he
  by_cases hbad:f4=(0,0)
  rotate_left
  ·rw[decide_eq_false hbad]
   refine gom ?_
   refine WC.nothing ?_
   refine WC.rt ?_
   exact QF.p1 (.inl rfl) rfl (.tmp rfl) (⟨none,[],0,_,k4,f4,rfl,rfl,Nat.zero_le _,KVec.nil,Rd.list hr1 ((hr2.snoc (rd_ins1 rfl hr3 hr4)).stop hlt hbad),rfl⟩)
  rw[decide_eq_true hbad]
  refine gom ?_
  refine WL.op kr (OW.buildSlice rfl kr kr (by rfl) rfl fun b32=>?_)
  refine WL.oo (OW.append1 (k:=Kd.ins) (u:=((7:Int),(m:Int))) rfl rfl kr rfl hv atA atA rfl rfl (by dsimp only;omega) (by dsimp only;omega) rfl fun A6 c6 o6 hv6=>?_)
  refine gom ?_
  refine WK.pick [o6,rdB b BA bs.length bc k4 f4,bxB b1 b] ?_
  exact WK.again (i+1,k4,f4,vs++[((7:Int),(m:Int))],A6,c6,o6) (by dsimp only;omega) ⟨by dsimp only;omega,by rw[List.length_append,hvl];rfl,hr2.snoc (rd_ins1 rfl hr3 hr4),hv6⟩ (by exact⟨rfl,rfl,rfl,rfl,trivial⟩) rfl (List.Sublist.refl _)
 have g7:(c==7)=false:=by rw[beq_eq_false_iff_ne];exact q7
 by_cases q8:c=8
 ·subst q8
  refine gom ?_
  refine WL.oo (OW.callK rfl (count_fn G b BA bs bc k3 f3 2147483647 hB hbs hr3.le hn (by decide) (by decide)) rfl fun v' G' H' h hg=>?_)
  obtain⟨he,rfl,rfl⟩:=h
  cases he
  have hr4:=rd_uint hbs hr3.le f3 2147483647 (by decide)
  obtain⟨_,hz0,hz1,_,_⟩:=cntR_le (bs:=bs) (most:=2147483647) (k:=k3) (f:=f3) hbs hr3.le (by decide)
  rw[show(((2147483647:Nat)):Int)=2147483647 from rfl]at hr4
  generalize (cntR bs 2147483647 k3 f3).1=z at hr4 hz0 hz1⊢
  generalize (cntR bs 2147483647 k3 f3).2.1=k4 at hr4⊢
  generalize (cntR bs 2147483647 k3 f3).2.2=f4 at hr4⊢
  obtain⟨m,rfl⟩:∃m:Nat,z=(m:Int):=⟨z.toNat,by omega⟩
  rw[Int.toNat_natCast]at hr4
  refine gom ?_
  refine WL.oo (OW.callK rfl (bad_fn G b BA bs.length bc k4 f4) rfl fun v' G' H' h hg=>?_)
  obtain⟨he,rfl,rfl⟩:=h
  cases he
  by_cases hbad:f4=(0,0)
  rotate_left
  ·rw[decide_eq_false hbad]
   refine gom ?_
   refine WC.nothing ?_
   refine WC.rt ?_
   exact QF.p1 (.inl rfl) rfl (.tmp rfl) (⟨none,[],0,_,k4,f4,rfl,rfl,Nat.zero_le _,KVec.nil,Rd.list hr1 ((hr2.snoc (rd_ins1 rfl hr3 hr4)).stop hlt hbad),rfl⟩)
  rw[decide_eq_true hbad]
  refine gom ?_
  refine WL.op kr (OW.buildSlice rfl kr kr (by rfl) rfl fun b32=>?_)
  refine WL.oo (OW.append1 (k:=Kd.ins) (u:=((8:Int),(m:Int))) rfl rfl kr rfl hv atA atA rfl rfl (by dsimp only;omega) (by dsimp only;omega) rfl fun A6 c6 o6 hv6=>?_)
  refine gom ?_
  refine WK.pick [o6,rdB b BA bs.length bc k4 f4,bxB b1 b] ?_
  exact WK.again (i+1,k4,f4,vs++[((8:Int),(m:Int))],A6,c6,o6) (by dsimp only;omega) ⟨by dsimp only;omega,by rw[List.length_append,hvl];rfl,hr2.snoc (rd_ins1 rfl hr3 hr4),hv6⟩ (by exact⟨rfl,rfl,rfl,rfl,trivial⟩) rfl (List.Sublist.refl _)
 have g8:(c==8)=false:=by rw[beq_eq_false_iff_ne];exact q8
 have hnb:numb c=false:=by unfold numb;rw[g1,g2,g3,g5,g6,g7,g8];rfl
 refine gom ?_
 refine WL.oo (OW.callK rfl (bad_fn G b BA bs.length bc k3 f3) rfl fun v' G' H' h hg=>?_)
 obtain⟨he,rfl,rfl⟩:=h
 cases he
 by_cases hbad:f3=(0,0)
 rotate_left
 ·rw[decide_eq_false hbad]
  refine gom ?_
  refine WC.nothing ?_
  refine WC.rt ?_
  exact QF.p1 (.inl rfl) rfl (.tmp rfl) (⟨none,[],0,_,k3,f3,rfl,rfl,Nat.zero_le _,KVec.nil,Rd.list hr1 ((hr2.snoc (rd_ins0 hnb hr3)).stop hlt hbad),rfl⟩)
 rw[decide_eq_true hbad]
 refine gom ?_
 refine WL.op kr (OW.buildSlice rfl kr kr (by rfl) rfl fun b32=>?_)
 refine WL.oo (OW.append1 (k:=Kd.ins) (u:=(c,(0:Int))) rfl rfl kr rfl hv atA atA rfl rfl (by dsimp only;omega) (by dsimp only;omega) rfl fun A6 c6 o6 hv6=>?_)
 refine gom ?_
 refine WK.pick [o6,rdB b BA bs.length bc k3 f3,bxB b1 b] ?_
 exact WK.again (i+1,k3,f3,vs++[(c,(0:Int))],A6,c6,o6) (by dsimp only;omega) ⟨by dsimp only;omega,by rw[List.length_append,hvl];rfl,hr2.snoc (rd_ins0 hnb hr3),hv6⟩ (by exact⟨rfl,rfl,rfl,rfl,trivial⟩) rfl (List.Sublist.refl _)
theorem code3_fn:Fn Tryz.prog 122 #[rvA b] G [rdB b BA bs.length bc k f] fun e G' H'=>∃A' vs cap k' f',e= .returned (.slice A' vs.length cap)∧G.le G'∧vs.length≤16384∧Sl Kd.ins G' A' vs∧Rd (encN enI) (okN 16384 okIn) bs k f vs k' f'∧H'=[rdB b BA bs.length bc k' f']:=by
 refine Fn.freezeK (k:=Kd.ins) (by decide) (code2_fn G b BA bs bc k f hB hbs hk hn hbc) fun e G' H' h=>?_
 obtain⟨A',vs,cap,x',k',f',he,rfl,hl,hv,hr,rfl⟩:=h
 exact⟨_,_,_,_,x',0,hv, .here,fun G'' hg hv'=>⟨A',vs,cap,k',f',he,hg,hl,hv',hr,rfl⟩⟩
end
end
section
open Go.MapKept
attribute [local irreducible] Tryz.prog
attribute [local irreducible] numL cntR byteR txtI encZ encT enV enI enP encH
def prLm (p:Pr):Prop:=p.params.length≤64∧p.code.length≤16384∧(p.name.size:Int)≤32
structure PL where
 i:Nat
 k:Nat
 f:Int×Int
 l:List Pr
 A:Option Addr
 c:Nat
 o:Own
 G:Gh
set_option maxHeartbeats 4000000 in
theorem procs2_fn (G:Gh) (b:Nat) (BA:Option Addr) (bs:List Int) (bc k:Nat) (f:Int×Int) (hB:Sl (Kd.int .u8) G BA bs) (hbs:∀c∈bs,0≤c∧c<256) (hk:k≤bs.length) (hn:bs.length≤140737488351232) (hbc:bs.length≤bc) (most:Nat) (hm:most≤1000000000):Fn Tryz.prog 76 #[rvA b, .int .i64 (most:Int)] G [rdB b BA bs.length bc k f] fun e G' H'=>∃A' vs cap x' k' f',e= .returned (.slice A' vs.length cap)∧G.le G'∧(vs.length≤most∧∀p∈vs,prLm p)∧KVec Kd.prc 47 G' A' cap vs x'∧Rd (encN enP) (okN most okPr) bs k f vs k' f'∧H'=[x',rdB b BA bs.length bc k' f']:=by
 refine Fn.enter Tryz.func76 rfl rfl fun w0=>?_
 refine WC.seq ?_
 refine WC.region ?_
 refine WL.oo (OW.box rfl rfl fun b2=>?_)
 refine gom ?_
 refine WL.oo (OW.callK rfl (cnt2_fn G b BA bs bc k f hB hbs hk hn most (by omega)) rfl fun v' G' H' h hg=>?_)
 obtain⟨n,k1,f1,he,rfl,hnm,hn0,hr1,rfl⟩:=h
 cases he
 refine gom ?_
 refine WC.nothing ?_
 refine WC.loop (X:=PL) (fun x=>[(2, .pointer (some ⟨b2,0,none⟩)),(5, .slice x.A x.l.length x.c),(9, .int .i64 (n:Int)),(10, .int .i64 (x.i:Int))]) (fun x=>x.G) (fun x=>[x.o,rdB b BA bs.length bc x.k x.f,bxB b2 b]) (fun x=>n - x.i) (fun x=>x.i≤n∧x.l.length=x.i∧(∀p∈x.l,prLm p)∧G.le x.G∧Rd (encL enP) (fun l=>l.length=x.i∧∀a∈l,okPr a) bs k1 f1 x.l x.k x.f∧KVec Kd.prc 47 x.G x.A x.c x.l x.o)
  ⟨0,k1,f1,[],none,0, .spare 0 0 0,G⟩ ⟨Nat.zero_le _,rfl,fun p hp=>(by cases hp),Gh.le_refl _,rd_nil hr1.le f1,KVec.nil⟩ (by exact⟨rfl,rfl,rfl,rfl,trivial⟩) rfl (List.Sublist.refl _) fun x hx=>?_
 obtain⟨i,k2,f2,vs,A1,c1,o1,G1⟩:=x
 obtain⟨hi,hvl,hpb,hg1,hr2,hv⟩:=hx
 dsimp only at hi hvl hpb hg1 hr2 hv
 have x2:=wrapS i (by omega)
 by_cases hlt:i<n
 rotate_left
 ·have e2:decide ((i:Int)<(n:Int))=false:=decide_eq_false (by omega)
  obtain rfl:i=n:=by omega
  refine gom ?_
  refine WC.rt ?_
  exact QF.p1 (.inl rfl) rfl (.tmp rfl) (⟨A1,vs,c1,o1,k2,f2,rfl,hg1,⟨by omega,hpb⟩,hv,Rd.list hr1 hr2,rfl⟩)
 have e2:decide ((i:Int)<(n:Int))=true:=decide_eq_true (by omega)
 refine gom ?_
 refine WL.oo (OW.alloc rfl fun b6=>?_)
 refine gom ?_
 refine WL.oo (OW.callK rfl (head2_fn G1 b BA bs bc k2 f2 (hB.mono hg1) hbs hr2.le hn hbc) rfl fun v' G' H' h hg=>?_)
 obtain⟨s,PA,ps,pc,r,k3,f3,he,hg2,hsz,hpl,hPs,hr3,rfl⟩:=h
 cases he
 obtain⟨G2,rfl⟩:∃G2,G2=G':=⟨_,rfl⟩
 have hg12:=Gh.le_trans hg1 hg2
 refine gom ?_
 refine WL.oo (OW.callK rfl (rBool2_fn G2 b BA bs bc k3 f3 (hB.mono hg12) hbs hr3.le hn) rfl fun v' G' H' h hg=>?_)
 obtain⟨ex,k4,f4,he,rfl,hr4,rfl⟩:=h
 cases he
 refine gom ?_
 refine WL.oo (OW.callK rfl (count_fn G2 b BA bs bc k4 f4 64 (hB.mono hg12) hbs hr4.le hn (by decide) (by decide)) rfl fun v' G' H' h hg=>?_)
 obtain⟨he,rfl,rfl⟩:=h
 cases he
 have hr5:=rd_uint hbs hr4.le f4 64 (by decide)
 obtain⟨_,hz0,hz1,_,_⟩:=cntR_le (bs:=bs) (most:=64) (k:=k4) (f:=f4) hbs hr4.le (by decide)
 rw[show(((64:Nat)):Int)=64 from rfl]at hr5
 generalize (cntR bs 64 k4 f4).1=z at hr5 hz0 hz1⊢
 generalize (cntR bs 64 k4 f4).2.1=k5 at hr5⊢
 generalize (cntR bs 64 k4 f4).2.2=f5 at hr5⊢
 obtain⟨m,rfl⟩:∃m:Nat,z=(m:Int):=⟨z.toNat,by omega⟩
 rw[Int.toNat_natCast]at hr5
 refine gom ?_
 refine WL.oo (OW.callK rfl (code3_fn G2 b BA bs bc k5 f5 (hB.mono hg12) hbs hr5.le hn hbc) rfl fun v' G' H' h hg=>?_)
 obtain⟨CA,cd,cc,k6,f6,he,hg3,hcl,hCs,hr6,rfl⟩:=h
 cases he
 obtain⟨G3,rfl⟩:∃G3,G3=G':=⟨_,rfl⟩
 have hrp:=rd_proc hr3 hr4 hr5 hr6
 refine gom ?_
 refine WL.oo (OW.callK rfl (bad_fn G3 b BA bs.length bc k6 f6) rfl fun v' G' H' h hg=>?_)
 obtain⟨he,rfl,rfl⟩:=h
 cases he
 have hg13:=Gh.le_trans hg12 hg3
 by_cases hbad:f6=(0,0)
 rotate_left
 ·rw[decide_eq_false hbad]
  refine gom ?_
  refine WC.nothing ?_
  refine WC.rt ?_
  exact QF.p1 (.inl rfl) rfl (.tmp rfl) (⟨none,[],0,_,k6,f6,rfl,hg13,⟨Nat.zero_le _,fun p hp=>(by cases hp)⟩,KVec.nil,Rd.list hr1 ((hr2.snoc hrp).stop hlt hbad),rfl⟩)
 rw[decide_eq_true hbad]
 refine gom ?_
 refine WL.op kr (OW.buildSlice rfl kr kr (by rfl) rfl fun b36=>?_)
 refine WL.oo (OW.append1 (k:=Kd.prc) (u:=(⟨s,ex,ps,(m:Int),r,cd⟩:Pr)) rfl rfl kr rfl (hv.mono (Gh.le_trans hg2 hg3)) atA atA rfl ⟨PA,pc,CA,cc,rfl,hPs.mono hg3,hCs⟩ (by dsimp only;omega) (by dsimp only;omega) rfl fun A6 c6 o6 hv6=>?_)
 refine gom ?_
 refine WK.pick [o6,rdB b BA bs.length bc k6 f6,bxB b2 b] ?_
 exact WK.again ⟨i+1,k6,f6,vs++[⟨s,ex,ps,(m:Int),r,cd⟩],A6,c6,o6,G3⟩ (by dsimp only;omega) ⟨by dsimp only;omega,by rw[List.length_append,hvl];rfl,fun p hp=>by
  rcases List.mem_append.1 hp with hp | hp
  ·exact hpb p hp
  ·obtain rfl:=List.mem_singleton.1 hp;exact⟨hpl,hcl,hsz⟩,hg13,hr2.snoc hrp,hv6⟩ (by exact⟨rfl,rfl,rfl,rfl,trivial⟩) rfl (List.Sublist.refl _)
end
section
open Go.MapKept
attribute [local irreducible] Tryz.prog
attribute [local irreducible] numL cntR byteR txtI encZ encT enV enI enP encH
theorem BVec.zero2 {A:Option Addr} {l:List Int} {c:Nat} {x:Own} (h:BVec A l c x):A=none→l.length=0:=fun e=>by
 obtain⟨_,h1⟩:=h
 rcases h1 with⟨_,h2,_,_⟩ | ⟨b,c',h2,_⟩
 ·exact h2
 ·rw[e]at h2;cases h2
theorem newReader2_fn (G:Gh) (A:Option Addr) (bs:List Int) (cap:Nat) (hA:Sl (Kd.int .u8) G A bs) (hl:bs.length≤140737488355328):
  Fn Tryz.prog 113 #[.slice A bs.length cap] G [] fun e G' H'=>∃b A' c,e= .returned (.pointer (some ⟨b,0,none⟩))∧G.le G'∧bs.length≤c∧Sl (Kd.int .u8) G' A' bs∧H'=[rdB b A' bs.length c 0 (0,0)]:=by
 refine Fn.enter Tryz.func113 rfl rfl fun w0=>?_
 refine gom ?_
 refine WL.oo (OW.callK rfl (fresh0_fn G A bs cap hA hl) rfl fun v' G' H' h hg=>?_)
 obtain⟨A1,c1,x1,he,rfl,h1,rfl⟩:=h
 cases he
 have hle:=Vec.le h1
 refine WL.frozenVec h1 atA fun G1 hg1 hz1=>?_
 have hs1:=BVec.sl hz1
 refine gom ?_
 refine WL.oo (OW.box rfl rfl fun b7=>?_)
 refine gom ?_
 refine WC.rt ?_
 exact QF.p1 (.inl rfl) rfl (.tmp rfl) (⟨b7,A1,c1,rfl,hg1,hle,hs1,rfl⟩)
def BegP (bs m:List Int) (ok:Bool) (k:Nat) (f:Int×Int):Prop:=k≤bs.length∧((ok=true∧f=(0,0)∧bs=m++bs.drop k)∨(ok=false∧∀rest,bs≠m++rest))
theorem beg_of {bs l:List Int} (hbs:∀c∈bs,0≤c∧c<256) {m:ByteArray} (hm:m.size=3) {k:Nat} {f:Int×Int} (hz:f≠(0,0)→l=[]) (h:Rd (fun l:List Int=>l) (fun l=>l.length=3) bs 0 (0,0) l k f):BegP bs (strI m) (strOfNums l==m) k f:=by
 refine⟨h.le,?_⟩
 rw[bytes_beq]
 by_cases e:strOfNums l=m
 ·left
  have hf:f=(0,0):=by
   by_cases hf:f=(0,0)
   ·exact hf
   ·rw[hz hf]at e
    rw[←e]at hm
    exact absurd hm (by decide)
  obtain⟨_,h2,h3⟩:=h.sound hf
  rw[List.drop_zero]at h3
  refine⟨decide_eq_true e,hf,?_⟩
  have:strI m=l:=by rw[←e];exact strI_ofNums fun c hc=>hbs c (by rw[h3];exact List.mem_append_left _ hc)
  rw[this];exact h3
 ·right
  refine⟨decide_eq_false e,fun rest hr=>e ?_⟩
  obtain⟨_,rfl⟩:=h.full rfl (strI m) rest (by rw[strI_length];exact hm) (by rw[List.drop_zero];exact hr)
  exact ofNums_strI m
set_option maxHeartbeats 1000000 in
theorem begin_fn (G:Gh) (A:Option Addr) (bs:List Int) (cap:Nat) (hA:Sl (Kd.int .u8) G A bs) (hbs:∀c∈bs,0≤c∧c<256) (hl:bs.length≤140737488351232) (m:ByteArray) (hm:m.size=3):
  Fn Tryz.prog 70 #[.slice A bs.length cap, .string m] G [] fun e G' H'=>∃rb RA rc ok k f,e= .returned (.tuple #[rvA rb, .bool ok])∧G.le G'∧bs.length≤rc∧Sl (Kd.int .u8) G' RA bs∧BegP bs (strI m) ok k f∧H'=[rdB rb RA bs.length rc k f]:=by
 refine Fn.enter Tryz.func70 rfl rfl fun w0=>?_
 refine WC.seq ?_
 refine WC.region ?_
 refine WL.oo (OW.alloc rfl fun b4=>?_)
 refine gom ?_
 refine WL.oo (OW.callK rfl (newReader2_fn G A bs cap hA (by omega)) rfl fun v' G' H' h hg=>?_)
 obtain⟨rb,RA,rc,he,hg1,hrc,hR,rfl⟩:=h
 cases he
 obtain⟨G1,rfl⟩:∃G1,G1=G':=⟨_,rfl⟩
 refine gom ?_
 refine WL.oo (OW.alloc rfl fun b6=>?_)
 refine go ?_
 refine WC.pick [rdB rb RA bs.length rc 0 (0,0), .blk b4 (.cells #[.pointer none] 129 (0,0)),bxB b6 rb] ?_
 refine WC.drawS (Hs:=[bxB b6 rb]) mixed pkA ?_
 refine zb.ld 0 ?_
 refine zb.fa 1 ?_
 refine zb.ld 2 ?_
 refine zb.move 3 ?_
 refine zb.len 4 ?_
 refine zb.move 7 ?_
 rw[hm]
 refine WB.oo 5 rfl (OW.callK rfl (rRaw2_fn G1 rb RA bs rc 0 (0,0) hR hbs (Nat.zero_le _) hl hrc 3 (by decide)) rfl fun v' G' H' h hg=>?_)
 obtain⟨l,LA,lc,x1,k,f,he,rfl,h1,hz,hr,rfl⟩:=h
 cases he
 refine⟨fun w hw=>hw.pk pkA,?_⟩
 have hbeg:=beg_of hbs hm hz hr
 refine WB.two (i:=6) (j:=9) kr rfl rfl kr kr (OW.gv (Gv.convBytes (xs:=l) rfl (Vec.rds h1 atA) h1.zero2) rfl ?_) (OW.store rfl rfl atA rfl (by rfl) (by rfl) kr (by rfl) ?_ rfl)
 ·refine⟨fun w hw=>hw.pk pkA,?_⟩
  refine zb.eq 8 ?_
  refine zb.st 9 ?_
  refine⟨fun w hw=>hw.pk pkA,?_⟩
  refine zb.assign 10 ?_
  refine WB.done kr ?_
  refine WK.un ?_
  refine WC.rt ?_
  exact QF.p2 (.inl rfl) rfl (.cell rfl inferInstance inferInstance atA rfl rfl) (.tmp rfl) (⟨rb,RA,rc,_,k,f,rfl,hg1,hrc,hR,hbeg,rfl⟩)
 ·refine⟨fun w hw=>hw.pk pkA,?_⟩
  refine WB.oo 6 rfl (OW.gv (Gv.convBytes (xs:=l) rfl (Vec.rds h1 atA) h1.zero2) rfl ?_)
  refine⟨fun w hw=>hw.pk pkA,?_⟩
  refine zb.eq 8 ?_
  refine zb.assign 10 ?_
  refine WB.done kr ?_
  refine WK.un ?_
  refine WC.rt ?_
  exact QF.p2 (.inl rfl) rfl (.cell rfl inferInstance inferInstance atA rfl rfl) (.tmp rfl) (⟨rb,RA,rc,_,k,f,rfl,hg1,hrc,hR,hbeg,rfl⟩)
end
section
open Go.MapKept
section
variable {Q:Exit→Act→World→Prop} {cx:Cx} {L:List (Nat×Value)} {G:Gh} {H:List Own} {K:List (Nat×Value)→Gh→List Own→Prop}
 {d:Option Tmp} {ty:TypeId} {pos:String} {af:Array Edge} {gu:Option (Nat×Bool)}
end
attribute [local irreducible] Tryz.prog
end
section
open Go.MapKept
theorem wrapU {m:Int} (h0:0≤m) (h1:m<18446744073709551616):IntKind.u64.wrap m=m:=by simp[IntKind.wrap,IntKind.signed,IntKind.bits];omega
theorem uI_nat (n:Nat) (h:n<18446744073709551616):uI (n:Int)=uintL n:=by unfold uI;rw[wrapU (by omega) (by omega)];simp
section
variable {L:List (Nat×Value)} {d:Option Tmp} {ty:TypeId} {pos:String} {af:Array Edge} {gu:Option (Nat×Bool)} {P:Program}
end
section
variable {α:Type} {f:α→List Int} {l:List α} {k:Nat} {a:α}
def preL (f:α→List Int) (l:List α) (k:Nat):List Int:=uI l.length++(l.take k).flatMap f
end
structure BW where
 i:Nat
 A:Option Addr
 c:Nat
 x:Own
def typI (ps:List Int) (r:Int):List Int:=uI ps.length++ps.flatMap kindI++kindI r
attribute [local irreducible] Tryz.prog bytesR preL
end
section
open Go.MapKept
attribute [local irreducible] Tryz.prog bytesR preL valI procI
end
section
open Go.MapKept
attribute [local irreducible] Tryz.prog
def rnameR (s:ByteArray):Bool:=
 match bytesL s with
 | []=>false
 | c::l=>letterN c.toNat&&(decide ((c::l).length≤32)&&(c::l).all (fun c=>wordN c.toNat))
end
section
open Go.MapKept
abbrev slash:ByteArray:=⟨#[47]⟩
def restL (s:ByteArray) (f:Nat):List ByteArray:=Lib.splitB slash 0 (Lib.countB (s.extract f s.size) slash) (s.extract f s.size)
end
section
open Go.MapKept
section
variable {P:Program} {L:List (Nat×Value)} {d:Option Tmp} {ty:TypeId} {pos:String} {af:Array Edge} {gu:Option (Nat×Bool)}
end
abbrev StVec (A:Option Addr) (l:List ByteArray) (cap:Nat) (x:Own):Prop:=Vec 9 1 A l.length cap (l.map Value.string) x
def lvalR (v:V):Bool:=
 if v.t=1 then !v.b&&(v.s==⟨#[]⟩)else if v.t=2 then v.i==0&&(v.s==⟨#[]⟩)else if v.t=3 then v.i==0&& !v.b&&decide ((v.s.size:Int)≤4096)else false
attribute [local irreducible] Tryz.prog
attribute [local irreducible] restL slashL nameR
end
section
open Go.MapKept
attribute [local irreducible] Tryz.prog
abbrev rsV (s:SS) (VA:Option Addr) (vc:Nat) (SA:Option Addr) (sc:Nat):Value:= .agg #[.bool s.reached, .slice VA s.vars.length vc, .bool s.unlike, .slice SA s.stack.length sc]
abbrev rsC (s:SS) (VA:Option Addr) (vc:Nat) (SA:Option Addr) (sc:Nat):Array Value:= #[.bool s.reached, .slice VA s.vars.length vc, .bool s.unlike, .slice SA s.stack.length sc]
def onwR (i:Int×Int) (k:Nat):List Int:=if i.1=5 then [i.2]else if i.1=6 then [(k:Int)+1,i.2]else if i.1=9∨i.1=10 then []else [(k:Int)+1]
end
section
open Go.MapKept
attribute [local irreducible] Tryz.prog
structure RWp (G:Gh) (w:Wd) (CA NA PA:Option Addr):Prop where
 consts:Sl Kd.val G CA w.consts
 needs:Sl Kd.ned G NA w.needs
 procs:Sl Kd.prc G PA w.procs
 cl:w.consts.length≤100000000000000
 nl:w.needs.length≤100000000000000
 pl:w.procs.length≤100000000000000
 np:∀q∈w.needs,q.params.length≤100000000000000
 pp:∀q∈w.procs,q.params.length≤100000000000000
abbrev wdC (w:Wd) (CA NA PA:Option Addr) (cc nc pc:Nat):Array Value:= #[.slice CA w.consts.length cc, .slice NA w.needs.length nc, .slice PA w.procs.length pc]
def limR (w:Wd) (p:Pr) (c:Int):Int:=if c=1 then(w.consts.length:Int)else if c=2∨c=3 then p.locals else if c=7 then(w.procs.length:Int)else if c=8 then(w.needs.length:Int)else(p.code.length:Int)
def itsR (w:Wd) (p:Pr) (c n:Int):Int:=if mayR c n=false then 180 else if(rowC c).n=true∧limR w p c≤n then(if c=5∨c=6 then 182 else 180)else 0
end
section
open Go.MapKept
attribute [local irreducible] Tryz.prog
section
variable (G:Gh) (w:Wd) (p:Pr) (CA NA PA:Option Addr) (cc nc pc:Nat) (hW:RWp G w CA NA PA) (QA IA:Option Addr) (qc ic:Nat)
include hW
end
end
section
open Go.MapKept
attribute [local irreducible] Tryz.prog
section
variable (G:Gh) (w:Wd) (p:Pr) (CA NA PA:Option Addr) (cc nc pc:Nat) (hW:RWp G w CA NA PA) (QA IA:Option Addr) (qc ic:Nat)
include hW
end
end
section
open Go.MapKept
attribute [local irreducible] Tryz.prog
section
variable (G:Gh) (w:Wd) (p:Pr) (CA NA PA:Option Addr) (cc nc pc:Nat) (hW:RWp G w CA NA PA) (QA IA:Option Addr) (qc ic:Nat) (hC:Sl Kd.ins G IA p.code) (hfew:p.code.length≤100000000000)
include hW hC hfew
end
end
section
open Go.MapKept
attribute [local irreducible] Tryz.prog
def Kd.rs:Kd SS where
 n:=4
 K G s cs:=∃VA vc SA sc,cs=[.bool s.reached, .slice VA s.vars.length vc, .bool s.unlike, .slice SA s.stack.length sc]∧(s.vars.length≤vc∧s.stack.length≤sc)∧Sl (Kd.int .i64) G VA s.vars∧Sl (Kd.int .i64) G SA s.stack
 mono hg h:=let ⟨VA,vc,SA,sc,h1,h0,h2,h3⟩:=h;⟨VA,vc,SA,sc,h1,h0,h2.mono hg,h3.mono hg⟩
 len h:=by obtain⟨VA,vc,SA,sc,h1,_⟩:=h;rw[h1];rfl
 one h:=by obtain⟨VA,vc,SA,sc,h1,_⟩:=h;rw[h1];rfl
abbrev rsL (s:SS) (VA:Option Addr) (vc:Nat) (SA:Option Addr) (sc:Nat):List Value:=[.bool s.reached, .slice VA s.vars.length vc, .bool s.unlike, .slice SA s.stack.length sc]
def bls (l:List Bool):List Value:=l.map Value.bool
abbrev WVec (wb:Nat) (l:List Bool) (c:Array Value):Prop:=Vec 4 1 (some ⟨wb,0,none⟩) l.length l.length (bls l) (.blk wb (.cells c 4 (0,0)))
abbrev QVec (A:Option Addr) (l:List Int) (cap:Nat) (x:Own):Prop:=IVec 3 A l cap x
structure FM where
 l:List SS
 T:List Int
 ws:List Bool
 G:Gh
 cs:List Value
 c:Array Value
 TA:Option Addr
 tc:Nat
 o:Own
 wc:Array Value
section
variable (G:Gh) (w:Wd) (p:Pr) (CA NA PA:Option Addr) (cc nc pc:Nat) (hW:RWp G w CA NA PA) (QA IA:Option Addr) (qc ic:Nat) (hQ:Sl (Kd.int .i64) G QA p.params) (hI:Sl Kd.ins G IA p.code) (hp:POk w p)
include hW hQ hI hp
end
end
section
open Go.MapKept
attribute [local irreducible] Tryz.prog
noncomputable def prOut (w:Wd) (p:Pr):Int×Int:=
 if procR p=false then(0,185)
 else if(firstR p.code.length (aloneAt w p)).2≠0 then firstR p.code.length (aloneAt w p)
 else wrongR w p (flowOf w p)
section
variable (G:Gh) (w:Wd) (p:Pr) (CA NA PA:Option Addr) (cc nc pc:Nat) (hW:RWp G w CA NA PA) (QA IA:Option Addr) (qc ic:Nat) (hQ:Sl (Kd.int .i64) G QA p.params) (hI:Sl Kd.ins G IA p.code) (hnl:p.name.size≤100000000000000) (hql:p.params.length≤100000000000000)
include hW hQ hI hnl hql
end
end
section
open Go.MapKept
attribute [local irreducible] Tryz.prog
section
variable (G:Gh) (o:Ob) (CA NA PA:Option Addr) (cc nc pc:Nat) (hO:ORep G o CA NA PA) (hL:OLim o)
include hO hL
end
end
end Go.Proofs.YtcnlkfocbbkdhaaGreatDoor.Gb
