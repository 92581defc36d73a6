/- What the document finds wrong with a procedure: walked. The document's look at a whole object: walked. Bytes onto a constant's bytes. The document's bytes of an object: walked. Layer 22: the two small objects of the law's last word: they must be taken (no program in sight). Layer 22: the law's own small objects: walked. The machine's stack and its small helpers, part 2. The machine's values and tests. Numbers and texts compared and reckoned with. What is taken from the stack, and laid there. Values of a type are taken; two are compared. Two values are compared by their order. A program and a machine in memory; frames are entered, copied, found. A frame is entered. A procedure is called. A frame is left. Two values are held against one another; too few for an operation; what an instruction without a number comes to. Instructions without a number: dropped, left, printed. Any instruction without a number. An instruction is carried out, 1: constants, variables. -/
import Derived.Test.YtcnlkfocbbkdhaaGreatDoorTh
set_option linter.unusedVariables false
set_option linter.unusedSimpArgs false
set_option linter.unusedSectionVars false
namespace Go.Proofs.YtcnlkfocbbkdhaaGreatDoor.Gb
open Go Go.Proofs
section
open Go.MapKept
attribute [local irreducible] Tryz.prog
noncomputable def prOut (w:Wd) (p:Pr):Int×Int:=
 if procR p=false then(0,185)
 else if(firstR p.code.length (aloneAt w p)).2≠0 then firstR p.code.length (aloneAt w p)
 else wrongR w p (flowOf w p)
section
variable (G:Gh) (w:Wd) (p:Pr) (CA NA PA:Option Addr) (cc nc pc:Nat) (hW:RWp G w CA NA PA) (QA IA:Option Addr) (qc ic:Nat) (hQ:Sl (Kd.int .i64) G QA p.params) (hI:Sl Kd.ins G IA p.code) (hnl:p.name.size≤100000000000000) (hql:p.params.length≤100000000000000)
include hW hQ hI hnl hql
set_option maxHeartbeats 4000000 in
theorem rproc_fn:
  Fn Tryz.prog 100 #[.agg (wdC w CA NA PA cc nc pc), .agg (prC p QA qc IA ic)] G []
   fun e G' H'=>e= .returned (.tuple #[.int .i64 (prOut w p).1, .int .i64 (prOut w p).2])∧G.le G'∧H'=[]:=by
 refine Fn.enter Tryz.func100 rfl rfl fun w0=>?_
 refine WC.seq ?_
 refine WC.region ?_
 refine WL.oo (OW.box rfl rfl fun b1=>?_)
 refine WL.oo (OW.box rfl rfl fun b2=>?_)
 refine gom ?_
 refine WL.oo (OW.callK rfl (rWord_fn G p.name hnl) rfl fun v' G' H' h hg=>?_)
 obtain⟨he,hg1,rfl⟩:=h
 cases he
 clear hg
 obtain⟨G1,rfl⟩:∃G1,G1=G':=⟨_,rfl⟩
 cases h1:wordR p.name with
 | false=>
  have hr:prOut w p=(0,185):=by unfold prOut;rw[if_pos (by rw[procR,h1,Bool.false_and])]
  rw[hr]
  refine gom ?_
  refine WC.rt ?_
  exact QF.p2 (.inl rfl) rfl (.tmp rfl) (.tmp rfl) (⟨rfl,hg1,rfl⟩)
 | true=>
 refine gom ?_
 refine WL.oo (OW.callK rfl (rhead_fn G1 QA p.params qc p.result (hQ.mono hg1) hql) rfl fun v' G' H' h hg=>?_)
 obtain⟨he,rfl,rfl⟩:=h
 cases he
 cases h2:headR p.params p.result with
 | false=>
  have hr:prOut w p=(0,185):=by unfold prOut;rw[if_pos (by rw[procR,h1,h2];rfl)]
  rw[hr]
  refine gom ?_
  refine WC.rt ?_
  exact QF.p2 (.inl rfl) rfl (.tmp rfl) (.tmp rfl) (⟨rfl,hg1,rfl⟩)
 | true=>
 cases h3:decide ((p.params.length:Int)≤p.locals)with
 | false=>
  have hr:prOut w p=(0,185):=by unfold prOut;rw[if_pos (by rw[procR,h1,h2,h3];rfl)]
  rw[hr]
  have y3:=dgt h3
  refine gom ?_
  refine WC.rt ?_
  exact QF.p2 (.inl rfl) rfl (.tmp rfl) (.tmp rfl) (⟨rfl,hg1,rfl⟩)
 | true=>
 have y3:=dgt h3
 cases h4:decide (p.locals≤64)with
 | false=>
  have hr:prOut w p=(0,185):=by unfold prOut;rw[if_pos (by rw[procR,h1,h2,h3,h4];rfl)]
  rw[hr]
  have y4:=dgt h4
  refine gom ?_
  refine WC.rt ?_
  exact QF.p2 (.inl rfl) rfl (.tmp rfl) (.tmp rfl) (⟨rfl,hg1,rfl⟩)
 | true=>
 have y4:=dgt h4
 cases h5:decide (1≤(p.code.length:Int))with
 | false=>
  have hr:prOut w p=(0,185):=by unfold prOut;rw[if_pos (by rw[procR,h1,h2,h3,h4,h5];rfl)]
  rw[hr]
  have y5:=dgt h5
  refine gom ?_
  refine WC.rt ?_
  exact QF.p2 (.inl rfl) rfl (.tmp rfl) (.tmp rfl) (⟨rfl,hg1,rfl⟩)
 | true=>
 have y5:=dgt h5
 cases h6:decide ((p.code.length:Int)≤16384)with
 | false=>
  have hr:prOut w p=(0,185):=by unfold prOut;rw[if_pos (by rw[procR,h1,h2,h3,h4,h5,h6];rfl)]
  rw[hr]
  have y6:=dgt h6
  refine gom ?_
  refine WC.rt ?_
  exact QF.p2 (.inl rfl) rfl (.tmp rfl) (.tmp rfl) (⟨rfl,hg1,rfl⟩)
 | true=>
 have y6:=dgt h6
 have hpr:procR p=true:=by rw[procR,h1,h2,h3,h4,h5,h6];rfl
 have hfew:=(procR_head hpr).2.2.2
 refine gom ?_
 refine WC.pick [.blk b1 (.cells (wdC w CA NA PA cc nc pc) 162 (0,0)), .blk b2 (.cells (prC p QA qc IA ic) 47 (0,0))] ?_
 refine WC.loop (X:=Nat) (fun j=>[(2, .pointer (some ⟨b1,0,none⟩)),(3, .pointer (some ⟨b2,0,none⟩)),(6, .int .i64 (j:Int))]) (fun _=>G1) (fun _=>[.blk b1 (.cells (wdC w CA NA PA cc nc pc) 162 (0,0)), .blk b2 (.cells (prC p QA qc IA ic) 47 (0,0))])
  (fun j=>p.code.length - j) (fun j=>j≤p.code.length∧∀k:Nat,k<j→aloneAt w p k=0) 0 ⟨Nat.zero_le _,fun k h=>absurd h (Nat.not_lt_zero _)⟩ (by exact⟨rfl,rfl,rfl,trivial⟩) rfl (List.Sublist.refl _) fun j hj=>?_
 obtain⟨hj,hall⟩:=hj
 by_cases hlt:j<p.code.length
 ·have e2:decide ((j:Int)<(p.code.length:Int))=true:=decide_eq_true (by omega)
  obtain⟨i,hi⟩:∃i,p.code[j]? =some i:=⟨_,List.getElem?_eq_getElem hlt⟩
  obtain⟨ib,io,ics,rfl,hik,hic⟩:=(hI.mono hg1) j _ hi
  obtain rfl:ics=[.int .i64 i.1, .int .i64 i.2]:=hik
  have x0:(0:Int)≤(j:Int):=by omega
  have x1:(j:Int)<(p.code.length:Int):=by omega
  have x2:=wrapS j (by omega)
  have haa:aloneAt w p j=itsR w p i.1 i.2:=by unfold aloneAt;rw[hi,itsR_eq hfew]
  refine gom ?_
  refine WQ.one kr kr (OW.callK rfl (ritself_fn G1 w p CA NA PA cc nc pc QA (some ⟨ib,io,none⟩) qc ic i.1 i.2) rfl fun v' G' H' h hg=>?_)
  obtain⟨he,rfl,rfl⟩:=h
  cases he
  rw[←haa]
  by_cases ha:aloneAt w p j=0
  ·have e4:(aloneAt w p j != 0)=false:=by simpa using ha
   refine gom ?_
   refine WK.pick [.blk b1 (.cells (wdC w CA NA PA cc nc pc) 162 (0,0)), .blk b2 (.cells (prC p QA qc (some ⟨ib,io,none⟩) ic) 47 (0,0))] ?_
   exact WK.again (j+1) (by omega) ⟨by omega,fun k hk=>by
    rcases Nat.lt_or_ge k j with h | h
    ·exact hall k h
    ·obtain rfl:k=j:=by omega
     exact ha⟩ (by exact⟨rfl,rfl,rfl,trivial⟩) rfl (List.Sublist.refl _)
  ·have e4:(aloneAt w p j != 0)=true:=by simpa using ha
   have hf:firstR p.code.length (aloneAt w p)=((j:Int),aloneAt w p j):=firstR_at hlt hall ha
   have hr:prOut w p=((j:Int),aloneAt w p j):=by unfold prOut;rw[if_neg (by rw[hpr];simp),hf,if_pos ha]
   rw[hr]
   refine gom ?_
   refine WC.rt ?_
   exact QF.p2 (.inl rfl) rfl (.tmp rfl) (.tmp rfl) (⟨rfl,hg1,rfl⟩)
 have e2:decide ((j:Int)<(p.code.length:Int))=false:=decide_eq_false (by omega)
 have hf:firstR p.code.length (aloneAt w p)=(0,0):=firstR_none fun k hk=>hall k (by omega)
 have hpo:POk w p:=pok_of hpr fun k i hi=>by
  have:=hall k (by have:=(List.getElem?_eq_some_iff.1 hi).1;omega)
  unfold aloneAt at this;rw[hi]at this;exact this
 refine gom ?_
 refine WL.oo (OW.callK rfl (rStates_fn G1 w p CA NA PA cc nc pc (hW.mono hg1) QA IA qc ic (hQ.mono hg1) (hI.mono hg1) hpo) rfl fun v' G' H' h hg=>?_)
 obtain⟨TA,tc,l,he,hg2,hT,htc,hle,rfl⟩:=h
 cases he
 clear hg
 obtain⟨G2,rfl⟩:∃G2,G2=G':=⟨_,rfl⟩
 have hcl:=hle.closed
 have hll:=hcl.len
 have hr:prOut w p=wrongR w p l:=by unfold prOut;rw[if_neg (by rw[hpr];simp),hf,if_neg (by simp),hle.flow]
 have hg12:=Gh.le_trans hg1 hg2
 rw[hr]
 refine gom ?_
 refine WC.pick [.blk b1 (.cells (wdC w CA NA PA cc nc pc) 162 (0,0)), .blk b2 (.cells (prC p QA qc IA ic) 47 (0,0))] ?_
 refine WC.loop (X:=Nat×Gh) (fun x=>[(2, .pointer (some ⟨b1,0,none⟩)),(3, .pointer (some ⟨b2,0,none⟩)),(8, .slice TA l.length tc),(9, .int .i64 (x.1:Int))]) (fun x=>x.2) (fun _=>[.blk b1 (.cells (wdC w CA NA PA cc nc pc) 162 (0,0)), .blk b2 (.cells (prC p QA qc IA ic) 47 (0,0))])
  (fun x=>l.length - x.1) (fun x=>x.1≤l.length∧G2.le x.2∧∀k:Nat,k<x.1→badAt w p l k=0) (0,G2) ⟨Nat.zero_le _,Gh.le_refl _,fun k h=>absurd h (Nat.not_lt_zero _)⟩ (by exact⟨rfl,rfl,rfl,rfl,trivial⟩) rfl (List.Sublist.refl _) fun x hx=>?_
 obtain⟨k,G3⟩:=x
 obtain⟨hk,hg3,hall2⟩:=hx
 dsimp only at hk hg3 hall2
 by_cases hlt2:k<l.length
 rotate_left
 ·have e3:decide ((k:Int)<(p.code.length:Int))=false:=decide_eq_false (by omega)
  rw[show wrongR w p l=(0,0)from firstR_none fun j hj=>hall2 j (by omega)]
  refine gom ?_
  refine WC.rt ?_
  exact QF.p2 (.inl rfl) rfl (.tmp rfl) (.tmp rfl) (⟨rfl,Gh.le_trans hg12 hg3,rfl⟩)
 have e3:decide ((k:Int)<(p.code.length:Int))=true:=decide_eq_true (by omega)
 obtain⟨s,hs⟩:∃s,l[k]? =some s:=⟨_,List.getElem?_eq_getElem hlt2⟩
 obtain⟨i,hi⟩:∃i,p.code[k]? =some i:=⟨_,List.getElem?_eq_getElem (by omega)⟩
 obtain⟨hi0,hiE⟩:=hpo.ins k i hi
 obtain⟨ic1,in1⟩:=i
 obtain⟨nn,rfl⟩:∃nn:Nat,in1=nn:=⟨in1.toNat,by dsimp only at hi0;omega⟩
 dsimp only at hiE
 rw[Int.toNat_natCast]at hiE
 have hws:=hcl.wf s (List.mem_of_getElem? hs)
 have hloc:=hpo.loc
 have hvs:s.vars.length≤1000:=by
  cases hr:s.reached with
  | false=>rw[hws.bare hr];simp
  | true=>rw[hws.vars hr];omega
 have hks:=hws.high
 obtain⟨sb,so,scs,rfl,hsk,hsc⟩:=(hT.mono hg3) k s hs
 obtain⟨VA,vc,SA,sc,rfl,hS⟩:=Kd.rs_rep hsk
 have x0:(0:Int)≤(k:Int):=by omega
 have x1:(k:Int)<(l.length:Int):=by omega
 have x2:=wrapS k (by omega)
 have hmf:=rmet_fn G3 w p CA NA PA cc nc pc (hW.mono (Gh.le_trans hg12 hg3)) QA IA qc ic (hI.mono (Gh.le_trans hg12 hg3)) (by omega) s VA vc SA sc hS (by omega) (by omega) k (by omega) ic1 nn hi (fun hr=>by rw[hws.vars hr];exact hiE)
 have hba:badAt w p l k=(if s.reached=true then metR w p k (ic1,(nn:Int)) s else 0):=by unfold badAt;rw[hs,hi]
 rw[←hba]at hmf
 refine gom ?_
 refine WQ.one kr kr (OW.callK rfl (hmf) rfl fun v' G' H' h hg=>?_)
 obtain⟨he,hg4,rfl⟩:=h
 cases he
 by_cases hb:badAt w p l k=0
 ·have e4:(badAt w p l k != 0)=false:=by simpa using hb
  refine gom ?_
  refine WK.pick [.blk b1 (.cells (wdC w CA NA PA cc nc pc) 162 (0,0)), .blk b2 (.cells (prC p QA qc IA ic) 47 (0,0))] ?_
  exact WK.again (k+1,_) (by dsimp only;omega) ⟨by dsimp only;omega,Gh.le_trans hg3 hg4,fun j hj=>by
   rcases Nat.lt_or_ge j k with h | h
   ·exact hall2 j h
   ·obtain rfl:j=k:=by dsimp only at hj;omega
    exact hb⟩ (by exact⟨rfl,rfl,rfl,rfl,trivial⟩) rfl (List.Sublist.refl _)
 ·have e4:(badAt w p l k != 0)=true:=by simpa using hb
  rw[show wrongR w p l=((k:Int),badAt w p l k)from firstR_at hlt2 hall2 hb]
  refine gom ?_
  refine WC.rt ?_
  exact QF.p2 (.inl rfl) rfl (.tmp rfl) (.tmp rfl) (⟨rfl,Gh.le_trans hg12 (Gh.le_trans hg3 hg4),rfl⟩)
end
end
section
open Go.MapKept
attribute [local irreducible] Tryz.prog
theorem RWp.ofO {G:Gh} {o:Ob} {CA NA PA:Option Addr} (hO:ORep G o CA NA PA) (hL:OLim o):RWp G o.wd CA NA PA:=
 ⟨hO.consts,hO.needs,hO.procs,hL.cl,hL.nl,hL.pl,fun q hq=>(hL.nd q hq).1,fun q hq=>(hL.pr q hq).1⟩
theorem procOut_new {w:Wd} {seen:List ByteArray} {p:Pr} (h:p.name∉seen):procOut w seen p=prOut w p:=by
 unfold procOut prOut
 by_cases hp:procR p=false
 ·rw[if_pos (.inl hp),if_pos hp]
 ·rw[if_neg (fun h'=>h'.elim hp h),if_neg hp]
section
variable (G:Gh) (o:Ob) (CA NA PA:Option Addr) (cc nc pc:Nat) (hO:ORep G o CA NA PA) (hL:OLim o)
include hO hL
set_option maxHeartbeats 4000000 in
theorem rObject_fn:Fn Tryz.prog 45 #[.agg (obC o CA NA PA cc nc pc)] G [] fun e G' H'=>e= .returned (.tuple #[.agg #[.int .i64 (objAns o).1, .int .i64 (objAns o).2.1], .int .i64 (objAns o).2.2])∧G.le G'∧H'=[]:=by
 have hcl:=hL.cl
 have hnl:=hL.nl
 have hpl:=hL.pl
 have hpath:=hL.path
 refine Fn.enter Tryz.func45 rfl rfl fun w0=>?_
 refine WC.seq ?_
 refine WC.region ?_
 refine WL.oo (OW.box rfl rfl fun b1=>?_)
 refine WL.oo (OW.alloc rfl fun b2=>?_)
 refine gom ?_
 refine WL.oo (OW.alloc rfl fun b4=>?_)
 refine gom ?_
 refine WL.oo (OW.callK rfl (rplace_fn G o.path (by omega)) rfl fun v' G' H' h hg=>?_)
 obtain⟨he,hg1,rfl⟩:=h
 cases he
 clear hg
 obtain⟨G1,rfl⟩:∃G1,G1=G':=⟨_,rfl⟩
 cases h1:fileR o.path with
 | false=>
  have hr:objAns o=(0,0,185):=by unfold objAns;rw[if_neg (by unfold objR;simp[h1])]
  rw[hr]
  refine gom ?_
  refine WC.rt ?_
  exact QF.p2 (.inl rfl) rfl (.cell rfl inferInstance inferInstance atA rfl rfl) (.tmp rfl) (⟨rfl,hg1,rfl⟩)
 | true=>
 cases h3:decide ((o.consts.length:Int)≤4096)with
 | false=>
  have y3:=dgt h3
  have d3:=of_decide_eq_false h3
  have hr:objAns o=(0,0,185):=by
   unfold objAns
   rw[if_neg]
   unfold objR
   rw[h3]
   simp
  rw[hr]
  refine gom ?_
  refine WC.rt ?_
  exact QF.p2 (.inl rfl) rfl (.cell rfl inferInstance inferInstance atA rfl rfl) (.tmp rfl) (⟨rfl,hg1,rfl⟩)
 | true=>
 have y3:=dgt h3
 cases h4:decide ((o.needs.length:Int)≤4096)with
 | false=>
  have y4:=dgt h4
  have d4:=of_decide_eq_false h4
  have hr:objAns o=(0,0,185):=by
   unfold objAns
   rw[if_neg]
   unfold objR
   rw[h4]
   simp
  rw[hr]
  refine gom ?_
  refine WC.rt ?_
  exact QF.p2 (.inl rfl) rfl (.cell rfl inferInstance inferInstance atA rfl rfl) (.tmp rfl) (⟨rfl,hg1,rfl⟩)
 | true=>
 have y4:=dgt h4
 cases h5:decide ((o.procs.length:Int)≤128)with
 | false=>
  have y5:=dgt h5
  have d5:=of_decide_eq_false h5
  have hr:objAns o=(0,0,185):=by
   unfold objAns
   rw[if_neg]
   unfold objR
   rw[h5]
   simp
  rw[hr]
  refine gom ?_
  refine WC.rt ?_
  exact QF.p2 (.inl rfl) rfl (.cell rfl inferInstance inferInstance atA rfl rfl) (.tmp rfl) (⟨rfl,hg1,rfl⟩)
 | true=>
 have y5:=dgt h5
 have d3:=of_decide_eq_true h3
 have d4:=of_decide_eq_true h4
 have d5:=of_decide_eq_true h5
 refine gom ?_
 refine WC.pick [.blk b1 (.cells (obC o CA NA PA cc nc pc) 38 (0,0)), .blk b2 (.cells #[.int .i64 0, .int .i64 0] 34 (0,0)), .blk b4 (.cells (wdC o.wd CA NA PA cc nc pc) 162 (0,0))] ?_
 refine WC.loop (X:=Nat×Gh) (fun x=>[(1, .pointer (some ⟨b1,0,none⟩)),(2, .pointer (some ⟨b2,0,none⟩)),(4, .pointer (some ⟨b4,0,none⟩)),(5, .int .i64 (x.1:Int))]) (fun x=>x.2) (fun _=>[.blk b1 (.cells (obC o CA NA PA cc nc pc) 38 (0,0)), .blk b2 (.cells #[.int .i64 0, .int .i64 0] 34 (0,0)), .blk b4 (.cells (wdC o.wd CA NA PA cc nc pc) 162 (0,0))]) (fun x=>o.consts.length - x.1)
  (fun x=>x.1≤o.consts.length∧G.le x.2∧∀j y,j<x.1→o.consts[j]? =some y→valueR y=true) (0,G1) ⟨Nat.zero_le _,hg1,fun j y h=>absurd h (Nat.not_lt_zero _)⟩ (by exact⟨rfl,rfl,rfl,rfl,trivial⟩) rfl (List.Sublist.refl _) fun x hx=>?_
 obtain⟨i,G2⟩:=x
 obtain⟨hi,hg2,hall⟩:=hx
 dsimp only at hi hg2 hall
 have x2:=wrapS i (by omega)
 by_cases hlt:i<o.consts.length
 ·have e2:decide ((i:Int)<(o.consts.length:Int))=true:=decide_eq_true (by omega)
  obtain⟨v,hv⟩:∃v,o.consts[i]? =some v:=⟨_,List.getElem?_eq_getElem hlt⟩
  obtain⟨b,ofs,cs,rfl,hk,hcs⟩:=(hO.mono hg2).consts i v hv
  obtain rfl:cs=vcells v:=hk
  have x0:(0:Int)≤(i:Int):=by omega
  have x1:(i:Int)<(o.consts.length:Int):=by omega
  refine gom ?_
  refine WL.oo (OW.callK rfl (rvalue_fn G2 v) rfl fun v' G' H' h hg=>?_)
  obtain⟨he,rfl,rfl⟩:=h
  cases he
  cases h2:valueR v with
  | true=>
   refine gom ?_
   refine WK.pick [.blk b1 (.cells (obC o (some ⟨b,ofs,none⟩) NA PA cc nc pc) 38 (0,0)), .blk b2 (.cells #[.int .i64 0, .int .i64 0] 34 (0,0)), .blk b4 (.cells (wdC o.wd (some ⟨b,ofs,none⟩) NA PA cc nc pc) 162 (0,0))] ?_
   exact WK.again (i+1,G2) (by dsimp only;omega) ⟨by dsimp only;omega,hg2,all_step hv hall h2⟩ (by exact⟨rfl,rfl,rfl,rfl,trivial⟩) rfl (List.Sublist.refl _)
  | false=>
   have hr:objAns o=(0,0,185):=by
    unfold objAns
    rw[if_neg]
    unfold objR
    rw[all_not hv h2]
    simp
   rw[hr]
   refine gom ?_
   refine WC.rt ?_
   exact QF.p2 (.inl rfl) rfl (.cell rfl inferInstance inferInstance atA rfl rfl) (.tmp rfl) (⟨rfl,hg2,rfl⟩)
 have e2:decide ((i:Int)<(o.consts.length:Int))=false:=decide_eq_false (by omega)
 have hvals:=all_of hall (by omega)
 refine gom ?_
 refine WC.pick [.blk b1 (.cells (obC o CA NA PA cc nc pc) 38 (0,0)), .blk b2 (.cells #[.int .i64 0, .int .i64 0] 34 (0,0)), .blk b4 (.cells (wdC o.wd CA NA PA cc nc pc) 162 (0,0))] ?_
 refine WC.loop (X:=Nat×Gh) (fun x=>[(1, .pointer (some ⟨b1,0,none⟩)),(2, .pointer (some ⟨b2,0,none⟩)),(4, .pointer (some ⟨b4,0,none⟩)),(6, .int .i64 (x.1:Int))]) (fun x=>x.2) (fun _=>[.blk b1 (.cells (obC o CA NA PA cc nc pc) 38 (0,0)), .blk b2 (.cells #[.int .i64 0, .int .i64 0] 34 (0,0)), .blk b4 (.cells (wdC o.wd CA NA PA cc nc pc) 162 (0,0))]) (fun x=>o.needs.length - x.1)
  (fun x=>x.1≤o.needs.length∧G.le x.2∧∀j y,j<x.1→o.needs[j]? =some y→needR y=true) (0,G2) ⟨Nat.zero_le _,hg2,fun j y h=>absurd h (Nat.not_lt_zero _)⟩ (by exact⟨rfl,rfl,rfl,rfl,trivial⟩) rfl (List.Sublist.refl _) fun x hx=>?_
 obtain⟨i,G3⟩:=x
 obtain⟨hi,hg3,hall⟩:=hx
 dsimp only at hi hg3 hall
 have x2:=wrapS i (by omega)
 by_cases hlt:i<o.needs.length
 ·have e2:decide ((i:Int)<(o.needs.length:Int))=true:=decide_eq_true (by omega)
  obtain⟨c,hc⟩:∃c,o.needs[i]? =some c:=⟨_,List.getElem?_eq_getElem hlt⟩
  obtain⟨hcp,hcf,hcn⟩:=hL.nd c (List.mem_of_getElem? hc)
  obtain⟨b,ofs,cs,rfl,hk,hcs⟩:=(hO.mono hg3).needs i c hc
  obtain⟨QA,qc,rfl,hQ⟩:=hk
  have x0:(0:Int)≤(i:Int):=by omega
  have x1:(i:Int)<(o.needs.length:Int):=by omega
  have hbad:needR c=false→objAns o=(0,0,185):=fun h=>by
   unfold objAns
   rw[if_neg]
   unfold objR
   rw[all_not hc h]
   simp
  refine gom ?_
  refine WL.oo (OW.alloc rfl fun b7=>?_)
  refine gom ?_
  refine WL.oo (OW.callK rfl (rplace_fn G3 c.path (by omega)) rfl fun v' G' H' h hg=>?_)
  obtain⟨he,hg4,rfl⟩:=h
  cases he
  clear hg
  obtain⟨G4,rfl⟩:∃G1,G1=G':=⟨_,rfl⟩
  have hg34:=Gh.le_trans hg3 hg4
  cases h6:fileR c.path with
  | false=>
   rw[hbad (by rw[needR,h6,Bool.false_and])]
   refine gom ?_
   refine WC.rt ?_
   exact QF.p2 (.inl rfl) rfl (.cell rfl inferInstance inferInstance atA rfl rfl) (.tmp rfl) (⟨rfl,hg34,rfl⟩)
  | true=>
  refine gom ?_
  refine WL.oo (OW.callK rfl (rWord_fn G4 c.name hcn) rfl fun v' G' H' h hg=>?_)
  obtain⟨he,hg5,rfl⟩:=h
  cases he
  clear hg
  obtain⟨G5,rfl⟩:∃G1,G1=G':=⟨_,rfl⟩
  have hg35:=Gh.le_trans hg34 hg5
  cases h7:wordR c.name with
  | false=>
   rw[hbad (by rw[needR,h6,h7];rfl)]
   refine gom ?_
   refine WC.rt ?_
   exact QF.p2 (.inl rfl) rfl (.cell rfl inferInstance inferInstance atA rfl rfl) (.tmp rfl) (⟨rfl,hg35,rfl⟩)
  | true=>
  refine gom ?_
  refine WL.oo (OW.callK rfl (rhead_fn G5 QA c.params qc c.result ((hQ.mono hg4).mono hg5) hcp) rfl fun v' G' H' h hg=>?_)
  obtain⟨he,rfl,rfl⟩:=h
  cases he
  cases h8:headR c.params c.result with
  | false=>
   rw[hbad (by rw[needR,h6,h7,h8];rfl)]
   refine gom ?_
   refine WC.rt ?_
   exact QF.p2 (.inl rfl) rfl (.cell rfl inferInstance inferInstance atA rfl rfl) (.tmp rfl) (⟨rfl,hg35,rfl⟩)
  | true=>
   refine gom ?_
   refine WK.pick [.blk b1 (.cells (obC o CA (some ⟨b,ofs,none⟩) PA cc nc pc) 38 (0,0)), .blk b2 (.cells #[.int .i64 0, .int .i64 0] 34 (0,0)), .blk b4 (.cells (wdC o.wd CA (some ⟨b,ofs,none⟩) PA cc nc pc) 162 (0,0))] ?_
   exact WK.again (i+1,G5) (by dsimp only;omega) ⟨by dsimp only;omega,hg35,all_step hc hall (by rw[needR,h6,h7,h8];rfl)⟩ (by exact⟨rfl,rfl,rfl,rfl,trivial⟩) rfl (List.Sublist.refl _)
 have e2:decide ((i:Int)<(o.needs.length:Int))=false:=decide_eq_false (by omega)
 have hneeds:=all_of hall (by omega)
 have hob:objAns o=allR o.wd:=by
  unfold objAns
  rw[if_pos (by unfold objR;rw[h1,hvals,h3,h4,h5,hneeds];rfl)]
 rw[hob]
 refine gom ?_
 refine WC.pick [.blk b1 (.cells (obC o CA NA PA cc nc pc) 38 (0,0)), .blk b2 (.cells #[.int .i64 0, .int .i64 0] 34 (0,0)), .blk b4 (.cells (wdC o.wd CA NA PA cc nc pc) 162 (0,0))] ?_
 refine WC.loop (X:=Nat×Gh) (fun x=>[(1, .pointer (some ⟨b1,0,none⟩)),(2, .pointer (some ⟨b2,0,none⟩)),(4, .pointer (some ⟨b4,0,none⟩)),(8, .int .i64 (x.1:Int))]) (fun x=>x.2) (fun _=>[.blk b1 (.cells (obC o CA NA PA cc nc pc) 38 (0,0)), .blk b2 (.cells #[.int .i64 0, .int .i64 0] 34 (0,0)), .blk b4 (.cells (wdC o.wd CA NA PA cc nc pc) 162 (0,0))]) (fun x=>o.procs.length - x.1)
  (fun x=>x.1≤o.procs.length∧G.le x.2∧okSoFar o.wd x.1) (0,G3) ⟨Nat.zero_le _,hg3,fun j h=>absurd h (Nat.not_lt_zero _)⟩ (by exact⟨rfl,rfl,rfl,rfl,trivial⟩) rfl (List.Sublist.refl _) fun x hx=>?_
 obtain⟨k,G4⟩:=x
 obtain⟨hk,hg4,hok⟩:=hx
 dsimp only at hk hg4 hok
 have x2:=wrapS k (by omega)
 by_cases hlt:k<o.procs.length
 rotate_left
 ·have e2:decide ((k:Int)<(o.procs.length:Int))=false:=decide_eq_false (by omega)
  rw[allR_none (w:=o.wd) fun j hj=>hok j (by have hj:j<o.procs.length:=hj;omega)]
  refine gom ?_
  refine WC.rt ?_
  exact QF.p2 (.inl rfl) rfl (.cell rfl inferInstance inferInstance atA rfl rfl) (.tmp rfl) (⟨rfl,hg4,rfl⟩)
 have e2:decide ((k:Int)<(o.procs.length:Int))=true:=decide_eq_true (by omega)
 obtain⟨p,hp⟩:∃p,o.procs[k]? =some p:=⟨_,List.getElem?_eq_getElem hlt⟩
 obtain⟨hpq,hpc,hpn⟩:=hL.pr p (List.mem_of_getElem? hp)
 have hO4:=hO.mono hg4
 obtain⟨b,ofs,cs,rfl,hks,hcs⟩:=hO4.procs k p hp
 obtain⟨QA,qc,IA,ic,rfl,hQ,hI⟩:=hks
 have x0:(0:Int)≤(k:Int):=by omega
 have x1:(k:Int)<(o.procs.length:Int):=by omega
 have hout:=outAt_eq (w:=o.wd) (k:=k) hp
 refine gom ?_
 refine WC.pick [.blk b1 (.cells (obC o CA NA (some ⟨b,ofs,none⟩) cc nc pc) 38 (0,0)), .blk b2 (.cells #[.int .i64 0, .int .i64 0] 34 (0,0)), .blk b4 (.cells (wdC o.wd CA NA (some ⟨b,ofs,none⟩) cc nc pc) 162 (0,0))] ?_
 refine WC.loop (X:=Nat) (fun j=>[(1, .pointer (some ⟨b1,0,none⟩)),(2, .pointer (some ⟨b2,0,none⟩)),(4, .pointer (some ⟨b4,0,none⟩)),(8, .int .i64 (k:Int)),(9, .int .i64 (j:Int))]) (fun _=>G4) (fun _=>[.blk b1 (.cells (obC o CA NA (some ⟨b,ofs,none⟩) cc nc pc) 38 (0,0)), .blk b2 (.cells #[.int .i64 0, .int .i64 0] 34 (0,0)), .blk b4 (.cells (wdC o.wd CA NA (some ⟨b,ofs,none⟩) cc nc pc) 162 (0,0))]) (fun j=>k - j)
  (fun j=>j≤k∧∀m q,m<j→o.procs[m]? =some q→q.name≠p.name) 0 ⟨Nat.zero_le _,fun m q h=>absurd h (Nat.not_lt_zero _)⟩ (by exact⟨rfl,rfl,rfl,rfl,rfl,trivial⟩) rfl (List.Sublist.refl _) fun j hj=>?_
 obtain⟨hj,hdis⟩:=hj
 by_cases hjk:j<k
 ·have y1:decide ((j:Int)<(k:Int))=true:=decide_eq_true (by omega)
  obtain⟨q,hq⟩:∃q,o.procs[j]? =some q:=⟨_,List.getElem?_eq_getElem (by omega)⟩
  obtain⟨b',ofs',cs',hbe,hks',hcs'⟩:=hO4.procs j q hq
  cases hbe
  obtain⟨QA',qc',IA',ic',rfl,_,_⟩:=hks'
  have z0:(0:Int)≤(j:Int):=by omega
  have z1:(j:Int)<(o.procs.length:Int):=by omega
  have z2:=wrapS j (by omega)
  cases hn:(q.name==p.name)with
  | true=>
   have hne:q.name=p.name:=by rw[bytes_beq]at hn;exact of_decide_eq_true hn
   have hin:p.name∈(o.wd.procs.take k).map (·.name):=by
    refine List.mem_map.2 ⟨q,?_,hne⟩
    refine List.mem_of_getElem? (i:=j) ?_
    rw[List.getElem?_take,if_pos hjk];exact hq
   have h0:outAt o.wd k=(0,185):=by rw[hout,procOut,if_pos (.inr hin)]
   have hr:allR o.wd=((k:Int),0,185):=by rw[allR_at (w:=o.wd) hlt hok (by rw[h0];decide),h0]
   rw[hr]
   refine gom ?_
   try rw[hn]
   refine gom ?_
   refine WC.rt ?_
   exact QF.p2 (.inl rfl) rfl (.cell rfl inferInstance inferInstance atA rfl rfl) (.tmp rfl) (⟨rfl,hg4,rfl⟩)
  | false=>
   refine gom ?_
   try rw[hn]
   refine gom ?_
   exact WK.again (j+1) (by omega) ⟨by omega,fun m q' hm hq'=>by
    rcases Nat.lt_or_ge m j with h | h
    ·exact hdis m q' h hq'
    ·obtain rfl:m=j:=by omega
     rw[hq]at hq';cases hq'
     rw[bytes_beq]at hn;exact of_decide_eq_false hn⟩ (by exact⟨rfl,rfl,rfl,rfl,rfl,trivial⟩) rfl (List.Sublist.refl _)
 have y1:decide ((j:Int)<(k:Int))=false:=decide_eq_false (by omega)
 have hnew:p.name∉(o.wd.procs.take k).map (·.name):=fun hm=>by
  obtain⟨q,hq,hqn⟩:=List.mem_map.1 hm
  obtain⟨m,hmq⟩:=List.getElem?_of_mem hq
  rw[List.getElem?_take]at hmq
  split at hmq
  ·exact hdis m q (by omega) hmq hqn
  ·cases hmq
 have hpo:outAt o.wd k=prOut o.wd p:=by rw[hout];exact procOut_new hnew
 have hpf:=rproc_fn G4 o.wd p CA NA (some ⟨b,ofs,none⟩) cc nc pc (RWp.ofO hO4 hL) QA IA qc ic hQ hI hpn hpq
 rw[←hpo]at hpf
 refine gom ?_
 refine WQ.one kr kr (OW.callK rfl (hpf) rfl fun v' G' H' h hg=>?_)
 obtain⟨he,hg5,rfl⟩:=h
 cases he
 clear hg
 obtain⟨G5,rfl⟩:∃G1,G1=G':=⟨_,rfl⟩
 by_cases hb:(outAt o.wd k).2=0
 ·have e4:((outAt o.wd k).2 != 0)=false:=by simpa using hb
  refine gom ?_
  refine WK.pick [.blk b1 (.cells (obC o CA NA (some ⟨b,ofs,none⟩) cc nc pc) 38 (0,0)), .blk b2 (.cells #[.int .i64 0, .int .i64 0] 34 (0,0)), .blk b4 (.cells (wdC o.wd CA NA (some ⟨b,ofs,none⟩) cc nc pc) 162 (0,0))] ?_
  exact WK.again (k+1,G5) (by dsimp only;omega) ⟨by dsimp only;omega,Gh.le_trans hg4 hg5,fun j hj=>by
   rcases Nat.lt_or_ge j k with h | h
   ·exact hok j h
   ·obtain rfl:j=k:=by dsimp only at hj;omega
    exact hb⟩ (by exact⟨rfl,rfl,rfl,rfl,trivial⟩) rfl (List.Sublist.refl _)
 ·have e4:((outAt o.wd k).2 != 0)=true:=by simpa using hb
  rw[allR_at (w:=o.wd) hlt hok hb]
  refine gom ?_
  refine WC.rt ?_
  exact QF.p2 (.inl rfl) rfl (.cell rfl inferInstance inferInstance atA rfl rfl) (.tmp rfl) (⟨rfl,Gh.le_trans hg4 hg5,rfl⟩)
end
end
section
open Go.MapKept
section
variable {P:Program} {Q:Exit→Act→World→Prop} {cx:Cx} {L:List (Nat×Value)} {G:Gh} {H:List Own} {K:List (Nat×Value)→Gh→List Own→Prop}
 {d:Option Tmp} {ty:TypeId} {pos:String} {af:Array Edge} {gu:Option (Nat×Bool)}
theorem OW.appendFull {t e sz by_:Nat} {z:Value} {x y:Operand} {A B:Option Addr} {n cap m cy j:Nat} {cs news:List Value} {o:Own} (hx:ev L x=some (.slice A n cap)) (hy:ev L y=some (.slice B m cy)) [hu:Und P t (.slice e)] [hi:Inf P e sz by_ z]
  (hz:z.cells.size=sz) (hs0:Nat.blt 0 sz=true) (ho:Rds G H A cs) (hcl:cs.length=n*sz) (hn0:0<n) (hj:At H j o) (hr:Rds G H B news) (hl:news.length=m*sz) (hm0:0<m) (hroom:cap<n+m)
  (hb:(n+m)*by_≤140737488355328) (h63:n+m≤9223372036854775807) (hd:dOk d cx.N=true)
  (k:∀A' cap' o',Vec e sz A' (n+m) cap' (cs++news) o'→K (putL d (.slice A' (n+m) cap') L) G (H.set j o')):
  OW P Q ⟨d, .call { callee:= .builtin .append,args:= #[x,y],argTypes:= #[t,t] },ty,pos,af,gu⟩ cx L G H K:=by
 have hsz:0<sz:=Nat.le_of_ble_eq_true hs0
 refine OW.gives hd fun a w st=>?_
 obtain⟨ie,hi1,hi2,hi3,hi4⟩:=hi.info
 have hu':=hu.h
 have hrun:∀v w',(Builtin.append_ #[t,t] ty #[.slice A n cap, .slice B m cy]).run P w= .ok v w'→(execOp a.eval ⟨d, .call { callee:= .builtin .append,args:= #[x,y],argTypes:= #[t,t] },ty,pos,af,gu⟩).run P w= .ok (.value v) w':=by
  intro v w' h
  simp only[execOp,resolve,invoke,builtin,Sem.run_bind,Sem.run_pure,Result.andThen_ok,List.map_toArray,List.map_cons,List.map_nil,st.eval hx,st.eval hy,h]
 obtain⟨bB,oB,rfl,hread⟩:∃b o,B=some ⟨b,o,none⟩∧∀w,Sat G H w→∀j v,news[j]? =some v→w.cell? ⟨b,o+j,none⟩=some v:=by
  rcases hr with h | h
  ·have hp:=Nat.mul_pos hm0 hsz
   rw[←hl,h]at hp
   simp at hp
  ·exact h
 obtain⟨bA,oA,rfl,hreadA⟩:∃b o,A=some ⟨b,o,none⟩∧∀w,Sat G H w→∀j v,cs[j]? =some v→w.cell? ⟨b,o+j,none⟩=some v:=by
  rcases ho with h | h
  ·have hp:=Nat.mul_pos hn0 hsz
   rw[←hcl,h]at hp
   simp at hp
  ·exact h
 have hnews:∀j u,news[j]? =some u→w.cell? ((⟨bB,oB,none⟩:Addr).add j)=some u:=fun j u e=>by rw[cell_add];exact hread w st.sat j u e
 have holds:∀j u,cs[j]? =some u→w.cell? ((⟨bA,oA,none⟩:Addr).add j)=some u:=fun j u e=>by rw[cell_add];exact hreadA w st.sat j u e
 have hl':news.length=m*ie.size:=by rw[hi3];exact hl
 have hr:=run_append_grow (P:=P) w t ty e ie z hu' hi1 hi2 ⟨bA,oA,none⟩ n cap cs (by rw[hi3];exact hcl) holds ⟨bB,oB,none⟩ m cy news hl' hnews (by omega) (by omega) (growslice_fits (by omega) (by rw[hi4];exact hb))
 have hg:=grownCap_ge w (n+m) cap e
 have hsw:=st.sat.swap hj (.cells (cs.toArray++news.toArray++Builtin.zeroCells z.cells (grownCap w (n+m) cap e - (n+m))) e) rfl
 refine⟨_,_,G,_, .inl (hrun _ _ hr),hsw.1,hsw.2,k _ _ _ ⟨by rw[List.length_append,hcl,hl,Nat.add_mul], .inr ⟨_,_,rfl,rfl,hg,?_,?_⟩⟩⟩
 ·simp only[Array.size_append,List.size_toArray,zeroCells_size hz,hl,hcl,←Nat.add_mul];congr 1;omega
 ·simp only[Array.toList_append]
  rw[show(n+m)*sz=(cs++news).length by rw[List.length_append,hcl,hl,Nat.add_mul]]
  exact List.take_left
theorem OW.appendM {x y:Operand} {A B:Option Addr} {l m:List Int} {c e:Nat} {p:Own} {i j:Nat} (hx:ev L x=some (.slice A l.length c)) (hy:ev L y=some (.slice B m.length e))
  (ho:Rds G H A (u8s l)) (hl0:0<l.length) (hj:At H j (.spare 0 0 0)) (hm:BVec B m e p) (hi:At H i p) (hm0:0<m.length) (hroom:c<l.length+m.length) (hb:l.length+m.length≤100000000000000) (hd:dOk d cx.N=true)
  (kk:∀A' c' o',BVec A' (l++m) c' o'→K (putL d (.slice A' (l++m).length c') L) G (H.set j o')):
  OW Tryz.prog Q ⟨d, .call { callee:= .builtin .append,args:= #[x,y],argTypes:= #[71,71] },ty,pos,af,gu⟩ cx L G H K:=
 OW.appendFull hx hy kr kr ho (u8s_length _) hl0 hj (hm.rds hi) (u8s_length _) hm0 hroom (by omega) (by omega) hd fun A' c' o' hv'=>by
  have:=kk A' c' o' (BVec.more hv')
  rw[List.length_append]at this
  exact this
end
end
section
open Go.MapKept
attribute [local irreducible] Tryz.prog bytesR preL valsI procsI ndI objAns
def preO (o:Ob) (k:Nat):List Int:=magI++txtI o.path++valsI o.consts++preL ndI o.needs k
set_option maxRecDepth 20000 in
set_option maxHeartbeats 4000000 in
theorem rObjBytes_fn (G:Gh) (o:Ob) (CA NA PA:Option Addr) (cc nc pc:Nat) (hO:ORep G o CA NA PA) (hL:OLim o) (hi:∀v∈o.consts, -9223372036854775808≤v.i∧v.i≤9223372036854775807) (hcl:o.consts.length≤1000000000) (hnl:o.needs.length≤1000000000) (hpl:o.procs.length≤1000000000)
  (hpc:∀p∈o.procs,p.code.length≤9000000000000) (hl:(objI o).length≤70000000000000):
  Fn Tryz.prog 28 #[.agg (obC o CA NA PA cc nc pc)] G [] fun e G' H'=>∃A' cap' x',e= .returned (.tuple #[.slice A' (bytesO o).length cap', .int .i64 (objAns o).2.2])∧G.le G'∧BVec A' (bytesO o) cap' x'∧H'=[x']:=by
 refine Fn.enter Tryz.func28 rfl rfl fun w0=>?_
 refine WC.seq ?_
 refine WC.region ?_
 refine WL.oo (OW.box rfl rfl fun b1=>?_)
 refine gom ?_
 refine WL.oo (OW.callK rfl (rObject_fn G o CA NA PA cc nc pc hO hL) rfl fun v' G' H' h hg=>?_)
 obtain⟨he,hg1,rfl⟩:=h
 cases he
 obtain⟨G1,rfl⟩:∃G1,G1=G':=⟨_,rfl⟩
 refine gom ?_
 refine WL.oo (OW.alloc rfl fun b4=>?_)
 refine gom ?_
 cases herr:decide ((objAns o).2.2=0)with
 | false=>
  have hne:=of_decide_eq_false herr
  have e1:((objAns o).2.2 != 0)=true:=by rw[bne_iff_ne];exact hne
  have e0:((objAns o).2.2==0)=false:=by rw[beq_eq_false_iff_ne];exact hne
  have hb:bytesO o=[]:=by rw[bytesO,if_neg hne]
  rw[hb]
  first | rw[e1] | rw[e0]
  refine gom ?_
  refine WC.nothing ?_
  refine WC.rt ?_
  exact QF.p2 (.inl rfl) rfl (.tmp rfl) (.tmp rfl) (⟨none,0,_,rfl,hg1,BVec.nil,rfl⟩)
 | true=>
 have heq:=of_decide_eq_true herr
 have e1:((objAns o).2.2 != 0)=false:=by rw[heq];rfl
 have hb:bytesO o=objI o:=by rw[bytesO,if_pos heq]
 rw[hb,heq]
 have hO1:=hO.mono hg1
 have hol:(objI o).length=3+(txtI o.path).length+(valsI o.consts).length+(uI o.needs.length).length+(o.needs.flatMap ndI).length+(procsI o.procs).length:=by simp only[objI,List.length_append];rfl
 have htx:(txtI o.path).length=(uintL o.path.size).length+o.path.size:=by rw[txtI,List.length_append,strI_length]
 have htp:0<(txtI o.path).length:=by
  rw[htx]
  unfold uintL
  split<;>simp<;>omega
 refine gom ?_
 refine WL.oo (OW.buildSliceN (cells:=[.int .u8 116, .int .u8 79, .int .u8 49]) rfl kr kr (by rfl) rfl fun mb hmb=>?_)
 refine WL.oo (OW.convMark rfl .here hmb rfl fun hgm=>?_)
 have hA:∀H,Rds (G1.add mb #[.int .u8 116, .int .u8 79, .int .u8 49]) H (some ⟨mb,0,none⟩) (u8s magI):=fun H=>Rds.cs fun i v e=>by rw[Nat.zero_add,Gh.add_at];simpa [u8s,magI]using e
 generalize hG2:G1.add mb #[.int .u8 116, .int .u8 79, .int .u8 49]=G2 at hA hgm⊢
 have hO2:=hO1.mono hgm
 have hg2:=Gh.le_trans hg1 hgm
 refine gom ?_
 refine WL.oo (OW.callK rfl (rText_fn G2 o.path (by omega)) rfl fun v' G' H' h hg=>?_)
 obtain⟨A2,c2,y2,he,rfl,g2,rfl⟩:=h
 cases he
 refine WL.nothing ?_
 refine WL.oo (OW.appendM (l:=magI) rfl rfl (hA _) (by decide) atA g2 atA htp (by show 3<3+_;omega) (by show 3+_≤_;omega) rfl fun A3 c3 o3 h3=>?_)
 have hmg:magI.length=3:=rfl
 refine gom ?_
 refine WL.oo (OW.callK rfl (rvalues_fn G2 CA o.consts cc hO2.consts hi hcl (by omega)) rfl fun v' G' H' h hg=>?_)
 obtain⟨A4,c4,y4,he,rfl,g4,rfl⟩:=h
 cases he
 refine WL.oo (OW.appendB rfl rfl h3 atA g4 atA (by simp only[List.length_append,List.length_cons,List.length_nil]at*;omega) rfl fun A5 c5 o5 h5=>?_)
 refine gom ?_
 refine WL.pp (Gp.convTo (r:=((o.needs.length:Nat):Int)) rfl (wrapU (by omega) (by omega))) ?_
 refine WL.oo (OW.callK rfl (rUint_fn G2 o.needs.length (by omega)) rfl fun v' G' H' h hg=>?_)
 obtain⟨A6,c6,y6,he,rfl,g6,rfl⟩:=h
 cases he
 rw[←uI_nat o.needs.length (by omega)]at g6⊢
 refine WL.oo (OW.appendB rfl rfl h5 atA g6 atA (by simp only[List.length_append,List.length_cons,List.length_nil]at*;omega) rfl fun A7 c7 o7 h7=>?_)
 have hp0:magI++txtI o.path++valsI o.consts++uI o.needs.length=preO o 0:=by unfold preO;rw[preL_zero]
 rw[hp0]at h7⊢
 refine gom ?_
 refine WC.loop (X:=BW) (fun s=>[(1, .pointer (some ⟨b1,0,none⟩)),(6, .slice s.A (preO o s.i).length s.c),(7, .int .i64 s.i)]) (fun _=>G2) (fun s=>[s.x, .blk b1 (.cells (obC o CA NA PA cc nc pc) 38 (0,0))]) (fun s=>o.needs.length - s.i) (fun s=>s.i≤o.needs.length∧BVec s.A (preO o s.i) s.c s.x) ⟨0,A7,c7,o7⟩ ⟨Nat.zero_le _,h7⟩ (by exact⟨rfl,rfl,rfl,trivial⟩) rfl (by exact(by repeat (first | exact List.Sublist.refl _ | exact List.nil_sublist _ | apply List.Sublist.cons_cons | apply List.Sublist.cons))) fun s hs=>?_
 obtain⟨k,B,c,x⟩:=s
 obtain⟨hk,hv⟩:=hs
 dsimp only at hk hv
 have x2:=wrapS k (by omega)
 by_cases hlt:k<o.needs.length
 rotate_left
 ·have e2:decide ((k:Int)<(o.needs.length:Int))=false:=decide_eq_false (by omega)
  obtain rfl:k=o.needs.length:=by omega
  have hpn:preO o o.needs.length++procsI o.procs=objI o:=by unfold preO objI;rw[preL_all];simp only[List.append_assoc]
  have hpnl:=congrArg List.length hpn
  rw[List.length_append]at hpnl
  refine gom ?_
  refine WL.oo (OW.callK rfl (rprocs_fn G2 PA o.procs pc hO2.procs hpl hpc (by omega)) rfl fun v' G' H' h hg=>?_)
  obtain⟨A8,c8,y8,he,rfl,g8,rfl⟩:=h
  cases he
  refine WL.oo (OW.appendB rfl rfl hv atA g8 atA (by dsimp only;omega) rfl fun A9 c9 o9 h9=>?_)
  rw[hpn]at h9⊢
  refine gom ?_
  refine WC.rt ?_
  exact QF.p2 (.inl rfl) rfl (.tmp rfl) (.tmp rfl) (⟨A9,c9,o9,rfl,hg2,h9,rfl⟩)
 have e2:decide ((k:Int)<(o.needs.length:Int))=true:=decide_eq_true (by omega)
 obtain⟨n,hn⟩:∃n,o.needs[k]? =some n:=⟨_,List.getElem?_eq_getElem hlt⟩
 obtain⟨ib,io,ics,rfl,hik,hic⟩:=hO2.needs k n hn
 obtain⟨QA,qc,rfl,hQ⟩:=hik
 have x0:(0:Int)≤(k:Int):=by omega
 have x1':(k:Int)<(o.needs.length:Int):=by omega
 have hple:=preL_len (f:=ndI) hn
 have hpo:(preO o k).length=3+(txtI o.path).length+(valsI o.consts).length+(preL ndI o.needs k).length:=by unfold preO;simp only[List.length_append];rfl
 have hen:preO o (k+1)=preO o k++ndI n:=by unfold preO;rw[preL_snoc hn,←List.append_assoc]
 have hni:ndI n=txtI n.path++txtI n.name++typI n.params n.result:=by unfold ndI headI typI;simp only[List.append_assoc]
 have hty:(typI n.params n.result).length=(uI n.params.length).length+n.params.length+1:=by unfold typI;rw[List.length_append,List.length_append,kinds_len];rfl
 have hxa:(txtI n.path).length=(uintL n.path.size).length+n.path.size:=by rw[txtI,List.length_append,strI_length]
 have hxb:(txtI n.name).length=(uintL n.name.size).length+n.name.size:=by rw[txtI,List.length_append,strI_length]
 have hnil:(ndI n).length=(txtI n.path).length+(txtI n.name).length+(typI n.params n.result).length:=by rw[hni];simp only[List.length_append]
 rw[hni]at hen
 simp only[←List.append_assoc]at hen
 refine gom ?_
 refine WL.oo (OW.alloc rfl fun b8=>?_)
 refine gom ?_
 refine WL.oo (OW.callK rfl (rText_fn G2 n.path (by omega)) rfl fun v' G' H' h hg=>?_)
 obtain⟨A8,c8,y8,he,rfl,g8,rfl⟩:=h
 cases he
 refine WL.oo (OW.appendB rfl rfl hv atA g8 atA (by dsimp only;omega) rfl fun A9 c9 o9 h9=>?_)
 refine gom ?_
 refine WL.oo (OW.callK rfl (rText_fn G2 n.name (by omega)) rfl fun v' G' H' h hg=>?_)
 obtain⟨Aa,ca,ya,he,rfl,ga,rfl⟩:=h
 cases he
 refine WL.oo (OW.appendB rfl rfl h9 atA ga atA (by simp only[List.length_append,List.length_cons,List.length_nil]at*;omega) rfl fun Ab cb ob hb'=>?_)
 refine gom ?_
 refine WL.oo (OW.callK rfl (rtypes_fn G2 QA n.params qc hQ n.result (by omega)) rfl fun v' G' H' h hg=>?_)
 obtain⟨Ac,cd,yc,he,rfl,gc,rfl⟩:=h
 cases he
 refine WL.oo (OW.appendB rfl rfl hb' atA gc atA (by simp only[List.length_append,List.length_cons,List.length_nil]at*;omega) rfl fun Ad ce od hd=>?_)
 rw[←hen]at hd⊢
 refine gom ?_
 refine WK.pick [od, .blk b1 (.cells (obC o CA (some ⟨ib,io,none⟩) PA cc nc pc) 38 (0,0))] ?_
 exact WK.again ⟨k+1,Ad,ce,od⟩ (by dsimp only;omega) ⟨by dsimp only;omega,hd⟩ (by exact⟨rfl,rfl,rfl,trivial⟩) rfl (List.Sublist.refl _)
end
section
def l2 (t:Int):List SS:=[⟨true,false,[],[]⟩,⟨true,false,[],[t]⟩]
section
variable {w:Wd} {p:Pr} {i0:Int×Int} {t:Int} (hc:p.code=[i0,(10,0)]) (hp:p.params=[]) (hl:p.locals=0) (hn:nextR i0 0=[1]) (hw:behR w i0 ⟨true,false,[],[]⟩=⟨true,false,[],[t]⟩)
include hc hp hl hn hw
theorem two_closed:Closed w p (l2 t) where
 len:=by rw[hc];rfl
 wf s hs:=by
  simp only[l2,List.mem_cons,List.not_mem_nil,or_false]at hs
  rcases hs with rfl | rfl<;>exact⟨fun h=>(by cases h),fun _=>by rw[hl];rfl,fun h=>(by cases h),by simp⟩
 zero s hs:=by
  obtain rfl:_=s:=Option.some.inj hs
  have:beginS p=⟨true,false,[],[]⟩:=by unfold beginS;rw[hp,hl];rfl
  rw[this]
  exact SS.le_refl _
 step k i s hi hs hr x hx j s' hj ht:=by
  rw[hc]at hi
  match k,hi,hs with
  | 0,hi,hs=>
   obtain rfl:_=i:=Option.some.inj hi
   obtain rfl:_=s:=Option.some.inj hs
   rw[hn]at hx
   have hx1:x=1:=by simpa using hx
   obtain rfl:j=1:=by omega
   obtain rfl:_=s':=Option.some.inj ht
   rw[hw];exact SS.le_refl _
  | 1,hi,hs=>
   obtain rfl:_=i:=Option.some.inj hi
   exact absurd hx (by simp[nextR])
  | k+2,hi,hs=>cases hs
theorem two_least:Least w p (l2 t) where
 closed:=two_closed hc hp hl hn hw
 low m hm:=by
  have hcl:=two_closed hc hp hl hn hw
  have hlen:m.length=2:=by rw[hm.len,hc];rfl
  obtain⟨m0,h0⟩:∃s,m[0]? =some s:=⟨_,List.getElem?_eq_getElem (by omega)⟩
  obtain⟨m1,h1⟩:∃s,m[1]? =some s:=⟨_,List.getElem?_eq_getElem (by omega)⟩
  have hbe:beginS p=⟨true,false,[],[]⟩:=by unfold beginS;rw[hp,hl];rfl
  have hb:(beginS p).le m0:=hm.zero m0 h0
  rw[hbe]at hb
  have hr:m0.reached=true:=(hb rfl).1
  have h2:=hm.step 0 i0 m0 (by rw[hc];rfl) h0 hr 1 (by rw[hn];simp) 1 m1 rfl h1
  have h3:(behR w i0 ⟨true,false,[],[]⟩).le (behR w i0 m0):=behR_mono (hcl.wf _ (List.mem_cons_self ..)) (hm.wf _ (List.mem_of_getElem? h0)) hb
  have h4:=SS.le_trans h3 h2
  intro k s s' hs ht
  match k,hs,ht with
  | 0,hs,ht=>
   obtain rfl:_=s:=Option.some.inj hs
   rw[h0]at ht
   obtain rfl:_=s':=Option.some.inj ht
   exact hb
  | 1,hs,ht=>
   obtain rfl:_=s:=Option.some.inj hs
   rw[h1]at ht
   obtain rfl:_=s':=Option.some.inj ht
   rw[hw]at h4;exact h4
  | k+2,hs,ht=>cases hs
end
def p1:Pr:=⟨⟨#[102]⟩,true,[],0,1,[(1,0),(10,0)]⟩
def o1:Ob:=⟨⟨#[97]⟩,[⟨1,7,false,⟨#[]⟩⟩],[],[p1]⟩
def p2:Pr:=⟨⟨#[109,97,105,110]⟩,true,[],0,1,[(8,0),(10,0)]⟩
def n2:Nd:=⟨⟨#[97]⟩,⟨#[102]⟩,[],1⟩
def o2:Ob:=⟨⟨#[98]⟩,[],[n2],[p2]⟩
theorem word_f':wordR ⟨#[102]⟩=true:=by decide+kernel
theorem word_main:wordR ⟨#[109,97,105,110]⟩=true:=by decide+kernel
theorem file_a':fileR ⟨#[97]⟩=true:=by decide+kernel
theorem file_b':fileR ⟨#[98]⟩=true:=by decide+kernel
theorem least_1:Least o1.wd p1 (l2 1):=two_least rfl rfl rfl (by decide+kernel) (by decide+kernel)
theorem least_2:Least o2.wd p2 (l2 1):=two_least rfl rfl rfl (by decide+kernel) (by decide+kernel)
theorem procR_1:procR p1=true:=by rw[procR,show p1.name=⟨#[102]⟩from rfl,word_f'];rfl
theorem procR_2:procR p2=true:=by rw[procR,show p2.name=⟨#[109,97,105,110]⟩from rfl,word_main];rfl
theorem objR_1:objR o1=true:=by rw[objR,show o1.path=⟨#[97]⟩from rfl,file_a'];decide+kernel
theorem needR_2:needR n2=true:=by rw[needR,show n2.path=⟨#[97]⟩from rfl,show n2.name=⟨#[102]⟩from rfl,file_a',word_f'];rfl
theorem objR_2:objR o2=true:=by rw[objR,show o2.path=⟨#[98]⟩from rfl,file_b',show o2.needs=[n2]from rfl,List.all_cons,needR_2];rfl
theorem out_1:outAt o1.wd 0=(0,0):=by
 rw[outAt_eq (p:=p1) rfl,procOut,if_neg (by rw[procR_1];simp),if_neg (by decide+kernel),least_1.flow]
 decide+kernel
theorem out_2:outAt o2.wd 0=(0,0):=by
 rw[outAt_eq (p:=p2) rfl,procOut,if_neg (by rw[procR_2];simp),if_neg (by decide+kernel),least_2.flow]
 decide+kernel
theorem ans_1:objAns o1=(0,0,0):=by
 rw[objAns,objR_1,if_pos rfl]
 exact allR_none fun j hj=>by
  obtain rfl:j=0:=by simp[o1,Ob.wd]at hj;exact hj
  rw[out_1]
theorem ans_2:objAns o2=(0,0,0):=by
 rw[objAns,objR_2,if_pos rfl]
 exact allR_none fun j hj=>by
  obtain rfl:j=0:=by simp[o2,Ob.wd]at hj;exact hj
  rw[out_2]
end
section
open Go.MapKept
attribute [local irreducible] Tryz.prog
theorem two_ins {G:Gh} {bi:Nat} {a:Int} (h:Cs G bi 0 [.int .i64 a, .int .i64 0, .int .i64 10, .int .i64 0]):Sl Kd.ins G (some ⟨bi,0,none⟩) [(a,0),(10,0)]:=
 KFl.sl (k:=Kd.ins) (l:=[(a,0)]++[(10,0)]) (by decide) ((KFl.one (cs:=[.int .i64 a, .int .i64 0]) rfl).append (KFl.one (cs:=[.int .i64 10, .int .i64 0]) rfl)) (.inr ⟨bi,rfl,h⟩)
theorem sl_none {α:Type} {k:Kd α} {G:Gh} :Sl k G none []:=fun i x hx=>by cases hx
theorem rep_1 {G:Gh} {bc bp bi:Nat} (h1:Cs G bc 0 (vcells ⟨1,7,false,⟨#[]⟩⟩)) (h2:Cs G bp 0 (prC p1 none 0 (some ⟨bi,0,none⟩) 2).toList) (h3:Cs G bi 0 [.int .i64 1, .int .i64 0, .int .i64 10, .int .i64 0]):ORep G o1 (some ⟨bc,0,none⟩) none (some ⟨bp,0,none⟩) where
 consts:=KFl.sl (k:=Kd.val) (by decide) (KFl.one (k:=Kd.val) (x:=⟨1,7,false,⟨#[]⟩⟩) rfl) (.inr ⟨bc,rfl,h1⟩)
 needs:=sl_none
 procs:=KFl.sl (k:=Kd.prc) (by decide) (KFl.one (k:=Kd.prc) (cs:=(prC p1 none 0 (some ⟨bi,0,none⟩) 2).toList) (x:=p1) ⟨none,0,some ⟨bi,0,none⟩,2,rfl,sl_none,two_ins h3⟩) (.inr ⟨bp,rfl,h2⟩)
theorem rep_2 {G:Gh} {bn bp bi:Nat} (h1:Cs G bn 0 [.string n2.path, .string n2.name, .slice none 0 0, .int .i64 1]) (h2:Cs G bp 0 (prC p2 none 0 (some ⟨bi,0,none⟩) 2).toList) (h3:Cs G bi 0 [.int .i64 8, .int .i64 0, .int .i64 10, .int .i64 0]):ORep G o2 none (some ⟨bn,0,none⟩) (some ⟨bp,0,none⟩) where
 consts:=sl_none
 needs:=KFl.sl (k:=Kd.ned) (by decide) (KFl.one (k:=Kd.ned) (x:=n2) (cs:=[.string n2.path, .string n2.name, .slice none 0 0, .int .i64 1]) ⟨none,0,rfl,sl_none⟩) (.inr ⟨bn,rfl,h1⟩)
 procs:=KFl.sl (k:=Kd.prc) (by decide) (KFl.one (k:=Kd.prc) (cs:=(prC p2 none 0 (some ⟨bi,0,none⟩) 2).toList) (x:=p2) ⟨none,0,some ⟨bi,0,none⟩,2,rfl,sl_none,two_ins h3⟩) (.inr ⟨bp,rfl,h2⟩)
theorem lawOne_fn (G:Gh):Fn Tryz.prog 20 #[] G [] fun e G' H'=>∃CA PA,e= .returned (.agg (obC o1 CA none PA 1 0 1))∧G.le G'∧ORep G' o1 CA none PA∧H'=[]:=by
 refine Fn.enter Tryz.func20 rfl rfl fun w0=>?_
 refine gom ?_
 refine WL.oo (OW.alloc rfl fun b0=>?_)
 refine gom ?_
 refine WL.op kr (OW.buildSlice rfl kr kr (by rfl) rfl fun b4=>?_)
 refine gom ?_
 refine WL.oo (OW.alloc rfl fun b1=>?_)
 refine gom ?_
 refine WL.op kr (OW.buildSlice rfl kr kr (by rfl) rfl fun b7=>?_)
 refine gom ?_
 refine WL.op kr (OW.buildSlice rfl kr kr (by rfl) rfl fun b9=>?_)
 refine gom ?_
 refine WC.freezeC .here rfl fun G1 hg1 h1=>?_
 refine WC.freezeC .here rfl fun G2 hg2 h2=>?_
 refine WC.freezeC (.there .here) rfl fun G3 hg3 h3=>?_
 refine WC.rt ?_
 exact QF.p1 (.inl rfl) rfl (.cell rfl inferInstance inferInstance atA rfl rfl) (⟨_,_,rfl,Gh.le_trans hg1 (Gh.le_trans hg2 hg3),rep_1 (h2.mono hg3) (h1.mono (Gh.le_trans hg2 hg3)) h3,rfl⟩)
theorem lawTwo_fn (G:Gh):Fn Tryz.prog 43 #[] G [] fun e G' H'=>∃NA PA,e= .returned (.agg (obC o2 none NA PA 0 1 1))∧G.le G'∧ORep G' o2 none NA PA∧H'=[]:=by
 refine Fn.enter Tryz.func43 rfl rfl fun w0=>?_
 refine gom ?_
 refine WL.oo (OW.alloc rfl fun b0=>?_)
 refine gom ?_
 refine WL.op kr (OW.buildSlice rfl kr kr (by rfl) rfl fun b4=>?_)
 refine gom ?_
 refine WL.oo (OW.alloc rfl fun b1=>?_)
 refine gom ?_
 refine WL.op kr (OW.buildSlice rfl kr kr (by rfl) rfl fun b7=>?_)
 refine gom ?_
 refine WL.op kr (OW.buildSlice rfl kr kr (by rfl) rfl fun b9=>?_)
 refine gom ?_
 refine WC.freezeC .here rfl fun G1 hg1 h1=>?_
 refine WC.freezeC .here rfl fun G2 hg2 h2=>?_
 refine WC.freezeC (.there .here) rfl fun G3 hg3 h3=>?_
 refine WC.rt ?_
 exact QF.p1 (.inl rfl) rfl (.cell rfl inferInstance inferInstance atA rfl rfl) (⟨_,_,rfl,Gh.le_trans hg1 (Gh.le_trans hg2 hg3),rep_2 (h2.mono hg3) (h1.mono (Gh.le_trans hg2 hg3)) h3,rfl⟩)
end
section
attribute [local irreducible] Tryz.prog
theorem wrap_small {x:Int} (h0: -1000000000000000≤x) (h1:x≤1000000000000000):IntKind.i64.wrap x=x:=by rw[IntKind.wrap_i64];omega
def halted (n:Int):Ending:= .panicked [{ v:= .iface 251 (.agg #[.int .i64 n]),recovered:=false }]
theorem stuck_fn (G:Gh):Fn Tryz.prog 209 #[] G [] fun e G' H'=>e=halted 6∧G=G'∧H'=[]:=by
 refine Fn.enter (vs:=[]) Tryz.func209 rfl rfl fun w0=>?_
 refine WC.region ?_
 refine zw.build ?_
 refine zw.iface ?_
 refine WL.oo (OW.panic rfl (QF.panic (List.Sublist.refl _) ⟨rfl,rfl,rfl⟩))
theorem need_ok (G:Gh):Fn Tryz.prog 193 #[.bool true] G [] fun e G' H'=>e= .returned (.tuple #[])∧G=G'∧H'=[]:=by
 refine Fn.enter Tryz.func193 rfl rfl fun w0=>?_
 refine WC.seq ?_
 refine WC.region ?_
 refine zw.move ?_
 refine zw.not ?_
 refine WL.nil ?_
 refine WK.un ?_
 refine WC.cond_false rfl ?_
 exact WC.skip (QF.ret0 (.inr rfl) rfl (List.Sublist.refl _) ⟨rfl,rfl,rfl⟩)
theorem need_no (G:Gh):Fn Tryz.prog 193 #[.bool false] G [] fun e G' H'=>e=halted 6∧G=G'∧H'=[]:=by
 refine Fn.enter Tryz.func193 rfl rfl fun w0=>?_
 refine WC.seq ?_
 refine WC.region ?_
 refine zw.move ?_
 refine zw.not ?_
 refine WL.nil ?_
 refine WK.un ?_
 refine WC.cond_true rfl ?_
 refine WC.region ?_
 refine WL.oo (OW.call rfl (F:=[]) (List.Perm.refl _) (stuck_fn G) rfl (fun v G' H' h _=>by cases h.1) (fun ch G' H' h _=>?_) (fun G' H' h=>by cases h.1))
 obtain⟨he,rfl,rfl⟩:=h
 cases he
 exact QF.panic (List.Sublist.refl _) ⟨rfl,rfl,rfl⟩
theorem pop_fn (G:Gh) (b:Nat) (A:Option Addr) (cap:Nat) (p a:Int) (B:Option Addr) (m cm:Nat) (l1 l2:List V) (x:Own) (hv:Vec 52 4 A (l1.length+l2.length) cap (vflat (l1++l2)) x) (hb:l1.length+l2.length≤1000000000):
  Fn Tryz.prog 212 #[.pointer (some ⟨b,0,none⟩), .int .i64 l2.length] G [.blk b (.cells (frC A (l1.length+l2.length) cap p a B m cm) 245 (0,0)),x]
   fun e G' H'=>∃A' cap' x',e= .returned (.slice A' l2.length cap')∧G=G'∧H'=[x', .blk b (.cells (frC A l1.length cap p a B m cm) 245 (0,0)),x]∧Vec 52 4 A' l2.length cap' (vflat l2) x'∧Vec 52 4 A l1.length cap (vflat l1) x:=by
 have e1:IntKind.i64.wrap (((l1.length+l2.length:Nat):Int) - (l2.length:Int))=(l1.length:Int):=by rw[wrap_small]<;>omega
 have hd:(vflat (l1++l2)).drop (l1.length*4)=vflat l2:=by rw[vflat_append,←vflat_length,List.drop_left]
 have ht:(vflat (l1++l2)).take (l1.length*4)=vflat l1:=by rw[vflat_append,←vflat_length,List.take_left]
 have hle:=hv.le
 have hv2:Vec 52 4 A l1.length cap (vflat l1) x:=ht▸hv.cut (m:=l1.length) (by omega)
 refine Fn.enter Tryz.func212 rfl rfl fun w0=>?_
 refine WC.seq ?_
 refine WC.region ?_
 refine zw.assign ?_
 refine WL.nil ?_
 refine WK.un ?_
 refine WC.seq ?_
 refine WC.region ?_
 refine zw.move ?_
 refine zw.nil ?_
 refine zw.fa ?_
 refine zw.ld ?_
 refine zw.len ?_
 refine zw.move ?_
 refine zw.sub ?_
 rw[e1]
 refine zw.assign ?_
 refine WL.nil ?_
 refine WK.un ?_
 refine WC.seq ?_
 refine WC.region ?_
 refine zw.move ?_
 refine zw.nil ?_
 refine zw.fa ?_
 refine zw.ld ?_
 refine zw.move ?_
 refine WL.pp (Gp.sliceFrom rfl rfl (by omega) (by omega)) ?_
 have hr:=hv.rdsFrom (G:=G) (H:=[.blk b (.cells (frC A (l1.length+l2.length) cap p a B m cm) 245 (0,0)),x]) (.there .here) (lo:=l1.length) (by omega)
 rw[hd]at hr
 simp only[Int.toNat_natCast,Nat.add_sub_cancel_left]
 refine WL.oo (OW.callR rfl (perm_all _) (clone_vals G _ _ _ _ _ hr (vflat_length _) (vflat_one _) (fun hA=>?_) (by omega)) rfl (by rintro e G' H' ⟨A',cap',x',h,_⟩;exact⟨_,h⟩) fun v G' H' h hg=>?_)
 ·split at hA
  ·omega
  ·rcases hv.2 with⟨h1,h2,_⟩ | ⟨b',c',h1,_⟩
   ·omega
   ·rw[h1]at hA;cases hA
 obtain⟨A',cap',x',he,rfl,rfl,hv'⟩:=h
 cases he
 refine zw.assign ?_
 refine WL.nil ?_
 refine WK.un ?_
 refine WC.seq ?_
 refine WC.region ?_
 refine zw.move ?_
 refine zw.move ?_
 refine zw.nil ?_
 refine zw.fa ?_
 refine zw.ld ?_
 refine zw.move ?_
 refine WL.pp (Gp.sliceTo rfl rfl (by omega) (by omega)) ?_
 refine zw.nil ?_
 refine zw.fa ?_
 refine zw.st ?_
 refine WL.nil ?_
 refine WK.un ?_
 refine WC.seq ?_
 refine WC.region ?_
 refine zw.move ?_
 refine zw.assign ?_
 refine WL.nil ?_
 refine WK.un ?_
 refine WC.ret ?_
 (refine WK.un ?_)
 exact QF.ret1 (.inl rfl) rfl (.tmp rfl) (List.Sublist.refl _) ⟨A',cap',x',rfl,rfl,rfl,hv',hv2⟩
end
section
attribute [local irreducible] Tryz.prog
def vOK (v:V):Bool:=if v.t=1 then !v.b&&v.s==⟨#[]⟩else if v.t=2 then v.i==0&&v.s==⟨#[]⟩else if v.t=3 then v.i==0&& !v.b&&decide ((v.s.size:Int)≤4096)else false
theorem value_fnQ (G:Gh) (v:V):Fn Tryz.prog 138 #[.agg #[.int .i64 v.t, .int .i64 v.i, .bool v.b, .string v.s]] G [] fun e G' H'=>e= .returned (.bool (vOK v))∧G=G'∧H'=[]:=by
 refine Fn.enter Tryz.func138 rfl rfl fun w0=>?_
 refine WC.seq ?_
 refine WC.region ?_
 refine WL.oo (OW.box rfl rfl fun b1=>?_)
 refine zw.assign ?_
 refine WL.nil ?_
 refine WK.un ?_
 refine WC.seq ?_
 refine WC.seq ?_
 refine WC.region ?_
 refine zw.fa ?_
 refine zw.ld ?_
 refine WL.nil ?_
 refine WK.un ?_
 refine WC.block ?_  -- 0
 refine WC.seq ?_
 refine WC.region ?_
 refine zw.eq ?_
 refine zw.assign ?_
 refine WL.nil ?_
 refine WK.un ?_
 refine WC.cond rfl (fun hc=>?_) (fun hc=>?_)
 ·-- yes
  have ht:v.t=1:=by simpa using hc
  refine WC.seq ?_
  refine WC.region ?_
  refine zw.fa ?_
  refine zw.ld ?_
  refine zw.not ?_
  refine zw.move ?_
  generalize hb:v.b=b
  cases b
  all_goals (first | refine WL.p (Gp.fieldAddr rfl) (by rfl) rfl ?_ | refine WL.skip (by rfl) rfl ?_)
  all_goals (first | (first | (refine WL.v (Gv.load1 rfl atA (by first | rfl | assumption)) (by rfl) rfl ?_) | (refine WL.v (Gv.loadN rfl atA (by rfl) (by rfl)) (by rfl) rfl ?_) | (refine WL.v (Gv.loadG1 rfl (by assumption) rfl) (by rfl) rfl ?_) | (refine WL.v (Gv.loadG0 rfl (by assumption) rfl) (by rfl) rfl ?_) | (refine WL.v (Gv.loadGN rfl (by assumption) rfl) (by rfl) rfl ?_)) | refine WL.skip (by rfl) rfl ?_)
  all_goals (first | (first | refine WL.p (Gp.eqI rfl rfl) (by rfl) rfl ?_ | refine WL.p (Gp.eqS rfl rfl) (by rfl) rfl ?_ | refine WL.p (Gp.nilSl rfl) (by rfl) rfl ?_ | refine WL.p (Gp.eqB rfl rfl) (by rfl) rfl ?_) | refine WL.skip (by rfl) rfl ?_)
  all_goals (first | (first | refine WL.p (Gp.pickT rfl rfl) (by rfl) rfl ?_ | refine WL.p (Gp.pickF rfl rfl) (by rfl) rfl ?_) | refine WL.skip (by rfl) rfl ?_)
  all_goals (first | refine WL.p (Gp.assign rfl) (by rfl) rfl ?_ | refine WL.skip (by rfl) rfl ?_)
  all_goals refine WL.nil ?_
  all_goals (refine WK.un ?_)
  all_goals refine WC.ret ?_
  all_goals (refine WK.un ?_)
  all_goals exact QF.ret1 (.inl rfl) rfl (.tmp rfl) (List.nil_sublist _) ⟨by simp[vOK,ht,hb],rfl,rfl⟩
 ·-- no
  have ht1:¬v.t=1:=by simpa using hc
  refine WC.seq ?_
  refine WC.region ?_
  refine zw.eq ?_
  refine zw.assign ?_
  refine WL.nil ?_
  refine WK.un ?_
  refine WC.cond rfl (fun hc=>?_) (fun hc=>?_)
  ·-- yes
   have ht:v.t=2:=by simpa using hc
   refine WC.seq ?_
   refine WC.region ?_
   refine zw.fa ?_
   refine zw.ld ?_
   refine zw.eq ?_
   refine zw.move ?_
   generalize hb:(v.i==0)=b
   cases b
   all_goals (first | refine WL.p (Gp.fieldAddr rfl) (by rfl) rfl ?_ | refine WL.skip (by rfl) rfl ?_)
   all_goals (first | (first | (refine WL.v (Gv.load1 rfl atA (by first | rfl | assumption)) (by rfl) rfl ?_) | (refine WL.v (Gv.loadN rfl atA (by rfl) (by rfl)) (by rfl) rfl ?_) | (refine WL.v (Gv.loadG1 rfl (by assumption) rfl) (by rfl) rfl ?_) | (refine WL.v (Gv.loadG0 rfl (by assumption) rfl) (by rfl) rfl ?_) | (refine WL.v (Gv.loadGN rfl (by assumption) rfl) (by rfl) rfl ?_)) | refine WL.skip (by rfl) rfl ?_)
   all_goals (first | (first | refine WL.p (Gp.eqI rfl rfl) (by rfl) rfl ?_ | refine WL.p (Gp.eqS rfl rfl) (by rfl) rfl ?_ | refine WL.p (Gp.nilSl rfl) (by rfl) rfl ?_ | refine WL.p (Gp.eqB rfl rfl) (by rfl) rfl ?_) | refine WL.skip (by rfl) rfl ?_)
   all_goals (first | (first | refine WL.p (Gp.pickT rfl rfl) (by rfl) rfl ?_ | refine WL.p (Gp.pickF rfl rfl) (by rfl) rfl ?_) | refine WL.skip (by rfl) rfl ?_)
   all_goals (first | refine WL.p (Gp.assign rfl) (by rfl) rfl ?_ | refine WL.skip (by rfl) rfl ?_)
   all_goals refine WL.nil ?_
   all_goals (refine WK.un ?_)
   all_goals refine WC.ret ?_
   all_goals (refine WK.un ?_)
   all_goals exact QF.ret1 (.inl rfl) rfl (.tmp rfl) (List.nil_sublist _) ⟨by simp[vOK,ht,hb],rfl,rfl⟩
  ·-- no
   have ht2:¬v.t=2:=by simpa using hc
   refine WC.seq ?_
   refine WC.region ?_
   refine zw.eq ?_
   refine zw.assign ?_
   refine WL.nil ?_
   refine WK.un ?_
   refine WC.cond rfl (fun hc=>?_) (fun hc=>?_)
   ·-- yes
    have ht:v.t=3:=by simpa using hc
    refine WC.seq ?_
    refine WC.region ?_
    refine zw.fa ?_
    refine zw.ld ?_
    refine zw.eq ?_
    refine zw.move ?_
    generalize hb:(v.i==0)=b
    generalize hb':v.b=b'
    cases b<;>cases b'
    all_goals (first | refine WL.p (Gp.fieldAddr rfl) (by rfl) rfl ?_ | refine WL.skip (by rfl) rfl ?_)
    all_goals (first | (first | (refine WL.v (Gv.load1 rfl atA (by first | rfl | assumption)) (by rfl) rfl ?_) | (refine WL.v (Gv.loadN rfl atA (by rfl) (by rfl)) (by rfl) rfl ?_) | (refine WL.v (Gv.loadG1 rfl (by assumption) rfl) (by rfl) rfl ?_) | (refine WL.v (Gv.loadG0 rfl (by assumption) rfl) (by rfl) rfl ?_) | (refine WL.v (Gv.loadGN rfl (by assumption) rfl) (by rfl) rfl ?_)) | refine WL.skip (by rfl) rfl ?_)
    all_goals (first | refine WL.p (Gp.notB rfl) (by rfl) rfl ?_ | refine WL.skip (by rfl) rfl ?_)
    all_goals (first | (first | refine WL.p (Gp.pickT rfl rfl) (by rfl) rfl ?_ | refine WL.p (Gp.pickF rfl rfl) (by rfl) rfl ?_) | refine WL.skip (by rfl) rfl ?_)
    all_goals (first | refine WL.p (Gp.move rfl) (by rfl) rfl ?_ | refine WL.skip (by rfl) rfl ?_)
    all_goals (first | refine WL.p (Gp.fieldAddr rfl) (by rfl) rfl ?_ | refine WL.skip (by rfl) rfl ?_)
    all_goals (first | (first | (refine WL.v (Gv.load1 rfl atA (by first | rfl | assumption)) (by rfl) rfl ?_) | (refine WL.v (Gv.loadN rfl atA (by rfl) (by rfl)) (by rfl) rfl ?_) | (refine WL.v (Gv.loadG1 rfl (by assumption) rfl) (by rfl) rfl ?_) | (refine WL.v (Gv.loadG0 rfl (by assumption) rfl) (by rfl) rfl ?_) | (refine WL.v (Gv.loadGN rfl (by assumption) rfl) (by rfl) rfl ?_)) | refine WL.skip (by rfl) rfl ?_)
    all_goals (first | (first | refine WL.p (Gp.lenSl rfl) (by rfl) rfl ?_ | refine WL.p (Gp.lenS rfl) (by rfl) rfl ?_) | refine WL.skip (by rfl) rfl ?_)
    all_goals (first | (first | refine WL.p (Gp.leI rfl rfl) (by rfl) rfl ?_ | refine WL.p (Gp.leS rfl rfl) (by rfl) rfl ?_) | refine WL.skip (by rfl) rfl ?_)
    all_goals (first | (first | refine WL.p (Gp.pickT rfl rfl) (by rfl) rfl ?_ | refine WL.p (Gp.pickF rfl rfl) (by rfl) rfl ?_) | refine WL.skip (by rfl) rfl ?_)
    all_goals (first | refine WL.p (Gp.assign rfl) (by rfl) rfl ?_ | refine WL.skip (by rfl) rfl ?_)
    all_goals refine WL.nil ?_
    all_goals (refine WK.un ?_)
    all_goals refine WC.ret ?_
    all_goals (refine WK.un ?_)
    all_goals exact QF.ret1 (.inl rfl) rfl (.tmp rfl) (List.nil_sublist _) ⟨by simp[vOK,ht,hb,hb'],rfl,rfl⟩
   ·-- no
    have ht3:¬v.t=3:=by simpa using hc
    refine WC.skip ?_
    refine WK.un ?_
    refine WC.seq ?_
    refine WC.region ?_
    refine zw.assign ?_
    refine WL.nil ?_
    refine WK.un ?_
    refine WC.ret ?_
    (refine WK.un ?_)
    exact QF.ret1 (.inl rfl) rfl (.tmp rfl) (List.nil_sublist _) ⟨by simp[vOK,ht1,ht2,ht3],rfl,rfl⟩
end
section
attribute [local irreducible] Tryz.prog
def cmpI (a b:Int):Int:=if a<b then -1 else if b<a then 1 else 0
def cmpS (a b:ByteArray):Int:=if Op.bytesLess a.toList b.toList then -1 else if Op.bytesLess b.toList a.toList then 1 else 0
def reckonS (c a b:Int):Option Int:=
 if c=18 then some (IntKind.i64.wrap (a+b))else if c=19 then some (IntKind.i64.wrap (a - b))else if c=21 then some (IntKind.i64.wrap (a*b))
 else if c=22 then(if b=0 then none else some (IntKind.i64.wrap (a.tdiv b)))else if c=23 then(if b=0 then none else some (a.tmod b))else none
end
section
attribute [local irreducible] Tryz.prog
abbrev frB (b:Nat) (A:Option Addr) (n cap:Nat) (p a:Int) (B:Option Addr) (m cm:Nat):Own:= .blk b (.cells (frC A n cap p a B m cm) 245 (0,0))
abbrev VVec (A:Option Addr) (cap:Nat) (l:List V) (x:Own):Prop:=Vec 52 4 A l.length cap (vflat l) x
def Left (b:Nat) (H:List Own):Prop:=∃c:Array Value,c.size=4∧H=[.blk b (.cells c 245 (0,0))]
theorem Left.of (b:Nat) (A:Option Addr) (n cap:Nat) (p a:Int) (B:Option Addr) (m cm:Nat):Left b [frB b A n cap p a B m cm]:=⟨_,rfl,rfl⟩
theorem lay_ok (G:Gh) (mv:Value) (b:Nat) (A:Option Addr) (cap:Nat) (p a:Int) (B:Option Addr) (m cm:Nat) (l:List V) (x:Own) (v:V) (hv:VVec A cap l x) (hb:l.length<128):
  Fn Tryz.prog 194 #[mv, .pointer (some ⟨b,0,none⟩), .agg #[.int .i64 v.t, .int .i64 v.i, .bool v.b, .string v.s]] G [frB b A l.length cap p a B m cm,x]
   fun e G' H'=>∃A' cap' x',e= .returned (.tuple #[])∧G=G'∧H'=[frB b A' (l++[v]).length cap' p a B m cm,x']∧VVec A' cap' (l++[v]) x':=by
 refine Fn.enter Tryz.func194 rfl rfl fun w0=>?_
 refine WC.seq ?_
 refine WC.region ?_
 refine WL.oo (OW.box rfl rfl fun b1=>?_)
 refine WL.nil ?_
 refine WK.un ?_
 refine WC.seq ?_
 refine WC.region ?_
 refine zw.move ?_
 refine zw.nil ?_
 refine zw.fa ?_
 refine WL.oo (OW.callR rfl (perm_at (.there .here)) (high_fn G _ _ _ _ _ _ _ _ _) rfl (by rintro e G' H' ⟨h,_⟩;exact⟨_,h⟩) fun v' G' H' h hg=>?_)
 obtain⟨he,rfl,rfl⟩:=h
 cases he
 refine zw.lt ?_
 rw[show decide ((l.length:Int)<128)=true by simp;omega]
 refine WL.oo (OW.callR rfl (Hf:=[]) (List.Perm.refl _) (need_ok G) rfl (by rintro e G' H' ⟨h,_⟩;exact⟨_,h⟩) fun v' G' H' h hg=>?_)
 obtain⟨he,rfl,rfl⟩:=h
 cases he
 refine WL.nil ?_
 refine WK.un ?_
 refine WC.draw mixed ?_
 refine za.move 0 ?_
 refine za.nil 1 ?_
 refine za.fa 2 ?_
 refine za.ld 3 ?_
 refine WA.oo 4 rfl (OW.callR rfl (Hf:=[frB b A l.length cap p a B m cm,x]) (F:=[.blk b1 _]) (List.Perm.cons _ (List.Perm.swap _ _ _)) (push_fn G b A l.length cap p a B m cm (vflat l) x v hv (by omega)) rfl (by rintro e G' H' ⟨_,_,_,h,_⟩;exact⟨_,h⟩) fun v' G' H' h hg=>?_)
 obtain⟨A',cap',x',he,rfl,rfl,hv'⟩:=h
 cases he
 refine WA.done kr ?_
 refine WK.un ?_
 exact QF.ret0 (.inr rfl) rfl (H':=[frB b A' (l.length+1) cap' p a B m cm,x']) (by exact .cons_cons _ (.cons_cons _ (List.nil_sublist _))) ⟨A',cap',x',rfl,rfl,by simp,by
  have e1:vflat (l++[v])=vflat l++vcells v:=by rw[vflat_append];simp[vflat]
  have e2:(l++[v]).length=l.length+1:=by simp
  unfold VVec;rw[e1,e2];exact hv'⟩
theorem lay_no (G:Gh) (mv:Value) (b:Nat) (A:Option Addr) (n cap:Nat) (p a:Int) (B:Option Addr) (m cm:Nat) (vv:Value) (hb:128≤n):
  Fn Tryz.prog 194 #[mv, .pointer (some ⟨b,0,none⟩),vv] G [frB b A n cap p a B m cm]
   fun e G' H'=>e=halted 6∧G=G'∧Left b H':=by
 refine Fn.enter Tryz.func194 rfl rfl fun w0=>?_
 refine WC.seq ?_
 refine WC.region ?_
 refine WL.oo (OW.box rfl rfl fun b1=>?_)
 refine WL.nil ?_
 refine WK.un ?_
 refine WC.seq ?_
 refine WC.region ?_
 refine zw.move ?_
 refine zw.nil ?_
 refine zw.fa ?_
 refine WL.oo (OW.callR rfl (perm_at (.there .here)) (high_fn G _ _ _ _ _ _ _ _ _) rfl (by rintro e G' H' ⟨h,_⟩;exact⟨_,h⟩) fun v' G' H' h hg=>?_)
 obtain⟨he,rfl,rfl⟩:=h
 cases he
 refine zw.lt ?_
 rw[show decide ((n:Int)<128)=false by simp;omega]
 refine WL.oo (OW.call rfl (Hf:=[]) (List.Perm.refl _) (need_no G) rfl (fun v G' H' h _=>by cases h.1) (fun ch G' H' h _=>?_) (fun G' H' h=>by cases h.1))
 obtain⟨he,rfl,rfl⟩:=h
 cases he
 refine WK.un ?_
 exact QF.panic (H':=[frB b A n cap p a B m cm]) (by exact .cons_cons _ (List.nil_sublist _)) ⟨rfl,rfl,Left.of ..⟩
theorem take_ok (G:Gh) (mv:Value) (b:Nat) (A:Option Addr) (cap:Nat) (p a:Int) (B:Option Addr) (m cm:Nat) (l1 l2:List V) (x:Own) (hv:VVec A cap (l1++l2) x) (hb:l1.length+l2.length≤1000000000):
  Fn Tryz.prog 195 #[mv, .pointer (some ⟨b,0,none⟩), .int .i64 l2.length] G [frB b A (l1++l2).length cap p a B m cm,x]
   fun e G' H'=>∃A' cap' x',e= .returned (.slice A' l2.length cap')∧G=G'∧H'=[x',frB b A l1.length cap p a B m cm,x]∧VVec A' cap' l2 x'∧VVec A cap l1 x:=by
 have e0:(l1++l2).length=l1.length+l2.length:=List.length_append
 rw[e0]
 unfold VVec at hv
 rw[e0]at hv
 refine Fn.enter Tryz.func195 rfl rfl fun w0=>?_
 refine WC.seq ?_
 refine WC.region ?_
 refine zw.assign ?_
 refine WL.nil ?_
 refine WK.un ?_
 refine WC.seq ?_
 refine WC.region ?_
 refine zw.move ?_
 refine zw.nil ?_
 refine zw.fa ?_
 refine WL.oo (OW.callR rfl (perm_at .here) (high_fn G _ _ _ _ _ _ _ _ _) rfl (by rintro e G' H' ⟨h,_⟩;exact⟨_,h⟩) fun v' G' H' h hg=>?_)
 obtain⟨he,rfl,rfl⟩:=h
 cases he
 refine zw.move ?_
 refine zw.ge ?_
 rw[show decide ((l2.length:Int)≤((l1.length+l2.length:Nat):Int))=true by simp;omega]
 refine WL.oo (OW.callR rfl (Hf:=[]) (List.Perm.refl _) (need_ok G) rfl (by rintro e G' H' ⟨h,_⟩;exact⟨_,h⟩) fun v' G' H' h hg=>?_)
 obtain⟨he,rfl,rfl⟩:=h
 cases he
 refine WL.nil ?_
 refine WK.un ?_
 refine WC.seq ?_
 refine WC.region ?_
 refine zw.move ?_
 refine zw.nil ?_
 refine zw.fa ?_
 refine zw.move ?_
 refine WL.oo (OW.callR rfl (perm_all _) (pop_fn G b A cap p a B m cm l1 l2 x hv hb) rfl (by rintro e G' H' ⟨_,_,_,h,_⟩;exact⟨_,h⟩) fun v' G' H' h hg=>?_)
 obtain⟨A',cap',x',he,rfl,rfl,hv1,hv2⟩:=h
 cases he
 refine zw.assign ?_
 refine WL.nil ?_
 refine WK.un ?_
 refine WC.ret ?_
 (refine WK.un ?_)
 exact QF.ret1 (.inl rfl) rfl (.tmp rfl) (List.Sublist.refl _) ⟨A',cap',x',rfl,rfl,rfl,hv1,hv2⟩
theorem take_no (G:Gh) (mv:Value) (b:Nat) (A:Option Addr) (n cap:Nat) (p a:Int) (B:Option Addr) (m cm:Nat) (k:Int) (hb:(n:Int)<k):
  Fn Tryz.prog 195 #[mv, .pointer (some ⟨b,0,none⟩), .int .i64 k] G [frB b A n cap p a B m cm]
   fun e G' H'=>e=halted 6∧G=G'∧Left b H':=by
 refine Fn.enter Tryz.func195 rfl rfl fun w0=>?_
 refine WC.seq ?_
 refine WC.region ?_
 refine zw.assign ?_
 refine WL.nil ?_
 refine WK.un ?_
 refine WC.seq ?_
 refine WC.region ?_
 refine zw.move ?_
 refine zw.nil ?_
 refine zw.fa ?_
 refine WL.oo (OW.callR rfl (perm_at .here) (high_fn G _ _ _ _ _ _ _ _ _) rfl (by rintro e G' H' ⟨h,_⟩;exact⟨_,h⟩) fun v' G' H' h hg=>?_)
 obtain⟨he,rfl,rfl⟩:=h
 cases he
 refine zw.move ?_
 refine zw.ge ?_
 rw[show decide (k≤(n:Int))=false by simp;omega]
 refine WL.oo (OW.call rfl (Hf:=[]) (List.Perm.refl _) (need_no G) rfl (fun v G' H' h _=>by cases h.1) (fun ch G' H' h _=>?_) (fun G' H' h=>by cases h.1))
 obtain⟨he,rfl,rfl⟩:=h
 cases he
 refine WK.un ?_
 exact QF.panic (H':=[frB b A n cap p a B m cm]) (List.Sublist.refl _) ⟨rfl,rfl,Left.of ..⟩
end
section
attribute [local irreducible] Tryz.prog
theorem vflat_elem:∀(l:List V) (i:Nat) (v:V),l[i]? =some v→((vflat l).drop (i*4)).take 4=vcells v
 | [],i,v,h=>by simp at h
 | u::l,0,v,h=>by simp at h;subst h;simp[vflat,vcells]
 | u::l,i+1,v,h=>by
  have ih:=vflat_elem l i v (by simpa using h)
  have e:vflat (u::l)=vcells u++vflat l:=by simp[vflat]
  rw[e,List.drop_append,List.drop_eq_nil_of_le (by simp[vcells];omega),List.nil_append]
  rw[show(i+1)*4 - (vcells u).length=i*4 by simp[vcells];omega]
  exact ih
theorem take_drop_of_take {α:Type} (c l:List α) (n i k:Nat) (h:c.take n=l) (hk:i+k≤n):(c.drop i).take k=(l.drop i).take k:=by
 subst h
 apply List.ext_getElem?
 intro j
 simp only[List.getElem?_take,List.getElem?_drop]
 by_cases hj:j<k
 ·simp[hj,show i+j<n by omega]
 ·simp[hj]
theorem VVec.elem {A:Option Addr} {cap:Nat} {l:List V} {b:Nat} {c:Array Value} {i:Nat} {v:V} (hl:c.toList.take (l.length*4)=vflat l) (hi:l[i]? =some v):(c.toList.drop (0+((i:Nat):Int).toNat*4)).take 4=vcells v:=by
 have hlt:i<l.length:=(List.getElem?_eq_some_iff.1 hi).1
 rw[Int.toNat_natCast,Nat.zero_add,take_drop_of_take _ _ _ _ _ hl (by omega)]
 exact vflat_elem l i v hi
theorem typed_fnQ (G:Gh) (mv:Value) (b:Nat) (A:Option Addr) (cap:Nat) (p a:Int) (B:Option Addr) (m cm:Nat) (l1 l2:List V) (x:Own) (t:Int) (hv:VVec A cap (l1++l2) x) (hb:l1.length+l2.length≤1000000000):
  Fn Tryz.prog 196 #[mv, .pointer (some ⟨b,0,none⟩), .int .i64 l2.length, .int .i64 t] G [frB b A (l1++l2).length cap p a B m cm,x]
   fun e G' H'=>G=G'∧((∃A' cap' x',e= .returned (.slice A' l2.length cap')∧(∀v∈l2,v.t=t)∧H'=[x',frB b A l1.length cap p a B m cm,x]∧VVec A' cap' l2 x'∧VVec A cap l1 x)∨(e=halted 6∧(∃v∈l2,v.t≠t)∧Left b H')):=by
 refine Fn.enter Tryz.func196 rfl rfl fun w0=>?_
 refine WC.seq ?_
 refine WC.region ?_
 refine zw.assign ?_
 refine WL.nil ?_
 refine WK.un ?_
 refine WC.seq ?_
 refine WC.region ?_
 refine zw.move ?_
 refine zw.move ?_
 refine zw.move ?_
 refine WL.oo (OW.callR rfl (perm_all _) (take_ok G mv b A cap p a B m cm l1 l2 x hv hb) rfl (by rintro e G' H' ⟨_,_,_,h,_⟩;exact⟨_,h⟩) fun v' G' H' h hg=>?_)
 obtain⟨A',cap',x',he,rfl,rfl,hv1,hv2⟩:=h
 cases he
 refine zw.assign ?_
 refine WL.nil ?_
 refine WK.un ?_
 refine WC.seq ?_
 refine WC.seq ?_
 refine WC.region ?_
 refine zw.move ?_
 refine zw.len ?_
 refine zw.move ?_
 refine WL.nil ?_
 refine WK.un ?_
 refine WC.block ?_  -- 0
 refine WC.loop (X:=Nat) (fun i=>[(18, .int .i64 (i:Int)),(17, .int .i64 l2.length),(16, .slice A' l2.length cap'),(9, .slice A' l2.length cap'),(3, .int .i64 t)]) (fun _=>G) (fun _=>[x',frB b A l1.length cap p a B m cm,x]) (fun i=>l2.length - i) (fun i=>i≤l2.length∧∀j u,j<i→l2[j]? =some u→u.t=t) 0 ⟨Nat.zero_le _,fun j u h=>by omega⟩ (by exact⟨rfl,rfl,rfl,rfl,rfl,trivial⟩) rfl (List.Sublist.refl _) fun i hx=>?_
 obtain⟨hi,hall⟩:=hx
 refine WC.seq ?_
 refine WC.region ?_
 refine zw.lt ?_
 refine WL.nil ?_
 refine WK.un ?_
 refine WC.seq ?_
 refine WC.cond rfl (fun hc2=>?_) (fun hc2=>?_)
 ·-- yes
  have hlt:i<l2.length:=by have h:=hc2;simp at h;omega
  obtain⟨v,hvi⟩:∃v,l2[i]? =some v:=⟨_,List.getElem?_eq_getElem hlt⟩
  refine WC.skip ?_
  refine WK.un ?_
  refine WC.seq ?_
  refine WC.block ?_  -- 1
  refine WC.seq ?_
  refine WC.region ?_
  obtain⟨hl,⟨h1,h2,h3,h4⟩ | ⟨b',c,rfl,rfl,h1,h2,h3⟩⟩:=hv1
  ·omega
  refine zw.ix ?_
  refine WL.vv (Gv.loadN rfl .here (VVec.elem (A:=none) (cap:=0) (b:=0) h3 hvi) rfl) ?_
  refine WL.oo (OW.alloc rfl fun b3=>?_)
  refine zw.st ?_
  refine WL.nil ?_
  refine WK.un ?_
  refine WC.region ?_
  refine zw.fa ?_
  refine zw.ld ?_
  refine zw.move ?_
  refine zw.eq ?_
  by_cases ht:v.t=t
  ·rw [show(v.t==t)=true by simpa using ht]
   refine WL.oo (OW.callR rfl (Hf:=[]) (List.Perm.refl _) (need_ok G) rfl (by rintro e G' H' ⟨h,_⟩;exact⟨_,h⟩) fun v' G' H' h hg=>?_)
   obtain⟨he,rfl,rfl⟩:=h
   cases he
   refine WL.nil ?_
   refine WK.un ?_
   refine WC.region ?_
   refine zw.add ?_
   refine zw.move ?_
   refine WL.nil ?_
   refine WK.un ?_
   exact WK.again (i+1) (by omega) ⟨by omega,fun j u hj hu=>by
    rcases Nat.lt_or_ge j i with h | h
    ·exact hall j u h hu
    ·obtain rfl:j=i:=by omega
     rw[hvi]at hu;cases hu;exact ht⟩ (by refine⟨?_,rfl,rfl,rfl,rfl,trivial⟩;show some _=some _;rw[wrap_small (by omega) (by omega)];rfl) rfl (by exact .cons _ (List.Sublist.refl _))
  ·rw[show(v.t==t)=false by simpa using ht]
   refine WL.oo (OW.call rfl (Hf:=[]) (List.Perm.refl _) (need_no G) rfl (fun v G' H' h _=>by cases h.1) (fun ch G' H' h _=>?_) (fun G' H' h=>by cases h.1))
   obtain⟨he,rfl,rfl⟩:=h
   cases he
   refine WK.un ?_
   exact QF.panic (H':=[frB b A l1.length cap p a B m cm]) (by exact .cons _ (.cons _ (.cons_cons _ (List.nil_sublist _)))) ⟨rfl, .inr ⟨rfl,⟨v,List.mem_of_getElem? hvi,ht⟩,Left.of ..⟩⟩
 ·-- no
  have hge:i=l2.length:=by have h:=hc2;simp at h;omega
  refine WC.exit ?_
  refine WK.un ?_
  refine WC.seq ?_
  refine WC.region ?_
  refine zw.move ?_
  refine zw.assign ?_
  refine WL.nil ?_
  refine WK.un ?_
  refine WC.ret ?_
  (refine WK.un ?_)
  exact QF.ret1 (.inl rfl) rfl (.tmp rfl) (List.Sublist.refl _) ⟨rfl, .inl ⟨A',cap',x',rfl,fun v hvm=>by obtain⟨j,hj,rfl⟩:=List.getElem_of_mem hvm;exact hall j _ (by omega) (List.getElem?_eq_getElem hj),rfl,hv1,hv2⟩⟩
end
section
attribute [local irreducible] Tryz.prog
def ordN (u v:V):Int:=if cmpI u.i v.i=0 then cmpS u.s v.s else cmpI u.i v.i
def ordS (c:Int) (u v:V):Bool:=if c=14 then decide (ordN u v<0)else if c=15 then decide (ordN u v≤0)else if c=16 then decide (0<ordN u v)else decide (0≤ordN u v)
def ordOK (u v:V):Prop:=u.t=v.t∧(u.t=1∨u.t=3)
end
section
attribute [local irreducible] Tryz.prog
structure Pg where
 consts:List V
 procs:List Pr
abbrev mcC (c1 c2 c3:Value) (FA:Option Addr) (n cap:Nat) (en:Int) (v:V) (OA:Option Addr) (on ocap:Nat) (st:Int) (ed:Bool):Array Value:=
 #[c1,c2,c3, .slice FA n cap, .int .i64 en, .int .i64 v.t, .int .i64 v.i, .bool v.b, .string v.s, .slice OA on ocap, .int .i64 st, .bool ed]
abbrev mcB (mb:Nat) (c1 c2 c3:Value) (FA:Option Addr) (n cap:Nat) (en:Int) (v:V) (OA:Option Addr) (on ocap:Nat) (st:Int) (ed:Bool):Own:= .blk mb (.cells (mcC c1 c2 c3 FA n cap en v OA on ocap st ed) 160 (0,0))
def ptrs (bs:List Nat):List Value:=bs.map fun b=> .pointer (some ⟨b,0,none⟩)
abbrev PVec (A:Option Addr) (cap:Nat) (bs:List Nat) (x:Own):Prop:=Vec 241 1 A bs.length cap (ptrs bs) x
def sizedP (p:Pr):Bool:=decide ((p.params.length:Int)≤p.locals)&&decide (p.locals≤64)
theorem sized_fn (G:Gh) (nm:ByteArray) (ex:Bool) (PA:Option Addr) (n pc:Nat) (lo re:Int) (cv:Value):
  Fn Tryz.prog 137 #[.agg #[.string nm, .bool ex, .slice PA n pc, .int .i64 lo, .int .i64 re,cv]] G [] fun e G' H'=>e= .returned (.bool (decide ((n:Int)≤lo)&&decide (lo≤64)))∧G=G'∧H'=[]:=by
 refine Fn.enter Tryz.func137 rfl rfl fun w0=>?_
 refine WC.seq ?_
 refine WC.region ?_
 refine WL.oo (OW.box rfl rfl fun b1=>?_)
 refine zw.assign ?_
 refine WL.nil ?_
 refine WK.un ?_
 refine WC.seq ?_
 refine WC.region ?_
 refine zw.fa ?_
 refine zw.ld ?_
 refine zw.fa ?_
 refine zw.ld ?_
 refine zw.len ?_
 refine zw.ge ?_
 refine zw.move ?_
 generalize hb:decide ((n:Int)≤lo)=b
 cases b
 all_goals (first | refine WL.p (Gp.fieldAddr rfl) (by rfl) rfl ?_ | refine WL.skip (by rfl) rfl ?_)
 all_goals (first | (first | (refine WL.v (Gv.load1 rfl atA (by first | rfl | assumption)) (by rfl) rfl ?_) | (refine WL.v (Gv.loadN rfl atA (by rfl) (by rfl)) (by rfl) rfl ?_) | (refine WL.v (Gv.loadG1 rfl (by assumption) rfl) (by rfl) rfl ?_) | (refine WL.v (Gv.loadG0 rfl (by assumption) rfl) (by rfl) rfl ?_) | (refine WL.v (Gv.loadGN rfl (by assumption) rfl) (by rfl) rfl ?_)) | refine WL.skip (by rfl) rfl ?_)
 all_goals (first | (first | refine WL.p (Gp.leI rfl rfl) (by rfl) rfl ?_ | refine WL.p (Gp.leS rfl rfl) (by rfl) rfl ?_) | refine WL.skip (by rfl) rfl ?_)
 all_goals (first | (first | refine WL.p (Gp.pickT rfl rfl) (by rfl) rfl ?_ | refine WL.p (Gp.pickF rfl rfl) (by rfl) rfl ?_) | refine WL.skip (by rfl) rfl ?_)
 all_goals (first | refine WL.p (Gp.assign rfl) (by rfl) rfl ?_ | refine WL.skip (by rfl) rfl ?_)
 all_goals refine WL.nil ?_
 all_goals (refine WK.un ?_)
 all_goals refine WC.ret ?_
 all_goals (refine WK.un ?_)
 all_goals exact QF.ret1 (.inl rfl) rfl (.tmp rfl) (List.nil_sublist _) ⟨by simp,rfl,rfl⟩
theorem top_fn (G:Gh) (mb:Nat) (c1 c2 c3:Value) (FA:Option Addr) (cap:Nat) (en:Int) (v:V) (OA:Option Addr) (on ocap:Nat) (st:Int) (ed:Bool) (bs:List Nat) (b:Nat) (x:Own)
  (hv:PVec FA cap (bs++[b]) x) (hb:bs.length≤1000000000):
  Fn Tryz.prog 164 #[.pointer (some ⟨mb,0,none⟩)] G [mcB mb c1 c2 c3 FA (bs++[b]).length cap en v OA on ocap st ed,x]
   fun e G' H'=>e= .returned (.pointer (some ⟨b,0,none⟩))∧G=G'∧H'=[mcB mb c1 c2 c3 FA (bs++[b]).length cap en v OA on ocap st ed,x]:=by
 have hlen:(bs++[b]).length=bs.length+1:=by simp
 have hz:IntKind.i64.wrap (((bs++[b]).length:Int) - 1)=(bs.length:Int):=by rw[hlen,wrap_small (by omega) (by omega)];omega
 obtain⟨hl,⟨h1,h2,h3,h4⟩ | ⟨b',c',rfl,rfl,h1,h2,h3⟩⟩:=id hv
 ·simp at h2
 refine Fn.enter Tryz.func164 rfl rfl fun w0=>?_
 refine WC.seq ?_
 refine WC.region ?_
 refine zw.assign ?_
 refine WL.nil ?_
 refine WK.un ?_
 refine WC.seq ?_
 refine WC.draw mixed ?_
 refine za.move 0 ?_
 refine za.nil 1 ?_
 refine za.fa 2 ?_
 refine za.move 4 ?_
 refine za.nil 5 ?_
 refine za.fa 6 ?_
 refine za.ld 7 ?_
 refine za.len 8 ?_
 refine WA.pp 9 rfl (Gp.sub' rfl rfl hz) ?_
 refine za.ld 3 ?_
 refine za.ix 10 ?_
 refine WA.vv 11 rfl (Gv.load1 rfl (.there .here) (by have h:=congrArg (fun l=>l[bs.length]?) h3;simp[ptrs,hlen]at h;simpa using h)) ?_
 refine za.assign 12 ?_
 refine WA.done kr ?_
 refine WK.un ?_
 refine WC.ret ?_
 (refine WK.un ?_)
 exact QF.ret1 (.inl rfl) rfl (.tmp rfl) (List.Sublist.refl _) ⟨rfl,rfl,rfl⟩
theorem copied_fnQ (G:Gh) (b:Nat) (A:Option Addr) (cap:Nat) (p a:Int) (B:Option Addr) (cm:Nat) (l m:List V) (x y:Own) (hx:VVec A cap l x) (hy:VVec B cm m y) (hl:l.length≤1000000000) (hm:m.length≤1000000000):
  Fn Tryz.prog 165 #[.pointer (some ⟨b,0,none⟩)] G [frB b A l.length cap p a B m.length cm,x,y]
   fun e G' H'=>∃A' cap' B' cm' x' y',e= .returned (.agg (frC A' l.length cap' p a B' m.length cm'))∧G=G'∧H'=[x',y',frB b A l.length cap p a B m.length cm,x,y]∧VVec A' cap' l x'∧VVec B' cm' m y':=by
 have none_zero:∀ {A:Option Addr} {cap:Nat} {l:List V} {x:Own},VVec A cap l x→A=none→l.length=0:=by
  rintro A cap l x ⟨_,⟨_,h,_⟩ | ⟨b,c,h,_⟩⟩ hA
  ·exact h
  ·rw[h]at hA;cases hA
 refine Fn.enter Tryz.func165 rfl rfl fun w0=>?_
 refine WC.seq ?_
 refine WC.region ?_
 refine WL.oo (OW.alloc rfl fun b2=>?_)
 refine WL.nil ?_
 refine WK.un ?_
 refine WC.seq ?_
 refine WC.region ?_
 refine zw.move ?_
 refine zw.nil ?_
 refine zw.ld ?_
 refine WL.oo (OW.alloc rfl fun b3=>?_)
 refine zw.st ?_
 refine WL.nil ?_
 refine WK.un ?_
 refine WC.seq ?_
 refine WC.region ?_
 refine zw.move ?_
 refine zw.nil ?_
 refine zw.fa ?_
 refine zw.fa ?_
 refine zw.ld ?_
 refine WL.oo (OW.callK rfl (clone_vals G [frB b A l.length cap p a B m.length cm,x] A l.length cap (vflat l) (hx.rds (.there .here)) (vflat_length l) (vflat_one l) (none_zero hx) (by omega)) rfl fun v' G' H' h hg=>?_)
 obtain⟨A',cap',x',he,rfl,rfl,hx'⟩:=h
 cases he
 refine zw.fa ?_
 refine zw.fa ?_
 refine zw.st ?_
 refine WL.nil ?_
 refine WK.un ?_
 refine WC.seq ?_
 refine WC.region ?_
 refine zw.move ?_
 refine zw.nil ?_
 refine zw.fa ?_
 refine zw.ld ?_
 refine WL.oo (OW.callK rfl (clone_vals G [frB b A l.length cap p a B m.length cm,y] B m.length cm (vflat m) (hy.rds (.there .here)) (vflat_length m) (vflat_one m) (none_zero hy) (by omega)) rfl fun v' G' H' h hg=>?_)
 obtain⟨B',cm',y',he,rfl,rfl,hy'⟩:=h
 cases he
 refine zw.fa ?_
 refine zw.st ?_
 refine WL.nil ?_
 refine WK.un ?_
 refine WC.seq ?_
 refine WC.region ?_
 refine zw.ld ?_
 refine zw.st ?_
 refine WL.nil ?_
 refine WK.un ?_
 refine WC.rt ?_
 exact QF.p1 (.inl rfl) rfl (.cell rfl inferInstance inferInstance atA rfl rfl) (⟨A',cap',B',cm',x',y',rfl,rfl,rfl,hx',hy'⟩)
end
section
attribute [local irreducible] Tryz.prog
def V0:V:=⟨0,0,false,⟨#[]⟩⟩
theorem repS_V0:∀n,repS n (vcells V0)=vflat (List.replicate n V0)
 | 0=>rfl
 | n+1=>by rw[repS,repS_V0 n,List.replicate_succ];simp[vflat]
def padded (args:List V) (lo:Int):List V:=args++List.replicate (lo.toNat - args.length) V0
theorem padded_length {args:List V} {lo:Int} (h:(args.length:Int)≤lo):(padded args lo).length=lo.toNat:=by simp[padded];omega
theorem enter_fn (G:Gh) (mb:Nat) (c1 c3:Value) (PA:Option Addr) (pn pc:Nat) (procs:List Pr) (FA:Option Addr) (cap:Nat) (en:Int) (v:V) (OA:Option Addr) (on ocap:Nat) (st:Int) (ed:Bool) (bs:List Nat) (x:Own)
  (i:Nat) (p:Pr) (hp:procs[i]? =some p) (hpn:pn=procs.length) (hG:Sl Kd.prc G PA procs) (hv:PVec FA cap bs x) (hb:bs.length≤1000000000)
  (AA:Option Addr) (ac:Nat) (args:List V) (Ha:List Own) (hr:Rds G Ha AA (vflat args)) (hla:(args.length:Int)≤p.locals) (hlo:p.locals≤64):
  Fn Tryz.prog 140 #[.pointer (some ⟨mb,0,none⟩), .int .i64 i, .slice AA args.length ac] G (mcB mb c1 (.slice PA pn pc) c3 FA bs.length cap en v OA on ocap st ed::x::Ha)
   fun e G' H'=>∃FA' cap' b VA x' y,e= .returned (.tuple #[])∧G=G'∧H'=mcB mb c1 (.slice PA pn pc) c3 FA' (bs++[b]).length cap' en v OA on ocap st ed::x'::frB b none 0 0 i 0 VA (padded args p.locals).length (padded args p.locals).length:: .spare 0 0 0::y::Ha∧PVec FA' cap' (bs++[b]) x'∧VVec VA (padded args p.locals).length (padded args p.locals) y:=by
 have hi:i<procs.length:=(List.getElem?_eq_some_iff.1 hp).1
 obtain⟨pb,po,cs,rfl,⟨QA,qc,CA,cc,rfl,_,_⟩,hcs⟩:=hG i p hp
 have hpl:=padded_length hla
 rw[hpl]
 refine Fn.enter Tryz.func140 rfl rfl fun w0=>?_
 refine WC.seq ?_
 refine WC.region ?_
 refine zw.move ?_
 refine zw.move ?_
 refine zw.nil ?_
 refine zw.fa ?_
 refine zw.fa ?_
 refine zw.ld ?_
 refine zw.move ?_
 refine zw.ix ?_
 refine zw.fa ?_
 refine WL.vv (Gv.loadG1 rfl hcs rfl) ?_
 refine WL.oo (OW.makeSlice rfl rfl (by rfl) (by omega) (by omega) (by omega) rfl fun vb y hy=>?_)
 refine zw.build ?_
 refine WL.oo (OW.box rfl rfl fun b4=>?_)
 refine zw.assign ?_
 refine WL.nil ?_
 refine WK.un ?_
 rw[show repS p.locals.toNat (Value.cells (.agg #[.int .i64 0, .int .i64 0, .bool false, .string ⟨#[]⟩])).toList=vflat (List.replicate p.locals.toNat V0)from repS_V0 _]at hy
 refine WC.seq ?_
 refine WC.region ?_
 refine zw.move ?_
 refine zw.nil ?_
 refine zw.fa ?_
 refine zw.ld ?_
 refine zw.move ?_
 refine WL.oo (OW.copy rfl rfl rfl hy (.there .here) ((hr.sub (by exact .cons _ (.cons _ (.cons _ (.cons _ (List.Sublist.refl _))))))) (vflat_length args) (vflat_one args) (by omega) rfl fun y' hy'=>?_)
 refine WL.nil ?_
 refine WK.un ?_
 have e1:vflat args++(vflat (List.replicate p.locals.toNat V0)).drop (args.length*4)=vflat (padded args p.locals):=by
  rw[padded,vflat_append]
  congr 1
  have h2:List.replicate p.locals.toNat V0=List.replicate args.length V0++List.replicate (p.locals.toNat - args.length) V0:=by rw[List.replicate_append_replicate];congr 1;omega
  rw[h2,vflat_append,show args.length*4=(vflat (List.replicate args.length V0)).length by rw[vflat_length];simp,List.drop_left]
 rw[e1]at hy'
 refine WC.region ?_
 refine zw.move ?_
 refine zw.move ?_
 refine zw.nil ?_
 refine zw.fa ?_
 refine zw.ld ?_
 refine zw.move ?_
 refine WL.op kr (OW.buildSlice rfl kr kr (by rfl) rfl fun b5=>?_)
 refine WL.oo (OW.append rfl rfl kr kr hv atA (Rds.blk0 (cs:=ptrs [b4]) .here rfl) rfl rfl (by omega) (by omega) rfl fun FA' cap' x' hx'=>?_)
 refine zw.nil ?_
 refine zw.fa ?_
 refine zw.st ?_
 refine WL.nil ?_
 refine WK.un ?_
 refine WK.nothing ?_
 have e2:(bs++[b4]).length=bs.length+1:=by simp
 have e3:ptrs (bs++[b4])=ptrs bs++ptrs [b4]:=by simp[ptrs]
 refine WK.un ?_
 exact QF.p0 (.inr rfl) rfl  (⟨FA',cap',b4,some ⟨vb,0,none⟩,x',y',rfl,rfl,by rw[e2],by unfold PVec;rw[e2,e3];exact hx',by unfold VVec;rw[hpl];exact hy'⟩)
end
section
attribute [local irreducible] Tryz.prog
def tys (l:List V):List Int:=l.map (·.t)
def callR (procs:List Pr) (l:List V) (n:Int) (depth:Nat):Except Int (Pr×List V×List V):=
 if n<0 then .error 6 else
 match procs[n.toNat]? with
 | none=> .error 6
 | some q=>
  if sizedP q=false then .error 6
  else if l.length<q.params.length then .error 6
  else if tys (l.drop (l.length - q.params.length))≠q.params then .error 6
  else if q.result≠0∧128≤l.length - q.params.length then .error 6
  else if 64≤depth then .error 4
  else .ok (q,l.take (l.length - q.params.length),l.drop (l.length - q.params.length))
theorem cut_list {α:Type} (l:List α) (k:Nat) (h:k≤l.length):∃l1 l2,l=l1++l2∧l2.length=k∧l.take (l.length - k)=l1∧l.drop (l.length - k)=l2:=
 ⟨_,_,(List.take_append_drop (l.length - k) l).symm,by simp;omega,rfl,rfl⟩
theorem call_fn (G:Gh) (mb:Nat) (c1 c3:Value) (PA:Option Addr) (pc:Nat) (procs:List Pr) (FA:Option Addr) (fcap:Nat) (en:Int) (v:V) (OA:Option Addr) (on ocap:Nat) (st:Int) (ed:Bool) (bs:List Nat) (fx:Own)
  (hG:Sl Kd.prc G PA procs) (hfv:PVec FA fcap bs fx) (hbs:bs.length≤1000000000)
  (b:Nat) (A:Option Addr) (cap:Nat) (p a:Int) (B:Option Addr) (m cm:Nat) (l:List V) (x:Own) (hv:VVec A cap l x) (hl:l.length≤1000000) (n:Int):
  Fn Tryz.prog 197 #[.pointer (some ⟨mb,0,none⟩), .pointer (some ⟨b,0,none⟩), .int .i64 n] G [mcB mb c1 (.slice PA procs.length pc) c3 FA bs.length fcap en v OA on ocap st ed,fx,frB b A l.length cap p a B m cm,x]
   fun e G' H'=>G=G'∧match callR procs l n bs.length with
    | .error k=>e=halted k∧∃H1,Left b H1∧H'=mcB mb c1 (.slice PA procs.length pc) c3 FA bs.length fcap en v OA on ocap st ed::fx::H1
    | .ok (q,r,args)=>∃FA' fcap' b' VA x' y,e= .returned (.tuple #[])∧H'=[mcB mb c1 (.slice PA procs.length pc) c3 FA' (bs++[b']).length fcap' en v OA on ocap st ed,x',frB b A r.length cap p a B m cm,x,frB b' none 0 0 n 0 VA (padded args q.locals).length (padded args q.locals).length, .spare 0 0 0,y]∧
      PVec FA' fcap' (bs++[b']) x'∧VVec VA (padded args q.locals).length (padded args q.locals) y∧VVec A cap r x:=by
 refine Fn.enter Tryz.func197 rfl rfl fun w0=>?_
 refine WC.seq ?_
 refine WC.region ?_
 refine zw.move ?_
 refine zw.ge ?_
 refine zw.move ?_
 by_cases hn0:n<0
 ·rw[show decide ((0:Int)≤n)=false by simpa using hn0]
  refine zw.skip ?_
  refine zw.skip ?_
  refine zw.skip ?_
  refine zw.skip ?_
  refine zw.skip ?_
  refine zw.skip ?_
  refine zw.skip ?_
  refine zw.skip ?_
  refine zw.pick ?_
  refine zw.move ?_
  refine zw.skip ?_
  refine zw.skip ?_
  refine zw.skip ?_
  refine zw.skip ?_
  refine zw.skip ?_
  refine zw.skip ?_
  refine zw.skip ?_
  refine zw.skip ?_
  refine zw.skip ?_
  refine zw.pick ?_
  refine WL.oo (OW.call rfl (Hf:=[]) (List.Perm.refl _) (need_no _) rfl (fun v G' H' h _=>by cases h.1) (fun ch G' H' h _=>?_) (fun G' H' h=>by cases h.1))
  obtain⟨he,rfl,rfl⟩:=h
  cases he
  refine WK.un ?_
  exact QF.panicP (⟨rfl,by rw[callR,if_pos hn0];exact⟨rfl,_,Left.of b A l.length cap p a B m cm,rfl⟩⟩)
 obtain⟨i,rfl⟩:=Int.eq_ofNat_of_zero_le (Int.not_lt.1 hn0)
 rw[show decide ((0:Int)≤(i:Int))=true by simp]
 refine zw.move ?_
 refine zw.move ?_
 refine zw.nil ?_
 refine zw.fa ?_
 refine zw.fa ?_
 refine zw.ld ?_
 refine zw.len ?_
 refine zw.lt ?_
 by_cases hn1:i<procs.length
 rotate_left
 ·rw[show decide ((i:Int)<(procs.length:Int))=false by simp;omega]
  refine zw.pick ?_
  refine zw.move ?_
  refine zw.skip ?_
  refine zw.skip ?_
  refine zw.skip ?_
  refine zw.skip ?_
  refine zw.skip ?_
  refine zw.skip ?_
  refine zw.skip ?_
  refine zw.skip ?_
  refine zw.skip ?_
  refine zw.pick ?_
  refine WL.oo (OW.call rfl (Hf:=[]) (List.Perm.refl _) (need_no _) rfl (fun v G' H' h _=>by cases h.1) (fun ch G' H' h _=>?_) (fun G' H' h=>by cases h.1))
  obtain⟨he,rfl,rfl⟩:=h
  cases he
  refine WK.un ?_
  exact QF.panicP (⟨rfl,by rw[callR,if_neg hn0,Int.toNat_natCast,List.getElem?_eq_none (by omega)];exact⟨rfl,_,Left.of b A l.length cap p a B m cm,rfl⟩⟩)
 rw[show decide ((i:Int)<(procs.length:Int))=true by simp;omega]
 obtain⟨q,hq⟩:∃q,procs[i]? =some q:=⟨_,List.getElem?_eq_getElem hn1⟩
 obtain⟨pb,po,cs,rfl,⟨QA,qc,CA,cc,rfl,hQ,hC⟩,hcs⟩:=hG i q hq
 have hcR:callR procs l (i:Int) bs.length=if sizedP q=false then .error 6 else if l.length<q.params.length then .error 6 else if tys (l.drop (l.length - q.params.length))≠q.params then .error 6 else if q.result≠0∧128≤l.length - q.params.length then .error 6 else if 64≤bs.length then .error 4 else .ok (q,l.take (l.length - q.params.length),l.drop (l.length - q.params.length)):=by
  rw[callR,if_neg hn0,Int.toNat_natCast,hq]
 rw[hcR]
 refine zw.pick ?_
 refine zw.move ?_
 refine zw.move ?_
 refine zw.nil ?_
 refine zw.fa ?_
 refine zw.fa ?_
 refine zw.ld ?_
 refine zw.move ?_
 refine zw.ix ?_
 refine WL.vv (Gv.loadGN rfl hcs rfl) ?_
 refine WL.oo (OW.callR rfl (Hf:=[]) (List.Perm.refl _) (sized_fn G q.name q.exp QA q.params.length qc q.locals q.result (.slice CA q.code.length cc)) rfl (by rintro e G' H' ⟨h,_⟩;exact⟨_,h⟩) fun v' G' H' h hg=>?_)
 obtain⟨he,rfl,rfl⟩:=h
 cases he
 refine zw.pick ?_
 by_cases hs:sizedP q=false
 ·rw[show(decide ((q.params.length:Int)≤q.locals)&&decide (q.locals≤64))=false from hs]
  refine WL.oo (OW.call rfl (Hf:=[]) (List.Perm.refl _) (need_no _) rfl (fun v G' H' h _=>by cases h.1) (fun ch G' H' h _=>?_) (fun G' H' h=>by cases h.1))
  obtain⟨he,rfl,rfl⟩:=h
  cases he
  refine WK.un ?_
  exact QF.panicP (⟨rfl,by rw[if_pos hs];exact⟨rfl,_,Left.of b A l.length cap p a B m cm,rfl⟩⟩)
 rw[show(decide ((q.params.length:Int)≤q.locals)&&decide (q.locals≤64))=true by have h:=hs;unfold sizedP at h;simpa using h]
 rw[if_neg hs]
 have hs':(q.params.length:Int)≤q.locals∧q.locals≤64:=by have h:=hs;unfold sizedP at h;simpa using h
 refine WL.oo (OW.callR rfl (Hf:=[]) (List.Perm.refl _) (need_ok G) rfl (by rintro e G' H' ⟨h,_⟩;exact⟨_,h⟩) fun v' G' H' h hg=>?_)
 obtain⟨he,rfl,rfl⟩:=h
 cases he
 refine WL.nil ?_
 refine WK.un ?_
 refine WC.seq ?_
 refine WC.region ?_
 refine zw.move ?_
 refine zw.nil ?_
 refine zw.fa ?_
 refine zw.fa ?_
 refine zw.ld ?_
 refine zw.move ?_
 refine zw.ix ?_
 refine WL.vv (Gv.loadGN rfl hcs rfl) ?_
 refine WL.oo (OW.alloc rfl fun b1=>?_)
 refine zw.st ?_
 refine WL.nil ?_
 refine WK.un ?_
 refine WC.seq ?_
 refine WC.region ?_
 refine zw.move ?_
 refine zw.move ?_
 refine zw.fa ?_
 refine zw.ld ?_
 refine zw.len ?_
 by_cases hk:l.length<q.params.length
 ·rw[if_pos hk]
  refine WL.oo (OW.call rfl (Pk.perm pkA) (take_no G _ b A l.length cap p a B m cm q.params.length (by omega)) rfl (fun v' G' H' h hg=>by cases h.1) (fun ch G' H' h hg=>?_) (fun G' H' h=>by repeat (first | (cases h.1;done) | (cases h;done) | (obtain⟨_,h⟩:=h) | (rcases h with h | h))))
  obtain⟨he,rfl,c,hc,rfl⟩:=h
  cases he
  refine WK.un ?_
  exact QF.panicP ⟨rfl,rfl,_,⟨c,hc,rfl⟩,rfl⟩ pkA
 rw[if_neg hk]
 obtain⟨l1,l2,rfl,hl2,ht,hd⟩:=cut_list l q.params.length (by omega)
 rw[ht,hd]
 have hl1:(l1++l2).length - q.params.length=l1.length:=by rw[←hl2];simp
 rw[hl1]
 rw[←hl2]
 refine WL.oo (OW.callK rfl (take_ok G _ b A cap p a B m cm l1 l2 x hv (by simp at hl;omega)) rfl fun v' G' H' h hg=>?_)
 obtain⟨A',cap',x',he,rfl,rfl,hv1,hv2⟩:=h
 cases he
 refine zw.assign ?_
 refine WL.nil ?_
 refine WK.un ?_
 refine WC.seq ?_
 refine WC.seq ?_
 refine WC.region ?_
 refine zw.move ?_
 refine zw.len ?_
 refine zw.move ?_
 refine WL.nil ?_
 refine WK.un ?_
 refine WC.block ?_  -- 0
 refine WC.pk (H':=[x',frB b A l1.length cap p a B m cm,x, .blk b1 (.cells #[.string q.name, .bool q.exp, .slice QA l2.length qc, .int .i64 q.locals, .int .i64 q.result, .slice CA q.code.length cc] 47 (0,0)),mcB mb c1 (.slice (some ⟨pb,po,none⟩) procs.length pc) c3 FA bs.length fcap en v OA on ocap st ed,fx]) pkA ?_
 refine WC.loop (X:=Nat) (fun j=>[(50, .int .i64 j),(49, .int .i64 l2.length),(48, .slice A' l2.length cap'),(7, .slice A' l2.length cap'),(6, .pointer (some ⟨b1,0,none⟩)),(0, .pointer (some ⟨mb,0,none⟩)),(1, .pointer (some ⟨b,0,none⟩)),(2, .int .i64 i)]) (fun j=>G) (fun j=>[x',frB b A l1.length cap p a B m cm,x, .blk b1 (.cells #[.string q.name, .bool q.exp, .slice QA l2.length qc, .int .i64 q.locals, .int .i64 q.result, .slice CA q.code.length cc] 47 (0,0)),mcB mb c1 (.slice (some ⟨pb,po,none⟩) procs.length pc) c3 FA bs.length fcap en v OA on ocap st ed,fx]) (fun j=>l2.length - j) (fun j=>j≤l2.length∧∀k (u:V) t,k<j→l2[k]? =some u→q.params[k]? =some t→u.t=t) 0 ⟨by omega,fun k u t h=>by omega⟩ (by exact⟨rfl,rfl,rfl,rfl,rfl,rfl,rfl,rfl,trivial⟩) rfl (List.Sublist.refl _) fun j hx=>?_
 obtain⟨hj,hall⟩:=hx
 refine WC.seq ?_
 refine WC.region ?_
 refine zw.lt ?_
 refine WL.nil ?_
 refine WK.un ?_
 refine WC.seq ?_
 refine WC.cond rfl (fun hc2=>?_) (fun hc2=>?_)
 ·-- yes
  have hlt:j<l2.length:=by have h:=hc2;simp at h;omega
  obtain⟨u,hu⟩:∃u,l2[j]? =some u:=⟨_,List.getElem?_eq_getElem hlt⟩
  obtain⟨t,ht⟩:∃t,q.params[j]? =some t:=⟨_,List.getElem?_eq_getElem (by omega)⟩
  obtain⟨qb,qo,cs,rfl,hK,hcsq⟩:=hQ j t ht
  obtain rfl:cs=[.int .i64 t]:=hK
  obtain⟨hlv,⟨h1,h2,h3,h4⟩ | ⟨b',c,rfl,rfl,h1,h2,h3⟩⟩:=hv1
  ·omega
  refine WC.skip ?_
  refine WK.un ?_
  refine WC.seq ?_
  refine WC.block ?_  -- 1
  refine WC.seq ?_
  refine WC.region ?_
  refine zw.move ?_
  refine zw.ix ?_
  refine WL.vv (Gv.loadN rfl .here (VVec.elem (A:=none) (cap:=0) (b:=0) h3 hu) rfl) ?_
  refine WL.oo (OW.alloc rfl fun b3=>?_)
  refine zw.assign ?_
  refine zw.st ?_
  refine WL.nil ?_
  refine WK.un ?_
  refine WC.draw mixed ?_
  refine za.fa 0 ?_
  refine za.ld 1 ?_
  refine za.fa 2 ?_
  refine za.ld 3 ?_
  refine za.move 4 ?_
  refine za.ix 5 ?_
  refine WA.vv 6 rfl (Gv.loadG0 rfl hcsq rfl) ?_
  refine za.eq 7 ?_
  by_cases htt:u.t=t
  ·rw [show(u.t==t)=true by simpa using htt]
   refine WA.oo 8 rfl (OW.callR rfl (Hf:=[]) (List.Perm.refl _) (need_ok G) rfl (by rintro e G' H' ⟨h,_⟩;exact⟨_,h⟩) fun v' G' H' h hg=>?_)
   obtain⟨he,rfl,rfl⟩:=h
   cases he
   refine WA.done kr ?_
   refine WK.un ?_
   refine WC.region ?_
   refine zw.add ?_
   refine zw.move ?_
   refine WL.nil ?_
   refine WK.un ?_
   exact WK.again (j+1) (by omega) ⟨by omega,fun k u' t' hk hu' ht'=>by
    rcases Nat.lt_or_ge k j with h | h
    ·exact hall k u' t' h hu' ht'
    ·obtain rfl:k=j:=by omega
     rw[hu]at hu';rw[ht]at ht';cases hu';cases ht';exact htt⟩ (by refine⟨?_,rfl,rfl,rfl,rfl,rfl,rfl,rfl,trivial⟩;show some _=some _;rw[wrap_small (by omega) (by simp at hl;omega)];rfl) rfl (by exact .cons _ (List.Sublist.refl _))
  ·rw[show(u.t==t)=false by simpa using htt]
   have hne:tys l2≠q.params:=fun h=>htt (by
    have h1:=congrArg (fun l=>l[j]?) h
    simp only[tys,List.getElem?_map,hu,ht,Option.map_some,Option.some.injEq]at h1
    exact h1)
   rw[if_pos hne]
   refine WA.oo 8 rfl (OW.call rfl (Hf:=[]) (List.Perm.refl _) (need_no _) rfl (fun v G' H' h _=>by cases h.1) (fun ch G' H' h _=>?_) (fun G' H' h=>by cases h.1))
   obtain⟨he,rfl,rfl⟩:=h
   cases he
   refine WK.un ?_
   exact QF.panicP (⟨rfl,rfl,_,Left.of b A l1.length cap p a B m cm,rfl⟩)
 ·-- no
  have hge:j=l2.length:=by have h:=hc2;simp at h;omega
  have heq:tys l2=q.params:=by
   apply List.ext_getElem?
   intro k
   rcases Nat.lt_or_ge k l2.length with hk' | hk'
   ·obtain⟨u,hu⟩:∃u,l2[k]? =some u:=⟨_,List.getElem?_eq_getElem hk'⟩
    obtain⟨t,ht⟩:∃t,q.params[k]? =some t:=⟨_,List.getElem?_eq_getElem (by omega)⟩
    rw[tys,List.getElem?_map,hu,ht,Option.map_some,hall k u t (by omega) hu ht]
   ·rw[List.getElem?_eq_none (by simpa [tys]using hk'),List.getElem?_eq_none (by omega)]
  rw[if_neg (show¬tys l2≠q.params from fun h=>h heq)]
  refine WC.exit ?_
  refine WK.un ?_
  refine WC.join (X:=Unit) (fun _=>[(7, .slice A' l2.length cap'),(0, .pointer (some ⟨mb,0,none⟩)),(1, .pointer (some ⟨b,0,none⟩)),(2, .int .i64 i)]) (fun _=>G) (fun _=>[x',frB b A l1.length cap p a B m cm,x,mcB mb c1 (.slice (some ⟨pb,po,none⟩) procs.length pc) c3 FA bs.length fcap en v OA on ocap st ed,fx]) (fun _=>¬(q.result≠0∧128≤l1.length)) ?_ fun _ hok=>?_
  ·refine WC.seq ?_
   refine WC.region ?_
   refine zw.fa ?_
   refine zw.ld ?_
   refine zw.ne ?_
   refine WL.nil ?_
   refine WK.un ?_
   refine WC.cond rfl (fun hc4=>?_) (fun hc4=>?_)
   ·-- yes
    have hr0:q.result≠0:=by simpa using hc4
    refine WC.region ?_
    refine zw.move ?_
    refine zw.nil ?_
    refine zw.fa ?_
    refine WL.oo (OW.callK rfl (high_fn G b A l1.length cap p a B m cm) rfl fun v' G' H' h hg=>?_)
    obtain⟨he,rfl,rfl⟩:=h
    cases he
    refine zw.lt ?_
    by_cases h128:128≤l1.length
    ·rw[show decide ((l1.length:Int)<128)=false by simp;omega]
     rw[if_pos ⟨hr0,h128⟩]
     refine WL.oo (OW.call rfl (Hf:=[]) (List.Perm.refl _) (need_no _) rfl (fun v G' H' h _=>by cases h.1) (fun ch G' H' h _=>?_) (fun G' H' h=>by cases h.1))
     obtain⟨he,rfl,rfl⟩:=h
     cases he
     refine WK.un ?_
     exact QF.panicP (⟨rfl,rfl,_,Left.of b A l1.length cap p a B m cm,rfl⟩)
    ·rw[show decide ((l1.length:Int)<128)=true by simp;omega]
     refine WL.oo (OW.callR rfl (Hf:=[]) (List.Perm.refl _) (need_ok G) rfl (by rintro e G' H' ⟨h,_⟩;exact⟨_,h⟩) fun v' G' H' h hg=>?_)
     obtain⟨he,rfl,rfl⟩:=h
     cases he
     refine WL.nil ?_
     refine WK.un ?_
     refine WK.pk (H':=[x',frB b A l1.length cap p a B m cm,x,mcB mb c1 (.slice (some ⟨pb,po,none⟩) procs.length pc) c3 FA bs.length fcap en v OA on ocap st ed,fx]) pkA ?_
     exact WK.meet () (fun h=>h128 h.2) (by exact⟨rfl,rfl,rfl,rfl,trivial⟩) rfl (List.Sublist.refl _)
   ·-- no
    have hr0:q.result=0:=by simpa using hc4
    refine WC.skip ?_
    refine WK.un ?_
    refine WK.pk (H':=[x',frB b A l1.length cap p a B m cm,x,mcB mb c1 (.slice (some ⟨pb,po,none⟩) procs.length pc) c3 FA bs.length fcap en v OA on ocap st ed,fx]) pkA ?_
    exact WK.meet () (fun h=>h.1 hr0) (by exact⟨rfl,rfl,rfl,rfl,trivial⟩) rfl (List.Sublist.refl _)
  rw[if_neg hok]
  refine WC.seq ?_
  refine WC.seq ?_
  refine WC.region ?_
  refine zw.move ?_
  refine zw.nil ?_
  refine zw.fa ?_
  refine zw.ld ?_
  refine zw.len ?_
  refine zw.ge ?_
  refine WL.nil ?_
  refine WK.un ?_
  refine WC.cond rfl (fun hc5=>?_) (fun hc5=>?_)
  ·-- yes
   have h64:64≤bs.length:=by have h:=hc5;simp at h;omega
   refine WC.region ?_
   refine zw.build ?_
   refine zw.iface ?_
   rw[if_pos h64]
   refine WL.oo (OW.panic rfl ?_)
   refine WK.un ?_
   exact QF.panicP ⟨rfl,rfl,_,Left.of b A l1.length cap p a B m cm,rfl⟩ pkA
  ·-- no
   have h64:¬64≤bs.length:=by have h:=hc5;simp at h;omega
   rw[if_neg h64]
   refine WC.skip ?_
   refine WK.un ?_
   refine WC.region ?_
   refine zw.move ?_
   refine zw.move ?_
   refine zw.move ?_
   refine WL.oo (OW.callK rfl (enter_fn G mb c1 c3 (some ⟨pb,po,none⟩) procs.length pc procs FA fcap en v OA on ocap st ed bs fx i q hq rfl hG hfv hbs A' cap' l2 [x'] (hv1.rds .here) (by omega) hs'.2) rfl fun v' G' H' h hg=>?_)
   obtain⟨FA',fcap',b',VA,x'',y,he,rfl,rfl,hx2,hy2⟩:=h
   cases he
   refine WL.nil ?_
   refine WK.un ?_
   exact QF.p0 (.inr rfl) rfl  (⟨rfl,FA',fcap',b',VA,x'',y,rfl,rfl,hx2,hy2,hv2⟩)
end
section
attribute [local irreducible] Tryz.prog
def lastV (v:V) (l:List V):V:=l.getLastD v
theorem lastV_take (v:V) (l:List V) (j:Nat) (u:V) (h:l[j]? =some u):lastV v (l.take (j+1))=u:=by
 rw[List.take_add_one,h];simp[lastV]
theorem PVec.cut1 {FA:Option Addr} {cap:Nat} {bs:List Nat} {b:Nat} {x:Own} (h:PVec FA cap (bs++[b]) x):PVec FA cap bs x:=by
 have e:(ptrs (bs++[b])).take (bs.length*1)=ptrs bs:=by simp[ptrs]
 have:=Vec.cut (m:=bs.length) h (by simp)
 rw[e]at this
 exact this
theorem leave_end (G:Gh) (mb:Nat) (c1 c2 c3:Value) (FA:Option Addr) (fcap:Nat) (en:Int) (v:V) (OA:Option Addr) (on ocap:Nat) (st:Int) (ed:Bool) (b:Nat) (fx:Own) (hfv:PVec FA fcap [b] fx)
  (LA:Option Addr) (lc:Nat) (l:List V) (Ha:List Own) (hr:Rds G Ha LA (vflat l)) (hll:l.length≤1000000):
  Fn Tryz.prog 213 #[.pointer (some ⟨mb,0,none⟩), .slice LA l.length lc] G (mcB mb c1 c2 c3 FA 1 fcap en v OA on ocap st ed::fx::Ha)
   fun e G' H'=>e= .returned (.tuple #[])∧G=G'∧H'=mcB mb c1 c2 c3 FA 0 fcap 1 (lastV v l) OA on ocap st true::fx::Ha∧PVec FA fcap [] fx:=by
 have hcap:=hfv.le
 have hcut:=PVec.cut1 (bs:=[]) hfv
 refine Fn.enter Tryz.func213 rfl rfl fun w0=>?_
 refine WC.seq ?_
 refine WC.draw mixed ?_
 refine za.move 0 ?_
 refine za.move 1 ?_
 refine za.nil 2 ?_
 refine za.fa 3 ?_
 refine za.move 5 ?_
 refine za.nil 6 ?_
 refine za.fa 7 ?_
 refine za.ld 8 ?_
 refine za.len 9 ?_
 refine za.sub 10 ?_
 refine za.ld 4 ?_
 rw[show IntKind.i64.wrap (((1:Nat):Int) - 1)=0 by decide]
 refine WA.pp 11 rfl (Gp.sliceTo rfl rfl (by omega) (by omega)) ?_
 refine za.nil 12 ?_
 refine za.fa 13 ?_
 refine za.st 14 ?_
 refine WA.done kr ?_
 refine WK.un ?_
 refine WC.seq ?_
 refine WC.seq ?_
 refine WC.region ?_
 refine zw.move ?_
 refine zw.nil ?_
 refine zw.fa ?_
 refine zw.ld ?_
 refine zw.len ?_
 refine zw.eq ?_
 refine WL.nil ?_
 refine WK.un ?_
 refine WC.cond_true rfl ?_
 refine WC.seq ?_
 refine WC.region ?_
 refine zw.move ?_
 refine zw.move ?_
 refine zw.nil ?_
 refine zw.fa ?_
 refine zw.st ?_
 refine zw.nil ?_
 refine zw.fa ?_
 refine zw.fa ?_
 refine zw.st ?_
 refine WL.nil ?_
 refine WK.un ?_
 refine WC.seq ?_
 refine WC.seq ?_
 refine WC.region ?_
 refine zw.move ?_
 refine zw.len ?_
 refine zw.move ?_
 refine WL.nil ?_
 refine WK.un ?_
 refine WC.block ?_  -- 0
 refine WC.pk (H':=mcB mb c1 c2 c3 FA 0 fcap 1 v OA on ocap st true::fx::Ha) pkA ?_
 refine WC.loop (X:=Nat) (fun j=>[(37, .int .i64 j),(36, .int .i64 l.length),(35, .slice LA l.length lc),(0, .pointer (some ⟨mb,0,none⟩))]) (fun j=>G) (fun j=>mcB mb c1 c2 c3 FA 0 fcap 1 (lastV v (l.take j)) OA on ocap st true::fx::Ha) (fun j=>l.length - j) (fun j=>j≤l.length) 0 (by omega) (by exact⟨rfl,rfl,rfl,rfl,trivial⟩) rfl (List.Sublist.refl _) fun j hj=>?_
 refine WC.seq ?_
 refine WC.region ?_
 refine zw.lt ?_
 refine WL.nil ?_
 refine WK.un ?_
 refine WC.seq ?_
 refine WC.cond rfl (fun hc8=>?_) (fun hc8=>?_)
 ·-- yes
  have hlt:j<l.length:=by have h:=hc8;simp at h;omega
  obtain⟨u,hu⟩:∃u,l[j]? =some u:=⟨_,List.getElem?_eq_getElem hlt⟩
  rcases hr with h0 | ⟨lb,lo,rfl,hread⟩
  ·have h:=congrArg List.length h0
   rw[vflat_length]at h;simp only[List.length_nil]at h;omega
  refine WC.skip ?_
  refine WK.un ?_
  refine WC.seq ?_
  refine WC.block ?_  -- 1
  refine WC.seq ?_
  refine WC.region ?_
  refine zw.ix ?_
  refine WL.vv (Gv.loadRN rfl hread (by repeat (first | exact List.Sublist.refl _ | exact List.nil_sublist _ | apply List.Sublist.cons)) (vflat_elem l j u hu) rfl) ?_
  refine WL.oo (OW.alloc rfl fun b9=>?_)
  refine zw.st ?_
  refine WL.nil ?_
  refine WK.un ?_
  refine WC.region ?_
  refine zw.move ?_
  refine zw.ld ?_
  refine zw.nil ?_
  refine zw.fa ?_
  refine zw.fa ?_
  refine zw.st ?_
  refine WL.nil ?_
  refine WK.un ?_
  refine WC.region ?_
  refine zw.add ?_
  refine zw.move ?_
  refine WL.nil ?_
  refine WK.un ?_
  refine WK.pk (H':=mcB mb c1 c2 c3 FA 0 fcap 1 u OA on ocap st true::fx::Ha) pkA ?_
  exact WK.again (j+1) (by omega) (show j+1≤l.length by omega) (by refine⟨?_,rfl,rfl,rfl,trivial⟩;show some _=some _;rw[wrap_small (by omega) (by omega)];rfl) rfl (by show List.Sublist (mcB mb c1 c2 c3 FA 0 fcap 1 (lastV v (l.take (j+1))) OA on ocap st true::_) _;rw[lastV_take v l j u hu];exact List.Sublist.refl _)
 ·-- no
  have hge:j=l.length:=by have h:=hc8;simp at h;omega
  subst hge
  rw[List.take_length]
  refine WC.exit ?_
  refine WK.un ?_
  refine WC.rt ?_
  exact QF.p0 (.inl rfl) rfl  (⟨rfl,rfl,rfl,hcut⟩)
theorem leave_go (G:Gh) (mb:Nat) (c1 c2 c3:Value) (FA:Option Addr) (fcap:Nat) (en:Int) (v:V) (OA:Option Addr) (on ocap:Nat) (st:Int) (ed:Bool) (bs:List Nat) (b0 b:Nat) (fx:Own) (hfv:PVec FA fcap (bs++[b0]++[b]) fx) (hbs:bs.length≤1000000)
  (A:Option Addr) (cap:Nat) (p a:Int) (B:Option Addr) (m cm:Nat) (l0:List V) (x:Own) (hv:VVec A cap l0 x)
  (LA:Option Addr) (lc:Nat) (l:List V) (Ha:List Own) (hr:Rds G Ha LA (vflat l)) (hll:l0.length+l.length≤1000000):
  Fn Tryz.prog 213 #[.pointer (some ⟨mb,0,none⟩), .slice LA l.length lc] G (mcB mb c1 c2 c3 FA (bs++[b0]++[b]).length fcap en v OA on ocap st ed::fx::frB b0 A l0.length cap p a B m cm::x::Ha)
   fun e G' H'=>∃A' cap' x',e= .returned (.tuple #[])∧G=G'∧H'=mcB mb c1 c2 c3 FA (bs++[b0]).length fcap en v OA on ocap st ed::fx::frB b0 A' (l0++l).length cap' p a B m cm::x'::Ha∧PVec FA fcap (bs++[b0]) fx∧VVec A' cap' (l0++l) x':=by
 have hcap:=hfv.le
 have hcut:=PVec.cut1 hfv
 have e0:(bs++[b0]++[b]).length=bs.length+2:=by simp
 have e1:(bs++[b0]).length=bs.length+1:=by simp
 rw[e0]at hcap
 refine Fn.enter Tryz.func213 rfl rfl fun w0=>?_
 refine WC.seq ?_
 refine WC.draw mixed ?_
 refine za.move 0 ?_
 refine za.move 1 ?_
 refine za.nil 2 ?_
 refine za.fa 3 ?_
 refine za.move 5 ?_
 refine za.nil 6 ?_
 refine za.fa 7 ?_
 refine za.ld 8 ?_
 refine za.len 9 ?_
 refine za.sub 10 ?_
 refine za.ld 4 ?_
 rw[show IntKind.i64.wrap (((bs++[b0]++[b]).length:Int) - 1)=((bs++[b0]).length:Int) by rw[e0,e1,wrap_small (by omega) (by omega)];omega]
 refine WA.pp 11 rfl (Gp.sliceTo rfl rfl (by omega) (by omega)) ?_
 rw[Int.toNat_natCast]
 refine za.nil 12 ?_
 refine za.fa 13 ?_
 refine za.st 14 ?_
 refine WA.done kr ?_
 refine WK.un ?_
 refine WC.seq ?_
 refine WC.seq ?_
 refine WC.region ?_
 refine zw.move ?_
 refine zw.nil ?_
 refine zw.fa ?_
 refine zw.ld ?_
 refine zw.len ?_
 refine zw.eq ?_
 refine WL.nil ?_
 refine WK.un ?_
 rw[show((((bs++[b0]).length:Nat):Int)==0)=false by rw[e1];simp;omega]
 refine WC.cond_false rfl ?_
 refine WC.skip ?_
 refine WK.un ?_
 refine WC.seq ?_
 refine WC.region ?_
 refine zw.move ?_
 refine zw.len ?_
 refine zw.move ?_
 refine WL.nil ?_
 refine WK.un ?_
 refine WC.block ?_  -- 2
 refine WC.pk (H':=mcB mb c1 c2 c3 FA (bs++[b0]).length fcap en v OA on ocap st ed::fx::frB b0 A l0.length cap p a B m cm::x::Ha) pkA ?_
 refine WC.loop (X:=Nat×Option Addr×Nat×Own) (fun j=>[(49, .int .i64 j.1),(48, .int .i64 l.length),(47, .slice LA l.length lc),(0, .pointer (some ⟨mb,0,none⟩))]) (fun j=>G) (fun j=>mcB mb c1 c2 c3 FA (bs++[b0]).length fcap en v OA on ocap st ed::fx::frB b0 j.2.1 (l0++l.take j.1).length j.2.2.1 p a B m cm::j.2.2.2::Ha) (fun j=>l.length - j.1) (fun j=>j.1≤l.length∧VVec j.2.1 j.2.2.1 (l0++l.take j.1) j.2.2.2) (0,A,cap,x) ⟨by simp,by simpa using hv⟩ (by exact⟨rfl,rfl,rfl,rfl,trivial⟩) rfl (by show List.Sublist (_::_::frB b0 A (l0++l.take 0).length cap p a B m cm::_) _;rw[List.take_zero,List.append_nil];exact List.Sublist.refl _) fun j hj=>?_
 obtain⟨j,A1,cap1,x1⟩:=j
 obtain⟨hj,hv1⟩:=hj
 simp only at hj hv1
 refine WC.seq ?_
 refine WC.region ?_
 refine zw.lt ?_
 refine WL.nil ?_
 refine WK.un ?_
 refine WC.seq ?_
 refine WC.cond rfl (fun hc8=>?_) (fun hc8=>?_)
 ·-- yes
  have hlt:j<l.length:=by have h:=hc8;simp at h;omega
  obtain⟨u,hu⟩:∃u,l[j]? =some u:=⟨_,List.getElem?_eq_getElem hlt⟩
  have e2:l0++l.take (j+1)=(l0++l.take j)++[u]:=by rw[List.take_add_one,hu];simp
  have e3:(l0++l.take (j+1)).length=(l0++l.take j).length+1:=by rw[e2,List.length_append (bs:=[u])];rfl
  have e4:vflat (l0++l.take (j+1))=vflat (l0++l.take j)++vcells u:=by rw[e2,vflat_append];simp[vflat]
  rcases hr with h0 | ⟨lb,lo,rfl,hread⟩
  ·have h:=congrArg List.length h0
   rw[vflat_length]at h;simp only[List.length_nil]at h;omega
  refine WC.skip ?_
  refine WK.un ?_
  refine WC.seq ?_
  refine WC.block ?_  -- 3
  refine WC.seq ?_
  refine WC.region ?_
  refine zw.ix ?_
  refine WL.vv (Gv.loadRN rfl hread (by repeat (first | exact List.Sublist.refl _ | exact List.nil_sublist _ | apply List.Sublist.cons)) (vflat_elem l j u hu) rfl) ?_
  refine WL.oo (OW.alloc rfl fun b11=>?_)
  refine zw.st ?_
  refine WL.nil ?_
  refine WK.un ?_
  refine WC.drawS (Hs:=[.blk b11 (.cells (vcells u).toArray 52 (0,0))]) mixed pkA ?_
  refine zb.move 0 ?_
  refine WB.vv 4 rfl (Gv.loadN rfl .here rfl rfl) ?_
  refine WB.oo 1 rfl (OW.callK rfl (top_fn G mb c1 c2 c3 FA fcap en v OA on ocap st ed bs b0 fx hcut (by omega)) rfl fun v' G' H' h hg=>?_)
  obtain⟨he,rfl,rfl⟩:=h
  cases he
  refine⟨fun w hw=>hw.pk pkA,?_⟩
  refine zb.nil 2 ?_
  refine zb.fa 3 ?_
  refine WB.oo 5 rfl (OW.callK rfl (push_fn G b0 A1 (l0++l.take j).length cap1 p a B m cm (vflat (l0++l.take j)) x1 u hv1 (by simp;omega)) rfl fun v' G' H' h hg=>?_)
  obtain⟨A2,cap2,x2,he,rfl,rfl,hv2⟩:=h
  cases he
  refine⟨fun w hw=>hw.pk pkA,?_⟩
  refine WB.done kr ?_
  refine WK.un ?_
  refine WC.region ?_
  refine zw.add ?_
  refine zw.move ?_
  refine WL.nil ?_
  refine WK.un ?_
  refine WK.pk (H':=mcB mb c1 c2 c3 FA (bs++[b0]).length fcap en v OA on ocap st ed::fx::frB b0 A2 ((l0++l.take j).length+1) cap2 p a B m cm::x2::Ha) pkA ?_
  exact WK.again (j+1,A2,cap2,x2) (show l.length - (j+1)<l.length - j by omega) ⟨show j+1≤l.length by omega,by show VVec A2 cap2 (l0++l.take (j+1)) x2;unfold VVec;rw[e3,e4];exact hv2⟩ (by refine⟨?_,rfl,rfl,rfl,trivial⟩;show some _=some _;rw[wrap_small (by omega) (by omega)];rfl) rfl (by show List.Sublist (_::_::frB b0 A2 (l0++l.take (j+1)).length cap2 p a B m cm::_) _;rw[e3];exact List.Sublist.refl _)
 ·-- no
  have hge:j=l.length:=by have h:=hc8;simp at h;omega
  subst hge
  refine WC.exit ?_
  refine WK.un ?_
  rw[List.take_length]at hv1
  refine WK.pk (H':=mcB mb c1 c2 c3 FA (bs++[b0]).length fcap en v OA on ocap st ed::fx::frB b0 A1 (l0++l.take l.length).length cap1 p a B m cm::x1::Ha) pkA ?_
  rw[List.take_length]
  refine WK.un ?_
  exact QF.p0 (.inr rfl) rfl  (⟨A1,cap1,x1,rfl,rfl,rfl,hcut,hv1⟩)
end
section
section
variable {L:List (Nat×Value)} {d:Option Tmp} {ty:TypeId} {pos:String} {af:Array Edge} {gu:Option (Nat×Bool)}
end
attribute [local irreducible] Tryz.prog
theorem typed_no (G:Gh) (mv:Value) (b:Nat) (A:Option Addr) (n cap:Nat) (p a:Int) (B:Option Addr) (m cm:Nat) (k t:Int) (hb:(n:Int)<k):
  Fn Tryz.prog 196 #[mv, .pointer (some ⟨b,0,none⟩), .int .i64 k, .int .i64 t] G [frB b A n cap p a B m cm]
   fun e G' H'=>e=halted 6∧G=G'∧Left b H':=by
 refine Fn.enter Tryz.func196 rfl rfl fun w0=>?_
 refine WC.seq ?_
 refine WC.region ?_
 refine zw.assign ?_
 refine WL.nil ?_
 refine WK.un ?_
 refine WC.seq ?_
 refine WC.region ?_
 refine zw.move ?_
 refine zw.move ?_
 refine zw.move ?_
 refine WL.oo (OW.call rfl (Pk.perm pkA) (take_no G mv b A n cap p a B m cm k hb) rfl (fun v' G' H' h hg=>by cases h.1) (fun ch G' H' h hg=>?_) (fun G' H' h=>by repeat (first | (cases h.1;done) | (cases h;done) | (obtain⟨_,h⟩:=h) | (rcases h with h | h))))
 obtain⟨he,rfl,c,hc,rfl⟩:=h
 cases he
 refine WK.un ?_
 exact QF.panicP ⟨rfl,rfl,c,hc,rfl⟩ pkA
theorem WK.swap {K:Act→World→Prop} {cx:Cx} {L:List (Nat×Value)} {G:Gh} {H F:List Own} (h:WK K cx L G (F++H)):WK K cx L G (H++F):=fun a w st=>h a w (st.perm List.perm_append_comm)
def pop1 (l:List V):Option (List V×V):=match l.reverse with
 | []=>none
 | v::r=>some (r.reverse,v)
def pop2 (l:List V):Option (List V×V×V):=match l.reverse with
 | v::u::r=>some (r.reverse,u,v)
 | _=>none
theorem pop1_snoc (r:List V) (v:V):pop1 (r++[v])=some (r,v):=by simp[pop1]
theorem pop2_snoc (r:List V) (u v:V):pop2 (r++[u,v])=some (r,u,v):=by simp[pop2]
theorem pop1_none {l:List V} (h:l.length<1):pop1 l=none:=by
 have:l=[]:=List.eq_nil_of_length_eq_zero (by omega)
 subst this;rfl
theorem pop2_none {l:List V} (h:l.length<2):pop2 l=none:=by
 match l,h with
 | [],_=>rfl
 | [v],_=>rfl
theorem one_or {l:List V} :l.length<1∨∃r v,l=r++[v]:=by
 rcases Nat.lt_or_ge l.length 1 with h | h
 ·exact .inl h
 ·obtain⟨l1,l2,rfl,h2,_,_⟩:=cut_list l 1 h
  match l2,h2 with
  | [v],_=>exact .inr ⟨l1,v,rfl⟩
theorem two_or {l:List V} :l.length<2∨∃r u v,l=r++[u,v]:=by
 rcases Nat.lt_or_ge l.length 2 with h | h
 ·exact .inl h
 ·obtain⟨l1,l2,rfl,h2,_,_⟩:=cut_list l 2 h
  match l2,h2 with
  | [u,v],_=>exact .inr ⟨l1,u,v,rfl⟩
instance (u v:V):Decidable (ordOK u v):=by unfold ordOK;infer_instance
inductive PR where
 | halt (n:Int)
 | set (l:List V)
 | print (l:List V) (v:V)
 | leave (l:List V) (g:List V)
def truthV (b:Bool):V:=⟨2,0,b,⟨#[]⟩⟩
def numV (n:Int):V:=⟨1,n,false,⟨#[]⟩⟩
def textV (s:ByteArray):V:=⟨3,0,false,s⟩
def ty1 (l:List V) (t:Int):Option (List V×V):=match pop1 l with
 | none=>none
 | some (r,v)=>if v.t=t then some (r,v)else none
def ty2 (l:List V) (t:Int):Option (List V×V×V):=match pop2 l with
 | none=>none
 | some (r,u,v)=>if u.t=t∧v.t=t then some (r,u,v)else none
def on1 (l:List V) (t:Int) (f:List V→V→PR):PR:=match ty1 l t with
 | none=> .halt 6
 | some (r,v)=>f r v
def on2 (l:List V) (t:Int) (f:List V→V→V→PR):PR:=match ty2 l t with
 | none=> .halt 6
 | some (r,u,v)=>f r u v
theorem pop1_some {l r:List V} {v:V} (h:pop1 l=some (r,v)):l=r++[v]:=by
 rcases@one_or l with h1 | ⟨r',v',rfl⟩
 ·rw[pop1_none h1]at h;cases h
 ·rw[pop1_snoc]at h;cases h;rfl
theorem pop2_some {l r:List V} {u v:V} (h:pop2 l=some (r,u,v)):l=r++[u,v]:=by
 rcases@two_or l with h1 | ⟨r',u',v',rfl⟩
 ·rw[pop2_none h1]at h;cases h
 ·rw[pop2_snoc]at h;cases h;rfl
theorem ty1_some {l r:List V} {t:Int} {v:V} (h:ty1 l t=some (r,v)):l=r++[v]∧v.t=t:=by
 unfold ty1 at h
 split at h
 ·cases h
 ·rename_i r' v' hp
  split at h
  ·cases h;exact⟨pop1_some hp, ‹_›⟩
  ·cases h
theorem ty2_some {l r:List V} {t:Int} {u v:V} (h:ty2 l t=some (r,u,v)):l=r++[u,v]∧u.t=t∧v.t=t:=by
 unfold ty2 at h
 split at h
 ·cases h
 ·rename_i r' u' v' hp
  split at h
  ·cases h;exact⟨pop2_some hp, ‹_›⟩
  ·cases h
theorem ty1_none {l:List V} {t:Int} (h:ty1 l t=none):l.length<1∨∃r v,l=r++[v]∧v.t≠t:=by
 rcases@one_or l with h1 | ⟨r',v',rfl⟩
 ·exact .inl h1
 ·refine .inr ⟨r',v',rfl,fun hv=>?_⟩
  rw[ty1,pop1_snoc]at h;simp[hv]at h
theorem Ex.sub {H H':List Own} {w:World} (h:Ex (covs H) w) (hs:∀x∈H',x∈H):Ex (covs H') w:=fun q hq=>⟨(h q hq).1,fun o ⟨x,hx,hc⟩=>(h q hq).2 o ⟨x,hs x hx,hc⟩⟩
theorem Fn.pk {P:Program} {f:FuncId} {vs:Array Value} {G:Gh} {H H' F:List Own} {R:Ending→Gh→List Own→Prop} (h:Fn P f vs G H' R) (p:Pk H H' F):Fn P f vs G H fun e G' H1=>∃H2,R e G' H2∧H1=H2++F:=by
 intro w hs hx
 have hs':=hs.perm p.perm
 refine(h w (hs'.sub (List.sublist_append_left _ _)) (hx.sub fun y hy=>p.perm.mem_iff.2 (List.mem_append_left _ hy))).mono fun e w' ⟨G',H2,r,s,st⟩=>⟨G',H2++F,⟨H2,r,rfl⟩,hs'.frame s st,?_⟩
 have:=st.frame (F:=F)
 exact⟨this.size,fun b hb=>(this.keep b hb).mono fun o ⟨x,hx,hc⟩=>⟨x,p.perm.mem_iff.2 hx,hc⟩,this.gle,fun b o v e=>(this.gnew b o v e).imp_right fun h=>h.imp_left fun⟨x,hx,hc⟩=>⟨x,p.perm.mem_iff.2 hx,hc⟩,fun x hx b o hc=>(this.own x hx b o hc).imp_left fun⟨y,hy,hc⟩=>⟨y,p.perm.mem_iff.2 hy,hc⟩,this.weq⟩
theorem Fn.drop {P:Program} {f:FuncId} {vs:Array Value} {G:Gh} {H:List Own} {R R':Ending→Gh→List Own→Prop} (h:Fn P f vs G H R) (hr:∀e G' H',R e G' H'→∃H2,H2.Sublist H'∧R' e G' H2):Fn P f vs G H R':=
 fun w hs hx=>(h w hs hx).mono fun e w' ⟨G',H',r,s,st⟩=>by
  obtain⟨H2,h1,h2⟩:=hr _ _ _ r
  exact⟨G',H2,h2,s.sub h1,⟨st.size,st.keep,st.gle,st.gnew,fun x hx=>st.own x (h1.subset hx),st.weq⟩⟩
section
variable (G:Gh) (mv:Value) (b:Nat) (A:Option Addr) (cap:Nat) (p a:Int) (B:Option Addr) (m cm:Nat) (x:Own)
theorem typed1_ok (r:List V) (v:V) (t:Int) (ht:v.t=t) (hv:VVec A cap (r++[v]) x) (hb:(r++[v]).length≤1000000):
  Fn Tryz.prog 196 #[mv, .pointer (some ⟨b,0,none⟩), .int .i64 1, .int .i64 t] G [frB b A (r++[v]).length cap p a B m cm,x]
   fun e G' H'=>∃A' cap' x',e= .returned (.slice A' 1 cap')∧G=G'∧H'=[x',frB b A r.length cap p a B m cm,x]∧VVec A' cap' [v] x'∧VVec A cap r x:=
 (typed_fnQ G mv b A cap p a B m cm r [v] x t hv (by simp at hb⊢;omega)).mono fun e G' H' ⟨h1,h2⟩=>by
  rcases h2 with⟨A',cap',x',h3,_,h5,h6,h7⟩ | ⟨_,⟨u,hu,hne⟩,_⟩
  ·exact⟨A',cap',x',h3,h1,h5,h6,h7⟩
  ·rw[List.mem_singleton]at hu;subst hu;exact absurd ht hne
theorem typed1_no (l:List V) (t:Int) (hn:ty1 l t=none) (hv:VVec A cap l x) (hb:l.length≤1000000):
  Fn Tryz.prog 196 #[mv, .pointer (some ⟨b,0,none⟩), .int .i64 1, .int .i64 t] G [frB b A l.length cap p a B m cm,x]
   fun e G' H'=>e=halted 6∧G=G'∧Left b H':=by
 rcases ty1_none hn with h | ⟨r,v,rfl,hne⟩
 ·refine((typed_no G mv b A l.length cap p a B m cm 1 t (by omega)).pk (F:=[x]) (.cons .here .nil)).drop fun e G' H' ⟨H2,⟨h1,h2,h3⟩,h4⟩=>⟨H2,by rw[h4];exact List.sublist_append_left _ _,h1,h2,h3⟩
 ·refine(typed_fnQ G mv b A cap p a B m cm r [v] x t hv (by simp at hb⊢;omega)).mono fun e G' H' ⟨h1,h2⟩=>?_
  rcases h2 with⟨A',cap',x',h3,h4,_⟩ | ⟨h3,_,h4⟩
  ·exact absurd (h4 v (by simp)) hne
  ·exact⟨h3,h1,h4⟩
end
def onA (l:List V) (f:List V→V→PR):PR:=match pop1 l with
 | none=> .halt 6
 | some (r,v)=>f r v
def onB (l:List V) (f:List V→V→V→PR):PR:=match pop2 l with
 | none=> .halt 6
 | some (r,u,v)=>f r u v
def recR (c:Int) (r:List V) (u v:V):PR:=match reckonS c u.i v.i with
 | none=> .halt 2
 | some n=> .set (r++[numV n])
def plainR (res:Int) (l:List V) (c:Int) (outn:Nat):PR:=
 if c=4 then onA l fun r _=> .set r
 else if c=9 then if res=0 then .leave l []else .halt 6
 else if c=10 then if res=0 then .halt 6 else on1 l res fun r v=> .leave r [v]
 else if c=11 then onA l fun r v=>if 4096≤outn then .halt 7 else .print r v
 else if c=12 then onB l fun r u v=>if u.t=v.t then .set (r++[truthV (decide (u=v))])else .halt 6
 else if c=13 then onB l fun r u v=>if u.t=v.t then .set (r++[truthV (!decide (u=v))])else .halt 6
 else if c=25 then on1 l 2 fun r v=> .set (r++[truthV (!v.b)])
 else if c=26 then on1 l 3 fun r v=> .set (r++[numV v.s.size])
 else if c=20 then on2 l 3 fun r u v=>if 4096<u.s.size+v.s.size then .halt 3 else .set (r++[textV (u.s++v.s)])
 else if c=14∨c=15∨c=16∨c=17 then onB l fun r u v=>if ordOK u v then .set (r++[truthV (ordS c u v)])else .halt 6
 else if c=24 then on1 l 1 fun r v=> .set (r++[numV (IntKind.i64.wrap (0 - v.i))])
 else if c=18∨c=19∨c=21∨c=22∨c=23 then on2 l 1 (recR c)
 else .halt 6
end
section
attribute [local irreducible] Tryz.prog
def Lv (G:Gh) (mb:Nat) (M fx:Own) (Hx:List Own) (RL:List V→List Own→Prop):Prop:=
 (Fn Tryz.prog 213 #[.pointer (some ⟨mb,0,none⟩), .slice none 0 0] G (M::fx::Hx) fun e G' H'=>e= .returned (.tuple #[])∧G=G'∧RL [] H')∧
 ∀A' cap' y v,VVec A' cap' [v] y→Fn Tryz.prog 213 #[.pointer (some ⟨mb,0,none⟩), .slice A' 1 cap'] G (y::M::fx::Hx) fun e G' H'=>e= .returned (.tuple #[])∧G=G'∧RL [v] H'
def PlR (G:Gh) (mb:Nat) (c1 c2 c3:Value) (FA:Option Addr) (fn fcap:Nat) (en:Int) (w:V) (OA:Option Addr) (ocap:Nat) (st:Int) (ed:Bool) (out:List V) (ox fx:Own) (Hx:List Own) (RL:List V→List Own→Prop)
  (b:Nat) (A:Option Addr) (cap:Nat) (p a:Int) (B:Option Addr) (m cm:Nat) (x:Own) (r:PR):Ending→Gh→List Own→Prop:=fun e G' H'=>G=G'∧match r with
 | .halt k=>e=halted k∧∃y,Left b [y]∧H'=mcB mb c1 c2 c3 FA fn fcap en w OA out.length ocap st ed::ox::y::fx::Hx
 | .set r=>∃A' cap' x',e= .returned (.tuple #[])∧VVec A' cap' r x'∧H'=mcB mb c1 c2 c3 FA fn fcap en w OA out.length ocap st ed::ox::frB b A' r.length cap' p a B m cm::x'::fx::Hx
 | .print r v=>∃OA' ocap' ox',e= .returned (.tuple #[])∧VVec OA' ocap' (out++[v]) ox'∧VVec A cap r x∧H'=mcB mb c1 c2 c3 FA fn fcap en w OA' (out++[v]).length ocap' st ed::ox'::frB b A r.length cap p a B m cm::x::fx::Hx
 | .leave r g=>∃H1,e= .returned (.tuple #[])∧VVec A cap r x∧RL g H1∧H'=ox::frB b A r.length cap p a B m cm::x::H1
section
variable (G:Gh) (mb:Nat) (c1 c2 c3:Value) (FA:Option Addr) (fn fcap:Nat) (en:Int) (w:V) (OA:Option Addr) (ocap:Nat) (st:Int) (ed:Bool) (out:List V) (ox fx:Own) (Hx:List Own) (RL:List V→List Own→Prop)
  (b:Nat) (A:Option Addr) (cap:Nat) (p a:Int) (B:Option Addr) (m cm:Nat) (x:Own) (l:List V) (nm:ByteArray) (ex:Bool) (qv cv:Value) (lo res:Int)
theorem plain_give (hv:VVec A cap l x) (hl:l.length≤1000000) (hL:Lv G mb (mcB mb c1 c2 c3 FA fn fcap en w OA out.length ocap st ed) fx Hx RL):Fn Tryz.prog 198 #[.pointer (some ⟨mb,0,none⟩), .pointer (some ⟨b,0,none⟩), .agg #[.string nm, .bool ex,qv, .int .i64 lo, .int .i64 res,cv], .int .i64 10] G
  (mcB mb c1 c2 c3 FA fn fcap en w OA out.length ocap st ed::ox::frB b A l.length cap p a B m cm::x::fx::Hx) (PlR G mb c1 c2 c3 FA fn fcap en w OA ocap st ed out ox fx Hx RL b A cap p a B m cm x (plainR res l 10 out.length)):=by
 refine Fn.enter Tryz.func198 rfl rfl fun w0=>?_
 rw[show plainR res l 10 out.length=if res=0 then .halt 6 else on1 l res fun r v=> .leave r [v] by simp[plainR]]
 refine WC.seq ?_
 refine WC.region ?_
 refine WL.oo (OW.box rfl rfl fun b1=>?_)
 refine WL.nil ?_
 refine WK.un ?_
 refine WC.seq ?_
 refine WC.region ?_
 refine zw.move ?_
 refine WL.nil ?_
 refine WK.un ?_
 repeat (first | refine WC.seq ?_ | refine WC.block ?_ | (refine WC.region ?_;refine WL.p (Gp.eqI rfl rfl) kr rfl ?_;refine WL.p (Gp.assign rfl) kr rfl ?_;refine WL.nil ?_;refine WK.un ?_) | refine WC.cond_true rfl ?_ | refine WC.cond_false rfl ?_ | (refine WC.skip ?_;refine WK.un ?_) | (refine WC.exit ?_;refine WK.un ?_))
 refine WC.region ?_
 refine zw.fa ?_
 refine zw.ld ?_
 refine zw.ne ?_
 by_cases hr:res=0
 ·rw[show(res != 0)=false by simpa using hr,if_pos hr]
  refine WL.oo (OW.call rfl (Hf:=[]) (List.Perm.refl _) (need_no _) rfl (fun v G' H' h _=>by cases h.1) (fun ch G' H' h _=>?_) (fun G' H' h=>by cases h.1))
  obtain⟨he,rfl,rfl⟩:=h
  cases he
  refine WK.un ?_
  exact QF.panicP (⟨rfl,rfl,_,Left.of b A l.length cap p a B m cm,rfl⟩)
 rw[show(res != 0)=true by simpa using hr,if_neg hr]
 refine WL.oo (OW.callR rfl (Hf:=[]) (List.Perm.refl _) (need_ok G) rfl (by rintro e G' H' ⟨h,_⟩;exact⟨_,h⟩) fun v' G' H' h hg=>?_)
 obtain⟨he,rfl,rfl⟩:=h
 cases he
 refine WL.nil ?_
 refine WK.un ?_
 refine WC.region ?_
 refine zw.move ?_
 refine zw.move ?_
 refine zw.move ?_
 refine zw.fa ?_
 refine zw.ld ?_
 cases ht:ty1 l res with
 | none=>
  rw[show on1 l res _= .halt 6 by rw[on1,ht]]
  refine WL.oo (OW.call rfl (Pk.perm pkA) (typed1_no G _ b A cap p a B m cm x l res ht hv hl) rfl (fun v' G' H' h hg=>by cases h.1) (fun ch G' H' h hg=>?_) (fun G' H' h=>by repeat (first | (cases h.1;done) | (cases h;done) | (obtain⟨_,h⟩:=h) | (rcases h with h | h))))
  obtain⟨he,rfl,c,hc,rfl⟩:=h
  cases he
  refine WK.un ?_
  exact QF.panicP ⟨rfl,rfl,_,⟨c,hc,rfl⟩,rfl⟩
 | some rv=>
  obtain⟨r,v⟩:=rv
  rw[show on1 l res _= .leave r [v] by rw[on1,ht]]
  obtain⟨rfl,hvt⟩:=ty1_some ht
  refine WL.oo (OW.callK rfl (typed1_ok G _ b A cap p a B m cm x r v res hvt hv hl) rfl fun v' G' H' h hg=>?_)
  obtain⟨A',cap',x',he,rfl,rfl,hv1,hv2⟩:=h
  cases he
  refine WL.oo (OW.callK rfl (hL.2 A' cap' x' v hv1) rfl fun v' G' H' h hg=>?_)
  obtain⟨he,rfl,hR⟩:=h
  cases he
  refine WL.nil ?_
  refine WK.un ?_
  refine WC.exit ?_
  refine WK.un ?_
  refine WK.un ?_
  refine WK.swap ?_
  exact QF.p0 (.inr rfl) rfl ⟨rfl,H',rfl,hv2,hR,rfl⟩ pkA
end
end
section
attribute [local irreducible] Tryz.prog
section
variable (G:Gh) (mb:Nat) (c1 c2 c3:Value) (FA:Option Addr) (fn fcap:Nat) (en:Int) (w:V) (OA:Option Addr) (ocap:Nat) (st:Int) (ed:Bool) (out:List V) (ox fx:Own) (Hx:List Own) (RL:List V→List Own→Prop)
  (b:Nat) (A:Option Addr) (cap:Nat) (p a:Int) (B:Option Addr) (m cm:Nat) (x:Own) (l:List V) (nm:ByteArray) (ex:Bool) (qv cv:Value) (lo res:Int)
theorem plain_fn (c:Int) (hc:c=10) (hv:VVec A cap l x) (hl:l.length≤1000000) (hz:∀v∈l,v.s.size≤400000000000) (ho:VVec OA ocap out ox) (hL:Lv G mb (mcB mb c1 c2 c3 FA fn fcap en w OA out.length ocap st ed) fx Hx RL):
  Fn Tryz.prog 198 #[.pointer (some ⟨mb,0,none⟩), .pointer (some ⟨b,0,none⟩), .agg #[.string nm, .bool ex,qv, .int .i64 lo, .int .i64 res,cv], .int .i64 c] G
  (mcB mb c1 c2 c3 FA fn fcap en w OA out.length ocap st ed::ox::frB b A l.length cap p a B m cm::x::fx::Hx) (PlR G mb c1 c2 c3 FA fn fcap en w OA ocap st ed out ox fx Hx RL b A cap p a B m cm x (plainR res l c out.length)):=by
 subst hc
 exact plain_give G mb c1 c2 c3 FA fn fcap en w OA ocap st ed out ox fx Hx RL b A cap p a B m cm x l nm ex qv cv lo res hv hl hL
end
end
section
attribute [local irreducible] Tryz.prog
def OpS (l:List (Int×Int)):Prop:=∀i∈l,i.1=1∨i.1=7∨i.1=10
inductive DR where
 | halt (n:Int)
 | go (l:List V) (k:Nat) (vars:List V)
 | print (l:List V) (v:V)
 | call (q:Pr) (r args:List V) (n:Int)
 | leave (l g:List V)
def layRQ (l:List V) (k:Nat) (vars:List V) (v:V):DR:=if 128≤l.length then .halt 6 else .go (l++[v]) (k+1) vars
def constR (consts:List V) (l:List V) (k:Nat) (vars:List V) (n:Int):DR:=if n<0 then .halt 6 else match consts[n.toNat]? with
 | none=> .halt 6
 | some v=>if vOK v=true then layRQ l k vars v else .halt 6
def loadR (l:List V) (k:Nat) (vars:List V) (n:Int):DR:=if n<0 then .halt 6 else match vars[n.toNat]? with
 | none=> .halt 6
 | some v=>if v.t=0 then .halt 6 else layRQ l k vars v
def storeR (l:List V) (k:Nat) (vars:List V) (n:Int):DR:=if n<0∨vars.length≤n.toNat then .halt 6 else match pop1 l with
 | none=> .halt 6
 | some (r,v)=> .go r (k+1) (vars.set n.toNat v)
def jumpR (cl:Nat) (l:List V) (vars:List V) (n:Int):DR:=if n<0∨cl≤n.toNat then .halt 6 else .go l n.toNat vars
def unlessR (cl:Nat) (l:List V) (k:Nat) (vars:List V) (n:Int):DR:=if n<0∨cl≤n.toNat then .halt 6 else match ty1 l 2 with
 | none=> .halt 6
 | some (r,v)=> .go r (if v.b then k+1 else n.toNat) vars
def callD (procs:List Pr) (l:List V) (n:Int) (depth:Nat):DR:=match callR procs l n depth with
 | .error e=> .halt e
 | .ok (q,r,a)=> .call q r a n
def plainD (res:Int) (l:List V) (k:Nat) (vars:List V) (c:Int) (outn:Nat):DR:=match plainR res l c outn with
 | .halt m=> .halt m
 | .set r=> .go r (k+1) vars
 | .print r v=> .print r v
 | .leave r g=> .leave r g
def doR (pg:Pg) (pr:Pr) (l:List V) (k:Nat) (vars:List V) (depth outn:Nat):DR:=match pr.code[k]? with
 | none=> .halt 6
 | some (c,n)=>
  if c=1 then constR pg.consts l k vars n
  else if c=2 then loadR l k vars n
  else if c=3 then storeR l k vars n
  else if c=5 then jumpR pr.code.length l vars n
  else if c=6 then unlessR pr.code.length l k vars n
  else if c=7 then callD pg.procs l n depth
  else if n≠0 then .halt 6
  else plainD pr.result l k vars c outn
def DoR (G:Gh) (mb:Nat) (c1 c2 c3:Value) (FA:Option Addr) (fcap:Nat) (en:Int) (w:V) (OA:Option Addr) (ocap:Nat) (st:Int) (ed:Bool) (out:List V) (ox fx:Own) (Hx:List Own) (RL:List V→List Own→Prop)
  (b:Nat) (A:Option Addr) (cap pi:Nat) (B:Option Addr) (vars:List V) (cm:Nat) (x y:Own) (bs:List Nat) (k1:Nat) (r:DR):Ending→Gh→List Own→Prop:=fun e G' H'=>G=G'∧match r with
 | .halt n=>e=halted n∧∃z,Left b [z]∧H'=mcB mb c1 c2 c3 FA bs.length fcap en w OA out.length ocap st ed::ox::z::fx::Hx
 | .go l' k' vars'=>∃A' cap' x' y',e= .returned (.tuple #[])∧VVec A' cap' l' x'∧VVec B cm vars' y'∧H'=mcB mb c1 c2 c3 FA bs.length fcap en w OA out.length ocap st ed::ox::frB b A' l'.length cap' pi k' B vars'.length cm::x'::y'::fx::Hx
 | .print l' v=>∃OA' ocap' ox',e= .returned (.tuple #[])∧VVec OA' ocap' (out++[v]) ox'∧VVec A cap l' x∧H'=mcB mb c1 c2 c3 FA bs.length fcap en w OA' (out++[v]).length ocap' st ed::ox'::frB b A l'.length cap pi k1 B vars.length cm::x::y::fx::Hx
 | .call q l' args n=>∃FA' fcap' b' VA fx' yv,e= .returned (.tuple #[])∧PVec FA' fcap' (bs++[b']) fx'∧VVec VA (padded args q.locals).length (padded args q.locals) yv∧VVec A cap l' x∧
   H'=mcB mb c1 c2 c3 FA' (bs++[b']).length fcap' en w OA out.length ocap st ed::ox::frB b A l'.length cap pi k1 B vars.length cm::x::y::fx'::frB b' none 0 0 n 0 VA (padded args q.locals).length (padded args q.locals).length:: .spare 0 0 0::yv::Hx
 | .leave l' g=>∃H1,e= .returned (.tuple #[])∧RL g H1∧H'=ox::H1
section
variable (G:Gh) (pg:Pg) (CA PA:Option Addr) (cc pc:Nat) (hC:Sl Kd.val G CA pg.consts) (hP:Sl Kd.prc G PA pg.procs)
  (mb:Nat) (c3:Value) (FA:Option Addr) (fcap:Nat) (en:Int) (w:V) (OA:Option Addr) (ocap:Nat) (st:Int) (ed:Bool) (out:List V) (ox fx:Own) (Hx:List Own) (RL:List V→List Own→Prop)
  (b:Nat) (A:Option Addr) (cap pi:Nat) (pr:Pr) (hpr:pg.procs[pi]? =some pr) (B:Option Addr) (vars:List V) (cm:Nat) (x y:Own) (bs:List Nat) (l:List V) (k:Nat) (hkb:k≤100000000000000∧OpS pr.code)
include hC hP hpr hkb
theorem do_const (n:Int) (hi:pr.code[k]? =some (1,n)) (hv:VVec A cap l x) (hl:l.length≤1000000) (hy:VVec B cm vars y):Fn Tryz.prog 167 #[.pointer (some ⟨mb,0,none⟩), .pointer (some ⟨b,0,none⟩)] G
  (mcB mb (.slice CA pg.consts.length cc) (.slice PA pg.procs.length pc) c3 FA bs.length fcap en w OA out.length ocap st ed::ox::frB b A l.length cap pi k B vars.length cm::x::y::fx::Hx)
  (DoR G mb (.slice CA pg.consts.length cc) (.slice PA pg.procs.length pc) c3 FA fcap en w OA ocap st ed out ox fx Hx RL b A cap pi B vars cm x y bs (k+1) (doR pg pr l k vars bs.length out.length)):=by
 rw[show doR pg pr l k vars bs.length out.length=constR pg.consts l k vars n by simp[doR,hi]]
 obtain⟨pb,po,cs,hPA,⟨QA,qc,IA,ic,rfl,hQ,hI⟩,hcs⟩:=hP pi pr hpr
 obtain⟨ib,io,cs2,rfl,hK,hcs2⟩:=hI k (1,n) hi
 obtain rfl:cs2=[.int .i64 1, .int .i64 n]:=hK
 have hk:k<pr.code.length:=(List.getElem?_eq_some_iff.1 hi).1
 have hpl:pi<pg.procs.length:=(List.getElem?_eq_some_iff.1 hpr).1
 subst hPA
 refine Fn.enter Tryz.func167 rfl rfl fun w0=>?_
 refine WC.seq ?_
 refine WC.draw mixed ?_
 refine za.move 0 ?_
 refine za.nil 1 ?_
 refine za.fa 2 ?_
 refine za.fa 3 ?_
 refine za.ld 4 ?_
 refine za.move 5 ?_
 refine za.nil 6 ?_
 refine za.fa 7 ?_
 refine za.ld 8 ?_
 refine za.ix 9 ?_
 refine WA.vv 10 rfl (Gv.loadGN rfl hcs rfl) ?_
 refine WA.oo 11 rfl (OW.alloc rfl fun b1=>?_)
 refine za.st 12 ?_
 refine WA.done kr ?_
 refine WK.un ?_
 refine WC.seq ?_
 refine WC.draw mixed ?_
 refine za.move 0 ?_
 refine za.nil 1 ?_
 refine za.fa 2 ?_
 refine za.ld 3 ?_
 refine WA.pp 4 rfl (Gp.geI' rfl rfl (show decide ((0:Int)≤(k:Int))=true by simp)) ?_
 refine za.move 5 ?_
 refine za.move 6 ?_
 refine za.nil 7 ?_
 refine za.fa 8 ?_
 refine za.ld 9 ?_
 refine za.fa 10 ?_
 refine za.ld 11 ?_
 refine za.len 12 ?_
 refine WA.pp 13 rfl (Gp.ltI' rfl rfl (show decide ((k:Int)<(pr.code.length:Int))=true by simp;omega)) ?_
 refine za.pick 14 ?_
 refine WA.oo 15 rfl (OW.callR rfl (Hf:=[]) (List.Perm.refl _) (need_ok G) rfl (by rintro e G' H' ⟨h,_⟩;exact⟨_,h⟩) fun v' G' H' h hg=>?_)
 obtain⟨he,rfl,rfl⟩:=h
 cases he
 refine WA.done kr ?_
 refine WK.un ?_
 refine WC.seq ?_
 refine WC.draw mixed ?_
 refine za.fa 0 ?_
 refine za.ld 1 ?_
 refine za.move 2 ?_
 refine za.nil 3 ?_
 refine za.fa 4 ?_
 refine za.ld 5 ?_
 refine za.ix 6 ?_
 refine WA.vv 7 rfl (Gv.loadGN rfl hcs2 rfl) ?_
 refine WA.oo 8 rfl (OW.alloc rfl fun b2=>?_)
 refine za.st 9 ?_
 refine WA.done kr ?_
 refine WK.un ?_
 refine WC.seq ?_
 refine WC.region ?_
 refine zw.move ?_
 refine zw.nil ?_
 refine zw.fa ?_
 refine zw.ld ?_
 refine WL.pp (Gp.add' rfl rfl (show IntKind.i64.wrap ((k:Int)+1)=((k+1:Nat):Int) by rw[wrap_small (by omega) (by omega)];omega)) ?_
 refine zw.nil ?_
 refine zw.fa ?_
 refine zw.st ?_
 refine WL.nil ?_
 refine WK.un ?_
 refine WC.seq ?_
 refine WC.region ?_
 refine zw.fa ?_
 refine zw.ld ?_
 refine WL.nil ?_
 refine WK.un ?_
 refine WC.pk (H':= .blk b2 (.cells #[.int .i64 1, .int .i64 n] 50 (0,0)):: .blk b1 (.cells #[.string pr.name, .bool pr.exp, .slice QA pr.params.length qc, .int .i64 pr.locals, .int .i64 pr.result, .slice (some ⟨ib,io,none⟩) pr.code.length ic] 47 (0,0))::mcB mb (.slice CA pg.consts.length cc) (.slice (some ⟨pb,po,none⟩) pg.procs.length pc) c3 FA bs.length fcap en w OA out.length ocap st ed::ox::frB b A l.length cap pi (k+1:Nat) B vars.length cm::x::y::fx::Hx) pkA ?_
 repeat (first | refine WC.seq ?_ | refine WC.block ?_ | (refine WC.region ?_;refine WL.p (Gp.eqI rfl rfl) kr rfl ?_;refine WL.p (Gp.assign rfl) kr rfl ?_;refine WL.nil ?_;refine WK.un ?_) | refine WC.cond_true rfl ?_ | refine WC.cond_false rfl ?_ | (refine WC.skip ?_;refine WK.un ?_) | (refine WC.exit ?_;refine WK.un ?_))
 refine WC.draw mixed ?_
 refine za.fa 0 ?_
 refine za.ld 1 ?_
 by_cases hn0:n<0
 ·rw[show constR pg.consts l k vars n= .halt 6 by rw[constR,if_pos hn0]]
  refine WA.pp 2 rfl (Gp.geI' rfl rfl (show decide ((0:Int)≤n)=false by simpa using hn0)) ?_
  refine za.move 3 ?_
  refine za.skip 4 ?_
  refine za.skip 5 ?_
  refine za.skip 6 ?_
  refine za.skip 7 ?_
  refine za.skip 8 ?_
  refine za.skip 9 ?_
  refine za.skip 10 ?_
  refine za.skip 11 ?_
  refine za.skip 12 ?_
  refine za.pick 13 ?_
  refine za.move 14 ?_
  refine za.skip 15 ?_
  refine za.skip 16 ?_
  refine za.skip 17 ?_
  refine za.skip 18 ?_
  refine za.skip 19 ?_
  refine za.skip 20 ?_
  refine za.skip 21 ?_
  refine za.skip 22 ?_
  refine za.skip 23 ?_
  refine za.skip 24 ?_
  refine za.pick 25 ?_
  refine WA.oo 26 rfl (OW.call rfl (Hf:=[]) (List.Perm.refl _) (need_no _) rfl (fun v G' H' h _=>by cases h.1) (fun ch G' H' h _=>?_) (fun G' H' h=>by cases h.1))
  obtain⟨he,rfl,rfl⟩:=h
  cases he
  refine WK.un ?_
  exact QF.panicP (⟨rfl,rfl,_,Left.of b A l.length cap pi (k+1:Nat) B vars.length cm,rfl⟩)
 obtain⟨i,rfl⟩:=Int.eq_ofNat_of_zero_le (Int.not_lt.1 hn0)
 refine WA.pp 2 rfl (Gp.geI' rfl rfl (show decide ((0:Int)≤(i:Int))=true by simp)) ?_
 refine za.move 3 ?_
 refine za.fa 4 ?_
 refine za.ld 5 ?_
 refine za.move 6 ?_
 refine za.nil 7 ?_
 refine za.fa 8 ?_
 refine za.fa 9 ?_
 refine za.ld 10 ?_
 refine za.len 11 ?_
 cases hc:pg.consts[i]? with
 | none=>
  rw[show constR pg.consts l k vars (i:Int)= .halt 6 by rw[constR,if_neg hn0,Int.toNat_natCast,hc]]
  refine WA.pp 12 rfl (Gp.ltI' rfl rfl (show decide ((i:Int)<(pg.consts.length:Int))=false by have:=List.getElem?_eq_none_iff.1 hc;simp;omega)) ?_
  refine za.pick 13 ?_
  refine za.move 14 ?_
  refine za.skip 15 ?_
  refine za.skip 16 ?_
  refine za.skip 17 ?_
  refine za.skip 18 ?_
  refine za.skip 19 ?_
  refine za.skip 20 ?_
  refine za.skip 21 ?_
  refine za.skip 22 ?_
  refine za.skip 23 ?_
  refine za.skip 24 ?_
  refine za.pick 25 ?_
  refine WA.oo 26 rfl (OW.call rfl (Hf:=[]) (List.Perm.refl _) (need_no _) rfl (fun v G' H' h _=>by cases h.1) (fun ch G' H' h _=>?_) (fun G' H' h=>by cases h.1))
  obtain⟨he,rfl,rfl⟩:=h
  cases he
  refine WK.un ?_
  exact QF.panicP (⟨rfl,rfl,_,Left.of b A l.length cap pi (k+1:Nat) B vars.length cm,rfl⟩)
 | some v=>
 obtain⟨cb,co,cs3,rfl,hK3,hcs3⟩:=hC i v hc
 obtain rfl:cs3=vcells v:=hK3
 have hic:i<pg.consts.length:=(List.getElem?_eq_some_iff.1 hc).1
 refine WA.pp 12 rfl (Gp.ltI' rfl rfl (show decide ((i:Int)<(pg.consts.length:Int))=true by simp;omega)) ?_
 refine za.pick 13 ?_
 refine za.move 14 ?_
 refine za.move 15 ?_
 refine za.nil 16 ?_
 refine za.fa 17 ?_
 refine za.fa 18 ?_
 refine za.ld 19 ?_
 refine za.fa 20 ?_
 refine za.ld 21 ?_
 refine za.ix 22 ?_
 refine WA.vv 23 rfl (Gv.loadGN rfl hcs3 rfl) ?_
 refine WA.oo 24 rfl (OW.callR rfl (Hf:=[]) (List.Perm.refl _) (value_fnQ G v) rfl (by rintro e G' H' ⟨h,_⟩;exact⟨_,h⟩) fun v' G' H' h hg=>?_)
 obtain⟨he,rfl,rfl⟩:=h
 cases he
 refine za.pick 25 ?_
 by_cases hok:vOK v=true
 rotate_left
 ·rw[show constR pg.consts l k vars (i:Int)= .halt 6 by rw[constR,if_neg hn0,Int.toNat_natCast,hc];exact if_neg hok]
  rw[show vOK v=false by simpa using hok]
  refine WA.oo 26 rfl (OW.call rfl (Hf:=[]) (List.Perm.refl _) (need_no _) rfl (fun v G' H' h _=>by cases h.1) (fun ch G' H' h _=>?_) (fun G' H' h=>by cases h.1))
  obtain⟨he,rfl,rfl⟩:=h
  cases he
  refine WK.un ?_
  exact QF.panicP (⟨rfl,rfl,_,Left.of b A l.length cap pi (k+1:Nat) B vars.length cm,rfl⟩)
 rw[show constR pg.consts l k vars (i:Int)=layRQ l k vars v by rw[constR,if_neg hn0,Int.toNat_natCast,hc];exact if_pos hok]
 rw[hok]
 refine WA.oo 26 rfl (OW.callR rfl (Hf:=[]) (List.Perm.refl _) (need_ok G) rfl (by rintro e G' H' ⟨h,_⟩;exact⟨_,h⟩) fun v' G' H' h hg=>?_)
 obtain⟨he,rfl,rfl⟩:=h
 cases he
 refine WA.done kr ?_
 refine WK.un ?_
 refine WC.draw mixed ?_
 refine za.move 0 ?_
 refine za.move 1 ?_
 refine za.move 2 ?_
 refine za.nil 3 ?_
 refine za.fa 4 ?_
 refine za.fa 5 ?_
 refine za.ld 6 ?_
 refine za.fa 7 ?_
 refine za.ld 8 ?_
 refine za.ix 9 ?_
 refine WA.vv 10 rfl (Gv.loadGN rfl hcs3 rfl) ?_
 by_cases hf:128≤l.length
 ·rw[show layRQ l k vars v= .halt 6 by rw[layRQ,if_pos hf]]
  refine WA.oo 11 rfl (OW.call rfl (Pk.perm pkA) (lay_no G _ b A l.length cap pi (k+1:Nat) B vars.length cm _ hf) rfl (fun v' G' H' h hg=>by cases h.1) (fun ch G' H' h hg=>?_) (fun G' H' h=>by repeat (first | (cases h.1;done) | (cases h;done) | (obtain⟨_,h⟩:=h) | (rcases h with h | h))))
  obtain⟨he,rfl,c,hc,rfl⟩:=h
  cases he
  refine WK.un ?_
  exact QF.panicP ⟨rfl,rfl,_,⟨c,hc,rfl⟩,rfl⟩
 rw[show layRQ l k vars v= .go (l++[v]) (k+1) vars by rw[layRQ,if_neg hf]]
 refine WA.oo 11 rfl (OW.callK rfl (lay_ok G _ b A cap pi (k+1:Nat) B vars.length cm l x v hv (by omega)) rfl fun v' G' H' h hg=>?_)
 obtain⟨A',cap',x',he,rfl,rfl,hv'⟩:=h
 cases he
 refine WA.done kr ?_
 refine WK.un ?_
 exact QF.p0 (.inr rfl) rfl ⟨rfl,A',cap',x',y,rfl,hv',hy,rfl⟩ pkA
end
end
end Go.Proofs.YtcnlkfocbbkdhaaGreatDoor.Gb
