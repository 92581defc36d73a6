/- The document's look at one instruction; what it takes and lays: walked. What the document knows behind an instruction: walked. The document's look at the kinds an instruction takes: walked. What the document finds wrong with an instruction that is reached: walked. The document finds the least states of a procedure: walked. -/
import Derived.Test.YtcnlkfocbbkdhaaGreatDoorTg
set_option linter.unusedVariables false
set_option linter.unusedSimpArgs false
set_option linter.unusedSectionVars false
namespace Go.Proofs.YtcnlkfocbbkdhaaGreatDoor.Gb
open Go Go.Proofs
section
open Go.MapKept
attribute [local irreducible] Tryz.prog
structure RWp (G:Gh) (w:Wd) (CA NA PA:Option Addr):Prop where
 consts:Sl Kd.val G CA w.consts
 needs:Sl Kd.ned G NA w.needs
 procs:Sl Kd.prc G PA w.procs
 cl:w.consts.length≤100000000000000
 nl:w.needs.length≤100000000000000
 pl:w.procs.length≤100000000000000
 np:∀q∈w.needs,q.params.length≤100000000000000
 pp:∀q∈w.procs,q.params.length≤100000000000000
theorem RWp.mono {G G':Gh} {w:Wd} {CA NA PA:Option Addr} (h:RWp G w CA NA PA) (hg:G.le G'):RWp G' w CA NA PA:=
 ⟨h.consts.mono hg,h.needs.mono hg,h.procs.mono hg,h.cl,h.nl,h.pl,h.np,h.pp⟩
abbrev wdC (w:Wd) (CA NA PA:Option Addr) (cc nc pc:Nat):Array Value:= #[.slice CA w.consts.length cc, .slice NA w.needs.length nc, .slice PA w.procs.length pc]
theorem RWp.takes {G:Gh} {w:Wd} {CA NA PA:Option Addr} {cc nc pc:Nat} (h:RWp G w CA NA PA) (vars:List Int) (i:Int×Int):(effC w vars i).1≤100000000000000:=by
 unfold effC
 have h2:=rowC_takes i.1
 split
 ·simp
 split
 ·simp
 split
 ·cases hq:w.procs[i.2.toNat]? with
  | none=>simp
  | some p=>exact h.pp p (List.mem_of_getElem? hq)
 split
 ·cases hq:w.needs[i.2.toNat]? with
  | none=>simp
  | some p=>exact h.np p (List.mem_of_getElem? hq)
 split
 ·simp
 split
 ·simp
 split
 ·simp
 split<;>simp<;>omega
def limR (w:Wd) (p:Pr) (c:Int):Int:=if c=1 then(w.consts.length:Int)else if c=2∨c=3 then p.locals else if c=7 then(w.procs.length:Int)else if c=8 then(w.needs.length:Int)else(p.code.length:Int)
def itsR (w:Wd) (p:Pr) (c n:Int):Int:=if mayR c n=false then 180 else if(rowC c).n=true∧limR w p c≤n then(if c=5∨c=6 then 182 else 180)else 0
theorem itsR_eq {w:Wd} {p:Pr} (h:p.code.length≤16384) (c n:Int):itsR w p c n=aloneR w p (c,n):=by
 unfold itsR aloneR limR
 cases hm:mayR c n with
 | false=>rfl
 | true=>
  have hm':¬(true=false):=by simp
  rw[if_neg hm',if_neg hm']
  have hmm:=hm
  unfold mayR at hmm
  simp only[Bool.and_eq_true,Bool.or_eq_true,decide_eq_true_eq]at hmm
  obtain⟨_,h0,h1,h2⟩:=hmm
  dsimp only
  rw[←numbR_row]at h2⊢
  by_cases c1:c=1
  ·subst c1;simp[numbR]
  by_cases c2:c=2
  ·subst c2;simp[numbR]
  by_cases c3:c=3
  ·subst c3;simp[numbR]
  by_cases c7:c=7
  ·subst c7;simp[numbR]
  by_cases c8:c=8
  ·subst c8;simp[numbR]
  by_cases c5:c=5
  ·subst c5
   by_cases hn:(p.code.length:Int)≤n
   ·simp[numbR,hn]
   ·simp[numbR,hn];omega
  by_cases c6:c=6
  ·subst c6
   by_cases hn:(p.code.length:Int)≤n
   ·simp[numbR,hn]
   ·simp[numbR,hn];omega
  have hn:numbR c=false:=by unfold numbR;simp[c1,c2,c3,c5,c6,c7,c8]
  rw[hn]at h2⊢
  have hn0:n=0:=by simpa using h2
  subst hn0
  simp[c1,c2,c3,c5,c6,c7,c8]
set_option maxHeartbeats 2000000 in
theorem ritself_fn (G:Gh) (w:Wd) (p:Pr) (CA NA PA:Option Addr) (cc nc pc:Nat) (QA IA:Option Addr) (qc ic:Nat) (c n:Int):
  Fn Tryz.prog 147 #[.agg (wdC w CA NA PA cc nc pc), .agg (prC p QA qc IA ic), .agg #[.int .i64 c, .int .i64 n]] G [] fun e G' H'=>e= .returned (.int .i64 (itsR w p c n))∧G=G'∧H'=[]:=by
 refine Fn.enter Tryz.func147 rfl rfl fun w0=>?_
 refine WC.seq ?_
 refine WC.region ?_
 refine WL.oo (OW.box rfl rfl fun b1=>?_)
 refine WL.oo (OW.box rfl rfl fun b2=>?_)
 refine WL.oo (OW.box rfl rfl fun b3=>?_)
 refine gom ?_
 refine WL.oo (OW.callK rfl (lone_fn G c n) rfl fun v' G' H' h hg=>?_)
 obtain⟨he,rfl,rfl⟩:=h
 cases he
 cases hm:mayR c n with
 | false=>
  have he:itsR w p c n=180:=by unfold itsR;rw[if_pos hm]
  rw[he]
  refine gom ?_
  refine WC.rt ?_
  exact QF.p1 (.inl rfl) rfl (.tmp rfl) (⟨rfl,rfl,rfl⟩)
 | true=>
 have hm':¬(mayR c n=false):=by rw[hm];simp
 refine WL.pick [.blk b1 (.cells (wdC w CA NA PA cc nc pc) 162 (0,0)), .blk b2 (.cells (prC p QA qc IA ic) 47 (0,0)), .blk b3 (.cells #[.int .i64 c, .int .i64 n] 50 (0,0))] ?_
 by_cases c1:c=1
 ·subst c1
  have hr:(rowC 1).n=true:=rfl
  by_cases hq:(w.consts.length:Int)≤n
  ·have z2:decide ((w.consts.length:Int)≤n)=true:=decide_eq_true hq
   have he:itsR w p 1 n=180:=by unfold itsR limR;rw[if_neg hm',if_pos ⟨hr,by simpa using hq⟩];rfl
   rw[he]
   refine gom ?_
   refine WL.oo (OW.callK rfl (numb_fn G [] 1) rfl fun v' G' H' h hg=>?_)
   obtain⟨he2,rfl,rfl⟩:=h
   cases he2
   rw[hr]
   refine gom ?_
   refine WC.rt ?_
   exact QF.p1 (.inl rfl) rfl (.tmp rfl) (⟨rfl,rfl,rfl⟩)
  ·have z2:decide ((w.consts.length:Int)≤n)=false:=decide_eq_false hq
   have he:itsR w p 1 n=0:=by unfold itsR limR;rw[if_neg hm',if_neg (fun h=>hq (by simpa using h.2))]
   rw[he]
   refine gom ?_
   refine WL.oo (OW.callK rfl (numb_fn G [] 1) rfl fun v' G' H' h hg=>?_)
   obtain⟨he2,rfl,rfl⟩:=h
   cases he2
   rw[hr]
   refine gom ?_
   refine WC.rt ?_
   exact QF.p1 (.inl rfl) rfl (.tmp rfl) (⟨rfl,rfl,rfl⟩)
 have y1:(c==1)=false:=by simpa using c1
 by_cases c2:c=2
 ·subst c2
  have hr:(rowC 2).n=true:=rfl
  by_cases hq:p.locals≤n
  ·have z2:decide (p.locals≤n)=true:=decide_eq_true hq
   have he:itsR w p 2 n=180:=by unfold itsR limR;rw[if_neg hm',if_pos ⟨hr,by simpa using hq⟩];rfl
   rw[he]
   refine gom ?_
   refine WL.oo (OW.callK rfl (numb_fn G [] 2) rfl fun v' G' H' h hg=>?_)
   obtain⟨he2,rfl,rfl⟩:=h
   cases he2
   rw[hr]
   refine gom ?_
   refine WC.rt ?_
   exact QF.p1 (.inl rfl) rfl (.tmp rfl) (⟨rfl,rfl,rfl⟩)
  ·have z2:decide (p.locals≤n)=false:=decide_eq_false hq
   have he:itsR w p 2 n=0:=by unfold itsR limR;rw[if_neg hm',if_neg (fun h=>hq (by simpa using h.2))]
   rw[he]
   refine gom ?_
   refine WL.oo (OW.callK rfl (numb_fn G [] 2) rfl fun v' G' H' h hg=>?_)
   obtain⟨he2,rfl,rfl⟩:=h
   cases he2
   rw[hr]
   refine gom ?_
   refine WC.rt ?_
   exact QF.p1 (.inl rfl) rfl (.tmp rfl) (⟨rfl,rfl,rfl⟩)
 have y2:(c==2)=false:=by simpa using c2
 by_cases c3:c=3
 ·subst c3
  have hr:(rowC 3).n=true:=rfl
  by_cases hq:p.locals≤n
  ·have z2:decide (p.locals≤n)=true:=decide_eq_true hq
   have he:itsR w p 3 n=180:=by unfold itsR limR;rw[if_neg hm',if_pos ⟨hr,by simpa using hq⟩];rfl
   rw[he]
   refine gom ?_
   refine WL.oo (OW.callK rfl (numb_fn G [] 3) rfl fun v' G' H' h hg=>?_)
   obtain⟨he2,rfl,rfl⟩:=h
   cases he2
   rw[hr]
   refine gom ?_
   refine WC.rt ?_
   exact QF.p1 (.inl rfl) rfl (.tmp rfl) (⟨rfl,rfl,rfl⟩)
  ·have z2:decide (p.locals≤n)=false:=decide_eq_false hq
   have he:itsR w p 3 n=0:=by unfold itsR limR;rw[if_neg hm',if_neg (fun h=>hq (by simpa using h.2))]
   rw[he]
   refine gom ?_
   refine WL.oo (OW.callK rfl (numb_fn G [] 3) rfl fun v' G' H' h hg=>?_)
   obtain⟨he2,rfl,rfl⟩:=h
   cases he2
   rw[hr]
   refine gom ?_
   refine WC.rt ?_
   exact QF.p1 (.inl rfl) rfl (.tmp rfl) (⟨rfl,rfl,rfl⟩)
 have y3:(c==3)=false:=by simpa using c3
 by_cases c7:c=7
 ·subst c7
  have hr:(rowC 7).n=true:=rfl
  by_cases hq:(w.procs.length:Int)≤n
  ·have z2:decide ((w.procs.length:Int)≤n)=true:=decide_eq_true hq
   have he:itsR w p 7 n=180:=by unfold itsR limR;rw[if_neg hm',if_pos ⟨hr,by simpa using hq⟩];rfl
   rw[he]
   refine gom ?_
   refine WL.oo (OW.callK rfl (numb_fn G [] 7) rfl fun v' G' H' h hg=>?_)
   obtain⟨he2,rfl,rfl⟩:=h
   cases he2
   rw[hr]
   refine gom ?_
   refine WC.rt ?_
   exact QF.p1 (.inl rfl) rfl (.tmp rfl) (⟨rfl,rfl,rfl⟩)
  ·have z2:decide ((w.procs.length:Int)≤n)=false:=decide_eq_false hq
   have he:itsR w p 7 n=0:=by unfold itsR limR;rw[if_neg hm',if_neg (fun h=>hq (by simpa using h.2))]
   rw[he]
   refine gom ?_
   refine WL.oo (OW.callK rfl (numb_fn G [] 7) rfl fun v' G' H' h hg=>?_)
   obtain⟨he2,rfl,rfl⟩:=h
   cases he2
   rw[hr]
   refine gom ?_
   refine WC.rt ?_
   exact QF.p1 (.inl rfl) rfl (.tmp rfl) (⟨rfl,rfl,rfl⟩)
 have y7:(c==7)=false:=by simpa using c7
 by_cases c8:c=8
 ·subst c8
  have hr:(rowC 8).n=true:=rfl
  by_cases hq:(w.needs.length:Int)≤n
  ·have z2:decide ((w.needs.length:Int)≤n)=true:=decide_eq_true hq
   have he:itsR w p 8 n=180:=by unfold itsR limR;rw[if_neg hm',if_pos ⟨hr,by simpa using hq⟩];rfl
   rw[he]
   refine gom ?_
   refine WL.oo (OW.callK rfl (numb_fn G [] 8) rfl fun v' G' H' h hg=>?_)
   obtain⟨he2,rfl,rfl⟩:=h
   cases he2
   rw[hr]
   refine gom ?_
   refine WC.rt ?_
   exact QF.p1 (.inl rfl) rfl (.tmp rfl) (⟨rfl,rfl,rfl⟩)
  ·have z2:decide ((w.needs.length:Int)≤n)=false:=decide_eq_false hq
   have he:itsR w p 8 n=0:=by unfold itsR limR;rw[if_neg hm',if_neg (fun h=>hq (by simpa using h.2))]
   rw[he]
   refine gom ?_
   refine WL.oo (OW.callK rfl (numb_fn G [] 8) rfl fun v' G' H' h hg=>?_)
   obtain⟨he2,rfl,rfl⟩:=h
   cases he2
   rw[hr]
   refine gom ?_
   refine WC.rt ?_
   exact QF.p1 (.inl rfl) rfl (.tmp rfl) (⟨rfl,rfl,rfl⟩)
 have y8:(c==8)=false:=by simpa using c8
 by_cases c5:c=5
 ·subst c5
  have hr:(rowC 5).n=true:=rfl
  by_cases hq:(p.code.length:Int)≤n
  ·have z2:decide ((p.code.length:Int)≤n)=true:=decide_eq_true hq
   have he:itsR w p 5 n=182:=by unfold itsR limR;rw[if_neg hm',if_pos ⟨hr,by simpa using hq⟩];rfl
   rw[he]
   refine gom ?_
   refine WL.oo (OW.callK rfl (numb_fn G [] 5) rfl fun v' G' H' h hg=>?_)
   obtain⟨he2,rfl,rfl⟩:=h
   cases he2
   rw[hr]
   refine gom ?_
   refine WC.rt ?_
   exact QF.p1 (.inl rfl) rfl (.tmp rfl) (⟨rfl,rfl,rfl⟩)
  ·have z2:decide ((p.code.length:Int)≤n)=false:=decide_eq_false hq
   have he:itsR w p 5 n=0:=by unfold itsR limR;rw[if_neg hm',if_neg (fun h=>hq (by simpa using h.2))]
   rw[he]
   refine gom ?_
   refine WL.oo (OW.callK rfl (numb_fn G [] 5) rfl fun v' G' H' h hg=>?_)
   obtain⟨he2,rfl,rfl⟩:=h
   cases he2
   rw[hr]
   refine gom ?_
   refine WC.rt ?_
   exact QF.p1 (.inl rfl) rfl (.tmp rfl) (⟨rfl,rfl,rfl⟩)
 have y5:(c==5)=false:=by simpa using c5
 by_cases c6:c=6
 ·subst c6
  have hr:(rowC 6).n=true:=rfl
  by_cases hq:(p.code.length:Int)≤n
  ·have z2:decide ((p.code.length:Int)≤n)=true:=decide_eq_true hq
   have he:itsR w p 6 n=182:=by unfold itsR limR;rw[if_neg hm',if_pos ⟨hr,by simpa using hq⟩];rfl
   rw[he]
   refine gom ?_
   refine WL.oo (OW.callK rfl (numb_fn G [] 6) rfl fun v' G' H' h hg=>?_)
   obtain⟨he2,rfl,rfl⟩:=h
   cases he2
   rw[hr]
   refine gom ?_
   refine WC.rt ?_
   exact QF.p1 (.inl rfl) rfl (.tmp rfl) (⟨rfl,rfl,rfl⟩)
  ·have z2:decide ((p.code.length:Int)≤n)=false:=decide_eq_false hq
   have he:itsR w p 6 n=0:=by unfold itsR limR;rw[if_neg hm',if_neg (fun h=>hq (by simpa using h.2))]
   rw[he]
   refine gom ?_
   refine WL.oo (OW.callK rfl (numb_fn G [] 6) rfl fun v' G' H' h hg=>?_)
   obtain⟨he2,rfl,rfl⟩:=h
   cases he2
   rw[hr]
   refine gom ?_
   refine WC.rt ?_
   exact QF.p1 (.inl rfl) rfl (.tmp rfl) (⟨rfl,rfl,rfl⟩)
 have y6:(c==6)=false:=by simpa using c6
 have hr:(rowC c).n=false:=by rw[←numbR_row];unfold numbR;simp[c1,c2,c3,c5,c6,c7,c8]
 have he:itsR w p c n=0:=by unfold itsR;rw[if_neg hm',if_neg (fun h=>by rw[hr]at h;exact absurd h.1 (by simp))]
 rw[he]
 refine gom ?_
 refine WL.oo (OW.callK rfl (numb_fn G [] c) rfl fun v' G' H' h hg=>?_)
 obtain⟨he2,rfl,rfl⟩:=h
 cases he2
 rw[hr]
 refine gom ?_
 refine WC.rt ?_
 exact QF.p1 (.inl rfl) rfl (.tmp rfl) (⟨rfl,rfl,rfl⟩)
set_option maxHeartbeats 4000000 in
theorem reffect_fn (G:Gh) (w:Wd) (p:Pr) (CA NA PA:Option Addr) (cc nc pc:Nat) (hW:RWp G w CA NA PA) (QA IA:Option Addr) (qc ic:Nat) (VA:Option Addr) (sv:List Int) (vc:Nat) (hV:Sl (Kd.int .i64) G VA sv) (c:Int) (n:Nat) (ho:EOk w sv.length c n):
  Fn Tryz.prog 177 #[.agg (wdC w CA NA PA cc nc pc), .agg (prC p QA qc IA ic), .agg #[.int .i64 c, .int .i64 n], .slice VA sv.length vc] G []
   fun e G' H'=>∃A cap,e= .returned (.tuple #[.int .i64 (effC w sv (c,n)).1, .slice A (effC w sv (c,n)).2.length cap])∧G.le G'∧Sl (Kd.int .i64) G' A (effC w sv (c,n)).2∧H'=[]:=by
 obtain⟨ho1,ho2,ho3,ho7,ho8⟩:=ho
 refine Fn.enter Tryz.func177 rfl rfl fun w0=>?_
 refine WC.seq ?_
 refine WC.region ?_
 refine WL.oo (OW.box rfl rfl fun b1=>?_)
 refine WL.oo (OW.box rfl rfl fun b2=>?_)
 refine WL.oo (OW.box rfl rfl fun b3=>?_)
 by_cases h1:c=1
 ·subst h1
  obtain⟨v,hvv⟩:∃v,w.consts[n]? =some v:=⟨_,List.getElem?_eq_getElem (ho1 rfl)⟩
  obtain⟨cb,co,cs,rfl,hk,hcs⟩:=hW.consts n v hvv
  obtain rfl:cs=vcells v:=hk
  have x0:(0:Int)≤(n:Int):=by omega
  have x1:(n:Int)<(w.consts.length:Int):=by have:=ho1 rfl;omega
  have he1:effC w sv ((1:Int),(n:Int))=(0,[v.t]):=by unfold effC;simp[hvv]
  refine gom ?_
  refine WL.op kr (OW.buildSlice rfl kr kr (by rfl) rfl fun b4=>?_)
  refine WL.nothing ?_
  refine WL.oo (OW.append rfl rfl kr kr TVec.nil atA (Rds.blk0 (cs:=[.int .i64 v.t]) atA rfl) rfl rfl (by first | omega | (dsimp only;omega)) (by first | omega | (dsimp only;omega)) rfl fun A3 c3 o3 hv3=>?_)
  have h3:=TVec.snoc (l:=[]) hv3
  refine gom ?_
  refine WC.frozenVec h3 atA fun G2 h2 z2=>?_
  have hs2:=IVec.sl z2
  refine WC.rt ?_
  exact QF.p2 (.inl rfl) rfl (.tmp rfl) (.tmp rfl) (⟨A3,c3,by rw[he1];first | done | rfl,h2,by rw[he1];exact hs2,rfl⟩)
 have y1:(c==1)=false:=by simpa using h1
 by_cases h2:c=2
 ·subst h2
  obtain⟨v,hvv⟩:∃v,sv[n]? =some v:=⟨_,List.getElem?_eq_getElem (ho2 rfl)⟩
  obtain⟨cb,co,rfl,hcs⟩:=hV.at hvv
  have x0:(0:Int)≤(n:Int):=by omega
  have x1:(n:Int)<(sv.length:Int):=by have:=ho2 rfl;omega
  have he1:effC w sv ((2:Int),(n:Int))=(0,[v]):=by unfold effC;simp[hvv]
  refine gom ?_
  refine WL.op kr (OW.buildSlice rfl kr kr (by rfl) rfl fun b5=>?_)
  refine WL.nothing ?_
  refine WL.oo (OW.append rfl rfl kr kr TVec.nil atA (Rds.blk0 (cs:=[.int .i64 v]) atA rfl) rfl rfl (by first | omega | (dsimp only;omega)) (by first | omega | (dsimp only;omega)) rfl fun A3 c3 o3 hv3=>?_)
  have h3:=TVec.snoc (l:=[]) hv3
  refine gom ?_
  refine WC.frozenVec h3 atA fun G2 h2 z2=>?_
  have hs2:=IVec.sl z2
  refine WC.rt ?_
  exact QF.p2 (.inl rfl) rfl (.tmp rfl) (.tmp rfl) (⟨A3,c3,by rw[he1];first | done | rfl,h2,by rw[he1];exact hs2,rfl⟩)
 have y2:(c==2)=false:=by simpa using h2
 by_cases h3:c=3
 ·subst h3
  have he1:effC w sv ((3:Int),(n:Int))=(1,[]):=by unfold effC;simp[rowC,rowsC]
  refine gom ?_
  refine WC.rt ?_
  exact QF.p2 (.inl rfl) rfl (.tmp rfl) (.tmp rfl) (⟨none,0,by rw[he1];first | done | rfl,Gh.le_refl _,by rw[he1];exact Sl.nil _ _ _,rfl⟩)
 have y3:(c==3)=false:=by simpa using h3
 by_cases h4:c=4
 ·subst h4
  have he1:effC w sv ((4:Int),(n:Int))=(1,[]):=by unfold effC;simp[rowC,rowsC]
  refine gom ?_
  refine WC.rt ?_
  exact QF.p2 (.inl rfl) rfl (.tmp rfl) (.tmp rfl) (⟨none,0,by rw[he1];first | done | rfl,Gh.le_refl _,by rw[he1];exact Sl.nil _ _ _,rfl⟩)
 have y4:(c==4)=false:=by simpa using h4
 by_cases h6:c=6
 ·subst h6
  have he1:effC w sv ((6:Int),(n:Int))=(1,[]):=by unfold effC;simp[rowC,rowsC]
  refine gom ?_
  refine WC.rt ?_
  exact QF.p2 (.inl rfl) rfl (.tmp rfl) (.tmp rfl) (⟨none,0,by rw[he1];first | done | rfl,Gh.le_refl _,by rw[he1];exact Sl.nil _ _ _,rfl⟩)
 have y6:(c==6)=false:=by simpa using h6
 by_cases h10:c=10
 ·subst h10
  have he1:effC w sv ((10:Int),(n:Int))=(1,[]):=by unfold effC;simp[rowC,rowsC]
  refine gom ?_
  refine WC.rt ?_
  exact QF.p2 (.inl rfl) rfl (.tmp rfl) (.tmp rfl) (⟨none,0,by rw[he1];first | done | rfl,Gh.le_refl _,by rw[he1];exact Sl.nil _ _ _,rfl⟩)
 have y10:(c==10)=false:=by simpa using h10
 by_cases h11:c=11
 ·subst h11
  have he1:effC w sv ((11:Int),(n:Int))=(1,[]):=by unfold effC;simp[rowC,rowsC]
  refine gom ?_
  refine WC.rt ?_
  exact QF.p2 (.inl rfl) rfl (.tmp rfl) (.tmp rfl) (⟨none,0,by rw[he1];first | done | rfl,Gh.le_refl _,by rw[he1];exact Sl.nil _ _ _,rfl⟩)
 have y11:(c==11)=false:=by simpa using h11
 by_cases h7:c=7
 ·subst h7
  obtain⟨q,hq⟩:∃q,w.procs[n]? =some q:=⟨_,List.getElem?_eq_getElem (ho7 rfl)⟩
  obtain⟨cb,co,cs,rfl,hk,hcs⟩:=hW.procs n q hq
  obtain⟨PA2,pc2,CA2,cc2,rfl,hk1,hk2⟩:=hk
  have x0:(0:Int)≤(n:Int):=by omega
  have x1:(n:Int)<(w.procs.length:Int):=by have:=ho7 rfl;omega
  have he1:effC w sv ((7:Int),(n:Int))=(q.params.length,if q.result=0 then []else [q.result]):=by unfold effC;simp[hq,hdE]
  by_cases hr:q.result=0
  ·have e4:(q.result != 0)=false:=by simpa using hr
   rw[if_pos hr]at he1
   refine gom ?_
   refine WC.rt ?_
   exact QF.p2 (.inl rfl) rfl (.tmp rfl) (.tmp rfl) (⟨none,0,by rw[he1];first | done | rfl,Gh.le_refl _,by rw[he1];exact Sl.nil _ _ _,rfl⟩)
  ·have e4:(q.result != 0)=true:=by simpa using hr
   rw[if_neg hr]at he1
   refine gom ?_
   refine WL.op kr (OW.buildSlice rfl kr kr (by rfl) rfl fun b6=>?_)
   refine WL.nothing ?_
   refine WL.oo (OW.append rfl rfl kr kr TVec.nil atA (Rds.blk0 (cs:=[.int .i64 q.result]) atA rfl) rfl rfl (by first | omega | (dsimp only;omega)) (by first | omega | (dsimp only;omega)) rfl fun A3 c3 o3 hv3=>?_)
   have h3:=TVec.snoc (l:=[]) hv3
   refine gom ?_
   refine WC.frozenVec h3 atA fun G2 h2 z2=>?_
   have hs2:=IVec.sl z2
   refine WC.rt ?_
   exact QF.p2 (.inl rfl) rfl (.tmp rfl) (.tmp rfl) (⟨A3,c3,by rw[he1];first | done | rfl,h2,by rw[he1];exact hs2,rfl⟩)
 have y7:(c==7)=false:=by simpa using h7
 by_cases h8:c=8
 ·subst h8
  obtain⟨q,hq⟩:∃q,w.needs[n]? =some q:=⟨_,List.getElem?_eq_getElem (ho8 rfl)⟩
  obtain⟨cb,co,cs,rfl,hk,hcs⟩:=hW.needs n q hq
  obtain⟨PA2,pc2,rfl,hk1⟩:=hk
  have x0:(0:Int)≤(n:Int):=by omega
  have x1:(n:Int)<(w.needs.length:Int):=by have:=ho8 rfl;omega
  have he1:effC w sv ((8:Int),(n:Int))=(q.params.length,if q.result=0 then []else [q.result]):=by unfold effC;simp[hq,hdE]
  by_cases hr:q.result=0
  ·have e4:(q.result != 0)=false:=by simpa using hr
   rw[if_pos hr]at he1
   refine gom ?_
   refine WC.rt ?_
   exact QF.p2 (.inl rfl) rfl (.tmp rfl) (.tmp rfl) (⟨none,0,by rw[he1];first | done | rfl,Gh.le_refl _,by rw[he1];exact Sl.nil _ _ _,rfl⟩)
  ·have e4:(q.result != 0)=true:=by simpa using hr
   rw[if_neg hr]at he1
   refine gom ?_
   refine WL.op kr (OW.buildSlice rfl kr kr (by rfl) rfl fun b7=>?_)
   refine WL.nothing ?_
   refine WL.oo (OW.append rfl rfl kr kr TVec.nil atA (Rds.blk0 (cs:=[.int .i64 q.result]) atA rfl) rfl rfl (by first | omega | (dsimp only;omega)) (by first | omega | (dsimp only;omega)) rfl fun A3 c3 o3 hv3=>?_)
   have h3:=TVec.snoc (l:=[]) hv3
   refine gom ?_
   refine WC.frozenVec h3 atA fun G2 h2 z2=>?_
   have hs2:=IVec.sl z2
   refine WC.rt ?_
   exact QF.p2 (.inl rfl) rfl (.tmp rfl) (.tmp rfl) (⟨A3,c3,by rw[he1];first | done | rfl,h2,by rw[he1];exact hs2,rfl⟩)
 have y8:(c==8)=false:=by simpa using h8
 by_cases h12:c=12
 ·subst h12
  have he1:effC w sv ((12:Int),(n:Int))=(2,[2]):=by unfold effC;simp[rowC,rowsC]
  refine gom ?_
  refine WL.op kr (OW.buildSlice rfl kr kr (by rfl) rfl fun b8=>?_)
  refine WL.nothing ?_
  refine WL.oo (OW.append rfl rfl kr kr TVec.nil atA (Rds.blk0 (cs:=[.int .i64 2]) atA rfl) rfl rfl (by first | omega | (dsimp only;omega)) (by first | omega | (dsimp only;omega)) rfl fun A3 c3 o3 hv3=>?_)
  have h3:=TVec.snoc (l:=[]) hv3
  refine gom ?_
  refine WC.frozenVec h3 atA fun G2 h2 z2=>?_
  have hs2:=IVec.sl z2
  refine WC.rt ?_
  exact QF.p2 (.inl rfl) rfl (.tmp rfl) (.tmp rfl) (⟨A3,c3,by rw[he1];first | done | rfl,h2,by rw[he1];exact hs2,rfl⟩)
 have y12:(c==12)=false:=by simpa using h12
 by_cases h13:c=13
 ·subst h13
  have he1:effC w sv ((13:Int),(n:Int))=(2,[2]):=by unfold effC;simp[rowC,rowsC]
  refine gom ?_
  refine WL.op kr (OW.buildSlice rfl kr kr (by rfl) rfl fun b8=>?_)
  refine WL.nothing ?_
  refine WL.oo (OW.append rfl rfl kr kr TVec.nil atA (Rds.blk0 (cs:=[.int .i64 2]) atA rfl) rfl rfl (by first | omega | (dsimp only;omega)) (by first | omega | (dsimp only;omega)) rfl fun A3 c3 o3 hv3=>?_)
  have h3:=TVec.snoc (l:=[]) hv3
  refine gom ?_
  refine WC.frozenVec h3 atA fun G2 h2 z2=>?_
  have hs2:=IVec.sl z2
  refine WC.rt ?_
  exact QF.p2 (.inl rfl) rfl (.tmp rfl) (.tmp rfl) (⟨A3,c3,by rw[he1];first | done | rfl,h2,by rw[he1];exact hs2,rfl⟩)
 have y13:(c==13)=false:=by simpa using h13
 by_cases h14:c=14
 ·subst h14
  have he1:effC w sv ((14:Int),(n:Int))=(2,[2]):=by unfold effC;simp[rowC,rowsC]
  refine gom ?_
  refine WL.op kr (OW.buildSlice rfl kr kr (by rfl) rfl fun b8=>?_)
  refine WL.nothing ?_
  refine WL.oo (OW.append rfl rfl kr kr TVec.nil atA (Rds.blk0 (cs:=[.int .i64 2]) atA rfl) rfl rfl (by first | omega | (dsimp only;omega)) (by first | omega | (dsimp only;omega)) rfl fun A3 c3 o3 hv3=>?_)
  have h3:=TVec.snoc (l:=[]) hv3
  refine gom ?_
  refine WC.frozenVec h3 atA fun G2 h2 z2=>?_
  have hs2:=IVec.sl z2
  refine WC.rt ?_
  exact QF.p2 (.inl rfl) rfl (.tmp rfl) (.tmp rfl) (⟨A3,c3,by rw[he1];first | done | rfl,h2,by rw[he1];exact hs2,rfl⟩)
 have y14:(c==14)=false:=by simpa using h14
 by_cases h15:c=15
 ·subst h15
  have he1:effC w sv ((15:Int),(n:Int))=(2,[2]):=by unfold effC;simp[rowC,rowsC]
  refine gom ?_
  refine WL.op kr (OW.buildSlice rfl kr kr (by rfl) rfl fun b8=>?_)
  refine WL.nothing ?_
  refine WL.oo (OW.append rfl rfl kr kr TVec.nil atA (Rds.blk0 (cs:=[.int .i64 2]) atA rfl) rfl rfl (by first | omega | (dsimp only;omega)) (by first | omega | (dsimp only;omega)) rfl fun A3 c3 o3 hv3=>?_)
  have h3:=TVec.snoc (l:=[]) hv3
  refine gom ?_
  refine WC.frozenVec h3 atA fun G2 h2 z2=>?_
  have hs2:=IVec.sl z2
  refine WC.rt ?_
  exact QF.p2 (.inl rfl) rfl (.tmp rfl) (.tmp rfl) (⟨A3,c3,by rw[he1];first | done | rfl,h2,by rw[he1];exact hs2,rfl⟩)
 have y15:(c==15)=false:=by simpa using h15
 by_cases h16:c=16
 ·subst h16
  have he1:effC w sv ((16:Int),(n:Int))=(2,[2]):=by unfold effC;simp[rowC,rowsC]
  refine gom ?_
  refine WL.op kr (OW.buildSlice rfl kr kr (by rfl) rfl fun b8=>?_)
  refine WL.nothing ?_
  refine WL.oo (OW.append rfl rfl kr kr TVec.nil atA (Rds.blk0 (cs:=[.int .i64 2]) atA rfl) rfl rfl (by first | omega | (dsimp only;omega)) (by first | omega | (dsimp only;omega)) rfl fun A3 c3 o3 hv3=>?_)
  have h3:=TVec.snoc (l:=[]) hv3
  refine gom ?_
  refine WC.frozenVec h3 atA fun G2 h2 z2=>?_
  have hs2:=IVec.sl z2
  refine WC.rt ?_
  exact QF.p2 (.inl rfl) rfl (.tmp rfl) (.tmp rfl) (⟨A3,c3,by rw[he1];first | done | rfl,h2,by rw[he1];exact hs2,rfl⟩)
 have y16:(c==16)=false:=by simpa using h16
 by_cases h17:c=17
 ·subst h17
  have he1:effC w sv ((17:Int),(n:Int))=(2,[2]):=by unfold effC;simp[rowC,rowsC]
  refine gom ?_
  refine WL.op kr (OW.buildSlice rfl kr kr (by rfl) rfl fun b8=>?_)
  refine WL.nothing ?_
  refine WL.oo (OW.append rfl rfl kr kr TVec.nil atA (Rds.blk0 (cs:=[.int .i64 2]) atA rfl) rfl rfl (by first | omega | (dsimp only;omega)) (by first | omega | (dsimp only;omega)) rfl fun A3 c3 o3 hv3=>?_)
  have h3:=TVec.snoc (l:=[]) hv3
  refine gom ?_
  refine WC.frozenVec h3 atA fun G2 h2 z2=>?_
  have hs2:=IVec.sl z2
  refine WC.rt ?_
  exact QF.p2 (.inl rfl) rfl (.tmp rfl) (.tmp rfl) (⟨A3,c3,by rw[he1];first | done | rfl,h2,by rw[he1];exact hs2,rfl⟩)
 have y17:(c==17)=false:=by simpa using h17
 by_cases h20:c=20
 ·subst h20
  have he1:effC w sv ((20:Int),(n:Int))=(2,[3]):=by unfold effC;simp[rowC,rowsC]
  refine gom ?_
  refine WL.op kr (OW.buildSlice rfl kr kr (by rfl) rfl fun b9=>?_)
  refine WL.nothing ?_
  refine WL.oo (OW.append rfl rfl kr kr TVec.nil atA (Rds.blk0 (cs:=[.int .i64 3]) atA rfl) rfl rfl (by first | omega | (dsimp only;omega)) (by first | omega | (dsimp only;omega)) rfl fun A3 c3 o3 hv3=>?_)
  have h3:=TVec.snoc (l:=[]) hv3
  refine gom ?_
  refine WC.frozenVec h3 atA fun G2 h2 z2=>?_
  have hs2:=IVec.sl z2
  refine WC.rt ?_
  exact QF.p2 (.inl rfl) rfl (.tmp rfl) (.tmp rfl) (⟨A3,c3,by rw[he1];first | done | rfl,h2,by rw[he1];exact hs2,rfl⟩)
 have y20:(c==20)=false:=by simpa using h20
 by_cases h18:c=18
 ·subst h18
  have he1:effC w sv ((18:Int),(n:Int))=(2,[1]):=by unfold effC;simp[rowC,rowsC]
  refine gom ?_
  refine WL.op kr (OW.buildSlice rfl kr kr (by rfl) rfl fun b10=>?_)
  refine WL.nothing ?_
  refine WL.oo (OW.append rfl rfl kr kr TVec.nil atA (Rds.blk0 (cs:=[.int .i64 1]) atA rfl) rfl rfl (by first | omega | (dsimp only;omega)) (by first | omega | (dsimp only;omega)) rfl fun A3 c3 o3 hv3=>?_)
  have h3:=TVec.snoc (l:=[]) hv3
  refine gom ?_
  refine WC.frozenVec h3 atA fun G2 h2 z2=>?_
  have hs2:=IVec.sl z2
  refine WC.rt ?_
  exact QF.p2 (.inl rfl) rfl (.tmp rfl) (.tmp rfl) (⟨A3,c3,by rw[he1];first | done | rfl,h2,by rw[he1];exact hs2,rfl⟩)
 have y18:(c==18)=false:=by simpa using h18
 by_cases h19:c=19
 ·subst h19
  have he1:effC w sv ((19:Int),(n:Int))=(2,[1]):=by unfold effC;simp[rowC,rowsC]
  refine gom ?_
  refine WL.op kr (OW.buildSlice rfl kr kr (by rfl) rfl fun b10=>?_)
  refine WL.nothing ?_
  refine WL.oo (OW.append rfl rfl kr kr TVec.nil atA (Rds.blk0 (cs:=[.int .i64 1]) atA rfl) rfl rfl (by first | omega | (dsimp only;omega)) (by first | omega | (dsimp only;omega)) rfl fun A3 c3 o3 hv3=>?_)
  have h3:=TVec.snoc (l:=[]) hv3
  refine gom ?_
  refine WC.frozenVec h3 atA fun G2 h2 z2=>?_
  have hs2:=IVec.sl z2
  refine WC.rt ?_
  exact QF.p2 (.inl rfl) rfl (.tmp rfl) (.tmp rfl) (⟨A3,c3,by rw[he1];first | done | rfl,h2,by rw[he1];exact hs2,rfl⟩)
 have y19:(c==19)=false:=by simpa using h19
 by_cases h21:c=21
 ·subst h21
  have he1:effC w sv ((21:Int),(n:Int))=(2,[1]):=by unfold effC;simp[rowC,rowsC]
  refine gom ?_
  refine WL.op kr (OW.buildSlice rfl kr kr (by rfl) rfl fun b10=>?_)
  refine WL.nothing ?_
  refine WL.oo (OW.append rfl rfl kr kr TVec.nil atA (Rds.blk0 (cs:=[.int .i64 1]) atA rfl) rfl rfl (by first | omega | (dsimp only;omega)) (by first | omega | (dsimp only;omega)) rfl fun A3 c3 o3 hv3=>?_)
  have h3:=TVec.snoc (l:=[]) hv3
  refine gom ?_
  refine WC.frozenVec h3 atA fun G2 h2 z2=>?_
  have hs2:=IVec.sl z2
  refine WC.rt ?_
  exact QF.p2 (.inl rfl) rfl (.tmp rfl) (.tmp rfl) (⟨A3,c3,by rw[he1];first | done | rfl,h2,by rw[he1];exact hs2,rfl⟩)
 have y21:(c==21)=false:=by simpa using h21
 by_cases h22:c=22
 ·subst h22
  have he1:effC w sv ((22:Int),(n:Int))=(2,[1]):=by unfold effC;simp[rowC,rowsC]
  refine gom ?_
  refine WL.op kr (OW.buildSlice rfl kr kr (by rfl) rfl fun b10=>?_)
  refine WL.nothing ?_
  refine WL.oo (OW.append rfl rfl kr kr TVec.nil atA (Rds.blk0 (cs:=[.int .i64 1]) atA rfl) rfl rfl (by first | omega | (dsimp only;omega)) (by first | omega | (dsimp only;omega)) rfl fun A3 c3 o3 hv3=>?_)
  have h3:=TVec.snoc (l:=[]) hv3
  refine gom ?_
  refine WC.frozenVec h3 atA fun G2 h2 z2=>?_
  have hs2:=IVec.sl z2
  refine WC.rt ?_
  exact QF.p2 (.inl rfl) rfl (.tmp rfl) (.tmp rfl) (⟨A3,c3,by rw[he1];first | done | rfl,h2,by rw[he1];exact hs2,rfl⟩)
 have y22:(c==22)=false:=by simpa using h22
 by_cases h23:c=23
 ·subst h23
  have he1:effC w sv ((23:Int),(n:Int))=(2,[1]):=by unfold effC;simp[rowC,rowsC]
  refine gom ?_
  refine WL.op kr (OW.buildSlice rfl kr kr (by rfl) rfl fun b10=>?_)
  refine WL.nothing ?_
  refine WL.oo (OW.append rfl rfl kr kr TVec.nil atA (Rds.blk0 (cs:=[.int .i64 1]) atA rfl) rfl rfl (by first | omega | (dsimp only;omega)) (by first | omega | (dsimp only;omega)) rfl fun A3 c3 o3 hv3=>?_)
  have h3:=TVec.snoc (l:=[]) hv3
  refine gom ?_
  refine WC.frozenVec h3 atA fun G2 h2 z2=>?_
  have hs2:=IVec.sl z2
  refine WC.rt ?_
  exact QF.p2 (.inl rfl) rfl (.tmp rfl) (.tmp rfl) (⟨A3,c3,by rw[he1];first | done | rfl,h2,by rw[he1];exact hs2,rfl⟩)
 have y23:(c==23)=false:=by simpa using h23
 by_cases h24:c=24
 ·subst h24
  have he1:effC w sv ((24:Int),(n:Int))=(1,[1]):=by unfold effC;simp[rowC,rowsC]
  refine gom ?_
  refine WL.op kr (OW.buildSlice rfl kr kr (by rfl) rfl fun b11=>?_)
  refine WL.nothing ?_
  refine WL.oo (OW.append rfl rfl kr kr TVec.nil atA (Rds.blk0 (cs:=[.int .i64 1]) atA rfl) rfl rfl (by first | omega | (dsimp only;omega)) (by first | omega | (dsimp only;omega)) rfl fun A3 c3 o3 hv3=>?_)
  have h3:=TVec.snoc (l:=[]) hv3
  refine gom ?_
  refine WC.frozenVec h3 atA fun G2 h2 z2=>?_
  have hs2:=IVec.sl z2
  refine WC.rt ?_
  exact QF.p2 (.inl rfl) rfl (.tmp rfl) (.tmp rfl) (⟨A3,c3,by rw[he1];first | done | rfl,h2,by rw[he1];exact hs2,rfl⟩)
 have y24:(c==24)=false:=by simpa using h24
 by_cases h26:c=26
 ·subst h26
  have he1:effC w sv ((26:Int),(n:Int))=(1,[1]):=by unfold effC;simp[rowC,rowsC]
  refine gom ?_
  refine WL.op kr (OW.buildSlice rfl kr kr (by rfl) rfl fun b11=>?_)
  refine WL.nothing ?_
  refine WL.oo (OW.append rfl rfl kr kr TVec.nil atA (Rds.blk0 (cs:=[.int .i64 1]) atA rfl) rfl rfl (by first | omega | (dsimp only;omega)) (by first | omega | (dsimp only;omega)) rfl fun A3 c3 o3 hv3=>?_)
  have h3:=TVec.snoc (l:=[]) hv3
  refine gom ?_
  refine WC.frozenVec h3 atA fun G2 h2 z2=>?_
  have hs2:=IVec.sl z2
  refine WC.rt ?_
  exact QF.p2 (.inl rfl) rfl (.tmp rfl) (.tmp rfl) (⟨A3,c3,by rw[he1];first | done | rfl,h2,by rw[he1];exact hs2,rfl⟩)
 have y26:(c==26)=false:=by simpa using h26
 by_cases h25:c=25
 ·subst h25
  have he1:effC w sv ((25:Int),(n:Int))=(1,[2]):=by unfold effC;simp[rowC,rowsC]
  refine gom ?_
  refine WL.op kr (OW.buildSlice rfl kr kr (by rfl) rfl fun b12=>?_)
  refine WL.nothing ?_
  refine WL.oo (OW.append rfl rfl kr kr TVec.nil atA (Rds.blk0 (cs:=[.int .i64 2]) atA rfl) rfl rfl (by first | omega | (dsimp only;omega)) (by first | omega | (dsimp only;omega)) rfl fun A3 c3 o3 hv3=>?_)
  have h3:=TVec.snoc (l:=[]) hv3
  refine gom ?_
  refine WC.frozenVec h3 atA fun G2 h2 z2=>?_
  have hs2:=IVec.sl z2
  refine WC.rt ?_
  exact QF.p2 (.inl rfl) rfl (.tmp rfl) (.tmp rfl) (⟨A3,c3,by rw[he1];first | done | rfl,h2,by rw[he1];exact hs2,rfl⟩)
 have y25:(c==25)=false:=by simpa using h25
 have he1:effC w sv (c,(n:Int))=(0,[]):=by
  by_cases h:1≤c∧c≤26
  ·obtain h5 | h9:c=5∨c=9:=by omega
   ·subst h5;unfold effC;simp[rowC,rowsC]
   ·subst h9;unfold effC;simp[rowC,rowsC]
  ·unfold effC
   rw[rowC_out h]
   rw[if_neg h1,if_neg h2,if_neg h7,if_neg h8,if_neg h20,if_neg (by omega),if_neg h25];rfl
 refine gom ?_
 refine WC.rt ?_
 exact QF.p2 (.inl rfl) rfl (.tmp rfl) (.tmp rfl) (⟨none,0,by rw[he1];first | done | rfl,Gh.le_refl _,by rw[he1];exact Sl.nil _ _ _,rfl⟩)
end
section
open Go.MapKept
attribute [local irreducible] Tryz.prog
theorem TVec.nilv:Vec 44 1 none 0 0 [] (.spare 0 0 0):=⟨rfl, .inl ⟨rfl,rfl,rfl,rfl⟩⟩
theorem Sl.takeV {α:Type} {k:Kd α} {G:Gh} {A:Option Addr} {xs:List α} (h:Sl k G A xs) (n:Nat):Sl k G A (xs.take n):=fun i x hx=>h i x (by
 rw[List.getElem?_take]at hx
 split at hx
 ·exact hx
 ·cases hx)
section
variable (G:Gh) (w:Wd) (p:Pr) (CA NA PA:Option Addr) (cc nc pc:Nat) (hW:RWp G w CA NA PA) (QA IA:Option Addr) (qc ic:Nat)
include hW
set_option maxHeartbeats 4000000 in
theorem rbehind_fn (s:SS) (VA:Option Addr) (vc:Nat) (SA:Option Addr) (sc:Nat) (hS:SRep G s VA vc SA sc) (hr:s.reached=true) (hv:s.vars.length≤1000000000) (hk:s.stack.length≤1000000000) (c:Int) (n:Nat) (ho:EOk w s.vars.length c n):
  Fn Tryz.prog 173 #[.agg (wdC w CA NA PA cc nc pc), .agg (prC p QA qc IA ic), .agg #[.int .i64 c, .int .i64 n],rsV s VA vc SA sc] G []
   fun e G' H'=>∃V' v' S' s',e= .returned (rsV (behR w (c,n) s) V' v' S' s')∧G.le G'∧SRep G' (behR w (c,n) s) V' v' S' s'∧H'=[]:=by
 have htk:=hW.takes (cc:=cc) (nc:=nc) (pc:=pc) s.vars (c,n)
 have hly:=effC_lays w s.vars (c,n)
 refine Fn.enter Tryz.func173 rfl rfl fun w0=>?_
 obtain⟨sr,su,sv,sk⟩:=s
 dsimp only at htk hly hv hk ho hr⊢
 subst hr
 refine WC.seq ?_
 refine WC.region ?_
 refine WL.oo (OW.box rfl rfl fun b1=>?_)
 refine WL.oo (OW.box rfl rfl fun b2=>?_)
 refine WL.oo (OW.box rfl rfl fun b3=>?_)
 refine WL.oo (OW.box rfl rfl fun b4=>?_)
 refine WL.oo (OW.alloc rfl fun b5=>?_)
 refine gom ?_
 refine WL.oo (OW.alloc rfl fun b6=>?_)
 refine gom ?_
 refine WL.nothing ?_
 refine WL.oo (OW.append rfl rfl kr kr TVec.nilv atA hS.vars.ints (ints_length _) (ints_one _) (by first | omega | (dsimp only;omega)) (by first | omega | (dsimp only;omega)) rfl fun A1 c1 x1 hx1=>?_)
 rw[Nat.zero_add]at hx1⊢
 rw[List.nil_append]at hx1
 replace hx1:TVec A1 sv c1 x1:=hx1
 have ho3:=ho.store
 have hvl:(varsR (c,(n:Int)) ⟨true,su,sv,sk⟩).length=sv.length:=varsR_length _ _
 refine zw.fa ?_
 refine zw.st ?_
 refine WL.nil ?_
 refine WK.un ?_
 refine WC.join (X:=Own) (fun _=>[(4, .pointer (some ⟨b1,0,none⟩)),(5, .pointer (some ⟨b2,0,none⟩)),(6, .pointer (some ⟨b3,0,none⟩)),(7, .pointer (some ⟨b4,0,none⟩)),(8, .pointer (some ⟨b5,0,none⟩)),(9, .pointer (some ⟨b6,0,none⟩))]) (fun _=>G)
  (fun o=>[o, .blk b6 (.cells #[.bool true, .slice A1 sv.length c1, .bool false, .slice none 0 0] 220 (0,0)), .blk b1 (.cells (wdC w CA NA PA cc nc pc) 162 (0,0)), .blk b2 (.cells (prC p QA qc IA ic) 47 (0,0)), .blk b3 (.cells #[.int .i64 c, .int .i64 n] 50 (0,0)), .blk b4 (.cells #[.bool true, .slice VA sv.length vc, .bool su, .slice SA sk.length sc] 220 (0,0)), .blk b5 (.cells #[.bool false, .slice none 0 0, .bool false, .slice none 0 0] 220 (0,0))])
  (fun o=>Vec 44 1 A1 sv.length c1 (ints (varsR (c,(n:Int)) ⟨true,su,sv,sk⟩)) o) ?_ fun o hx1'=>?_
 ·by_cases h3:c=3
  rotate_left
  ·have y3:(c==3)=false:=by simpa using h3
   refine gom ?_
   refine WK.pick [x1, .blk b6 (.cells #[.bool true, .slice A1 sv.length c1, .bool false, .slice none 0 0] 220 (0,0)), .blk b1 (.cells (wdC w CA NA PA cc nc pc) 162 (0,0)), .blk b2 (.cells (prC p QA qc IA ic) 47 (0,0)), .blk b3 (.cells #[.int .i64 c, .int .i64 n] 50 (0,0)), .blk b4 (.cells #[.bool true, .slice VA sv.length vc, .bool su, .slice SA sk.length sc] 220 (0,0)), .blk b5 (.cells #[.bool false, .slice none 0 0, .bool false, .slice none 0 0] 220 (0,0))] ?_
   exact WK.meet (x1) (by unfold varsR;rw[if_neg h3];exact hx1) (by exact⟨rfl,rfl,rfl,rfl,rfl,rfl,trivial⟩) rfl (List.Sublist.refl _)
  subst h3
  have hn:=ho3 rfl
  obtain⟨xb,xc,rfl,rfl,hxc⟩:=hx1.some (by omega)
  have hn0:0+((n:Nat):Int).toNat*1=n:=by omega
  obtain⟨_,hfit,hput⟩:=IVec.put hx1 (i:=0+((n:Nat):Int).toNat*1) (by omega) 0
  have hble:Nat.ble (0+((n:Nat):Int).toNat*1+1) xc.size=true:=Nat.ble_eq_true_of_le (by omega)
  have x0:(0:Int)≤(n:Int):=by omega
  have x1:(n:Int)<(sv.length:Int):=by omega
  have hput':Vec 44 1 (some ⟨xb,0,none⟩) sv.length c1 (ints (sv.set n 0)) (.blk xb (.cells (splice xc (0+((n:Nat):Int).toNat*1) [.int .i64 0]) 44 (0,0))):=by
   have h:=hput
   unfold IVec at h
   rw[List.length_set]at h
   rwa [hn0]at h⊢
  cases su with
  | true=>
   refine gom ?_
   refine WK.pick [.blk xb (.cells (splice xc (0+((n:Nat):Int).toNat*1) [.int .i64 0]) 44 (0,0)), .blk b6 (.cells #[.bool true, .slice (some ⟨xb,0,none⟩) sv.length c1, .bool false, .slice none 0 0] 220 (0,0)), .blk b1 (.cells (wdC w CA NA PA cc nc pc) 162 (0,0)), .blk b2 (.cells (prC p QA qc IA ic) 47 (0,0)), .blk b3 (.cells #[.int .i64 3, .int .i64 n] 50 (0,0)), .blk b4 (.cells #[.bool true, .slice VA sv.length vc, .bool true, .slice SA sk.length sc] 220 (0,0)), .blk b5 (.cells #[.bool false, .slice none 0 0, .bool false, .slice none 0 0] 220 (0,0))] ?_
   exact WK.meet (.blk xb (.cells (splice xc (0+((n:Nat):Int).toNat*1) [.int .i64 0]) 44 (0,0))) (hput') (by exact⟨rfl,rfl,rfl,rfl,rfl,rfl,trivial⟩) rfl (List.Sublist.refl _)
  | false=>
  by_cases hk0:sk.length=0
  ·have y4:decide ((0:Int)<(sk.length:Int))=false:=decide_eq_false (by omega)
   have ht:topS ⟨true,false,sv,sk⟩=0:=by
    have:sk=[]:=List.eq_nil_of_length_eq_zero hk0
    subst this;rfl
   refine gom ?_
   refine WK.pick [.blk xb (.cells (splice xc (0+((n:Nat):Int).toNat*1) [.int .i64 0]) 44 (0,0)), .blk b6 (.cells #[.bool true, .slice (some ⟨xb,0,none⟩) sv.length c1, .bool false, .slice none 0 0] 220 (0,0)), .blk b1 (.cells (wdC w CA NA PA cc nc pc) 162 (0,0)), .blk b2 (.cells (prC p QA qc IA ic) 47 (0,0)), .blk b3 (.cells #[.int .i64 3, .int .i64 n] 50 (0,0)), .blk b4 (.cells #[.bool true, .slice VA sv.length vc, .bool false, .slice SA sk.length sc] 220 (0,0)), .blk b5 (.cells #[.bool false, .slice none 0 0, .bool false, .slice none 0 0] 220 (0,0))] ?_
   exact WK.meet (.blk xb (.cells (splice xc (0+((n:Nat):Int).toNat*1) [.int .i64 0]) 44 (0,0))) (by unfold varsR;rw[if_pos rfl,ht];exact hput') (by exact⟨rfl,rfl,rfl,rfl,rfl,rfl,trivial⟩) rfl (List.Sublist.refl _)
  have y4:decide ((0:Int)<(sk.length:Int))=true:=decide_eq_true (by omega)
  obtain⟨z,hz⟩:∃z,sk[sk.length - 1]? =some z:=⟨_,List.getElem?_eq_getElem (by omega)⟩
  have ht:topS ⟨true,false,sv,sk⟩=z:=by
   show(sk[sk.length - 1]?).getD 0=z
   rw[hz];rfl
  obtain⟨zb,zo,rfl,hzc⟩:=hS.stack.at hz
  have y5:IntKind.i64.wrap ((sk.length:Int) - 1)=((sk.length - 1:Nat):Int):=by
   have e:=wrapI (x:=(sk.length:Int) - 1) (by omega) (by omega)
   rw[e];omega
  have z0:(0:Int)≤((sk.length - 1:Nat):Int):=by omega
  have z1:((sk.length - 1:Nat):Int)<(sk.length:Int):=by omega
  obtain⟨_,hfit2,hput2⟩:=IVec.put hput (i:=0+((n:Nat):Int).toNat*1) (by rw[List.length_set];omega) z
  have hble2:Nat.ble (0+((n:Nat):Int).toNat*1+1) (splice xc (0+((n:Nat):Int).toNat*1) [.int .i64 0]).size=true:=Nat.ble_eq_true_of_le (by omega)
  have hput2':Vec 44 1 (some ⟨xb,0,none⟩) sv.length c1 (ints (sv.set n z)) (.blk xb (.cells (splice (splice xc (0+((n:Nat):Int).toNat*1) [.int .i64 0]) (0+((n:Nat):Int).toNat*1) [.int .i64 z]) 44 (0,0))):=by
   have h:=hput2
   unfold IVec at h
   rw[List.set_set,List.length_set]at h
   rwa [hn0]at h⊢
  refine go ?_
  refine WC.draw mixed ?_
  refine za.fa 0 ?_
  refine za.fa 2 ?_
  refine za.fa 4 ?_
  refine za.fa 6 ?_
  refine za.ld 7 ?_
  refine za.len 8 ?_
  refine WA.pp 9 rfl (Gp.sub' rfl rfl y5) ?_
  refine za.ld 1 ?_
  refine za.ld 3 ?_
  refine za.ld 5 ?_
  refine za.ix 10 ?_
  refine WA.vv 11 rfl (Gv.loadG1 (i:=0) rfl hzc rfl) ?_
  refine za.ix 12 ?_
  refine WA.oo 13 rfl (OW.store (n:=1) (cs:=[.int .i64 z]) rfl rfl atA rfl rfl rfl hble2 rfl ?_ rfl)
  refine WA.done kr ?_
  refine WK.un ?_
  refine WK.pick [.blk xb (.cells (splice (splice xc (0+((n:Nat):Int).toNat*1) [.int .i64 0]) (0+((n:Nat):Int).toNat*1) [.int .i64 z]) 44 (0,0)), .blk b6 (.cells #[.bool true, .slice (some ⟨xb,0,none⟩) sv.length c1, .bool false, .slice none 0 0] 220 (0,0)), .blk b1 (.cells (wdC w CA NA PA cc nc pc) 162 (0,0)), .blk b2 (.cells (prC p QA qc IA ic) 47 (0,0)), .blk b3 (.cells #[.int .i64 3, .int .i64 n] 50 (0,0)), .blk b4 (.cells #[.bool true, .slice VA sv.length vc, .bool false, .slice (some ⟨zb,zo,none⟩) sk.length sc] 220 (0,0)), .blk b5 (.cells #[.bool false, .slice none 0 0, .bool false, .slice none 0 0] 220 (0,0))] ?_
  exact WK.meet (.blk xb (.cells (splice (splice xc (0+((n:Nat):Int).toNat*1) [.int .i64 0]) (0+((n:Nat):Int).toNat*1) [.int .i64 z]) 44 (0,0))) (by unfold varsR;rw[if_pos rfl,ht];exact hput2') (by exact⟨rfl,rfl,rfl,rfl,rfl,rfl,trivial⟩) rfl (List.Sublist.refl _)
 have hx1v:TVec A1 (varsR (c,(n:Int)) ⟨true,su,sv,sk⟩) c1 o:=by unfold TVec IVec;rw[hvl];exact hx1'
 clear hx1
 refine gom ?_
 refine WL.oo (OW.callK rfl (reffect_fn G w p CA NA PA cc nc pc hW QA IA qc ic VA sv vc hS.vars c n ho) rfl fun v' G' H' h hg=>?_)
 obtain⟨LA,lc,he,hg1,hs1,rfl⟩:=h
 cases he
 obtain⟨tk,htke⟩:∃tk,tk=(effC w sv (c,n)).1:=⟨_,rfl⟩
 obtain⟨ly,hlye⟩:∃ly,ly=(effC w sv (c,n)).2:=⟨_,rfl⟩
 rw[←htke]at htk
 rw[←hlye]at hly hs1
 rw[←htke,←hlye]
 refine WL.pick [o, .blk b6 (.cells #[.bool true, .slice A1 sv.length c1, .bool false, .slice none 0 0] 220 (0,0)), .blk b1 (.cells (wdC w CA NA PA cc nc pc) 162 (0,0)), .blk b2 (.cells (prC p QA qc IA ic) 47 (0,0)), .blk b3 (.cells #[.int .i64 c, .int .i64 n] 50 (0,0)), .blk b4 (.cells #[.bool true, .slice VA sv.length vc, .bool su, .slice SA sk.length sc] 220 (0,0)), .blk b5 (.cells #[.bool false, .slice none 0 0, .bool false, .slice none 0 0] 220 (0,0))] ?_
 have y1:IntKind.i64.wrap ((sk.length:Int) - (tk:Int))=(sk.length:Int) - (tk:Int):=wrapI (by omega) (by omega)
 by_cases hb:badS w (c,(n:Int)) ⟨true,su,sv,sk⟩
 ·have he1:behR w (c,(n:Int)) ⟨true,su,sv,sk⟩=⟨true,true,varsR (c,(n:Int)) ⟨true,su,sv,sk⟩,[]⟩:=by unfold behR;rw[if_pos hb]
  rw[he1]
  have hb':su=true∨(sk.length<tk∨128<sk.length - tk+ly.length):=by unfold badS at hb;rw[htke,hlye];exact hb
  cases su with
  | true=>
   refine gom ?_
   refine WC.frozenVec hx1v atA fun G3 h3 z3=>?_
   refine WC.rt ?_
   exact QF.p1 (.inl rfl) rfl (.cell rfl inferInstance inferInstance atA rfl rfl) (⟨A1,c1,none,0,by show _=Ending.returned (.agg #[.bool true, .slice A1 (varsR (c,(n:Int)) ⟨true,true,sv,sk⟩).length c1, .bool true, .slice none 0 0]);rw[hvl];first | done | rfl,Gh.le_trans hg1 h3,⟨hx1v.le,Nat.le_refl _,IVec.sl z3,Sl.nil _ _ _⟩,rfl⟩)
  | false=>
  by_cases h1:sk.length<tk
  ·have y7:decide ((sk.length:Int)<(tk:Int))=true:=decide_eq_true (by omega)
   refine gom ?_
   refine WC.frozenVec hx1v atA fun G3 h3 z3=>?_
   refine WC.rt ?_
   exact QF.p1 (.inl rfl) rfl (.cell rfl inferInstance inferInstance atA rfl rfl) (⟨A1,c1,none,0,by show _=Ending.returned (.agg #[.bool true, .slice A1 (varsR (c,(n:Int)) ⟨true,false,sv,sk⟩).length c1, .bool true, .slice none 0 0]);rw[hvl];first | done | rfl,Gh.le_trans hg1 h3,⟨hx1v.le,Nat.le_refl _,IVec.sl z3,Sl.nil _ _ _⟩,rfl⟩)
  ·have y7:decide ((sk.length:Int)<(tk:Int))=false:=decide_eq_false (by omega)
   have h2:128<sk.length - tk+ly.length:=by
    rcases hb' with h | h | h
    ·cases h
    ·exact absurd h h1
    ·exact h
   have y8:IntKind.i64.wrap ((sk.length:Int) - (tk:Int)+(ly.length:Int))=(sk.length:Int) - (tk:Int)+(ly.length:Int):=wrapI (by omega) (by omega)
   have y9:decide ((128:Int)<(sk.length:Int) - (tk:Int)+(ly.length:Int))=true:=decide_eq_true (by omega)
   refine gom ?_
   refine WC.frozenVec hx1v atA fun G3 h3 z3=>?_
   refine WC.rt ?_
   exact QF.p1 (.inl rfl) rfl (.cell rfl inferInstance inferInstance atA rfl rfl) (⟨A1,c1,none,0,by show _=Ending.returned (.agg #[.bool true, .slice A1 (varsR (c,(n:Int)) ⟨true,false,sv,sk⟩).length c1, .bool true, .slice none 0 0]);rw[hvl];first | done | rfl,Gh.le_trans hg1 h3,⟨hx1v.le,Nat.le_refl _,IVec.sl z3,Sl.nil _ _ _⟩,rfl⟩)
 ·have he1:behR w (c,(n:Int)) ⟨true,su,sv,sk⟩=⟨true,false,varsR (c,(n:Int)) ⟨true,su,sv,sk⟩,sk.take (sk.length - tk)++ly⟩:=by unfold behR;rw[if_neg hb,htke,hlye]
  have hb':¬(su=true∨(sk.length<tk∨128<sk.length - tk+ly.length)):=by unfold badS at hb;rw[htke,hlye];exact hb
  rw[he1]
  have hus:su=false:=by cases h:su with | false=>rfl | true=>exact absurd (.inl h) hb'
  subst hus
  have h1:¬sk.length<tk:=fun h=>hb' (.inr (.inl h))
  have h2:¬128<sk.length - tk+ly.length:=fun h=>hb' (.inr (.inr h))
  have y7:decide ((sk.length:Int)<(tk:Int))=false:=decide_eq_false (by omega)
  have y8:IntKind.i64.wrap ((sk.length:Int) - (tk:Int)+(ly.length:Int))=(sk.length:Int) - (tk:Int)+(ly.length:Int):=wrapI (by omega) (by omega)
  have y9:decide ((128:Int)<(sk.length:Int) - (tk:Int)+(ly.length:Int))=false:=decide_eq_false (by omega)
  have hsc:=hS.hs
  dsimp only at hsc
  have e5:((sk.length:Int) - (tk:Int)).toNat=sk.length - tk:=by omega
  refine WL.nothing ?_
  refine go ?_
  refine WC.draw mixed ?_
  have hcut:=Sl.takeV hS.stack (sk.length - tk)
  have hcl:(sk.take (sk.length - tk)).length=sk.length - tk:=by rw[List.length_take];omega
  refine za.fa 0 ?_
  refine za.fa 2 ?_
  refine za.fa 4 ?_
  refine za.ld 5 ?_
  refine za.len 6 ?_
  refine za.move 7 ?_
  refine WA.pp 8 rfl (Gp.sub' rfl rfl y1) ?_
  refine za.ld 1 ?_
  refine za.ld 3 ?_
  refine WA.pp 9 rfl (Gp.sliceTo rfl rfl (by omega) (by omega)) ?_
  refine WA.oo 10 rfl (OW.append rfl rfl kr kr TVec.nilv atA (hcut.mono hg1).ints (by rw[ints_length,hcl,e5]) (ints_one _) (by first | omega | (dsimp only;omega)) (by first | omega | (dsimp only;omega)) rfl fun A3 c3 o3 hv3=>?_)
  refine za.fa 11 ?_
  refine za.st 12 ?_
  refine WA.done kr ?_
  refine WK.un ?_
  refine gom ?_
  have hln:ints (sk.take (sk.length - tk)++ly)=([]++ints (sk.take (sk.length - tk)))++ints ly:=by rw[ints_append,List.nil_append]
  have hle:(sk.take (sk.length - tk)++ly).length=0+((sk.length:Int) - (tk:Int)).toNat+ly.length:=by rw[List.length_append,hcl,Nat.zero_add,e5]
  refine WL.oo (OW.append rfl rfl kr kr hv3 atA hs1.ints (ints_length _) (ints_one _) (by first | omega | (dsimp only;omega)) (by first | omega | (dsimp only;omega)) rfl fun A4 c4 o4 hv4=>?_)
  rw[←hln]at hv4
  refine gom ?_
  refine WC.frozenVec hx1v atA fun G3 h3 z3=>?_
  refine WC.frozenVec hv4 atA fun G4 h4 z4=>?_
  refine WC.rt ?_
  exact QF.p1 (.inl rfl) rfl (.cell rfl inferInstance inferInstance atA rfl rfl) (⟨A1,c1,A4,c4,by show _=Ending.returned (.agg #[.bool true, .slice A1 (varsR (c,(n:Int)) ⟨true,false,sv,sk⟩).length c1, .bool false, .slice A4 (sk.take (sk.length - tk)++ly).length c4]);rw[hvl,hle];first | done | rfl,Gh.le_trans hg1 (Gh.le_trans h3 h4),⟨hx1v.le,by rw[hle];exact hv4.le,(IVec.sl z3).mono h4,IVec.sl z4⟩,rfl⟩)
end
end
section
open Go.MapKept
attribute [local irreducible] Tryz.prog
theorem drop_one {l:List Int} {x:Int} (h0:1≤l.length) (h:l[l.length - 1]? =some x):l.drop (l.length - 1)=[x]:=by
 have hl:=(List.getElem?_eq_some_iff.1 h).1
 rw[List.drop_eq_getElem_cons hl,(List.getElem?_eq_some_iff.1 h).2,List.drop_eq_nil_of_le (by omega)]
theorem drop_two {l:List Int} {x y:Int} (h0:2≤l.length) (hx:l[l.length - 2]? =some x) (hy:l[l.length - 1]? =some y):l.drop (l.length - 2)=[x,y]:=by
 have hl:=(List.getElem?_eq_some_iff.1 hx).1
 rw[List.drop_eq_getElem_cons hl,(List.getElem?_eq_some_iff.1 hx).2,show l.length - 2+1=l.length - 1 by omega,drop_one (by omega) hy]
theorem kinds_rel (x y:Int):(allT 1 [y,x] || allT 3 [y,x])=(y==x&&(x==1 || x==3)):=by
 unfold allT
 simp only[List.all_cons,List.all_nil,Bool.and_true]
 rw[Bool.eq_iff_iff]
 simp only[Bool.or_eq_true,Bool.and_eq_true,beq_iff_eq]
 omega
section
variable (G:Gh) (w:Wd) (p:Pr) (CA NA PA:Option Addr) (cc nc pc:Nat) (hW:RWp G w CA NA PA) (QA IA:Option Addr) (qc ic:Nat)
include hW
set_option maxHeartbeats 8000000 in
theorem rkinds_fn (s:SS) (VA:Option Addr) (vc:Nat) (SA:Option Addr) (sc:Nat) (hS:SRep G s VA vc SA sc) (hv:s.vars.length≤1000000000) (hk:s.stack.length≤1000000000) (c:Int) (n:Nat) (ho:EOk w s.vars.length c n) (htk:(effC w s.vars (c,n)).1≤s.stack.length):
  Fn Tryz.prog 178 #[.agg (wdC w CA NA PA cc nc pc), .agg (prC p QA qc IA ic), .agg #[.int .i64 c, .int .i64 n],rsV s VA vc SA sc] G []
   fun e G' H'=>e= .returned (.bool (kindsR w p (c,n) s (s.stack.drop (s.stack.length - (effC w s.vars (c,n)).1))))∧G=G'∧H'=[]:=by
 have hsc:=hS.hs
 refine Fn.enter Tryz.func178 rfl rfl fun w0=>?_
 obtain⟨sr,su,sv,sk⟩:=s
 dsimp only at hv hk ho htk hsc⊢
 obtain⟨ho1,ho2,ho3,ho7,ho8⟩:=ho
 refine WC.seq ?_
 refine WC.region ?_
 refine WL.oo (OW.box rfl rfl fun b1=>?_)
 refine WL.oo (OW.box rfl rfl fun b2=>?_)
 refine WL.oo (OW.box rfl rfl fun b3=>?_)
 refine WL.oo (OW.box rfl rfl fun b4=>?_)
 by_cases c2:c=2
 ·subst c2
  obtain⟨v,hvv⟩:∃v,sv[n]? =some v:=⟨_,List.getElem?_eq_getElem (ho2 rfl)⟩
  obtain⟨cb,co,rfl,hcs⟩:=hS.vars.at hvv
  have x0:(0:Int)≤(n:Int):=by omega
  have x1:(n:Int)<(sv.length:Int):=by have:=ho2 rfl;omega
  have he:∀top,kindsR w p ((2:Int),(n:Int)) ⟨sr,su,sv,sk⟩ top=(v != 0):=fun top=>by unfold kindsR;simp[hvv]
  rw[he]
  refine gom ?_
  refine WC.rt ?_
  exact QF.p1 (.inl rfl) rfl (.tmp rfl) (⟨rfl,rfl,rfl⟩)
 have y2:(c==2)=false:=by simpa using c2
 by_cases c3:c=3
 ·subst c3
  have htk1:1≤sk.length:=htk
  obtain⟨x,hx⟩:∃x,sk[sk.length - 1]? =some x:=⟨_,List.getElem?_eq_getElem (by omega)⟩
  obtain⟨xb,xo,rfl,hxc⟩:=hS.stack.at hx
  have z1:IntKind.i64.wrap ((sk.length:Int) - 1)=((sk.length - 1:Nat):Int):=by rw[wrapI (by omega) (by omega)];omega
  have z2:(0:Int)≤((sk.length - 1:Nat):Int):=by omega
  have z3:((sk.length - 1:Nat):Int)<(sk.length:Int):=by omega
  have he:kindsR w p ((3:Int),(n:Int)) ⟨sr,su,sv,sk⟩ (sk.drop (sk.length - (effC w sv ((3:Int),(n:Int))).1))=(x != 0):=by
   rw[show(effC w sv ((3:Int),(n:Int))).1=1 from rfl,drop_one htk1 hx];unfold kindsR;simp[allT]
  rw[he]
  refine gom ?_
  refine WC.rt ?_
  exact QF.p1 (.inl rfl) rfl (.tmp rfl) (⟨rfl,rfl,rfl⟩)
 have y3:(c==3)=false:=by simpa using c3
 by_cases c11:c=11
 ·subst c11
  have htk1:1≤sk.length:=htk
  obtain⟨x,hx⟩:∃x,sk[sk.length - 1]? =some x:=⟨_,List.getElem?_eq_getElem (by omega)⟩
  obtain⟨xb,xo,rfl,hxc⟩:=hS.stack.at hx
  have z1:IntKind.i64.wrap ((sk.length:Int) - 1)=((sk.length - 1:Nat):Int):=by rw[wrapI (by omega) (by omega)];omega
  have z2:(0:Int)≤((sk.length - 1:Nat):Int):=by omega
  have z3:((sk.length - 1:Nat):Int)<(sk.length:Int):=by omega
  have he:kindsR w p ((11:Int),(n:Int)) ⟨sr,su,sv,sk⟩ (sk.drop (sk.length - (effC w sv ((11:Int),(n:Int))).1))=(x != 0):=by
   rw[show(effC w sv ((11:Int),(n:Int))).1=1 from rfl,drop_one htk1 hx];unfold kindsR;simp[allT]
  rw[he]
  refine gom ?_
  refine WC.rt ?_
  exact QF.p1 (.inl rfl) rfl (.tmp rfl) (⟨rfl,rfl,rfl⟩)
 have y11:(c==11)=false:=by simpa using c11
 by_cases c6:c=6
 ·subst c6
  have htk1:1≤sk.length:=htk
  obtain⟨x,hx⟩:∃x,sk[sk.length - 1]? =some x:=⟨_,List.getElem?_eq_getElem (by omega)⟩
  obtain⟨xb,xo,rfl,hxc⟩:=hS.stack.at hx
  have z1:IntKind.i64.wrap ((sk.length:Int) - 1)=((sk.length - 1:Nat):Int):=by rw[wrapI (by omega) (by omega)];omega
  have z2:(0:Int)≤((sk.length - 1:Nat):Int):=by omega
  have z3:((sk.length - 1:Nat):Int)<(sk.length:Int):=by omega
  have he:kindsR w p ((6:Int),(n:Int)) ⟨sr,su,sv,sk⟩ (sk.drop (sk.length - (effC w sv ((6:Int),(n:Int))).1))=(x==2):=by
   rw[show(effC w sv ((6:Int),(n:Int))).1=1 from rfl,drop_one htk1 hx];unfold kindsR;simp[allT]
  rw[he]
  refine gom ?_
  refine WC.rt ?_
  exact QF.p1 (.inl rfl) rfl (.tmp rfl) (⟨rfl,rfl,rfl⟩)
 have y6:(c==6)=false:=by simpa using c6
 by_cases c25:c=25
 ·subst c25
  have htk1:1≤sk.length:=htk
  obtain⟨x,hx⟩:∃x,sk[sk.length - 1]? =some x:=⟨_,List.getElem?_eq_getElem (by omega)⟩
  obtain⟨xb,xo,rfl,hxc⟩:=hS.stack.at hx
  have z1:IntKind.i64.wrap ((sk.length:Int) - 1)=((sk.length - 1:Nat):Int):=by rw[wrapI (by omega) (by omega)];omega
  have z2:(0:Int)≤((sk.length - 1:Nat):Int):=by omega
  have z3:((sk.length - 1:Nat):Int)<(sk.length:Int):=by omega
  have he:kindsR w p ((25:Int),(n:Int)) ⟨sr,su,sv,sk⟩ (sk.drop (sk.length - (effC w sv ((25:Int),(n:Int))).1))=(x==2):=by
   rw[show(effC w sv ((25:Int),(n:Int))).1=1 from rfl,drop_one htk1 hx];unfold kindsR;simp[allT]
  rw[he]
  refine gom ?_
  refine WC.rt ?_
  exact QF.p1 (.inl rfl) rfl (.tmp rfl) (⟨rfl,rfl,rfl⟩)
 have y25:(c==25)=false:=by simpa using c25
 by_cases c24:c=24
 ·subst c24
  have htk1:1≤sk.length:=htk
  obtain⟨x,hx⟩:∃x,sk[sk.length - 1]? =some x:=⟨_,List.getElem?_eq_getElem (by omega)⟩
  obtain⟨xb,xo,rfl,hxc⟩:=hS.stack.at hx
  have z1:IntKind.i64.wrap ((sk.length:Int) - 1)=((sk.length - 1:Nat):Int):=by rw[wrapI (by omega) (by omega)];omega
  have z2:(0:Int)≤((sk.length - 1:Nat):Int):=by omega
  have z3:((sk.length - 1:Nat):Int)<(sk.length:Int):=by omega
  have he:kindsR w p ((24:Int),(n:Int)) ⟨sr,su,sv,sk⟩ (sk.drop (sk.length - (effC w sv ((24:Int),(n:Int))).1))=(x==1):=by
   rw[show(effC w sv ((24:Int),(n:Int))).1=1 from rfl,drop_one htk1 hx];unfold kindsR;simp[allT]
  rw[he]
  refine gom ?_
  refine WC.rt ?_
  exact QF.p1 (.inl rfl) rfl (.tmp rfl) (⟨rfl,rfl,rfl⟩)
 have y24:(c==24)=false:=by simpa using c24
 by_cases c26:c=26
 ·subst c26
  have htk1:1≤sk.length:=htk
  obtain⟨x,hx⟩:∃x,sk[sk.length - 1]? =some x:=⟨_,List.getElem?_eq_getElem (by omega)⟩
  obtain⟨xb,xo,rfl,hxc⟩:=hS.stack.at hx
  have z1:IntKind.i64.wrap ((sk.length:Int) - 1)=((sk.length - 1:Nat):Int):=by rw[wrapI (by omega) (by omega)];omega
  have z2:(0:Int)≤((sk.length - 1:Nat):Int):=by omega
  have z3:((sk.length - 1:Nat):Int)<(sk.length:Int):=by omega
  have he:kindsR w p ((26:Int),(n:Int)) ⟨sr,su,sv,sk⟩ (sk.drop (sk.length - (effC w sv ((26:Int),(n:Int))).1))=(x==3):=by
   rw[show(effC w sv ((26:Int),(n:Int))).1=1 from rfl,drop_one htk1 hx];unfold kindsR;simp[allT]
  rw[he]
  refine gom ?_
  refine WC.rt ?_
  exact QF.p1 (.inl rfl) rfl (.tmp rfl) (⟨rfl,rfl,rfl⟩)
 have y26:(c==26)=false:=by simpa using c26
 by_cases c10:c=10
 ·subst c10
  have htk1:1≤sk.length:=htk
  obtain⟨x,hx⟩:∃x,sk[sk.length - 1]? =some x:=⟨_,List.getElem?_eq_getElem (by omega)⟩
  obtain⟨xb,xo,rfl,hxc⟩:=hS.stack.at hx
  have z1:IntKind.i64.wrap ((sk.length:Int) - 1)=((sk.length - 1:Nat):Int):=by rw[wrapI (by omega) (by omega)];omega
  have z2:(0:Int)≤((sk.length - 1:Nat):Int):=by omega
  have z3:((sk.length - 1:Nat):Int)<(sk.length:Int):=by omega
  have he:kindsR w p ((10:Int),(n:Int)) ⟨sr,su,sv,sk⟩ (sk.drop (sk.length - (effC w sv ((10:Int),(n:Int))).1))=(x==p.result):=by
   rw[show(effC w sv ((10:Int),(n:Int))).1=1 from rfl,drop_one htk1 hx];unfold kindsR;simp[allT]
  rw[he]
  refine go ?_
  refine WC.draw mixed ?_
  refine za.fa 0 ?_
  refine za.move 2 ?_
  refine WA.pp 3 rfl (Gp.sub' rfl rfl z1) ?_
  refine za.ld 1 ?_
  refine za.ix 4 ?_
  refine WA.vv 5 rfl (Gv.loadG1 (i:=0) rfl hxc rfl) ?_
  refine za.fa 6 ?_
  refine za.ld 7 ?_
  refine za.eq 8 ?_
  refine za.assign 9 ?_
  refine WA.done kr ?_
  refine WK.un ?_
  refine gom ?_
  refine WC.rt ?_
  exact QF.p1 (.inl rfl) rfl (.tmp rfl) (⟨rfl,rfl,rfl⟩)
 have y10:(c==10)=false:=by simpa using c10
 by_cases c7:c=7
 ·subst c7
  obtain⟨q,hq⟩:∃q,w.procs[n]? =some q:=⟨_,List.getElem?_eq_getElem (ho7 rfl)⟩
  obtain⟨cb,co,cs,rfl,hk1,hcs⟩:=hW.procs n q hq
  obtain⟨PA2,pc2,CA2,cc2,rfl,hkp,hk2⟩:=hk1
  have x0:(0:Int)≤(n:Int):=by omega
  have x1:(n:Int)<(w.procs.length:Int):=by have:=ho7 rfl;omega
  have he1:(effC w sv ((7:Int),(n:Int))).1=q.params.length:=by unfold effC;simp[hq,hdE]
  rw[he1]at htk⊢
  have he:kindsR w p ((7:Int),(n:Int)) ⟨sr,su,sv,sk⟩ (sk.drop (sk.length - q.params.length))=decide (sk.drop (sk.length - q.params.length)=q.params):=by
   unfold kindsR;simp only[hq,Int.toNat_natCast];simp;rw[Bool.eq_iff_iff,beq_iff_eq,decide_eq_true_iff]
  rw[he]
  have z1:IntKind.i64.wrap ((sk.length:Int) - (q.params.length:Int))=(sk.length:Int) - (q.params.length:Int):=wrapI (by omega) (by omega)
  have e5:((sk.length:Int) - (q.params.length:Int)).toNat=sk.length - q.params.length:=by omega
  have hl5:sk.length - (sk.length - q.params.length)=(sk.drop (sk.length - q.params.length)).length:=by rw[List.length_drop]
  have hrs:=rsame_fn G (if sc=sk.length - q.params.length then SA else SA.map (·.add ((sk.length - q.params.length)*(Kd.int .i64).n))) PA2 (sk.drop (sk.length - q.params.length)) q.params (sc - (sk.length - q.params.length)) pc2 (hS.stack.fromG hsc) hkp (by rw[←hl5];omega)
  rw[←hl5,←e5]at hrs
  refine go ?_
  refine WC.draw mixed ?_
  refine za.fa 0 ?_
  refine za.move 2 ?_
  refine za.move 3 ?_
  refine WA.pp 4 rfl (Gp.sub' rfl rfl z1) ?_
  refine za.ld 1 ?_
  refine WA.pp 5 rfl (Gp.sliceFrom rfl rfl (by omega) (by show _≤((sk.length:Nat):Int);omega)) ?_
  refine za.fa 6 ?_
  refine za.ld 7 ?_
  refine za.fa 8 ?_
  refine za.ld 9 ?_
  refine za.ix 10 ?_
  refine za.fa 11 ?_
  refine za.ld 12 ?_
  refine WA.oo 13 rfl (OW.callK rfl (hrs) rfl fun v' G' H' h hg=>?_)
  obtain⟨he2,rfl,rfl⟩:=h
  cases he2
  refine za.assign 14 ?_
  refine WA.done kr ?_
  refine WK.un ?_
  rw[e5]
  refine gom ?_
  refine WC.rt ?_
  exact QF.p1 (.inl rfl) rfl (.tmp rfl) (⟨rfl,rfl,rfl⟩)
 have y7:(c==7)=false:=by simpa using c7
 by_cases c8:c=8
 ·subst c8
  obtain⟨q,hq⟩:∃q,w.needs[n]? =some q:=⟨_,List.getElem?_eq_getElem (ho8 rfl)⟩
  obtain⟨cb,co,cs,rfl,hk1,hcs⟩:=hW.needs n q hq
  obtain⟨PA2,pc2,rfl,hkp⟩:=hk1
  have x0:(0:Int)≤(n:Int):=by omega
  have x1:(n:Int)<(w.needs.length:Int):=by have:=ho8 rfl;omega
  have he1:(effC w sv ((8:Int),(n:Int))).1=q.params.length:=by unfold effC;simp[hq,hdE]
  rw[he1]at htk⊢
  have he:kindsR w p ((8:Int),(n:Int)) ⟨sr,su,sv,sk⟩ (sk.drop (sk.length - q.params.length))=decide (sk.drop (sk.length - q.params.length)=q.params):=by
   unfold kindsR;simp only[hq,Int.toNat_natCast];simp;rw[Bool.eq_iff_iff,beq_iff_eq,decide_eq_true_iff]
  rw[he]
  have z1:IntKind.i64.wrap ((sk.length:Int) - (q.params.length:Int))=(sk.length:Int) - (q.params.length:Int):=wrapI (by omega) (by omega)
  have e5:((sk.length:Int) - (q.params.length:Int)).toNat=sk.length - q.params.length:=by omega
  have hl5:sk.length - (sk.length - q.params.length)=(sk.drop (sk.length - q.params.length)).length:=by rw[List.length_drop]
  have hrs:=rsame_fn G (if sc=sk.length - q.params.length then SA else SA.map (·.add ((sk.length - q.params.length)*(Kd.int .i64).n))) PA2 (sk.drop (sk.length - q.params.length)) q.params (sc - (sk.length - q.params.length)) pc2 (hS.stack.fromG hsc) hkp (by rw[←hl5];omega)
  rw[←hl5,←e5]at hrs
  refine go ?_
  refine WC.draw mixed ?_
  refine za.fa 0 ?_
  refine za.move 2 ?_
  refine za.move 3 ?_
  refine WA.pp 4 rfl (Gp.sub' rfl rfl z1) ?_
  refine za.ld 1 ?_
  refine WA.pp 5 rfl (Gp.sliceFrom rfl rfl (by omega) (by show _≤((sk.length:Nat):Int);omega)) ?_
  refine za.fa 6 ?_
  refine za.ld 7 ?_
  refine za.fa 8 ?_
  refine za.ld 9 ?_
  refine za.ix 10 ?_
  refine za.fa 11 ?_
  refine za.ld 12 ?_
  refine WA.oo 13 rfl (OW.callK rfl (hrs) rfl fun v' G' H' h hg=>?_)
  obtain⟨he2,rfl,rfl⟩:=h
  cases he2
  refine za.assign 14 ?_
  refine WA.done kr ?_
  refine WK.un ?_
  rw[e5]
  refine gom ?_
  refine WC.rt ?_
  exact QF.p1 (.inl rfl) rfl (.tmp rfl) (⟨rfl,rfl,rfl⟩)
 have y8:(c==8)=false:=by simpa using c8
 by_cases c12:c=12
 ·subst c12
  have htk1:2≤sk.length:=htk
  obtain⟨x,hx⟩:∃x,sk[sk.length - 1]? =some x:=⟨_,List.getElem?_eq_getElem (by omega)⟩
  obtain⟨xb,xo,rfl,hxc⟩:=hS.stack.at hx
  have z1:IntKind.i64.wrap ((sk.length:Int) - 1)=((sk.length - 1:Nat):Int):=by rw[wrapI (by omega) (by omega)];omega
  have z2:(0:Int)≤((sk.length - 1:Nat):Int):=by omega
  have z3:((sk.length - 1:Nat):Int)<(sk.length:Int):=by omega
  obtain⟨y,hy⟩:∃y,sk[sk.length - 2]? =some y:=⟨_,List.getElem?_eq_getElem (by omega)⟩
  obtain⟨yb,yo,hye,hyc⟩:=hS.stack.at hy
  cases hye
  have z4:IntKind.i64.wrap ((sk.length:Int) - 2)=((sk.length - 2:Nat):Int):=by rw[wrapI (by omega) (by omega)];omega
  have z5:(0:Int)≤((sk.length - 2:Nat):Int):=by omega
  have z6:((sk.length - 2:Nat):Int)<(sk.length:Int):=by omega
  have he:kindsR w p ((12:Int),(n:Int)) ⟨sr,su,sv,sk⟩ (sk.drop (sk.length - (effC w sv ((12:Int),(n:Int))).1))=(y==x&&y != 0):=by
   rw[show(effC w sv ((12:Int),(n:Int))).1=2 from rfl,drop_two htk1 hy hx];unfold kindsR;simp[allT]
  rw[he]
  cases hxy:(y==x)with
  | true=>
   refine go ?_
   refine WC.draw mixed ?_
   refine za.fa 0 ?_
   refine za.move 2 ?_
   refine WA.pp 3 rfl (Gp.sub' rfl rfl z4) ?_
   refine za.fa 6 ?_
   refine za.move 8 ?_
   refine WA.pp 9 rfl (Gp.sub' rfl rfl z1) ?_
   refine za.ld 1 ?_
   refine za.ix 4 ?_
   refine WA.vv 5 rfl (Gv.loadG1 (i:=0) rfl hyc rfl) ?_
   refine za.ld 7 ?_
   refine za.ix 10 ?_
   refine WA.vv 11 rfl (Gv.loadG1 (i:=0) rfl hxc rfl) ?_
   refine WA.pp 12 rfl (Gp.eqI' rfl rfl hxy) ?_
   refine za.move 13 ?_
   refine za.fa 14 ?_
   refine za.move 16 ?_
   refine WA.pp 17 rfl (Gp.sub' rfl rfl z1) ?_
   refine za.ld 15 ?_
   refine za.ix 18 ?_
   refine WA.vv 19 rfl (Gv.loadG1 (i:=0) rfl hxc rfl) ?_
   refine za.ne 20 ?_
   refine za.pick 21 ?_
   refine za.assign 22 ?_
   refine WA.done kr ?_
   refine WK.un ?_
   refine gom ?_
   refine WC.rt ?_
   exact QF.p1 (.inl rfl) rfl (.tmp rfl) (⟨by simp at hxy;rw[hxy];rfl,rfl,rfl⟩)
  | false=>
   refine go ?_
   refine WC.draw mixed ?_
   refine za.fa 0 ?_
   refine za.move 2 ?_
   refine WA.pp 3 rfl (Gp.sub' rfl rfl z4) ?_
   refine za.fa 6 ?_
   refine za.move 8 ?_
   refine WA.pp 9 rfl (Gp.sub' rfl rfl z1) ?_
   refine za.ld 1 ?_
   refine za.ix 4 ?_
   refine WA.vv 5 rfl (Gv.loadG1 (i:=0) rfl hyc rfl) ?_
   refine za.ld 7 ?_
   refine za.ix 10 ?_
   refine WA.vv 11 rfl (Gv.loadG1 (i:=0) rfl hxc rfl) ?_
   refine WA.pp 12 rfl (Gp.eqI' rfl rfl hxy) ?_
   refine za.move 13 ?_
   refine za.skip 14 ?_
   refine za.skip 16 ?_
   refine za.skip 17 ?_
   refine za.skip 15 ?_
   refine za.skip 18 ?_
   refine za.skip 19 ?_
   refine za.skip 20 ?_
   refine za.pick 21 ?_
   refine za.assign 22 ?_
   refine WA.done kr ?_
   refine WK.un ?_
   refine gom ?_
   refine WC.rt ?_
   exact QF.p1 (.inl rfl) rfl (.tmp rfl) (⟨rfl,rfl,rfl⟩)
 have y12:(c==12)=false:=by simpa using c12
 by_cases c13:c=13
 ·subst c13
  have htk1:2≤sk.length:=htk
  obtain⟨x,hx⟩:∃x,sk[sk.length - 1]? =some x:=⟨_,List.getElem?_eq_getElem (by omega)⟩
  obtain⟨xb,xo,rfl,hxc⟩:=hS.stack.at hx
  have z1:IntKind.i64.wrap ((sk.length:Int) - 1)=((sk.length - 1:Nat):Int):=by rw[wrapI (by omega) (by omega)];omega
  have z2:(0:Int)≤((sk.length - 1:Nat):Int):=by omega
  have z3:((sk.length - 1:Nat):Int)<(sk.length:Int):=by omega
  obtain⟨y,hy⟩:∃y,sk[sk.length - 2]? =some y:=⟨_,List.getElem?_eq_getElem (by omega)⟩
  obtain⟨yb,yo,hye,hyc⟩:=hS.stack.at hy
  cases hye
  have z4:IntKind.i64.wrap ((sk.length:Int) - 2)=((sk.length - 2:Nat):Int):=by rw[wrapI (by omega) (by omega)];omega
  have z5:(0:Int)≤((sk.length - 2:Nat):Int):=by omega
  have z6:((sk.length - 2:Nat):Int)<(sk.length:Int):=by omega
  have he:kindsR w p ((13:Int),(n:Int)) ⟨sr,su,sv,sk⟩ (sk.drop (sk.length - (effC w sv ((13:Int),(n:Int))).1))=(y==x&&y != 0):=by
   rw[show(effC w sv ((13:Int),(n:Int))).1=2 from rfl,drop_two htk1 hy hx];unfold kindsR;simp[allT]
  rw[he]
  cases hxy:(y==x)with
  | true=>
   refine go ?_
   refine WC.draw mixed ?_
   refine za.fa 0 ?_
   refine za.move 2 ?_
   refine WA.pp 3 rfl (Gp.sub' rfl rfl z4) ?_
   refine za.fa 6 ?_
   refine za.move 8 ?_
   refine WA.pp 9 rfl (Gp.sub' rfl rfl z1) ?_
   refine za.ld 1 ?_
   refine za.ix 4 ?_
   refine WA.vv 5 rfl (Gv.loadG1 (i:=0) rfl hyc rfl) ?_
   refine za.ld 7 ?_
   refine za.ix 10 ?_
   refine WA.vv 11 rfl (Gv.loadG1 (i:=0) rfl hxc rfl) ?_
   refine WA.pp 12 rfl (Gp.eqI' rfl rfl hxy) ?_
   refine za.move 13 ?_
   refine za.fa 14 ?_
   refine za.move 16 ?_
   refine WA.pp 17 rfl (Gp.sub' rfl rfl z1) ?_
   refine za.ld 15 ?_
   refine za.ix 18 ?_
   refine WA.vv 19 rfl (Gv.loadG1 (i:=0) rfl hxc rfl) ?_
   refine za.ne 20 ?_
   refine za.pick 21 ?_
   refine za.assign 22 ?_
   refine WA.done kr ?_
   refine WK.un ?_
   refine gom ?_
   refine WC.rt ?_
   exact QF.p1 (.inl rfl) rfl (.tmp rfl) (⟨by simp at hxy;rw[hxy];rfl,rfl,rfl⟩)
  | false=>
   refine go ?_
   refine WC.draw mixed ?_
   refine za.fa 0 ?_
   refine za.move 2 ?_
   refine WA.pp 3 rfl (Gp.sub' rfl rfl z4) ?_
   refine za.fa 6 ?_
   refine za.move 8 ?_
   refine WA.pp 9 rfl (Gp.sub' rfl rfl z1) ?_
   refine za.ld 1 ?_
   refine za.ix 4 ?_
   refine WA.vv 5 rfl (Gv.loadG1 (i:=0) rfl hyc rfl) ?_
   refine za.ld 7 ?_
   refine za.ix 10 ?_
   refine WA.vv 11 rfl (Gv.loadG1 (i:=0) rfl hxc rfl) ?_
   refine WA.pp 12 rfl (Gp.eqI' rfl rfl hxy) ?_
   refine za.move 13 ?_
   refine za.skip 14 ?_
   refine za.skip 16 ?_
   refine za.skip 17 ?_
   refine za.skip 15 ?_
   refine za.skip 18 ?_
   refine za.skip 19 ?_
   refine za.skip 20 ?_
   refine za.pick 21 ?_
   refine za.assign 22 ?_
   refine WA.done kr ?_
   refine WK.un ?_
   refine gom ?_
   refine WC.rt ?_
   exact QF.p1 (.inl rfl) rfl (.tmp rfl) (⟨rfl,rfl,rfl⟩)
 have y13:(c==13)=false:=by simpa using c13
 by_cases c20:c=20
 ·subst c20
  have htk1:2≤sk.length:=htk
  obtain⟨x,hx⟩:∃x,sk[sk.length - 1]? =some x:=⟨_,List.getElem?_eq_getElem (by omega)⟩
  obtain⟨xb,xo,rfl,hxc⟩:=hS.stack.at hx
  have z1:IntKind.i64.wrap ((sk.length:Int) - 1)=((sk.length - 1:Nat):Int):=by rw[wrapI (by omega) (by omega)];omega
  have z2:(0:Int)≤((sk.length - 1:Nat):Int):=by omega
  have z3:((sk.length - 1:Nat):Int)<(sk.length:Int):=by omega
  obtain⟨y,hy⟩:∃y,sk[sk.length - 2]? =some y:=⟨_,List.getElem?_eq_getElem (by omega)⟩
  obtain⟨yb,yo,hye,hyc⟩:=hS.stack.at hy
  cases hye
  have z4:IntKind.i64.wrap ((sk.length:Int) - 2)=((sk.length - 2:Nat):Int):=by rw[wrapI (by omega) (by omega)];omega
  have z5:(0:Int)≤((sk.length - 2:Nat):Int):=by omega
  have z6:((sk.length - 2:Nat):Int)<(sk.length:Int):=by omega
  have he:kindsR w p ((20:Int),(n:Int)) ⟨sr,su,sv,sk⟩ (sk.drop (sk.length - (effC w sv ((20:Int),(n:Int))).1))=(y==3&&x==3):=by
   rw[show(effC w sv ((20:Int),(n:Int))).1=2 from rfl,drop_two htk1 hy hx];unfold kindsR;simp[allT]
  rw[he]
  cases hxy:(y==3)with
  | true=>
   refine gom ?_
   try rw[hxy]
   refine gom ?_
   refine WC.rt ?_
   exact QF.p1 (.inl rfl) rfl (.tmp rfl) (⟨rfl,rfl,rfl⟩)
  | false=>
   refine gom ?_
   try rw[hxy]
   refine gom ?_
   refine WC.rt ?_
   exact QF.p1 (.inl rfl) rfl (.tmp rfl) (⟨rfl,rfl,rfl⟩)
 have y20:(c==20)=false:=by simpa using c20
 by_cases c18:c=18
 ·subst c18
  have htk1:2≤sk.length:=htk
  obtain⟨x,hx⟩:∃x,sk[sk.length - 1]? =some x:=⟨_,List.getElem?_eq_getElem (by omega)⟩
  obtain⟨xb,xo,rfl,hxc⟩:=hS.stack.at hx
  have z1:IntKind.i64.wrap ((sk.length:Int) - 1)=((sk.length - 1:Nat):Int):=by rw[wrapI (by omega) (by omega)];omega
  have z2:(0:Int)≤((sk.length - 1:Nat):Int):=by omega
  have z3:((sk.length - 1:Nat):Int)<(sk.length:Int):=by omega
  obtain⟨y,hy⟩:∃y,sk[sk.length - 2]? =some y:=⟨_,List.getElem?_eq_getElem (by omega)⟩
  obtain⟨yb,yo,hye,hyc⟩:=hS.stack.at hy
  cases hye
  have z4:IntKind.i64.wrap ((sk.length:Int) - 2)=((sk.length - 2:Nat):Int):=by rw[wrapI (by omega) (by omega)];omega
  have z5:(0:Int)≤((sk.length - 2:Nat):Int):=by omega
  have z6:((sk.length - 2:Nat):Int)<(sk.length:Int):=by omega
  have he:kindsR w p ((18:Int),(n:Int)) ⟨sr,su,sv,sk⟩ (sk.drop (sk.length - (effC w sv ((18:Int),(n:Int))).1))=(y==1&&x==1):=by
   rw[show(effC w sv ((18:Int),(n:Int))).1=2 from rfl,drop_two htk1 hy hx];unfold kindsR;simp[allT]
  rw[he]
  cases hxy:(y==1)with
  | true=>
   refine gom ?_
   try rw[hxy]
   refine gom ?_
   refine WC.rt ?_
   exact QF.p1 (.inl rfl) rfl (.tmp rfl) (⟨rfl,rfl,rfl⟩)
  | false=>
   refine gom ?_
   try rw[hxy]
   refine gom ?_
   refine WC.rt ?_
   exact QF.p1 (.inl rfl) rfl (.tmp rfl) (⟨rfl,rfl,rfl⟩)
 have y18:(c==18)=false:=by simpa using c18
 by_cases c19:c=19
 ·subst c19
  have htk1:2≤sk.length:=htk
  obtain⟨x,hx⟩:∃x,sk[sk.length - 1]? =some x:=⟨_,List.getElem?_eq_getElem (by omega)⟩
  obtain⟨xb,xo,rfl,hxc⟩:=hS.stack.at hx
  have z1:IntKind.i64.wrap ((sk.length:Int) - 1)=((sk.length - 1:Nat):Int):=by rw[wrapI (by omega) (by omega)];omega
  have z2:(0:Int)≤((sk.length - 1:Nat):Int):=by omega
  have z3:((sk.length - 1:Nat):Int)<(sk.length:Int):=by omega
  obtain⟨y,hy⟩:∃y,sk[sk.length - 2]? =some y:=⟨_,List.getElem?_eq_getElem (by omega)⟩
  obtain⟨yb,yo,hye,hyc⟩:=hS.stack.at hy
  cases hye
  have z4:IntKind.i64.wrap ((sk.length:Int) - 2)=((sk.length - 2:Nat):Int):=by rw[wrapI (by omega) (by omega)];omega
  have z5:(0:Int)≤((sk.length - 2:Nat):Int):=by omega
  have z6:((sk.length - 2:Nat):Int)<(sk.length:Int):=by omega
  have he:kindsR w p ((19:Int),(n:Int)) ⟨sr,su,sv,sk⟩ (sk.drop (sk.length - (effC w sv ((19:Int),(n:Int))).1))=(y==1&&x==1):=by
   rw[show(effC w sv ((19:Int),(n:Int))).1=2 from rfl,drop_two htk1 hy hx];unfold kindsR;simp[allT]
  rw[he]
  cases hxy:(y==1)with
  | true=>
   refine gom ?_
   try rw[hxy]
   refine gom ?_
   refine WC.rt ?_
   exact QF.p1 (.inl rfl) rfl (.tmp rfl) (⟨rfl,rfl,rfl⟩)
  | false=>
   refine gom ?_
   try rw[hxy]
   refine gom ?_
   refine WC.rt ?_
   exact QF.p1 (.inl rfl) rfl (.tmp rfl) (⟨rfl,rfl,rfl⟩)
 have y19:(c==19)=false:=by simpa using c19
 by_cases c21:c=21
 ·subst c21
  have htk1:2≤sk.length:=htk
  obtain⟨x,hx⟩:∃x,sk[sk.length - 1]? =some x:=⟨_,List.getElem?_eq_getElem (by omega)⟩
  obtain⟨xb,xo,rfl,hxc⟩:=hS.stack.at hx
  have z1:IntKind.i64.wrap ((sk.length:Int) - 1)=((sk.length - 1:Nat):Int):=by rw[wrapI (by omega) (by omega)];omega
  have z2:(0:Int)≤((sk.length - 1:Nat):Int):=by omega
  have z3:((sk.length - 1:Nat):Int)<(sk.length:Int):=by omega
  obtain⟨y,hy⟩:∃y,sk[sk.length - 2]? =some y:=⟨_,List.getElem?_eq_getElem (by omega)⟩
  obtain⟨yb,yo,hye,hyc⟩:=hS.stack.at hy
  cases hye
  have z4:IntKind.i64.wrap ((sk.length:Int) - 2)=((sk.length - 2:Nat):Int):=by rw[wrapI (by omega) (by omega)];omega
  have z5:(0:Int)≤((sk.length - 2:Nat):Int):=by omega
  have z6:((sk.length - 2:Nat):Int)<(sk.length:Int):=by omega
  have he:kindsR w p ((21:Int),(n:Int)) ⟨sr,su,sv,sk⟩ (sk.drop (sk.length - (effC w sv ((21:Int),(n:Int))).1))=(y==1&&x==1):=by
   rw[show(effC w sv ((21:Int),(n:Int))).1=2 from rfl,drop_two htk1 hy hx];unfold kindsR;simp[allT]
  rw[he]
  cases hxy:(y==1)with
  | true=>
   refine gom ?_
   try rw[hxy]
   refine gom ?_
   refine WC.rt ?_
   exact QF.p1 (.inl rfl) rfl (.tmp rfl) (⟨rfl,rfl,rfl⟩)
  | false=>
   refine gom ?_
   try rw[hxy]
   refine gom ?_
   refine WC.rt ?_
   exact QF.p1 (.inl rfl) rfl (.tmp rfl) (⟨rfl,rfl,rfl⟩)
 have y21:(c==21)=false:=by simpa using c21
 by_cases c22:c=22
 ·subst c22
  have htk1:2≤sk.length:=htk
  obtain⟨x,hx⟩:∃x,sk[sk.length - 1]? =some x:=⟨_,List.getElem?_eq_getElem (by omega)⟩
  obtain⟨xb,xo,rfl,hxc⟩:=hS.stack.at hx
  have z1:IntKind.i64.wrap ((sk.length:Int) - 1)=((sk.length - 1:Nat):Int):=by rw[wrapI (by omega) (by omega)];omega
  have z2:(0:Int)≤((sk.length - 1:Nat):Int):=by omega
  have z3:((sk.length - 1:Nat):Int)<(sk.length:Int):=by omega
  obtain⟨y,hy⟩:∃y,sk[sk.length - 2]? =some y:=⟨_,List.getElem?_eq_getElem (by omega)⟩
  obtain⟨yb,yo,hye,hyc⟩:=hS.stack.at hy
  cases hye
  have z4:IntKind.i64.wrap ((sk.length:Int) - 2)=((sk.length - 2:Nat):Int):=by rw[wrapI (by omega) (by omega)];omega
  have z5:(0:Int)≤((sk.length - 2:Nat):Int):=by omega
  have z6:((sk.length - 2:Nat):Int)<(sk.length:Int):=by omega
  have he:kindsR w p ((22:Int),(n:Int)) ⟨sr,su,sv,sk⟩ (sk.drop (sk.length - (effC w sv ((22:Int),(n:Int))).1))=(y==1&&x==1):=by
   rw[show(effC w sv ((22:Int),(n:Int))).1=2 from rfl,drop_two htk1 hy hx];unfold kindsR;simp[allT]
  rw[he]
  cases hxy:(y==1)with
  | true=>
   refine gom ?_
   try rw[hxy]
   refine gom ?_
   refine WC.rt ?_
   exact QF.p1 (.inl rfl) rfl (.tmp rfl) (⟨rfl,rfl,rfl⟩)
  | false=>
   refine gom ?_
   try rw[hxy]
   refine gom ?_
   refine WC.rt ?_
   exact QF.p1 (.inl rfl) rfl (.tmp rfl) (⟨rfl,rfl,rfl⟩)
 have y22:(c==22)=false:=by simpa using c22
 by_cases c23:c=23
 ·subst c23
  have htk1:2≤sk.length:=htk
  obtain⟨x,hx⟩:∃x,sk[sk.length - 1]? =some x:=⟨_,List.getElem?_eq_getElem (by omega)⟩
  obtain⟨xb,xo,rfl,hxc⟩:=hS.stack.at hx
  have z1:IntKind.i64.wrap ((sk.length:Int) - 1)=((sk.length - 1:Nat):Int):=by rw[wrapI (by omega) (by omega)];omega
  have z2:(0:Int)≤((sk.length - 1:Nat):Int):=by omega
  have z3:((sk.length - 1:Nat):Int)<(sk.length:Int):=by omega
  obtain⟨y,hy⟩:∃y,sk[sk.length - 2]? =some y:=⟨_,List.getElem?_eq_getElem (by omega)⟩
  obtain⟨yb,yo,hye,hyc⟩:=hS.stack.at hy
  cases hye
  have z4:IntKind.i64.wrap ((sk.length:Int) - 2)=((sk.length - 2:Nat):Int):=by rw[wrapI (by omega) (by omega)];omega
  have z5:(0:Int)≤((sk.length - 2:Nat):Int):=by omega
  have z6:((sk.length - 2:Nat):Int)<(sk.length:Int):=by omega
  have he:kindsR w p ((23:Int),(n:Int)) ⟨sr,su,sv,sk⟩ (sk.drop (sk.length - (effC w sv ((23:Int),(n:Int))).1))=(y==1&&x==1):=by
   rw[show(effC w sv ((23:Int),(n:Int))).1=2 from rfl,drop_two htk1 hy hx];unfold kindsR;simp[allT]
  rw[he]
  cases hxy:(y==1)with
  | true=>
   refine gom ?_
   try rw[hxy]
   refine gom ?_
   refine WC.rt ?_
   exact QF.p1 (.inl rfl) rfl (.tmp rfl) (⟨rfl,rfl,rfl⟩)
  | false=>
   refine gom ?_
   try rw[hxy]
   refine gom ?_
   refine WC.rt ?_
   exact QF.p1 (.inl rfl) rfl (.tmp rfl) (⟨rfl,rfl,rfl⟩)
 have y23:(c==23)=false:=by simpa using c23
 by_cases c14:c=14
 ·subst c14
  have htk1:2≤sk.length:=htk
  obtain⟨x,hx⟩:∃x,sk[sk.length - 1]? =some x:=⟨_,List.getElem?_eq_getElem (by omega)⟩
  obtain⟨xb,xo,rfl,hxc⟩:=hS.stack.at hx
  have z1:IntKind.i64.wrap ((sk.length:Int) - 1)=((sk.length - 1:Nat):Int):=by rw[wrapI (by omega) (by omega)];omega
  have z2:(0:Int)≤((sk.length - 1:Nat):Int):=by omega
  have z3:((sk.length - 1:Nat):Int)<(sk.length:Int):=by omega
  obtain⟨y,hy⟩:∃y,sk[sk.length - 2]? =some y:=⟨_,List.getElem?_eq_getElem (by omega)⟩
  obtain⟨yb,yo,hye,hyc⟩:=hS.stack.at hy
  cases hye
  have z4:IntKind.i64.wrap ((sk.length:Int) - 2)=((sk.length - 2:Nat):Int):=by rw[wrapI (by omega) (by omega)];omega
  have z5:(0:Int)≤((sk.length - 2:Nat):Int):=by omega
  have z6:((sk.length - 2:Nat):Int)<(sk.length:Int):=by omega
  have he:kindsR w p ((14:Int),(n:Int)) ⟨sr,su,sv,sk⟩ (sk.drop (sk.length - (effC w sv ((14:Int),(n:Int))).1))=(y==x&&(x==1 || x==3)):=by
   rw[show(effC w sv ((14:Int),(n:Int))).1=2 from rfl,drop_two htk1 hy hx];unfold kindsR;exact kinds_rel x y
  rw[he]
  cases hxy:(y==x)with
  | false=>
   refine go ?_
   refine WC.draw mixed ?_
   refine za.fa 0 ?_
   refine za.move 2 ?_
   refine WA.pp 3 rfl (Gp.sub' rfl rfl z4) ?_
   refine za.fa 6 ?_
   refine za.move 8 ?_
   refine WA.pp 9 rfl (Gp.sub' rfl rfl z1) ?_
   refine za.ld 1 ?_
   refine za.ix 4 ?_
   refine WA.vv 5 rfl (Gv.loadG1 (i:=0) rfl hyc rfl) ?_
   refine za.ld 7 ?_
   refine za.ix 10 ?_
   refine WA.vv 11 rfl (Gv.loadG1 (i:=0) rfl hxc rfl) ?_
   refine WA.pp 12 rfl (Gp.eqI' rfl rfl hxy) ?_
   refine za.move 13 ?_
   refine za.skip 14 ?_
   refine za.skip 16 ?_
   refine za.skip 17 ?_
   refine za.skip 15 ?_
   refine za.skip 18 ?_
   refine za.skip 19 ?_
   refine za.skip 20 ?_
   refine za.skip 21 ?_
   refine za.skip 22 ?_
   refine za.skip 24 ?_
   refine za.skip 25 ?_
   refine za.skip 23 ?_
   refine za.skip 26 ?_
   refine za.skip 27 ?_
   refine za.skip 28 ?_
   refine za.skip 29 ?_
   refine za.pick 30 ?_
   refine za.assign 31 ?_
   refine WA.done kr ?_
   refine WK.un ?_
   refine gom ?_
   refine WC.rt ?_
   exact QF.p1 (.inl rfl) rfl (.tmp rfl) (⟨rfl,rfl,rfl⟩)
  | true=>
  cases hx1:(x==1)with
  | true=>
   refine go ?_
   refine WC.draw mixed ?_
   refine za.fa 0 ?_
   refine za.move 2 ?_
   refine WA.pp 3 rfl (Gp.sub' rfl rfl z4) ?_
   refine za.fa 6 ?_
   refine za.move 8 ?_
   refine WA.pp 9 rfl (Gp.sub' rfl rfl z1) ?_
   refine za.ld 1 ?_
   refine za.ix 4 ?_
   refine WA.vv 5 rfl (Gv.loadG1 (i:=0) rfl hyc rfl) ?_
   refine za.ld 7 ?_
   refine za.ix 10 ?_
   refine WA.vv 11 rfl (Gv.loadG1 (i:=0) rfl hxc rfl) ?_
   refine WA.pp 12 rfl (Gp.eqI' rfl rfl hxy) ?_
   refine za.move 13 ?_
   refine za.fa 14 ?_
   refine za.move 16 ?_
   refine WA.pp 17 rfl (Gp.sub' rfl rfl z1) ?_
   refine za.ld 15 ?_
   refine za.ix 18 ?_
   refine WA.vv 19 rfl (Gv.loadG1 (i:=0) rfl hxc rfl) ?_
   refine WA.pp 20 rfl (Gp.eqI' rfl rfl hx1) ?_
   refine za.move 21 ?_
   refine za.skip 22 ?_
   refine za.skip 24 ?_
   refine za.skip 25 ?_
   refine za.skip 23 ?_
   refine za.skip 26 ?_
   refine za.skip 27 ?_
   refine za.skip 28 ?_
   refine za.pick 29 ?_
   refine za.pick 30 ?_
   refine za.assign 31 ?_
   refine WA.done kr ?_
   refine WK.un ?_
   refine gom ?_
   refine WC.rt ?_
   exact QF.p1 (.inl rfl) rfl (.tmp rfl) (⟨rfl,rfl,rfl⟩)
  | false=>
   refine go ?_
   refine WC.draw mixed ?_
   refine za.fa 0 ?_
   refine za.move 2 ?_
   refine WA.pp 3 rfl (Gp.sub' rfl rfl z4) ?_
   refine za.fa 6 ?_
   refine za.move 8 ?_
   refine WA.pp 9 rfl (Gp.sub' rfl rfl z1) ?_
   refine za.ld 1 ?_
   refine za.ix 4 ?_
   refine WA.vv 5 rfl (Gv.loadG1 (i:=0) rfl hyc rfl) ?_
   refine za.ld 7 ?_
   refine za.ix 10 ?_
   refine WA.vv 11 rfl (Gv.loadG1 (i:=0) rfl hxc rfl) ?_
   refine WA.pp 12 rfl (Gp.eqI' rfl rfl hxy) ?_
   refine za.move 13 ?_
   refine za.fa 14 ?_
   refine za.move 16 ?_
   refine WA.pp 17 rfl (Gp.sub' rfl rfl z1) ?_
   refine za.ld 15 ?_
   refine za.ix 18 ?_
   refine WA.vv 19 rfl (Gv.loadG1 (i:=0) rfl hxc rfl) ?_
   refine WA.pp 20 rfl (Gp.eqI' rfl rfl hx1) ?_
   refine za.move 21 ?_
   refine za.fa 22 ?_
   refine za.move 24 ?_
   refine WA.pp 25 rfl (Gp.sub' rfl rfl z1) ?_
   refine za.ld 23 ?_
   refine za.ix 26 ?_
   refine WA.vv 27 rfl (Gv.loadG1 (i:=0) rfl hxc rfl) ?_
   refine za.eq 28 ?_
   refine za.pick 29 ?_
   refine za.pick 30 ?_
   refine za.assign 31 ?_
   refine WA.done kr ?_
   refine WK.un ?_
   refine gom ?_
   refine WC.rt ?_
   exact QF.p1 (.inl rfl) rfl (.tmp rfl) (⟨rfl,rfl,rfl⟩)
 have y14:(c==14)=false:=by simpa using c14
 by_cases c15:c=15
 ·subst c15
  have htk1:2≤sk.length:=htk
  obtain⟨x,hx⟩:∃x,sk[sk.length - 1]? =some x:=⟨_,List.getElem?_eq_getElem (by omega)⟩
  obtain⟨xb,xo,rfl,hxc⟩:=hS.stack.at hx
  have z1:IntKind.i64.wrap ((sk.length:Int) - 1)=((sk.length - 1:Nat):Int):=by rw[wrapI (by omega) (by omega)];omega
  have z2:(0:Int)≤((sk.length - 1:Nat):Int):=by omega
  have z3:((sk.length - 1:Nat):Int)<(sk.length:Int):=by omega
  obtain⟨y,hy⟩:∃y,sk[sk.length - 2]? =some y:=⟨_,List.getElem?_eq_getElem (by omega)⟩
  obtain⟨yb,yo,hye,hyc⟩:=hS.stack.at hy
  cases hye
  have z4:IntKind.i64.wrap ((sk.length:Int) - 2)=((sk.length - 2:Nat):Int):=by rw[wrapI (by omega) (by omega)];omega
  have z5:(0:Int)≤((sk.length - 2:Nat):Int):=by omega
  have z6:((sk.length - 2:Nat):Int)<(sk.length:Int):=by omega
  have he:kindsR w p ((15:Int),(n:Int)) ⟨sr,su,sv,sk⟩ (sk.drop (sk.length - (effC w sv ((15:Int),(n:Int))).1))=(y==x&&(x==1 || x==3)):=by
   rw[show(effC w sv ((15:Int),(n:Int))).1=2 from rfl,drop_two htk1 hy hx];unfold kindsR;exact kinds_rel x y
  rw[he]
  cases hxy:(y==x)with
  | false=>
   refine go ?_
   refine WC.draw mixed ?_
   refine za.fa 0 ?_
   refine za.move 2 ?_
   refine WA.pp 3 rfl (Gp.sub' rfl rfl z4) ?_
   refine za.fa 6 ?_
   refine za.move 8 ?_
   refine WA.pp 9 rfl (Gp.sub' rfl rfl z1) ?_
   refine za.ld 1 ?_
   refine za.ix 4 ?_
   refine WA.vv 5 rfl (Gv.loadG1 (i:=0) rfl hyc rfl) ?_
   refine za.ld 7 ?_
   refine za.ix 10 ?_
   refine WA.vv 11 rfl (Gv.loadG1 (i:=0) rfl hxc rfl) ?_
   refine WA.pp 12 rfl (Gp.eqI' rfl rfl hxy) ?_
   refine za.move 13 ?_
   refine za.skip 14 ?_
   refine za.skip 16 ?_
   refine za.skip 17 ?_
   refine za.skip 15 ?_
   refine za.skip 18 ?_
   refine za.skip 19 ?_
   refine za.skip 20 ?_
   refine za.skip 21 ?_
   refine za.skip 22 ?_
   refine za.skip 24 ?_
   refine za.skip 25 ?_
   refine za.skip 23 ?_
   refine za.skip 26 ?_
   refine za.skip 27 ?_
   refine za.skip 28 ?_
   refine za.skip 29 ?_
   refine za.pick 30 ?_
   refine za.assign 31 ?_
   refine WA.done kr ?_
   refine WK.un ?_
   refine gom ?_
   refine WC.rt ?_
   exact QF.p1 (.inl rfl) rfl (.tmp rfl) (⟨rfl,rfl,rfl⟩)
  | true=>
  cases hx1:(x==1)with
  | true=>
   refine go ?_
   refine WC.draw mixed ?_
   refine za.fa 0 ?_
   refine za.move 2 ?_
   refine WA.pp 3 rfl (Gp.sub' rfl rfl z4) ?_
   refine za.fa 6 ?_
   refine za.move 8 ?_
   refine WA.pp 9 rfl (Gp.sub' rfl rfl z1) ?_
   refine za.ld 1 ?_
   refine za.ix 4 ?_
   refine WA.vv 5 rfl (Gv.loadG1 (i:=0) rfl hyc rfl) ?_
   refine za.ld 7 ?_
   refine za.ix 10 ?_
   refine WA.vv 11 rfl (Gv.loadG1 (i:=0) rfl hxc rfl) ?_
   refine WA.pp 12 rfl (Gp.eqI' rfl rfl hxy) ?_
   refine za.move 13 ?_
   refine za.fa 14 ?_
   refine za.move 16 ?_
   refine WA.pp 17 rfl (Gp.sub' rfl rfl z1) ?_
   refine za.ld 15 ?_
   refine za.ix 18 ?_
   refine WA.vv 19 rfl (Gv.loadG1 (i:=0) rfl hxc rfl) ?_
   refine WA.pp 20 rfl (Gp.eqI' rfl rfl hx1) ?_
   refine za.move 21 ?_
   refine za.skip 22 ?_
   refine za.skip 24 ?_
   refine za.skip 25 ?_
   refine za.skip 23 ?_
   refine za.skip 26 ?_
   refine za.skip 27 ?_
   refine za.skip 28 ?_
   refine za.pick 29 ?_
   refine za.pick 30 ?_
   refine za.assign 31 ?_
   refine WA.done kr ?_
   refine WK.un ?_
   refine gom ?_
   refine WC.rt ?_
   exact QF.p1 (.inl rfl) rfl (.tmp rfl) (⟨rfl,rfl,rfl⟩)
  | false=>
   refine go ?_
   refine WC.draw mixed ?_
   refine za.fa 0 ?_
   refine za.move 2 ?_
   refine WA.pp 3 rfl (Gp.sub' rfl rfl z4) ?_
   refine za.fa 6 ?_
   refine za.move 8 ?_
   refine WA.pp 9 rfl (Gp.sub' rfl rfl z1) ?_
   refine za.ld 1 ?_
   refine za.ix 4 ?_
   refine WA.vv 5 rfl (Gv.loadG1 (i:=0) rfl hyc rfl) ?_
   refine za.ld 7 ?_
   refine za.ix 10 ?_
   refine WA.vv 11 rfl (Gv.loadG1 (i:=0) rfl hxc rfl) ?_
   refine WA.pp 12 rfl (Gp.eqI' rfl rfl hxy) ?_
   refine za.move 13 ?_
   refine za.fa 14 ?_
   refine za.move 16 ?_
   refine WA.pp 17 rfl (Gp.sub' rfl rfl z1) ?_
   refine za.ld 15 ?_
   refine za.ix 18 ?_
   refine WA.vv 19 rfl (Gv.loadG1 (i:=0) rfl hxc rfl) ?_
   refine WA.pp 20 rfl (Gp.eqI' rfl rfl hx1) ?_
   refine za.move 21 ?_
   refine za.fa 22 ?_
   refine za.move 24 ?_
   refine WA.pp 25 rfl (Gp.sub' rfl rfl z1) ?_
   refine za.ld 23 ?_
   refine za.ix 26 ?_
   refine WA.vv 27 rfl (Gv.loadG1 (i:=0) rfl hxc rfl) ?_
   refine za.eq 28 ?_
   refine za.pick 29 ?_
   refine za.pick 30 ?_
   refine za.assign 31 ?_
   refine WA.done kr ?_
   refine WK.un ?_
   refine gom ?_
   refine WC.rt ?_
   exact QF.p1 (.inl rfl) rfl (.tmp rfl) (⟨rfl,rfl,rfl⟩)
 have y15:(c==15)=false:=by simpa using c15
 by_cases c16:c=16
 ·subst c16
  have htk1:2≤sk.length:=htk
  obtain⟨x,hx⟩:∃x,sk[sk.length - 1]? =some x:=⟨_,List.getElem?_eq_getElem (by omega)⟩
  obtain⟨xb,xo,rfl,hxc⟩:=hS.stack.at hx
  have z1:IntKind.i64.wrap ((sk.length:Int) - 1)=((sk.length - 1:Nat):Int):=by rw[wrapI (by omega) (by omega)];omega
  have z2:(0:Int)≤((sk.length - 1:Nat):Int):=by omega
  have z3:((sk.length - 1:Nat):Int)<(sk.length:Int):=by omega
  obtain⟨y,hy⟩:∃y,sk[sk.length - 2]? =some y:=⟨_,List.getElem?_eq_getElem (by omega)⟩
  obtain⟨yb,yo,hye,hyc⟩:=hS.stack.at hy
  cases hye
  have z4:IntKind.i64.wrap ((sk.length:Int) - 2)=((sk.length - 2:Nat):Int):=by rw[wrapI (by omega) (by omega)];omega
  have z5:(0:Int)≤((sk.length - 2:Nat):Int):=by omega
  have z6:((sk.length - 2:Nat):Int)<(sk.length:Int):=by omega
  have he:kindsR w p ((16:Int),(n:Int)) ⟨sr,su,sv,sk⟩ (sk.drop (sk.length - (effC w sv ((16:Int),(n:Int))).1))=(y==x&&(x==1 || x==3)):=by
   rw[show(effC w sv ((16:Int),(n:Int))).1=2 from rfl,drop_two htk1 hy hx];unfold kindsR;exact kinds_rel x y
  rw[he]
  cases hxy:(y==x)with
  | false=>
   refine go ?_
   refine WC.draw mixed ?_
   refine za.fa 0 ?_
   refine za.move 2 ?_
   refine WA.pp 3 rfl (Gp.sub' rfl rfl z4) ?_
   refine za.fa 6 ?_
   refine za.move 8 ?_
   refine WA.pp 9 rfl (Gp.sub' rfl rfl z1) ?_
   refine za.ld 1 ?_
   refine za.ix 4 ?_
   refine WA.vv 5 rfl (Gv.loadG1 (i:=0) rfl hyc rfl) ?_
   refine za.ld 7 ?_
   refine za.ix 10 ?_
   refine WA.vv 11 rfl (Gv.loadG1 (i:=0) rfl hxc rfl) ?_
   refine WA.pp 12 rfl (Gp.eqI' rfl rfl hxy) ?_
   refine za.move 13 ?_
   refine za.skip 14 ?_
   refine za.skip 16 ?_
   refine za.skip 17 ?_
   refine za.skip 15 ?_
   refine za.skip 18 ?_
   refine za.skip 19 ?_
   refine za.skip 20 ?_
   refine za.skip 21 ?_
   refine za.skip 22 ?_
   refine za.skip 24 ?_
   refine za.skip 25 ?_
   refine za.skip 23 ?_
   refine za.skip 26 ?_
   refine za.skip 27 ?_
   refine za.skip 28 ?_
   refine za.skip 29 ?_
   refine za.pick 30 ?_
   refine za.assign 31 ?_
   refine WA.done kr ?_
   refine WK.un ?_
   refine gom ?_
   refine WC.rt ?_
   exact QF.p1 (.inl rfl) rfl (.tmp rfl) (⟨rfl,rfl,rfl⟩)
  | true=>
  cases hx1:(x==1)with
  | true=>
   refine go ?_
   refine WC.draw mixed ?_
   refine za.fa 0 ?_
   refine za.move 2 ?_
   refine WA.pp 3 rfl (Gp.sub' rfl rfl z4) ?_
   refine za.fa 6 ?_
   refine za.move 8 ?_
   refine WA.pp 9 rfl (Gp.sub' rfl rfl z1) ?_
   refine za.ld 1 ?_
   refine za.ix 4 ?_
   refine WA.vv 5 rfl (Gv.loadG1 (i:=0) rfl hyc rfl) ?_
   refine za.ld 7 ?_
   refine za.ix 10 ?_
   refine WA.vv 11 rfl (Gv.loadG1 (i:=0) rfl hxc rfl) ?_
   refine WA.pp 12 rfl (Gp.eqI' rfl rfl hxy) ?_
   refine za.move 13 ?_
   refine za.fa 14 ?_
   refine za.move 16 ?_
   refine WA.pp 17 rfl (Gp.sub' rfl rfl z1) ?_
   refine za.ld 15 ?_
   refine za.ix 18 ?_
   refine WA.vv 19 rfl (Gv.loadG1 (i:=0) rfl hxc rfl) ?_
   refine WA.pp 20 rfl (Gp.eqI' rfl rfl hx1) ?_
   refine za.move 21 ?_
   refine za.skip 22 ?_
   refine za.skip 24 ?_
   refine za.skip 25 ?_
   refine za.skip 23 ?_
   refine za.skip 26 ?_
   refine za.skip 27 ?_
   refine za.skip 28 ?_
   refine za.pick 29 ?_
   refine za.pick 30 ?_
   refine za.assign 31 ?_
   refine WA.done kr ?_
   refine WK.un ?_
   refine gom ?_
   refine WC.rt ?_
   exact QF.p1 (.inl rfl) rfl (.tmp rfl) (⟨rfl,rfl,rfl⟩)
  | false=>
   refine go ?_
   refine WC.draw mixed ?_
   refine za.fa 0 ?_
   refine za.move 2 ?_
   refine WA.pp 3 rfl (Gp.sub' rfl rfl z4) ?_
   refine za.fa 6 ?_
   refine za.move 8 ?_
   refine WA.pp 9 rfl (Gp.sub' rfl rfl z1) ?_
   refine za.ld 1 ?_
   refine za.ix 4 ?_
   refine WA.vv 5 rfl (Gv.loadG1 (i:=0) rfl hyc rfl) ?_
   refine za.ld 7 ?_
   refine za.ix 10 ?_
   refine WA.vv 11 rfl (Gv.loadG1 (i:=0) rfl hxc rfl) ?_
   refine WA.pp 12 rfl (Gp.eqI' rfl rfl hxy) ?_
   refine za.move 13 ?_
   refine za.fa 14 ?_
   refine za.move 16 ?_
   refine WA.pp 17 rfl (Gp.sub' rfl rfl z1) ?_
   refine za.ld 15 ?_
   refine za.ix 18 ?_
   refine WA.vv 19 rfl (Gv.loadG1 (i:=0) rfl hxc rfl) ?_
   refine WA.pp 20 rfl (Gp.eqI' rfl rfl hx1) ?_
   refine za.move 21 ?_
   refine za.fa 22 ?_
   refine za.move 24 ?_
   refine WA.pp 25 rfl (Gp.sub' rfl rfl z1) ?_
   refine za.ld 23 ?_
   refine za.ix 26 ?_
   refine WA.vv 27 rfl (Gv.loadG1 (i:=0) rfl hxc rfl) ?_
   refine za.eq 28 ?_
   refine za.pick 29 ?_
   refine za.pick 30 ?_
   refine za.assign 31 ?_
   refine WA.done kr ?_
   refine WK.un ?_
   refine gom ?_
   refine WC.rt ?_
   exact QF.p1 (.inl rfl) rfl (.tmp rfl) (⟨rfl,rfl,rfl⟩)
 have y16:(c==16)=false:=by simpa using c16
 by_cases c17:c=17
 ·subst c17
  have htk1:2≤sk.length:=htk
  obtain⟨x,hx⟩:∃x,sk[sk.length - 1]? =some x:=⟨_,List.getElem?_eq_getElem (by omega)⟩
  obtain⟨xb,xo,rfl,hxc⟩:=hS.stack.at hx
  have z1:IntKind.i64.wrap ((sk.length:Int) - 1)=((sk.length - 1:Nat):Int):=by rw[wrapI (by omega) (by omega)];omega
  have z2:(0:Int)≤((sk.length - 1:Nat):Int):=by omega
  have z3:((sk.length - 1:Nat):Int)<(sk.length:Int):=by omega
  obtain⟨y,hy⟩:∃y,sk[sk.length - 2]? =some y:=⟨_,List.getElem?_eq_getElem (by omega)⟩
  obtain⟨yb,yo,hye,hyc⟩:=hS.stack.at hy
  cases hye
  have z4:IntKind.i64.wrap ((sk.length:Int) - 2)=((sk.length - 2:Nat):Int):=by rw[wrapI (by omega) (by omega)];omega
  have z5:(0:Int)≤((sk.length - 2:Nat):Int):=by omega
  have z6:((sk.length - 2:Nat):Int)<(sk.length:Int):=by omega
  have he:kindsR w p ((17:Int),(n:Int)) ⟨sr,su,sv,sk⟩ (sk.drop (sk.length - (effC w sv ((17:Int),(n:Int))).1))=(y==x&&(x==1 || x==3)):=by
   rw[show(effC w sv ((17:Int),(n:Int))).1=2 from rfl,drop_two htk1 hy hx];unfold kindsR;exact kinds_rel x y
  rw[he]
  cases hxy:(y==x)with
  | false=>
   refine go ?_
   refine WC.draw mixed ?_
   refine za.fa 0 ?_
   refine za.move 2 ?_
   refine WA.pp 3 rfl (Gp.sub' rfl rfl z4) ?_
   refine za.fa 6 ?_
   refine za.move 8 ?_
   refine WA.pp 9 rfl (Gp.sub' rfl rfl z1) ?_
   refine za.ld 1 ?_
   refine za.ix 4 ?_
   refine WA.vv 5 rfl (Gv.loadG1 (i:=0) rfl hyc rfl) ?_
   refine za.ld 7 ?_
   refine za.ix 10 ?_
   refine WA.vv 11 rfl (Gv.loadG1 (i:=0) rfl hxc rfl) ?_
   refine WA.pp 12 rfl (Gp.eqI' rfl rfl hxy) ?_
   refine za.move 13 ?_
   refine za.skip 14 ?_
   refine za.skip 16 ?_
   refine za.skip 17 ?_
   refine za.skip 15 ?_
   refine za.skip 18 ?_
   refine za.skip 19 ?_
   refine za.skip 20 ?_
   refine za.skip 21 ?_
   refine za.skip 22 ?_
   refine za.skip 24 ?_
   refine za.skip 25 ?_
   refine za.skip 23 ?_
   refine za.skip 26 ?_
   refine za.skip 27 ?_
   refine za.skip 28 ?_
   refine za.skip 29 ?_
   refine za.pick 30 ?_
   refine za.assign 31 ?_
   refine WA.done kr ?_
   refine WK.un ?_
   refine gom ?_
   refine WC.rt ?_
   exact QF.p1 (.inl rfl) rfl (.tmp rfl) (⟨rfl,rfl,rfl⟩)
  | true=>
  cases hx1:(x==1)with
  | true=>
   refine go ?_
   refine WC.draw mixed ?_
   refine za.fa 0 ?_
   refine za.move 2 ?_
   refine WA.pp 3 rfl (Gp.sub' rfl rfl z4) ?_
   refine za.fa 6 ?_
   refine za.move 8 ?_
   refine WA.pp 9 rfl (Gp.sub' rfl rfl z1) ?_
   refine za.ld 1 ?_
   refine za.ix 4 ?_
   refine WA.vv 5 rfl (Gv.loadG1 (i:=0) rfl hyc rfl) ?_
   refine za.ld 7 ?_
   refine za.ix 10 ?_
   refine WA.vv 11 rfl (Gv.loadG1 (i:=0) rfl hxc rfl) ?_
   refine WA.pp 12 rfl (Gp.eqI' rfl rfl hxy) ?_
   refine za.move 13 ?_
   refine za.fa 14 ?_
   refine za.move 16 ?_
   refine WA.pp 17 rfl (Gp.sub' rfl rfl z1) ?_
   refine za.ld 15 ?_
   refine za.ix 18 ?_
   refine WA.vv 19 rfl (Gv.loadG1 (i:=0) rfl hxc rfl) ?_
   refine WA.pp 20 rfl (Gp.eqI' rfl rfl hx1) ?_
   refine za.move 21 ?_
   refine za.skip 22 ?_
   refine za.skip 24 ?_
   refine za.skip 25 ?_
   refine za.skip 23 ?_
   refine za.skip 26 ?_
   refine za.skip 27 ?_
   refine za.skip 28 ?_
   refine za.pick 29 ?_
   refine za.pick 30 ?_
   refine za.assign 31 ?_
   refine WA.done kr ?_
   refine WK.un ?_
   refine gom ?_
   refine WC.rt ?_
   exact QF.p1 (.inl rfl) rfl (.tmp rfl) (⟨rfl,rfl,rfl⟩)
  | false=>
   refine go ?_
   refine WC.draw mixed ?_
   refine za.fa 0 ?_
   refine za.move 2 ?_
   refine WA.pp 3 rfl (Gp.sub' rfl rfl z4) ?_
   refine za.fa 6 ?_
   refine za.move 8 ?_
   refine WA.pp 9 rfl (Gp.sub' rfl rfl z1) ?_
   refine za.ld 1 ?_
   refine za.ix 4 ?_
   refine WA.vv 5 rfl (Gv.loadG1 (i:=0) rfl hyc rfl) ?_
   refine za.ld 7 ?_
   refine za.ix 10 ?_
   refine WA.vv 11 rfl (Gv.loadG1 (i:=0) rfl hxc rfl) ?_
   refine WA.pp 12 rfl (Gp.eqI' rfl rfl hxy) ?_
   refine za.move 13 ?_
   refine za.fa 14 ?_
   refine za.move 16 ?_
   refine WA.pp 17 rfl (Gp.sub' rfl rfl z1) ?_
   refine za.ld 15 ?_
   refine za.ix 18 ?_
   refine WA.vv 19 rfl (Gv.loadG1 (i:=0) rfl hxc rfl) ?_
   refine WA.pp 20 rfl (Gp.eqI' rfl rfl hx1) ?_
   refine za.move 21 ?_
   refine za.fa 22 ?_
   refine za.move 24 ?_
   refine WA.pp 25 rfl (Gp.sub' rfl rfl z1) ?_
   refine za.ld 23 ?_
   refine za.ix 26 ?_
   refine WA.vv 27 rfl (Gv.loadG1 (i:=0) rfl hxc rfl) ?_
   refine za.eq 28 ?_
   refine za.pick 29 ?_
   refine za.pick 30 ?_
   refine za.assign 31 ?_
   refine WA.done kr ?_
   refine WK.un ?_
   refine gom ?_
   refine WC.rt ?_
   exact QF.p1 (.inl rfl) rfl (.tmp rfl) (⟨rfl,rfl,rfl⟩)
 have y17:(c==17)=false:=by simpa using c17
 have he:kindsR w p (c,(n:Int)) ⟨sr,su,sv,sk⟩ (sk.drop (sk.length - (effC w sv (c,(n:Int))).1))=true:=by
  unfold kindsR
  rw[if_neg c2,if_neg (by simp[c3,c11]),if_neg (by simp[c6,c25]),if_neg c7,if_neg c8,if_neg c10,if_neg (by simp[c12,c13]),if_neg (by omega),if_neg (by simp[c20,c26]),if_neg (by omega)]
 rw[he]
 refine gom ?_
 refine WC.rt ?_
 exact QF.p1 (.inl rfl) rfl (.tmp rfl) (⟨rfl,rfl,rfl⟩)
end
end
section
open Go.MapKept
attribute [local irreducible] Tryz.prog
theorem any_onwR (i:Int×Int) (k:Nat) (f:Int→Bool):(onwR i k).any f=(nextR i k).any f:=by
 rw[Bool.eq_iff_iff,List.any_eq_true,List.any_eq_true]
 constructor
 ·rintro ⟨x,h,h'⟩;exact⟨x,(mem_onwR i k x).1 h,h'⟩
 ·rintro ⟨x,h,h'⟩;exact⟨x,(mem_onwR i k x).2 h,h'⟩
theorem onwR_len (i:Int×Int) (k:Nat):(onwR i k).length≤2:=by
 unfold onwR
 split
 ·simp
 split
 ·simp
 split<;>simp
section
variable (G:Gh) (w:Wd) (p:Pr) (CA NA PA:Option Addr) (cc nc pc:Nat) (hW:RWp G w CA NA PA) (QA IA:Option Addr) (qc ic:Nat) (hC:Sl Kd.ins G IA p.code) (hfew:p.code.length≤100000000000)
include hW hC hfew
set_option maxHeartbeats 4000000 in
theorem rmet_fn (s:SS) (VA:Option Addr) (vc:Nat) (SA:Option Addr) (sc:Nat) (hS:SRep G s VA vc SA sc) (hv:s.vars.length≤1000000000) (hk:s.stack.length≤1000000000) (k:Nat) (hkk:k≤1000000000) (c:Int) (n:Nat) (hi:p.code[k]? =some (c,(n:Int))) (ho:s.reached=true→EOk w s.vars.length c n):
  Fn Tryz.prog 149 #[.agg (wdC w CA NA PA cc nc pc), .agg (prC p QA qc IA ic), .int .i64 (k:Int),rsV s VA vc SA sc] G []
   fun e G' H'=>e= .returned (.int .i64 (if s.reached=true then metR w p k (c,n) s else 0))∧G.le G'∧H'=[]:=by
 have htk:=hW.takes (cc:=cc) (nc:=nc) (pc:=pc) s.vars (c,n)
 have hly:=effC_lays w s.vars (c,n)
 have hsc:=hS.hs
 refine Fn.enter Tryz.func149 rfl rfl fun w0=>?_
 obtain⟨sr,su,sv,sk⟩:=s
 dsimp only at hv hk ho htk hly hsc⊢
 obtain⟨ib,io,ics,rfl,hik,hic⟩:=hC k _ hi
 obtain rfl:ics=[.int .i64 c, .int .i64 n]:=hik
 have hkl:=(List.getElem?_eq_some_iff.1 hi).1
 have z0:(0:Int)≤(k:Int):=by omega
 have z1:(k:Int)<(p.code.length:Int):=by omega
 refine WC.seq ?_
 refine WC.region ?_
 refine WL.oo (OW.box rfl rfl fun b1=>?_)
 refine WL.oo (OW.box rfl rfl fun b2=>?_)
 refine WL.oo (OW.box rfl rfl fun b3=>?_)
 cases sr with
 | false=>
  refine gom ?_
  refine WC.rt ?_
  exact QF.p1 (.inl rfl) rfl (.tmp rfl) (⟨rfl,Gh.le_refl _,rfl⟩)
 | true=>
 replace ho:=ho rfl
 rw[if_pos rfl]
 refine gom ?_
 refine WL.oo (OW.alloc rfl fun b5=>?_)
 refine gom ?_
 refine WL.oo (OW.callK rfl (ronwards_fn _ c n k hkk) rfl fun v' G' H' h hg=>?_)
 obtain⟨XA,xcap,he,hg5,hx5,rfl⟩:=h
 cases he
 obtain⟨nx,hnx⟩:∃nx,nx=onwR (c,(n:Int)) k:=⟨_,rfl⟩
 have hmet:metR w p k (c,(n:Int)) ⟨true,su,sv,sk⟩=if nx.any (fun x=>decide ((p.code.length:Int)≤x))then 183
   else if badS w (c,(n:Int)) ⟨true,su,sv,sk⟩then 181
   else if(c=9∧p.result≠0)∨(c=10∧p.result=0)then 181
   else if kindsR w p (c,(n:Int)) ⟨true,su,sv,sk⟩ (sk.drop (sk.length - (effC w sv (c,(n:Int))).1))=false then 184 else 0:=by rw[hnx,any_onwR];rfl
 have hnxl:nx.length≤2:=by rw[hnx];exact onwR_len _ _
 rw[←hnx]at hx5⊢
 refine gom ?_
 refine WC.pick [.blk b5 (.cells #[.int .i64 c, .int .i64 n] 50 (0,0)), .blk b1 (.cells (wdC w CA NA PA cc nc pc) 162 (0,0)), .blk b2 (.cells (prC p QA qc (some ⟨ib,io,none⟩) ic) 47 (0,0)), .blk b3 (.cells #[.bool true, .slice VA sv.length vc, .bool su, .slice SA sk.length sc] 220 (0,0))] ?_
 refine WC.loop (X:=Nat) (fun j=>[(4, .pointer (some ⟨b1,0,none⟩)),(5, .pointer (some ⟨b2,0,none⟩)),(7, .pointer (some ⟨b3,0,none⟩)),(9, .pointer (some ⟨b5,0,none⟩)),(10, .slice XA nx.length xcap),(11, .int .i64 (j:Int))]) (fun _=>G') (fun _=>[.blk b5 (.cells #[.int .i64 c, .int .i64 n] 50 (0,0)), .blk b1 (.cells (wdC w CA NA PA cc nc pc) 162 (0,0)), .blk b2 (.cells (prC p QA qc (some ⟨ib,io,none⟩) ic) 47 (0,0)), .blk b3 (.cells #[.bool true, .slice VA sv.length vc, .bool su, .slice SA sk.length sc] 220 (0,0))])
  (fun j=>nx.length - j) (fun j=>j≤nx.length∧∀(q:Nat) x,q<j→nx[q]? =some x→x<(p.code.length:Int)) 0 ⟨Nat.zero_le _,fun q x h=>by omega⟩ (by exact⟨rfl,rfl,rfl,rfl,rfl,rfl,trivial⟩) rfl (List.Sublist.refl _) fun j hj=>?_
 obtain⟨hj,hall⟩:=hj
 by_cases hjl:j<nx.length
 ·have y1:decide ((j:Int)<(nx.length:Int))=true:=decide_eq_true (by omega)
  obtain⟨x,hx⟩:∃x,nx[j]? =some x:=⟨_,List.getElem?_eq_getElem hjl⟩
  obtain⟨xb',xo',rfl,hxc⟩:=hx5.at hx
  have w0':(0:Int)≤(j:Int):=by omega
  have w1:(j:Int)<(nx.length:Int):=by omega
  have w2:=wrapS j (by omega)
  by_cases hq:(p.code.length:Int)≤x
  ·have y2:decide ((p.code.length:Int)≤x)=true:=decide_eq_true hq
   have hany:nx.any (fun x=>decide ((p.code.length:Int)≤x))=true:=List.any_eq_true.2 ⟨x,List.mem_of_getElem? hx,y2⟩
   rw[hmet,if_pos hany]
   refine gom ?_
   refine WC.rt ?_
   exact QF.p1 (.inl rfl) rfl (.tmp rfl) (⟨rfl,hg5,rfl⟩)
  ·have y2:decide ((p.code.length:Int)≤x)=false:=decide_eq_false hq
   refine gom ?_
   exact WK.again (j+1) (by omega) ⟨by omega,fun q z hq' hz=>by
    rcases Nat.lt_or_ge q j with h | h
    ·exact hall q z h hz
    ·obtain rfl:q=j:=by omega
     rw[hx]at hz;cases hz;omega⟩ (by exact⟨rfl,rfl,rfl,rfl,rfl,rfl,trivial⟩) rfl (List.Sublist.refl _)
 have y1:decide ((j:Int)<(nx.length:Int))=false:=decide_eq_false (by omega)
 have hany:nx.any (fun x=>decide ((p.code.length:Int)≤x))=false:=by
  rw[List.any_eq_false]
  intro x hx
  obtain⟨q,hq⟩:=List.getElem?_of_mem hx
  have:=hall q x (by have:=(List.getElem?_eq_some_iff.1 hq).1;omega) hq
  simp;omega
 rw[if_neg (by rw[hany];simp)]at hmet
 refine gom ?_
 refine WL.oo (OW.callK rfl (reffect_fn _ w p CA NA PA cc nc pc (hW.mono hg5) QA (some ⟨ib,io,none⟩) qc ic VA sv vc (hS.vars.mono hg5) c n ho) rfl fun v' G' H' h hg=>?_)
 obtain⟨LA,lc,he,hg1,hs1,rfl⟩:=h
 cases he
 have hgl:=Gh.le_trans hg5 hg1
 obtain⟨tk,htke⟩:∃tk,tk=(effC w sv (c,n)).1:=⟨_,rfl⟩
 obtain⟨ly,hlye⟩:∃ly,ly=(effC w sv (c,n)).2:=⟨_,rfl⟩
 rw[←htke]at htk
 rw[←hlye]at hly hs1
 rw[←htke,←hlye]
 refine WL.pick [.blk b5 (.cells #[.int .i64 c, .int .i64 n] 50 (0,0)), .blk b1 (.cells (wdC w CA NA PA cc nc pc) 162 (0,0)), .blk b2 (.cells (prC p QA qc (some ⟨ib,io,none⟩) ic) 47 (0,0)), .blk b3 (.cells #[.bool true, .slice VA sv.length vc, .bool su, .slice SA sk.length sc] 220 (0,0))] ?_
 have y3:IntKind.i64.wrap ((sk.length:Int) - (tk:Int))=(sk.length:Int) - (tk:Int):=wrapI (by omega) (by omega)
 by_cases hb:badS w (c,(n:Int)) ⟨true,su,sv,sk⟩
 ·rw [hmet,if_pos hb]
  have hb':su=true∨(sk.length<tk∨128<sk.length - tk+ly.length):=by unfold badS at hb;rw[htke,hlye];exact hb
  cases su with
  | true=>
   refine gom ?_
   refine WC.rt ?_
   exact QF.p1 (.inl rfl) rfl (.tmp rfl) (⟨rfl,hgl,rfl⟩)
  | false=>
  by_cases h1:sk.length<tk
  ·have y7:decide ((sk.length:Int)<(tk:Int))=true:=decide_eq_true (by omega)
   refine gom ?_
   refine WC.rt ?_
   exact QF.p1 (.inl rfl) rfl (.tmp rfl) (⟨rfl,hgl,rfl⟩)
  ·have y7:decide ((sk.length:Int)<(tk:Int))=false:=decide_eq_false (by omega)
   have h2:128<sk.length - tk+ly.length:=by
    rcases hb' with h | h | h
    ·cases h
    ·exact absurd h h1
    ·exact h
   have y8:IntKind.i64.wrap ((sk.length:Int) - (tk:Int)+(ly.length:Int))=(sk.length:Int) - (tk:Int)+(ly.length:Int):=wrapI (by omega) (by omega)
   have y9:decide ((128:Int)<(sk.length:Int) - (tk:Int)+(ly.length:Int))=true:=decide_eq_true (by omega)
   refine gom ?_
   refine WC.rt ?_
   exact QF.p1 (.inl rfl) rfl (.tmp rfl) (⟨rfl,hgl,rfl⟩)
 rw[if_neg hb]at hmet
 have hb':¬(su=true∨(sk.length<tk∨128<sk.length - tk+ly.length)):=by unfold badS at hb;rw[htke,hlye];exact hb
 have hus:su=false:=by cases h:su with | false=>rfl | true=>exact absurd (.inl h) hb'
 subst hus
 have h1:¬sk.length<tk:=fun h=>hb' (.inr (.inl h))
 have h2:¬128<sk.length - tk+ly.length:=fun h=>hb' (.inr (.inr h))
 have y7:decide ((sk.length:Int)<(tk:Int))=false:=decide_eq_false (by omega)
 have y8:IntKind.i64.wrap ((sk.length:Int) - (tk:Int)+(ly.length:Int))=(sk.length:Int) - (tk:Int)+(ly.length:Int):=wrapI (by omega) (by omega)
 have y9:decide ((128:Int)<(sk.length:Int) - (tk:Int)+(ly.length:Int))=false:=decide_eq_false (by omega)
 by_cases h9:(c=9∧p.result≠0)∨(c=10∧p.result=0)
 ·rw[if_pos h9]at hmet
  rw[hmet]
  rcases h9 with⟨rfl,h9⟩ | ⟨rfl,h9⟩
  ·have hrb:(p.result != 0)=true:=by simpa using h9
   refine gom ?_
   refine WC.rt ?_
   exact QF.p1 (.inl rfl) rfl (.tmp rfl) (⟨rfl,hgl,rfl⟩)
  ·have hrb:(p.result==0)=true:=by simpa using h9
   refine gom ?_
   refine WC.rt ?_
   exact QF.p1 (.inl rfl) rfl (.tmp rfl) (⟨rfl,hgl,rfl⟩)
 rw[if_neg h9]at hmet
 have hkf:=rkinds_fn _ w p CA NA PA cc nc pc (hW.mono hgl) QA (some ⟨ib,io,none⟩) qc ic ⟨true,false,sv,sk⟩ VA vc SA sc (hS.mono hgl) hv hk c n ho (by dsimp only;omega)
 dsimp only at hkf
 by_cases d9:c=9
 ·subst d9
  have hres:p.result=0:=by
   apply Decidable.byContradiction;intro h;exact h9 (.inl ⟨rfl,h⟩)
  have hrb:(p.result != 0)=false:=by rw[hres];rfl
  refine gom ?_
  refine WL.oo (OW.callK rfl (hkf) rfl fun v' G' H' h hg=>?_)
  obtain⟨he,rfl,rfl⟩:=h
  cases he
  cases hb5:kindsR w p ((9:Int),(n:Int)) ⟨true,false,sv,sk⟩ (sk.drop (sk.length - (effC w sv ((9:Int),(n:Int))).1))with
  | true=>
   rw[hb5,if_neg (by simp)]at hmet
   rw[hmet]
   refine gom ?_
   refine WC.rt ?_
   exact QF.p1 (.inl rfl) rfl (.tmp rfl) (⟨rfl,hgl,rfl⟩)
  | false=>
   rw[hb5,if_pos rfl]at hmet
   rw[hmet]
   refine gom ?_
   refine WC.rt ?_
   exact QF.p1 (.inl rfl) rfl (.tmp rfl) (⟨rfl,hgl,rfl⟩)
 have y10:(c==9)=false:=by simpa using d9
 by_cases d10:c=10
 ·subst d10
  have hres:p.result≠0:=fun h=>h9 (.inr ⟨rfl,h⟩)
  have hrb:(p.result==0)=false:=by simpa using hres
  refine gom ?_
  refine WL.oo (OW.callK rfl (hkf) rfl fun v' G' H' h hg=>?_)
  obtain⟨he,rfl,rfl⟩:=h
  cases he
  cases hb5:kindsR w p ((10:Int),(n:Int)) ⟨true,false,sv,sk⟩ (sk.drop (sk.length - (effC w sv ((10:Int),(n:Int))).1))with
  | true=>
   rw[hb5,if_neg (by simp)]at hmet
   rw[hmet]
   refine gom ?_
   refine WC.rt ?_
   exact QF.p1 (.inl rfl) rfl (.tmp rfl) (⟨rfl,hgl,rfl⟩)
  | false=>
   rw[hb5,if_pos rfl]at hmet
   rw[hmet]
   refine gom ?_
   refine WC.rt ?_
   exact QF.p1 (.inl rfl) rfl (.tmp rfl) (⟨rfl,hgl,rfl⟩)
 have y11:(c==10)=false:=by simpa using d10
 refine gom ?_
 refine WL.oo (OW.callK rfl (hkf) rfl fun v' G' H' h hg=>?_)
 obtain⟨he,rfl,rfl⟩:=h
 cases he
 cases hb5:kindsR w p (c,(n:Int)) ⟨true,false,sv,sk⟩ (sk.drop (sk.length - (effC w sv (c,(n:Int))).1))with
 | true=>
  rw[hb5,if_neg (by simp)]at hmet
  rw[hmet]
  refine gom ?_
  refine WC.rt ?_
  exact QF.p1 (.inl rfl) rfl (.tmp rfl) (⟨rfl,hgl,rfl⟩)
 | false=>
  rw[hb5,if_pos rfl]at hmet
  rw[hmet]
  refine gom ?_
  refine WC.rt ?_
  exact QF.p1 (.inl rfl) rfl (.tmp rfl) (⟨rfl,hgl,rfl⟩)
end
end
section
open Go.MapKept
attribute [local irreducible] Tryz.prog
def Kd.rs:Kd SS where
 n:=4
 K G s cs:=∃VA vc SA sc,cs=[.bool s.reached, .slice VA s.vars.length vc, .bool s.unlike, .slice SA s.stack.length sc]∧(s.vars.length≤vc∧s.stack.length≤sc)∧Sl (Kd.int .i64) G VA s.vars∧Sl (Kd.int .i64) G SA s.stack
 mono hg h:=let ⟨VA,vc,SA,sc,h1,h0,h2,h3⟩:=h;⟨VA,vc,SA,sc,h1,h0,h2.mono hg,h3.mono hg⟩
 len h:=by obtain⟨VA,vc,SA,sc,h1,_⟩:=h;rw[h1];rfl
 one h:=by obtain⟨VA,vc,SA,sc,h1,_⟩:=h;rw[h1];rfl
abbrev rsL (s:SS) (VA:Option Addr) (vc:Nat) (SA:Option Addr) (sc:Nat):List Value:=[.bool s.reached, .slice VA s.vars.length vc, .bool s.unlike, .slice SA s.stack.length sc]
theorem Kd.rs_rep {G:Gh} {s:SS} {es:List Value} (h:Kd.rs.K G s es):∃VA vc SA sc,es=rsL s VA vc SA sc∧SRep G s VA vc SA sc:=by
 obtain⟨VA,vc,SA,sc,h1,⟨h2,h3⟩,h4,h5⟩:=h
 exact⟨VA,vc,SA,sc,h1,h2,h3,h4,h5⟩
theorem SRep.rd {G:Gh} {s:SS} {VA:Option Addr} {vc:Nat} {SA:Option Addr} {sc:Nat} (h:SRep G s VA vc SA sc):Kd.rs.K G s (rsL s VA vc SA sc):=
 ⟨VA,vc,SA,sc,rfl,⟨h.hv,h.hs⟩,h.vars,h.stack⟩
theorem wt_le {n:Nat} {s:SS} (h:s.wf n):wt n s≤n+130:=by
 unfold wt
 split
 ·omega
 ·rename_i hr
  have hr:s.reached=true:=by simpa using hr
  have h1:=nz_le s.vars
  have h2:=nz_le s.stack
  have h3:=h.vars hr
  have h4:=h.high
  split<;>omega
theorem sumW_le {n:Nat} :∀ {l:List SS},(∀s∈l,s.wf n)→sumW n l≤l.length*(n+130)
 | [],_=>by simp[sumW]
 | a::l,h=>by
  have h1:=wt_le (h a (List.mem_cons_self ..))
  have h2:=sumW_le (l:=l) fun s hs=>h s (List.mem_cons_of_mem _ hs)
  have e:sumW n (a::l)=wt n a+sumW n l:=by simp[sumW]
  rw[e,List.length_cons,Nat.add_mul];omega
def bls (l:List Bool):List Value:=l.map Value.bool
theorem bls_rep:∀n:Nat,repS n [Value.bool false]=bls (List.replicate n false)
 | 0=>rfl
 | n+1=>by simp only[repS,bls_rep n,List.replicate_succ];rfl
abbrev WVec (wb:Nat) (l:List Bool) (c:Array Value):Prop:=Vec 4 1 (some ⟨wb,0,none⟩) l.length l.length (bls l) (.blk wb (.cells c 4 (0,0)))
theorem WVec.put {wb i:Nat} {l:List Bool} {c:Array Value} (h:WVec wb l c) (hi:i<l.length) (x:Bool):i+1≤c.size∧WVec wb (l.set i x) (splice c i [.bool x]):=by
 obtain⟨_,h2,h3⟩:=Vec.put1 h (o:=i) (by omega) (.bool x)
 exact⟨h2,by unfold WVec bls;rw[List.map_set,List.length_set];exact h3⟩
theorem WVec.get {wb i:Nat} {l:List Bool} {c:Array Value} (h:WVec wb l c) {x:Bool} (hx:l[i]? =some x):c[i]? =some (.bool x):=by
 obtain⟨_,⟨_,h,_⟩ | ⟨b,c',h1,h2,_,_,h3⟩⟩:=h
 ·have:=(List.getElem?_eq_some_iff.1 hx).1;omega
 ·cases h2
  have h4:(bls l)[i]? =some (.bool x):=by unfold bls;rw[List.getElem?_map,hx];rfl
  rw[←h3,List.getElem?_take]at h4
  split at h4
  ·simpa using h4
  ·cases h4
abbrev QVec (A:Option Addr) (l:List Int) (cap:Nat) (x:Own):Prop:=IVec 3 A l cap x
theorem QVec.snoc {A:Option Addr} {l:List Int} {cap:Nat} {x:Own} {z:Int} (h:Vec 3 1 A (l.length+1) cap (ints l++[.int .i64 z]) x):QVec A (l++[z]) cap x:=by
 unfold QVec IVec;rw[ints_append,List.length_append];exact h
theorem QVec.pop {A:Option Addr} {l:List Int} {cap:Nat} {x:Own} {z:Int} (h:QVec A (l++[z]) cap x):QVec A l cap x:=by
 have h1:=Vec.cut (m:=l.length) h (by simp)
 unfold QVec IVec
 rw[Nat.mul_one,ints_append,List.take_left' (by rw[ints_length,Nat.mul_one])]at h1
 exact h1
structure FM where
 l:List SS
 T:List Int
 ws:List Bool
 G:Gh
 cs:List Value
 c:Array Value
 TA:Option Addr
 tc:Nat
 o:Own
 wc:Array Value
section
variable (G:Gh) (w:Wd) (p:Pr) (CA NA PA:Option Addr) (cc nc pc:Nat) (hW:RWp G w CA NA PA) (QA IA:Option Addr) (qc ic:Nat) (hQ:Sl (Kd.int .i64) G QA p.params) (hI:Sl Kd.ins G IA p.code) (hp:POk w p)
include hW hQ hI hp
set_option maxHeartbeats 4000000 in
theorem rStates_fn:
  Fn Tryz.prog 148 #[.agg (wdC w CA NA PA cc nc pc), .agg (prC p QA qc IA ic)] G []
   fun e G' H'=>∃A tc l,e= .returned (.slice A l.length tc)∧G.le G'∧Sl Kd.rs G' A l∧l.length≤tc∧Least w p l∧H'=[]:=by
 have hfew:=hp.few
 have hpos:=hp.pos
 have hpar:=hp.par
 have hloc:=hp.loc
 refine Fn.enter Tryz.func148 rfl rfl fun w0=>?_
 refine WC.seq ?_
 refine WC.region ?_
 refine WL.oo (OW.box rfl rfl fun b1=>?_)
 refine WL.oo (OW.box rfl rfl fun b2=>?_)
 refine gom ?_
 refine WL.oo (OW.makeSlice (n:=4) (z:= .agg #[.bool false, .slice none 0 0, .bool false, .slice none 0 0]) rfl rfl rfl (by omega) (by omega) (by omega) rfl fun tb o1 ho1=>?_)
 rw[Int.toNat_natCast]at ho1⊢
 obtain⟨xb,xc,hxb,rfl⟩:=ho1.isBlk hpos
 obtain rfl:tb=xb:=by cases hxb;rfl
 refine gom ?_
 refine WL.oo (OW.alloc rfl fun b6=>?_)
 refine gom ?_
 refine WL.nothing ?_
 refine WL.oo (OW.append rfl rfl kr kr TVec.nilv atA hQ.ints (ints_length _) (ints_one _) (by first | omega | (dsimp only;omega)) (by first | omega | (dsimp only;omega)) rfl fun A1 c1 x1 hx1=>?_)
 rw[Nat.zero_add]at hx1⊢
 rw[List.nil_append]at hx1
 refine zw.fa ?_
 refine zw.st ?_
 refine WL.nil ?_
 refine WK.un ?_
 refine gom ?_
 refine WC.pick [x1, .blk b6 (.cells #[.bool true, .slice A1 p.params.length c1, .bool false, .slice none 0 0] 220 (0,0)), .blk tb (.cells xc 220 (0,0)), .blk b1 (.cells (wdC w CA NA PA cc nc pc) 162 (0,0)), .blk b2 (.cells (prC p QA qc IA ic) 47 (0,0))] ?_
 refine WC.loop (X:=List Int×Option Addr×Nat×Own) (fun t=>[(2, .pointer (some ⟨b1,0,none⟩)),(3, .pointer (some ⟨b2,0,none⟩)),(5, .slice (some ⟨tb,0,none⟩) p.code.length p.code.length),(6, .pointer (some ⟨b6,0,none⟩))]) (fun _=>G) (fun t=>[t.2.2.2, .blk b6 (.cells #[.bool true, .slice t.2.1 t.1.length t.2.2.1, .bool false, .slice none 0 0] 220 (0,0)), .blk tb (.cells xc 220 (0,0)), .blk b1 (.cells (wdC w CA NA PA cc nc pc) 162 (0,0)), .blk b2 (.cells (prC p QA qc IA ic) 47 (0,0))]) (fun t=>p.locals.toNat - t.1.length)
  (fun t=>p.params.length≤t.1.length∧(t.1.length:Int)≤p.locals∧t.1=p.params++List.replicate (t.1.length - p.params.length) 0∧TVec t.2.1 t.1 t.2.2.1 t.2.2.2) (p.params,A1,c1,x1)
  ⟨Nat.le_refl _,hpar,by simp,hx1⟩ (by exact⟨rfl,rfl,rfl,rfl,trivial⟩) rfl (List.Sublist.refl _) fun t ht=>?_
 obtain⟨vs,B,cv,o⟩:=t
 obtain⟨hv1,hv2,hv3,hv⟩:=ht
 dsimp only at hv1 hv2 hv3 hv
 by_cases hlt:(vs.length:Int)<p.locals
 ·have e2:decide ((vs.length:Int)<p.locals)=true:=decide_eq_true hlt
  refine gom ?_
  refine WL.op kr (OW.buildSlice rfl kr kr (by rfl) rfl fun b33=>?_)
  refine WL.oo (OW.append rfl rfl kr kr hv atA (Rds.blk0 (cs:=[.int .i64 0]) atA rfl) rfl rfl (by first | omega | (dsimp only;omega)) (by first | omega | (dsimp only;omega)) rfl fun A3 c3 o3 hv3'=>?_)
  have h3:=TVec.snoc hv3'
  have hl3:vs.length+1=(vs++[0]).length:=by rw[List.length_append];rfl
  refine gom ?_
  rw[hl3]
  refine WK.pick [o3, .blk b6 (.cells #[.bool true, .slice A3 (vs++[0]).length c3, .bool false, .slice none 0 0] 220 (0,0)), .blk tb (.cells xc 220 (0,0)), .blk b1 (.cells (wdC w CA NA PA cc nc pc) 162 (0,0)), .blk b2 (.cells (prC p QA qc IA ic) 47 (0,0))] ?_
  refine WK.again (vs++[0],A3,c3,o3) (by dsimp only;rw[←hl3];omega) ⟨by dsimp only;rw[←hl3];omega,by dsimp only;rw[←hl3];omega,?_,h3⟩ (by exact⟨rfl,rfl,rfl,rfl,trivial⟩) rfl (List.Sublist.refl _)
  dsimp only
  rw[←hl3,show vs.length+1 - p.params.length=(vs.length - p.params.length)+1 by omega,List.replicate_succ',←List.append_assoc,←hv3]
 have e2:decide ((vs.length:Int)<p.locals)=false:=decide_eq_false hlt
 have hbv:vs=(beginS p).vars:=by
  rw[hv3]
  show _=p.params++List.replicate (p.locals.toNat - p.params.length) 0
  rw[show p.locals.toNat=vs.length by omega]
 clear hv3
 subst hbv
 have hbl:(beginS p).vars.length=p.locals.toNat:=by omega
 refine gom ?_
 refine WL.frozenVec hv atA fun G2 hg2 z2=>?_
 have hbs:Sl (Kd.int .i64) G2 B (beginS p).vars:=IVec.sl z2
 have hbR:SRep G2 (beginS p) B cv none 0:=⟨hv.le,Nat.le_refl _,hbs,Sl.nil _ _ _⟩
 obtain⟨_,hfit1,hput1⟩:=Vec.put (i:=0) ho1 hpos (rsL (beginS p) B cv none 0) rfl
 have hble1:Nat.ble (0+(0:Int).toNat*4+4) xc.size=true:=Nat.ble_eq_true_of_le hfit1
 have x0:(0:Int)<(p.code.length:Int):=by omega
 refine WL.oo (OW.store (n:=4) (cs:=rsL (beginS p) B cv none 0) rfl rfl atA rfl rfl rfl hble1 rfl ?_ rfl)
 refine gom ?_
 refine WL.op kr (OW.buildSlice rfl kr kr (by rfl) rfl fun b7=>?_)
 refine gom ?_
 refine WL.oo (OW.makeSlice (n:=1) (z:= .bool false) rfl rfl rfl (by omega) (by omega) (by omega) rfl fun wb o2 ho2=>?_)
 rw[Int.toNat_natCast]at ho2⊢
 obtain⟨yb,yc,hyb,rfl⟩:=ho2.isBlk hpos
 obtain rfl:wb=yb:=by cases hyb;rfl
 rw[show(Value.bool false).cells.toList=[Value.bool false]from rfl,bls_rep]at ho2
 have hw1:WVec wb (List.replicate p.code.length false) yc:=by unfold WVec;rw[List.length_replicate];exact ho2
 obtain⟨hfw,hw2⟩:=hw1.put (i:=0) (by simpa using hpos) true
 have hblew:Nat.ble (0+(0:Int).toNat*1+1) yc.size=true:=Nat.ble_eq_true_of_le hfw
 have hq1:QVec (some ⟨b7,0,none⟩) [0] 1 (.blk b7 (.cells #[.int .i64 0] 3 (0,0))):=⟨rfl, .inr ⟨b7,_,rfl,rfl,Nat.le_refl _,rfl,rfl⟩⟩
 refine gom ?_
 have hkv0:KV Kd.rs G2 ((List.replicate p.code.length ss0).set 0 (beginS p)) ((repS p.code.length (Value.agg #[.bool false, .slice none 0 0, .bool false, .slice none 0 0]).cells.toList).take (0*4)++rsL (beginS p) B cv none 0++(repS p.code.length (Value.agg #[.bool false, .slice none 0 0, .bool false, .slice none 0 0]).cells.toList).drop (0*4+(rsL (beginS p) B cv none 0).length)):=
  KV.set (k:=Kd.rs) (KV.rep (k:=Kd.rs) (x:=ss0) ⟨none,0,none,0,rfl,⟨Nat.le_refl _,Nat.le_refl _⟩,Sl.nil _ _ _,Sl.nil _ _ _⟩ _) hbR.rd (by simpa using hpos)
 have hinv0:=FInv.first (w:=w) hpar hpos
 have hsum0:2*sumW p.locals.toNat ((List.replicate p.code.length ss0).set 0 (beginS p))+1≤10000000:=by
  have h1:=sumW_le hinv0.wf
  have h2:p.code.length*(p.locals.toNat+130)≤16384*194:=Nat.mul_le_mul hfew (by omega)
  rw[hinv0.len]at h1
  omega
 refine WC.pick [.blk b7 (.cells #[.int .i64 0] 3 (0,0)), .blk tb (.cells _ 220 (0,0)), .blk wb (.cells _ 4 (0,0)), .blk b1 (.cells (wdC w CA NA PA cc nc pc) 162 (0,0)), .blk b2 (.cells (prC p QA qc IA ic) 47 (0,0))] ?_
 refine WC.loop (X:=FM) (fun x=>[(2, .pointer (some ⟨b1,0,none⟩)),(3, .pointer (some ⟨b2,0,none⟩)),(5, .slice (some ⟨tb,0,none⟩) p.code.length p.code.length),(7, .slice x.TA x.T.length x.tc),(8, .slice (some ⟨wb,0,none⟩) p.code.length p.code.length)]) (fun x=>x.G) (fun x=>[x.o, .blk tb (.cells x.c 220 (0,0)), .blk wb (.cells x.wc 4 (0,0)), .blk b1 (.cells (wdC w CA NA PA cc nc pc) 162 (0,0)), .blk b2 (.cells (prC p QA qc IA ic) 47 (0,0))]) (fun x=>2*sumW p.locals.toNat x.l+x.T.length)
  (fun x=>FInv w p x.l x.T∧(x.ws.length=p.code.length∧∀k:Nat,x.ws[k]? =some true→(k:Int)∈x.T)∧QVec x.TA x.T x.tc x.o∧Vec 220 4 (some ⟨tb,0,none⟩) p.code.length p.code.length x.cs (.blk tb (.cells x.c 220 (0,0)))∧WVec wb x.ws x.wc∧KV Kd.rs x.G x.l x.cs∧G2.le x.G∧2*sumW p.locals.toNat x.l+x.T.length≤10000000)
  ⟨(List.replicate p.code.length ss0).set 0 (beginS p),[0],(List.replicate p.code.length false).set 0 true,G2,_,_,some ⟨b7,0,none⟩,1, .blk b7 (.cells #[.int .i64 0] 3 (0,0)),_⟩ ⟨hinv0,⟨by simp,fun k hk=>by
   rw[List.getElem?_set]at hk
   split at hk
   ·rename_i h;subst h;simp
   ·rw[List.getElem?_replicate]at hk
    split at hk<;>simp at hk⟩,hq1,hput1,hw2,hkv0,Gh.le_refl _,hsum0⟩ (by exact⟨rfl,rfl,rfl,rfl,rfl,trivial⟩) rfl (List.Sublist.refl _) fun x hx=>?_
 obtain⟨l,T,ws,G3,cs,c,TA2,tc2,o,wc⟩:=x
 obtain⟨hinv,⟨hwl,hwt⟩,hqv,hsv,hwv,hkv,hg3,hsum⟩:=hx
 dsimp only at hinv hwl hwt hqv hsv hwv hkv hg3 hsum
 have hll:=hinv.len
 by_cases hT0:T.length=0
 ·have y0:decide ((0:Int)<(T.length:Int))=false:=decide_eq_false (by omega)
  refine gom ?_
  refine WC.frozenVec hsv atA fun G4 hg4 z4=>?_
  have hT00:T=[]:=List.eq_nil_of_length_eq_zero hT0
  subst hT00
  rw[←hll]
  refine WC.rt ?_
  exact QF.p1 (.inl rfl) rfl (.tmp rfl) (⟨some ⟨tb,0,none⟩,l.length,l,rfl,Gh.le_trans hg2 (Gh.le_trans hg3 hg4),(hkv.mono hg4).sl (by decide) z4,Nat.le_refl _,hinv.least,rfl⟩)
 have y0:decide ((0:Int)<(T.length:Int))=true:=decide_eq_true (by omega)
 obtain⟨T0,q,rfl⟩:∃T0 q,T=T0++[q]:=⟨T.dropLast,T.getLast (fun h=>hT0 (by rw[h];rfl)),(List.dropLast_concat_getLast _).symm⟩
 obtain⟨kq,s0,hck,hs0,hr0⟩:=hinv.todo q (by simp)
 subst hck
 have hTl:(T0++[(kq:Int)]).length=T0.length+1:=by simp
 have hkq:=(List.getElem?_eq_some_iff.1 hs0).1
 obtain⟨i,hi⟩:∃i,p.code[kq]? =some i:=⟨_,List.getElem?_eq_getElem (by omega)⟩
 obtain⟨hi0,hiE⟩:=hp.ins kq i hi
 obtain⟨ic1,in1⟩:=i
 obtain⟨nn,rfl⟩:∃nn:Nat,in1=nn:=⟨in1.toNat,by dsimp only at hi0;omega⟩
 dsimp only at hiE
 rw[Int.toNat_natCast]at hiE
 have hw0:=hinv.wf s0 (List.mem_of_getElem? hs0)
 have hv0:=hw0.vars hr0
 obtain⟨VA,vc,SA,sc,hes0,hS0⟩:=Kd.rs_rep (hkv.2 kq s0 hs0)
 have hst0:=hw0.high
 obtain⟨ib,io,ics,rfl,hik,hic⟩:=hI kq _ hi
 obtain rfl:ics=[.int .i64 ic1, .int .i64 nn]:=hik
 have hgg:G.le G3:=Gh.le_trans hg2 hg3
 have hic3:=hic.mono hgg
 obtain⟨qb,qcs,rfl,rfl,hqc⟩:=hqv.some (by simp)
 have hqg:qcs[0+(((T0.length:Nat):Int)).toNat*1]? =some (.int .i64 (kq:Int)):=by
  have:=ivec_get hqc (i:=T0.length) (x:=(kq:Int)) (by simp)
  simpa using this
 have y1:IntKind.i64.wrap (((T0++[(kq:Int)]).length:Int) - 1)=((T0.length:Nat):Int):=by
  rw[hTl,wrapI (by omega) (by omega)];omega
 have y2:(0:Int)≤((T0.length:Nat):Int):=by omega
 have y3:((T0.length:Nat):Int)<(((T0++[(kq:Int)]).length:Nat):Int):=by rw[hTl];omega
 have hqv0:=hqv.pop
 have z0:(0:Int)≤(kq:Int):=by omega
 have z1:(kq:Int)<(p.code.length:Int):=by omega
 obtain⟨hfq,hwv0⟩:=hwv.put (i:=0+((kq:Nat):Int).toNat*1) (by omega) false
 have hbleq:Nat.ble (0+((kq:Nat):Int).toNat*1+1) wc.size=true:=Nat.ble_eq_true_of_le hfq
 refine gom ?_
 refine WL.pp (Gp.sliceTo rfl rfl (by omega) (by have:=hqv.le;show((T0.length:Nat):Int)≤((tc2:Nat):Int);omega)) ?_
 rw[Int.toNat_natCast]
 refine go ?_
 obtain⟨sB,hsB⟩:∃sB,sB=behR w (ic1,(nn:Int)) s0:=⟨_,rfl⟩
 have hwB:sB.wf p.locals.toNat:=by rw[hsB];exact behR_wf hw0 hr0
 have hrB:sB.reached=true:=by rw[hsB,behR_reached];exact hr0
 have hin:=hinv.into (T':=T0) (q:=kq) (by simp) hi hs0 (fun x hx=>by simp[hx]) (fun x hx hne=>by
  rcases List.mem_append.1 hx with h | h
  ·exact h
  ·exact absurd (by simpa using h) hne)
 have hWG:=hW.mono hgg
 have ekq:0+((kq:Nat):Int).toNat*1=kq:=by omega
 have hwl0:(ws.set (0+((kq:Nat):Int).toNat*1) false).length=p.code.length:=by rw[List.length_set,hwl]
 have hwt0:∀k:Nat,(ws.set (0+((kq:Nat):Int).toNat*1) false)[k]? =some true→(k:Int)∈T0:=fun k hk=>by
  rw[ekq,List.getElem?_set]at hk
  split at hk
  ·split at hk<;>cases hk
  ·rename_i hne
   have:=hwt k hk
   rcases List.mem_append.1 this with h | h
   ·exact h
   ·simp at h;omega
 refine WC.joinG (X:=Gh×Option Addr×Nat×Option Addr×Nat×Nat) (fun t=>[(2, .pointer (some ⟨b1,0,none⟩)),(3, .pointer (some ⟨b2,0,none⟩)),(5, .slice (some ⟨tb,0,none⟩) p.code.length p.code.length),(7, .slice (some ⟨qb,0,none⟩) T0.length tc2),(8, .slice (some ⟨wb,0,none⟩) p.code.length p.code.length),(9, .int .i64 (kq:Int)),(10, .pointer (some ⟨t.2.2.2.2.2,0,none⟩))]) (fun t=>t.1)
  (fun t=>[.blk t.2.2.2.2.2 (.cells (rsC sB t.2.1 t.2.2.1 t.2.2.2.1 t.2.2.2.2.1) 220 (0,0)), .blk qb (.cells qcs 3 (0,0)), .blk tb (.cells c 220 (0,0)), .blk wb (.cells (splice wc (0+((kq:Nat):Int).toNat*1) [.bool false]) 4 (0,0)), .blk b1 (.cells (wdC w CA NA PA cc nc pc) 162 (0,0)), .blk b2 (.cells (prC p QA qc (some ⟨ib,io,none⟩) ic) 47 (0,0))]) (fun t=>G3.le t.1∧SRep t.1 sB t.2.1 t.2.2.1 t.2.2.2.1 t.2.2.2.2.1) ?_ fun t ht=>?_
 ·obtain⟨rb,ro,hrr,hread⟩:=(Vec.rds hsv .here:Rds G3 [.blk tb (.cells c 220 (0,0))] (some ⟨tb,0,none⟩) cs).resolve_left (fun h=>by have h1:=hkv.1;rw[h]at h1;simp[Kd.rs]at h1;omega)
  cases hrr
  have hbf:=rbehind_fn G3 w p CA NA PA cc nc pc hWG QA (some ⟨ib,io,none⟩) qc ic s0 VA vc SA sc hS0 hr0 (by omega) (by omega) ic1 nn (by rw[hv0];exact hiE)
  rw[←hsB]at hbf
  refine WC.drawS (Hs:=[.blk tb (.cells c 220 (0,0)), .blk b1 (.cells (wdC w CA NA PA cc nc pc) 162 (0,0)), .blk b2 (.cells (prC p QA qc (some ⟨ib,io,none⟩) ic) 47 (0,0))]) mixed pkA ?_
  refine zb.ld 0 ?_
  refine zb.ld 1 ?_
  refine zb.fa 2 ?_
  refine zb.ld 3 ?_
  refine zb.move 4 ?_
  refine zb.ix 5 ?_
  refine WB.vv 6 rfl (Gv.loadGN rfl hic3 rfl) ?_
  refine zb.move 7 ?_
  refine zb.move 8 ?_
  refine zb.ix 9 ?_
  refine WB.vv 10 rfl (Gv.loadRN (i:=((kq:Nat):Int).toNat*4) rfl hread (.cons_cons _ (List.nil_sublist _)) hes0 rfl) ?_
  refine WB.two (i:=11) (j:=12) kr rfl rfl kr kr (OW.callK rfl hbf rfl fun v' G' H' h hg=>?_) (OW.alloc rfl fun b10=>?_)
  ·obtain⟨V1,v1,S1,s1,he,hg4,hR4,rfl⟩:=h
   cases he
   refine⟨fun w hw=>(hw.pk pkA).le hg4,?_⟩
   refine WB.oo 12 rfl (OW.alloc rfl fun b10=>?_)
   refine⟨fun w hw=>(hw.pk pkA).le hg4,?_⟩
   refine zb.st 13 ?_
   refine⟨fun w hw=>(hw.pk pkA).le hg4,?_⟩
   refine WB.done kr ?_
   refine WK.un ?_
   refine WK.pick [.blk b10 (.cells (rsC sB V1 v1 S1 s1) 220 (0,0)), .blk qb (.cells qcs 3 (0,0)), .blk tb (.cells c 220 (0,0)), .blk wb (.cells (splice wc (0+((kq:Nat):Int).toNat*1) [.bool false]) 4 (0,0)), .blk b1 (.cells (wdC w CA NA PA cc nc pc) 162 (0,0)), .blk b2 (.cells (prC p QA qc (some ⟨ib,io,none⟩) ic) 47 (0,0))] ?_
   exact WK.meet (G',V1,v1,S1,s1,b10) ⟨hg4,hR4⟩ (by exact⟨rfl,rfl,rfl,rfl,rfl,rfl,rfl,trivial⟩) rfl (List.Sublist.refl _)
  ·refine⟨fun w hw=>hw.pk pkA,?_⟩
   refine WB.oo 11 rfl (OW.callK rfl hbf rfl fun v' G' H' h hg=>?_)
   obtain⟨V1,v1,S1,s1,he,hg4,hR4,rfl⟩:=h
   cases he
   refine⟨fun w hw=>(hw.pk pkA).le hg4,?_⟩
   refine zb.st 13 ?_
   refine⟨fun w hw=>(hw.pk pkA).le hg4,?_⟩
   refine WB.done kr ?_
   refine WK.un ?_
   refine WK.pick [.blk b10 (.cells (rsC sB V1 v1 S1 s1) 220 (0,0)), .blk qb (.cells qcs 3 (0,0)), .blk tb (.cells c 220 (0,0)), .blk wb (.cells (splice wc (0+((kq:Nat):Int).toNat*1) [.bool false]) 4 (0,0)), .blk b1 (.cells (wdC w CA NA PA cc nc pc) 162 (0,0)), .blk b2 (.cells (prC p QA qc (some ⟨ib,io,none⟩) ic) 47 (0,0))] ?_
   exact WK.meet (G',V1,v1,S1,s1,b10) ⟨hg4,hR4⟩ (by exact⟨rfl,rfl,rfl,rfl,rfl,rfl,rfl,trivial⟩) rfl (List.Sublist.refl _)
 obtain⟨G4,V1,v1,S1,s1,b10⟩:=t
 obtain⟨hg4,hR4⟩:=ht
 dsimp only at hg4 hR4
 have hic4:=hic3.mono hg4
 refine gom ?_
 refine WL.oo (OW.callK rfl (ronwards_fn _ ic1 nn kq (by omega)) rfl fun v' G' H' h hg=>?_)
 obtain⟨XA,xcap,he,hg5,hx5,rfl⟩:=h
 cases he
 obtain⟨nx,hnx⟩:∃nx,nx=onwR (ic1,(nn:Int)) kq:=⟨_,rfl⟩
 rw[←hnx]at hx5⊢
 have hnxl:nx.length≤2:=by rw[hnx];exact onwR_len _ _
 refine gom ?_
 refine WC.pick [.blk b10 (.cells (rsC sB V1 v1 S1 s1) 220 (0,0)), .blk qb (.cells qcs 3 (0,0)), .blk tb (.cells c 220 (0,0)), .blk wb (.cells (splice wc (0+((kq:Nat):Int).toNat*1) [.bool false]) 4 (0,0)), .blk b1 (.cells (wdC w CA NA PA cc nc pc) 162 (0,0)), .blk b2 (.cells (prC p QA qc (some ⟨ib,io,none⟩) ic) 47 (0,0))] ?_
 refine WC.loop (X:=Nat×FM) (fun x=>[(2, .pointer (some ⟨b1,0,none⟩)),(3, .pointer (some ⟨b2,0,none⟩)),(5, .slice (some ⟨tb,0,none⟩) p.code.length p.code.length),(7, .slice x.2.TA x.2.T.length x.2.tc),(8, .slice (some ⟨wb,0,none⟩) p.code.length p.code.length),(10, .pointer (some ⟨b10,0,none⟩)),(11, .slice XA nx.length xcap),(12, .int .i64 (x.1:Int))]) (fun x=>x.2.G) (fun x=>[.blk b10 (.cells (rsC sB V1 v1 S1 s1) 220 (0,0)),x.2.o, .blk tb (.cells x.2.c 220 (0,0)), .blk wb (.cells x.2.wc 4 (0,0)), .blk b1 (.cells (wdC w CA NA PA cc nc pc) 162 (0,0)), .blk b2 (.cells (prC p QA qc (some ⟨ib,io,none⟩) ic) 47 (0,0))]) (fun x=>nx.length - x.1)
  (fun x=>x.1≤nx.length∧FIn w p x.2.l x.2.T kq (ic1,(nn:Int)) s0 ((nx.take x.1).reverse)∧(x.2.ws.length=p.code.length∧∀k:Nat,x.2.ws[k]? =some true→(k:Int)∈x.2.T)∧QVec x.2.TA x.2.T x.2.tc x.2.o∧Vec 220 4 (some ⟨tb,0,none⟩) p.code.length p.code.length x.2.cs (.blk tb (.cells x.2.c 220 (0,0)))∧WVec wb x.2.ws x.2.wc∧KV Kd.rs x.2.G x.2.l x.2.cs∧G'.le x.2.G∧2*sumW p.locals.toNat x.2.l+x.2.T.length≤2*sumW p.locals.toNat l+T0.length)
  (0,⟨l,T0,ws.set (0+((kq:Nat):Int).toNat*1) false,G',cs,c,some ⟨qb,0,none⟩,tc2, .blk qb (.cells qcs 3 (0,0)),_⟩) ⟨Nat.zero_le _,hin,⟨hwl0,hwt0⟩,hqv0,hsv,hwv0,hkv.mono (Gh.le_trans hg4 hg5),Gh.le_refl _,Nat.le_refl _⟩ (by exact⟨rfl,rfl,rfl,rfl,rfl,rfl,rfl,rfl,trivial⟩) rfl (List.Sublist.refl _) fun x hx=>?_
 obtain⟨j,l2,T2,ws2,G6,cs2,c2,TA3,tc3,o3,wc2⟩:=x
 obtain⟨hj,hin2,⟨hwl2,hwt2⟩,hqv2,hsv2,hwv2,hkv2,hg6,hμ2⟩:=hx
 dsimp only at hj hin2 hwl2 hwt2 hqv2 hsv2 hwv2 hkv2 hg6 hμ2
 by_cases hjl:j<nx.length
 rotate_left
 ·have y1:decide ((j:Int)<(nx.length:Int))=false:=decide_eq_false (by omega)
  have hdone:=hin2.done (fun x hx=> .inl (by have hx:=(mem_onwR _ _ _).2 hx;rw[←hnx]at hx;rw[List.take_of_length_le (by omega)];simpa using hx))
  refine gom ?_
  refine WK.pick [o3, .blk tb (.cells c2 220 (0,0)), .blk wb (.cells wc2 4 (0,0)), .blk b1 (.cells (wdC w CA NA PA cc nc pc) 162 (0,0)), .blk b2 (.cells (prC p QA qc (some ⟨ib,io,none⟩) ic) 47 (0,0))] ?_
  exact WK.again ⟨l2,T2,ws2,G6,cs2,c2,TA3,tc3,o3,wc2⟩ (by dsimp only;rw[hTl];omega) ⟨hdone,⟨hwl2,hwt2⟩,hqv2,hsv2,hwv2,hkv2,Gh.le_trans hg3 (Gh.le_trans hg4 (Gh.le_trans hg5 hg6)),by dsimp only;rw[hTl]at hsum;omega⟩ (by exact⟨rfl,rfl,rfl,rfl,rfl,trivial⟩) rfl (List.Sublist.refl _)
 have y1:decide ((j:Int)<(nx.length:Int))=true:=decide_eq_true (by omega)
 obtain⟨x,hx⟩:∃x,nx[j]? =some x:=⟨_,List.getElem?_eq_getElem hjl⟩
 have hxm:x∈nextR (ic1,(nn:Int)) kq:=(mem_onwR _ _ _).1 (by rw[←hnx];exact List.mem_of_getElem? hx)
 have hx0:=nextR_nonneg hxm
 obtain⟨k,rfl⟩:∃k:Nat,x=k:=⟨x.toNat,by omega⟩
 have htake:(nx.take (j+1)).reverse=(k:Int)::(nx.take j).reverse:=by rw[List.take_add_one,hx];simp
 obtain⟨xb',xo',rfl,hxc⟩:=hx5.at hx
 have hxc6:=hxc.mono hg6
 have w0':(0:Int)≤(j:Int):=by omega
 have w1:(j:Int)<(nx.length:Int):=by omega
 have w2:=wrapS j (by omega)
 by_cases hkl:p.code.length≤k
 ·have y2:decide ((p.code.length:Int)≤(k:Int))=true:=decide_eq_true (by omega)
  refine gom ?_
  exact WK.again (j+1,⟨l2,T2,ws2,G6,cs2,c2,TA3,tc3,o3,wc2⟩) (by dsimp only;omega) ⟨by dsimp only;omega,by dsimp only;rw[htake];exact hin2.pass (by omega),⟨hwl2,hwt2⟩,hqv2,hsv2,hwv2,hkv2,hg6,hμ2⟩ (by exact⟨rfl,rfl,rfl,rfl,rfl,rfl,rfl,rfl,trivial⟩) rfl (List.Sublist.refl _)
 have y2:decide ((p.code.length:Int)≤(k:Int))=false:=decide_eq_false (by omega)
 have hl2:=hin2.len
 obtain⟨s,hs⟩:∃s,l2[k]? =some s:=⟨_,List.getElem?_eq_getElem (by omega)⟩
 have hws:=hin2.wf s (List.mem_of_getElem? hs)
 have hvs:s.vars.length≤1000:=by
  cases hr:s.reached with
  | false=>rw[hws.bare hr];simp
  | true=>rw[hws.vars hr];omega
 have hks:=hws.high
 obtain⟨VK,vk,SK,sk,hesk,hSk⟩:=Kd.rs_rep (hkv2.2 k s hs)
 have hR6:=hR4.mono (Gh.le_trans hg5 hg6)
 obtain⟨rb,ro,hrr,hread⟩:=(Vec.rds hsv2 .here:Rds G6 [.blk tb (.cells c2 220 (0,0))] (some ⟨tb,0,none⟩) cs2).resolve_left (fun h=>by have h1:=hkv2.1;rw[h]at h1;simp[Kd.rs]at h1;omega)
 cases hrr
 have v0':(0:Int)≤(k:Int):=by omega
 have v1':(k:Int)<(p.code.length:Int):=by omega
 obtain⟨sJ,hsJ⟩:∃sJ,sJ=joinS s sB:=⟨_,rfl⟩
 have hwJ:sJ.wf p.locals.toNat:=by rw[hsJ];exact joinS_wf hws hwB
 have hvJ:sJ.vars.length≤1000:=by
  cases hr:sJ.reached with
  | false=>rw[hwJ.bare hr];simp
  | true=>rw[hwJ.vars hr];omega
 have hkJ:=hwJ.high
 refine go ?_
 refine WC.joinG (X:=Gh×Option Addr×Nat×Option Addr×Nat×Nat) (fun t=>[(2, .pointer (some ⟨b1,0,none⟩)),(3, .pointer (some ⟨b2,0,none⟩)),(5, .slice (some ⟨tb,0,none⟩) p.code.length p.code.length),(7, .slice TA3 T2.length tc3),(8, .slice (some ⟨wb,0,none⟩) p.code.length p.code.length),(10, .pointer (some ⟨b10,0,none⟩)),(11, .slice (some ⟨xb',xo',none⟩) nx.length xcap),(12, .int .i64 (j:Int)),(13, .pointer (some ⟨t.2.2.2.2.2,0,none⟩))]) (fun t=>t.1)
  (fun t=>[.blk t.2.2.2.2.2 (.cells (rsC sJ t.2.1 t.2.2.1 t.2.2.2.1 t.2.2.2.2.1) 220 (0,0)), .blk b10 (.cells (rsC sB V1 v1 S1 s1) 220 (0,0)),o3, .blk tb (.cells c2 220 (0,0)), .blk wb (.cells wc2 4 (0,0)), .blk b1 (.cells (wdC w CA NA PA cc nc pc) 162 (0,0)), .blk b2 (.cells (prC p QA qc (some ⟨ib,io,none⟩) ic) 47 (0,0))]) (fun t=>G6.le t.1∧SRep t.1 sJ t.2.1 t.2.2.1 t.2.2.2.1 t.2.2.2.2.1) ?_ fun t ht=>?_
 ·refine WC.drawS (Hs:=[.blk b10 (.cells (rsC sB V1 v1 S1 s1) 220 (0,0)), .blk tb (.cells c2 220 (0,0))]) mixed pkA ?_
  refine zb.move 0 ?_
  refine zb.move 1 ?_
  refine zb.move 2 ?_
  refine zb.ix 3 ?_
  refine WB.vv 4 rfl (Gv.loadG1 (i:=0) rfl hxc6 rfl) ?_
  refine zb.ix 5 ?_
  refine WB.vv 6 rfl (Gv.loadRN (i:=((k:Nat):Int).toNat*4) rfl hread (List.sublist_cons_self _ _) hesk rfl) ?_
  refine zb.ld 7 ?_
  have hjf:=rjoin_fn G6 s sB VK V1 vk v1 SK S1 sk s1 hSk hR6 (fun h1 h2=>by rw[hws.vars h1,hwB.vars h2]) (by omega) (by omega)
  rw[←hsJ]at hjf
  refine WB.two (i:=8) (j:=9) kr rfl rfl kr kr (OW.callK rfl hjf rfl fun v' G' H' h hg=>?_) (OW.alloc rfl fun b13=>?_)
  ·obtain⟨V2,v2,S2,s2,he,hg7,hR7,rfl⟩:=h
   cases he
   refine⟨fun w hw=>(hw.pk pkA).le hg7,?_⟩
   refine WB.oo 9 rfl (OW.alloc rfl fun b13=>?_)
   refine⟨fun w hw=>(hw.pk pkA).le hg7,?_⟩
   refine zb.st 10 ?_
   refine⟨fun w hw=>(hw.pk pkA).le hg7,?_⟩
   refine WB.done kr ?_
   refine WK.un ?_
   refine WK.pick [.blk b13 (.cells (rsC sJ V2 v2 S2 s2) 220 (0,0)), .blk b10 (.cells (rsC sB V1 v1 S1 s1) 220 (0,0)),o3, .blk tb (.cells c2 220 (0,0)), .blk wb (.cells wc2 4 (0,0)), .blk b1 (.cells (wdC w CA NA PA cc nc pc) 162 (0,0)), .blk b2 (.cells (prC p QA qc (some ⟨ib,io,none⟩) ic) 47 (0,0))] ?_
   exact WK.meet (G',V2,v2,S2,s2,b13) ⟨hg7,hR7⟩ (by exact⟨rfl,rfl,rfl,rfl,rfl,rfl,rfl,rfl,rfl,trivial⟩) rfl (List.Sublist.refl _)
  ·refine⟨fun w hw=>hw.pk pkA,?_⟩
   refine WB.oo 8 rfl (OW.callK rfl hjf rfl fun v' G' H' h hg=>?_)
   obtain⟨V2,v2,S2,s2,he,hg7,hR7,rfl⟩:=h
   cases he
   refine⟨fun w hw=>(hw.pk pkA).le hg7,?_⟩
   refine zb.st 10 ?_
   refine⟨fun w hw=>(hw.pk pkA).le hg7,?_⟩
   refine WB.done kr ?_
   refine WK.un ?_
   refine WK.pick [.blk b13 (.cells (rsC sJ V2 v2 S2 s2) 220 (0,0)), .blk b10 (.cells (rsC sB V1 v1 S1 s1) 220 (0,0)),o3, .blk tb (.cells c2 220 (0,0)), .blk wb (.cells wc2 4 (0,0)), .blk b1 (.cells (wdC w CA NA PA cc nc pc) 162 (0,0)), .blk b2 (.cells (prC p QA qc (some ⟨ib,io,none⟩) ic) 47 (0,0))] ?_
   exact WK.meet (G',V2,v2,S2,s2,b13) ⟨hg7,hR7⟩ (by exact⟨rfl,rfl,rfl,rfl,rfl,rfl,rfl,rfl,rfl,trivial⟩) rfl (List.Sublist.refl _)
 obtain⟨G7,V2,v2,S2,s2,b13⟩:=t
 obtain⟨hg7,hR7⟩:=ht
 dsimp only at hg7 hR7
 have hread7:∀w,Sat G7 [.blk tb (.cells c2 220 (0,0))] w→∀j v,cs2[j]? =some v→w.cell? ⟨tb,0+j,none⟩=some v:=fun w hw=>hread w (hw.le hg7)
 have hSk7:=hSk.mono hg7
 have hxc7:=hxc6.mono hg7
 have hsf:=ralike_fn G7 sJ s V2 VK v2 vk S2 SK s2 sk hR7 hSk7 (by omega) (by omega)
 refine gom ?_
 refine WQ.tv (Gv.loadRN (i:=((k:Nat):Int).toNat*4) rfl hread7 (.cons _ (.cons _ (.cons _ (.cons_cons _ (List.nil_sublist _))))) hesk rfl) kr kr rfl ?_
 refine WQ.one kr kr (OW.callK rfl (hsf) rfl fun v' G' H' h hg=>?_)
 obtain⟨he,rfl,rfl⟩:=h
 cases he
 by_cases heq:sJ=s
 ·rw[decide_eq_true heq]
  refine gom ?_
  refine WK.pick [.blk b10 (.cells (rsC sB V1 v1 S1 s1) 220 (0,0)),o3, .blk tb (.cells c2 220 (0,0)), .blk wb (.cells wc2 4 (0,0)), .blk b1 (.cells (wdC w CA NA PA cc nc pc) 162 (0,0)), .blk b2 (.cells (prC p QA qc (some ⟨ib,io,none⟩) ic) 47 (0,0))] ?_
  exact WK.again (j+1,⟨l2,T2,ws2,G7,cs2,c2,TA3,tc3,o3,wc2⟩) (by dsimp only;omega) ⟨by dsimp only;omega,by dsimp only;rw[htake];exact hin2.same hs (by rw[←hsB,←hsJ];exact heq),⟨hwl2,hwt2⟩,hqv2,hsv2,hwv2,hkv2.mono hg7,Gh.le_trans hg6 hg7,hμ2⟩ (by exact⟨rfl,rfl,rfl,rfl,rfl,rfl,rfl,rfl,trivial⟩) rfl (List.Sublist.refl _)
 rw[decide_eq_false heq]
 refine WQ.done kr ?_
 refine go ?_
 obtain⟨_,hfitK,hputK⟩:=Vec.put hsv2 (show k<p.code.length by omega) (rsL sJ V2 v2 S2 s2) rfl
 have hfitK':k*4+4≤c2.size:=hfitK
 have hbleK:Nat.ble (0+((k:Nat):Int).toNat*4+4) c2.size=true:=Nat.ble_eq_true_of_le (by omega)
 have hkv9:=KV.set (k:=Kd.rs) (hkv2.mono hg7) hR7.rd (i:=k) (by omega)
 have hne:joinS s (behR w (ic1,(nn:Int)) s0)≠s:=by rw[←hsB,←hsJ];exact heq
 have hrise:=hin2.rises hs hne
 rw[←hsB,←hsJ]at hrise
 have ek:0+((k:Nat):Int).toNat*4=k*4:=by omega
 have ek1:0+((k:Nat):Int).toNat*1=k:=by omega
 rw[←ek]at hputK
 refine WC.draw mixed ?_
 refine za.move 0 ?_
 refine za.move 1 ?_
 refine za.move 2 ?_
 refine za.ix 3 ?_
 refine WA.vv 4 rfl (Gv.loadG1 (i:=0) rfl hxc7 rfl) ?_
 refine za.ld 5 ?_
 refine za.ix 6 ?_
 refine WA.oo 7 rfl (OW.store (n:=4) (cs:=rsL sJ V2 v2 S2 s2) rfl rfl atA rfl rfl rfl hbleK rfl ?_ rfl)
 refine WA.done kr ?_
 refine WK.un ?_
 obtain⟨bk,hbk⟩:∃bk,ws2[k]? =some bk:=⟨_,List.getElem?_eq_getElem (by omega)⟩
 have hwg:wc2[0+((k:Nat):Int).toNat*1]? =some (.bool bk):=hwv2.get (by rw[ek1];exact hbk)
 cases bk with
 | true=>
  have hkT:=hwt2 k hbk
  have hturn:=hin2.turn (T':=T2) hxm hs (fun x=>⟨.inl,fun h=>h.elim id fun e=>by rw[e];exact hkT⟩)
  rw[←hsB,←hsJ]at hturn
  refine gom ?_
  refine WK.pick [.blk b10 (.cells (rsC sB V1 v1 S1 s1) 220 (0,0)),o3, .blk tb (.cells (splice c2 (0+((k:Nat):Int).toNat*4) (rsL sJ V2 v2 S2 s2)) 220 (0,0)), .blk wb (.cells wc2 4 (0,0)), .blk b1 (.cells (wdC w CA NA PA cc nc pc) 162 (0,0)), .blk b2 (.cells (prC p QA qc (some ⟨ib,io,none⟩) ic) 47 (0,0))] ?_
  exact WK.again (j+1,⟨l2.set k sJ,T2,ws2,G7,_,_,TA3,tc3,o3,wc2⟩) (by dsimp only;omega) ⟨by dsimp only;omega,by dsimp only;rw[htake];exact hturn,⟨hwl2,hwt2⟩,hqv2,hputK,hwv2,by dsimp only;rw[ek];exact hkv9,Gh.le_trans hg6 hg7,by dsimp only;omega⟩ (by exact⟨rfl,rfl,rfl,rfl,rfl,rfl,rfl,rfl,trivial⟩) rfl (List.Sublist.refl _)
 | false=>
  have hturn:=hin2.turn (T':=T2++[(k:Int)]) hxm hs (fun x=>by simp)
  rw[←hsB,←hsJ]at hturn
  obtain⟨hfk,hwv3⟩:=hwv2.put (i:=0+((k:Nat):Int).toNat*1) (by omega) true
  have hblek:Nat.ble (0+((k:Nat):Int).toNat*1+1) wc2.size=true:=Nat.ble_eq_true_of_le hfk
  have hwl3:(ws2.set (0+((k:Nat):Int).toNat*1) true).length=p.code.length:=by rw[List.length_set,hwl2]
  have hwt3:∀m:Nat,(ws2.set (0+((k:Nat):Int).toNat*1) true)[m]? =some true→(m:Int)∈T2++[(k:Int)]:=fun m hm=>by
   rw[ek1,List.getElem?_set]at hm
   split at hm
   ·rename_i h;subst h;simp
   ·exact List.mem_append_left _ (hwt2 m hm)
  rw[hTl]at hsum
  refine gom ?_
  refine WL.op kr (OW.buildSlice rfl kr kr (by rfl) rfl fun b40=>?_)
  refine WL.oo (OW.append rfl rfl kr kr hqv2 atA (Rds.blk0 (cs:=[.int .i64 (k:Int)]) atA rfl) rfl rfl (by first | omega | (dsimp only;omega)) (by first | omega | (dsimp only;omega)) rfl fun A9 c9 o9 hv9=>?_)
  have hq9:=QVec.snoc hv9
  have hl9:T2.length+1=(T2++[(k:Int)]).length:=by rw[List.length_append];rfl
  refine gom ?_
  refine WK.pick [.blk b10 (.cells (rsC sB V1 v1 S1 s1) 220 (0,0)),o9, .blk tb (.cells (splice c2 (0+((k:Nat):Int).toNat*4) (rsL sJ V2 v2 S2 s2)) 220 (0,0)), .blk wb (.cells (splice wc2 (0+((k:Nat):Int).toNat*1) [.bool true]) 4 (0,0)), .blk b1 (.cells (wdC w CA NA PA cc nc pc) 162 (0,0)), .blk b2 (.cells (prC p QA qc (some ⟨ib,io,none⟩) ic) 47 (0,0))] ?_
  exact WK.again (j+1,⟨l2.set k sJ,T2++[(k:Int)],ws2.set (0+((k:Nat):Int).toNat*1) true,G7,_,_,A9,c9,o9,_⟩) (by dsimp only;omega) ⟨by dsimp only;omega,by dsimp only;rw[htake];exact hturn,⟨hwl3,hwt3⟩,hq9,hputK,hwv3,by dsimp only;rw[ek];exact hkv9,Gh.le_trans hg6 hg7,by dsimp only;rw[←hl9];omega⟩ (by exact⟨rfl,rfl,rfl,by show _=some (Value.slice A9 _ c9);rw[←hl9];rfl,rfl,rfl,rfl,rfl,trivial⟩) rfl (List.Sublist.refl _)
end
end
end Go.Proofs.YtcnlkfocbbkdhaaGreatDoor.Gb
