/- A program, verified; ObjectVerified: walked. The document's look at a program: walked. The writer's first constants: walked. Bytes of a program, the program's and the document's: walked. Arguments of a bounded bulk, opened with the sum of all that they hold: lists of objects. How many bytes objects and programs have; ObjectBytes: walked. ObjectOrder: its arguments opened. ObjectBytes: its arguments opened. -/
import Derived.Test.YtcnlkfocbbkdhaaGreatDoorTj
set_option linter.unusedVariables false
set_option linter.unusedSimpArgs false
set_option linter.unusedSectionVars false
namespace Go.Proofs.YtcnlkfocbbkdhaaGreatDoor.Gb
open Go Go.Proofs
section
open Go.MapKept
attribute [local irreducible] Tryz.prog progR allA linkE allPr joinP joinT' sumP sumC objAns ptR
noncomputable def progAns (cs:List V) (prs:List Pr) (pts:List Pt):Int×Int×Int:=if progR cs prs pts then allA ⟨cs,[],prs⟩else(0,0,185)
structure GLim (cs:List V) (prs:List Pr) (pts:List Pt):Prop where
 cl:cs.length≤100000000000000
 pl:prs.length≤100000000000000
 tl:pts.length≤100000000000000
 ts:∀x∈pts,x.path.size≤4000000000
 pr:∀q∈prs,q.params.length≤100000000000000∧q.code.length≤100000000000000∧q.name.size≤100000000000000
theorem Program_fn (G:Gh) (hE:Env G) (cs:List V) (prs:List Pr) (pts:List Pt) (CA PA QA:Option Addr) (cc pc qc:Nat) (hC:Sl Kd.val G CA cs) (hP:Sl Kd.prc G PA prs) (hQ:Sl Kd.pnt G QA pts) (hL:GLim cs prs pts):
  Fn Tryz.prog 26 #[.agg #[.slice CA cs.length cc, .slice PA prs.length pc, .slice QA pts.length qc]] G [] fun e G' H'=>e= .returned (.tuple #[.agg #[.int .i64 (progAns cs prs pts).1, .int .i64 (progAns cs prs pts).2.1], .int .i64 (progAns cs prs pts).2.2])∧G.le G'∧H'=[]:=by
 refine Fn.enter Tryz.func26 rfl rfl fun w0=>?_
 refine WC.seq ?_
 refine WC.region ?_
 refine WL.oo (OW.box rfl rfl fun b1=>?_)
 refine WL.oo (OW.alloc rfl fun b2=>?_)
 refine gom ?_
 refine WL.oo (OW.callK rfl (program_fn G hE cs prs pts CA PA QA cc pc qc hC hP hQ hL.cl hL.pl hL.tl hL.ts) rfl fun v' G' H' h hg=>?_)
 obtain⟨he,hg1,rfl⟩:=h
 cases he
 cases h1:progR cs prs pts with
 | false=>
  have hr:progAns cs prs pts=(0,0,185):=by rw[progAns,h1];rfl
  rw[hr]
  refine gom ?_
  refine WC.rt ?_
  exact QF.p2 (.inl rfl) rfl (.cell rfl inferInstance inferInstance atA rfl rfl) (.tmp rfl) (⟨rfl,hg1,rfl⟩)
 | true=>
 have hr:progAns cs prs pts=allA ⟨cs,[],prs⟩:=by rw[progAns,h1];rfl
 rw[hr]
 refine gom ?_
 refine WL.oo (OW.box rfl rfl fun b14=>?_)
 refine zw.assign ?_
 refine WL.nil ?_
 refine WK.un ?_
 refine WC.pick [.blk b14 (.cells #[.slice CA cs.length cc, .slice none 0 0, .slice PA prs.length pc] 97 (0,0)),spB b2] ?_
 refine WC.freezeC .here rfl fun G1 hg2 hf1=>?_
 have hg3:=Gh.le_trans hg1 hg2
 have hW:WRep G1 ⟨cs,[],prs⟩ b14 CA none PA cc 0 pc:=⟨hf1,hC.mono hg3,Sl.nil _ _ _,hP.mono hg3,hL.cl,by simp,hL.pl,by simp,fun q hq=>(hL.pr q hq).1⟩
 refine gom ?_
 refine WL.oo (OW.callK rfl (wallA_fn G1 (hE.mono hg3) ⟨cs,[],prs⟩ b14 CA none PA cc 0 pc hW (fun q hq=>(hL.pr q hq).2)) rfl fun v' G' H' h hg=>?_)
 obtain⟨he,hg4,rfl⟩:=h
 cases he
 refine gom ?_
 refine WC.rt ?_
 exact QF.p2 (.inl rfl) rfl (.cell rfl inferInstance inferInstance atA rfl rfl) (.tmp rfl) (⟨rfl,Gh.le_trans hg3 hg4,rfl⟩)
section
attribute [local semireducible] joinP joinT' sumP allPr
end
end
section
open Go.MapKept
attribute [local irreducible] Tryz.prog ptsOkR fileR valueR allA
theorem progAns_bad {cs:List V} {prs:List Pr} {pts:List Pt} (h:progR cs prs pts=false):progAns cs prs pts=(0,0,185):=by unfold progAns;rw[h];rfl
set_option maxRecDepth 20000 in
set_option maxHeartbeats 8000000 in
theorem rProgram_fn (G:Gh) (cs:List V) (prs:List Pr) (pts:List Pt) (CA PA QA:Option Addr) (cc pc qc:Nat) (hC:Sl Kd.val G CA cs) (hP:Sl Kd.prc G PA prs) (hQ:Sl Kd.pnt G QA pts) (hL:GLim cs prs pts):
  Fn Tryz.prog 69 #[.agg #[.slice CA cs.length cc, .slice PA prs.length pc, .slice QA pts.length qc]] G [] fun e G' H'=>e= .returned (.tuple #[.agg #[.int .i64 (progAns cs prs pts).1, .int .i64 (progAns cs prs pts).2.1], .int .i64 (progAns cs prs pts).2.2])∧G.le G'∧H'=[]:=by
 have hcl:=hL.cl
 have hpl:=hL.pl
 have hql:=hL.tl
 refine Fn.enter Tryz.func69 rfl rfl fun w0=>?_
 refine WC.seq ?_
 refine WC.region ?_
 refine WL.oo (OW.box rfl rfl fun b1=>?_)
 refine WL.oo (OW.alloc rfl fun b2=>?_)
 refine gom ?_
 refine WL.oo (OW.alloc rfl fun b4=>?_)
 cases h2:decide ((cs.length:Int)≤65536)with
 | false=>
  have y2:=dgt h2
  rw[progAns_bad (by unfold progR;rw[h2];simp)]
  refine gom ?_
  refine WC.rt ?_
  exact QF.p2 (.inl rfl) rfl (.cell rfl inferInstance inferInstance atA rfl rfl) (.tmp rfl) (⟨rfl,Gh.le_refl _,rfl⟩)
 | true=>
 have y2:=dgt h2
 cases h3:decide ((prs.length:Int)≤4096)with
 | false=>
  have y3:=dgt h3
  rw[progAns_bad (by unfold progR;rw[h3];simp)]
  refine gom ?_
  refine WC.rt ?_
  exact QF.p2 (.inl rfl) rfl (.cell rfl inferInstance inferInstance atA rfl rfl) (.tmp rfl) (⟨rfl,Gh.le_refl _,rfl⟩)
 | true=>
 have y3:=dgt h3
 refine gom ?_
 refine WC.pick [pgB b1 CA PA QA cs.length cc prs.length pc pts.length qc,spB b2, .blk b4 (.cells (wdC ⟨cs,[],prs⟩ CA none PA cc 0 pc) 162 (0,0))] ?_
 refine WC.loop (X:=Nat) (fun i=>[(1, .pointer (some ⟨b1,0,none⟩)),(2, .pointer (some ⟨b2,0,none⟩)),(4, .pointer (some ⟨b4,0,none⟩)),(5, .int .i64 (i:Int))]) (fun _=>G) (fun _=>[pgB b1 CA PA QA cs.length cc prs.length pc pts.length qc,spB b2, .blk b4 (.cells (wdC ⟨cs,[],prs⟩ CA none PA cc 0 pc) 162 (0,0))]) (fun i=>cs.length - i) (fun i=>i≤cs.length∧∀j y,j<i→cs[j]? =some y→valueR y=true) 0 ⟨Nat.zero_le _,fun j y h=>absurd h (Nat.not_lt_zero _)⟩ (by exact⟨rfl,rfl,rfl,rfl,trivial⟩) rfl (List.Sublist.refl _) fun i hx=>?_
 obtain⟨hi,hall⟩:=hx
 have x2:=wrapS i (by omega)
 by_cases hlt:i<cs.length
 ·have e2:decide ((i:Int)<(cs.length:Int))=true:=decide_eq_true (by omega)
  obtain⟨v,hv⟩:∃v,cs[i]? =some v:=⟨_,List.getElem?_eq_getElem hlt⟩
  obtain⟨b,ofs,vs,rfl,hk,hcs⟩:=hC i v hv
  obtain rfl:vs=vcells v:=hk
  have x0:(0:Int)≤(i:Int):=by omega
  have x1:(i:Int)<(cs.length:Int):=by omega
  refine gom ?_
  refine WL.oo (OW.callK rfl (rvalue_fn G v) rfl fun v' G' H' h hg=>?_)
  obtain⟨he,rfl,rfl⟩:=h
  cases he
  cases h1:valueR v with
  | true=>
   refine gom ?_
   refine WK.pick [pgB b1 (some ⟨b,ofs,none⟩) PA QA cs.length cc prs.length pc pts.length qc,spB b2, .blk b4 (.cells (wdC ⟨cs,[],prs⟩ (some ⟨b,ofs,none⟩) none PA cc 0 pc) 162 (0,0))] ?_
   exact WK.again (i+1) (by omega) ⟨by omega,all_step hv hall h1⟩ (by exact⟨rfl,rfl,rfl,rfl,trivial⟩) rfl (List.Sublist.refl _)
  | false=>
   rw[progAns_bad (by unfold progR;rw[all_not hv h1];rfl)]
   refine gom ?_
   refine WC.rt ?_
   exact QF.p2 (.inl rfl) rfl (.cell rfl inferInstance inferInstance atA rfl rfl) (.tmp rfl) (⟨rfl,Gh.le_refl _,rfl⟩)
 have e2:decide ((i:Int)<(cs.length:Int))=false:=decide_eq_false (by omega)
 have hvals:=all_of hall (by omega)
 refine gom ?_
 refine WC.pick [pgB b1 CA PA QA cs.length cc prs.length pc pts.length qc,spB b2, .blk b4 (.cells (wdC ⟨cs,[],prs⟩ CA none PA cc 0 pc) 162 (0,0))] ?_
 refine WC.loop (X:=Nat×Gh) (fun x=>[(1, .pointer (some ⟨b1,0,none⟩)),(2, .pointer (some ⟨b2,0,none⟩)),(4, .pointer (some ⟨b4,0,none⟩)),(6, .int .i64 (x.1:Int))]) (fun x=>x.2) (fun _=>[pgB b1 CA PA QA cs.length cc prs.length pc pts.length qc,spB b2, .blk b4 (.cells (wdC ⟨cs,[],prs⟩ CA none PA cc 0 pc) 162 (0,0))]) (fun x=>pts.length - x.1)
  (fun x=>x.1≤pts.length∧G.le x.2∧∀(j:Nat) y,j<x.1→pts[j]? =some y→ptOk prs ((pts.take j).map keyT) y=true) (0,G) ⟨Nat.zero_le _,Gh.le_refl _,fun j y h=>absurd h (Nat.not_lt_zero _)⟩ (by exact⟨rfl,rfl,rfl,rfl,trivial⟩) rfl (List.Sublist.refl _) fun x hx=>?_
 obtain⟨i,G1⟩:=x
 obtain⟨hi,hg1,hall⟩:=hx
 dsimp only at hi hg1 hall
 have x2:=wrapS i (by omega)
 by_cases hlt:i<pts.length
 ·have e2:decide ((i:Int)<(pts.length:Int))=true:=decide_eq_true (by omega)
  obtain⟨x,hx⟩:∃x,pts[i]? =some x:=⟨_,List.getElem?_eq_getElem hlt⟩
  have x0:(0:Int)≤(i:Int):=by omega
  have x1:(i:Int)<(pts.length:Int):=by omega
  have hxs:=hL.ts x (List.mem_of_getElem? hx)
  have hQ1:=hQ.mono hg1
  obtain⟨qb,qo,qcs,rfl,hqk,hqc⟩:=hQ1 i x hx
  obtain rfl:qcs=[.string x.path, .string x.name, .int .i64 x.proc]:=hqk
  obtain⟨xp,xn,xk⟩:=x
  dsimp only at hxs hqc
  have hbad:ptOk prs ((pts.take i).map keyT) ⟨xp,xn,xk⟩=false→progAns cs prs pts=(0,0,185):=fun h=>progAns_bad (by unfold progR;rw[ptsOk_false hx h];simp)
  refine gom ?_
  refine WL.oo (OW.alloc rfl fun b7=>?_)
  refine gom ?_
  refine WQ.one kr kr (OW.callK rfl (rplace_fn G1 xp (by omega)) rfl fun v' G' H' h hg=>?_)
  obtain⟨he,hg2,rfl⟩:=h
  cases he
  obtain⟨G2,rfl⟩:∃G2,G2=G':=⟨_,rfl⟩
  have hg3:=Gh.le_trans hg1 hg2
  cases h4:fileR xp with
  | false=>
   rw[hbad (by unfold ptOk;dsimp only;rw[h4];simp)]
   refine gom ?_
   refine WC.rt ?_
   exact QF.p2 (.inl rfl) rfl (.cell rfl inferInstance inferInstance atA rfl rfl) (.tmp rfl) (⟨rfl,hg3,rfl⟩)
  | true=>
  by_cases a1:0≤xk
  rotate_left
  ·have b1:decide (xk<(0:Int))=true:=decide_eq_true (by omega)
   rw[hbad (by unfold ptOk;dsimp only;rw[decide_eq_false a1];rfl)]
   refine gom ?_
   refine WC.rt ?_
   exact QF.p2 (.inl rfl) rfl (.cell rfl inferInstance inferInstance atA rfl rfl) (.tmp rfl) (⟨rfl,hg3,rfl⟩)
  have b1':decide (xk<(0:Int))=false:=decide_eq_false (by omega)
  obtain⟨n,rfl⟩:∃n:Nat,xk=(n:Int):=⟨xk.toNat,by omega⟩
  by_cases a2:n<prs.length
  rotate_left
  ·have b2':decide ((prs.length:Int)≤(n:Int))=true:=decide_eq_true (by omega)
   rw[hbad (by unfold ptOk;dsimp only;rw[decide_eq_true a1,decide_eq_false (by omega)];rfl)]
   refine gom ?_
   refine WC.rt ?_
   exact QF.p2 (.inl rfl) rfl (.cell rfl inferInstance inferInstance atA rfl rfl) (.tmp rfl) (⟨rfl,hg3,rfl⟩)
  have c2:decide ((prs.length:Int)≤(n:Int))=false:=decide_eq_false (by omega)
  have c2':(n:Int)<(prs.length:Int):=by omega
  have c3':decide ((n:Int)<(prs.length:Int))=true:=decide_eq_true c2'
  obtain⟨q,hq⟩:∃q,prs[n]? =some q:=⟨_,List.getElem?_eq_getElem a2⟩
  obtain⟨pb,po,pcs,rfl,hpk,hpc⟩:=(hP.mono hg3) n q hq
  obtain⟨QP,qpc,QI,qic,rfl,_,_⟩:=hpk
  have hok:ptOk prs ((pts.take i).map keyT) ⟨xp,xn,(n:Int)⟩=(!decide ((xp,xn)∈(pts.take i).map keyT)&&(q.exp&&(q.name==xn))):=by
   unfold ptOk
   dsimp only
   rw[decide_eq_true a1,c3',h4,Int.toNat_natCast,hq]
   simp[keyT]
  cases h6:q.exp with
  | false=>
   rw[h6]at hpc
   rw[hbad (by rw[hok,h6];simp)]
   refine gom ?_
   refine WC.rt ?_
   exact QF.p2 (.inl rfl) rfl (.cell rfl inferInstance inferInstance atA rfl rfl) (.tmp rfl) (⟨rfl,hg3,rfl⟩)
  | true=>
  rw[h6]at hpc
  cases h7:(q.name==xn)with
  | false=>
   rw[hbad (by rw[hok,h7];simp)]
   refine gom ?_
   try rw[h7]
   refine gom ?_
   refine WC.rt ?_
   exact QF.p2 (.inl rfl) rfl (.cell rfl inferInstance inferInstance atA rfl rfl) (.tmp rfl) (⟨rfl,hg3,rfl⟩)
  | true=>
  refine gom ?_
  try rw[h7]
  refine gom ?_
  refine WC.loop (X:=Nat) (fun k=>[(1, .pointer (some ⟨b1,0,none⟩)),(2, .pointer (some ⟨b2,0,none⟩)),(4, .pointer (some ⟨b4,0,none⟩)),(6, .int .i64 (i:Int)),(7, .pointer (some ⟨b7,0,none⟩)),(8, .int .i64 (k:Int))]) (fun _=>G2) (fun _=>[.blk b7 (.cells #[.string xp, .string xn, .int .i64 (n:Int)] 54 (0,0)),pgB b1 CA (some ⟨pb,po,none⟩) (some ⟨qb,qo,none⟩) cs.length cc prs.length pc pts.length qc,spB b2, .blk b4 (.cells (wdC ⟨cs,[],prs⟩ CA none (some ⟨pb,po,none⟩) cc 0 pc) 162 (0,0))]) (fun k=>i - k)
   (fun k=>k≤i∧∀(j:Nat) y,j<k→pts[j]? =some y→keyT y≠(xp,xn)) 0 ⟨Nat.zero_le _,fun j y h=>absurd h (Nat.not_lt_zero _)⟩ (by exact⟨rfl,rfl,rfl,rfl,rfl,rfl,trivial⟩) rfl (List.Sublist.refl _) fun k hk=>?_
  obtain⟨hk,hdis⟩:=hk
  have z2:=wrapS k (by omega)
  by_cases hki:k<i
  ·have e4:decide ((k:Int)<(i:Int))=true:=decide_eq_true (by omega)
   obtain⟨y,hy⟩:∃y,pts[k]? =some y:=⟨_,List.getElem?_eq_getElem (by omega)⟩
   obtain⟨yb,yo,ycs,hye,hyk,hyc⟩:=(hQ1.mono hg2) k y hy
   cases hye
   obtain rfl:ycs=[.string y.path, .string y.name, .int .i64 y.proc]:=hyk
   have z0:(0:Int)≤(k:Int):=by omega
   have z1:(k:Int)<(pts.length:Int):=by omega
   have hstep:keyT y≠(xp,xn)→∀(j:Nat) z,j<k+1→pts[j]? =some z→keyT z≠(xp,xn):=fun hne j z hj hz=>by
    rcases Nat.lt_or_ge j k with h | h
    ·exact hdis j z h hz
    ·obtain rfl:j=k:=by omega
     rw[hy]at hz;cases hz;exact hne
   cases h8:(y.path==xp)with
   | false=>
    refine gom ?_
    try rw[h8]
    refine gom ?_
    exact WK.again (k+1) (by omega) ⟨by omega,hstep fun e=>by rw[show y.path=xp from congrArg Prod.fst e,bb_refl]at h8;cases h8⟩ (by exact⟨rfl,rfl,rfl,rfl,rfl,rfl,trivial⟩) rfl (List.Sublist.refl _)
   | true=>
   cases h9:(y.name==xn)with
   | false=>
    refine gom ?_
    try rw[h8]
    refine gom ?_
    try rw[h9]
    refine gom ?_
    exact WK.again (k+1) (by omega) ⟨by omega,hstep fun e=>by rw[show y.name=xn from congrArg Prod.snd e,bb_refl]at h9;cases h9⟩ (by exact⟨rfl,rfl,rfl,rfl,rfl,rfl,trivial⟩) rfl (List.Sublist.refl _)
   | true=>
    have hin:(xp,xn)∈(pts.take i).map keyT:=by
     refine List.mem_map.2 ⟨y,List.mem_of_getElem? (i:=k) (by rw[List.getElem?_take,if_pos hki];exact hy),?_⟩
     show(y.path,y.name)=(xp,xn)
     rw[bb_iff.1 h8,bb_iff.1 h9]
    rw[hbad (by rw[hok,decide_eq_true hin];rfl)]
    refine gom ?_
    try rw[h8]
    refine gom ?_
    try rw[h9]
    refine gom ?_
    refine WC.rt ?_
    exact QF.p2 (.inl rfl) rfl (.cell rfl inferInstance inferInstance atA rfl rfl) (.tmp rfl) (⟨rfl,hg3,rfl⟩)
  have e4:decide ((k:Int)<(i:Int))=false:=decide_eq_false (by omega)
  have hnin:¬(xp,xn)∈(pts.take i).map keyT:=fun hm=>by
   obtain⟨y,hy,hye⟩:=List.mem_map.1 hm
   obtain⟨j,hj⟩:=List.mem_iff_getElem?.1 hy
   rw[List.getElem?_take]at hj
   split at hj
   ·exact hdis j y (by omega) hj hye
   ·cases hj
  refine gom ?_
  refine WK.pick [pgB b1 CA (some ⟨pb,po,none⟩) (some ⟨qb,qo,none⟩) cs.length cc prs.length pc pts.length qc,spB b2, .blk b4 (.cells (wdC ⟨cs,[],prs⟩ CA none (some ⟨pb,po,none⟩) cc 0 pc) 162 (0,0))] ?_
  exact WK.again (i+1,G2) (by dsimp only;omega) ⟨by show i+1≤_;omega,hg3,fun j y hj hy=>by
   rcases Nat.lt_or_ge j i with h | h
   ·exact hall j y h hy
   ·obtain rfl:j=i:=by dsimp only at hj;omega
    rw[hx]at hy;cases hy
    rw[hok,decide_eq_false hnin,h6,h7];rfl⟩ (by exact⟨rfl,rfl,rfl,rfl,trivial⟩) rfl (List.Sublist.refl _)
 have e2:decide ((i:Int)<(pts.length:Int))=false:=decide_eq_false (by omega)
 have hpr:progR cs prs pts=true:=by unfold progR;rw[hvals,h2,h3,ptsOk_true fun j y hy=>hall j y (by have:=(List.getElem?_eq_some_iff.1 hy).1;omega) hy];rfl
 have hpa:progAns cs prs pts=allA ⟨cs,[],prs⟩:=by unfold progAns;rw[hpr];rfl
 rw[hpa]
 refine gom ?_
 refine WC.pick [pgB b1 CA PA QA cs.length cc prs.length pc pts.length qc,spB b2, .blk b4 (.cells (wdC ⟨cs,[],prs⟩ CA none PA cc 0 pc) 162 (0,0))] ?_
 refine WC.loop (X:=Nat×Gh) (fun x=>[(1, .pointer (some ⟨b1,0,none⟩)),(2, .pointer (some ⟨b2,0,none⟩)),(4, .pointer (some ⟨b4,0,none⟩)),(9, .int .i64 (x.1:Int))]) (fun x=>x.2) (fun _=>[pgB b1 CA PA QA cs.length cc prs.length pc pts.length qc,spB b2, .blk b4 (.cells (wdC ⟨cs,[],prs⟩ CA none PA cc 0 pc) 162 (0,0))]) (fun x=>prs.length - x.1)
  (fun x=>x.1≤prs.length∧G.le x.2∧okA ⟨cs,[],prs⟩ x.1) (0,G1) ⟨Nat.zero_le _,hg1,fun j h=>absurd h (Nat.not_lt_zero _)⟩ (by exact⟨rfl,rfl,rfl,rfl,trivial⟩) rfl (List.Sublist.refl _) fun x hx=>?_
 obtain⟨k,G4⟩:=x
 obtain⟨hk,hg4,hok⟩:=hx
 dsimp only at hk hg4 hok
 have x2:=wrapS k (by omega)
 by_cases hlt:k<prs.length
 rotate_left
 ·have e2:decide ((k:Int)<(prs.length:Int))=false:=decide_eq_false (by omega)
  rw[allA_none (w:=⟨cs,[],prs⟩) fun j hj=>hok j (by have hj:j<prs.length:=hj;omega)]
  refine gom ?_
  refine WC.rt ?_
  exact QF.p2 (.inl rfl) rfl (.cell rfl inferInstance inferInstance atA rfl rfl) (.tmp rfl) (⟨rfl,hg4,rfl⟩)
 have e2:decide ((k:Int)<(prs.length:Int))=true:=decide_eq_true (by omega)
 obtain⟨p,hp⟩:∃p,prs[k]? =some p:=⟨_,List.getElem?_eq_getElem hlt⟩
 obtain⟨hpq,hpc,hpn⟩:=hL.pr p (List.mem_of_getElem? hp)
 have hP4:=hP.mono hg4
 obtain⟨b,ofs,pcs,rfl,hks,hcs⟩:=hP4 k p hp
 obtain⟨XA,xc,IA,ic,rfl,hX,hI⟩:=hks
 have x0:(0:Int)≤(k:Int):=by omega
 have x1:(k:Int)<(prs.length:Int):=by omega
 have hpo:outA ⟨cs,[],prs⟩ k=prOut ⟨cs,[],prs⟩ p:=by rw[outA_eq (w:=⟨cs,[],prs⟩) hp];exact procOut_new (by simp)
 have hW:RWp G4 ⟨cs,[],prs⟩ CA none (some ⟨b,ofs,none⟩):=⟨hC.mono hg4,Sl.nil _ _ _,hP4,hcl,by simp,hpl,by simp,fun q hq=>(hL.pr q hq).1⟩
 have hpf:=rproc_fn G4 ⟨cs,[],prs⟩ p CA none (some ⟨b,ofs,none⟩) cc 0 pc hW XA IA xc ic hX hI hpn hpq
 rw[←hpo]at hpf
 refine gom ?_
 refine WQ.one kr kr (OW.callK rfl (hpf) rfl fun v' G' H' h hg=>?_)
 obtain⟨he,hg5,rfl⟩:=h
 cases he
 clear hg
 obtain⟨G5,rfl⟩:∃G1,G1=G':=⟨_,rfl⟩
 by_cases hb:(outA ⟨cs,[],prs⟩ k).2=0
 ·have e4:((outA ⟨cs,[],prs⟩ k).2 != 0)=false:=by simpa using hb
  refine gom ?_
  refine WK.pick [pgB b1 CA (some ⟨b,ofs,none⟩) QA cs.length cc prs.length pc pts.length qc,spB b2, .blk b4 (.cells (wdC ⟨cs,[],prs⟩ CA none (some ⟨b,ofs,none⟩) cc 0 pc) 162 (0,0))] ?_
  exact WK.again (k+1,G5) (by dsimp only;omega) ⟨by dsimp only;omega,Gh.le_trans hg4 hg5,fun j hj=>by
   rcases Nat.lt_or_ge j k with h | h
   ·exact hok j h
   ·obtain rfl:j=k:=by dsimp only at hj;omega
    exact hb⟩ (by exact⟨rfl,rfl,rfl,rfl,trivial⟩) rfl (List.Sublist.refl _)
 ·have e4:((outA ⟨cs,[],prs⟩ k).2 != 0)=true:=by simpa using hb
  rw[allA_at (w:=⟨cs,[],prs⟩) hlt hok hb]
  refine gom ?_
  refine WC.rt ?_
  exact QF.p2 (.inl rfl) rfl (.cell rfl inferInstance inferInstance atA rfl rfl) (.tmp rfl) (⟨rfl,Gh.le_trans hg4 hg5,rfl⟩)
end
section
open Go.MapKept
attribute [local irreducible] Tryz.prog
theorem putUintF_fn (G:Gh) (A:Option Addr) (l:List Int) (cap:Nat) (hA:Sl (Kd.int .u8) G A l) (n:Nat) (hn:n<18446744073709551616) (hl:l.length≤100000000000):
  Fn Tryz.prog 108 #[.slice A l.length cap, .int .u64 n] G [] fun e G' H'=>∃A' cap' x',e= .returned (.slice A' (l++uintL n).length cap')∧G=G'∧BVec A' (l++uintL n) cap' x'∧H'=[x']:=by
 refine Fn.enter Tryz.func108 rfl rfl fun w0=>?_
 refine gom ?_
 refine WL.oo (OW.callK rfl (freshF_fn G A l cap hA (by omega) 10 (by decide)) rfl fun v' G' H' h hg=>?_)
 obtain⟨A1,c1,x1,he,rfl,h1,rfl⟩:=h
 cases he
 refine gom ?_
 refine WL.oo (OW.callK rfl (short_fn G A1 l c1 x1 h1 n hn (by omega)) rfl fun v' G' H' h hg=>?_)
 obtain⟨A2,c2,x2,he,rfl,h2,rfl⟩:=h
 cases he
 refine gom ?_
 refine WC.rt ?_
 exact QF.p1 (.inl rfl) rfl (.tmp rfl) (⟨_,_,x2,rfl,rfl,h2,rfl⟩)
theorem uintF_fn (G:Gh) (wb:Nat) (A:Option Addr) (l:List Int) (cap:Nat) (hA:Sl (Kd.int .u8) G A l) (n:Int) (hl:l.length≤100000000000):
  Fn Tryz.prog 61 #[.pointer (some ⟨wb,0,none⟩), .int .i64 n] G [wrB wb A l.length cap] (WrP wb l (uI n) G):=by
 refine Fn.enter Tryz.func61 rfl rfl fun w0=>?_
 refine gom ?_
 refine WL.pp (Gp.convTo (r:=(((IntKind.u64.wrap n).toNat:Nat):Int)) rfl (u64_wrap n).1) ?_
 refine WL.oo (OW.callK rfl (putUintF_fn G A l cap hA (IntKind.u64.wrap n).toNat (u64_wrap n).2 hl) rfl fun v' G' H' h hg=>?_)
 obtain⟨A1,c1,x1,he,rfl,h1,rfl⟩:=h
 cases he
 refine gom ?_
 refine WK.un ?_
 exact QF.p0 (.inr rfl) rfl  (⟨A1,c1,x1,rfl,Gh.le_refl _,h1,rfl⟩)
set_option maxRecDepth 20000 in
set_option maxHeartbeats 2000000 in
theorem wvaluesF_fn (G:Gh) (wb:Nat) (A:Option Addr) (l:List Int) (cap:Nat) (hA:Sl (Kd.int .u8) G A l) (VA:Option Addr) (vs:List V) (vc:Nat) (hV:Sl Kd.val G VA vs) (hi:∀v∈vs, -9223372036854775808≤v.i∧v.i≤9223372036854775807) (hvl:vs.length≤1000000000) (hl0:l.length≤1000) (hl:l.length+(valsI vs).length≤80000000000000):
  Fn Tryz.prog 60 #[.pointer (some ⟨wb,0,none⟩), .slice VA vs.length vc] G [wrB wb A l.length cap] (WrP wb l (valsI vs) G):=by
 refine Fn.enter Tryz.func60 rfl rfl fun w0=>?_
 refine gom ?_
 refine WL.oo (OW.callK rfl (uintF_fn G wb A l cap hA (vs.length:Int) (by omega)) rfl fun v' G' H' h hg=>?_)
 obtain⟨A1,c1,x1,he,hg1,h1,rfl⟩:=h
 cases he
 refine gom ?_
 have hb:∀k,(l++uI vs.length++(vs.take k).flatMap valI).length=l.length+(uI vs.length).length+((vs.take k).flatMap valI).length:=fun k=>by rw[List.length_append,List.length_append]
 have hvl':(valsI vs).length=(uI vs.length).length+(vs.flatMap valI).length:=by rw[valsI,List.length_append]
 have h00:l++uI vs.length++(vs.take 0).flatMap valI=l++uI vs.length:=by simp
 refine WC.loop (X:=WrS) (fun s=>[(0, .pointer (some ⟨wb,0,none⟩)),(10, .slice VA vs.length vc),(11, .int .i64 vs.length),(12, .int .i64 s.i)]) (fun s=>s.G) (fun s=>[wrB wb s.A s.n s.cap,s.x]) (fun s=>vs.length - s.i) (fun s=>s.i≤vs.length∧G.le s.G∧BVec s.A (l++uI vs.length++(vs.take s.i).flatMap valI) s.cap s.x∧s.n=(l++uI vs.length++(vs.take s.i).flatMap valI).length)
  ⟨0,A1,c1,x1,G',(l++uI vs.length).length⟩ ⟨Nat.zero_le _,hg1,by rw[h00];exact h1,by dsimp only;rw[h00]⟩ (by exact⟨rfl,rfl,rfl,rfl,trivial⟩) rfl (List.Sublist.refl _) (fun s hs=>?_)
 obtain⟨k,B,c,o,G2,n⟩:=s
 obtain⟨hk,hg2,hv,hn⟩:=hs
 dsimp only at hk hg2 hv hn
 have x2:=wrapS k (by omega)
 by_cases hlt:k<vs.length
 rotate_left
 ·have e2:decide ((k:Int)<(vs.length:Int))=false:=decide_eq_false (by omega)
  have ht:l++uI vs.length++(vs.take k).flatMap valI=l++valsI vs:=by rw[List.take_of_length_le (by omega),valsI,List.append_assoc]
  rw[ht]at hv hn
  subst hn
  refine gom ?_
  refine WK.un ?_
  exact QF.p0 (.inr rfl) rfl  (⟨B,c,o,rfl,hg2,hv,rfl⟩)
 have e2:decide ((k:Int)<(vs.length:Int))=true:=decide_eq_true (by omega)
 obtain⟨v,hvk⟩:∃v,vs[k]? =some v:=⟨_,List.getElem?_eq_getElem (by omega)⟩
 have hvi:=hi v (List.mem_of_getElem? hvk)
 have hV2:=hV.mono hg2
 obtain⟨ib,io,ics,rfl,hik,hic⟩:=hV2 k v hvk
 obtain rfl:ics=vcells v:=hik
 have x0:(0:Int)≤(k:Int):=by omega
 have x1':(k:Int)<(vs.length:Int):=by omega
 have hfa:=flat_at (f:=valI) hvk
 have hfs:=flat_snoc (f:=valI) hvk
 have hva:(valI v).length=1+(if v.t=1 then uintL (zzN v.i)else if v.t=2 then [boolI v.b]else if v.t=3 then txtI v.s else []).length:=by rw[valI,List.length_append];rfl
 have hbk:=hb k
 generalize hM:l++uI vs.length++(vs.take k).flatMap valI=M at*
 have hnext:l++uI vs.length++(vs.take (k+1)).flatMap valI=M++valI v:=by rw[hfs,←List.append_assoc,hM]
 subst hn
 have hkl:(M++kindI v.t).length=M.length+1:=by rw[List.length_append];rfl
 refine gom ?_
 refine WL.oo (OW.alloc rfl fun b5=>?_)
 refine gom ?_
 refine WL.oo (OW.callK rfl (kind_fn G2 wb B M c o hv v.t (by omega)) rfl fun v' G' H' h hg=>?_)
 obtain⟨A3,c3,x3,he,hg3,h3,rfl⟩:=h
 cases he
 by_cases t1:v.t=1
 ·have e1:(v.t==1)=true:=by rw[beq_iff_eq];exact t1
  rw[if_pos t1]at hva
  have hen:M++kindI v.t++uintL (zzN v.i)=M++valI v:=by rw[valI,if_pos t1,List.append_assoc]
  refine gom ?_
  refine WQ.one kr kr (OW.callK rfl (putInt_fn G' A3 (M++kindI v.t) c3 x3 h3 v.i hvi (by omega)) rfl fun v' G' H' h hg=>?_)
  obtain⟨A4,c4,x4,he,rfl,h4,rfl⟩:=h
  cases he
  rw[hen]at h4⊢
  refine gom ?_
  refine WQ.one kr kr (OW.store rfl rfl atA rfl (by rfl) (by rfl) kr (by rfl) ?_ rfl)
  refine gom ?_
  refine WK.pick [wrB wb A4 (M++valI v).length c4,x4] ?_
  exact WK.again ⟨k+1,A4,c4,x4,G',(M++valI v).length⟩ (by dsimp only;omega) ⟨by dsimp only;omega,Gh.le_trans hg2 hg3,by dsimp only;rw[hnext];exact h4,by dsimp only;rw[hnext]⟩ (by exact⟨rfl,rfl,rfl,rfl,trivial⟩) rfl (List.Sublist.refl _)
 have e1:(v.t==1)=false:=by rw[beq_eq_false_iff_ne];exact t1
 rw[if_neg t1]at hva
 by_cases t2:v.t=2
 ·have e2':(v.t==2)=true:=by rw[beq_iff_eq];exact t2
  rw[if_pos t2]at hva
  have hen:M++kindI v.t++[boolI v.b]=M++valI v:=by rw[valI,if_neg t1,if_pos t2,List.append_assoc]
  refine gom ?_
  refine WQ.one kr kr (OW.callK rfl (putBool_fn G' A3 (M++kindI v.t) c3 x3 h3 v.b (by omega)) rfl fun v' G' H' h hg=>?_)
  obtain⟨A4,c4,x4,he,rfl,h4,rfl⟩:=h
  cases he
  rw[hen]at h4⊢
  refine gom ?_
  refine WQ.one kr kr (OW.store rfl rfl atA rfl (by rfl) (by rfl) kr (by rfl) ?_ rfl)
  refine gom ?_
  refine WK.pick [wrB wb A4 (M++valI v).length c4,x4] ?_
  exact WK.again ⟨k+1,A4,c4,x4,G',(M++valI v).length⟩ (by dsimp only;omega) ⟨by dsimp only;omega,Gh.le_trans hg2 hg3,by dsimp only;rw[hnext];exact h4,by dsimp only;rw[hnext]⟩ (by exact⟨rfl,rfl,rfl,rfl,trivial⟩) rfl (List.Sublist.refl _)
 have e2':(v.t==2)=false:=by rw[beq_eq_false_iff_ne];exact t2
 rw[if_neg t2]at hva
 by_cases t3:v.t=3
 ·have e3:(v.t==3)=true:=by rw[beq_iff_eq];exact t3
  rw[if_pos t3]at hva
  have hen:M++kindI v.t++txtI v.s=M++valI v:=by rw[valI,if_neg t1,if_neg t2,if_pos t3,List.append_assoc]
  have htx:(txtI v.s).length=(uintL v.s.size).length+v.s.size:=by rw[txtI,List.length_append,strI_length]
  refine gom ?_
  refine WL.oo (OW.callK rfl (text_fn G' wb A3 (M++kindI v.t) c3 x3 h3 v.s (by omega)) rfl fun v' G' H' h hg=>?_)
  obtain⟨G3,rfl⟩:∃G3,G3=G':=⟨_,rfl⟩
  obtain⟨A4,c4,x4,he,hg4,h4,rfl⟩:=h
  cases he
  rw[hen]at h4⊢
  refine gom ?_
  refine WK.pick [wrB wb A4 (M++valI v).length c4,x4] ?_
  exact WK.again ⟨k+1,A4,c4,x4,_,(M++valI v).length⟩ (by dsimp only;omega) ⟨by dsimp only;omega,Gh.le_trans hg2 (Gh.le_trans hg3 hg4),by dsimp only;rw[hnext];exact h4,by dsimp only;rw[hnext]⟩ (by exact⟨rfl,rfl,rfl,rfl,trivial⟩) rfl (List.Sublist.refl _)
 have e3:(v.t==3)=false:=by rw[beq_eq_false_iff_ne];exact t3
 have hen:M++kindI v.t=M++valI v:=by rw[valI,if_neg t1,if_neg t2,if_neg t3,List.append_nil]
 rw[hen]at h3⊢
 refine gom ?_
 refine WK.pick [wrB wb A3 (M++valI v).length c3,x3] ?_
 exact WK.again ⟨k+1,A3,c3,x3,G',(M++valI v).length⟩ (by dsimp only;omega) ⟨by dsimp only;omega,Gh.le_trans hg2 hg3,by dsimp only;rw[hnext];exact h3,by dsimp only;rw[hnext]⟩ (by exact⟨rfl,rfl,rfl,rfl,trivial⟩) rfl (List.Sublist.refl _)
end
section
open Go.MapKept
def ptI (x:Pt):List Int:=txtI x.path++txtI x.name++uI x.proc
def magP:List Int:=[116,80,49]
def pgI (cs:List V) (prs:List Pr) (pts:List Pt):List Int:=magP++valsI cs++procsI prs++uI pts.length++pts.flatMap ptI
noncomputable def bytesP (cs:List V) (prs:List Pr) (pts:List Pt):List Int:=if(progAns cs prs pts).2.2=0 then pgI cs prs pts else []
attribute [local irreducible] Tryz.prog bytesR valsI procsI ptI progAns preL
set_option maxRecDepth 20000 in
set_option maxHeartbeats 4000000 in
theorem pgBytes_fn (G:Gh) (hE:Env G) (cs:List V) (prs:List Pr) (pts:List Pt) (CA PA QA:Option Addr) (cc pc qc:Nat) (hC:Sl Kd.val G CA cs) (hP:Sl Kd.prc G PA prs) (hQ:Sl Kd.pnt G QA pts) (hL:GLim cs prs pts) (hi:∀v∈cs, -9223372036854775808≤v.i∧v.i≤9223372036854775807) (hcl:cs.length≤1000000000) (hpl:prs.length≤1000000000) (hql:pts.length≤1000000000)
  (hpc:∀p∈prs,p.code.length≤9000000000000) (hl:(pgI cs prs pts).length≤70000000000000):
  Fn Tryz.prog 29 #[.agg #[.slice CA cs.length cc, .slice PA prs.length pc, .slice QA pts.length qc]] G [] fun e G' H'=>∃A' cap' x',e= .returned (.tuple #[.slice A' (bytesP cs prs pts).length cap', .int .i64 (progAns cs prs pts).2.2])∧G.le G'∧BVec A' (bytesP cs prs pts) cap' x'∧H'=[x']:=by
 refine Fn.enter Tryz.func29 rfl rfl fun w0=>?_
 refine WC.seq ?_
 refine WC.region ?_
 refine WL.oo (OW.box rfl rfl fun b1=>?_)
 refine gom ?_
 refine WL.oo (OW.callK rfl (Program_fn G hE cs prs pts CA PA QA cc pc qc hC hP hQ hL) rfl fun v' G' H' h hg=>?_)
 obtain⟨he,hg1,rfl⟩:=h
 cases he
 obtain⟨G1,rfl⟩:∃G1,G1=G':=⟨_,rfl⟩
 refine gom ?_
 refine WL.oo (OW.alloc rfl fun b4=>?_)
 refine gom ?_
 cases herr:decide ((progAns cs prs pts).2.2=0)with
 | false=>
  have hne:=of_decide_eq_false herr
  have e1:((progAns cs prs pts).2.2 != 0)=true:=by rw[bne_iff_ne];exact hne
  have e0:((progAns cs prs pts).2.2==0)=false:=by rw[beq_eq_false_iff_ne];exact hne
  have hb:bytesP cs prs pts=[]:=by rw[bytesP,if_neg hne]
  rw[hb]
  first | rw[e1] | rw[e0]
  refine gom ?_
  refine WC.nothing ?_
  refine WC.rt ?_
  exact QF.p2 (.inl rfl) rfl (.tmp rfl) (.tmp rfl) (⟨none,0,_,rfl,hg1,BVec.nil,rfl⟩)
 | true=>
 have heq:=of_decide_eq_true herr
 have e1:((progAns cs prs pts).2.2 != 0)=false:=by rw[heq];rfl
 have hb:bytesP cs prs pts=pgI cs prs pts:=by rw[bytesP,if_pos heq]
 rw[hb,heq]
 have hol:(pgI cs prs pts).length=3+(valsI cs).length+(procsI prs).length+(uI pts.length).length+(pts.flatMap ptI).length:=by simp only[pgI,List.length_append];rfl
 have hmg:magP.length=3:=rfl
 refine gom ?_
 refine WL.oo (OW.buildSliceN (cells:=[.int .u8 116, .int .u8 80, .int .u8 49]) rfl kr kr (by rfl) rfl fun mb hmb=>?_)
 refine WL.oo (OW.convMark rfl .here hmb rfl fun hgm=>?_)
 have hA:Sl (Kd.int .u8) (G1.add mb #[.int .u8 116, .int .u8 80, .int .u8 49]) (some ⟨mb,0,none⟩) magP:=
  KFl.sl (k:=Kd.int .u8) (l:=[116]++[80]++[49]) (by decide) (((KFl.one (cs:=[.int .u8 116]) rfl).append (KFl.one (cs:=[.int .u8 80]) rfl)).append (KFl.one (cs:=[.int .u8 49]) rfl)) (.inr ⟨mb,rfl,fun i v e=>by rw[Nat.zero_add,Gh.add_at];simpa using e⟩)
 generalize hG2:G1.add mb #[.int .u8 116, .int .u8 80, .int .u8 49]=G2 at hA hgm⊢
 refine gom ?_
 refine WL.oo (OW.box rfl rfl fun b21=>?_)
 refine gom ?_
 refine WQ.one kr kr (OW.callK rfl (wvaluesF_fn G2 b21 (some ⟨mb,0,none⟩) magP 3 hA CA cs cc (hC.mono (Gh.le_trans hg1 hgm)) hi hcl (by rw[hmg];omega) (by rw[hmg];omega)) rfl fun v' G' H' h hg=>?_)
 obtain⟨A1,c1,x1,he,hg3,h1,rfl⟩:=h
 cases he
 obtain⟨G3,rfl⟩:∃G3,G3=G':=⟨_,rfl⟩
 have hg13:=Gh.le_trans hg1 (Gh.le_trans hgm hg3)
 have hl1:(magP++valsI cs).length=3+(valsI cs).length:=List.length_append
 refine gom ?_
 refine WQ.one kr kr (OW.callK rfl (wprocs_fn G3 b21 A1 _ c1 x1 h1 PA prs pc (hP.mono hg13) hpl hpc (by omega)) rfl fun v' G' H' h hg=>?_)
 obtain⟨A2,c2,x2,he,hg4,h2,rfl⟩:=h
 cases he
 obtain⟨G4,rfl⟩:∃G4,G4=G':=⟨_,rfl⟩
 have hl2:(magP++valsI cs++procsI prs).length=3+(valsI cs).length+(procsI prs).length:=by rw[List.length_append,hl1]
 refine gom ?_
 refine WQ.one kr kr (OW.callK rfl (uint_fn G4 b21 A2 _ c2 x2 h2 (pts.length:Int) (by omega)) rfl fun v' G' H' h hg=>?_)
 obtain⟨A3,c3,x3,he,hg5,h3,rfl⟩:=h
 cases he
 obtain⟨G5,rfl⟩:∃G5,G5=G':=⟨_,rfl⟩
 have hl3:(magP++valsI cs++procsI prs++uI pts.length).length=3+(valsI cs).length+(procsI prs).length+(uI pts.length).length:=by rw[List.length_append,hl2]
 refine gom ?_
 generalize hB:magP++valsI cs++procsI prs++uI pts.length=N at*
 have hg15:=Gh.le_trans hg13 (Gh.le_trans hg4 hg5)
 have h00:N++(pts.take 0).flatMap ptI=N:=by simp
 refine WC.loop (X:=WrS) (fun s=>[(6, .pointer (some ⟨b21,0,none⟩)),(42, .slice QA pts.length qc),(43, .int .i64 pts.length),(44, .int .i64 s.i)]) (fun s=>s.G) (fun s=>[wrB b21 s.A s.n s.cap,s.x]) (fun s=>pts.length - s.i) (fun s=>s.i≤pts.length∧G.le s.G∧BVec s.A (N++(pts.take s.i).flatMap ptI) s.cap s.x∧s.n=(N++(pts.take s.i).flatMap ptI).length)
  ⟨0,A3,c3,x3,G5,N.length⟩ ⟨Nat.zero_le _,hg15,by rw[h00];exact h3,by dsimp only;rw[h00]⟩ (by exact⟨rfl,rfl,rfl,rfl,trivial⟩) rfl (by repeat (first | exact List.Sublist.refl _ | exact List.nil_sublist _ | apply List.Sublist.cons_cons | apply List.Sublist.cons)) (fun s hs=>?_)
 obtain⟨k,B,c,x,G6,n⟩:=s
 obtain⟨hk,hg6,hv,hn⟩:=hs
 dsimp only at hk hg6 hv hn
 have x2:=wrapS k (by omega)
 by_cases hlt:k<pts.length
 rotate_left
 ·have e2:decide ((k:Int)<(pts.length:Int))=false:=decide_eq_false (by omega)
  rw[List.take_of_length_le (by omega)]at hv hn
  have ht:N++pts.flatMap ptI=pgI cs prs pts:=by rw[pgI,←hB]
  rw[ht]at hv hn
  subst hn
  refine gom ?_
  refine WC.rt ?_
  exact QF.p2 (.inl rfl) rfl (.tmp rfl) (.tmp rfl) (⟨B,c,x,rfl,hg6,hv,rfl⟩)
 have e2:decide ((k:Int)<(pts.length:Int))=true:=decide_eq_true (by omega)
 obtain⟨v,hvk⟩:∃v,pts[k]? =some v:=⟨_,List.getElem?_eq_getElem (by omega)⟩
 obtain⟨ib,io,ics,rfl,hik,hic⟩:=(hQ.mono hg6) k v hvk
 obtain rfl:ics=[.string v.path, .string v.name, .int .i64 v.proc]:=hik
 have x0:(0:Int)≤(k:Int):=by omega
 have x1':(k:Int)<(pts.length:Int):=by omega
 have hfs:=flat_snoc (f:=ptI) hvk
 have hfa:=flat_at (f:=ptI) hvk
 have hbk:(N++(pts.take k).flatMap ptI).length=N.length+((pts.take k).flatMap ptI).length:=List.length_append
 have hpi:(ptI v).length=(txtI v.path).length+(txtI v.name).length+(uI v.proc).length:=by unfold ptI;rw[List.length_append,List.length_append]
 have htv:(txtI v.path).length=(uintL v.path.size).length+v.path.size:=by rw[txtI,List.length_append,strI_length]
 have htw:(txtI v.name).length=(uintL v.name.size).length+v.name.size:=by rw[txtI,List.length_append,strI_length]
 generalize hM:N++(pts.take k).flatMap ptI=M at*
 have hnext:N++(pts.take (k+1)).flatMap ptI=M++ptI v:=by rw[hfs,←List.append_assoc,hM]
 subst hn
 refine gom ?_
 refine WL.oo (OW.alloc rfl fun b8=>?_)
 refine gom ?_
 refine WQ.one kr kr (OW.callK rfl (text_fn G6 b21 B M c x hv v.path (by omega)) rfl fun v' G' H' h hg=>?_)
 obtain⟨A7,c7,x7,he,hg7,h7,rfl⟩:=h
 cases he
 obtain⟨G7,rfl⟩:∃G7,G7=G':=⟨_,rfl⟩
 have hl7:(M++txtI v.path).length=M.length+(txtI v.path).length:=List.length_append
 refine gom ?_
 refine WQ.one kr kr (OW.callK rfl (text_fn G7 b21 A7 _ c7 x7 h7 v.name (by omega)) rfl fun v' G' H' h hg=>?_)
 obtain⟨A8,c8,x8,he,hg8,h8,rfl⟩:=h
 cases he
 obtain⟨G8,rfl⟩:∃G8,G8=G':=⟨_,rfl⟩
 have hl8:(M++txtI v.path++txtI v.name).length=M.length+(txtI v.path).length+(txtI v.name).length:=by rw[List.length_append,hl7]
 refine gom ?_
 refine WQ.one kr kr (OW.callK rfl (uint_fn G8 b21 A8 _ c8 x8 h8 v.proc (by omega)) rfl fun v' G' H' h hg=>?_)
 obtain⟨A9,c9,x9,he,hg9,h9,rfl⟩:=h
 cases he
 have hen:M++txtI v.path++txtI v.name++uI v.proc=M++ptI v:=by unfold ptI;simp only[List.append_assoc]
 rw[hen]at h9⊢
 refine gom ?_
 refine WK.pick [wrB b21 A9 (M++ptI v).length c9,x9] ?_
 exact WK.again ⟨k+1,A9,c9,x9,_,(M++ptI v).length⟩ (by dsimp only;omega) ⟨by dsimp only;omega,Gh.le_trans hg6 (Gh.le_trans hg7 (Gh.le_trans hg8 hg9)),by dsimp only;rw[hnext];exact h9,by dsimp only;rw[hnext]⟩ (by exact⟨rfl,rfl,rfl,rfl,trivial⟩) rfl (List.Sublist.refl _)
def preP (cs:List V) (prs:List Pr) (pts:List Pt) (k:Nat):List Int:=magP++valsI cs++procsI prs++preL ptI pts k
set_option maxRecDepth 20000 in
set_option maxHeartbeats 4000000 in
theorem rPgBytes_fn (G:Gh) (cs:List V) (prs:List Pr) (pts:List Pt) (CA PA QA:Option Addr) (cc pc qc:Nat) (hC:Sl Kd.val G CA cs) (hP:Sl Kd.prc G PA prs) (hQ:Sl Kd.pnt G QA pts) (hL:GLim cs prs pts) (hi:∀v∈cs, -9223372036854775808≤v.i∧v.i≤9223372036854775807) (hcl:cs.length≤1000000000) (hpl:prs.length≤1000000000) (hql:pts.length≤1000000000)
  (hpc:∀p∈prs,p.code.length≤9000000000000) (hl:(pgI cs prs pts).length≤70000000000000):
  Fn Tryz.prog 30 #[.agg #[.slice CA cs.length cc, .slice PA prs.length pc, .slice QA pts.length qc]] G [] fun e G' H'=>∃A' cap' x',e= .returned (.tuple #[.slice A' (bytesP cs prs pts).length cap', .int .i64 (progAns cs prs pts).2.2])∧G.le G'∧BVec A' (bytesP cs prs pts) cap' x'∧H'=[x']:=by
 refine Fn.enter Tryz.func30 rfl rfl fun w0=>?_
 refine WC.seq ?_
 refine WC.region ?_
 refine WL.oo (OW.box rfl rfl fun b1=>?_)
 refine gom ?_
 refine WL.oo (OW.callK rfl (rProgram_fn G cs prs pts CA PA QA cc pc qc hC hP hQ hL) rfl fun v' G' H' h hg=>?_)
 obtain⟨he,hg1,rfl⟩:=h
 cases he
 obtain⟨G1,rfl⟩:∃G1,G1=G':=⟨_,rfl⟩
 refine gom ?_
 refine WL.oo (OW.alloc rfl fun b4=>?_)
 refine gom ?_
 cases herr:decide ((progAns cs prs pts).2.2=0)with
 | false=>
  have hne:=of_decide_eq_false herr
  have e1:((progAns cs prs pts).2.2 != 0)=true:=by rw[bne_iff_ne];exact hne
  have e0:((progAns cs prs pts).2.2==0)=false:=by rw[beq_eq_false_iff_ne];exact hne
  have hb:bytesP cs prs pts=[]:=by rw[bytesP,if_neg hne]
  rw[hb]
  first | rw[e1] | rw[e0]
  refine gom ?_
  refine WC.nothing ?_
  refine WC.rt ?_
  exact QF.p2 (.inl rfl) rfl (.tmp rfl) (.tmp rfl) (⟨none,0,_,rfl,hg1,BVec.nil,rfl⟩)
 | true=>
 have heq:=of_decide_eq_true herr
 have e1:((progAns cs prs pts).2.2 != 0)=false:=by rw[heq];rfl
 have hb:bytesP cs prs pts=pgI cs prs pts:=by rw[bytesP,if_pos heq]
 rw[hb,heq]
 have hol:(pgI cs prs pts).length=3+(valsI cs).length+(procsI prs).length+(uI pts.length).length+(pts.flatMap ptI).length:=by simp only[pgI,List.length_append];rfl
 have hmg:magP.length=3:=rfl
 refine gom ?_
 refine WL.oo (OW.buildSliceN (cells:=[.int .u8 116, .int .u8 80, .int .u8 49]) rfl kr kr (by rfl) rfl fun mb hmb=>?_)
 refine WL.oo (OW.convMark rfl .here hmb rfl fun hgm=>?_)
 have hA:∀H,Rds (G1.add mb #[.int .u8 116, .int .u8 80, .int .u8 49]) H (some ⟨mb,0,none⟩) (u8s magP):=fun H=>Rds.cs fun i v e=>by rw[Nat.zero_add,Gh.add_at];simpa [u8s,magP]using e
 generalize hG2:G1.add mb #[.int .u8 116, .int .u8 80, .int .u8 49]=G2 at hA hgm⊢
 have hg2:=Gh.le_trans hg1 hgm
 have hvp:0<(valsI cs).length:=by
  unfold valsI
  rw[List.length_append,uI_nat cs.length (by omega)]
  unfold uintL
  split<;>simp<;>omega
 refine gom ?_
 refine WL.oo (OW.callK rfl (rvalues_fn G2 CA cs cc (hC.mono hg2) hi hcl (by omega)) rfl fun v' G' H' h hg=>?_)
 obtain⟨A2,c2,y2,he,rfl,g2,rfl⟩:=h
 cases he
 refine WL.nothing ?_
 refine WL.oo (OW.appendM (l:=magP) rfl rfl (hA _) (by decide) atA g2 atA hvp (by show 3<3+_;omega) (by show 3+_≤_;omega) rfl fun A3 c3 o3 h3=>?_)
 refine gom ?_
 refine WL.oo (OW.callK rfl (rprocs_fn G2 PA prs pc (hP.mono hg2) hpl hpc (by omega)) rfl fun v' G' H' h hg=>?_)
 obtain⟨A4,c4,y4,he,rfl,g4,rfl⟩:=h
 cases he
 refine WL.oo (OW.appendB rfl rfl h3 atA g4 atA (by simp only[List.length_append,List.length_cons,List.length_nil]at*;omega) rfl fun A5 c5 o5 h5=>?_)
 refine gom ?_
 refine WL.pp (Gp.convTo (r:=((pts.length:Nat):Int)) rfl (wrapU (by omega) (by omega))) ?_
 refine WL.oo (OW.callK rfl (rUint_fn G2 pts.length (by omega)) rfl fun v' G' H' h hg=>?_)
 obtain⟨A6,c6,y6,he,rfl,g6,rfl⟩:=h
 cases he
 rw[←uI_nat pts.length (by omega)]at g6⊢
 refine WL.oo (OW.appendB rfl rfl h5 atA g6 atA (by simp only[List.length_append,List.length_cons,List.length_nil]at*;omega) rfl fun A7 c7 o7 h7=>?_)
 have hp0:magP++valsI cs++procsI prs++uI pts.length=preP cs prs pts 0:=by unfold preP;rw[preL_zero]
 rw[hp0]at h7⊢
 refine gom ?_
 refine WC.loop (X:=BW) (fun s=>[(1, .pointer (some ⟨b1,0,none⟩)),(6, .slice s.A (preP cs prs pts s.i).length s.c),(7, .int .i64 s.i)]) (fun _=>G2) (fun s=>[s.x,pgB b1 CA PA QA cs.length cc prs.length pc pts.length qc]) (fun s=>pts.length - s.i) (fun s=>s.i≤pts.length∧BVec s.A (preP cs prs pts s.i) s.c s.x) ⟨0,A7,c7,o7⟩ ⟨Nat.zero_le _,h7⟩ (by exact⟨rfl,rfl,rfl,trivial⟩) rfl (by repeat (first | exact List.Sublist.refl _ | exact List.nil_sublist _ | apply List.Sublist.cons_cons | apply List.Sublist.cons)) fun s hs=>?_
 obtain⟨k,B,c,x⟩:=s
 obtain⟨hk,hv⟩:=hs
 dsimp only at hk hv
 have x2:=wrapS k (by omega)
 by_cases hlt:k<pts.length
 rotate_left
 ·have e2:decide ((k:Int)<(pts.length:Int))=false:=decide_eq_false (by omega)
  obtain rfl:k=pts.length:=by omega
  have hpn:preP cs prs pts pts.length=pgI cs prs pts:=by unfold preP pgI;rw[preL_all];simp only[List.append_assoc]
  dsimp only
  rw[hpn]at hv⊢
  refine gom ?_
  refine WC.rt ?_
  exact QF.p2 (.inl rfl) rfl (.tmp rfl) (.tmp rfl) (⟨B,c,x,rfl,hg2,hv,rfl⟩)
 have e2:decide ((k:Int)<(pts.length:Int))=true:=decide_eq_true (by omega)
 obtain⟨v,hn⟩:∃v,pts[k]? =some v:=⟨_,List.getElem?_eq_getElem hlt⟩
 obtain⟨ib,io,ics,rfl,hik,hic⟩:=(hQ.mono hg2) k v hn
 obtain rfl:ics=[.string v.path, .string v.name, .int .i64 v.proc]:=hik
 have x0:(0:Int)≤(k:Int):=by omega
 have x1':(k:Int)<(pts.length:Int):=by omega
 have hple:=preL_len (f:=ptI) hn
 have hpo:(preP cs prs pts k).length=3+(valsI cs).length+(procsI prs).length+(preL ptI pts k).length:=by unfold preP;simp only[List.length_append];rfl
 have hen:preP cs prs pts (k+1)=preP cs prs pts k++ptI v:=by unfold preP;rw[preL_snoc hn,←List.append_assoc]
 have hni:ptI v=txtI v.path++txtI v.name++uI v.proc:=by unfold ptI;rfl
 have hxa:(txtI v.path).length=(uintL v.path.size).length+v.path.size:=by rw[txtI,List.length_append,strI_length]
 have hxb:(txtI v.name).length=(uintL v.name.size).length+v.name.size:=by rw[txtI,List.length_append,strI_length]
 have hnil:(ptI v).length=(txtI v.path).length+(txtI v.name).length+(uI v.proc).length:=by rw[hni];simp only[List.length_append]
 rw[hni]at hen
 simp only[←List.append_assoc]at hen
 refine gom ?_
 refine WL.oo (OW.alloc rfl fun b8=>?_)
 refine gom ?_
 refine WL.oo (OW.callK rfl (rText_fn G2 v.path (by omega)) rfl fun v' G' H' h hg=>?_)
 obtain⟨A8,c8,y8,he,rfl,g8,rfl⟩:=h
 cases he
 refine WL.oo (OW.appendB rfl rfl hv atA g8 atA (by dsimp only;omega) rfl fun A9 c9 o9 h9=>?_)
 refine gom ?_
 refine WL.oo (OW.callK rfl (rText_fn G2 v.name (by omega)) rfl fun v' G' H' h hg=>?_)
 obtain⟨Aa,ca,ya,he,rfl,ga,rfl⟩:=h
 cases he
 refine WL.oo (OW.appendB rfl rfl h9 atA ga atA (by simp only[List.length_append,List.length_cons,List.length_nil]at*;omega) rfl fun Ab cb ob hb'=>?_)
 refine gom ?_
 refine WL.pp (Gp.convTo (r:=(((IntKind.u64.wrap v.proc).toNat:Nat):Int)) rfl (u64_wrap _).1) ?_
 refine WL.oo (OW.callK rfl (rUint_fn G2 (IntKind.u64.wrap v.proc).toNat (u64_wrap _).2) rfl fun v' G' H' h hg=>?_)
 obtain⟨Ac,cd,yc,he,rfl,gc,rfl⟩:=h
 cases he
 refine WL.oo (OW.appendB (m:=uI v.proc) rfl rfl hb' atA gc atA (by simp only[List.length_append,List.length_cons,List.length_nil]at*;omega) rfl fun Ad ce od hd=>?_)
 rw[←hen]at hd⊢
 refine gom ?_
 refine WK.pick [od,pgB b1 CA PA (some ⟨ib,io,none⟩) cs.length cc prs.length pc pts.length qc] ?_
 exact WK.again ⟨k+1,Ad,ce,od⟩ (by dsimp only;omega) ⟨by dsimp only;omega,hd⟩ (by exact⟨rfl,rfl,rfl,trivial⟩) rfl (List.Sublist.refl _)
end
section
open Go.RowKit Go.ChangeShapes Go.WideShapes Go.MapKept
theorem bulk_app {H:Type} (a b:List (DataW H)):Rows.uptoBulkAll (a++b)=Rows.uptoBulkAll a+Rows.uptoBulkAll b:=by
 induction a with
 | nil=>simp[Rows.uptoBulkAll]
 | cons x r ih=>simp only[List.cons_append,Rows.uptoBulkAll];omega
theorem bulk_take {H:Type} {l:List (DataW H)} {i:Nat} {d:DataW H} (h:l[i]? =some d):Rows.uptoBulkAll (l.take (i+1))=Rows.uptoBulkAll (l.take i)+Rows.uptoBulk d:=by
 rw[take_snoc' h,bulk_app];simp[Rows.uptoBulkAll]
theorem bulk_take_le {H:Type} (l:List (DataW H)) (i:Nat):Rows.uptoBulkAll (l.take i)≤Rows.uptoBulkAll l:=by
 have h:=bulk_app (l.take i) (l.drop i)
 rw[List.take_append_drop]at h
 omega
theorem sum_mem {α:Type} {m:α→Nat} {l:List α} {x:α} (h:x∈l):m x≤(l.map m).sum:=by
 induction l with
 | nil=>cases h
 | cons y r ih=>
  simp only[List.map_cons,List.sum_cons]
  rcases List.mem_cons.1 h with rfl | h
  ·omega
  ·have:=ih h;omega
theorem sum_len {α:Type} {m:α→Nat} (l:List α) (h:∀x∈l,1≤m x):l.length≤(l.map m).sum:=by
 induction l with
 | nil=>simp
 | cons y r ih=>
  have h1:=h y List.mem_cons_self
  have h2:=ih fun x hx=>h x (List.mem_cons_of_mem _ hx)
  simp only[List.map_cons,List.sum_cons,List.length_cons]
  omega
section
variable {H:Type} (enc:TypeId×Value→H) (P:Program) (w:World)
def OpensW (t:TypeId) {α:Type} (k:Kd α) (m:α→Nat) (B:α→Prop):Prop:=
 ∀fuel cs d ps,DataW.trod enc P w 0 (fun _=>true) true fuel t cs=some (d,ps)→Rows.uptoBulk d≤1048576→∃a,k.K (Gw w) a cs∧m a≤Rows.uptoBulk d∧B a
theorem OpensW.int {t:TypeId} {i:IntKind} (ht:P.underlying t=some (.int i)):OpensW enc P w t (Kd.int i) (fun _=>1) (fun n=>(Lit.int i n).wf=true):=
 fun fuel cs d ps e _=>let ⟨n,h1,_,h3⟩:=DataW.trod_int ht e;⟨n,h1,bulk_one d,h3⟩
theorem OpensW.bool {t:TypeId} (ht:P.underlying t=some .bool):OpensW enc P w t Kd.bool (fun _=>1) (fun _=>True):=
 fun fuel cs d ps e _=>let ⟨n,h1,_⟩:=DataW.trod_bool ht e;⟨n,h1,bulk_one d,trivial⟩
theorem OpensW.str {t:TypeId} (ht:P.underlying t=some .string):OpensW enc P w t Kd.str (fun s=>s.size+1) (fun _=>True):=
 fun fuel cs d ps e hw=>by
  obtain⟨s,h1,h2,h3⟩:=DataW.trod_string ht e
  obtain⟨rfl,rfl⟩:=Prod.mk.inj h2
  refine⟨s,h1,?_,trivial⟩
  simp only[Rows.uptoBulk,Array.length_toList]
  exact Nat.le_refl _
theorem OpensW.slice {t e:TypeId} {α:Type} {k:Kd α} {m:α→Nat} {B:α→Prop} (ht:P.underlying t=some (.slice e)) (hc:P.cellsOf e=k.n) (h0:0<k.n) (h:OpensW enc P w e k m B):
  OpensW enc P w t (Kd.slice k) (fun xs=>(xs.map m).sum+1) (fun xs=>∀x∈xs,B x):=by
 intro fuel cs d ps hd hw
 rcases DataW.trod_slice ht hd with⟨rfl,_⟩ | ⟨a,len,cap,elems,rest,n,_,rfl,hx,_,hl,_,hlen,hel,_,_⟩
 ·exact⟨[],⟨none,0,rfl,Nat.le_refl _,Sl.nil _ _ _⟩,by simpa using bulk_one d,by simp⟩
 ·obtain ⟨rfl,rfl⟩:=Prod.mk.inj hx
  simp only[Rows.uptoBulk]at hw
  have hwe:∀(j:Nat) (d':DataW H),(elems.map (·.1))[j]? =some d'→Rows.uptoBulk d'≤1048576:=fun j d' hj=>by
   have:=bulk_part (List.mem_of_getElem? hj);omega
  have one:∀i,i<len→∃y cs' d',w.cells? 0 (a.add (i*P.cellsOf e)) (P.cellsOf e)=some cs'∧k.K (Gw w) y cs'∧(elems.map (·.1))[i]? =some d'∧m y≤Rows.uptoBulk d'∧B y:=by
   intro i hi
   have hi':=hel i hi
   have he:i<elems.length:=by omega
   cases hcs:w.cells? 0 (a.add (i*P.cellsOf e)) (P.cellsOf e)with
   | none=>
    rw[hcs,List.getElem?_eq_getElem he]at hi'
    cases hi'
   | some cs'=>
    rw[hcs,List.getElem?_eq_getElem he]at hi'
    simp only[Option.bind_some]at hi'
    have hd':(elems.map (·.1))[i]? =some (elems[i]).1:=by rw[List.getElem?_map,List.getElem?_eq_getElem he];rfl
    obtain⟨y,h1,h2,h3⟩:=h n cs' _ _ hi' (hwe i _ hd')
    exact⟨y,cs',_,rfl,h1,hd',h2,h3⟩
  have all:∀q,q≤len→∃xs:List α,xs.length=q∧(∀x∈xs,B x)∧(xs.map m).sum≤Rows.uptoBulkAll ((elems.map (·.1)).take q)∧∀i x,xs[i]? =some x→∃cs',w.cells? 0 (a.add (i*P.cellsOf e)) (P.cellsOf e)=some cs'∧k.K (Gw w) x cs':=by
   intro q
   induction q with
   | zero=>exact fun _=>⟨[],rfl,by simp,by simp,by simp⟩
   | succ q ih=>
    intro hm
    obtain⟨xs,e1,e2,e4,e3⟩:=ih (by omega)
    obtain⟨y,cs',d',h1,h2,h3,h4,h5⟩:=one q (by omega)
    refine⟨xs++[y],by simp[e1],fun x hx=>?_,?_,fun i x hx=>?_⟩
    ·rcases List.mem_append.1 hx with hx | hx
     ·exact e2 x hx
     ·simp at hx;subst hx;exact h5
    ·rw[bulk_take h3,List.map_append,List.sum_append]
     simp only[List.map_cons,List.map_nil,List.sum_cons,List.sum_nil]
     omega
    ·rcases Nat.lt_or_ge i xs.length with hi | hi
     ·rw[List.getElem?_append_left hi]at hx;exact e3 i x hx
     ·have:i=q:=by have:=(List.getElem?_eq_some_iff.1 hx).1;simp at this;omega
      subst this
      rw[List.getElem?_append_right hi]at hx
      simp[e1]at hx
      subst hx
      exact⟨cs',h1,h2⟩
  obtain⟨xs,e1,e2,e4,e3⟩:=all len (Nat.le_refl _)
  have h5:=bulk_take_le (elems.map (·.1)) len
  refine⟨xs,⟨some a,cap,by rw[e1],by omega,fun i x hx=>?_⟩,by simp only[Rows.uptoBulk];omega,e2⟩
  have hi:=(List.getElem?_eq_some_iff.1 hx).1
  obtain⟨cs0,h10,h20⟩:=e3 0 _ (List.getElem?_eq_getElem (by omega:0<xs.length))
  obtain⟨h30,h40⟩:=cells_get w h10
  have hsp:=cell_plain w (h40 0 _ (List.getElem?_eq_getElem (by rw[h30,hc];exact h0)))
  obtain⟨cs',h1,h2⟩:=e3 i x hx
  obtain⟨h3,h4⟩:=cells_get w h1
  obtain⟨ab,ao,asp⟩:=a
  obtain rfl:asp=none:=by simpa [Addr.add]using hsp
  refine⟨ab,ao,cs',rfl,h2,fun j v e=>?_⟩
  have h5:=h4 j v e
  rw[hc]at h5
  have e5:((⟨ab,ao,none⟩:Addr).add (i*k.n)).add j=⟨ab,ao+i*k.n+j,none⟩:=by
   unfold Addr.add
   split<;>split<;>simp_all
  rw[e5]at h5
  exact h5
theorem field_openW {t:TypeId} {fs:Array Field} {fuel:Nat} {cs:List Value} {d:DataW H} {ps:List MemPlace} (ht:P.underlying t=some (.struct fs)) (hd:DataW.trod enc P w 0 (fun _=>true) true fuel t cs=some (d,ps)) (hw:Rows.uptoBulk d≤1048576):
  cs.length=P.cellsOf t∧∃ds:List (DataW H),ds.length=fs.size∧Rows.uptoBulk d=Rows.uptoBulkAll ds+1∧∀(i:Nat) (f:Field),fs[i]? =some f→∀ {t' o n:Nat},f.type=t'→f.offset=o→P.cellsOf t'=n→∀ {α:Type} {k:Kd α} {m:α→Nat} {B:α→Prop},OpensW enc P w t' k m B→∃a,k.K (Gw w) a ((cs.drop o).take n)∧(∀x,ds[i]? =some x→m a≤Rows.uptoBulk x)∧B a:=by
 obtain⟨xs,n,_,hx,hl,hn,hf⟩:=DataW.trod_struct ht hd
 obtain⟨rfl,rfl⟩:=Prod.mk.inj hx
 refine⟨hl,xs.map (·.1),by rw[List.length_map,hn],by simp only[Rows.uptoBulk],fun i f hi t' o n' e1 e2 e3 α k m B hO=>?_⟩
 subst e1 e2 e3
 have h1:=hf i f hi
 have hilt:i<xs.length:=by rw[hn];exact(Array.getElem?_eq_some_iff.1 hi).1
 rw[List.getElem?_eq_getElem hilt]at h1
 have hd':(xs.map (·.1))[i]? =some (xs[i]).1:=by rw[List.getElem?_map,List.getElem?_eq_getElem hilt];rfl
 simp only[Rows.uptoBulk]at hw
 obtain⟨y,h2,h3,h4⟩:=hO n _ _ _ h1 (Nat.le_trans (bulk_part (List.mem_of_getElem? hd')) (by omega))
 exact⟨y,h2,fun x hx=>by rw[hd']at hx;cases hx;exact h3,h4⟩
end
def mV (v:V):Nat:=v.s.size+1
def mNd (n:Nd):Nat:=n.path.size+n.name.size+n.params.length+1
def mPr (p:Pr):Nat:=p.name.size+p.params.length+p.code.length+1
def mOb (o:Ob):Nat:=o.path.size+(o.consts.map mV).sum+(o.needs.map mNd).sum+(o.procs.map mPr).sum+1
def i64 (z:Int):Prop:=(Lit.int .i64 z).wf=true
structure OInt (o:Ob):Prop where
 cs:∀v∈o.consts,i64 v.t∧i64 v.i
 nd:∀n∈o.needs,i64 n.result∧∀t∈n.params,i64 t
 pr:∀p∈o.procs,i64 p.locals∧i64 p.result∧(∀t∈p.params,i64 t)∧∀i∈p.code,i64 i.1∧i64 i.2
theorem olim_of {o:Ob} (h:mOb o≤1048576):OLim o:=by
 have h':=h
 unfold mOb at h'
 have a1:=sum_len (m:=mV) o.consts fun x _=>by unfold mV;omega
 have a2:=sum_len (m:=mNd) o.needs fun x _=>by unfold mNd;omega
 have a3:=sum_len (m:=mPr) o.procs fun x _=>by unfold mPr;omega
 refine⟨by omega,by omega,by omega,by omega,fun q hq=>?_,fun q hq=>?_⟩
 ·have:q.path.size+q.name.size+q.params.length+1≤(o.needs.map mNd).sum:=sum_mem (m:=mNd) hq
  omega
 ·have:q.name.size+q.params.length+q.code.length+1≤(o.procs.map mPr).sum:=sum_mem (m:=mPr) hq
  omega
section
attribute [local irreducible] Tryz.prog
variable {H:Type} (enc:TypeId×Value→H) (w:World)
theorem sum_ones {α:Type} (l:List α):(l.map fun _=>1).sum=l.length:=by
 induction l with
 | nil=>rfl
 | cons x r ih=>simp only[List.map_cons,List.sum_cons,List.length_cons,ih];omega
theorem OpensW.value:OpensW enc Tryz.prog w 52 Kd.val mV (fun v=>i64 v.t∧i64 v.i):=by
 intro fuel cs d ps hd hw
 obtain⟨hl,ds,hds,hb,hf⟩:=field_openW enc Tryz.prog w Tryz.underlying52 hd hw
 obtain⟨c0,c1,c2,c3,rfl⟩:=elist4 (hl.trans ecellsV)
 obtain⟨d0,d1,d2,d3,rfl⟩:=elist4 hds
 obtain⟨t,h0,_,b0⟩:=hf 0 _ rfl rfl rfl ecells_typ (OpensW.int enc Tryz.prog w Tryz.underlying44)
 obtain⟨i,h1,_,b1⟩:=hf 1 _ rfl rfl rfl ecells_i64 (OpensW.int enc Tryz.prog w Tryz.underlying2)
 obtain⟨b,h2,_⟩:=hf 2 _ rfl rfl rfl ecells_bool (OpensW.bool enc Tryz.prog w Tryz.underlying4)
 obtain⟨s,h3,m3,_⟩:=hf 3 _ rfl rfl rfl ecells_str (OpensW.str enc Tryz.prog w Tryz.underlying9)
 have m3:=m3 _ rfl
 have e0:[c0]=[Value.int .i64 t]:=h0
 have e1:[c1]=[Value.int .i64 i]:=h1
 have e2:[c2]=[Value.bool b]:=h2
 have e3:[c3]=[Value.string s]:=h3
 cases e0;cases e1;cases e2;cases e3
 simp only[Rows.uptoBulkAll]at hb
 exact⟨⟨t,i,b,s⟩,rfl,by unfold mV;dsimp only;omega,b0,b1⟩
theorem OpensW.instr:OpensW enc Tryz.prog w 50 Kd.ins (fun _=>1) (fun i=>i64 i.1∧i64 i.2):=by
 intro fuel cs d ps hd hw
 obtain⟨hl,ds,hds,hb,hf⟩:=field_openW enc Tryz.prog w Tryz.underlying50 hd hw
 obtain⟨c0,c1,rfl⟩:=elist2 (hl.trans ecellsI)
 obtain⟨c,h0,_,b0⟩:=hf 0 _ rfl rfl rfl ecells_cod (OpensW.int enc Tryz.prog w Tryz.underlying48)
 obtain⟨n,h1,_,b1⟩:=hf 1 _ rfl rfl rfl ecells_int (OpensW.int enc Tryz.prog w Tryz.underlying3)
 have e0:[c0]=[Value.int .i64 c]:=h0
 have e1:[c1]=[Value.int .i64 n]:=h1
 cases e0;cases e1
 exact⟨(c,n),rfl,bulk_one d,b0,b1⟩
theorem OpensW.types:OpensW enc Tryz.prog w 43 (Kd.slice (Kd.int .i64)) (fun xs=>(xs.map fun _=>1).sum+1) (fun xs=>∀t∈xs,i64 t):=
 OpensW.slice enc Tryz.prog w Tryz.underlying43 (k:=Kd.int .i64) ecells_typ (by decide) (OpensW.int enc Tryz.prog w Tryz.underlying44)
theorem OpensW.proc:OpensW enc Tryz.prog w 47 Kd.prc mPr (fun p=>i64 p.locals∧i64 p.result∧(∀t∈p.params,i64 t)∧∀i∈p.code,i64 i.1∧i64 i.2):=by
 intro fuel cs d ps hd hw
 obtain⟨hl,ds,hds,hb,hf⟩:=field_openW enc Tryz.prog w Tryz.underlying47 hd hw
 obtain⟨c0,c1,c2,c3,c4,c5,rfl⟩:=elist6 (hl.trans ecellsP)
 obtain⟨d0,d1,d2,d3,d4,d5,rfl⟩:=elist6 hds
 obtain⟨nm,h0,m0,_⟩:=hf 0 _ rfl rfl rfl ecells_str (OpensW.str enc Tryz.prog w Tryz.underlying9)
 obtain⟨ex,h1,_⟩:=hf 1 _ rfl rfl rfl ecells_bool (OpensW.bool enc Tryz.prog w Tryz.underlying4)
 obtain⟨pr,h2,m2,bp⟩:=hf 2 _ rfl rfl rfl ecells_lt (OpensW.types enc w)
 obtain⟨lo,h3,_,bl⟩:=hf 3 _ rfl rfl rfl ecells_int (OpensW.int enc Tryz.prog w Tryz.underlying3)
 obtain⟨re,h4,_,br⟩:=hf 4 _ rfl rfl rfl ecells_typ (OpensW.int enc Tryz.prog w Tryz.underlying44)
 obtain⟨co,h5,m5,bc⟩:=hf 5 _ rfl rfl rfl ecells_li (OpensW.slice enc Tryz.prog w Tryz.underlying45 (k:=Kd.ins) ecellsI (by decide) (OpensW.instr enc w))
 have m0:=m0 _ rfl
 have m2:=m2 _ rfl
 have m5:=m5 _ rfl
 rw[sum_ones]at m2 m5
 obtain⟨PA,pc,h2',_,hPA⟩:=h2
 obtain⟨CA,cc,h5',_,hCA⟩:=h5
 have e0:[c0]=[Value.string nm]:=h0
 have e1:[c1]=[Value.bool ex]:=h1
 have e2:[c2]=[Value.slice PA pr.length pc]:=h2'
 have e3:[c3]=[Value.int .i64 lo]:=h3
 have e4:[c4]=[Value.int .i64 re]:=h4
 have e5:[c5]=[Value.slice CA co.length cc]:=h5'
 cases e0;cases e1;cases e2;cases e3;cases e4;cases e5
 simp only[Rows.uptoBulkAll]at hb
 exact⟨⟨nm,ex,pr,lo,re,co⟩,⟨PA,pc,CA,cc,rfl,hPA,hCA⟩,by unfold mPr;dsimp only;omega,bl,br,bp,bc⟩
theorem OpensW.need:OpensW enc Tryz.prog w 56 Kd.ned mNd (fun n=>i64 n.result∧∀t∈n.params,i64 t):=by
 intro fuel cs d ps hd hw
 obtain⟨hl,ds,hds,hb,hf⟩:=field_openW enc Tryz.prog w Tryz.underlying56 hd hw
 obtain⟨c0,c1,c2,c3,rfl⟩:=elist4 (hl.trans ecellsN)
 obtain⟨d0,d1,d2,d3,rfl⟩:=elist4 hds
 obtain⟨pt,h0,m0,_⟩:=hf 0 _ rfl rfl rfl ecells_str (OpensW.str enc Tryz.prog w Tryz.underlying9)
 obtain⟨nm,h1,m1,_⟩:=hf 1 _ rfl rfl rfl ecells_str (OpensW.str enc Tryz.prog w Tryz.underlying9)
 obtain⟨pr,h2,m2,bp⟩:=hf 2 _ rfl rfl rfl ecells_lt (OpensW.types enc w)
 obtain⟨re,h3,_,br⟩:=hf 3 _ rfl rfl rfl ecells_typ (OpensW.int enc Tryz.prog w Tryz.underlying44)
 have m0:=m0 _ rfl
 have m1:=m1 _ rfl
 have m2:=m2 _ rfl
 rw[sum_ones]at m2
 obtain⟨PA,pc,h2',_,hPA⟩:=h2
 have e0:[c0]=[Value.string pt]:=h0
 have e1:[c1]=[Value.string nm]:=h1
 have e2:[c2]=[Value.slice PA pr.length pc]:=h2'
 have e3:[c3]=[Value.int .i64 re]:=h3
 cases e0;cases e1;cases e2;cases e3
 simp only[Rows.uptoBulkAll]at hb
 exact⟨⟨pt,nm,pr,re⟩,⟨PA,pc,rfl,hPA⟩,by unfold mNd;dsimp only;omega,br,bp⟩
theorem OpensW.object:OpensW enc Tryz.prog w 38 Kd.ob mOb OInt:=by
 intro fuel cs d ps hd hw
 obtain⟨hl,ds,hds,hb,hf⟩:=field_openW enc Tryz.prog w Tryz.underlying38 hd hw
 obtain⟨c0,c1,c2,c3,rfl⟩:=elist4 (hl.trans ecellsO)
 obtain⟨d0,d1,d2,d3,rfl⟩:=elist4 hds
 obtain⟨pt,h0,m0,_⟩:=hf 0 _ rfl rfl rfl ecells_str (OpensW.str enc Tryz.prog w Tryz.underlying9)
 obtain⟨co,h1,m1,bc⟩:=hf 1 _ rfl rfl rfl ecells_lv (OpensW.slice enc Tryz.prog w Tryz.underlying23 (k:=Kd.val) ecellsV (by decide) (OpensW.value enc w))
 obtain⟨ne,h2,m2,bn⟩:=hf 2 _ rfl rfl rfl ecells_ln (OpensW.slice enc Tryz.prog w Tryz.underlying31 (k:=Kd.ned) ecellsN (by decide) (OpensW.need enc w))
 obtain⟨pr,h3,m3,bp⟩:=hf 3 _ rfl rfl rfl ecells_lp (OpensW.slice enc Tryz.prog w Tryz.underlying24 (k:=Kd.prc) ecellsP (by decide) (OpensW.proc enc w))
 have m0:=m0 _ rfl
 have m1:=m1 _ rfl
 have m2:=m2 _ rfl
 have m3:=m3 _ rfl
 obtain⟨CA,cc,h1',_,hCA⟩:=h1
 obtain⟨NA,nc,h2',_,hNA⟩:=h2
 obtain⟨PA,pc,h3',_,hPA⟩:=h3
 have e0:[c0]=[Value.string pt]:=h0
 have e1:[c1]=[Value.slice CA co.length cc]:=h1'
 have e2:[c2]=[Value.slice NA ne.length nc]:=h2'
 have e3:[c3]=[Value.slice PA pr.length pc]:=h3'
 cases e0;cases e1;cases e2;cases e3
 simp only[Rows.uptoBulkAll]at hb
 exact⟨⟨pt,co,ne,pr⟩,⟨CA,cc,NA,nc,PA,pc,rfl,hCA,hNA,hPA⟩,by unfold mOb;dsimp only;omega,bc,bn,bp⟩
end
end
section
open Go.MapKept
theorem BVec.zero {A:Option Addr} {l:List Int} {c:Nat} {x:Own} (h:BVec A l c x):A=none→l.length=0:=fun e=>by
 obtain⟨_,⟨_,h2,_⟩ | ⟨b,_,h1,_⟩⟩:=h
 ·exact h2
 ·rw[h1]at e;cases e
theorem flat_sum {α:Type} {f:α→List Int} {m:α→Nat} (c:Nat):∀l:List α,(∀x∈l,(f x).length≤c*m x)→(l.flatMap f).length≤c*(l.map m).sum
 | [],_=>by simp
 | a::r,h=>by
  have h1:=h a List.mem_cons_self
  have h2:=flat_sum c r fun x hx=>h x (List.mem_cons_of_mem _ hx)
  rw[List.flatMap_cons,List.length_append,List.map_cons,List.sum_cons,Nat.mul_add]
  omega
theorem txt_len (s:ByteArray) (h:s.size≤100000000000000):(txtI s).length≤s.size+10:=by
 have:=uintL_len10 (n:=s.size) (by omega)
 rw[txtI,List.length_append,strI_length];omega
theorem code_len (l:List (Int×Int)) (h:l.length≤100000000000000):((bytesR l).1).length≤10+11*l.length:=by
 unfold bytesR
 split
 ·rename_i ha
  have h1:=flat_le (l:=l) (k:=l.length) fun j i hj hi=>List.all_eq_true.1 ha i (List.mem_of_getElem? hi)
  have h2:=uintL_len10 (n:=l.length) (by omega)
  show(encP l l.length).length≤_
  unfold encP
  rw[List.length_append,List.take_length]at*
  omega
 ·simp
theorem val_len (v:V) (h:mV v≤1048576) (hi: -9223372036854775808≤v.i∧v.i≤9223372036854775807):(valI v).length≤50*mV v:=by
 unfold mV at*
 have h1:=uintL_len10 (zzN_lt hi)
 have h2:=txt_len v.s (by omega)
 unfold valI
 rw[List.length_append]
 have h3:(kindI v.t).length=1:=rfl
 split
 ·omega
 split
 ·simp;omega
 split
 ·omega
 ·simp;omega
theorem typ_len (ps:List Int) (r:Int):(typI ps r).length≤ps.length+11:=by
 have:=uI_len (ps.length:Int)
 unfold typI
 rw[List.length_append,List.length_append,kinds_len]
 show _+_+1≤_
 omega
theorem nd_len (n:Nd) (h:mNd n≤1048576):(ndI n).length≤50*mNd n:=by
 unfold mNd at*
 have h1:=txt_len n.path (by omega)
 have h2:=txt_len n.name (by omega)
 have h3:=typ_len n.params n.result
 have hni:ndI n=txtI n.path++txtI n.name++typI n.params n.result:=by unfold ndI headI typI;simp only[List.append_assoc]
 rw[hni,List.length_append,List.length_append]
 omega
theorem pr_len (p:Pr) (h:mPr p≤1048576):(procI p).length≤50*mPr p:=by
 unfold mPr at*
 have h1:=txt_len p.name (by omega)
 have h3:=typ_len p.params p.result
 have h4:=uI_len p.locals
 have h5:=code_len p.code (by omega)
 have hpi:procI p=txtI p.name++typI p.params p.result++[boolI p.exp]++uI p.locals++(bytesR p.code).1:=by unfold procI headI typI;simp only[List.append_assoc]
 rw[hpi]
 simp only[List.length_append,List.length_cons,List.length_nil]
 omega
def mPt (x:Pt):Nat:=x.path.size+x.name.size+1
theorem pt_len (x:Pt) (h:mPt x≤1048576):(ptI x).length≤50*mPt x:=by
 unfold mPt at*
 have h1:=txt_len x.path (by omega)
 have h2:=txt_len x.name (by omega)
 have h4:=uI_len x.proc
 unfold ptI
 rw[List.length_append,List.length_append]
 omega
theorem vals_len {cs:List V} (h:(cs.map mV).sum≤1048576) (hi:∀v∈cs, -9223372036854775808≤v.i∧v.i≤9223372036854775807):(valsI cs).length≤100000000:=by
 have h1:=flat_sum (f:=valI) (m:=mV) 50 cs fun v hv=>val_len v (Nat.le_trans (sum_mem (m:=mV) hv) h) (hi v hv)
 have h2:=uI_len (cs.length:Int)
 unfold valsI
 rw[List.length_append]
 omega
theorem procs_len {ps:List Pr} (h:(ps.map mPr).sum≤1048576):(procsI ps).length≤100000000:=by
 have h1:=flat_sum (f:=procI) (m:=mPr) 50 ps fun v hv=>pr_len v (Nat.le_trans (sum_mem (m:=mPr) hv) h)
 have h2:=uI_len (ps.length:Int)
 unfold procsI
 rw[List.length_append]
 omega
theorem obj_len {o:Ob} (h:mOb o≤1048576) (hi:∀v∈o.consts, -9223372036854775808≤v.i∧v.i≤9223372036854775807):(objI o).length≤1000000000:=by
 unfold mOb at h
 have h1:=vals_len (cs:=o.consts) (by omega) hi
 have h2:=procs_len (ps:=o.procs) (by omega)
 have h3:=flat_sum (f:=ndI) (m:=mNd) 50 o.needs fun v hv=>nd_len v (Nat.le_trans (sum_mem (m:=mNd) hv) (by omega))
 have h4:=txt_len o.path (by omega)
 have h5:=uI_len (o.needs.length:Int)
 unfold objI
 simp only[List.length_append]
 show 3+_+_+_+_+_≤_
 omega
structure GSum (cs:List V) (prs:List Pr) (pts:List Pt):Prop where
 cs:(cs.map mV).sum≤1048576
 pr:(prs.map mPr).sum≤1048576
 pt:(pts.map mPt).sum≤1048576
theorem GSum.lim {cs:List V} {prs:List Pr} {pts:List Pt} (h:GSum cs prs pts):GLim cs prs pts∧cs.length≤1048576∧prs.length≤1048576∧pts.length≤1048576∧∀p∈prs,p.code.length≤1048576:=by
 have a1:=sum_len (m:=mV) cs fun x _=>by unfold mV;omega
 have a2:=sum_len (m:=mPr) prs fun x _=>by unfold mPr;omega
 have a3:=sum_len (m:=mPt) pts fun x _=>by unfold mPt;omega
 have b1:=h.cs
 have b2:=h.pr
 have b3:=h.pt
 have hp:∀p∈prs,p.name.size+p.params.length+p.code.length+1≤1048576:=fun p hp=>Nat.le_trans (sum_mem (m:=mPr) hp) b2
 refine⟨⟨by omega,by omega,by omega,fun x hx=>?_,fun p hp'=>?_⟩,by omega,by omega,by omega,fun p hp'=>?_⟩
 ·have:x.path.size+x.name.size+1≤1048576:=Nat.le_trans (sum_mem (m:=mPt) hx) b3
  omega
 ·have:=hp p hp'
  omega
 ·have:=hp p hp'
  omega
theorem pg_len {cs:List V} {prs:List Pr} {pts:List Pt} (h:GSum cs prs pts) (hi:∀v∈cs, -9223372036854775808≤v.i∧v.i≤9223372036854775807):(pgI cs prs pts).length≤1000000000:=by
 have h1:=vals_len h.cs hi
 have h2:=procs_len h.pr
 have h3:=flat_sum (f:=ptI) (m:=mPt) 50 pts fun v hv=>pt_len v (Nat.le_trans (sum_mem (m:=mPt) hv) h.pt)
 have h5:=uI_len (pts.length:Int)
 have h6:=h.pt
 unfold pgI
 simp only[List.length_append]
 show 3+_+_+_+_≤_
 omega
attribute [local irreducible] Tryz.prog bytesO bytesP objAns progAns
set_option maxRecDepth 20000 in
set_option maxHeartbeats 4000000 in
theorem lawBytes_fn (G:Gh) (hE:Env G) (o:Ob) (CA NA PA:Option Addr) (cc nc pc:Nat) (hO:ORep G o CA NA PA) (hM:mOb o≤1048576) (hi:∀v∈o.consts, -9223372036854775808≤v.i∧v.i≤9223372036854775807)
  (cs:List V) (prs:List Pr) (pts:List Pt) (DA QA TA:Option Addr) (dc qc tc:Nat) (hC:Sl Kd.val G DA cs) (hP:Sl Kd.prc G QA prs) (hT:Sl Kd.pnt G TA pts) (hS:GSum cs prs pts) (hj:∀v∈cs, -9223372036854775808≤v.i∧v.i≤9223372036854775807):
  Fn Tryz.prog 9 #[.agg (obC o CA NA PA cc nc pc), .agg #[.slice DA cs.length dc, .slice QA prs.length qc, .slice TA pts.length tc]] G [] fun e G' H'=>e= .returned (.bool true)∧G.le G'∧H'=[]:=by
 have hL:=olim_of hM
 have hol:=obj_len hM hi
 obtain⟨hGL,l1,l2,l3,l4⟩:=hS.lim
 have hpl:=pg_len hS hj
 have hM':=hM
 unfold mOb at hM'
 have m1:=sum_len (m:=mV) o.consts fun x _=>by unfold mV;omega
 have m2:=sum_len (m:=mNd) o.needs fun x _=>by unfold mNd;omega
 have m3:=sum_len (m:=mPr) o.procs fun x _=>by unfold mPr;omega
 have hpc:∀p∈o.procs,p.code.length≤9000000000000:=fun p hp=>by
  have:p.name.size+p.params.length+p.code.length+1≤(o.procs.map mPr).sum:=sum_mem (m:=mPr) hp
  omega
 refine Fn.enter Tryz.func9 rfl rfl fun w0=>?_
 refine WC.seq ?_
 refine WC.region ?_
 refine WL.oo (OW.box rfl rfl fun b2=>?_)
 refine WL.oo (OW.box rfl rfl fun b3=>?_)
 by_cases h4:pts.length≤4000
 rotate_left
 ·have e1:decide ((4000:Int)<(pts.length:Int))=true:=decide_eq_true (by omega)
  refine gom ?_
  refine WL.oo (OW.callK rfl (awakeL G hE) rfl fun v' G' H' h hg=>?_)
  obtain⟨he,hg1,rfl⟩:=h
  cases he
  refine gom ?_
  refine WC.rt ?_
  exact QF.p1 (.inl rfl) rfl (.tmp rfl) (⟨rfl,hg1,rfl⟩)
 have e1:decide ((4000:Int)<(pts.length:Int))=false:=decide_eq_false (by omega)
 refine gom ?_
 refine WL.oo (OW.callK rfl (objBytes_fn G hE o CA NA PA cc nc pc hO hL hi (by omega) (by omega) (by omega) hpc (by omega)) rfl fun v' G' H' h hg=>?_)
 obtain⟨A1,c1,x1,he,hg1,h1,rfl⟩:=h
 cases he
 obtain⟨G1,rfl⟩:∃G1,G1=G':=⟨_,rfl⟩
 refine gom ?_
 refine WL.oo (OW.callK rfl (rObjBytes_fn G1 o CA NA PA cc nc pc (hO.mono hg1) hL hi (by omega) (by omega) (by omega) hpc (by omega)) rfl fun v' G' H' h hg=>?_)
 obtain⟨A2,c2,x2,he,hg2,h2,rfl⟩:=h
 cases he
 obtain⟨G2,rfl⟩:∃G2,G2=G':=⟨_,rfl⟩
 have hg12:=Gh.le_trans hg1 hg2
 refine gom ?_
 refine WL.oo (OW.callK rfl (pgBytes_fn G2 (hE.mono hg12) cs prs pts DA QA TA dc qc tc (hC.mono hg12) (hP.mono hg12) (hT.mono hg12) hGL hj (by omega) (by omega) (by omega) (fun p hp=>by have:=l4 p hp;omega) (by omega)) rfl fun v' G' H' h hg=>?_)
 obtain⟨A3,c3,x3,he,hg3,h3,rfl⟩:=h
 cases he
 obtain⟨G3,rfl⟩:∃G3,G3=G':=⟨_,rfl⟩
 have hg13:=Gh.le_trans hg12 hg3
 refine gom ?_
 refine WL.oo (OW.callK rfl (rPgBytes_fn G3 cs prs pts DA QA TA dc qc tc (hC.mono hg13) (hP.mono hg13) (hT.mono hg13) hGL hj (by omega) (by omega) (by omega) (fun p hp=>by have:=l4 p hp;omega) (by omega)) rfl fun v' G' H' h hg=>?_)
 obtain⟨A4,c4,x4,he,hg4,h4',rfl⟩:=h
 cases he
 obtain⟨G4,rfl⟩:∃G4,G4=G':=⟨_,rfl⟩
 have hg14:=Gh.le_trans hg13 hg4
 have q1:(strOfNums (bytesO o)==strOfNums (bytesO o))=true:=bb_refl _
 have q2:(strOfNums (bytesP cs prs pts)==strOfNums (bytesP cs prs pts))=true:=bb_refl _
 have q3:((objAns o).2.2==(objAns o).2.2)=true:=beq_self_eq_true _
 have q4:((progAns cs prs pts).2.2==(progAns cs prs pts).2.2)=true:=beq_self_eq_true _
 refine gom ?_
 refine WL.vv (Gv.convBytes (xs:=bytesO o) rfl (h1.rds atA) h1.zero) ?_
 refine gom ?_
 refine WL.vv (Gv.convBytes (xs:=bytesO o) rfl (h2.rds atA) h2.zero) ?_
 refine gom ?_
 try rw[q1]
 refine gom ?_
 refine WL.vv (Gv.convBytes (xs:=bytesP cs prs pts) rfl (h3.rds atA) h3.zero) ?_
 refine gom ?_
 refine WL.vv (Gv.convBytes (xs:=bytesP cs prs pts) rfl (h4'.rds atA) h4'.zero) ?_
 refine gom ?_
 try rw[q2]
 refine gom ?_
 refine WL.oo (OW.callK rfl (awakeL G4 (hE.mono hg14)) rfl fun v' G' H' h hg=>?_)
 obtain⟨he,hg5,rfl⟩:=h
 cases he
 refine gom ?_
 refine WC.rt ?_
 exact QF.p1 (.inl rfl) rfl (.tmp rfl) (⟨rfl,Gh.le_trans hg14 hg5,rfl⟩)
end
section
open Go.RowKit Go.ChangeShapes Go.WideShapes Go.MapKept
theorem elist3 {α:Type} {l:List α} (h:l.length=3):∃a b c,l=[a,b,c]:=match l,h with | [a,b,c],_=>⟨a,b,c,rfl⟩
section
attribute [local irreducible] Tryz.prog
variable {H:Type} (enc:TypeId×Value→H) (w:World)
end
end
section
open Go.RowKit Go.ChangeShapes Go.WideShapes Go.MapKept
theorem ecellsPt:Tryz.prog.cellsOf 54=3:=by kernel_rfl
theorem ecellsPg:Tryz.prog.cellsOf 27=3:=by kernel_rfl
theorem ecells_lpt:Tryz.prog.cellsOf 25=1:=by kernel_rfl
theorem i64_in {z:Int} (h:i64 z): -9223372036854775808≤z∧z≤9223372036854775807:=by
 unfold i64 at h
 simp[Lit.wf,IntKind.min,IntKind.max,IntKind.signed,IntKind.bits]at h
 omega
section
attribute [local irreducible] Tryz.prog
variable {H:Type} (enc:TypeId×Value→H) (w:World)
theorem open_objM {v:Value} {d:DataW H} {ps:List MemPlace} {base:Nat} (hval:Value.okWide Tryz.prog w .any base 38 v) (hd:DataW.Trod enc Tryz.prog w 0 (fun _=>true) true 38 v d ps) (hw:Rows.uptoBulk d≤1048576):
  ∃(o:Ob) (CA NA PA:Option Addr) (cc nc pc:Nat),v= .agg (obC o CA NA PA cc nc pc)∧ORep (Gw w) o CA NA PA∧mOb o≤1048576∧OInt o:=by
 obtain⟨cells,rfl,_⟩:=okWide_struct Tryz.underlying38 hval
 obtain⟨fuel,hd⟩:=hd
 obtain⟨o,hk,hm,hi⟩:=OpensW.object enc w fuel _ d ps hd hw
 obtain⟨CA,cc,NA,nc,PA,pc,hcs,hO⟩:=hk
 refine⟨o,CA,NA,PA,cc,nc,pc,?_,hO,by omega,hi⟩
 have hcl:(Value.agg cells).cells.toList=cells.toList:=rfl
 rw[hcl]at hcs
 unfold obC
 congr 1
 cases cells
 simp at hcs
 rw[hcs]
theorem OpensW.point:OpensW enc Tryz.prog w 54 Kd.pnt mPt (fun _=>True):=by
 intro fuel cs d ps hd hw
 obtain⟨hl,ds,hds,hb,hf⟩:=field_openW enc Tryz.prog w Tryz.underlying54 hd hw
 obtain⟨c0,c1,c2,rfl⟩:=elist3 (hl.trans ecellsPt)
 obtain⟨d0,d1,d2,rfl⟩:=elist3 hds
 obtain⟨a,h0,m0,_⟩:=hf 0 _ rfl rfl rfl ecells_str (OpensW.str enc Tryz.prog w Tryz.underlying9)
 obtain⟨b,h1,m1,_⟩:=hf 1 _ rfl rfl rfl ecells_str (OpensW.str enc Tryz.prog w Tryz.underlying9)
 obtain⟨n,h2,_⟩:=hf 2 _ rfl rfl rfl ecells_int (OpensW.int enc Tryz.prog w Tryz.underlying3)
 have m0:=m0 _ rfl
 have m1:=m1 _ rfl
 have e0:[c0]=[Value.string a]:=h0
 have e1:[c1]=[Value.string b]:=h1
 have e2:[c2]=[Value.int .i64 n]:=h2
 cases e0;cases e1;cases e2
 simp only[Rows.uptoBulkAll]at hb
 exact⟨⟨a,b,n⟩,rfl,by unfold mPt;dsimp only;omega,trivial⟩
theorem open_progM {v:Value} {d:DataW H} {ps:List MemPlace} {base:Nat} (hval:Value.okWide Tryz.prog w .any base 27 v) (hd:DataW.Trod enc Tryz.prog w 0 (fun _=>true) true 27 v d ps) (hw:Rows.uptoBulk d≤1048576):
  ∃(cs:List V) (prs:List Pr) (pts:List Pt) (CA PA QA:Option Addr) (cc pc qc:Nat),v= .agg #[.slice CA cs.length cc, .slice PA prs.length pc, .slice QA pts.length qc]∧Sl Kd.val (Gw w) CA cs∧Sl Kd.prc (Gw w) PA prs∧Sl Kd.pnt (Gw w) QA pts∧GSum cs prs pts∧∀v∈cs,i64 v.t∧i64 v.i:=by
 obtain⟨cells,rfl,_⟩:=okWide_struct Tryz.underlying27 hval
 obtain⟨fuel,hd⟩:=hd
 obtain⟨hl,ds,hds,hb,hf⟩:=field_openW enc Tryz.prog w Tryz.underlying27 hd hw
 have hcl:(Value.agg cells).cells.toList=cells.toList:=rfl
 rw[hcl]at hl hf
 obtain⟨c0,c1,c2,hcs⟩:=elist3 (hl.trans ecellsPg)
 rw[hcs]at hf
 obtain⟨d0,d1,d2,rfl⟩:=elist3 hds
 obtain⟨co,h0,m0,bc⟩:=hf 0 _ rfl rfl rfl ecells_lv (OpensW.slice enc Tryz.prog w Tryz.underlying23 (k:=Kd.val) ecellsV (by decide) (OpensW.value enc w))
 obtain⟨pr,h1,m1,_⟩:=hf 1 _ rfl rfl rfl ecells_lp (OpensW.slice enc Tryz.prog w Tryz.underlying24 (k:=Kd.prc) ecellsP (by decide) (OpensW.proc enc w))
 obtain⟨pt,h2,m2,_⟩:=hf 2 _ rfl rfl rfl ecells_lpt (OpensW.slice enc Tryz.prog w Tryz.underlying25 (k:=Kd.pnt) ecellsPt (by decide) (OpensW.point enc w))
 have m0:=m0 _ rfl
 have m1:=m1 _ rfl
 have m2:=m2 _ rfl
 simp only[Rows.uptoBulkAll]at hb
 obtain⟨CA,cc,h0',_,hCA⟩:=h0
 obtain⟨PA,pc,h1',_,hPA⟩:=h1
 obtain⟨QA,qc,h2',_,hQA⟩:=h2
 have e0:[c0]=[Value.slice CA co.length cc]:=h0'
 have e1:[c1]=[Value.slice PA pr.length pc]:=h1'
 have e2:[c2]=[Value.slice QA pt.length qc]:=h2'
 cases e0;cases e1;cases e2
 refine⟨co,pr,pt,CA,PA,QA,cc,pc,qc,?_,hCA,hPA,hQA,⟨by omega,by omega,by omega⟩,bc⟩
 congr 1
 cases cells
 simp at hcs
 rw[hcs]
end
end
end Go.Proofs.YtcnlkfocbbkdhaaGreatDoor.Gb
