/- The document's look at the kinds an instruction takes: walked. What the document finds wrong with an instruction that is reached: walked. The document finds the least states of a procedure: walked. What the document finds wrong with a procedure: walked. The document's look at a whole object: walked. All procedures of a world, where names may be alike: walked. What is linked is a program that may be; its points are all exported procedures (no program in sight). ObjectOrder: what is linked in another order, and with one more, is a program that runs the same (no program in sight). What a machine tells: its place, its variables, its stack; are values the same. ObjectOrder: a point's run, walked. Layer 22: a point as a key (of its path and name). A program, verified: walked. A program, verified; ObjectVerified: walked. What a call answers comes to stay; a linked program that stays. -/
import Derived.Test.YtcnlkfocbbkdhaaGreatDoorWi
set_option linter.unusedVariables false
set_option linter.unusedSimpArgs false
set_option linter.unusedSectionVars false
namespace Go.Proofs.YtcnlkfocbbkdhaaGreatDoor.Gb
open Go Go.Proofs
section
open Go.MapKept
attribute [local irreducible] Tryz.prog
theorem drop_one {l:List Int} {x:Int} (h0:1≤l.length) (h:l[l.length - 1]? =some x):l.drop (l.length - 1)=[x]:=by
 have hl:=(List.getElem?_eq_some_iff.1 h).1
 rw[List.drop_eq_getElem_cons hl,(List.getElem?_eq_some_iff.1 h).2,List.drop_eq_nil_of_le (by omega)]
theorem drop_two {l:List Int} {x y:Int} (h0:2≤l.length) (hx:l[l.length - 2]? =some x) (hy:l[l.length - 1]? =some y):l.drop (l.length - 2)=[x,y]:=by
 have hl:=(List.getElem?_eq_some_iff.1 hx).1
 rw[List.drop_eq_getElem_cons hl,(List.getElem?_eq_some_iff.1 hx).2,show l.length - 2+1=l.length - 1 by omega,drop_one (by omega) hy]
theorem kinds_rel (x y:Int):(allT 1 [y,x] || allT 3 [y,x])=(y==x&&(x==1 || x==3)):=by
 unfold allT
 simp only[List.all_cons,List.all_nil,Bool.and_true]
 rw[Bool.eq_iff_iff]
 simp only[Bool.or_eq_true,Bool.and_eq_true,beq_iff_eq]
 omega
section
variable (G:Gh) (w:Wd) (p:Pr) (CA NA PA:Option Addr) (cc nc pc:Nat) (hW:RWp G w CA NA PA) (QA IA:Option Addr) (qc ic:Nat)
include hW
set_option maxHeartbeats 8000000 in
theorem rkinds_fn (s:SS) (VA:Option Addr) (vc:Nat) (SA:Option Addr) (sc:Nat) (hS:SRep G s VA vc SA sc) (hv:s.vars.length≤1000000000) (hk:s.stack.length≤1000000000) (c:Int) (n:Nat) (ho:EOk w s.vars.length c n) (htk:(effC w s.vars (c,n)).1≤s.stack.length):
  Fn Tryz.prog 178 #[.agg (wdC w CA NA PA cc nc pc), .agg (prC p QA qc IA ic), .agg #[.int .i64 c, .int .i64 n],rsV s VA vc SA sc] G []
   fun e G' H'=>e= .returned (.bool (kindsR w p (c,n) s (s.stack.drop (s.stack.length - (effC w s.vars (c,n)).1))))∧G=G'∧H'=[]:=by
 have hsc:=hS.hs
 refine Fn.enter Tryz.func178 rfl rfl fun w0=>?_
 obtain⟨sr,su,sv,sk⟩:=s
 dsimp only at hv hk ho htk hsc⊢
 obtain⟨ho1,ho2,ho3,ho7,ho8⟩:=ho
 refine WC.seq ?_
 refine WC.region ?_
 refine WL.oo (OW.box rfl rfl fun b1=>?_)
 refine WL.oo (OW.box rfl rfl fun b2=>?_)
 refine WL.oo (OW.box rfl rfl fun b3=>?_)
 refine WL.oo (OW.box rfl rfl fun b4=>?_)
 by_cases c2:c=2
 ·subst c2
  obtain⟨v,hvv⟩:∃v,sv[n]? =some v:=⟨_,List.getElem?_eq_getElem (ho2 rfl)⟩
  obtain⟨cb,co,rfl,hcs⟩:=hS.vars.at hvv
  have x0:(0:Int)≤(n:Int):=by omega
  have x1:(n:Int)<(sv.length:Int):=by have:=ho2 rfl;omega
  have he:∀top,kindsR w p ((2:Int),(n:Int)) ⟨sr,su,sv,sk⟩ top=(v != 0):=fun top=>by unfold kindsR;simp[hvv]
  rw[he]
  refine gom ?_
  refine WC.rt ?_
  exact QF.p1 (.inl rfl) rfl (.tmp rfl) (⟨rfl,rfl,rfl⟩)
 have y2:(c==2)=false:=by simpa using c2
 by_cases c3:c=3
 ·subst c3
  have htk1:1≤sk.length:=htk
  obtain⟨x,hx⟩:∃x,sk[sk.length - 1]? =some x:=⟨_,List.getElem?_eq_getElem (by omega)⟩
  obtain⟨xb,xo,rfl,hxc⟩:=hS.stack.at hx
  have z1:IntKind.i64.wrap ((sk.length:Int) - 1)=((sk.length - 1:Nat):Int):=by rw[wrapI (by omega) (by omega)];omega
  have z2:(0:Int)≤((sk.length - 1:Nat):Int):=by omega
  have z3:((sk.length - 1:Nat):Int)<(sk.length:Int):=by omega
  have he:kindsR w p ((3:Int),(n:Int)) ⟨sr,su,sv,sk⟩ (sk.drop (sk.length - (effC w sv ((3:Int),(n:Int))).1))=(x != 0):=by
   rw[show(effC w sv ((3:Int),(n:Int))).1=1 from rfl,drop_one htk1 hx];unfold kindsR;simp[allT]
  rw[he]
  refine gom ?_
  refine WC.rt ?_
  exact QF.p1 (.inl rfl) rfl (.tmp rfl) (⟨rfl,rfl,rfl⟩)
 have y3:(c==3)=false:=by simpa using c3
 by_cases c11:c=11
 ·subst c11
  have htk1:1≤sk.length:=htk
  obtain⟨x,hx⟩:∃x,sk[sk.length - 1]? =some x:=⟨_,List.getElem?_eq_getElem (by omega)⟩
  obtain⟨xb,xo,rfl,hxc⟩:=hS.stack.at hx
  have z1:IntKind.i64.wrap ((sk.length:Int) - 1)=((sk.length - 1:Nat):Int):=by rw[wrapI (by omega) (by omega)];omega
  have z2:(0:Int)≤((sk.length - 1:Nat):Int):=by omega
  have z3:((sk.length - 1:Nat):Int)<(sk.length:Int):=by omega
  have he:kindsR w p ((11:Int),(n:Int)) ⟨sr,su,sv,sk⟩ (sk.drop (sk.length - (effC w sv ((11:Int),(n:Int))).1))=(x != 0):=by
   rw[show(effC w sv ((11:Int),(n:Int))).1=1 from rfl,drop_one htk1 hx];unfold kindsR;simp[allT]
  rw[he]
  refine gom ?_
  refine WC.rt ?_
  exact QF.p1 (.inl rfl) rfl (.tmp rfl) (⟨rfl,rfl,rfl⟩)
 have y11:(c==11)=false:=by simpa using c11
 by_cases c6:c=6
 ·subst c6
  have htk1:1≤sk.length:=htk
  obtain⟨x,hx⟩:∃x,sk[sk.length - 1]? =some x:=⟨_,List.getElem?_eq_getElem (by omega)⟩
  obtain⟨xb,xo,rfl,hxc⟩:=hS.stack.at hx
  have z1:IntKind.i64.wrap ((sk.length:Int) - 1)=((sk.length - 1:Nat):Int):=by rw[wrapI (by omega) (by omega)];omega
  have z2:(0:Int)≤((sk.length - 1:Nat):Int):=by omega
  have z3:((sk.length - 1:Nat):Int)<(sk.length:Int):=by omega
  have he:kindsR w p ((6:Int),(n:Int)) ⟨sr,su,sv,sk⟩ (sk.drop (sk.length - (effC w sv ((6:Int),(n:Int))).1))=(x==2):=by
   rw[show(effC w sv ((6:Int),(n:Int))).1=1 from rfl,drop_one htk1 hx];unfold kindsR;simp[allT]
  rw[he]
  refine gom ?_
  refine WC.rt ?_
  exact QF.p1 (.inl rfl) rfl (.tmp rfl) (⟨rfl,rfl,rfl⟩)
 have y6:(c==6)=false:=by simpa using c6
 by_cases c25:c=25
 ·subst c25
  have htk1:1≤sk.length:=htk
  obtain⟨x,hx⟩:∃x,sk[sk.length - 1]? =some x:=⟨_,List.getElem?_eq_getElem (by omega)⟩
  obtain⟨xb,xo,rfl,hxc⟩:=hS.stack.at hx
  have z1:IntKind.i64.wrap ((sk.length:Int) - 1)=((sk.length - 1:Nat):Int):=by rw[wrapI (by omega) (by omega)];omega
  have z2:(0:Int)≤((sk.length - 1:Nat):Int):=by omega
  have z3:((sk.length - 1:Nat):Int)<(sk.length:Int):=by omega
  have he:kindsR w p ((25:Int),(n:Int)) ⟨sr,su,sv,sk⟩ (sk.drop (sk.length - (effC w sv ((25:Int),(n:Int))).1))=(x==2):=by
   rw[show(effC w sv ((25:Int),(n:Int))).1=1 from rfl,drop_one htk1 hx];unfold kindsR;simp[allT]
  rw[he]
  refine gom ?_
  refine WC.rt ?_
  exact QF.p1 (.inl rfl) rfl (.tmp rfl) (⟨rfl,rfl,rfl⟩)
 have y25:(c==25)=false:=by simpa using c25
 by_cases c24:c=24
 ·subst c24
  have htk1:1≤sk.length:=htk
  obtain⟨x,hx⟩:∃x,sk[sk.length - 1]? =some x:=⟨_,List.getElem?_eq_getElem (by omega)⟩
  obtain⟨xb,xo,rfl,hxc⟩:=hS.stack.at hx
  have z1:IntKind.i64.wrap ((sk.length:Int) - 1)=((sk.length - 1:Nat):Int):=by rw[wrapI (by omega) (by omega)];omega
  have z2:(0:Int)≤((sk.length - 1:Nat):Int):=by omega
  have z3:((sk.length - 1:Nat):Int)<(sk.length:Int):=by omega
  have he:kindsR w p ((24:Int),(n:Int)) ⟨sr,su,sv,sk⟩ (sk.drop (sk.length - (effC w sv ((24:Int),(n:Int))).1))=(x==1):=by
   rw[show(effC w sv ((24:Int),(n:Int))).1=1 from rfl,drop_one htk1 hx];unfold kindsR;simp[allT]
  rw[he]
  refine gom ?_
  refine WC.rt ?_
  exact QF.p1 (.inl rfl) rfl (.tmp rfl) (⟨rfl,rfl,rfl⟩)
 have y24:(c==24)=false:=by simpa using c24
 by_cases c26:c=26
 ·subst c26
  have htk1:1≤sk.length:=htk
  obtain⟨x,hx⟩:∃x,sk[sk.length - 1]? =some x:=⟨_,List.getElem?_eq_getElem (by omega)⟩
  obtain⟨xb,xo,rfl,hxc⟩:=hS.stack.at hx
  have z1:IntKind.i64.wrap ((sk.length:Int) - 1)=((sk.length - 1:Nat):Int):=by rw[wrapI (by omega) (by omega)];omega
  have z2:(0:Int)≤((sk.length - 1:Nat):Int):=by omega
  have z3:((sk.length - 1:Nat):Int)<(sk.length:Int):=by omega
  have he:kindsR w p ((26:Int),(n:Int)) ⟨sr,su,sv,sk⟩ (sk.drop (sk.length - (effC w sv ((26:Int),(n:Int))).1))=(x==3):=by
   rw[show(effC w sv ((26:Int),(n:Int))).1=1 from rfl,drop_one htk1 hx];unfold kindsR;simp[allT]
  rw[he]
  refine gom ?_
  refine WC.rt ?_
  exact QF.p1 (.inl rfl) rfl (.tmp rfl) (⟨rfl,rfl,rfl⟩)
 have y26:(c==26)=false:=by simpa using c26
 by_cases c10:c=10
 ·subst c10
  have htk1:1≤sk.length:=htk
  obtain⟨x,hx⟩:∃x,sk[sk.length - 1]? =some x:=⟨_,List.getElem?_eq_getElem (by omega)⟩
  obtain⟨xb,xo,rfl,hxc⟩:=hS.stack.at hx
  have z1:IntKind.i64.wrap ((sk.length:Int) - 1)=((sk.length - 1:Nat):Int):=by rw[wrapI (by omega) (by omega)];omega
  have z2:(0:Int)≤((sk.length - 1:Nat):Int):=by omega
  have z3:((sk.length - 1:Nat):Int)<(sk.length:Int):=by omega
  have he:kindsR w p ((10:Int),(n:Int)) ⟨sr,su,sv,sk⟩ (sk.drop (sk.length - (effC w sv ((10:Int),(n:Int))).1))=(x==p.result):=by
   rw[show(effC w sv ((10:Int),(n:Int))).1=1 from rfl,drop_one htk1 hx];unfold kindsR;simp[allT]
  rw[he]
  refine go ?_
  refine WC.draw mixed ?_
  refine za.fa 0 ?_
  refine za.move 2 ?_
  refine WA.pp 3 rfl (Gp.sub' rfl rfl z1) ?_
  refine za.ld 1 ?_
  refine za.ix 4 ?_
  refine WA.vv 5 rfl (Gv.loadG1 (i:=0) rfl hxc rfl) ?_
  refine za.fa 6 ?_
  refine za.ld 7 ?_
  refine za.eq 8 ?_
  refine za.assign 9 ?_
  refine WA.done kr ?_
  refine WK.un ?_
  refine gom ?_
  refine WC.rt ?_
  exact QF.p1 (.inl rfl) rfl (.tmp rfl) (⟨rfl,rfl,rfl⟩)
 have y10:(c==10)=false:=by simpa using c10
 by_cases c7:c=7
 ·subst c7
  obtain⟨q,hq⟩:∃q,w.procs[n]? =some q:=⟨_,List.getElem?_eq_getElem (ho7 rfl)⟩
  obtain⟨cb,co,cs,rfl,hk1,hcs⟩:=hW.procs n q hq
  obtain⟨PA2,pc2,CA2,cc2,rfl,hkp,hk2⟩:=hk1
  have x0:(0:Int)≤(n:Int):=by omega
  have x1:(n:Int)<(w.procs.length:Int):=by have:=ho7 rfl;omega
  have he1:(effC w sv ((7:Int),(n:Int))).1=q.params.length:=by unfold effC;simp[hq,hdE]
  rw[he1]at htk⊢
  have he:kindsR w p ((7:Int),(n:Int)) ⟨sr,su,sv,sk⟩ (sk.drop (sk.length - q.params.length))=decide (sk.drop (sk.length - q.params.length)=q.params):=by
   unfold kindsR;simp only[hq,Int.toNat_natCast];simp;rw[Bool.eq_iff_iff,beq_iff_eq,decide_eq_true_iff]
  rw[he]
  have z1:IntKind.i64.wrap ((sk.length:Int) - (q.params.length:Int))=(sk.length:Int) - (q.params.length:Int):=wrapI (by omega) (by omega)
  have e5:((sk.length:Int) - (q.params.length:Int)).toNat=sk.length - q.params.length:=by omega
  have hl5:sk.length - (sk.length - q.params.length)=(sk.drop (sk.length - q.params.length)).length:=by rw[List.length_drop]
  have hrs:=rsame_fn G (if sc=sk.length - q.params.length then SA else SA.map (·.add ((sk.length - q.params.length)*(Kd.int .i64).n))) PA2 (sk.drop (sk.length - q.params.length)) q.params (sc - (sk.length - q.params.length)) pc2 (hS.stack.fromG hsc) hkp (by rw[←hl5];omega)
  rw[←hl5,←e5]at hrs
  refine go ?_
  refine WC.draw mixed ?_
  refine za.fa 0 ?_
  refine za.move 2 ?_
  refine za.move 3 ?_
  refine WA.pp 4 rfl (Gp.sub' rfl rfl z1) ?_
  refine za.ld 1 ?_
  refine WA.pp 5 rfl (Gp.sliceFrom rfl rfl (by omega) (by show _≤((sk.length:Nat):Int);omega)) ?_
  refine za.fa 6 ?_
  refine za.ld 7 ?_
  refine za.fa 8 ?_
  refine za.ld 9 ?_
  refine za.ix 10 ?_
  refine za.fa 11 ?_
  refine za.ld 12 ?_
  refine WA.oo 13 rfl (OW.callK rfl (hrs) rfl fun v' G' H' h hg=>?_)
  obtain⟨he2,rfl,rfl⟩:=h
  cases he2
  refine za.assign 14 ?_
  refine WA.done kr ?_
  refine WK.un ?_
  rw[e5]
  refine gom ?_
  refine WC.rt ?_
  exact QF.p1 (.inl rfl) rfl (.tmp rfl) (⟨rfl,rfl,rfl⟩)
 have y7:(c==7)=false:=by simpa using c7
 by_cases c8:c=8
 ·subst c8
  obtain⟨q,hq⟩:∃q,w.needs[n]? =some q:=⟨_,List.getElem?_eq_getElem (ho8 rfl)⟩
  obtain⟨cb,co,cs,rfl,hk1,hcs⟩:=hW.needs n q hq
  obtain⟨PA2,pc2,rfl,hkp⟩:=hk1
  have x0:(0:Int)≤(n:Int):=by omega
  have x1:(n:Int)<(w.needs.length:Int):=by have:=ho8 rfl;omega
  have he1:(effC w sv ((8:Int),(n:Int))).1=q.params.length:=by unfold effC;simp[hq,hdE]
  rw[he1]at htk⊢
  have he:kindsR w p ((8:Int),(n:Int)) ⟨sr,su,sv,sk⟩ (sk.drop (sk.length - q.params.length))=decide (sk.drop (sk.length - q.params.length)=q.params):=by
   unfold kindsR;simp only[hq,Int.toNat_natCast];simp;rw[Bool.eq_iff_iff,beq_iff_eq,decide_eq_true_iff]
  rw[he]
  have z1:IntKind.i64.wrap ((sk.length:Int) - (q.params.length:Int))=(sk.length:Int) - (q.params.length:Int):=wrapI (by omega) (by omega)
  have e5:((sk.length:Int) - (q.params.length:Int)).toNat=sk.length - q.params.length:=by omega
  have hl5:sk.length - (sk.length - q.params.length)=(sk.drop (sk.length - q.params.length)).length:=by rw[List.length_drop]
  have hrs:=rsame_fn G (if sc=sk.length - q.params.length then SA else SA.map (·.add ((sk.length - q.params.length)*(Kd.int .i64).n))) PA2 (sk.drop (sk.length - q.params.length)) q.params (sc - (sk.length - q.params.length)) pc2 (hS.stack.fromG hsc) hkp (by rw[←hl5];omega)
  rw[←hl5,←e5]at hrs
  refine go ?_
  refine WC.draw mixed ?_
  refine za.fa 0 ?_
  refine za.move 2 ?_
  refine za.move 3 ?_
  refine WA.pp 4 rfl (Gp.sub' rfl rfl z1) ?_
  refine za.ld 1 ?_
  refine WA.pp 5 rfl (Gp.sliceFrom rfl rfl (by omega) (by show _≤((sk.length:Nat):Int);omega)) ?_
  refine za.fa 6 ?_
  refine za.ld 7 ?_
  refine za.fa 8 ?_
  refine za.ld 9 ?_
  refine za.ix 10 ?_
  refine za.fa 11 ?_
  refine za.ld 12 ?_
  refine WA.oo 13 rfl (OW.callK rfl (hrs) rfl fun v' G' H' h hg=>?_)
  obtain⟨he2,rfl,rfl⟩:=h
  cases he2
  refine za.assign 14 ?_
  refine WA.done kr ?_
  refine WK.un ?_
  rw[e5]
  refine gom ?_
  refine WC.rt ?_
  exact QF.p1 (.inl rfl) rfl (.tmp rfl) (⟨rfl,rfl,rfl⟩)
 have y8:(c==8)=false:=by simpa using c8
 by_cases c12:c=12
 ·subst c12
  have htk1:2≤sk.length:=htk
  obtain⟨x,hx⟩:∃x,sk[sk.length - 1]? =some x:=⟨_,List.getElem?_eq_getElem (by omega)⟩
  obtain⟨xb,xo,rfl,hxc⟩:=hS.stack.at hx
  have z1:IntKind.i64.wrap ((sk.length:Int) - 1)=((sk.length - 1:Nat):Int):=by rw[wrapI (by omega) (by omega)];omega
  have z2:(0:Int)≤((sk.length - 1:Nat):Int):=by omega
  have z3:((sk.length - 1:Nat):Int)<(sk.length:Int):=by omega
  obtain⟨y,hy⟩:∃y,sk[sk.length - 2]? =some y:=⟨_,List.getElem?_eq_getElem (by omega)⟩
  obtain⟨yb,yo,hye,hyc⟩:=hS.stack.at hy
  cases hye
  have z4:IntKind.i64.wrap ((sk.length:Int) - 2)=((sk.length - 2:Nat):Int):=by rw[wrapI (by omega) (by omega)];omega
  have z5:(0:Int)≤((sk.length - 2:Nat):Int):=by omega
  have z6:((sk.length - 2:Nat):Int)<(sk.length:Int):=by omega
  have he:kindsR w p ((12:Int),(n:Int)) ⟨sr,su,sv,sk⟩ (sk.drop (sk.length - (effC w sv ((12:Int),(n:Int))).1))=(y==x&&y != 0):=by
   rw[show(effC w sv ((12:Int),(n:Int))).1=2 from rfl,drop_two htk1 hy hx];unfold kindsR;simp[allT]
  rw[he]
  cases hxy:(y==x)with
  | true=>
   refine go ?_
   refine WC.draw mixed ?_
   refine za.fa 0 ?_
   refine za.move 2 ?_
   refine WA.pp 3 rfl (Gp.sub' rfl rfl z4) ?_
   refine za.fa 6 ?_
   refine za.move 8 ?_
   refine WA.pp 9 rfl (Gp.sub' rfl rfl z1) ?_
   refine za.ld 1 ?_
   refine za.ix 4 ?_
   refine WA.vv 5 rfl (Gv.loadG1 (i:=0) rfl hyc rfl) ?_
   refine za.ld 7 ?_
   refine za.ix 10 ?_
   refine WA.vv 11 rfl (Gv.loadG1 (i:=0) rfl hxc rfl) ?_
   refine WA.pp 12 rfl (Gp.eqI' rfl rfl hxy) ?_
   refine za.move 13 ?_
   refine za.fa 14 ?_
   refine za.move 16 ?_
   refine WA.pp 17 rfl (Gp.sub' rfl rfl z1) ?_
   refine za.ld 15 ?_
   refine za.ix 18 ?_
   refine WA.vv 19 rfl (Gv.loadG1 (i:=0) rfl hxc rfl) ?_
   refine za.ne 20 ?_
   refine za.pick 21 ?_
   refine za.assign 22 ?_
   refine WA.done kr ?_
   refine WK.un ?_
   refine gom ?_
   refine WC.rt ?_
   exact QF.p1 (.inl rfl) rfl (.tmp rfl) (⟨by simp at hxy;rw[hxy];rfl,rfl,rfl⟩)
  | false=>
   refine go ?_
   refine WC.draw mixed ?_
   refine za.fa 0 ?_
   refine za.move 2 ?_
   refine WA.pp 3 rfl (Gp.sub' rfl rfl z4) ?_
   refine za.fa 6 ?_
   refine za.move 8 ?_
   refine WA.pp 9 rfl (Gp.sub' rfl rfl z1) ?_
   refine za.ld 1 ?_
   refine za.ix 4 ?_
   refine WA.vv 5 rfl (Gv.loadG1 (i:=0) rfl hyc rfl) ?_
   refine za.ld 7 ?_
   refine za.ix 10 ?_
   refine WA.vv 11 rfl (Gv.loadG1 (i:=0) rfl hxc rfl) ?_
   refine WA.pp 12 rfl (Gp.eqI' rfl rfl hxy) ?_
   refine za.move 13 ?_
   refine za.skip 14 ?_
   refine za.skip 16 ?_
   refine za.skip 17 ?_
   refine za.skip 15 ?_
   refine za.skip 18 ?_
   refine za.skip 19 ?_
   refine za.skip 20 ?_
   refine za.pick 21 ?_
   refine za.assign 22 ?_
   refine WA.done kr ?_
   refine WK.un ?_
   refine gom ?_
   refine WC.rt ?_
   exact QF.p1 (.inl rfl) rfl (.tmp rfl) (⟨rfl,rfl,rfl⟩)
 have y12:(c==12)=false:=by simpa using c12
 by_cases c13:c=13
 ·subst c13
  have htk1:2≤sk.length:=htk
  obtain⟨x,hx⟩:∃x,sk[sk.length - 1]? =some x:=⟨_,List.getElem?_eq_getElem (by omega)⟩
  obtain⟨xb,xo,rfl,hxc⟩:=hS.stack.at hx
  have z1:IntKind.i64.wrap ((sk.length:Int) - 1)=((sk.length - 1:Nat):Int):=by rw[wrapI (by omega) (by omega)];omega
  have z2:(0:Int)≤((sk.length - 1:Nat):Int):=by omega
  have z3:((sk.length - 1:Nat):Int)<(sk.length:Int):=by omega
  obtain⟨y,hy⟩:∃y,sk[sk.length - 2]? =some y:=⟨_,List.getElem?_eq_getElem (by omega)⟩
  obtain⟨yb,yo,hye,hyc⟩:=hS.stack.at hy
  cases hye
  have z4:IntKind.i64.wrap ((sk.length:Int) - 2)=((sk.length - 2:Nat):Int):=by rw[wrapI (by omega) (by omega)];omega
  have z5:(0:Int)≤((sk.length - 2:Nat):Int):=by omega
  have z6:((sk.length - 2:Nat):Int)<(sk.length:Int):=by omega
  have he:kindsR w p ((13:Int),(n:Int)) ⟨sr,su,sv,sk⟩ (sk.drop (sk.length - (effC w sv ((13:Int),(n:Int))).1))=(y==x&&y != 0):=by
   rw[show(effC w sv ((13:Int),(n:Int))).1=2 from rfl,drop_two htk1 hy hx];unfold kindsR;simp[allT]
  rw[he]
  cases hxy:(y==x)with
  | true=>
   refine go ?_
   refine WC.draw mixed ?_
   refine za.fa 0 ?_
   refine za.move 2 ?_
   refine WA.pp 3 rfl (Gp.sub' rfl rfl z4) ?_
   refine za.fa 6 ?_
   refine za.move 8 ?_
   refine WA.pp 9 rfl (Gp.sub' rfl rfl z1) ?_
   refine za.ld 1 ?_
   refine za.ix 4 ?_
   refine WA.vv 5 rfl (Gv.loadG1 (i:=0) rfl hyc rfl) ?_
   refine za.ld 7 ?_
   refine za.ix 10 ?_
   refine WA.vv 11 rfl (Gv.loadG1 (i:=0) rfl hxc rfl) ?_
   refine WA.pp 12 rfl (Gp.eqI' rfl rfl hxy) ?_
   refine za.move 13 ?_
   refine za.fa 14 ?_
   refine za.move 16 ?_
   refine WA.pp 17 rfl (Gp.sub' rfl rfl z1) ?_
   refine za.ld 15 ?_
   refine za.ix 18 ?_
   refine WA.vv 19 rfl (Gv.loadG1 (i:=0) rfl hxc rfl) ?_
   refine za.ne 20 ?_
   refine za.pick 21 ?_
   refine za.assign 22 ?_
   refine WA.done kr ?_
   refine WK.un ?_
   refine gom ?_
   refine WC.rt ?_
   exact QF.p1 (.inl rfl) rfl (.tmp rfl) (⟨by simp at hxy;rw[hxy];rfl,rfl,rfl⟩)
  | false=>
   refine go ?_
   refine WC.draw mixed ?_
   refine za.fa 0 ?_
   refine za.move 2 ?_
   refine WA.pp 3 rfl (Gp.sub' rfl rfl z4) ?_
   refine za.fa 6 ?_
   refine za.move 8 ?_
   refine WA.pp 9 rfl (Gp.sub' rfl rfl z1) ?_
   refine za.ld 1 ?_
   refine za.ix 4 ?_
   refine WA.vv 5 rfl (Gv.loadG1 (i:=0) rfl hyc rfl) ?_
   refine za.ld 7 ?_
   refine za.ix 10 ?_
   refine WA.vv 11 rfl (Gv.loadG1 (i:=0) rfl hxc rfl) ?_
   refine WA.pp 12 rfl (Gp.eqI' rfl rfl hxy) ?_
   refine za.move 13 ?_
   refine za.skip 14 ?_
   refine za.skip 16 ?_
   refine za.skip 17 ?_
   refine za.skip 15 ?_
   refine za.skip 18 ?_
   refine za.skip 19 ?_
   refine za.skip 20 ?_
   refine za.pick 21 ?_
   refine za.assign 22 ?_
   refine WA.done kr ?_
   refine WK.un ?_
   refine gom ?_
   refine WC.rt ?_
   exact QF.p1 (.inl rfl) rfl (.tmp rfl) (⟨rfl,rfl,rfl⟩)
 have y13:(c==13)=false:=by simpa using c13
 by_cases c20:c=20
 ·subst c20
  have htk1:2≤sk.length:=htk
  obtain⟨x,hx⟩:∃x,sk[sk.length - 1]? =some x:=⟨_,List.getElem?_eq_getElem (by omega)⟩
  obtain⟨xb,xo,rfl,hxc⟩:=hS.stack.at hx
  have z1:IntKind.i64.wrap ((sk.length:Int) - 1)=((sk.length - 1:Nat):Int):=by rw[wrapI (by omega) (by omega)];omega
  have z2:(0:Int)≤((sk.length - 1:Nat):Int):=by omega
  have z3:((sk.length - 1:Nat):Int)<(sk.length:Int):=by omega
  obtain⟨y,hy⟩:∃y,sk[sk.length - 2]? =some y:=⟨_,List.getElem?_eq_getElem (by omega)⟩
  obtain⟨yb,yo,hye,hyc⟩:=hS.stack.at hy
  cases hye
  have z4:IntKind.i64.wrap ((sk.length:Int) - 2)=((sk.length - 2:Nat):Int):=by rw[wrapI (by omega) (by omega)];omega
  have z5:(0:Int)≤((sk.length - 2:Nat):Int):=by omega
  have z6:((sk.length - 2:Nat):Int)<(sk.length:Int):=by omega
  have he:kindsR w p ((20:Int),(n:Int)) ⟨sr,su,sv,sk⟩ (sk.drop (sk.length - (effC w sv ((20:Int),(n:Int))).1))=(y==3&&x==3):=by
   rw[show(effC w sv ((20:Int),(n:Int))).1=2 from rfl,drop_two htk1 hy hx];unfold kindsR;simp[allT]
  rw[he]
  cases hxy:(y==3)with
  | true=>
   refine gom ?_
   try rw[hxy]
   refine gom ?_
   refine WC.rt ?_
   exact QF.p1 (.inl rfl) rfl (.tmp rfl) (⟨rfl,rfl,rfl⟩)
  | false=>
   refine gom ?_
   try rw[hxy]
   refine gom ?_
   refine WC.rt ?_
   exact QF.p1 (.inl rfl) rfl (.tmp rfl) (⟨rfl,rfl,rfl⟩)
 have y20:(c==20)=false:=by simpa using c20
 by_cases c18:c=18
 ·subst c18
  have htk1:2≤sk.length:=htk
  obtain⟨x,hx⟩:∃x,sk[sk.length - 1]? =some x:=⟨_,List.getElem?_eq_getElem (by omega)⟩
  obtain⟨xb,xo,rfl,hxc⟩:=hS.stack.at hx
  have z1:IntKind.i64.wrap ((sk.length:Int) - 1)=((sk.length - 1:Nat):Int):=by rw[wrapI (by omega) (by omega)];omega
  have z2:(0:Int)≤((sk.length - 1:Nat):Int):=by omega
  have z3:((sk.length - 1:Nat):Int)<(sk.length:Int):=by omega
  obtain⟨y,hy⟩:∃y,sk[sk.length - 2]? =some y:=⟨_,List.getElem?_eq_getElem (by omega)⟩
  obtain⟨yb,yo,hye,hyc⟩:=hS.stack.at hy
  cases hye
  have z4:IntKind.i64.wrap ((sk.length:Int) - 2)=((sk.length - 2:Nat):Int):=by rw[wrapI (by omega) (by omega)];omega
  have z5:(0:Int)≤((sk.length - 2:Nat):Int):=by omega
  have z6:((sk.length - 2:Nat):Int)<(sk.length:Int):=by omega
  have he:kindsR w p ((18:Int),(n:Int)) ⟨sr,su,sv,sk⟩ (sk.drop (sk.length - (effC w sv ((18:Int),(n:Int))).1))=(y==1&&x==1):=by
   rw[show(effC w sv ((18:Int),(n:Int))).1=2 from rfl,drop_two htk1 hy hx];unfold kindsR;simp[allT]
  rw[he]
  cases hxy:(y==1)with
  | true=>
   refine gom ?_
   try rw[hxy]
   refine gom ?_
   refine WC.rt ?_
   exact QF.p1 (.inl rfl) rfl (.tmp rfl) (⟨rfl,rfl,rfl⟩)
  | false=>
   refine gom ?_
   try rw[hxy]
   refine gom ?_
   refine WC.rt ?_
   exact QF.p1 (.inl rfl) rfl (.tmp rfl) (⟨rfl,rfl,rfl⟩)
 have y18:(c==18)=false:=by simpa using c18
 by_cases c19:c=19
 ·subst c19
  have htk1:2≤sk.length:=htk
  obtain⟨x,hx⟩:∃x,sk[sk.length - 1]? =some x:=⟨_,List.getElem?_eq_getElem (by omega)⟩
  obtain⟨xb,xo,rfl,hxc⟩:=hS.stack.at hx
  have z1:IntKind.i64.wrap ((sk.length:Int) - 1)=((sk.length - 1:Nat):Int):=by rw[wrapI (by omega) (by omega)];omega
  have z2:(0:Int)≤((sk.length - 1:Nat):Int):=by omega
  have z3:((sk.length - 1:Nat):Int)<(sk.length:Int):=by omega
  obtain⟨y,hy⟩:∃y,sk[sk.length - 2]? =some y:=⟨_,List.getElem?_eq_getElem (by omega)⟩
  obtain⟨yb,yo,hye,hyc⟩:=hS.stack.at hy
  cases hye
  have z4:IntKind.i64.wrap ((sk.length:Int) - 2)=((sk.length - 2:Nat):Int):=by rw[wrapI (by omega) (by omega)];omega
  have z5:(0:Int)≤((sk.length - 2:Nat):Int):=by omega
  have z6:((sk.length - 2:Nat):Int)<(sk.length:Int):=by omega
  have he:kindsR w p ((19:Int),(n:Int)) ⟨sr,su,sv,sk⟩ (sk.drop (sk.length - (effC w sv ((19:Int),(n:Int))).1))=(y==1&&x==1):=by
   rw[show(effC w sv ((19:Int),(n:Int))).1=2 from rfl,drop_two htk1 hy hx];unfold kindsR;simp[allT]
  rw[he]
  cases hxy:(y==1)with
  | true=>
   refine gom ?_
   try rw[hxy]
   refine gom ?_
   refine WC.rt ?_
   exact QF.p1 (.inl rfl) rfl (.tmp rfl) (⟨rfl,rfl,rfl⟩)
  | false=>
   refine gom ?_
   try rw[hxy]
   refine gom ?_
   refine WC.rt ?_
   exact QF.p1 (.inl rfl) rfl (.tmp rfl) (⟨rfl,rfl,rfl⟩)
 have y19:(c==19)=false:=by simpa using c19
 by_cases c21:c=21
 ·subst c21
  have htk1:2≤sk.length:=htk
  obtain⟨x,hx⟩:∃x,sk[sk.length - 1]? =some x:=⟨_,List.getElem?_eq_getElem (by omega)⟩
  obtain⟨xb,xo,rfl,hxc⟩:=hS.stack.at hx
  have z1:IntKind.i64.wrap ((sk.length:Int) - 1)=((sk.length - 1:Nat):Int):=by rw[wrapI (by omega) (by omega)];omega
  have z2:(0:Int)≤((sk.length - 1:Nat):Int):=by omega
  have z3:((sk.length - 1:Nat):Int)<(sk.length:Int):=by omega
  obtain⟨y,hy⟩:∃y,sk[sk.length - 2]? =some y:=⟨_,List.getElem?_eq_getElem (by omega)⟩
  obtain⟨yb,yo,hye,hyc⟩:=hS.stack.at hy
  cases hye
  have z4:IntKind.i64.wrap ((sk.length:Int) - 2)=((sk.length - 2:Nat):Int):=by rw[wrapI (by omega) (by omega)];omega
  have z5:(0:Int)≤((sk.length - 2:Nat):Int):=by omega
  have z6:((sk.length - 2:Nat):Int)<(sk.length:Int):=by omega
  have he:kindsR w p ((21:Int),(n:Int)) ⟨sr,su,sv,sk⟩ (sk.drop (sk.length - (effC w sv ((21:Int),(n:Int))).1))=(y==1&&x==1):=by
   rw[show(effC w sv ((21:Int),(n:Int))).1=2 from rfl,drop_two htk1 hy hx];unfold kindsR;simp[allT]
  rw[he]
  cases hxy:(y==1)with
  | true=>
   refine gom ?_
   try rw[hxy]
   refine gom ?_
   refine WC.rt ?_
   exact QF.p1 (.inl rfl) rfl (.tmp rfl) (⟨rfl,rfl,rfl⟩)
  | false=>
   refine gom ?_
   try rw[hxy]
   refine gom ?_
   refine WC.rt ?_
   exact QF.p1 (.inl rfl) rfl (.tmp rfl) (⟨rfl,rfl,rfl⟩)
 have y21:(c==21)=false:=by simpa using c21
 by_cases c22:c=22
 ·subst c22
  have htk1:2≤sk.length:=htk
  obtain⟨x,hx⟩:∃x,sk[sk.length - 1]? =some x:=⟨_,List.getElem?_eq_getElem (by omega)⟩
  obtain⟨xb,xo,rfl,hxc⟩:=hS.stack.at hx
  have z1:IntKind.i64.wrap ((sk.length:Int) - 1)=((sk.length - 1:Nat):Int):=by rw[wrapI (by omega) (by omega)];omega
  have z2:(0:Int)≤((sk.length - 1:Nat):Int):=by omega
  have z3:((sk.length - 1:Nat):Int)<(sk.length:Int):=by omega
  obtain⟨y,hy⟩:∃y,sk[sk.length - 2]? =some y:=⟨_,List.getElem?_eq_getElem (by omega)⟩
  obtain⟨yb,yo,hye,hyc⟩:=hS.stack.at hy
  cases hye
  have z4:IntKind.i64.wrap ((sk.length:Int) - 2)=((sk.length - 2:Nat):Int):=by rw[wrapI (by omega) (by omega)];omega
  have z5:(0:Int)≤((sk.length - 2:Nat):Int):=by omega
  have z6:((sk.length - 2:Nat):Int)<(sk.length:Int):=by omega
  have he:kindsR w p ((22:Int),(n:Int)) ⟨sr,su,sv,sk⟩ (sk.drop (sk.length - (effC w sv ((22:Int),(n:Int))).1))=(y==1&&x==1):=by
   rw[show(effC w sv ((22:Int),(n:Int))).1=2 from rfl,drop_two htk1 hy hx];unfold kindsR;simp[allT]
  rw[he]
  cases hxy:(y==1)with
  | true=>
   refine gom ?_
   try rw[hxy]
   refine gom ?_
   refine WC.rt ?_
   exact QF.p1 (.inl rfl) rfl (.tmp rfl) (⟨rfl,rfl,rfl⟩)
  | false=>
   refine gom ?_
   try rw[hxy]
   refine gom ?_
   refine WC.rt ?_
   exact QF.p1 (.inl rfl) rfl (.tmp rfl) (⟨rfl,rfl,rfl⟩)
 have y22:(c==22)=false:=by simpa using c22
 by_cases c23:c=23
 ·subst c23
  have htk1:2≤sk.length:=htk
  obtain⟨x,hx⟩:∃x,sk[sk.length - 1]? =some x:=⟨_,List.getElem?_eq_getElem (by omega)⟩
  obtain⟨xb,xo,rfl,hxc⟩:=hS.stack.at hx
  have z1:IntKind.i64.wrap ((sk.length:Int) - 1)=((sk.length - 1:Nat):Int):=by rw[wrapI (by omega) (by omega)];omega
  have z2:(0:Int)≤((sk.length - 1:Nat):Int):=by omega
  have z3:((sk.length - 1:Nat):Int)<(sk.length:Int):=by omega
  obtain⟨y,hy⟩:∃y,sk[sk.length - 2]? =some y:=⟨_,List.getElem?_eq_getElem (by omega)⟩
  obtain⟨yb,yo,hye,hyc⟩:=hS.stack.at hy
  cases hye
  have z4:IntKind.i64.wrap ((sk.length:Int) - 2)=((sk.length - 2:Nat):Int):=by rw[wrapI (by omega) (by omega)];omega
  have z5:(0:Int)≤((sk.length - 2:Nat):Int):=by omega
  have z6:((sk.length - 2:Nat):Int)<(sk.length:Int):=by omega
  have he:kindsR w p ((23:Int),(n:Int)) ⟨sr,su,sv,sk⟩ (sk.drop (sk.length - (effC w sv ((23:Int),(n:Int))).1))=(y==1&&x==1):=by
   rw[show(effC w sv ((23:Int),(n:Int))).1=2 from rfl,drop_two htk1 hy hx];unfold kindsR;simp[allT]
  rw[he]
  cases hxy:(y==1)with
  | true=>
   refine gom ?_
   try rw[hxy]
   refine gom ?_
   refine WC.rt ?_
   exact QF.p1 (.inl rfl) rfl (.tmp rfl) (⟨rfl,rfl,rfl⟩)
  | false=>
   refine gom ?_
   try rw[hxy]
   refine gom ?_
   refine WC.rt ?_
   exact QF.p1 (.inl rfl) rfl (.tmp rfl) (⟨rfl,rfl,rfl⟩)
 have y23:(c==23)=false:=by simpa using c23
 by_cases c14:c=14
 ·subst c14
  have htk1:2≤sk.length:=htk
  obtain⟨x,hx⟩:∃x,sk[sk.length - 1]? =some x:=⟨_,List.getElem?_eq_getElem (by omega)⟩
  obtain⟨xb,xo,rfl,hxc⟩:=hS.stack.at hx
  have z1:IntKind.i64.wrap ((sk.length:Int) - 1)=((sk.length - 1:Nat):Int):=by rw[wrapI (by omega) (by omega)];omega
  have z2:(0:Int)≤((sk.length - 1:Nat):Int):=by omega
  have z3:((sk.length - 1:Nat):Int)<(sk.length:Int):=by omega
  obtain⟨y,hy⟩:∃y,sk[sk.length - 2]? =some y:=⟨_,List.getElem?_eq_getElem (by omega)⟩
  obtain⟨yb,yo,hye,hyc⟩:=hS.stack.at hy
  cases hye
  have z4:IntKind.i64.wrap ((sk.length:Int) - 2)=((sk.length - 2:Nat):Int):=by rw[wrapI (by omega) (by omega)];omega
  have z5:(0:Int)≤((sk.length - 2:Nat):Int):=by omega
  have z6:((sk.length - 2:Nat):Int)<(sk.length:Int):=by omega
  have he:kindsR w p ((14:Int),(n:Int)) ⟨sr,su,sv,sk⟩ (sk.drop (sk.length - (effC w sv ((14:Int),(n:Int))).1))=(y==x&&(x==1 || x==3)):=by
   rw[show(effC w sv ((14:Int),(n:Int))).1=2 from rfl,drop_two htk1 hy hx];unfold kindsR;exact kinds_rel x y
  rw[he]
  cases hxy:(y==x)with
  | false=>
   refine go ?_
   refine WC.draw mixed ?_
   refine za.fa 0 ?_
   refine za.move 2 ?_
   refine WA.pp 3 rfl (Gp.sub' rfl rfl z4) ?_
   refine za.fa 6 ?_
   refine za.move 8 ?_
   refine WA.pp 9 rfl (Gp.sub' rfl rfl z1) ?_
   refine za.ld 1 ?_
   refine za.ix 4 ?_
   refine WA.vv 5 rfl (Gv.loadG1 (i:=0) rfl hyc rfl) ?_
   refine za.ld 7 ?_
   refine za.ix 10 ?_
   refine WA.vv 11 rfl (Gv.loadG1 (i:=0) rfl hxc rfl) ?_
   refine WA.pp 12 rfl (Gp.eqI' rfl rfl hxy) ?_
   refine za.move 13 ?_
   refine za.skip 14 ?_
   refine za.skip 16 ?_
   refine za.skip 17 ?_
   refine za.skip 15 ?_
   refine za.skip 18 ?_
   refine za.skip 19 ?_
   refine za.skip 20 ?_
   refine za.skip 21 ?_
   refine za.skip 22 ?_
   refine za.skip 24 ?_
   refine za.skip 25 ?_
   refine za.skip 23 ?_
   refine za.skip 26 ?_
   refine za.skip 27 ?_
   refine za.skip 28 ?_
   refine za.skip 29 ?_
   refine za.pick 30 ?_
   refine za.assign 31 ?_
   refine WA.done kr ?_
   refine WK.un ?_
   refine gom ?_
   refine WC.rt ?_
   exact QF.p1 (.inl rfl) rfl (.tmp rfl) (⟨rfl,rfl,rfl⟩)
  | true=>
  cases hx1:(x==1)with
  | true=>
   refine go ?_
   refine WC.draw mixed ?_
   refine za.fa 0 ?_
   refine za.move 2 ?_
   refine WA.pp 3 rfl (Gp.sub' rfl rfl z4) ?_
   refine za.fa 6 ?_
   refine za.move 8 ?_
   refine WA.pp 9 rfl (Gp.sub' rfl rfl z1) ?_
   refine za.ld 1 ?_
   refine za.ix 4 ?_
   refine WA.vv 5 rfl (Gv.loadG1 (i:=0) rfl hyc rfl) ?_
   refine za.ld 7 ?_
   refine za.ix 10 ?_
   refine WA.vv 11 rfl (Gv.loadG1 (i:=0) rfl hxc rfl) ?_
   refine WA.pp 12 rfl (Gp.eqI' rfl rfl hxy) ?_
   refine za.move 13 ?_
   refine za.fa 14 ?_
   refine za.move 16 ?_
   refine WA.pp 17 rfl (Gp.sub' rfl rfl z1) ?_
   refine za.ld 15 ?_
   refine za.ix 18 ?_
   refine WA.vv 19 rfl (Gv.loadG1 (i:=0) rfl hxc rfl) ?_
   refine WA.pp 20 rfl (Gp.eqI' rfl rfl hx1) ?_
   refine za.move 21 ?_
   refine za.skip 22 ?_
   refine za.skip 24 ?_
   refine za.skip 25 ?_
   refine za.skip 23 ?_
   refine za.skip 26 ?_
   refine za.skip 27 ?_
   refine za.skip 28 ?_
   refine za.pick 29 ?_
   refine za.pick 30 ?_
   refine za.assign 31 ?_
   refine WA.done kr ?_
   refine WK.un ?_
   refine gom ?_
   refine WC.rt ?_
   exact QF.p1 (.inl rfl) rfl (.tmp rfl) (⟨rfl,rfl,rfl⟩)
  | false=>
   refine go ?_
   refine WC.draw mixed ?_
   refine za.fa 0 ?_
   refine za.move 2 ?_
   refine WA.pp 3 rfl (Gp.sub' rfl rfl z4) ?_
   refine za.fa 6 ?_
   refine za.move 8 ?_
   refine WA.pp 9 rfl (Gp.sub' rfl rfl z1) ?_
   refine za.ld 1 ?_
   refine za.ix 4 ?_
   refine WA.vv 5 rfl (Gv.loadG1 (i:=0) rfl hyc rfl) ?_
   refine za.ld 7 ?_
   refine za.ix 10 ?_
   refine WA.vv 11 rfl (Gv.loadG1 (i:=0) rfl hxc rfl) ?_
   refine WA.pp 12 rfl (Gp.eqI' rfl rfl hxy) ?_
   refine za.move 13 ?_
   refine za.fa 14 ?_
   refine za.move 16 ?_
   refine WA.pp 17 rfl (Gp.sub' rfl rfl z1) ?_
   refine za.ld 15 ?_
   refine za.ix 18 ?_
   refine WA.vv 19 rfl (Gv.loadG1 (i:=0) rfl hxc rfl) ?_
   refine WA.pp 20 rfl (Gp.eqI' rfl rfl hx1) ?_
   refine za.move 21 ?_
   refine za.fa 22 ?_
   refine za.move 24 ?_
   refine WA.pp 25 rfl (Gp.sub' rfl rfl z1) ?_
   refine za.ld 23 ?_
   refine za.ix 26 ?_
   refine WA.vv 27 rfl (Gv.loadG1 (i:=0) rfl hxc rfl) ?_
   refine za.eq 28 ?_
   refine za.pick 29 ?_
   refine za.pick 30 ?_
   refine za.assign 31 ?_
   refine WA.done kr ?_
   refine WK.un ?_
   refine gom ?_
   refine WC.rt ?_
   exact QF.p1 (.inl rfl) rfl (.tmp rfl) (⟨rfl,rfl,rfl⟩)
 have y14:(c==14)=false:=by simpa using c14
 by_cases c15:c=15
 ·subst c15
  have htk1:2≤sk.length:=htk
  obtain⟨x,hx⟩:∃x,sk[sk.length - 1]? =some x:=⟨_,List.getElem?_eq_getElem (by omega)⟩
  obtain⟨xb,xo,rfl,hxc⟩:=hS.stack.at hx
  have z1:IntKind.i64.wrap ((sk.length:Int) - 1)=((sk.length - 1:Nat):Int):=by rw[wrapI (by omega) (by omega)];omega
  have z2:(0:Int)≤((sk.length - 1:Nat):Int):=by omega
  have z3:((sk.length - 1:Nat):Int)<(sk.length:Int):=by omega
  obtain⟨y,hy⟩:∃y,sk[sk.length - 2]? =some y:=⟨_,List.getElem?_eq_getElem (by omega)⟩
  obtain⟨yb,yo,hye,hyc⟩:=hS.stack.at hy
  cases hye
  have z4:IntKind.i64.wrap ((sk.length:Int) - 2)=((sk.length - 2:Nat):Int):=by rw[wrapI (by omega) (by omega)];omega
  have z5:(0:Int)≤((sk.length - 2:Nat):Int):=by omega
  have z6:((sk.length - 2:Nat):Int)<(sk.length:Int):=by omega
  have he:kindsR w p ((15:Int),(n:Int)) ⟨sr,su,sv,sk⟩ (sk.drop (sk.length - (effC w sv ((15:Int),(n:Int))).1))=(y==x&&(x==1 || x==3)):=by
   rw[show(effC w sv ((15:Int),(n:Int))).1=2 from rfl,drop_two htk1 hy hx];unfold kindsR;exact kinds_rel x y
  rw[he]
  cases hxy:(y==x)with
  | false=>
   refine go ?_
   refine WC.draw mixed ?_
   refine za.fa 0 ?_
   refine za.move 2 ?_
   refine WA.pp 3 rfl (Gp.sub' rfl rfl z4) ?_
   refine za.fa 6 ?_
   refine za.move 8 ?_
   refine WA.pp 9 rfl (Gp.sub' rfl rfl z1) ?_
   refine za.ld 1 ?_
   refine za.ix 4 ?_
   refine WA.vv 5 rfl (Gv.loadG1 (i:=0) rfl hyc rfl) ?_
   refine za.ld 7 ?_
   refine za.ix 10 ?_
   refine WA.vv 11 rfl (Gv.loadG1 (i:=0) rfl hxc rfl) ?_
   refine WA.pp 12 rfl (Gp.eqI' rfl rfl hxy) ?_
   refine za.move 13 ?_
   refine za.skip 14 ?_
   refine za.skip 16 ?_
   refine za.skip 17 ?_
   refine za.skip 15 ?_
   refine za.skip 18 ?_
   refine za.skip 19 ?_
   refine za.skip 20 ?_
   refine za.skip 21 ?_
   refine za.skip 22 ?_
   refine za.skip 24 ?_
   refine za.skip 25 ?_
   refine za.skip 23 ?_
   refine za.skip 26 ?_
   refine za.skip 27 ?_
   refine za.skip 28 ?_
   refine za.skip 29 ?_
   refine za.pick 30 ?_
   refine za.assign 31 ?_
   refine WA.done kr ?_
   refine WK.un ?_
   refine gom ?_
   refine WC.rt ?_
   exact QF.p1 (.inl rfl) rfl (.tmp rfl) (⟨rfl,rfl,rfl⟩)
  | true=>
  cases hx1:(x==1)with
  | true=>
   refine go ?_
   refine WC.draw mixed ?_
   refine za.fa 0 ?_
   refine za.move 2 ?_
   refine WA.pp 3 rfl (Gp.sub' rfl rfl z4) ?_
   refine za.fa 6 ?_
   refine za.move 8 ?_
   refine WA.pp 9 rfl (Gp.sub' rfl rfl z1) ?_
   refine za.ld 1 ?_
   refine za.ix 4 ?_
   refine WA.vv 5 rfl (Gv.loadG1 (i:=0) rfl hyc rfl) ?_
   refine za.ld 7 ?_
   refine za.ix 10 ?_
   refine WA.vv 11 rfl (Gv.loadG1 (i:=0) rfl hxc rfl) ?_
   refine WA.pp 12 rfl (Gp.eqI' rfl rfl hxy) ?_
   refine za.move 13 ?_
   refine za.fa 14 ?_
   refine za.move 16 ?_
   refine WA.pp 17 rfl (Gp.sub' rfl rfl z1) ?_
   refine za.ld 15 ?_
   refine za.ix 18 ?_
   refine WA.vv 19 rfl (Gv.loadG1 (i:=0) rfl hxc rfl) ?_
   refine WA.pp 20 rfl (Gp.eqI' rfl rfl hx1) ?_
   refine za.move 21 ?_
   refine za.skip 22 ?_
   refine za.skip 24 ?_
   refine za.skip 25 ?_
   refine za.skip 23 ?_
   refine za.skip 26 ?_
   refine za.skip 27 ?_
   refine za.skip 28 ?_
   refine za.pick 29 ?_
   refine za.pick 30 ?_
   refine za.assign 31 ?_
   refine WA.done kr ?_
   refine WK.un ?_
   refine gom ?_
   refine WC.rt ?_
   exact QF.p1 (.inl rfl) rfl (.tmp rfl) (⟨rfl,rfl,rfl⟩)
  | false=>
   refine go ?_
   refine WC.draw mixed ?_
   refine za.fa 0 ?_
   refine za.move 2 ?_
   refine WA.pp 3 rfl (Gp.sub' rfl rfl z4) ?_
   refine za.fa 6 ?_
   refine za.move 8 ?_
   refine WA.pp 9 rfl (Gp.sub' rfl rfl z1) ?_
   refine za.ld 1 ?_
   refine za.ix 4 ?_
   refine WA.vv 5 rfl (Gv.loadG1 (i:=0) rfl hyc rfl) ?_
   refine za.ld 7 ?_
   refine za.ix 10 ?_
   refine WA.vv 11 rfl (Gv.loadG1 (i:=0) rfl hxc rfl) ?_
   refine WA.pp 12 rfl (Gp.eqI' rfl rfl hxy) ?_
   refine za.move 13 ?_
   refine za.fa 14 ?_
   refine za.move 16 ?_
   refine WA.pp 17 rfl (Gp.sub' rfl rfl z1) ?_
   refine za.ld 15 ?_
   refine za.ix 18 ?_
   refine WA.vv 19 rfl (Gv.loadG1 (i:=0) rfl hxc rfl) ?_
   refine WA.pp 20 rfl (Gp.eqI' rfl rfl hx1) ?_
   refine za.move 21 ?_
   refine za.fa 22 ?_
   refine za.move 24 ?_
   refine WA.pp 25 rfl (Gp.sub' rfl rfl z1) ?_
   refine za.ld 23 ?_
   refine za.ix 26 ?_
   refine WA.vv 27 rfl (Gv.loadG1 (i:=0) rfl hxc rfl) ?_
   refine za.eq 28 ?_
   refine za.pick 29 ?_
   refine za.pick 30 ?_
   refine za.assign 31 ?_
   refine WA.done kr ?_
   refine WK.un ?_
   refine gom ?_
   refine WC.rt ?_
   exact QF.p1 (.inl rfl) rfl (.tmp rfl) (⟨rfl,rfl,rfl⟩)
 have y15:(c==15)=false:=by simpa using c15
 by_cases c16:c=16
 ·subst c16
  have htk1:2≤sk.length:=htk
  obtain⟨x,hx⟩:∃x,sk[sk.length - 1]? =some x:=⟨_,List.getElem?_eq_getElem (by omega)⟩
  obtain⟨xb,xo,rfl,hxc⟩:=hS.stack.at hx
  have z1:IntKind.i64.wrap ((sk.length:Int) - 1)=((sk.length - 1:Nat):Int):=by rw[wrapI (by omega) (by omega)];omega
  have z2:(0:Int)≤((sk.length - 1:Nat):Int):=by omega
  have z3:((sk.length - 1:Nat):Int)<(sk.length:Int):=by omega
  obtain⟨y,hy⟩:∃y,sk[sk.length - 2]? =some y:=⟨_,List.getElem?_eq_getElem (by omega)⟩
  obtain⟨yb,yo,hye,hyc⟩:=hS.stack.at hy
  cases hye
  have z4:IntKind.i64.wrap ((sk.length:Int) - 2)=((sk.length - 2:Nat):Int):=by rw[wrapI (by omega) (by omega)];omega
  have z5:(0:Int)≤((sk.length - 2:Nat):Int):=by omega
  have z6:((sk.length - 2:Nat):Int)<(sk.length:Int):=by omega
  have he:kindsR w p ((16:Int),(n:Int)) ⟨sr,su,sv,sk⟩ (sk.drop (sk.length - (effC w sv ((16:Int),(n:Int))).1))=(y==x&&(x==1 || x==3)):=by
   rw[show(effC w sv ((16:Int),(n:Int))).1=2 from rfl,drop_two htk1 hy hx];unfold kindsR;exact kinds_rel x y
  rw[he]
  cases hxy:(y==x)with
  | false=>
   refine go ?_
   refine WC.draw mixed ?_
   refine za.fa 0 ?_
   refine za.move 2 ?_
   refine WA.pp 3 rfl (Gp.sub' rfl rfl z4) ?_
   refine za.fa 6 ?_
   refine za.move 8 ?_
   refine WA.pp 9 rfl (Gp.sub' rfl rfl z1) ?_
   refine za.ld 1 ?_
   refine za.ix 4 ?_
   refine WA.vv 5 rfl (Gv.loadG1 (i:=0) rfl hyc rfl) ?_
   refine za.ld 7 ?_
   refine za.ix 10 ?_
   refine WA.vv 11 rfl (Gv.loadG1 (i:=0) rfl hxc rfl) ?_
   refine WA.pp 12 rfl (Gp.eqI' rfl rfl hxy) ?_
   refine za.move 13 ?_
   refine za.skip 14 ?_
   refine za.skip 16 ?_
   refine za.skip 17 ?_
   refine za.skip 15 ?_
   refine za.skip 18 ?_
   refine za.skip 19 ?_
   refine za.skip 20 ?_
   refine za.skip 21 ?_
   refine za.skip 22 ?_
   refine za.skip 24 ?_
   refine za.skip 25 ?_
   refine za.skip 23 ?_
   refine za.skip 26 ?_
   refine za.skip 27 ?_
   refine za.skip 28 ?_
   refine za.skip 29 ?_
   refine za.pick 30 ?_
   refine za.assign 31 ?_
   refine WA.done kr ?_
   refine WK.un ?_
   refine gom ?_
   refine WC.rt ?_
   exact QF.p1 (.inl rfl) rfl (.tmp rfl) (⟨rfl,rfl,rfl⟩)
  | true=>
  cases hx1:(x==1)with
  | true=>
   refine go ?_
   refine WC.draw mixed ?_
   refine za.fa 0 ?_
   refine za.move 2 ?_
   refine WA.pp 3 rfl (Gp.sub' rfl rfl z4) ?_
   refine za.fa 6 ?_
   refine za.move 8 ?_
   refine WA.pp 9 rfl (Gp.sub' rfl rfl z1) ?_
   refine za.ld 1 ?_
   refine za.ix 4 ?_
   refine WA.vv 5 rfl (Gv.loadG1 (i:=0) rfl hyc rfl) ?_
   refine za.ld 7 ?_
   refine za.ix 10 ?_
   refine WA.vv 11 rfl (Gv.loadG1 (i:=0) rfl hxc rfl) ?_
   refine WA.pp 12 rfl (Gp.eqI' rfl rfl hxy) ?_
   refine za.move 13 ?_
   refine za.fa 14 ?_
   refine za.move 16 ?_
   refine WA.pp 17 rfl (Gp.sub' rfl rfl z1) ?_
   refine za.ld 15 ?_
   refine za.ix 18 ?_
   refine WA.vv 19 rfl (Gv.loadG1 (i:=0) rfl hxc rfl) ?_
   refine WA.pp 20 rfl (Gp.eqI' rfl rfl hx1) ?_
   refine za.move 21 ?_
   refine za.skip 22 ?_
   refine za.skip 24 ?_
   refine za.skip 25 ?_
   refine za.skip 23 ?_
   refine za.skip 26 ?_
   refine za.skip 27 ?_
   refine za.skip 28 ?_
   refine za.pick 29 ?_
   refine za.pick 30 ?_
   refine za.assign 31 ?_
   refine WA.done kr ?_
   refine WK.un ?_
   refine gom ?_
   refine WC.rt ?_
   exact QF.p1 (.inl rfl) rfl (.tmp rfl) (⟨rfl,rfl,rfl⟩)
  | false=>
   refine go ?_
   refine WC.draw mixed ?_
   refine za.fa 0 ?_
   refine za.move 2 ?_
   refine WA.pp 3 rfl (Gp.sub' rfl rfl z4) ?_
   refine za.fa 6 ?_
   refine za.move 8 ?_
   refine WA.pp 9 rfl (Gp.sub' rfl rfl z1) ?_
   refine za.ld 1 ?_
   refine za.ix 4 ?_
   refine WA.vv 5 rfl (Gv.loadG1 (i:=0) rfl hyc rfl) ?_
   refine za.ld 7 ?_
   refine za.ix 10 ?_
   refine WA.vv 11 rfl (Gv.loadG1 (i:=0) rfl hxc rfl) ?_
   refine WA.pp 12 rfl (Gp.eqI' rfl rfl hxy) ?_
   refine za.move 13 ?_
   refine za.fa 14 ?_
   refine za.move 16 ?_
   refine WA.pp 17 rfl (Gp.sub' rfl rfl z1) ?_
   refine za.ld 15 ?_
   refine za.ix 18 ?_
   refine WA.vv 19 rfl (Gv.loadG1 (i:=0) rfl hxc rfl) ?_
   refine WA.pp 20 rfl (Gp.eqI' rfl rfl hx1) ?_
   refine za.move 21 ?_
   refine za.fa 22 ?_
   refine za.move 24 ?_
   refine WA.pp 25 rfl (Gp.sub' rfl rfl z1) ?_
   refine za.ld 23 ?_
   refine za.ix 26 ?_
   refine WA.vv 27 rfl (Gv.loadG1 (i:=0) rfl hxc rfl) ?_
   refine za.eq 28 ?_
   refine za.pick 29 ?_
   refine za.pick 30 ?_
   refine za.assign 31 ?_
   refine WA.done kr ?_
   refine WK.un ?_
   refine gom ?_
   refine WC.rt ?_
   exact QF.p1 (.inl rfl) rfl (.tmp rfl) (⟨rfl,rfl,rfl⟩)
 have y16:(c==16)=false:=by simpa using c16
 by_cases c17:c=17
 ·subst c17
  have htk1:2≤sk.length:=htk
  obtain⟨x,hx⟩:∃x,sk[sk.length - 1]? =some x:=⟨_,List.getElem?_eq_getElem (by omega)⟩
  obtain⟨xb,xo,rfl,hxc⟩:=hS.stack.at hx
  have z1:IntKind.i64.wrap ((sk.length:Int) - 1)=((sk.length - 1:Nat):Int):=by rw[wrapI (by omega) (by omega)];omega
  have z2:(0:Int)≤((sk.length - 1:Nat):Int):=by omega
  have z3:((sk.length - 1:Nat):Int)<(sk.length:Int):=by omega
  obtain⟨y,hy⟩:∃y,sk[sk.length - 2]? =some y:=⟨_,List.getElem?_eq_getElem (by omega)⟩
  obtain⟨yb,yo,hye,hyc⟩:=hS.stack.at hy
  cases hye
  have z4:IntKind.i64.wrap ((sk.length:Int) - 2)=((sk.length - 2:Nat):Int):=by rw[wrapI (by omega) (by omega)];omega
  have z5:(0:Int)≤((sk.length - 2:Nat):Int):=by omega
  have z6:((sk.length - 2:Nat):Int)<(sk.length:Int):=by omega
  have he:kindsR w p ((17:Int),(n:Int)) ⟨sr,su,sv,sk⟩ (sk.drop (sk.length - (effC w sv ((17:Int),(n:Int))).1))=(y==x&&(x==1 || x==3)):=by
   rw[show(effC w sv ((17:Int),(n:Int))).1=2 from rfl,drop_two htk1 hy hx];unfold kindsR;exact kinds_rel x y
  rw[he]
  cases hxy:(y==x)with
  | false=>
   refine go ?_
   refine WC.draw mixed ?_
   refine za.fa 0 ?_
   refine za.move 2 ?_
   refine WA.pp 3 rfl (Gp.sub' rfl rfl z4) ?_
   refine za.fa 6 ?_
   refine za.move 8 ?_
   refine WA.pp 9 rfl (Gp.sub' rfl rfl z1) ?_
   refine za.ld 1 ?_
   refine za.ix 4 ?_
   refine WA.vv 5 rfl (Gv.loadG1 (i:=0) rfl hyc rfl) ?_
   refine za.ld 7 ?_
   refine za.ix 10 ?_
   refine WA.vv 11 rfl (Gv.loadG1 (i:=0) rfl hxc rfl) ?_
   refine WA.pp 12 rfl (Gp.eqI' rfl rfl hxy) ?_
   refine za.move 13 ?_
   refine za.skip 14 ?_
   refine za.skip 16 ?_
   refine za.skip 17 ?_
   refine za.skip 15 ?_
   refine za.skip 18 ?_
   refine za.skip 19 ?_
   refine za.skip 20 ?_
   refine za.skip 21 ?_
   refine za.skip 22 ?_
   refine za.skip 24 ?_
   refine za.skip 25 ?_
   refine za.skip 23 ?_
   refine za.skip 26 ?_
   refine za.skip 27 ?_
   refine za.skip 28 ?_
   refine za.skip 29 ?_
   refine za.pick 30 ?_
   refine za.assign 31 ?_
   refine WA.done kr ?_
   refine WK.un ?_
   refine gom ?_
   refine WC.rt ?_
   exact QF.p1 (.inl rfl) rfl (.tmp rfl) (⟨rfl,rfl,rfl⟩)
  | true=>
  cases hx1:(x==1)with
  | true=>
   refine go ?_
   refine WC.draw mixed ?_
   refine za.fa 0 ?_
   refine za.move 2 ?_
   refine WA.pp 3 rfl (Gp.sub' rfl rfl z4) ?_
   refine za.fa 6 ?_
   refine za.move 8 ?_
   refine WA.pp 9 rfl (Gp.sub' rfl rfl z1) ?_
   refine za.ld 1 ?_
   refine za.ix 4 ?_
   refine WA.vv 5 rfl (Gv.loadG1 (i:=0) rfl hyc rfl) ?_
   refine za.ld 7 ?_
   refine za.ix 10 ?_
   refine WA.vv 11 rfl (Gv.loadG1 (i:=0) rfl hxc rfl) ?_
   refine WA.pp 12 rfl (Gp.eqI' rfl rfl hxy) ?_
   refine za.move 13 ?_
   refine za.fa 14 ?_
   refine za.move 16 ?_
   refine WA.pp 17 rfl (Gp.sub' rfl rfl z1) ?_
   refine za.ld 15 ?_
   refine za.ix 18 ?_
   refine WA.vv 19 rfl (Gv.loadG1 (i:=0) rfl hxc rfl) ?_
   refine WA.pp 20 rfl (Gp.eqI' rfl rfl hx1) ?_
   refine za.move 21 ?_
   refine za.skip 22 ?_
   refine za.skip 24 ?_
   refine za.skip 25 ?_
   refine za.skip 23 ?_
   refine za.skip 26 ?_
   refine za.skip 27 ?_
   refine za.skip 28 ?_
   refine za.pick 29 ?_
   refine za.pick 30 ?_
   refine za.assign 31 ?_
   refine WA.done kr ?_
   refine WK.un ?_
   refine gom ?_
   refine WC.rt ?_
   exact QF.p1 (.inl rfl) rfl (.tmp rfl) (⟨rfl,rfl,rfl⟩)
  | false=>
   refine go ?_
   refine WC.draw mixed ?_
   refine za.fa 0 ?_
   refine za.move 2 ?_
   refine WA.pp 3 rfl (Gp.sub' rfl rfl z4) ?_
   refine za.fa 6 ?_
   refine za.move 8 ?_
   refine WA.pp 9 rfl (Gp.sub' rfl rfl z1) ?_
   refine za.ld 1 ?_
   refine za.ix 4 ?_
   refine WA.vv 5 rfl (Gv.loadG1 (i:=0) rfl hyc rfl) ?_
   refine za.ld 7 ?_
   refine za.ix 10 ?_
   refine WA.vv 11 rfl (Gv.loadG1 (i:=0) rfl hxc rfl) ?_
   refine WA.pp 12 rfl (Gp.eqI' rfl rfl hxy) ?_
   refine za.move 13 ?_
   refine za.fa 14 ?_
   refine za.move 16 ?_
   refine WA.pp 17 rfl (Gp.sub' rfl rfl z1) ?_
   refine za.ld 15 ?_
   refine za.ix 18 ?_
   refine WA.vv 19 rfl (Gv.loadG1 (i:=0) rfl hxc rfl) ?_
   refine WA.pp 20 rfl (Gp.eqI' rfl rfl hx1) ?_
   refine za.move 21 ?_
   refine za.fa 22 ?_
   refine za.move 24 ?_
   refine WA.pp 25 rfl (Gp.sub' rfl rfl z1) ?_
   refine za.ld 23 ?_
   refine za.ix 26 ?_
   refine WA.vv 27 rfl (Gv.loadG1 (i:=0) rfl hxc rfl) ?_
   refine za.eq 28 ?_
   refine za.pick 29 ?_
   refine za.pick 30 ?_
   refine za.assign 31 ?_
   refine WA.done kr ?_
   refine WK.un ?_
   refine gom ?_
   refine WC.rt ?_
   exact QF.p1 (.inl rfl) rfl (.tmp rfl) (⟨rfl,rfl,rfl⟩)
 have y17:(c==17)=false:=by simpa using c17
 have he:kindsR w p (c,(n:Int)) ⟨sr,su,sv,sk⟩ (sk.drop (sk.length - (effC w sv (c,(n:Int))).1))=true:=by
  unfold kindsR
  rw[if_neg c2,if_neg (by simp[c3,c11]),if_neg (by simp[c6,c25]),if_neg c7,if_neg c8,if_neg c10,if_neg (by simp[c12,c13]),if_neg (by omega),if_neg (by simp[c20,c26]),if_neg (by omega)]
 rw[he]
 refine gom ?_
 refine WC.rt ?_
 exact QF.p1 (.inl rfl) rfl (.tmp rfl) (⟨rfl,rfl,rfl⟩)
end
end
section
open Go.MapKept
attribute [local irreducible] Tryz.prog
theorem any_onwR (i:Int×Int) (k:Nat) (f:Int→Bool):(onwR i k).any f=(nextR i k).any f:=by
 rw[Bool.eq_iff_iff,List.any_eq_true,List.any_eq_true]
 constructor
 ·rintro ⟨x,h,h'⟩;exact⟨x,(mem_onwR i k x).1 h,h'⟩
 ·rintro ⟨x,h,h'⟩;exact⟨x,(mem_onwR i k x).2 h,h'⟩
theorem onwR_len (i:Int×Int) (k:Nat):(onwR i k).length≤2:=by
 unfold onwR
 split
 ·simp
 split
 ·simp
 split<;>simp
section
variable (G:Gh) (w:Wd) (p:Pr) (CA NA PA:Option Addr) (cc nc pc:Nat) (hW:RWp G w CA NA PA) (QA IA:Option Addr) (qc ic:Nat) (hC:Sl Kd.ins G IA p.code) (hfew:p.code.length≤100000000000)
include hW hC hfew
set_option maxHeartbeats 4000000 in
theorem rmet_fn (s:SS) (VA:Option Addr) (vc:Nat) (SA:Option Addr) (sc:Nat) (hS:SRep G s VA vc SA sc) (hv:s.vars.length≤1000000000) (hk:s.stack.length≤1000000000) (k:Nat) (hkk:k≤1000000000) (c:Int) (n:Nat) (hi:p.code[k]? =some (c,(n:Int))) (ho:s.reached=true→EOk w s.vars.length c n):
  Fn Tryz.prog 149 #[.agg (wdC w CA NA PA cc nc pc), .agg (prC p QA qc IA ic), .int .i64 (k:Int),rsV s VA vc SA sc] G []
   fun e G' H'=>e= .returned (.int .i64 (if s.reached=true then metR w p k (c,n) s else 0))∧G.le G'∧H'=[]:=by
 have htk:=hW.takes (cc:=cc) (nc:=nc) (pc:=pc) s.vars (c,n)
 have hly:=effC_lays w s.vars (c,n)
 have hsc:=hS.hs
 refine Fn.enter Tryz.func149 rfl rfl fun w0=>?_
 obtain⟨sr,su,sv,sk⟩:=s
 dsimp only at hv hk ho htk hly hsc⊢
 obtain⟨ib,io,ics,rfl,hik,hic⟩:=hC k _ hi
 obtain rfl:ics=[.int .i64 c, .int .i64 n]:=hik
 have hkl:=(List.getElem?_eq_some_iff.1 hi).1
 have z0:(0:Int)≤(k:Int):=by omega
 have z1:(k:Int)<(p.code.length:Int):=by omega
 refine WC.seq ?_
 refine WC.region ?_
 refine WL.oo (OW.box rfl rfl fun b1=>?_)
 refine WL.oo (OW.box rfl rfl fun b2=>?_)
 refine WL.oo (OW.box rfl rfl fun b3=>?_)
 cases sr with
 | false=>
  refine gom ?_
  refine WC.rt ?_
  exact QF.p1 (.inl rfl) rfl (.tmp rfl) (⟨rfl,Gh.le_refl _,rfl⟩)
 | true=>
 replace ho:=ho rfl
 rw[if_pos rfl]
 refine gom ?_
 refine WL.oo (OW.alloc rfl fun b5=>?_)
 refine gom ?_
 refine WL.oo (OW.callK rfl (ronwards_fn _ c n k hkk) rfl fun v' G' H' h hg=>?_)
 obtain⟨XA,xcap,he,hg5,hx5,rfl⟩:=h
 cases he
 obtain⟨nx,hnx⟩:∃nx,nx=onwR (c,(n:Int)) k:=⟨_,rfl⟩
 have hmet:metR w p k (c,(n:Int)) ⟨true,su,sv,sk⟩=if nx.any (fun x=>decide ((p.code.length:Int)≤x))then 183
   else if badS w (c,(n:Int)) ⟨true,su,sv,sk⟩then 181
   else if(c=9∧p.result≠0)∨(c=10∧p.result=0)then 181
   else if kindsR w p (c,(n:Int)) ⟨true,su,sv,sk⟩ (sk.drop (sk.length - (effC w sv (c,(n:Int))).1))=false then 184 else 0:=by rw[hnx,any_onwR];rfl
 have hnxl:nx.length≤2:=by rw[hnx];exact onwR_len _ _
 rw[←hnx]at hx5⊢
 refine gom ?_
 refine WC.pick [.blk b5 (.cells #[.int .i64 c, .int .i64 n] 50 (0,0)), .blk b1 (.cells (wdC w CA NA PA cc nc pc) 162 (0,0)), .blk b2 (.cells (prC p QA qc (some ⟨ib,io,none⟩) ic) 47 (0,0)), .blk b3 (.cells #[.bool true, .slice VA sv.length vc, .bool su, .slice SA sk.length sc] 220 (0,0))] ?_
 refine WC.loop (X:=Nat) (fun j=>[(4, .pointer (some ⟨b1,0,none⟩)),(5, .pointer (some ⟨b2,0,none⟩)),(7, .pointer (some ⟨b3,0,none⟩)),(9, .pointer (some ⟨b5,0,none⟩)),(10, .slice XA nx.length xcap),(11, .int .i64 (j:Int))]) (fun _=>G') (fun _=>[.blk b5 (.cells #[.int .i64 c, .int .i64 n] 50 (0,0)), .blk b1 (.cells (wdC w CA NA PA cc nc pc) 162 (0,0)), .blk b2 (.cells (prC p QA qc (some ⟨ib,io,none⟩) ic) 47 (0,0)), .blk b3 (.cells #[.bool true, .slice VA sv.length vc, .bool su, .slice SA sk.length sc] 220 (0,0))])
  (fun j=>nx.length - j) (fun j=>j≤nx.length∧∀(q:Nat) x,q<j→nx[q]? =some x→x<(p.code.length:Int)) 0 ⟨Nat.zero_le _,fun q x h=>by omega⟩ (by exact⟨rfl,rfl,rfl,rfl,rfl,rfl,trivial⟩) rfl (List.Sublist.refl _) fun j hj=>?_
 obtain⟨hj,hall⟩:=hj
 by_cases hjl:j<nx.length
 ·have y1:decide ((j:Int)<(nx.length:Int))=true:=decide_eq_true (by omega)
  obtain⟨x,hx⟩:∃x,nx[j]? =some x:=⟨_,List.getElem?_eq_getElem hjl⟩
  obtain⟨xb',xo',rfl,hxc⟩:=hx5.at hx
  have w0':(0:Int)≤(j:Int):=by omega
  have w1:(j:Int)<(nx.length:Int):=by omega
  have w2:=wrapS j (by omega)
  by_cases hq:(p.code.length:Int)≤x
  ·have y2:decide ((p.code.length:Int)≤x)=true:=decide_eq_true hq
   have hany:nx.any (fun x=>decide ((p.code.length:Int)≤x))=true:=List.any_eq_true.2 ⟨x,List.mem_of_getElem? hx,y2⟩
   rw[hmet,if_pos hany]
   refine gom ?_
   refine WC.rt ?_
   exact QF.p1 (.inl rfl) rfl (.tmp rfl) (⟨rfl,hg5,rfl⟩)
  ·have y2:decide ((p.code.length:Int)≤x)=false:=decide_eq_false hq
   refine gom ?_
   exact WK.again (j+1) (by omega) ⟨by omega,fun q z hq' hz=>by
    rcases Nat.lt_or_ge q j with h | h
    ·exact hall q z h hz
    ·obtain rfl:q=j:=by omega
     rw[hx]at hz;cases hz;omega⟩ (by exact⟨rfl,rfl,rfl,rfl,rfl,rfl,trivial⟩) rfl (List.Sublist.refl _)
 have y1:decide ((j:Int)<(nx.length:Int))=false:=decide_eq_false (by omega)
 have hany:nx.any (fun x=>decide ((p.code.length:Int)≤x))=false:=by
  rw[List.any_eq_false]
  intro x hx
  obtain⟨q,hq⟩:=List.getElem?_of_mem hx
  have:=hall q x (by have:=(List.getElem?_eq_some_iff.1 hq).1;omega) hq
  simp;omega
 rw[if_neg (by rw[hany];simp)]at hmet
 refine gom ?_
 refine WL.oo (OW.callK rfl (reffect_fn _ w p CA NA PA cc nc pc (hW.mono hg5) QA (some ⟨ib,io,none⟩) qc ic VA sv vc (hS.vars.mono hg5) c n ho) rfl fun v' G' H' h hg=>?_)
 obtain⟨LA,lc,he,hg1,hs1,rfl⟩:=h
 cases he
 have hgl:=Gh.le_trans hg5 hg1
 obtain⟨tk,htke⟩:∃tk,tk=(effC w sv (c,n)).1:=⟨_,rfl⟩
 obtain⟨ly,hlye⟩:∃ly,ly=(effC w sv (c,n)).2:=⟨_,rfl⟩
 rw[←htke]at htk
 rw[←hlye]at hly hs1
 rw[←htke,←hlye]
 refine WL.pick [.blk b5 (.cells #[.int .i64 c, .int .i64 n] 50 (0,0)), .blk b1 (.cells (wdC w CA NA PA cc nc pc) 162 (0,0)), .blk b2 (.cells (prC p QA qc (some ⟨ib,io,none⟩) ic) 47 (0,0)), .blk b3 (.cells #[.bool true, .slice VA sv.length vc, .bool su, .slice SA sk.length sc] 220 (0,0))] ?_
 have y3:IntKind.i64.wrap ((sk.length:Int) - (tk:Int))=(sk.length:Int) - (tk:Int):=wrapI (by omega) (by omega)
 by_cases hb:badS w (c,(n:Int)) ⟨true,su,sv,sk⟩
 ·rw [hmet,if_pos hb]
  have hb':su=true∨(sk.length<tk∨128<sk.length - tk+ly.length):=by unfold badS at hb;rw[htke,hlye];exact hb
  cases su with
  | true=>
   refine gom ?_
   refine WC.rt ?_
   exact QF.p1 (.inl rfl) rfl (.tmp rfl) (⟨rfl,hgl,rfl⟩)
  | false=>
  by_cases h1:sk.length<tk
  ·have y7:decide ((sk.length:Int)<(tk:Int))=true:=decide_eq_true (by omega)
   refine gom ?_
   refine WC.rt ?_
   exact QF.p1 (.inl rfl) rfl (.tmp rfl) (⟨rfl,hgl,rfl⟩)
  ·have y7:decide ((sk.length:Int)<(tk:Int))=false:=decide_eq_false (by omega)
   have h2:128<sk.length - tk+ly.length:=by
    rcases hb' with h | h | h
    ·cases h
    ·exact absurd h h1
    ·exact h
   have y8:IntKind.i64.wrap ((sk.length:Int) - (tk:Int)+(ly.length:Int))=(sk.length:Int) - (tk:Int)+(ly.length:Int):=wrapI (by omega) (by omega)
   have y9:decide ((128:Int)<(sk.length:Int) - (tk:Int)+(ly.length:Int))=true:=decide_eq_true (by omega)
   refine gom ?_
   refine WC.rt ?_
   exact QF.p1 (.inl rfl) rfl (.tmp rfl) (⟨rfl,hgl,rfl⟩)
 rw[if_neg hb]at hmet
 have hb':¬(su=true∨(sk.length<tk∨128<sk.length - tk+ly.length)):=by unfold badS at hb;rw[htke,hlye];exact hb
 have hus:su=false:=by cases h:su with | false=>rfl | true=>exact absurd (.inl h) hb'
 subst hus
 have h1:¬sk.length<tk:=fun h=>hb' (.inr (.inl h))
 have h2:¬128<sk.length - tk+ly.length:=fun h=>hb' (.inr (.inr h))
 have y7:decide ((sk.length:Int)<(tk:Int))=false:=decide_eq_false (by omega)
 have y8:IntKind.i64.wrap ((sk.length:Int) - (tk:Int)+(ly.length:Int))=(sk.length:Int) - (tk:Int)+(ly.length:Int):=wrapI (by omega) (by omega)
 have y9:decide ((128:Int)<(sk.length:Int) - (tk:Int)+(ly.length:Int))=false:=decide_eq_false (by omega)
 by_cases h9:(c=9∧p.result≠0)∨(c=10∧p.result=0)
 ·rw[if_pos h9]at hmet
  rw[hmet]
  rcases h9 with⟨rfl,h9⟩ | ⟨rfl,h9⟩
  ·have hrb:(p.result != 0)=true:=by simpa using h9
   refine gom ?_
   refine WC.rt ?_
   exact QF.p1 (.inl rfl) rfl (.tmp rfl) (⟨rfl,hgl,rfl⟩)
  ·have hrb:(p.result==0)=true:=by simpa using h9
   refine gom ?_
   refine WC.rt ?_
   exact QF.p1 (.inl rfl) rfl (.tmp rfl) (⟨rfl,hgl,rfl⟩)
 rw[if_neg h9]at hmet
 have hkf:=rkinds_fn _ w p CA NA PA cc nc pc (hW.mono hgl) QA (some ⟨ib,io,none⟩) qc ic ⟨true,false,sv,sk⟩ VA vc SA sc (hS.mono hgl) hv hk c n ho (by dsimp only;omega)
 dsimp only at hkf
 by_cases d9:c=9
 ·subst d9
  have hres:p.result=0:=by
   apply Decidable.byContradiction;intro h;exact h9 (.inl ⟨rfl,h⟩)
  have hrb:(p.result != 0)=false:=by rw[hres];rfl
  refine gom ?_
  refine WL.oo (OW.callK rfl (hkf) rfl fun v' G' H' h hg=>?_)
  obtain⟨he,rfl,rfl⟩:=h
  cases he
  cases hb5:kindsR w p ((9:Int),(n:Int)) ⟨true,false,sv,sk⟩ (sk.drop (sk.length - (effC w sv ((9:Int),(n:Int))).1))with
  | true=>
   rw[hb5,if_neg (by simp)]at hmet
   rw[hmet]
   refine gom ?_
   refine WC.rt ?_
   exact QF.p1 (.inl rfl) rfl (.tmp rfl) (⟨rfl,hgl,rfl⟩)
  | false=>
   rw[hb5,if_pos rfl]at hmet
   rw[hmet]
   refine gom ?_
   refine WC.rt ?_
   exact QF.p1 (.inl rfl) rfl (.tmp rfl) (⟨rfl,hgl,rfl⟩)
 have y10:(c==9)=false:=by simpa using d9
 by_cases d10:c=10
 ·subst d10
  have hres:p.result≠0:=fun h=>h9 (.inr ⟨rfl,h⟩)
  have hrb:(p.result==0)=false:=by simpa using hres
  refine gom ?_
  refine WL.oo (OW.callK rfl (hkf) rfl fun v' G' H' h hg=>?_)
  obtain⟨he,rfl,rfl⟩:=h
  cases he
  cases hb5:kindsR w p ((10:Int),(n:Int)) ⟨true,false,sv,sk⟩ (sk.drop (sk.length - (effC w sv ((10:Int),(n:Int))).1))with
  | true=>
   rw[hb5,if_neg (by simp)]at hmet
   rw[hmet]
   refine gom ?_
   refine WC.rt ?_
   exact QF.p1 (.inl rfl) rfl (.tmp rfl) (⟨rfl,hgl,rfl⟩)
  | false=>
   rw[hb5,if_pos rfl]at hmet
   rw[hmet]
   refine gom ?_
   refine WC.rt ?_
   exact QF.p1 (.inl rfl) rfl (.tmp rfl) (⟨rfl,hgl,rfl⟩)
 have y11:(c==10)=false:=by simpa using d10
 refine gom ?_
 refine WL.oo (OW.callK rfl (hkf) rfl fun v' G' H' h hg=>?_)
 obtain⟨he,rfl,rfl⟩:=h
 cases he
 cases hb5:kindsR w p (c,(n:Int)) ⟨true,false,sv,sk⟩ (sk.drop (sk.length - (effC w sv (c,(n:Int))).1))with
 | true=>
  rw[hb5,if_neg (by simp)]at hmet
  rw[hmet]
  refine gom ?_
  refine WC.rt ?_
  exact QF.p1 (.inl rfl) rfl (.tmp rfl) (⟨rfl,hgl,rfl⟩)
 | false=>
  rw[hb5,if_pos rfl]at hmet
  rw[hmet]
  refine gom ?_
  refine WC.rt ?_
  exact QF.p1 (.inl rfl) rfl (.tmp rfl) (⟨rfl,hgl,rfl⟩)
end
end
section
open Go.MapKept
attribute [local irreducible] Tryz.prog
def Kd.rs:Kd SS where
 n:=4
 K G s cs:=∃VA vc SA sc,cs=[.bool s.reached, .slice VA s.vars.length vc, .bool s.unlike, .slice SA s.stack.length sc]∧(s.vars.length≤vc∧s.stack.length≤sc)∧Sl (Kd.int .i64) G VA s.vars∧Sl (Kd.int .i64) G SA s.stack
 mono hg h:=let ⟨VA,vc,SA,sc,h1,h0,h2,h3⟩:=h;⟨VA,vc,SA,sc,h1,h0,h2.mono hg,h3.mono hg⟩
 len h:=by obtain⟨VA,vc,SA,sc,h1,_⟩:=h;rw[h1];rfl
 one h:=by obtain⟨VA,vc,SA,sc,h1,_⟩:=h;rw[h1];rfl
abbrev rsL (s:SS) (VA:Option Addr) (vc:Nat) (SA:Option Addr) (sc:Nat):List Value:=[.bool s.reached, .slice VA s.vars.length vc, .bool s.unlike, .slice SA s.stack.length sc]
theorem Kd.rs_rep {G:Gh} {s:SS} {es:List Value} (h:Kd.rs.K G s es):∃VA vc SA sc,es=rsL s VA vc SA sc∧SRep G s VA vc SA sc:=by
 obtain⟨VA,vc,SA,sc,h1,⟨h2,h3⟩,h4,h5⟩:=h
 exact⟨VA,vc,SA,sc,h1,h2,h3,h4,h5⟩
theorem SRep.rd {G:Gh} {s:SS} {VA:Option Addr} {vc:Nat} {SA:Option Addr} {sc:Nat} (h:SRep G s VA vc SA sc):Kd.rs.K G s (rsL s VA vc SA sc):=
 ⟨VA,vc,SA,sc,rfl,⟨h.hv,h.hs⟩,h.vars,h.stack⟩
theorem wt_le {n:Nat} {s:SS} (h:s.wf n):wt n s≤n+130:=by
 unfold wt
 split
 ·omega
 ·rename_i hr
  have hr:s.reached=true:=by simpa using hr
  have h1:=nz_le s.vars
  have h2:=nz_le s.stack
  have h3:=h.vars hr
  have h4:=h.high
  split<;>omega
theorem sumW_le {n:Nat} :∀ {l:List SS},(∀s∈l,s.wf n)→sumW n l≤l.length*(n+130)
 | [],_=>by simp[sumW]
 | a::l,h=>by
  have h1:=wt_le (h a (List.mem_cons_self ..))
  have h2:=sumW_le (l:=l) fun s hs=>h s (List.mem_cons_of_mem _ hs)
  have e:sumW n (a::l)=wt n a+sumW n l:=by simp[sumW]
  rw[e,List.length_cons,Nat.add_mul];omega
def bls (l:List Bool):List Value:=l.map Value.bool
theorem bls_rep:∀n:Nat,repS n [Value.bool false]=bls (List.replicate n false)
 | 0=>rfl
 | n+1=>by simp only[repS,bls_rep n,List.replicate_succ];rfl
abbrev WVec (wb:Nat) (l:List Bool) (c:Array Value):Prop:=Vec 4 1 (some ⟨wb,0,none⟩) l.length l.length (bls l) (.blk wb (.cells c 4 (0,0)))
theorem WVec.put {wb i:Nat} {l:List Bool} {c:Array Value} (h:WVec wb l c) (hi:i<l.length) (x:Bool):i+1≤c.size∧WVec wb (l.set i x) (splice c i [.bool x]):=by
 obtain⟨_,h2,h3⟩:=Vec.put1 h (o:=i) (by omega) (.bool x)
 exact⟨h2,by unfold WVec bls;rw[List.map_set,List.length_set];exact h3⟩
theorem WVec.get {wb i:Nat} {l:List Bool} {c:Array Value} (h:WVec wb l c) {x:Bool} (hx:l[i]? =some x):c[i]? =some (.bool x):=by
 obtain⟨_,⟨_,h,_⟩ | ⟨b,c',h1,h2,_,_,h3⟩⟩:=h
 ·have:=(List.getElem?_eq_some_iff.1 hx).1;omega
 ·cases h2
  have h4:(bls l)[i]? =some (.bool x):=by unfold bls;rw[List.getElem?_map,hx];rfl
  rw[←h3,List.getElem?_take]at h4
  split at h4
  ·simpa using h4
  ·cases h4
abbrev QVec (A:Option Addr) (l:List Int) (cap:Nat) (x:Own):Prop:=IVec 3 A l cap x
theorem QVec.snoc {A:Option Addr} {l:List Int} {cap:Nat} {x:Own} {z:Int} (h:Vec 3 1 A (l.length+1) cap (ints l++[.int .i64 z]) x):QVec A (l++[z]) cap x:=by
 unfold QVec IVec;rw[ints_append,List.length_append];exact h
theorem QVec.pop {A:Option Addr} {l:List Int} {cap:Nat} {x:Own} {z:Int} (h:QVec A (l++[z]) cap x):QVec A l cap x:=by
 have h1:=Vec.cut (m:=l.length) h (by simp)
 unfold QVec IVec
 rw[Nat.mul_one,ints_append,List.take_left' (by rw[ints_length,Nat.mul_one])]at h1
 exact h1
structure FM where
 l:List SS
 T:List Int
 ws:List Bool
 G:Gh
 cs:List Value
 c:Array Value
 TA:Option Addr
 tc:Nat
 o:Own
 wc:Array Value
section
variable (G:Gh) (w:Wd) (p:Pr) (CA NA PA:Option Addr) (cc nc pc:Nat) (hW:RWp G w CA NA PA) (QA IA:Option Addr) (qc ic:Nat) (hQ:Sl (Kd.int .i64) G QA p.params) (hI:Sl Kd.ins G IA p.code) (hp:POk w p)
include hW hQ hI hp
set_option maxHeartbeats 4000000 in
theorem rStates_fn:
  Fn Tryz.prog 148 #[.agg (wdC w CA NA PA cc nc pc), .agg (prC p QA qc IA ic)] G []
   fun e G' H'=>∃A tc l,e= .returned (.slice A l.length tc)∧G.le G'∧Sl Kd.rs G' A l∧l.length≤tc∧Least w p l∧H'=[]:=by
 have hfew:=hp.few
 have hpos:=hp.pos
 have hpar:=hp.par
 have hloc:=hp.loc
 refine Fn.enter Tryz.func148 rfl rfl fun w0=>?_
 refine WC.seq ?_
 refine WC.region ?_
 refine WL.oo (OW.box rfl rfl fun b1=>?_)
 refine WL.oo (OW.box rfl rfl fun b2=>?_)
 refine gom ?_
 refine WL.oo (OW.makeSlice (n:=4) (z:= .agg #[.bool false, .slice none 0 0, .bool false, .slice none 0 0]) rfl rfl rfl (by omega) (by omega) (by omega) rfl fun tb o1 ho1=>?_)
 rw[Int.toNat_natCast]at ho1⊢
 obtain⟨xb,xc,hxb,rfl⟩:=ho1.isBlk hpos
 obtain rfl:tb=xb:=by cases hxb;rfl
 refine gom ?_
 refine WL.oo (OW.alloc rfl fun b6=>?_)
 refine gom ?_
 refine WL.nothing ?_
 refine WL.oo (OW.append rfl rfl kr kr TVec.nilv atA hQ.ints (ints_length _) (ints_one _) (by first | omega | (dsimp only;omega)) (by first | omega | (dsimp only;omega)) rfl fun A1 c1 x1 hx1=>?_)
 rw[Nat.zero_add]at hx1⊢
 rw[List.nil_append]at hx1
 refine zw.fa ?_
 refine zw.st ?_
 refine WL.nil ?_
 refine WK.un ?_
 refine gom ?_
 refine WC.pick [x1, .blk b6 (.cells #[.bool true, .slice A1 p.params.length c1, .bool false, .slice none 0 0] 220 (0,0)), .blk tb (.cells xc 220 (0,0)), .blk b1 (.cells (wdC w CA NA PA cc nc pc) 162 (0,0)), .blk b2 (.cells (prC p QA qc IA ic) 47 (0,0))] ?_
 refine WC.loop (X:=List Int×Option Addr×Nat×Own) (fun t=>[(2, .pointer (some ⟨b1,0,none⟩)),(3, .pointer (some ⟨b2,0,none⟩)),(5, .slice (some ⟨tb,0,none⟩) p.code.length p.code.length),(6, .pointer (some ⟨b6,0,none⟩))]) (fun _=>G) (fun t=>[t.2.2.2, .blk b6 (.cells #[.bool true, .slice t.2.1 t.1.length t.2.2.1, .bool false, .slice none 0 0] 220 (0,0)), .blk tb (.cells xc 220 (0,0)), .blk b1 (.cells (wdC w CA NA PA cc nc pc) 162 (0,0)), .blk b2 (.cells (prC p QA qc IA ic) 47 (0,0))]) (fun t=>p.locals.toNat - t.1.length)
  (fun t=>p.params.length≤t.1.length∧(t.1.length:Int)≤p.locals∧t.1=p.params++List.replicate (t.1.length - p.params.length) 0∧TVec t.2.1 t.1 t.2.2.1 t.2.2.2) (p.params,A1,c1,x1)
  ⟨Nat.le_refl _,hpar,by simp,hx1⟩ (by exact⟨rfl,rfl,rfl,rfl,trivial⟩) rfl (List.Sublist.refl _) fun t ht=>?_
 obtain⟨vs,B,cv,o⟩:=t
 obtain⟨hv1,hv2,hv3,hv⟩:=ht
 dsimp only at hv1 hv2 hv3 hv
 by_cases hlt:(vs.length:Int)<p.locals
 ·have e2:decide ((vs.length:Int)<p.locals)=true:=decide_eq_true hlt
  refine gom ?_
  refine WL.op kr (OW.buildSlice rfl kr kr (by rfl) rfl fun b33=>?_)
  refine WL.oo (OW.append rfl rfl kr kr hv atA (Rds.blk0 (cs:=[.int .i64 0]) atA rfl) rfl rfl (by first | omega | (dsimp only;omega)) (by first | omega | (dsimp only;omega)) rfl fun A3 c3 o3 hv3'=>?_)
  have h3:=TVec.snoc hv3'
  have hl3:vs.length+1=(vs++[0]).length:=by rw[List.length_append];rfl
  refine gom ?_
  rw[hl3]
  refine WK.pick [o3, .blk b6 (.cells #[.bool true, .slice A3 (vs++[0]).length c3, .bool false, .slice none 0 0] 220 (0,0)), .blk tb (.cells xc 220 (0,0)), .blk b1 (.cells (wdC w CA NA PA cc nc pc) 162 (0,0)), .blk b2 (.cells (prC p QA qc IA ic) 47 (0,0))] ?_
  refine WK.again (vs++[0],A3,c3,o3) (by dsimp only;rw[←hl3];omega) ⟨by dsimp only;rw[←hl3];omega,by dsimp only;rw[←hl3];omega,?_,h3⟩ (by exact⟨rfl,rfl,rfl,rfl,trivial⟩) rfl (List.Sublist.refl _)
  dsimp only
  rw[←hl3,show vs.length+1 - p.params.length=(vs.length - p.params.length)+1 by omega,List.replicate_succ',←List.append_assoc,←hv3]
 have e2:decide ((vs.length:Int)<p.locals)=false:=decide_eq_false hlt
 have hbv:vs=(beginS p).vars:=by
  rw[hv3]
  show _=p.params++List.replicate (p.locals.toNat - p.params.length) 0
  rw[show p.locals.toNat=vs.length by omega]
 clear hv3
 subst hbv
 have hbl:(beginS p).vars.length=p.locals.toNat:=by omega
 refine gom ?_
 refine WL.frozenVec hv atA fun G2 hg2 z2=>?_
 have hbs:Sl (Kd.int .i64) G2 B (beginS p).vars:=IVec.sl z2
 have hbR:SRep G2 (beginS p) B cv none 0:=⟨hv.le,Nat.le_refl _,hbs,Sl.nil _ _ _⟩
 obtain⟨_,hfit1,hput1⟩:=Vec.put (i:=0) ho1 hpos (rsL (beginS p) B cv none 0) rfl
 have hble1:Nat.ble (0+(0:Int).toNat*4+4) xc.size=true:=Nat.ble_eq_true_of_le hfit1
 have x0:(0:Int)<(p.code.length:Int):=by omega
 refine WL.oo (OW.store (n:=4) (cs:=rsL (beginS p) B cv none 0) rfl rfl atA rfl rfl rfl hble1 rfl ?_ rfl)
 refine gom ?_
 refine WL.op kr (OW.buildSlice rfl kr kr (by rfl) rfl fun b7=>?_)
 refine gom ?_
 refine WL.oo (OW.makeSlice (n:=1) (z:= .bool false) rfl rfl rfl (by omega) (by omega) (by omega) rfl fun wb o2 ho2=>?_)
 rw[Int.toNat_natCast]at ho2⊢
 obtain⟨yb,yc,hyb,rfl⟩:=ho2.isBlk hpos
 obtain rfl:wb=yb:=by cases hyb;rfl
 rw[show(Value.bool false).cells.toList=[Value.bool false]from rfl,bls_rep]at ho2
 have hw1:WVec wb (List.replicate p.code.length false) yc:=by unfold WVec;rw[List.length_replicate];exact ho2
 obtain⟨hfw,hw2⟩:=hw1.put (i:=0) (by simpa using hpos) true
 have hblew:Nat.ble (0+(0:Int).toNat*1+1) yc.size=true:=Nat.ble_eq_true_of_le hfw
 have hq1:QVec (some ⟨b7,0,none⟩) [0] 1 (.blk b7 (.cells #[.int .i64 0] 3 (0,0))):=⟨rfl, .inr ⟨b7,_,rfl,rfl,Nat.le_refl _,rfl,rfl⟩⟩
 refine gom ?_
 have hkv0:KV Kd.rs G2 ((List.replicate p.code.length ss0).set 0 (beginS p)) ((repS p.code.length (Value.agg #[.bool false, .slice none 0 0, .bool false, .slice none 0 0]).cells.toList).take (0*4)++rsL (beginS p) B cv none 0++(repS p.code.length (Value.agg #[.bool false, .slice none 0 0, .bool false, .slice none 0 0]).cells.toList).drop (0*4+(rsL (beginS p) B cv none 0).length)):=
  KV.set (k:=Kd.rs) (KV.rep (k:=Kd.rs) (x:=ss0) ⟨none,0,none,0,rfl,⟨Nat.le_refl _,Nat.le_refl _⟩,Sl.nil _ _ _,Sl.nil _ _ _⟩ _) hbR.rd (by simpa using hpos)
 have hinv0:=FInv.first (w:=w) hpar hpos
 have hsum0:2*sumW p.locals.toNat ((List.replicate p.code.length ss0).set 0 (beginS p))+1≤10000000:=by
  have h1:=sumW_le hinv0.wf
  have h2:p.code.length*(p.locals.toNat+130)≤16384*194:=Nat.mul_le_mul hfew (by omega)
  rw[hinv0.len]at h1
  omega
 refine WC.pick [.blk b7 (.cells #[.int .i64 0] 3 (0,0)), .blk tb (.cells _ 220 (0,0)), .blk wb (.cells _ 4 (0,0)), .blk b1 (.cells (wdC w CA NA PA cc nc pc) 162 (0,0)), .blk b2 (.cells (prC p QA qc IA ic) 47 (0,0))] ?_
 refine WC.loop (X:=FM) (fun x=>[(2, .pointer (some ⟨b1,0,none⟩)),(3, .pointer (some ⟨b2,0,none⟩)),(5, .slice (some ⟨tb,0,none⟩) p.code.length p.code.length),(7, .slice x.TA x.T.length x.tc),(8, .slice (some ⟨wb,0,none⟩) p.code.length p.code.length)]) (fun x=>x.G) (fun x=>[x.o, .blk tb (.cells x.c 220 (0,0)), .blk wb (.cells x.wc 4 (0,0)), .blk b1 (.cells (wdC w CA NA PA cc nc pc) 162 (0,0)), .blk b2 (.cells (prC p QA qc IA ic) 47 (0,0))]) (fun x=>2*sumW p.locals.toNat x.l+x.T.length)
  (fun x=>FInv w p x.l x.T∧(x.ws.length=p.code.length∧∀k:Nat,x.ws[k]? =some true→(k:Int)∈x.T)∧QVec x.TA x.T x.tc x.o∧Vec 220 4 (some ⟨tb,0,none⟩) p.code.length p.code.length x.cs (.blk tb (.cells x.c 220 (0,0)))∧WVec wb x.ws x.wc∧KV Kd.rs x.G x.l x.cs∧G2.le x.G∧2*sumW p.locals.toNat x.l+x.T.length≤10000000)
  ⟨(List.replicate p.code.length ss0).set 0 (beginS p),[0],(List.replicate p.code.length false).set 0 true,G2,_,_,some ⟨b7,0,none⟩,1, .blk b7 (.cells #[.int .i64 0] 3 (0,0)),_⟩ ⟨hinv0,⟨by simp,fun k hk=>by
   rw[List.getElem?_set]at hk
   split at hk
   ·rename_i h;subst h;simp
   ·rw[List.getElem?_replicate]at hk
    split at hk<;>simp at hk⟩,hq1,hput1,hw2,hkv0,Gh.le_refl _,hsum0⟩ (by exact⟨rfl,rfl,rfl,rfl,rfl,trivial⟩) rfl (List.Sublist.refl _) fun x hx=>?_
 obtain⟨l,T,ws,G3,cs,c,TA2,tc2,o,wc⟩:=x
 obtain⟨hinv,⟨hwl,hwt⟩,hqv,hsv,hwv,hkv,hg3,hsum⟩:=hx
 dsimp only at hinv hwl hwt hqv hsv hwv hkv hg3 hsum
 have hll:=hinv.len
 by_cases hT0:T.length=0
 ·have y0:decide ((0:Int)<(T.length:Int))=false:=decide_eq_false (by omega)
  refine gom ?_
  refine WC.frozenVec hsv atA fun G4 hg4 z4=>?_
  have hT00:T=[]:=List.eq_nil_of_length_eq_zero hT0
  subst hT00
  rw[←hll]
  refine WC.rt ?_
  exact QF.p1 (.inl rfl) rfl (.tmp rfl) (⟨some ⟨tb,0,none⟩,l.length,l,rfl,Gh.le_trans hg2 (Gh.le_trans hg3 hg4),(hkv.mono hg4).sl (by decide) z4,Nat.le_refl _,hinv.least,rfl⟩)
 have y0:decide ((0:Int)<(T.length:Int))=true:=decide_eq_true (by omega)
 obtain⟨T0,q,rfl⟩:∃T0 q,T=T0++[q]:=⟨T.dropLast,T.getLast (fun h=>hT0 (by rw[h];rfl)),(List.dropLast_concat_getLast _).symm⟩
 obtain⟨kq,s0,hck,hs0,hr0⟩:=hinv.todo q (by simp)
 subst hck
 have hTl:(T0++[(kq:Int)]).length=T0.length+1:=by simp
 have hkq:=(List.getElem?_eq_some_iff.1 hs0).1
 obtain⟨i,hi⟩:∃i,p.code[kq]? =some i:=⟨_,List.getElem?_eq_getElem (by omega)⟩
 obtain⟨hi0,hiE⟩:=hp.ins kq i hi
 obtain⟨ic1,in1⟩:=i
 obtain⟨nn,rfl⟩:∃nn:Nat,in1=nn:=⟨in1.toNat,by dsimp only at hi0;omega⟩
 dsimp only at hiE
 rw[Int.toNat_natCast]at hiE
 have hw0:=hinv.wf s0 (List.mem_of_getElem? hs0)
 have hv0:=hw0.vars hr0
 obtain⟨VA,vc,SA,sc,hes0,hS0⟩:=Kd.rs_rep (hkv.2 kq s0 hs0)
 have hst0:=hw0.high
 obtain⟨ib,io,ics,rfl,hik,hic⟩:=hI kq _ hi
 obtain rfl:ics=[.int .i64 ic1, .int .i64 nn]:=hik
 have hgg:G.le G3:=Gh.le_trans hg2 hg3
 have hic3:=hic.mono hgg
 obtain⟨qb,qcs,rfl,rfl,hqc⟩:=hqv.some (by simp)
 have hqg:qcs[0+(((T0.length:Nat):Int)).toNat*1]? =some (.int .i64 (kq:Int)):=by
  have:=ivec_get hqc (i:=T0.length) (x:=(kq:Int)) (by simp)
  simpa using this
 have y1:IntKind.i64.wrap (((T0++[(kq:Int)]).length:Int) - 1)=((T0.length:Nat):Int):=by
  rw[hTl,wrapI (by omega) (by omega)];omega
 have y2:(0:Int)≤((T0.length:Nat):Int):=by omega
 have y3:((T0.length:Nat):Int)<(((T0++[(kq:Int)]).length:Nat):Int):=by rw[hTl];omega
 have hqv0:=hqv.pop
 have z0:(0:Int)≤(kq:Int):=by omega
 have z1:(kq:Int)<(p.code.length:Int):=by omega
 obtain⟨hfq,hwv0⟩:=hwv.put (i:=0+((kq:Nat):Int).toNat*1) (by omega) false
 have hbleq:Nat.ble (0+((kq:Nat):Int).toNat*1+1) wc.size=true:=Nat.ble_eq_true_of_le hfq
 refine gom ?_
 refine WL.pp (Gp.sliceTo rfl rfl (by omega) (by have:=hqv.le;show((T0.length:Nat):Int)≤((tc2:Nat):Int);omega)) ?_
 rw[Int.toNat_natCast]
 refine go ?_
 obtain⟨sB,hsB⟩:∃sB,sB=behR w (ic1,(nn:Int)) s0:=⟨_,rfl⟩
 have hwB:sB.wf p.locals.toNat:=by rw[hsB];exact behR_wf hw0 hr0
 have hrB:sB.reached=true:=by rw[hsB,behR_reached];exact hr0
 have hin:=hinv.into (T':=T0) (q:=kq) (by simp) hi hs0 (fun x hx=>by simp[hx]) (fun x hx hne=>by
  rcases List.mem_append.1 hx with h | h
  ·exact h
  ·exact absurd (by simpa using h) hne)
 have hWG:=hW.mono hgg
 have ekq:0+((kq:Nat):Int).toNat*1=kq:=by omega
 have hwl0:(ws.set (0+((kq:Nat):Int).toNat*1) false).length=p.code.length:=by rw[List.length_set,hwl]
 have hwt0:∀k:Nat,(ws.set (0+((kq:Nat):Int).toNat*1) false)[k]? =some true→(k:Int)∈T0:=fun k hk=>by
  rw[ekq,List.getElem?_set]at hk
  split at hk
  ·split at hk<;>cases hk
  ·rename_i hne
   have:=hwt k hk
   rcases List.mem_append.1 this with h | h
   ·exact h
   ·simp at h;omega
 refine WC.joinG (X:=Gh×Option Addr×Nat×Option Addr×Nat×Nat) (fun t=>[(2, .pointer (some ⟨b1,0,none⟩)),(3, .pointer (some ⟨b2,0,none⟩)),(5, .slice (some ⟨tb,0,none⟩) p.code.length p.code.length),(7, .slice (some ⟨qb,0,none⟩) T0.length tc2),(8, .slice (some ⟨wb,0,none⟩) p.code.length p.code.length),(9, .int .i64 (kq:Int)),(10, .pointer (some ⟨t.2.2.2.2.2,0,none⟩))]) (fun t=>t.1)
  (fun t=>[.blk t.2.2.2.2.2 (.cells (rsC sB t.2.1 t.2.2.1 t.2.2.2.1 t.2.2.2.2.1) 220 (0,0)), .blk qb (.cells qcs 3 (0,0)), .blk tb (.cells c 220 (0,0)), .blk wb (.cells (splice wc (0+((kq:Nat):Int).toNat*1) [.bool false]) 4 (0,0)), .blk b1 (.cells (wdC w CA NA PA cc nc pc) 162 (0,0)), .blk b2 (.cells (prC p QA qc (some ⟨ib,io,none⟩) ic) 47 (0,0))]) (fun t=>G3.le t.1∧SRep t.1 sB t.2.1 t.2.2.1 t.2.2.2.1 t.2.2.2.2.1) ?_ fun t ht=>?_
 ·obtain⟨rb,ro,hrr,hread⟩:=(Vec.rds hsv .here:Rds G3 [.blk tb (.cells c 220 (0,0))] (some ⟨tb,0,none⟩) cs).resolve_left (fun h=>by have h1:=hkv.1;rw[h]at h1;simp[Kd.rs]at h1;omega)
  cases hrr
  have hbf:=rbehind_fn G3 w p CA NA PA cc nc pc hWG QA (some ⟨ib,io,none⟩) qc ic s0 VA vc SA sc hS0 hr0 (by omega) (by omega) ic1 nn (by rw[hv0];exact hiE)
  rw[←hsB]at hbf
  refine WC.drawS (Hs:=[.blk tb (.cells c 220 (0,0)), .blk b1 (.cells (wdC w CA NA PA cc nc pc) 162 (0,0)), .blk b2 (.cells (prC p QA qc (some ⟨ib,io,none⟩) ic) 47 (0,0))]) mixed pkA ?_
  refine zb.ld 0 ?_
  refine zb.ld 1 ?_
  refine zb.fa 2 ?_
  refine zb.ld 3 ?_
  refine zb.move 4 ?_
  refine zb.ix 5 ?_
  refine WB.vv 6 rfl (Gv.loadGN rfl hic3 rfl) ?_
  refine zb.move 7 ?_
  refine zb.move 8 ?_
  refine zb.ix 9 ?_
  refine WB.vv 10 rfl (Gv.loadRN (i:=((kq:Nat):Int).toNat*4) rfl hread (.cons_cons _ (List.nil_sublist _)) hes0 rfl) ?_
  refine WB.two (i:=11) (j:=12) kr rfl rfl kr kr (OW.callK rfl hbf rfl fun v' G' H' h hg=>?_) (OW.alloc rfl fun b10=>?_)
  ·obtain⟨V1,v1,S1,s1,he,hg4,hR4,rfl⟩:=h
   cases he
   refine⟨fun w hw=>(hw.pk pkA).le hg4,?_⟩
   refine WB.oo 12 rfl (OW.alloc rfl fun b10=>?_)
   refine⟨fun w hw=>(hw.pk pkA).le hg4,?_⟩
   refine zb.st 13 ?_
   refine⟨fun w hw=>(hw.pk pkA).le hg4,?_⟩
   refine WB.done kr ?_
   refine WK.un ?_
   refine WK.pick [.blk b10 (.cells (rsC sB V1 v1 S1 s1) 220 (0,0)), .blk qb (.cells qcs 3 (0,0)), .blk tb (.cells c 220 (0,0)), .blk wb (.cells (splice wc (0+((kq:Nat):Int).toNat*1) [.bool false]) 4 (0,0)), .blk b1 (.cells (wdC w CA NA PA cc nc pc) 162 (0,0)), .blk b2 (.cells (prC p QA qc (some ⟨ib,io,none⟩) ic) 47 (0,0))] ?_
   exact WK.meet (G',V1,v1,S1,s1,b10) ⟨hg4,hR4⟩ (by exact⟨rfl,rfl,rfl,rfl,rfl,rfl,rfl,trivial⟩) rfl (List.Sublist.refl _)
  ·refine⟨fun w hw=>hw.pk pkA,?_⟩
   refine WB.oo 11 rfl (OW.callK rfl hbf rfl fun v' G' H' h hg=>?_)
   obtain⟨V1,v1,S1,s1,he,hg4,hR4,rfl⟩:=h
   cases he
   refine⟨fun w hw=>(hw.pk pkA).le hg4,?_⟩
   refine zb.st 13 ?_
   refine⟨fun w hw=>(hw.pk pkA).le hg4,?_⟩
   refine WB.done kr ?_
   refine WK.un ?_
   refine WK.pick [.blk b10 (.cells (rsC sB V1 v1 S1 s1) 220 (0,0)), .blk qb (.cells qcs 3 (0,0)), .blk tb (.cells c 220 (0,0)), .blk wb (.cells (splice wc (0+((kq:Nat):Int).toNat*1) [.bool false]) 4 (0,0)), .blk b1 (.cells (wdC w CA NA PA cc nc pc) 162 (0,0)), .blk b2 (.cells (prC p QA qc (some ⟨ib,io,none⟩) ic) 47 (0,0))] ?_
   exact WK.meet (G',V1,v1,S1,s1,b10) ⟨hg4,hR4⟩ (by exact⟨rfl,rfl,rfl,rfl,rfl,rfl,rfl,trivial⟩) rfl (List.Sublist.refl _)
 obtain⟨G4,V1,v1,S1,s1,b10⟩:=t
 obtain⟨hg4,hR4⟩:=ht
 dsimp only at hg4 hR4
 have hic4:=hic3.mono hg4
 refine gom ?_
 refine WL.oo (OW.callK rfl (ronwards_fn _ ic1 nn kq (by omega)) rfl fun v' G' H' h hg=>?_)
 obtain⟨XA,xcap,he,hg5,hx5,rfl⟩:=h
 cases he
 obtain⟨nx,hnx⟩:∃nx,nx=onwR (ic1,(nn:Int)) kq:=⟨_,rfl⟩
 rw[←hnx]at hx5⊢
 have hnxl:nx.length≤2:=by rw[hnx];exact onwR_len _ _
 refine gom ?_
 refine WC.pick [.blk b10 (.cells (rsC sB V1 v1 S1 s1) 220 (0,0)), .blk qb (.cells qcs 3 (0,0)), .blk tb (.cells c 220 (0,0)), .blk wb (.cells (splice wc (0+((kq:Nat):Int).toNat*1) [.bool false]) 4 (0,0)), .blk b1 (.cells (wdC w CA NA PA cc nc pc) 162 (0,0)), .blk b2 (.cells (prC p QA qc (some ⟨ib,io,none⟩) ic) 47 (0,0))] ?_
 refine WC.loop (X:=Nat×FM) (fun x=>[(2, .pointer (some ⟨b1,0,none⟩)),(3, .pointer (some ⟨b2,0,none⟩)),(5, .slice (some ⟨tb,0,none⟩) p.code.length p.code.length),(7, .slice x.2.TA x.2.T.length x.2.tc),(8, .slice (some ⟨wb,0,none⟩) p.code.length p.code.length),(10, .pointer (some ⟨b10,0,none⟩)),(11, .slice XA nx.length xcap),(12, .int .i64 (x.1:Int))]) (fun x=>x.2.G) (fun x=>[.blk b10 (.cells (rsC sB V1 v1 S1 s1) 220 (0,0)),x.2.o, .blk tb (.cells x.2.c 220 (0,0)), .blk wb (.cells x.2.wc 4 (0,0)), .blk b1 (.cells (wdC w CA NA PA cc nc pc) 162 (0,0)), .blk b2 (.cells (prC p QA qc (some ⟨ib,io,none⟩) ic) 47 (0,0))]) (fun x=>nx.length - x.1)
  (fun x=>x.1≤nx.length∧FIn w p x.2.l x.2.T kq (ic1,(nn:Int)) s0 ((nx.take x.1).reverse)∧(x.2.ws.length=p.code.length∧∀k:Nat,x.2.ws[k]? =some true→(k:Int)∈x.2.T)∧QVec x.2.TA x.2.T x.2.tc x.2.o∧Vec 220 4 (some ⟨tb,0,none⟩) p.code.length p.code.length x.2.cs (.blk tb (.cells x.2.c 220 (0,0)))∧WVec wb x.2.ws x.2.wc∧KV Kd.rs x.2.G x.2.l x.2.cs∧G'.le x.2.G∧2*sumW p.locals.toNat x.2.l+x.2.T.length≤2*sumW p.locals.toNat l+T0.length)
  (0,⟨l,T0,ws.set (0+((kq:Nat):Int).toNat*1) false,G',cs,c,some ⟨qb,0,none⟩,tc2, .blk qb (.cells qcs 3 (0,0)),_⟩) ⟨Nat.zero_le _,hin,⟨hwl0,hwt0⟩,hqv0,hsv,hwv0,hkv.mono (Gh.le_trans hg4 hg5),Gh.le_refl _,Nat.le_refl _⟩ (by exact⟨rfl,rfl,rfl,rfl,rfl,rfl,rfl,rfl,trivial⟩) rfl (List.Sublist.refl _) fun x hx=>?_
 obtain⟨j,l2,T2,ws2,G6,cs2,c2,TA3,tc3,o3,wc2⟩:=x
 obtain⟨hj,hin2,⟨hwl2,hwt2⟩,hqv2,hsv2,hwv2,hkv2,hg6,hμ2⟩:=hx
 dsimp only at hj hin2 hwl2 hwt2 hqv2 hsv2 hwv2 hkv2 hg6 hμ2
 by_cases hjl:j<nx.length
 rotate_left
 ·have y1:decide ((j:Int)<(nx.length:Int))=false:=decide_eq_false (by omega)
  have hdone:=hin2.done (fun x hx=> .inl (by have hx:=(mem_onwR _ _ _).2 hx;rw[←hnx]at hx;rw[List.take_of_length_le (by omega)];simpa using hx))
  refine gom ?_
  refine WK.pick [o3, .blk tb (.cells c2 220 (0,0)), .blk wb (.cells wc2 4 (0,0)), .blk b1 (.cells (wdC w CA NA PA cc nc pc) 162 (0,0)), .blk b2 (.cells (prC p QA qc (some ⟨ib,io,none⟩) ic) 47 (0,0))] ?_
  exact WK.again ⟨l2,T2,ws2,G6,cs2,c2,TA3,tc3,o3,wc2⟩ (by dsimp only;rw[hTl];omega) ⟨hdone,⟨hwl2,hwt2⟩,hqv2,hsv2,hwv2,hkv2,Gh.le_trans hg3 (Gh.le_trans hg4 (Gh.le_trans hg5 hg6)),by dsimp only;rw[hTl]at hsum;omega⟩ (by exact⟨rfl,rfl,rfl,rfl,rfl,trivial⟩) rfl (List.Sublist.refl _)
 have y1:decide ((j:Int)<(nx.length:Int))=true:=decide_eq_true (by omega)
 obtain⟨x,hx⟩:∃x,nx[j]? =some x:=⟨_,List.getElem?_eq_getElem hjl⟩
 have hxm:x∈nextR (ic1,(nn:Int)) kq:=(mem_onwR _ _ _).1 (by rw[←hnx];exact List.mem_of_getElem? hx)
 have hx0:=nextR_nonneg hxm
 obtain⟨k,rfl⟩:∃k:Nat,x=k:=⟨x.toNat,by omega⟩
 have htake:(nx.take (j+1)).reverse=(k:Int)::(nx.take j).reverse:=by rw[List.take_add_one,hx];simp
 obtain⟨xb',xo',rfl,hxc⟩:=hx5.at hx
 have hxc6:=hxc.mono hg6
 have w0':(0:Int)≤(j:Int):=by omega
 have w1:(j:Int)<(nx.length:Int):=by omega
 have w2:=wrapS j (by omega)
 by_cases hkl:p.code.length≤k
 ·have y2:decide ((p.code.length:Int)≤(k:Int))=true:=decide_eq_true (by omega)
  refine gom ?_
  exact WK.again (j+1,⟨l2,T2,ws2,G6,cs2,c2,TA3,tc3,o3,wc2⟩) (by dsimp only;omega) ⟨by dsimp only;omega,by dsimp only;rw[htake];exact hin2.pass (by omega),⟨hwl2,hwt2⟩,hqv2,hsv2,hwv2,hkv2,hg6,hμ2⟩ (by exact⟨rfl,rfl,rfl,rfl,rfl,rfl,rfl,rfl,trivial⟩) rfl (List.Sublist.refl _)
 have y2:decide ((p.code.length:Int)≤(k:Int))=false:=decide_eq_false (by omega)
 have hl2:=hin2.len
 obtain⟨s,hs⟩:∃s,l2[k]? =some s:=⟨_,List.getElem?_eq_getElem (by omega)⟩
 have hws:=hin2.wf s (List.mem_of_getElem? hs)
 have hvs:s.vars.length≤1000:=by
  cases hr:s.reached with
  | false=>rw[hws.bare hr];simp
  | true=>rw[hws.vars hr];omega
 have hks:=hws.high
 obtain⟨VK,vk,SK,sk,hesk,hSk⟩:=Kd.rs_rep (hkv2.2 k s hs)
 have hR6:=hR4.mono (Gh.le_trans hg5 hg6)
 obtain⟨rb,ro,hrr,hread⟩:=(Vec.rds hsv2 .here:Rds G6 [.blk tb (.cells c2 220 (0,0))] (some ⟨tb,0,none⟩) cs2).resolve_left (fun h=>by have h1:=hkv2.1;rw[h]at h1;simp[Kd.rs]at h1;omega)
 cases hrr
 have v0':(0:Int)≤(k:Int):=by omega
 have v1':(k:Int)<(p.code.length:Int):=by omega
 obtain⟨sJ,hsJ⟩:∃sJ,sJ=joinS s sB:=⟨_,rfl⟩
 have hwJ:sJ.wf p.locals.toNat:=by rw[hsJ];exact joinS_wf hws hwB
 have hvJ:sJ.vars.length≤1000:=by
  cases hr:sJ.reached with
  | false=>rw[hwJ.bare hr];simp
  | true=>rw[hwJ.vars hr];omega
 have hkJ:=hwJ.high
 refine go ?_
 refine WC.joinG (X:=Gh×Option Addr×Nat×Option Addr×Nat×Nat) (fun t=>[(2, .pointer (some ⟨b1,0,none⟩)),(3, .pointer (some ⟨b2,0,none⟩)),(5, .slice (some ⟨tb,0,none⟩) p.code.length p.code.length),(7, .slice TA3 T2.length tc3),(8, .slice (some ⟨wb,0,none⟩) p.code.length p.code.length),(10, .pointer (some ⟨b10,0,none⟩)),(11, .slice (some ⟨xb',xo',none⟩) nx.length xcap),(12, .int .i64 (j:Int)),(13, .pointer (some ⟨t.2.2.2.2.2,0,none⟩))]) (fun t=>t.1)
  (fun t=>[.blk t.2.2.2.2.2 (.cells (rsC sJ t.2.1 t.2.2.1 t.2.2.2.1 t.2.2.2.2.1) 220 (0,0)), .blk b10 (.cells (rsC sB V1 v1 S1 s1) 220 (0,0)),o3, .blk tb (.cells c2 220 (0,0)), .blk wb (.cells wc2 4 (0,0)), .blk b1 (.cells (wdC w CA NA PA cc nc pc) 162 (0,0)), .blk b2 (.cells (prC p QA qc (some ⟨ib,io,none⟩) ic) 47 (0,0))]) (fun t=>G6.le t.1∧SRep t.1 sJ t.2.1 t.2.2.1 t.2.2.2.1 t.2.2.2.2.1) ?_ fun t ht=>?_
 ·refine WC.drawS (Hs:=[.blk b10 (.cells (rsC sB V1 v1 S1 s1) 220 (0,0)), .blk tb (.cells c2 220 (0,0))]) mixed pkA ?_
  refine zb.move 0 ?_
  refine zb.move 1 ?_
  refine zb.move 2 ?_
  refine zb.ix 3 ?_
  refine WB.vv 4 rfl (Gv.loadG1 (i:=0) rfl hxc6 rfl) ?_
  refine zb.ix 5 ?_
  refine WB.vv 6 rfl (Gv.loadRN (i:=((k:Nat):Int).toNat*4) rfl hread (List.sublist_cons_self _ _) hesk rfl) ?_
  refine zb.ld 7 ?_
  have hjf:=rjoin_fn G6 s sB VK V1 vk v1 SK S1 sk s1 hSk hR6 (fun h1 h2=>by rw[hws.vars h1,hwB.vars h2]) (by omega) (by omega)
  rw[←hsJ]at hjf
  refine WB.two (i:=8) (j:=9) kr rfl rfl kr kr (OW.callK rfl hjf rfl fun v' G' H' h hg=>?_) (OW.alloc rfl fun b13=>?_)
  ·obtain⟨V2,v2,S2,s2,he,hg7,hR7,rfl⟩:=h
   cases he
   refine⟨fun w hw=>(hw.pk pkA).le hg7,?_⟩
   refine WB.oo 9 rfl (OW.alloc rfl fun b13=>?_)
   refine⟨fun w hw=>(hw.pk pkA).le hg7,?_⟩
   refine zb.st 10 ?_
   refine⟨fun w hw=>(hw.pk pkA).le hg7,?_⟩
   refine WB.done kr ?_
   refine WK.un ?_
   refine WK.pick [.blk b13 (.cells (rsC sJ V2 v2 S2 s2) 220 (0,0)), .blk b10 (.cells (rsC sB V1 v1 S1 s1) 220 (0,0)),o3, .blk tb (.cells c2 220 (0,0)), .blk wb (.cells wc2 4 (0,0)), .blk b1 (.cells (wdC w CA NA PA cc nc pc) 162 (0,0)), .blk b2 (.cells (prC p QA qc (some ⟨ib,io,none⟩) ic) 47 (0,0))] ?_
   exact WK.meet (G',V2,v2,S2,s2,b13) ⟨hg7,hR7⟩ (by exact⟨rfl,rfl,rfl,rfl,rfl,rfl,rfl,rfl,rfl,trivial⟩) rfl (List.Sublist.refl _)
  ·refine⟨fun w hw=>hw.pk pkA,?_⟩
   refine WB.oo 8 rfl (OW.callK rfl hjf rfl fun v' G' H' h hg=>?_)
   obtain⟨V2,v2,S2,s2,he,hg7,hR7,rfl⟩:=h
   cases he
   refine⟨fun w hw=>(hw.pk pkA).le hg7,?_⟩
   refine zb.st 10 ?_
   refine⟨fun w hw=>(hw.pk pkA).le hg7,?_⟩
   refine WB.done kr ?_
   refine WK.un ?_
   refine WK.pick [.blk b13 (.cells (rsC sJ V2 v2 S2 s2) 220 (0,0)), .blk b10 (.cells (rsC sB V1 v1 S1 s1) 220 (0,0)),o3, .blk tb (.cells c2 220 (0,0)), .blk wb (.cells wc2 4 (0,0)), .blk b1 (.cells (wdC w CA NA PA cc nc pc) 162 (0,0)), .blk b2 (.cells (prC p QA qc (some ⟨ib,io,none⟩) ic) 47 (0,0))] ?_
   exact WK.meet (G',V2,v2,S2,s2,b13) ⟨hg7,hR7⟩ (by exact⟨rfl,rfl,rfl,rfl,rfl,rfl,rfl,rfl,rfl,trivial⟩) rfl (List.Sublist.refl _)
 obtain⟨G7,V2,v2,S2,s2,b13⟩:=t
 obtain⟨hg7,hR7⟩:=ht
 dsimp only at hg7 hR7
 have hread7:∀w,Sat G7 [.blk tb (.cells c2 220 (0,0))] w→∀j v,cs2[j]? =some v→w.cell? ⟨tb,0+j,none⟩=some v:=fun w hw=>hread w (hw.le hg7)
 have hSk7:=hSk.mono hg7
 have hxc7:=hxc6.mono hg7
 have hsf:=ralike_fn G7 sJ s V2 VK v2 vk S2 SK s2 sk hR7 hSk7 (by omega) (by omega)
 refine gom ?_
 refine WQ.tv (Gv.loadRN (i:=((k:Nat):Int).toNat*4) rfl hread7 (.cons _ (.cons _ (.cons _ (.cons_cons _ (List.nil_sublist _))))) hesk rfl) kr kr rfl ?_
 refine WQ.one kr kr (OW.callK rfl (hsf) rfl fun v' G' H' h hg=>?_)
 obtain⟨he,rfl,rfl⟩:=h
 cases he
 by_cases heq:sJ=s
 ·rw[decide_eq_true heq]
  refine gom ?_
  refine WK.pick [.blk b10 (.cells (rsC sB V1 v1 S1 s1) 220 (0,0)),o3, .blk tb (.cells c2 220 (0,0)), .blk wb (.cells wc2 4 (0,0)), .blk b1 (.cells (wdC w CA NA PA cc nc pc) 162 (0,0)), .blk b2 (.cells (prC p QA qc (some ⟨ib,io,none⟩) ic) 47 (0,0))] ?_
  exact WK.again (j+1,⟨l2,T2,ws2,G7,cs2,c2,TA3,tc3,o3,wc2⟩) (by dsimp only;omega) ⟨by dsimp only;omega,by dsimp only;rw[htake];exact hin2.same hs (by rw[←hsB,←hsJ];exact heq),⟨hwl2,hwt2⟩,hqv2,hsv2,hwv2,hkv2.mono hg7,Gh.le_trans hg6 hg7,hμ2⟩ (by exact⟨rfl,rfl,rfl,rfl,rfl,rfl,rfl,rfl,trivial⟩) rfl (List.Sublist.refl _)
 rw[decide_eq_false heq]
 refine WQ.done kr ?_
 refine go ?_
 obtain⟨_,hfitK,hputK⟩:=Vec.put hsv2 (show k<p.code.length by omega) (rsL sJ V2 v2 S2 s2) rfl
 have hfitK':k*4+4≤c2.size:=hfitK
 have hbleK:Nat.ble (0+((k:Nat):Int).toNat*4+4) c2.size=true:=Nat.ble_eq_true_of_le (by omega)
 have hkv9:=KV.set (k:=Kd.rs) (hkv2.mono hg7) hR7.rd (i:=k) (by omega)
 have hne:joinS s (behR w (ic1,(nn:Int)) s0)≠s:=by rw[←hsB,←hsJ];exact heq
 have hrise:=hin2.rises hs hne
 rw[←hsB,←hsJ]at hrise
 have ek:0+((k:Nat):Int).toNat*4=k*4:=by omega
 have ek1:0+((k:Nat):Int).toNat*1=k:=by omega
 rw[←ek]at hputK
 refine WC.draw mixed ?_
 refine za.move 0 ?_
 refine za.move 1 ?_
 refine za.move 2 ?_
 refine za.ix 3 ?_
 refine WA.vv 4 rfl (Gv.loadG1 (i:=0) rfl hxc7 rfl) ?_
 refine za.ld 5 ?_
 refine za.ix 6 ?_
 refine WA.oo 7 rfl (OW.store (n:=4) (cs:=rsL sJ V2 v2 S2 s2) rfl rfl atA rfl rfl rfl hbleK rfl ?_ rfl)
 refine WA.done kr ?_
 refine WK.un ?_
 obtain⟨bk,hbk⟩:∃bk,ws2[k]? =some bk:=⟨_,List.getElem?_eq_getElem (by omega)⟩
 have hwg:wc2[0+((k:Nat):Int).toNat*1]? =some (.bool bk):=hwv2.get (by rw[ek1];exact hbk)
 cases bk with
 | true=>
  have hkT:=hwt2 k hbk
  have hturn:=hin2.turn (T':=T2) hxm hs (fun x=>⟨.inl,fun h=>h.elim id fun e=>by rw[e];exact hkT⟩)
  rw[←hsB,←hsJ]at hturn
  refine gom ?_
  refine WK.pick [.blk b10 (.cells (rsC sB V1 v1 S1 s1) 220 (0,0)),o3, .blk tb (.cells (splice c2 (0+((k:Nat):Int).toNat*4) (rsL sJ V2 v2 S2 s2)) 220 (0,0)), .blk wb (.cells wc2 4 (0,0)), .blk b1 (.cells (wdC w CA NA PA cc nc pc) 162 (0,0)), .blk b2 (.cells (prC p QA qc (some ⟨ib,io,none⟩) ic) 47 (0,0))] ?_
  exact WK.again (j+1,⟨l2.set k sJ,T2,ws2,G7,_,_,TA3,tc3,o3,wc2⟩) (by dsimp only;omega) ⟨by dsimp only;omega,by dsimp only;rw[htake];exact hturn,⟨hwl2,hwt2⟩,hqv2,hputK,hwv2,by dsimp only;rw[ek];exact hkv9,Gh.le_trans hg6 hg7,by dsimp only;omega⟩ (by exact⟨rfl,rfl,rfl,rfl,rfl,rfl,rfl,rfl,trivial⟩) rfl (List.Sublist.refl _)
 | false=>
  have hturn:=hin2.turn (T':=T2++[(k:Int)]) hxm hs (fun x=>by simp)
  rw[←hsB,←hsJ]at hturn
  obtain⟨hfk,hwv3⟩:=hwv2.put (i:=0+((k:Nat):Int).toNat*1) (by omega) true
  have hblek:Nat.ble (0+((k:Nat):Int).toNat*1+1) wc2.size=true:=Nat.ble_eq_true_of_le hfk
  have hwl3:(ws2.set (0+((k:Nat):Int).toNat*1) true).length=p.code.length:=by rw[List.length_set,hwl2]
  have hwt3:∀m:Nat,(ws2.set (0+((k:Nat):Int).toNat*1) true)[m]? =some true→(m:Int)∈T2++[(k:Int)]:=fun m hm=>by
   rw[ek1,List.getElem?_set]at hm
   split at hm
   ·rename_i h;subst h;simp
   ·exact List.mem_append_left _ (hwt2 m hm)
  rw[hTl]at hsum
  refine gom ?_
  refine WL.op kr (OW.buildSlice rfl kr kr (by rfl) rfl fun b40=>?_)
  refine WL.oo (OW.append rfl rfl kr kr hqv2 atA (Rds.blk0 (cs:=[.int .i64 (k:Int)]) atA rfl) rfl rfl (by first | omega | (dsimp only;omega)) (by first | omega | (dsimp only;omega)) rfl fun A9 c9 o9 hv9=>?_)
  have hq9:=QVec.snoc hv9
  have hl9:T2.length+1=(T2++[(k:Int)]).length:=by rw[List.length_append];rfl
  refine gom ?_
  refine WK.pick [.blk b10 (.cells (rsC sB V1 v1 S1 s1) 220 (0,0)),o9, .blk tb (.cells (splice c2 (0+((k:Nat):Int).toNat*4) (rsL sJ V2 v2 S2 s2)) 220 (0,0)), .blk wb (.cells (splice wc2 (0+((k:Nat):Int).toNat*1) [.bool true]) 4 (0,0)), .blk b1 (.cells (wdC w CA NA PA cc nc pc) 162 (0,0)), .blk b2 (.cells (prC p QA qc (some ⟨ib,io,none⟩) ic) 47 (0,0))] ?_
  exact WK.again (j+1,⟨l2.set k sJ,T2++[(k:Int)],ws2.set (0+((k:Nat):Int).toNat*1) true,G7,_,_,A9,c9,o9,_⟩) (by dsimp only;omega) ⟨by dsimp only;omega,by dsimp only;rw[htake];exact hturn,⟨hwl3,hwt3⟩,hq9,hputK,hwv3,by dsimp only;rw[ek];exact hkv9,Gh.le_trans hg6 hg7,by dsimp only;rw[←hl9];omega⟩ (by exact⟨rfl,rfl,rfl,by show _=some (Value.slice A9 _ c9);rw[←hl9];rfl,rfl,rfl,rfl,rfl,trivial⟩) rfl (List.Sublist.refl _)
end
end
section
open Go.MapKept
attribute [local irreducible] Tryz.prog
noncomputable def prOut (w:Wd) (p:Pr):Int×Int:=
 if procR p=false then(0,185)
 else if(firstR p.code.length (aloneAt w p)).2≠0 then firstR p.code.length (aloneAt w p)
 else wrongR w p (flowOf w p)
section
variable (G:Gh) (w:Wd) (p:Pr) (CA NA PA:Option Addr) (cc nc pc:Nat) (hW:RWp G w CA NA PA) (QA IA:Option Addr) (qc ic:Nat) (hQ:Sl (Kd.int .i64) G QA p.params) (hI:Sl Kd.ins G IA p.code) (hnl:p.name.size≤100000000000000) (hql:p.params.length≤100000000000000)
include hW hQ hI hnl hql
set_option maxHeartbeats 4000000 in
theorem rproc_fn:
  Fn Tryz.prog 100 #[.agg (wdC w CA NA PA cc nc pc), .agg (prC p QA qc IA ic)] G []
   fun e G' H'=>e= .returned (.tuple #[.int .i64 (prOut w p).1, .int .i64 (prOut w p).2])∧G.le G'∧H'=[]:=by
 refine Fn.enter Tryz.func100 rfl rfl fun w0=>?_
 refine WC.seq ?_
 refine WC.region ?_
 refine WL.oo (OW.box rfl rfl fun b1=>?_)
 refine WL.oo (OW.box rfl rfl fun b2=>?_)
 refine gom ?_
 refine WL.oo (OW.callK rfl (rWord_fn G p.name hnl) rfl fun v' G' H' h hg=>?_)
 obtain⟨he,hg1,rfl⟩:=h
 cases he
 clear hg
 obtain⟨G1,rfl⟩:∃G1,G1=G':=⟨_,rfl⟩
 cases h1:wordR p.name with
 | false=>
  have hr:prOut w p=(0,185):=by unfold prOut;rw[if_pos (by rw[procR,h1,Bool.false_and])]
  rw[hr]
  refine gom ?_
  refine WC.rt ?_
  exact QF.p2 (.inl rfl) rfl (.tmp rfl) (.tmp rfl) (⟨rfl,hg1,rfl⟩)
 | true=>
 refine gom ?_
 refine WL.oo (OW.callK rfl (rhead_fn G1 QA p.params qc p.result (hQ.mono hg1) hql) rfl fun v' G' H' h hg=>?_)
 obtain⟨he,rfl,rfl⟩:=h
 cases he
 cases h2:headR p.params p.result with
 | false=>
  have hr:prOut w p=(0,185):=by unfold prOut;rw[if_pos (by rw[procR,h1,h2];rfl)]
  rw[hr]
  refine gom ?_
  refine WC.rt ?_
  exact QF.p2 (.inl rfl) rfl (.tmp rfl) (.tmp rfl) (⟨rfl,hg1,rfl⟩)
 | true=>
 cases h3:decide ((p.params.length:Int)≤p.locals)with
 | false=>
  have hr:prOut w p=(0,185):=by unfold prOut;rw[if_pos (by rw[procR,h1,h2,h3];rfl)]
  rw[hr]
  have y3:=dgt h3
  refine gom ?_
  refine WC.rt ?_
  exact QF.p2 (.inl rfl) rfl (.tmp rfl) (.tmp rfl) (⟨rfl,hg1,rfl⟩)
 | true=>
 have y3:=dgt h3
 cases h4:decide (p.locals≤64)with
 | false=>
  have hr:prOut w p=(0,185):=by unfold prOut;rw[if_pos (by rw[procR,h1,h2,h3,h4];rfl)]
  rw[hr]
  have y4:=dgt h4
  refine gom ?_
  refine WC.rt ?_
  exact QF.p2 (.inl rfl) rfl (.tmp rfl) (.tmp rfl) (⟨rfl,hg1,rfl⟩)
 | true=>
 have y4:=dgt h4
 cases h5:decide (1≤(p.code.length:Int))with
 | false=>
  have hr:prOut w p=(0,185):=by unfold prOut;rw[if_pos (by rw[procR,h1,h2,h3,h4,h5];rfl)]
  rw[hr]
  have y5:=dgt h5
  refine gom ?_
  refine WC.rt ?_
  exact QF.p2 (.inl rfl) rfl (.tmp rfl) (.tmp rfl) (⟨rfl,hg1,rfl⟩)
 | true=>
 have y5:=dgt h5
 cases h6:decide ((p.code.length:Int)≤16384)with
 | false=>
  have hr:prOut w p=(0,185):=by unfold prOut;rw[if_pos (by rw[procR,h1,h2,h3,h4,h5,h6];rfl)]
  rw[hr]
  have y6:=dgt h6
  refine gom ?_
  refine WC.rt ?_
  exact QF.p2 (.inl rfl) rfl (.tmp rfl) (.tmp rfl) (⟨rfl,hg1,rfl⟩)
 | true=>
 have y6:=dgt h6
 have hpr:procR p=true:=by rw[procR,h1,h2,h3,h4,h5,h6];rfl
 have hfew:=(procR_head hpr).2.2.2
 refine gom ?_
 refine WC.pick [.blk b1 (.cells (wdC w CA NA PA cc nc pc) 162 (0,0)), .blk b2 (.cells (prC p QA qc IA ic) 47 (0,0))] ?_
 refine WC.loop (X:=Nat) (fun j=>[(2, .pointer (some ⟨b1,0,none⟩)),(3, .pointer (some ⟨b2,0,none⟩)),(6, .int .i64 (j:Int))]) (fun _=>G1) (fun _=>[.blk b1 (.cells (wdC w CA NA PA cc nc pc) 162 (0,0)), .blk b2 (.cells (prC p QA qc IA ic) 47 (0,0))])
  (fun j=>p.code.length - j) (fun j=>j≤p.code.length∧∀k:Nat,k<j→aloneAt w p k=0) 0 ⟨Nat.zero_le _,fun k h=>absurd h (Nat.not_lt_zero _)⟩ (by exact⟨rfl,rfl,rfl,trivial⟩) rfl (List.Sublist.refl _) fun j hj=>?_
 obtain⟨hj,hall⟩:=hj
 by_cases hlt:j<p.code.length
 ·have e2:decide ((j:Int)<(p.code.length:Int))=true:=decide_eq_true (by omega)
  obtain⟨i,hi⟩:∃i,p.code[j]? =some i:=⟨_,List.getElem?_eq_getElem hlt⟩
  obtain⟨ib,io,ics,rfl,hik,hic⟩:=(hI.mono hg1) j _ hi
  obtain rfl:ics=[.int .i64 i.1, .int .i64 i.2]:=hik
  have x0:(0:Int)≤(j:Int):=by omega
  have x1:(j:Int)<(p.code.length:Int):=by omega
  have x2:=wrapS j (by omega)
  have haa:aloneAt w p j=itsR w p i.1 i.2:=by unfold aloneAt;rw[hi,itsR_eq hfew]
  refine gom ?_
  refine WQ.one kr kr (OW.callK rfl (ritself_fn G1 w p CA NA PA cc nc pc QA (some ⟨ib,io,none⟩) qc ic i.1 i.2) rfl fun v' G' H' h hg=>?_)
  obtain⟨he,rfl,rfl⟩:=h
  cases he
  rw[←haa]
  by_cases ha:aloneAt w p j=0
  ·have e4:(aloneAt w p j != 0)=false:=by simpa using ha
   refine gom ?_
   refine WK.pick [.blk b1 (.cells (wdC w CA NA PA cc nc pc) 162 (0,0)), .blk b2 (.cells (prC p QA qc (some ⟨ib,io,none⟩) ic) 47 (0,0))] ?_
   exact WK.again (j+1) (by omega) ⟨by omega,fun k hk=>by
    rcases Nat.lt_or_ge k j with h | h
    ·exact hall k h
    ·obtain rfl:k=j:=by omega
     exact ha⟩ (by exact⟨rfl,rfl,rfl,trivial⟩) rfl (List.Sublist.refl _)
  ·have e4:(aloneAt w p j != 0)=true:=by simpa using ha
   have hf:firstR p.code.length (aloneAt w p)=((j:Int),aloneAt w p j):=firstR_at hlt hall ha
   have hr:prOut w p=((j:Int),aloneAt w p j):=by unfold prOut;rw[if_neg (by rw[hpr];simp),hf,if_pos ha]
   rw[hr]
   refine gom ?_
   refine WC.rt ?_
   exact QF.p2 (.inl rfl) rfl (.tmp rfl) (.tmp rfl) (⟨rfl,hg1,rfl⟩)
 have e2:decide ((j:Int)<(p.code.length:Int))=false:=decide_eq_false (by omega)
 have hf:firstR p.code.length (aloneAt w p)=(0,0):=firstR_none fun k hk=>hall k (by omega)
 have hpo:POk w p:=pok_of hpr fun k i hi=>by
  have:=hall k (by have:=(List.getElem?_eq_some_iff.1 hi).1;omega)
  unfold aloneAt at this;rw[hi]at this;exact this
 refine gom ?_
 refine WL.oo (OW.callK rfl (rStates_fn G1 w p CA NA PA cc nc pc (hW.mono hg1) QA IA qc ic (hQ.mono hg1) (hI.mono hg1) hpo) rfl fun v' G' H' h hg=>?_)
 obtain⟨TA,tc,l,he,hg2,hT,htc,hle,rfl⟩:=h
 cases he
 clear hg
 obtain⟨G2,rfl⟩:∃G2,G2=G':=⟨_,rfl⟩
 have hcl:=hle.closed
 have hll:=hcl.len
 have hr:prOut w p=wrongR w p l:=by unfold prOut;rw[if_neg (by rw[hpr];simp),hf,if_neg (by simp),hle.flow]
 have hg12:=Gh.le_trans hg1 hg2
 rw[hr]
 refine gom ?_
 refine WC.pick [.blk b1 (.cells (wdC w CA NA PA cc nc pc) 162 (0,0)), .blk b2 (.cells (prC p QA qc IA ic) 47 (0,0))] ?_
 refine WC.loop (X:=Nat×Gh) (fun x=>[(2, .pointer (some ⟨b1,0,none⟩)),(3, .pointer (some ⟨b2,0,none⟩)),(8, .slice TA l.length tc),(9, .int .i64 (x.1:Int))]) (fun x=>x.2) (fun _=>[.blk b1 (.cells (wdC w CA NA PA cc nc pc) 162 (0,0)), .blk b2 (.cells (prC p QA qc IA ic) 47 (0,0))])
  (fun x=>l.length - x.1) (fun x=>x.1≤l.length∧G2.le x.2∧∀k:Nat,k<x.1→badAt w p l k=0) (0,G2) ⟨Nat.zero_le _,Gh.le_refl _,fun k h=>absurd h (Nat.not_lt_zero _)⟩ (by exact⟨rfl,rfl,rfl,rfl,trivial⟩) rfl (List.Sublist.refl _) fun x hx=>?_
 obtain⟨k,G3⟩:=x
 obtain⟨hk,hg3,hall2⟩:=hx
 dsimp only at hk hg3 hall2
 by_cases hlt2:k<l.length
 rotate_left
 ·have e3:decide ((k:Int)<(p.code.length:Int))=false:=decide_eq_false (by omega)
  rw[show wrongR w p l=(0,0)from firstR_none fun j hj=>hall2 j (by omega)]
  refine gom ?_
  refine WC.rt ?_
  exact QF.p2 (.inl rfl) rfl (.tmp rfl) (.tmp rfl) (⟨rfl,Gh.le_trans hg12 hg3,rfl⟩)
 have e3:decide ((k:Int)<(p.code.length:Int))=true:=decide_eq_true (by omega)
 obtain⟨s,hs⟩:∃s,l[k]? =some s:=⟨_,List.getElem?_eq_getElem hlt2⟩
 obtain⟨i,hi⟩:∃i,p.code[k]? =some i:=⟨_,List.getElem?_eq_getElem (by omega)⟩
 obtain⟨hi0,hiE⟩:=hpo.ins k i hi
 obtain⟨ic1,in1⟩:=i
 obtain⟨nn,rfl⟩:∃nn:Nat,in1=nn:=⟨in1.toNat,by dsimp only at hi0;omega⟩
 dsimp only at hiE
 rw[Int.toNat_natCast]at hiE
 have hws:=hcl.wf s (List.mem_of_getElem? hs)
 have hloc:=hpo.loc
 have hvs:s.vars.length≤1000:=by
  cases hr:s.reached with
  | false=>rw[hws.bare hr];simp
  | true=>rw[hws.vars hr];omega
 have hks:=hws.high
 obtain⟨sb,so,scs,rfl,hsk,hsc⟩:=(hT.mono hg3) k s hs
 obtain⟨VA,vc,SA,sc,rfl,hS⟩:=Kd.rs_rep hsk
 have x0:(0:Int)≤(k:Int):=by omega
 have x1:(k:Int)<(l.length:Int):=by omega
 have x2:=wrapS k (by omega)
 have hmf:=rmet_fn G3 w p CA NA PA cc nc pc (hW.mono (Gh.le_trans hg12 hg3)) QA IA qc ic (hI.mono (Gh.le_trans hg12 hg3)) (by omega) s VA vc SA sc hS (by omega) (by omega) k (by omega) ic1 nn hi (fun hr=>by rw[hws.vars hr];exact hiE)
 have hba:badAt w p l k=(if s.reached=true then metR w p k (ic1,(nn:Int)) s else 0):=by unfold badAt;rw[hs,hi]
 rw[←hba]at hmf
 refine gom ?_
 refine WQ.one kr kr (OW.callK rfl (hmf) rfl fun v' G' H' h hg=>?_)
 obtain⟨he,hg4,rfl⟩:=h
 cases he
 by_cases hb:badAt w p l k=0
 ·have e4:(badAt w p l k != 0)=false:=by simpa using hb
  refine gom ?_
  refine WK.pick [.blk b1 (.cells (wdC w CA NA PA cc nc pc) 162 (0,0)), .blk b2 (.cells (prC p QA qc IA ic) 47 (0,0))] ?_
  exact WK.again (k+1,_) (by dsimp only;omega) ⟨by dsimp only;omega,Gh.le_trans hg3 hg4,fun j hj=>by
   rcases Nat.lt_or_ge j k with h | h
   ·exact hall2 j h
   ·obtain rfl:j=k:=by dsimp only at hj;omega
    exact hb⟩ (by exact⟨rfl,rfl,rfl,rfl,trivial⟩) rfl (List.Sublist.refl _)
 ·have e4:(badAt w p l k != 0)=true:=by simpa using hb
  rw[show wrongR w p l=((k:Int),badAt w p l k)from firstR_at hlt2 hall2 hb]
  refine gom ?_
  refine WC.rt ?_
  exact QF.p2 (.inl rfl) rfl (.tmp rfl) (.tmp rfl) (⟨rfl,Gh.le_trans hg12 (Gh.le_trans hg3 hg4),rfl⟩)
end
end
section
open Go.MapKept
attribute [local irreducible] Tryz.prog
theorem RWp.ofO {G:Gh} {o:Ob} {CA NA PA:Option Addr} (hO:ORep G o CA NA PA) (hL:OLim o):RWp G o.wd CA NA PA:=
 ⟨hO.consts,hO.needs,hO.procs,hL.cl,hL.nl,hL.pl,fun q hq=>(hL.nd q hq).1,fun q hq=>(hL.pr q hq).1⟩
theorem procOut_new {w:Wd} {seen:List ByteArray} {p:Pr} (h:p.name∉seen):procOut w seen p=prOut w p:=by
 unfold procOut prOut
 by_cases hp:procR p=false
 ·rw[if_pos (.inl hp),if_pos hp]
 ·rw[if_neg (fun h'=>h'.elim hp h),if_neg hp]
section
variable (G:Gh) (o:Ob) (CA NA PA:Option Addr) (cc nc pc:Nat) (hO:ORep G o CA NA PA) (hL:OLim o)
include hO hL
set_option maxHeartbeats 4000000 in
theorem rObject_fn:Fn Tryz.prog 45 #[.agg (obC o CA NA PA cc nc pc)] G [] fun e G' H'=>e= .returned (.tuple #[.agg #[.int .i64 (objAns o).1, .int .i64 (objAns o).2.1], .int .i64 (objAns o).2.2])∧G.le G'∧H'=[]:=by
 have hcl:=hL.cl
 have hnl:=hL.nl
 have hpl:=hL.pl
 have hpath:=hL.path
 refine Fn.enter Tryz.func45 rfl rfl fun w0=>?_
 refine WC.seq ?_
 refine WC.region ?_
 refine WL.oo (OW.box rfl rfl fun b1=>?_)
 refine WL.oo (OW.alloc rfl fun b2=>?_)
 refine gom ?_
 refine WL.oo (OW.alloc rfl fun b4=>?_)
 refine gom ?_
 refine WL.oo (OW.callK rfl (rplace_fn G o.path (by omega)) rfl fun v' G' H' h hg=>?_)
 obtain⟨he,hg1,rfl⟩:=h
 cases he
 clear hg
 obtain⟨G1,rfl⟩:∃G1,G1=G':=⟨_,rfl⟩
 cases h1:fileR o.path with
 | false=>
  have hr:objAns o=(0,0,185):=by unfold objAns;rw[if_neg (by unfold objR;simp[h1])]
  rw[hr]
  refine gom ?_
  refine WC.rt ?_
  exact QF.p2 (.inl rfl) rfl (.cell rfl inferInstance inferInstance atA rfl rfl) (.tmp rfl) (⟨rfl,hg1,rfl⟩)
 | true=>
 cases h3:decide ((o.consts.length:Int)≤4096)with
 | false=>
  have y3:=dgt h3
  have d3:=of_decide_eq_false h3
  have hr:objAns o=(0,0,185):=by
   unfold objAns
   rw[if_neg]
   unfold objR
   rw[h3]
   simp
  rw[hr]
  refine gom ?_
  refine WC.rt ?_
  exact QF.p2 (.inl rfl) rfl (.cell rfl inferInstance inferInstance atA rfl rfl) (.tmp rfl) (⟨rfl,hg1,rfl⟩)
 | true=>
 have y3:=dgt h3
 cases h4:decide ((o.needs.length:Int)≤4096)with
 | false=>
  have y4:=dgt h4
  have d4:=of_decide_eq_false h4
  have hr:objAns o=(0,0,185):=by
   unfold objAns
   rw[if_neg]
   unfold objR
   rw[h4]
   simp
  rw[hr]
  refine gom ?_
  refine WC.rt ?_
  exact QF.p2 (.inl rfl) rfl (.cell rfl inferInstance inferInstance atA rfl rfl) (.tmp rfl) (⟨rfl,hg1,rfl⟩)
 | true=>
 have y4:=dgt h4
 cases h5:decide ((o.procs.length:Int)≤128)with
 | false=>
  have y5:=dgt h5
  have d5:=of_decide_eq_false h5
  have hr:objAns o=(0,0,185):=by
   unfold objAns
   rw[if_neg]
   unfold objR
   rw[h5]
   simp
  rw[hr]
  refine gom ?_
  refine WC.rt ?_
  exact QF.p2 (.inl rfl) rfl (.cell rfl inferInstance inferInstance atA rfl rfl) (.tmp rfl) (⟨rfl,hg1,rfl⟩)
 | true=>
 have y5:=dgt h5
 have d3:=of_decide_eq_true h3
 have d4:=of_decide_eq_true h4
 have d5:=of_decide_eq_true h5
 refine gom ?_
 refine WC.pick [.blk b1 (.cells (obC o CA NA PA cc nc pc) 38 (0,0)), .blk b2 (.cells #[.int .i64 0, .int .i64 0] 34 (0,0)), .blk b4 (.cells (wdC o.wd CA NA PA cc nc pc) 162 (0,0))] ?_
 refine WC.loop (X:=Nat×Gh) (fun x=>[(1, .pointer (some ⟨b1,0,none⟩)),(2, .pointer (some ⟨b2,0,none⟩)),(4, .pointer (some ⟨b4,0,none⟩)),(5, .int .i64 (x.1:Int))]) (fun x=>x.2) (fun _=>[.blk b1 (.cells (obC o CA NA PA cc nc pc) 38 (0,0)), .blk b2 (.cells #[.int .i64 0, .int .i64 0] 34 (0,0)), .blk b4 (.cells (wdC o.wd CA NA PA cc nc pc) 162 (0,0))]) (fun x=>o.consts.length - x.1)
  (fun x=>x.1≤o.consts.length∧G.le x.2∧∀j y,j<x.1→o.consts[j]? =some y→valueR y=true) (0,G1) ⟨Nat.zero_le _,hg1,fun j y h=>absurd h (Nat.not_lt_zero _)⟩ (by exact⟨rfl,rfl,rfl,rfl,trivial⟩) rfl (List.Sublist.refl _) fun x hx=>?_
 obtain⟨i,G2⟩:=x
 obtain⟨hi,hg2,hall⟩:=hx
 dsimp only at hi hg2 hall
 have x2:=wrapS i (by omega)
 by_cases hlt:i<o.consts.length
 ·have e2:decide ((i:Int)<(o.consts.length:Int))=true:=decide_eq_true (by omega)
  obtain⟨v,hv⟩:∃v,o.consts[i]? =some v:=⟨_,List.getElem?_eq_getElem hlt⟩
  obtain⟨b,ofs,cs,rfl,hk,hcs⟩:=(hO.mono hg2).consts i v hv
  obtain rfl:cs=vcells v:=hk
  have x0:(0:Int)≤(i:Int):=by omega
  have x1:(i:Int)<(o.consts.length:Int):=by omega
  refine gom ?_
  refine WL.oo (OW.callK rfl (rvalue_fn G2 v) rfl fun v' G' H' h hg=>?_)
  obtain⟨he,rfl,rfl⟩:=h
  cases he
  cases h2:valueR v with
  | true=>
   refine gom ?_
   refine WK.pick [.blk b1 (.cells (obC o (some ⟨b,ofs,none⟩) NA PA cc nc pc) 38 (0,0)), .blk b2 (.cells #[.int .i64 0, .int .i64 0] 34 (0,0)), .blk b4 (.cells (wdC o.wd (some ⟨b,ofs,none⟩) NA PA cc nc pc) 162 (0,0))] ?_
   exact WK.again (i+1,G2) (by dsimp only;omega) ⟨by dsimp only;omega,hg2,all_step hv hall h2⟩ (by exact⟨rfl,rfl,rfl,rfl,trivial⟩) rfl (List.Sublist.refl _)
  | false=>
   have hr:objAns o=(0,0,185):=by
    unfold objAns
    rw[if_neg]
    unfold objR
    rw[all_not hv h2]
    simp
   rw[hr]
   refine gom ?_
   refine WC.rt ?_
   exact QF.p2 (.inl rfl) rfl (.cell rfl inferInstance inferInstance atA rfl rfl) (.tmp rfl) (⟨rfl,hg2,rfl⟩)
 have e2:decide ((i:Int)<(o.consts.length:Int))=false:=decide_eq_false (by omega)
 have hvals:=all_of hall (by omega)
 refine gom ?_
 refine WC.pick [.blk b1 (.cells (obC o CA NA PA cc nc pc) 38 (0,0)), .blk b2 (.cells #[.int .i64 0, .int .i64 0] 34 (0,0)), .blk b4 (.cells (wdC o.wd CA NA PA cc nc pc) 162 (0,0))] ?_
 refine WC.loop (X:=Nat×Gh) (fun x=>[(1, .pointer (some ⟨b1,0,none⟩)),(2, .pointer (some ⟨b2,0,none⟩)),(4, .pointer (some ⟨b4,0,none⟩)),(6, .int .i64 (x.1:Int))]) (fun x=>x.2) (fun _=>[.blk b1 (.cells (obC o CA NA PA cc nc pc) 38 (0,0)), .blk b2 (.cells #[.int .i64 0, .int .i64 0] 34 (0,0)), .blk b4 (.cells (wdC o.wd CA NA PA cc nc pc) 162 (0,0))]) (fun x=>o.needs.length - x.1)
  (fun x=>x.1≤o.needs.length∧G.le x.2∧∀j y,j<x.1→o.needs[j]? =some y→needR y=true) (0,G2) ⟨Nat.zero_le _,hg2,fun j y h=>absurd h (Nat.not_lt_zero _)⟩ (by exact⟨rfl,rfl,rfl,rfl,trivial⟩) rfl (List.Sublist.refl _) fun x hx=>?_
 obtain⟨i,G3⟩:=x
 obtain⟨hi,hg3,hall⟩:=hx
 dsimp only at hi hg3 hall
 have x2:=wrapS i (by omega)
 by_cases hlt:i<o.needs.length
 ·have e2:decide ((i:Int)<(o.needs.length:Int))=true:=decide_eq_true (by omega)
  obtain⟨c,hc⟩:∃c,o.needs[i]? =some c:=⟨_,List.getElem?_eq_getElem hlt⟩
  obtain⟨hcp,hcf,hcn⟩:=hL.nd c (List.mem_of_getElem? hc)
  obtain⟨b,ofs,cs,rfl,hk,hcs⟩:=(hO.mono hg3).needs i c hc
  obtain⟨QA,qc,rfl,hQ⟩:=hk
  have x0:(0:Int)≤(i:Int):=by omega
  have x1:(i:Int)<(o.needs.length:Int):=by omega
  have hbad:needR c=false→objAns o=(0,0,185):=fun h=>by
   unfold objAns
   rw[if_neg]
   unfold objR
   rw[all_not hc h]
   simp
  refine gom ?_
  refine WL.oo (OW.alloc rfl fun b7=>?_)
  refine gom ?_
  refine WL.oo (OW.callK rfl (rplace_fn G3 c.path (by omega)) rfl fun v' G' H' h hg=>?_)
  obtain⟨he,hg4,rfl⟩:=h
  cases he
  clear hg
  obtain⟨G4,rfl⟩:∃G1,G1=G':=⟨_,rfl⟩
  have hg34:=Gh.le_trans hg3 hg4
  cases h6:fileR c.path with
  | false=>
   rw[hbad (by rw[needR,h6,Bool.false_and])]
   refine gom ?_
   refine WC.rt ?_
   exact QF.p2 (.inl rfl) rfl (.cell rfl inferInstance inferInstance atA rfl rfl) (.tmp rfl) (⟨rfl,hg34,rfl⟩)
  | true=>
  refine gom ?_
  refine WL.oo (OW.callK rfl (rWord_fn G4 c.name hcn) rfl fun v' G' H' h hg=>?_)
  obtain⟨he,hg5,rfl⟩:=h
  cases he
  clear hg
  obtain⟨G5,rfl⟩:∃G1,G1=G':=⟨_,rfl⟩
  have hg35:=Gh.le_trans hg34 hg5
  cases h7:wordR c.name with
  | false=>
   rw[hbad (by rw[needR,h6,h7];rfl)]
   refine gom ?_
   refine WC.rt ?_
   exact QF.p2 (.inl rfl) rfl (.cell rfl inferInstance inferInstance atA rfl rfl) (.tmp rfl) (⟨rfl,hg35,rfl⟩)
  | true=>
  refine gom ?_
  refine WL.oo (OW.callK rfl (rhead_fn G5 QA c.params qc c.result ((hQ.mono hg4).mono hg5) hcp) rfl fun v' G' H' h hg=>?_)
  obtain⟨he,rfl,rfl⟩:=h
  cases he
  cases h8:headR c.params c.result with
  | false=>
   rw[hbad (by rw[needR,h6,h7,h8];rfl)]
   refine gom ?_
   refine WC.rt ?_
   exact QF.p2 (.inl rfl) rfl (.cell rfl inferInstance inferInstance atA rfl rfl) (.tmp rfl) (⟨rfl,hg35,rfl⟩)
  | true=>
   refine gom ?_
   refine WK.pick [.blk b1 (.cells (obC o CA (some ⟨b,ofs,none⟩) PA cc nc pc) 38 (0,0)), .blk b2 (.cells #[.int .i64 0, .int .i64 0] 34 (0,0)), .blk b4 (.cells (wdC o.wd CA (some ⟨b,ofs,none⟩) PA cc nc pc) 162 (0,0))] ?_
   exact WK.again (i+1,G5) (by dsimp only;omega) ⟨by dsimp only;omega,hg35,all_step hc hall (by rw[needR,h6,h7,h8];rfl)⟩ (by exact⟨rfl,rfl,rfl,rfl,trivial⟩) rfl (List.Sublist.refl _)
 have e2:decide ((i:Int)<(o.needs.length:Int))=false:=decide_eq_false (by omega)
 have hneeds:=all_of hall (by omega)
 have hob:objAns o=allR o.wd:=by
  unfold objAns
  rw[if_pos (by unfold objR;rw[h1,hvals,h3,h4,h5,hneeds];rfl)]
 rw[hob]
 refine gom ?_
 refine WC.pick [.blk b1 (.cells (obC o CA NA PA cc nc pc) 38 (0,0)), .blk b2 (.cells #[.int .i64 0, .int .i64 0] 34 (0,0)), .blk b4 (.cells (wdC o.wd CA NA PA cc nc pc) 162 (0,0))] ?_
 refine WC.loop (X:=Nat×Gh) (fun x=>[(1, .pointer (some ⟨b1,0,none⟩)),(2, .pointer (some ⟨b2,0,none⟩)),(4, .pointer (some ⟨b4,0,none⟩)),(8, .int .i64 (x.1:Int))]) (fun x=>x.2) (fun _=>[.blk b1 (.cells (obC o CA NA PA cc nc pc) 38 (0,0)), .blk b2 (.cells #[.int .i64 0, .int .i64 0] 34 (0,0)), .blk b4 (.cells (wdC o.wd CA NA PA cc nc pc) 162 (0,0))]) (fun x=>o.procs.length - x.1)
  (fun x=>x.1≤o.procs.length∧G.le x.2∧okSoFar o.wd x.1) (0,G3) ⟨Nat.zero_le _,hg3,fun j h=>absurd h (Nat.not_lt_zero _)⟩ (by exact⟨rfl,rfl,rfl,rfl,trivial⟩) rfl (List.Sublist.refl _) fun x hx=>?_
 obtain⟨k,G4⟩:=x
 obtain⟨hk,hg4,hok⟩:=hx
 dsimp only at hk hg4 hok
 have x2:=wrapS k (by omega)
 by_cases hlt:k<o.procs.length
 rotate_left
 ·have e2:decide ((k:Int)<(o.procs.length:Int))=false:=decide_eq_false (by omega)
  rw[allR_none (w:=o.wd) fun j hj=>hok j (by have hj:j<o.procs.length:=hj;omega)]
  refine gom ?_
  refine WC.rt ?_
  exact QF.p2 (.inl rfl) rfl (.cell rfl inferInstance inferInstance atA rfl rfl) (.tmp rfl) (⟨rfl,hg4,rfl⟩)
 have e2:decide ((k:Int)<(o.procs.length:Int))=true:=decide_eq_true (by omega)
 obtain⟨p,hp⟩:∃p,o.procs[k]? =some p:=⟨_,List.getElem?_eq_getElem hlt⟩
 obtain⟨hpq,hpc,hpn⟩:=hL.pr p (List.mem_of_getElem? hp)
 have hO4:=hO.mono hg4
 obtain⟨b,ofs,cs,rfl,hks,hcs⟩:=hO4.procs k p hp
 obtain⟨QA,qc,IA,ic,rfl,hQ,hI⟩:=hks
 have x0:(0:Int)≤(k:Int):=by omega
 have x1:(k:Int)<(o.procs.length:Int):=by omega
 have hout:=outAt_eq (w:=o.wd) (k:=k) hp
 refine gom ?_
 refine WC.pick [.blk b1 (.cells (obC o CA NA (some ⟨b,ofs,none⟩) cc nc pc) 38 (0,0)), .blk b2 (.cells #[.int .i64 0, .int .i64 0] 34 (0,0)), .blk b4 (.cells (wdC o.wd CA NA (some ⟨b,ofs,none⟩) cc nc pc) 162 (0,0))] ?_
 refine WC.loop (X:=Nat) (fun j=>[(1, .pointer (some ⟨b1,0,none⟩)),(2, .pointer (some ⟨b2,0,none⟩)),(4, .pointer (some ⟨b4,0,none⟩)),(8, .int .i64 (k:Int)),(9, .int .i64 (j:Int))]) (fun _=>G4) (fun _=>[.blk b1 (.cells (obC o CA NA (some ⟨b,ofs,none⟩) cc nc pc) 38 (0,0)), .blk b2 (.cells #[.int .i64 0, .int .i64 0] 34 (0,0)), .blk b4 (.cells (wdC o.wd CA NA (some ⟨b,ofs,none⟩) cc nc pc) 162 (0,0))]) (fun j=>k - j)
  (fun j=>j≤k∧∀m q,m<j→o.procs[m]? =some q→q.name≠p.name) 0 ⟨Nat.zero_le _,fun m q h=>absurd h (Nat.not_lt_zero _)⟩ (by exact⟨rfl,rfl,rfl,rfl,rfl,trivial⟩) rfl (List.Sublist.refl _) fun j hj=>?_
 obtain⟨hj,hdis⟩:=hj
 by_cases hjk:j<k
 ·have y1:decide ((j:Int)<(k:Int))=true:=decide_eq_true (by omega)
  obtain⟨q,hq⟩:∃q,o.procs[j]? =some q:=⟨_,List.getElem?_eq_getElem (by omega)⟩
  obtain⟨b',ofs',cs',hbe,hks',hcs'⟩:=hO4.procs j q hq
  cases hbe
  obtain⟨QA',qc',IA',ic',rfl,_,_⟩:=hks'
  have z0:(0:Int)≤(j:Int):=by omega
  have z1:(j:Int)<(o.procs.length:Int):=by omega
  have z2:=wrapS j (by omega)
  cases hn:(q.name==p.name)with
  | true=>
   have hne:q.name=p.name:=by rw[bytes_beq]at hn;exact of_decide_eq_true hn
   have hin:p.name∈(o.wd.procs.take k).map (·.name):=by
    refine List.mem_map.2 ⟨q,?_,hne⟩
    refine List.mem_of_getElem? (i:=j) ?_
    rw[List.getElem?_take,if_pos hjk];exact hq
   have h0:outAt o.wd k=(0,185):=by rw[hout,procOut,if_pos (.inr hin)]
   have hr:allR o.wd=((k:Int),0,185):=by rw[allR_at (w:=o.wd) hlt hok (by rw[h0];decide),h0]
   rw[hr]
   refine gom ?_
   try rw[hn]
   refine gom ?_
   refine WC.rt ?_
   exact QF.p2 (.inl rfl) rfl (.cell rfl inferInstance inferInstance atA rfl rfl) (.tmp rfl) (⟨rfl,hg4,rfl⟩)
  | false=>
   refine gom ?_
   try rw[hn]
   refine gom ?_
   exact WK.again (j+1) (by omega) ⟨by omega,fun m q' hm hq'=>by
    rcases Nat.lt_or_ge m j with h | h
    ·exact hdis m q' h hq'
    ·obtain rfl:m=j:=by omega
     rw[hq]at hq';cases hq'
     rw[bytes_beq]at hn;exact of_decide_eq_false hn⟩ (by exact⟨rfl,rfl,rfl,rfl,rfl,trivial⟩) rfl (List.Sublist.refl _)
 have y1:decide ((j:Int)<(k:Int))=false:=decide_eq_false (by omega)
 have hnew:p.name∉(o.wd.procs.take k).map (·.name):=fun hm=>by
  obtain⟨q,hq,hqn⟩:=List.mem_map.1 hm
  obtain⟨m,hmq⟩:=List.getElem?_of_mem hq
  rw[List.getElem?_take]at hmq
  split at hmq
  ·exact hdis m q (by omega) hmq hqn
  ·cases hmq
 have hpo:outAt o.wd k=prOut o.wd p:=by rw[hout];exact procOut_new hnew
 have hpf:=rproc_fn G4 o.wd p CA NA (some ⟨b,ofs,none⟩) cc nc pc (RWp.ofO hO4 hL) QA IA qc ic hQ hI hpn hpq
 rw[←hpo]at hpf
 refine gom ?_
 refine WQ.one kr kr (OW.callK rfl (hpf) rfl fun v' G' H' h hg=>?_)
 obtain⟨he,hg5,rfl⟩:=h
 cases he
 clear hg
 obtain⟨G5,rfl⟩:∃G1,G1=G':=⟨_,rfl⟩
 by_cases hb:(outAt o.wd k).2=0
 ·have e4:((outAt o.wd k).2 != 0)=false:=by simpa using hb
  refine gom ?_
  refine WK.pick [.blk b1 (.cells (obC o CA NA (some ⟨b,ofs,none⟩) cc nc pc) 38 (0,0)), .blk b2 (.cells #[.int .i64 0, .int .i64 0] 34 (0,0)), .blk b4 (.cells (wdC o.wd CA NA (some ⟨b,ofs,none⟩) cc nc pc) 162 (0,0))] ?_
  exact WK.again (k+1,G5) (by dsimp only;omega) ⟨by dsimp only;omega,Gh.le_trans hg4 hg5,fun j hj=>by
   rcases Nat.lt_or_ge j k with h | h
   ·exact hok j h
   ·obtain rfl:j=k:=by dsimp only at hj;omega
    exact hb⟩ (by exact⟨rfl,rfl,rfl,rfl,trivial⟩) rfl (List.Sublist.refl _)
 ·have e4:((outAt o.wd k).2 != 0)=true:=by simpa using hb
  rw[allR_at (w:=o.wd) hlt hok hb]
  refine gom ?_
  refine WC.rt ?_
  exact QF.p2 (.inl rfl) rfl (.cell rfl inferInstance inferInstance atA rfl rfl) (.tmp rfl) (⟨rfl,Gh.le_trans hg4 hg5,rfl⟩)
end
end
section
open Go.MapKept
attribute [local irreducible] Tryz.prog
noncomputable def outA (w:Wd) (k:Nat):Int×Int:=match w.procs[k]? with | some p=>procOut w [] p | none=>(0,0)
noncomputable def allA (w:Wd):Int×Int×Int:=
 match (List.range w.procs.length).find? (fun k=>(outA w k).2 != 0)with
 | some k=>((k:Int),(outA w k).1,(outA w k).2)
 | none=>(0,0,0)
structure AK where
 k:Nat
 G:Gh
 es:Array MapEntry
 ck:Nat
 pm:List (ByteArray×Value)
def okA (w:Wd) (k:Nat):Prop:=∀j,j<k→(outA w j).2=0
end
section
def keyT (x:Pt):Ky:=(x.path,x.name)
def ptOk (prs:List Pr) (seen:List Ky) (x:Pt):Bool:=
 decide (0≤x.proc)&&(decide (x.proc<(prs.length:Int))&&(fileR x.path&&(!decide (keyT x∈seen)&&(match prs[x.proc.toNat]? with | some q=>q.exp&&(q.name==x.name) | none=>false))))
def ptsOkR (prs:List Pr) (pts:List Pt):Bool:=(List.range pts.length).all fun i=>match pts[i]? with
 | some x=>ptOk prs ((pts.take i).map keyT) x
 | none=>true
def progR (cs:List V) (prs:List Pr) (pts:List Pt):Bool:=cs.all valueR&&(decide ((cs.length:Int)≤65536)&&(decide ((prs.length:Int)≤4096)&&ptsOkR prs pts))
theorem ptsO_in:∀(ps:List Pr) (n:Nat) {path:ByteArray} {x:Pt},x∈ptsO path ps n→∃j p,ps[j]? =some p∧p.exp=true∧x=⟨path,p.name,((n+j:Nat):Int)⟩
 | [],n,path,x,h=>by simp[ptsO]at h
 | a::r,n,path,x,h=>by
  unfold ptsO at h
  have ih:x∈ptsO path r (n+1)→∃j p,(a::r)[j]? =some p∧p.exp=true∧x=⟨path,p.name,((n+j:Nat):Int)⟩:=fun h=>by
   obtain⟨j,p,h1,h2,h3⟩:=ptsO_in r (n+1) h
   exact⟨j+1,p,by simpa using h1,h2,by rw[h3,show n+1+j=n+(j+1) by omega]⟩
  split at h
  ·rename_i he
   rcases List.mem_cons.1 h with rfl | h
   ·exact⟨0,a,rfl,he,rfl⟩
   ·exact ih h
  ·exact ih h
theorem ptsO_keys (path:ByteArray):∀(ps:List Pr) (n:Nat),((ptsO path ps n).map keyT).Sublist (ps.map fun p=>(path,p.name))
 | [],n=>by simp[ptsO]
 | a::r,n=>by
  unfold ptsO
  split
  ·exact(ptsO_keys path r (n+1)).cons_cons _
  ·exact(ptsO_keys path r (n+1)).cons _
theorem joinT_in:∀(l:List Ob) (n:Nat) {x:Pt},x∈joinT' l n→∃k j o p,l[k]? =some o∧o.procs[j]? =some p∧p.exp=true∧x=⟨o.path,p.name,((n+(sumP (l.take k)+j):Nat):Int)⟩
 | [],n,x,h=>by simp[joinT']at h
 | a::r,n,x,h=>by
  unfold joinT' at h
  rcases List.mem_append.1 h with h | h
  ·obtain⟨j,p,h1,h2,h3⟩:=ptsO_in _ _ h
   exact⟨0,j,a,p,rfl,h1,h2,by rw[h3,List.take_zero,show sumP []=0 from rfl,Nat.zero_add]⟩
  ·obtain⟨k,j,o,p,h1,h2,h3,h4⟩:=joinT_in r _ h
   exact⟨k+1,j,o,p,by simpa using h1,h2,h3,by rw[h4,List.take_succ_cons,sumP_cons];congr 2;omega⟩
theorem joinT_keys:∀(l:List Ob) (n:Nat),((joinT' l n).map keyT).Sublist ((allPr l).map keyP)
 | [],n=>by simp[joinT',allPr]
 | a::r,n=>by
  unfold joinT' allPr
  rw[List.map_append,List.flatMap_cons,List.map_append,List.map_map]
  exact(ptsO_keys a.path a.procs n).append (joinT_keys r _)
section
variable {l:List Ob} (hv:∀o∈l,(objAns o).2.2=0) (hp:(l.map (·.path)).Nodup)
include hv hp
end
end
def turned (l:List Ob) (k:Nat):List Ob:=l.drop k++l.take k
section
section
variable {L:List (Nat×Value)} {d:Option Tmp} {ty:TypeId} {pos:String} {af:Array Edge} {gu:Option (Nat×Bool)}
end
attribute [local irreducible] Tryz.prog
def sameO (o p:Oc):Bool:=decide (o.en=p.en∧o.val=p.val∧o.steps=p.steps∧o.out=p.out)
end
section
open Go.MapKept
attribute [local irreducible] Tryz.prog runR ptR
abbrev ocC (o:Oc) (A:Option Addr) (cap:Nat):Array Value:= #[.int .i64 o.en, .int .i64 o.val.t, .int .i64 o.val.i, .bool o.val.b, .string o.val.s, .slice A o.out.length cap, .int .i64 o.steps]
end
section
open Go.MapKept
def kpV (k:Ky):Value:= .agg #[.string k.1, .string k.2, .int .i64 0]
def OneM (m:List (Ky×Value)) (seen:List Ky):Prop:=∀k,(getA m k).getD (.int .i64 0)= .int .i64 (if k∈seen then 1 else 0)
end
section
open Go.MapKept
attribute [local irreducible] Tryz.prog ptsOkR fileR valueR
structure PK where
 i:Nat
 G:Gh
 es:Array MapEntry
 ck:Nat
 m:List (Ky×Value)
abbrev pgB (b:Nat) (CA PA QA:Option Addr) (c cc p pc q qc:Nat):Own:= .blk b (.cells #[.slice CA c cc, .slice PA p pc, .slice QA q qc] 27 (0,0))
end
section
open Go.MapKept
attribute [local irreducible] Tryz.prog progR allA linkE allPr joinP joinT' sumP sumC objAns ptR
noncomputable def progAns (cs:List V) (prs:List Pr) (pts:List Pt):Int×Int×Int:=if progR cs prs pts then allA ⟨cs,[],prs⟩else(0,0,185)
structure GLim (cs:List V) (prs:List Pr) (pts:List Pt):Prop where
 cl:cs.length≤100000000000000
 pl:prs.length≤100000000000000
 tl:pts.length≤100000000000000
 ts:∀x∈pts,x.path.size≤4000000000
 pr:∀q∈prs,q.params.length≤100000000000000∧q.code.length≤100000000000000∧q.name.size≤100000000000000
section
attribute [local semireducible] joinP joinT' sumP allPr
theorem joinP_in (L:List (ByteArray×Pr)):∀(l:List Ob) (cs ps:Nat) {q:Pr},q∈joinP L l cs ps→∃o∈l,∃p∈o.procs,q.params=p.params∧q.code.length=p.code.length∧q.name=p.name
 | [],cs,ps,q,h=>by simp[joinP]at h
 | a::r,cs,ps,q,h=>by
  unfold joinP at h
  rcases List.mem_append.1 h with h | h
  ·obtain⟨p,hp,rfl⟩:=List.mem_map.1 h
   exact⟨a,List.mem_cons_self,p,hp,rfl,by simp[moveP],rfl⟩
  ·obtain⟨o,ho,p,hp,h1⟩:=joinP_in L r _ _ h
   exact⟨o,List.mem_cons_of_mem _ ho,p,hp,h1⟩
theorem glim_link {l:List Ob} (hL:LLim l):GLim (l.flatMap (·.consts)) (joinP (allPr l) l 0 0) (joinT' l 0):=by
 have h1:=hL.sumC
 have h2:=hL.sumP
 have h3:(joinP (allPr l) l 0 0).length=sumP l:=join_len _ _ _ _
 have h4:(joinT' l 0).length≤sumP l:=by
  have:=(joinT_keys l 0).length_le
  rw[List.length_map,List.length_map,all_len]at this
  exact this
 refine⟨by rw[consts_len];omega,by omega,by omega,fun x hx=>?_,fun q hq=>?_⟩
 ·obtain⟨k,j,o,p,hk,_,_,rfl⟩:=joinT_in l 0 hx
  exact(hL.lim o (List.mem_of_getElem? hk)).path
 ·obtain⟨o,ho,p,hp,e1,e2,e3⟩:=joinP_in _ l 0 0 hq
  have:=(hL.lim o ho).pr p hp
  rw[e1,e2,e3]
  exact this
end
end
section
open Go.MapKept
theorem Stp.freeze {S:Nat→Nat→Prop} {G0 G:Gh} {w0 w:World} {H:List Own} (hs:Sat G H w) (stp:Stp S G0 w0 G H w) {j b:Nat} {c:Array Value} {T:TypeId} (hj:At H j (.blk b (.cells c T (0,0)))):Stp S G0 w0 (G.add b c) (H.eraseIdx j) w:=by
 refine⟨stp.size,stp.keep,Gh.le_trans stp.gle (hs.frozen hj).1,fun b' o v e=>?_,fun x hx=>stp.own x (List.mem_of_mem_eraseIdx hx),stp.weq⟩
 unfold Gh.add at e
 split at e
 ·rename_i hb
  subst hb
  exact .inr (stp.own _ (List.mem_of_getElem? hj.get) b' o rfl)
 ·exact stp.gnew b' o v e
theorem Stp.less {S:Nat→Nat→Prop} {G0 G:Gh} {w0 w:World} {H H':List Own} (stp:Stp S G0 w0 G H w) (h:H'.Sublist H):Stp S G0 w0 G H' w:=
 ⟨stp.size,stp.keep,stp.gle,stp.gnew,fun x hx=>stp.own x (h.subset hx),stp.weq⟩
theorem Fn.freezeK {α:Type} {k:Kd α} (hn:0<k.n) {P:Program} {f:FuncId} {vs:Array Value} {G:Gh} {H:List Own} {R R':Ending→Gh→List Own→Prop} (h:Fn P f vs G H R)
  (hr:∀e G' H',R e G' H'→∃T A cap l x j,KVec k T G' A cap l x∧At H' j x∧∀G'',G'.le G''→Sl k G'' A l→R' e G'' (H'.eraseIdx j)):Fn P f vs G H R':=
 fun w hs hx=>(h w hs hx).mono fun e w' ⟨G',H',r,s,st⟩=>by
  obtain⟨T,A,cap,l,x,j,⟨cs,⟨hl,hv⟩,hK⟩,hj,hk⟩:=hr _ _ _ r
  rcases hv with⟨h1,h2,h3,h4⟩ | ⟨b,c,rfl,rfl,h1,h2,rfl⟩
  ·refine⟨G',_,hk G' (Gh.le_refl _) (hK.sl hn (.inl ?_)),s.sub (List.eraseIdx_sublist ..),st.less (List.eraseIdx_sublist ..)⟩
   rw[h2]at hl
   exact List.eq_nil_of_length_eq_zero (by simpa using hl)
  ·have hg:=(s.frozen hj).1
   refine⟨_,_,hk _ hg ((hK.mono hg).sl hn (.inr ⟨b,rfl,fun i v e=>?_⟩)),(s.frozen hj).2,Stp.freeze s st hj⟩
   rw[Nat.zero_add,Gh.add_at]
   rw[List.getElem?_take]at e
   split at e
   ·simpa using e
   ·cases e
noncomputable def csZ (l:List Ob):List V:=if linkE l=0 then l.flatMap (·.consts)else []
noncomputable def prZ (l:List Ob):List Pr:=if linkE l=0 then joinP (allPr l) l 0 0 else []
noncomputable def ptZ (l:List Ob):List Pt:=if linkE l=0 then joinT' l 0 else []
attribute [local irreducible] Tryz.prog linkE allPr joinP joinT'
end
end Go.Proofs.YtcnlkfocbbkdhaaGreatDoor.Gb
