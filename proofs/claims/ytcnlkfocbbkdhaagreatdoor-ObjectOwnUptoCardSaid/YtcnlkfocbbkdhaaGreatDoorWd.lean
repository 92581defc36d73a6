/- Whether what an instruction takes is of the right types; what is wrong with an instruction: walked. What is wrong with an instruction that is reached, and with the first such: walked. Values, heads, instructions by themselves: walked. Contracts of the library, laid at this program by the kit. From a contract of the small logic to what a row asks: of what was there nothing turns. Texts: single bytes, parts of texts; the library's contracts as those of the small logic. Words: walked. Tokens, as far as words go: walked. -/
import Derived.Test.YtcnlkfocbbkdhaaGreatDoorWc
import Derived.Shelf.Small.Strs
import Derived.Shelf.Utf8.RuneCount
import Derived.Shelf.Strconv.Itoa0
import Derived.Shelf.Strconv.Itoa1
import Derived.Shelf.LaysM
import Derived.Shelf.Strconv.Itoa2
import Derived.Shelf.Strconv.Itoa3
import Derived.Shelf.Strconv.Itoa4
import Derived.Shelf.Strconv.ParseIntEmpty
import Derived.Shelf.Strconv.Clone
import Derived.Shelf.Strconv.SyntaxError
import Derived.Shelf.LaysC
import Derived.Shelf.Strconv.ToError
import Derived.Shelf.Strconv.Lower
import Derived.Shelf.Strconv.ParseUint10
import Derived.Shelf.Strconv.ParseUint10Empty
import Derived.Shelf.Strconv.ParseUint10Any
import Derived.Shelf.Strconv.ParseInt10
import Derived.Shelf.Strconv.RangeError
import Derived.Shelf.Strconv.ToErrorRange
import Derived.Shelf.Strconv.ParseUintEmpty
import Derived.Shelf.Strconv.ParseUint10b64
import Derived.Shelf.Strconv.ParseUint10b32
import Derived.Shelf.Strconv.ParseUint10b16
import Derived.Shelf.Strconv.ParseUint10b8
import Derived.Shelf.Strconv.ParseUint10At
import Derived.Shelf.Strconv.ParseInt10At64
import Derived.Shelf.Strconv.ParseInt10At32
import Derived.Shelf.Strconv.ParseInt10At16
import Derived.Shelf.Strconv.ParseInt10At8
import Derived.Shelf.Strconv.ParseInt10All
import Derived.Shelf.Strconv.ParseIntPublic10
import Derived.Shelf.Strings.Search1
import Derived.Shelf.Strings.Search2
import Derived.Shelf.Strings.Search3
import Derived.Shelf.Strings.Count
import Derived.Shelf.Strings.Shaped
import Derived.Shelf.Strings.Prefix
import Derived.Shelf.Strings.Split
import Derived.Shelf.Unicode.Decode
import Derived.Shelf.Strings.RuneCount
import Derived.Shelf.Strings.Explode
import Derived.Shelf.Unicode.DecodeSlow
import Derived.Shelf.Unicode.DecodeAny
import Derived.Test.YtcnlkfocbbkdhaaGreatDoorProg
import Derived.RowKit3
import Derived.Laws.Strings3
import Derived.Laws.BytesArg
import Derived.Lib.SmallJoins
set_option linter.unusedVariables false
set_option linter.unusedSimpArgs false
set_option linter.unusedSectionVars false
namespace Go.Proofs.YtcnlkfocbbkdhaaGreatDoor.Gb
open Go Go.Proofs
section
attribute [local irreducible] Tryz.prog
theorem all_fn (G:Gh) (t:Int) (b:Nat) (A:Option Addr) (l:List Int) (cap:Nat) (hA:Sl (Kd.int .i64) G A l) (hl:l.length≤1000000000):
  Fn Tryz.prog 192 #[.int .i64 t, .pointer (some ⟨b,0,none⟩)] G [.blk b (.cells #[.slice A l.length cap] 43 (0,0))]
   fun e G' H'=>e= .returned (.bool (allT t l))∧G=G'∧H'=[.blk b (.cells #[.slice A l.length cap] 43 (0,0))]:=by
 refine Fn.enter Tryz.func192 rfl rfl fun w0=>?_
 refine gom ?_
 refine WC.loop (X:=Nat) (fun i=>[(0, .int .i64 t),(6, .slice A l.length cap),(7, .int .i64 l.length),(8, .int .i64 i)]) (fun _=>G) (fun _=>[.blk b (.cells #[.slice A l.length cap] 43 (0,0))]) (fun i=>l.length - i) (fun i=>i≤l.length∧∀j x,j<i→l[j]? =some x→x=t) 0 ⟨Nat.zero_le _,fun j x h=>by omega⟩ (by exact⟨rfl,rfl,rfl,rfl,trivial⟩) rfl (List.Sublist.refl _) fun i hx=>?_
 obtain⟨hi,hall⟩:=hx
 by_cases hlt:i<l.length
 rotate_left
 ·have e2:decide ((i:Int)<(l.length:Int))=false:=decide_eq_false (by omega)
  have he:allT t l=true:=by
   unfold allT
   rw[List.all_eq_true]
   intro x hx
   obtain⟨j,hj⟩:=List.getElem?_of_mem hx
   have:=hall j x (by have:=(List.getElem?_eq_some_iff.1 hj).1;omega) hj
   simpa using this
  refine gom ?_
  refine WC.rt ?_
  exact QF.p1 (.inl rfl) rfl (.tmp rfl) (⟨by rw[he],rfl,rfl⟩)
 have e2:decide ((i:Int)<(l.length:Int))=true:=decide_eq_true (by omega)
 obtain⟨x,hx⟩:∃x,l[i]? =some x:=⟨_,List.getElem?_eq_getElem hlt⟩
 obtain⟨ab,ao,rfl,hca⟩:=hA.at hx
 have x0:(0:Int)≤i:=by omega
 have x2:(i:Int)<(l.length:Int):=by omega
 have x4:=wrapS i (by omega)
 by_cases hxt:x=t
 ·have e3:(x != t)=false:=by simpa using hxt
  refine gom ?_
  exact WK.again (i+1) (by omega) ⟨by omega,fun j y hj hy=>by
   rcases Nat.lt_or_ge j i with h | h
   ·exact hall j y h hy
   ·obtain rfl:j=i:=by omega
    rw[hx]at hy;cases hy;exact hxt⟩ (by exact⟨rfl,rfl,rfl,rfl,trivial⟩) rfl (List.Sublist.refl _)
 ·have e3:(x != t)=true:=by simpa using hxt
  have he:allT t l=false:=by
   unfold allT
   rw[List.all_eq_false]
   exact⟨x,List.mem_of_getElem? hx,by simpa using hxt⟩
  refine gom ?_
  refine WC.rt ?_
  exact QF.p1 (.inl rfl) rfl (.tmp rfl) (⟨by rw[he],rfl,rfl⟩)
theorem Cs.drop {G:Gh} {b o:Nat} {cs:List Value} (h:Cs G b o cs) (k:Nat):Cs G b (o+k) (cs.drop k):=fun j v e=>by
 rw[List.getElem?_drop]at e
 rw[Nat.add_assoc];exact h _ v e
theorem FRep.proc {G:Gh} {p:Pr} {bf bw:Nat} {PA CA:Option Addr} {pc cc:Nat} {TA:Option Addr} {tn tc:Nat} (h:FRep G p bf bw PA CA pc cc TA tn tc):
  Cs G bf (0+1) [.string p.name, .bool p.exp, .slice PA p.params.length pc, .int .i64 p.locals, .int .i64 p.result, .slice CA p.code.length cc, .slice TA tn tc]:=h.cells.drop 1
section
variable (G:Gh) (w:Wd) (p:Pr) (bf bw:Nat) (CA NA PA:Option Addr) (cc nc pc:Nat) (QA IA:Option Addr) (qc ic:Nat) (TA:Option Addr) (tn tc:Nat) (hW:WRep G w bw CA NA PA cc nc pc) (hF:FRep G p bf bw QA IA qc ic TA tn tc)
include hW hF
set_option maxHeartbeats 4000000 in
theorem kinds_fn (s:SS) (VA:Option Addr) (vc:Nat) (SA:Option Addr) (sc:Nat) (hS:SRep G s VA vc SA sc) (hv:s.vars.length≤1000000000) (c:Int) (n:Nat) (ho:EOk w s.vars.length c n) (A:Option Addr) (cap:Nat) (top:List Int) (hA:Sl (Kd.int .i64) G A top) (ht:top.length≤1000000000)
  (h1:c=3∨c=11→1≤top.length) (h2:c=12∨c=13→2≤top.length):
  Fn Tryz.prog 162 #[.pointer (some ⟨bf,0,none⟩), .agg #[.int .i64 c, .int .i64 n],ssV s VA vc SA sc, .slice A top.length cap] G []
   fun e G' H'=>e= .returned (.bool (kindsR w p (c,n) s top))∧G=G'∧H'=[]:=by
 have hfc:=hF.cells
 have hwc:=hW.cells
 have hfp:=hF.proc
 obtain⟨sr,su,sv,sk⟩:=s
 dsimp only at hv ho
 obtain⟨ho1,ho2,ho3,ho7,ho8⟩:=ho
 refine Fn.enter Tryz.func162 rfl rfl fun w0=>?_
 refine WC.seq ?_
 refine WC.region ?_
 refine WL.oo (OW.box rfl rfl fun b1=>?_)
 refine WL.oo (OW.box rfl rfl fun b2=>?_)
 refine WL.oo (OW.box rfl rfl fun b3=>?_)
 refine gom ?_
 refine WL.pp (Gp.makeFunc rfl rfl) ?_
 refine WL.pick [.blk b3 (.cells #[.slice A top.length cap] 43 (0,0)), .blk b2 (.cells #[.bool sr, .bool su, .slice VA sv.length vc, .slice SA sk.length sc] 203 (0,0)), .blk b1 (.cells #[.int .i64 c, .int .i64 n] 50 (0,0))] ?_
 by_cases c2:c=2
 ·subst c2
  obtain⟨v,hvv⟩:∃v,sv[n]? =some v:=⟨_,List.getElem?_eq_getElem (ho2 rfl)⟩
  obtain⟨cb,co,rfl,hcs⟩:=hS.vars.at hvv
  have x0:(0:Int)≤(n:Int):=by omega
  have x1:(n:Int)<(sv.length:Int):=by have:=ho2 rfl;omega
  have he:kindsR w p ((2:Int),(n:Int)) ⟨sr,su,sv,sk⟩ top=(v != 0):=by unfold kindsR;simp[hvv]
  refine gom ?_
  refine WC.rt ?_
  exact QF.p1 (.inl rfl) rfl (.tmp rfl) (⟨by rw[he],rfl,rfl⟩)
 have y2:(c==2)=false:=by simpa using c2
 by_cases c3:c=3
 ·subst c3
  obtain⟨x,hx⟩:∃x,top[0]? =some x:=⟨_,List.getElem?_eq_getElem (by have:=h1 (by decide);omega)⟩
  obtain⟨cb,co,rfl,hcs⟩:=hA.at hx
  have z1:(0:Int)<(top.length:Int):=by have:=h1 (by decide);omega
  have he:kindsR w p ((3:Int),(n:Int)) ⟨sr,su,sv,sk⟩ top=(x != 0):=by unfold kindsR;simp[hx]
  refine gom ?_
  refine WC.rt ?_
  exact QF.p1 (.inl rfl) rfl (.tmp rfl) (⟨by rw[he],rfl,rfl⟩)
 have y3:(c==3)=false:=by simpa using c3
 by_cases c11:c=11
 ·subst c11
  obtain⟨x,hx⟩:∃x,top[0]? =some x:=⟨_,List.getElem?_eq_getElem (by have:=h1 (by decide);omega)⟩
  obtain⟨cb,co,rfl,hcs⟩:=hA.at hx
  have z1:(0:Int)<(top.length:Int):=by have:=h1 (by decide);omega
  have he:kindsR w p ((11:Int),(n:Int)) ⟨sr,su,sv,sk⟩ top=(x != 0):=by unfold kindsR;simp[hx]
  refine gom ?_
  refine WC.rt ?_
  exact QF.p1 (.inl rfl) rfl (.tmp rfl) (⟨by rw[he],rfl,rfl⟩)
 have y11:(c==11)=false:=by simpa using c11
 by_cases c6:c=6
 ·subst c6
  have he:kindsR w p ((6:Int),(n:Int)) ⟨sr,su,sv,sk⟩ top=allT 2 top:=by unfold kindsR;simp
  refine gom ?_
  refine WL.oo (OW.callVK rfl rfl rfl (all_fn G 2 b3 A top cap hA ht) rfl fun v' G' H' h hg=>?_)
  obtain⟨h0,rfl,rfl⟩:=h
  cases h0
  refine gom ?_
  refine WC.rt ?_
  exact QF.p1 (.inl rfl) rfl (.tmp rfl) (⟨by rw[he],rfl,rfl⟩)
 have y6:(c==6)=false:=by simpa using c6
 by_cases c25:c=25
 ·subst c25
  have he:kindsR w p ((25:Int),(n:Int)) ⟨sr,su,sv,sk⟩ top=allT 2 top:=by unfold kindsR;simp
  refine gom ?_
  refine WL.oo (OW.callVK rfl rfl rfl (all_fn G 2 b3 A top cap hA ht) rfl fun v' G' H' h hg=>?_)
  obtain⟨h0,rfl,rfl⟩:=h
  cases h0
  refine gom ?_
  refine WC.rt ?_
  exact QF.p1 (.inl rfl) rfl (.tmp rfl) (⟨by rw[he],rfl,rfl⟩)
 have y25:(c==25)=false:=by simpa using c25
 by_cases c7:c=7
 ·subst c7
  obtain⟨q,hq⟩:∃q,w.procs[n]? =some q:=⟨_,List.getElem?_eq_getElem (ho7 rfl)⟩
  obtain⟨cb,co,cs,rfl,hk,hcs⟩:=hW.procs n q hq
  obtain⟨PA2,pc2,CA2,cc2,rfl,hk1,hk2⟩:=hk
  have x0:(0:Int)≤(n:Int):=by omega
  have x1:(n:Int)<(w.procs.length:Int):=by have:=ho7 rfl;omega
  have he:kindsR w p ((7:Int),(n:Int)) ⟨sr,su,sv,sk⟩ top=(top==q.params):=by unfold kindsR;simp[hq]
  refine gom ?_
  refine WQ.one kr kr (OW.callK rfl (equal_types G [] A PA2 cap pc2 top q.params hA hk1 (by omega)) rfl fun v' G' H' h hg=>?_)
  obtain⟨h0,rfl,rfl⟩:=h
  cases h0
  refine gom ?_
  refine WC.rt ?_
  exact QF.p1 (.inl rfl) rfl (.tmp rfl) (⟨by rw[he],rfl,rfl⟩)
 have y7:(c==7)=false:=by simpa using c7
 by_cases c8:c=8
 ·subst c8
  obtain⟨q,hq⟩:∃q,w.needs[n]? =some q:=⟨_,List.getElem?_eq_getElem (ho8 rfl)⟩
  obtain⟨cb,co,cs,rfl,hk,hcs⟩:=hW.needs n q hq
  obtain⟨PA2,pc2,rfl,hk1⟩:=hk
  have x0:(0:Int)≤(n:Int):=by omega
  have x1:(n:Int)<(w.needs.length:Int):=by have:=ho8 rfl;omega
  have he:kindsR w p ((8:Int),(n:Int)) ⟨sr,su,sv,sk⟩ top=(top==q.params):=by unfold kindsR;simp[hq]
  refine gom ?_
  refine WQ.one kr kr (OW.callK rfl (equal_types G [] A PA2 cap pc2 top q.params hA hk1 (by omega)) rfl fun v' G' H' h hg=>?_)
  obtain⟨h0,rfl,rfl⟩:=h
  cases h0
  refine gom ?_
  refine WC.rt ?_
  exact QF.p1 (.inl rfl) rfl (.tmp rfl) (⟨by rw[he],rfl,rfl⟩)
 have y8:(c==8)=false:=by simpa using c8
 by_cases c10:c=10
 ·subst c10
  have he:kindsR w p ((10:Int),(n:Int)) ⟨sr,su,sv,sk⟩ top=allT p.result top:=by unfold kindsR;simp
  refine gom ?_
  refine WL.oo (OW.callVK rfl rfl rfl (all_fn G p.result b3 A top cap hA ht) rfl fun v' G' H' h hg=>?_)
  obtain⟨h0,rfl,rfl⟩:=h
  cases h0
  refine gom ?_
  refine WC.rt ?_
  exact QF.p1 (.inl rfl) rfl (.tmp rfl) (⟨by rw[he],rfl,rfl⟩)
 have y10:(c==10)=false:=by simpa using c10
 by_cases c12:c=12
 ·subst c12
  obtain⟨x,hx⟩:∃x,top[0]? =some x:=⟨_,List.getElem?_eq_getElem (by have:=h2 (by decide);omega)⟩
  obtain⟨y,hy⟩:∃y,top[1]? =some y:=⟨_,List.getElem?_eq_getElem (by have:=h2 (by decide);omega)⟩
  obtain⟨cb,co,rfl,hcs⟩:=hA.at hx
  obtain⟨cb',co',hce,hcs2⟩:=hA.at hy
  cases hce
  have z1:(0:Int)<(top.length:Int):=by have:=h2 (by decide);omega
  have z2:(1:Int)<(top.length:Int):=by have:=h2 (by decide);omega
  have he:kindsR w p ((12:Int),(n:Int)) ⟨sr,su,sv,sk⟩ top=(x==y&&x != 0):=by unfold kindsR;simp[hx,hy]
  cases hxy:(x==y)with
  | true=>
   refine gom ?_
   refine WC.rt ?_
   exact QF.p1 (.inl rfl) rfl (.tmp rfl) (⟨by rw[he,hxy];rfl,rfl,rfl⟩)
  | false=>
   refine gom ?_
   refine WC.rt ?_
   exact QF.p1 (.inl rfl) rfl (.tmp rfl) (⟨by rw[he,hxy];rfl,rfl,rfl⟩)
 have y12:(c==12)=false:=by simpa using c12
 by_cases c13:c=13
 ·subst c13
  obtain⟨x,hx⟩:∃x,top[0]? =some x:=⟨_,List.getElem?_eq_getElem (by have:=h2 (by decide);omega)⟩
  obtain⟨y,hy⟩:∃y,top[1]? =some y:=⟨_,List.getElem?_eq_getElem (by have:=h2 (by decide);omega)⟩
  obtain⟨cb,co,rfl,hcs⟩:=hA.at hx
  obtain⟨cb',co',hce,hcs2⟩:=hA.at hy
  cases hce
  have z1:(0:Int)<(top.length:Int):=by have:=h2 (by decide);omega
  have z2:(1:Int)<(top.length:Int):=by have:=h2 (by decide);omega
  have he:kindsR w p ((13:Int),(n:Int)) ⟨sr,su,sv,sk⟩ top=(x==y&&x != 0):=by unfold kindsR;simp[hx,hy]
  cases hxy:(x==y)with
  | true=>
   refine gom ?_
   refine WC.rt ?_
   exact QF.p1 (.inl rfl) rfl (.tmp rfl) (⟨by rw[he,hxy];rfl,rfl,rfl⟩)
  | false=>
   refine gom ?_
   refine WC.rt ?_
   exact QF.p1 (.inl rfl) rfl (.tmp rfl) (⟨by rw[he,hxy];rfl,rfl,rfl⟩)
 have y13:(c==13)=false:=by simpa using c13
 by_cases c14:c=14
 ·subst c14
  have he:kindsR w p ((14:Int),(n:Int)) ⟨sr,su,sv,sk⟩ top=(allT 1 top || allT 3 top):=by unfold kindsR;simp
  refine gom ?_
  refine WL.oo (OW.callVK rfl rfl rfl (all_fn G 1 b3 A top cap hA ht) rfl fun v' G' H' h hg=>?_)
  obtain⟨h0,rfl,rfl⟩:=h
  cases h0
  cases h5:allT 1 top with
  | true=>
   refine gom ?_
   refine WC.rt ?_
   exact QF.p1 (.inl rfl) rfl (.tmp rfl) (⟨by rw[he,h5];rfl,rfl,rfl⟩)
  | false=>
   refine gom ?_
   refine WL.oo (OW.callVK rfl rfl rfl (all_fn G 3 b3 A top cap hA ht) rfl fun v' G' H' h hg=>?_)
   obtain⟨h0,rfl,rfl⟩:=h
   cases h0
   refine gom ?_
   refine WC.rt ?_
   exact QF.p1 (.inl rfl) rfl (.tmp rfl) (⟨by rw[he,h5];rfl,rfl,rfl⟩)
 have y14:(c==14)=false:=by simpa using c14
 by_cases c15:c=15
 ·subst c15
  have he:kindsR w p ((15:Int),(n:Int)) ⟨sr,su,sv,sk⟩ top=(allT 1 top || allT 3 top):=by unfold kindsR;simp
  refine gom ?_
  refine WL.oo (OW.callVK rfl rfl rfl (all_fn G 1 b3 A top cap hA ht) rfl fun v' G' H' h hg=>?_)
  obtain⟨h0,rfl,rfl⟩:=h
  cases h0
  cases h5:allT 1 top with
  | true=>
   refine gom ?_
   refine WC.rt ?_
   exact QF.p1 (.inl rfl) rfl (.tmp rfl) (⟨by rw[he,h5];rfl,rfl,rfl⟩)
  | false=>
   refine gom ?_
   refine WL.oo (OW.callVK rfl rfl rfl (all_fn G 3 b3 A top cap hA ht) rfl fun v' G' H' h hg=>?_)
   obtain⟨h0,rfl,rfl⟩:=h
   cases h0
   refine gom ?_
   refine WC.rt ?_
   exact QF.p1 (.inl rfl) rfl (.tmp rfl) (⟨by rw[he,h5];rfl,rfl,rfl⟩)
 have y15:(c==15)=false:=by simpa using c15
 by_cases c16:c=16
 ·subst c16
  have he:kindsR w p ((16:Int),(n:Int)) ⟨sr,su,sv,sk⟩ top=(allT 1 top || allT 3 top):=by unfold kindsR;simp
  refine gom ?_
  refine WL.oo (OW.callVK rfl rfl rfl (all_fn G 1 b3 A top cap hA ht) rfl fun v' G' H' h hg=>?_)
  obtain⟨h0,rfl,rfl⟩:=h
  cases h0
  cases h5:allT 1 top with
  | true=>
   refine gom ?_
   refine WC.rt ?_
   exact QF.p1 (.inl rfl) rfl (.tmp rfl) (⟨by rw[he,h5];rfl,rfl,rfl⟩)
  | false=>
   refine gom ?_
   refine WL.oo (OW.callVK rfl rfl rfl (all_fn G 3 b3 A top cap hA ht) rfl fun v' G' H' h hg=>?_)
   obtain⟨h0,rfl,rfl⟩:=h
   cases h0
   refine gom ?_
   refine WC.rt ?_
   exact QF.p1 (.inl rfl) rfl (.tmp rfl) (⟨by rw[he,h5];rfl,rfl,rfl⟩)
 have y16:(c==16)=false:=by simpa using c16
 by_cases c17:c=17
 ·subst c17
  have he:kindsR w p ((17:Int),(n:Int)) ⟨sr,su,sv,sk⟩ top=(allT 1 top || allT 3 top):=by unfold kindsR;simp
  refine gom ?_
  refine WL.oo (OW.callVK rfl rfl rfl (all_fn G 1 b3 A top cap hA ht) rfl fun v' G' H' h hg=>?_)
  obtain⟨h0,rfl,rfl⟩:=h
  cases h0
  cases h5:allT 1 top with
  | true=>
   refine gom ?_
   refine WC.rt ?_
   exact QF.p1 (.inl rfl) rfl (.tmp rfl) (⟨by rw[he,h5];rfl,rfl,rfl⟩)
  | false=>
   refine gom ?_
   refine WL.oo (OW.callVK rfl rfl rfl (all_fn G 3 b3 A top cap hA ht) rfl fun v' G' H' h hg=>?_)
   obtain⟨h0,rfl,rfl⟩:=h
   cases h0
   refine gom ?_
   refine WC.rt ?_
   exact QF.p1 (.inl rfl) rfl (.tmp rfl) (⟨by rw[he,h5];rfl,rfl,rfl⟩)
 have y17:(c==17)=false:=by simpa using c17
 by_cases c18:c=18
 ·subst c18
  have he:kindsR w p ((18:Int),(n:Int)) ⟨sr,su,sv,sk⟩ top=allT 1 top:=by unfold kindsR;simp
  refine gom ?_
  refine WL.oo (OW.callVK rfl rfl rfl (all_fn G 1 b3 A top cap hA ht) rfl fun v' G' H' h hg=>?_)
  obtain⟨h0,rfl,rfl⟩:=h
  cases h0
  refine gom ?_
  refine WC.rt ?_
  exact QF.p1 (.inl rfl) rfl (.tmp rfl) (⟨by rw[he],rfl,rfl⟩)
 have y18:(c==18)=false:=by simpa using c18
 by_cases c19:c=19
 ·subst c19
  have he:kindsR w p ((19:Int),(n:Int)) ⟨sr,su,sv,sk⟩ top=allT 1 top:=by unfold kindsR;simp
  refine gom ?_
  refine WL.oo (OW.callVK rfl rfl rfl (all_fn G 1 b3 A top cap hA ht) rfl fun v' G' H' h hg=>?_)
  obtain⟨h0,rfl,rfl⟩:=h
  cases h0
  refine gom ?_
  refine WC.rt ?_
  exact QF.p1 (.inl rfl) rfl (.tmp rfl) (⟨by rw[he],rfl,rfl⟩)
 have y19:(c==19)=false:=by simpa using c19
 by_cases c21:c=21
 ·subst c21
  have he:kindsR w p ((21:Int),(n:Int)) ⟨sr,su,sv,sk⟩ top=allT 1 top:=by unfold kindsR;simp
  refine gom ?_
  refine WL.oo (OW.callVK rfl rfl rfl (all_fn G 1 b3 A top cap hA ht) rfl fun v' G' H' h hg=>?_)
  obtain⟨h0,rfl,rfl⟩:=h
  cases h0
  refine gom ?_
  refine WC.rt ?_
  exact QF.p1 (.inl rfl) rfl (.tmp rfl) (⟨by rw[he],rfl,rfl⟩)
 have y21:(c==21)=false:=by simpa using c21
 by_cases c22:c=22
 ·subst c22
  have he:kindsR w p ((22:Int),(n:Int)) ⟨sr,su,sv,sk⟩ top=allT 1 top:=by unfold kindsR;simp
  refine gom ?_
  refine WL.oo (OW.callVK rfl rfl rfl (all_fn G 1 b3 A top cap hA ht) rfl fun v' G' H' h hg=>?_)
  obtain⟨h0,rfl,rfl⟩:=h
  cases h0
  refine gom ?_
  refine WC.rt ?_
  exact QF.p1 (.inl rfl) rfl (.tmp rfl) (⟨by rw[he],rfl,rfl⟩)
 have y22:(c==22)=false:=by simpa using c22
 by_cases c23:c=23
 ·subst c23
  have he:kindsR w p ((23:Int),(n:Int)) ⟨sr,su,sv,sk⟩ top=allT 1 top:=by unfold kindsR;simp
  refine gom ?_
  refine WL.oo (OW.callVK rfl rfl rfl (all_fn G 1 b3 A top cap hA ht) rfl fun v' G' H' h hg=>?_)
  obtain⟨h0,rfl,rfl⟩:=h
  cases h0
  refine gom ?_
  refine WC.rt ?_
  exact QF.p1 (.inl rfl) rfl (.tmp rfl) (⟨by rw[he],rfl,rfl⟩)
 have y23:(c==23)=false:=by simpa using c23
 by_cases c24:c=24
 ·subst c24
  have he:kindsR w p ((24:Int),(n:Int)) ⟨sr,su,sv,sk⟩ top=allT 1 top:=by unfold kindsR;simp
  refine gom ?_
  refine WL.oo (OW.callVK rfl rfl rfl (all_fn G 1 b3 A top cap hA ht) rfl fun v' G' H' h hg=>?_)
  obtain⟨h0,rfl,rfl⟩:=h
  cases h0
  refine gom ?_
  refine WC.rt ?_
  exact QF.p1 (.inl rfl) rfl (.tmp rfl) (⟨by rw[he],rfl,rfl⟩)
 have y24:(c==24)=false:=by simpa using c24
 by_cases c20:c=20
 ·subst c20
  have he:kindsR w p ((20:Int),(n:Int)) ⟨sr,su,sv,sk⟩ top=allT 3 top:=by unfold kindsR;simp
  refine gom ?_
  refine WL.oo (OW.callVK rfl rfl rfl (all_fn G 3 b3 A top cap hA ht) rfl fun v' G' H' h hg=>?_)
  obtain⟨h0,rfl,rfl⟩:=h
  cases h0
  refine gom ?_
  refine WC.rt ?_
  exact QF.p1 (.inl rfl) rfl (.tmp rfl) (⟨by rw[he],rfl,rfl⟩)
 have y20:(c==20)=false:=by simpa using c20
 by_cases c26:c=26
 ·subst c26
  have he:kindsR w p ((26:Int),(n:Int)) ⟨sr,su,sv,sk⟩ top=allT 3 top:=by unfold kindsR;simp
  refine gom ?_
  refine WL.oo (OW.callVK rfl rfl rfl (all_fn G 3 b3 A top cap hA ht) rfl fun v' G' H' h hg=>?_)
  obtain⟨h0,rfl,rfl⟩:=h
  cases h0
  refine gom ?_
  refine WC.rt ?_
  exact QF.p1 (.inl rfl) rfl (.tmp rfl) (⟨by rw[he],rfl,rfl⟩)
 have y26:(c==26)=false:=by simpa using c26
 have he:kindsR w p (c,(n:Int)) ⟨sr,su,sv,sk⟩ top=true:=by
  unfold kindsR
  rw[if_neg c2,if_neg (by simp[c3,c11]),if_neg (by simp[c6,c25]),if_neg c7,if_neg c8,if_neg c10,if_neg (by simp[c12,c13]),if_neg (by omega),if_neg (by simp[c20,c26]),if_neg (by omega)]
 refine gom ?_
 refine WC.rt ?_
 exact QF.p1 (.inl rfl) rfl (.tmp rfl) (⟨by rw[he],rfl,rfl⟩)
end
end
section
attribute [local irreducible] Tryz.prog
theorem Sl.fromG {α:Type} {k:Kd α} {G:Gh} {A:Option Addr} {xs:List α} {cap lo:Nat} (h:Sl k G A xs) (hc:xs.length≤cap):Sl k G (if cap=lo then A else A.map (·.add (lo*k.n))) (xs.drop lo):=fun i x hx=>by
 rw[List.getElem?_drop]at hx
 have hl:=(List.getElem?_eq_some_iff.1 hx).1
 obtain⟨b,o,cs,rfl,h1,h2⟩:=h (lo+i) x hx
 rw[if_neg (by omega)]
 refine⟨b,o+lo*k.n,cs,?_,h1,?_⟩
 ·simp only[Option.map_some,Addr.add]
  split
  ·rename_i h0;rw[h0];rfl
  ·rfl
 ·rw[show o+lo*k.n+i*k.n=o+(lo+i)*k.n by rw[Nat.add_mul];omega];exact h2
theorem effC_one {w:Wd} {vars:List Int} {c n:Int} (h:c=3∨c=11):(effC w vars (c,n)).1=1:=by rcases h with rfl | rfl<;>rfl
theorem effC_two {w:Wd} {vars:List Int} {c n:Int} (h:c=12∨c=13):(effC w vars (c,n)).1=2:=by rcases h with rfl | rfl<;>rfl
section
variable (G:Gh) (w:Wd) (p:Pr) (bf bw:Nat) (CA NA PA:Option Addr) (cc nc pc:Nat) (QA IA:Option Addr) (qc ic:Nat) (TA:Option Addr) (tc:Nat) (l:List SS) (hW:WRep G w bw CA NA PA cc nc pc) (hF:FRep G p bf bw QA IA qc ic TA l.length tc) (hT:Sl Kd.ss G TA l) (hp:POk w p) (hc:Closed w p l)
include hW hF hT hp hc
theorem at_fn (k:Nat) (s:SS) (i:Int×Int) (hs:l[k]? =some s) (hi:p.code[k]? =some i) (hr:s.reached=true):
  Fn Tryz.prog 136 #[.pointer (some ⟨bf,0,none⟩), .int .i64 k] G []
   fun e G' H'=>e= .returned (.int .i64 (metR w p k i s))∧G.le G'∧H'=[]:=by
 have hfc:=hF.cells
 have hfp:=hF.proc
 have hfew:=hp.few
 have hloc:=hp.loc
 have hll:=hc.len
 obtain⟨hi0,hiE⟩:=hp.ins k i hi
 obtain⟨ic1,in1⟩:=i
 obtain⟨nn,rfl⟩:∃nn:Nat,in1=nn:=⟨in1.toNat,by dsimp only at hi0;omega⟩
 dsimp only at hiE
 rw[Int.toNat_natCast]at hiE
 have hkl:=(List.getElem?_eq_some_iff.1 hs).1
 have hws:=hc.wf s (List.mem_of_getElem? hs)
 have hvs:=hws.vars hr
 have hks:=hws.high
 obtain⟨sb,so,scs,rfl,hsk,hsc⟩:=hT k s hs
 obtain⟨VA,vc,SA,sc,rfl,hS⟩:=Kd.ss_rep hsk
 obtain⟨ib,io,ics,rfl,hik,hic⟩:=hF.code k _ hi
 obtain rfl:ics=[.int .i64 ic1, .int .i64 nn]:=hik
 have hfc2:Cs G bf (0+1+5) [.slice (some ⟨ib,io,none⟩) p.code.length ic, .slice (some ⟨sb,so,none⟩) l.length tc]:=hfp.drop 5
 have z0:(0:Int)≤(k:Int):=by omega
 have z1:(k:Int)<(p.code.length:Int):=by omega
 have z2:(k:Int)<(l.length:Int):=by omega
 refine Fn.enter Tryz.func136 rfl rfl fun w0=>?_
 refine go ?_
 refine WC.joinG (X:=Nat×Nat) (fun t=>[(0, .pointer (some ⟨bf,0,none⟩)),(1, .int .i64 k),(5, .pointer (some ⟨t.1,0,none⟩)),(6, .pointer (some ⟨t.2,0,none⟩))]) (fun _=>G)
  (fun t=>[.blk t.1 (.cells #[.int .i64 ic1, .int .i64 nn] 50 (0,0)), .blk t.2 (.cells #[.bool s.reached, .bool s.unlike, .slice VA s.vars.length vc, .slice SA s.stack.length sc] 203 (0,0))]) (fun _=>True) ?_ fun t _=>?_
 ·refine WC.drawS (Hs:=[]) mixed pkA ?_
  refine zb.move 0 ?_
  refine zb.nil 1 ?_
  refine zb.fa 2 ?_
  refine zb.fa 3 ?_
  refine WB.vv 4 rfl (Gv.loadG1 (i:=0) rfl hfc2 rfl) ?_
  refine zb.move 5 ?_
  refine zb.ix 6 ?_
  refine WB.vv 7 rfl (Gv.loadGN rfl hic rfl) ?_
  refine zb.move 8 ?_
  refine zb.nil 9 ?_
  refine zb.fa 10 ?_
  refine WB.vv 11 rfl (Gv.loadG1 (i:=7) rfl hfc rfl) ?_
  refine zb.move 12 ?_
  refine zb.ix 13 ?_
  refine WB.vv 14 rfl (Gv.loadGN rfl hsc rfl) ?_
  refine WB.two (i:=15) (j:=16) kr rfl rfl kr kr (OW.alloc rfl fun b5=>?_) (OW.alloc rfl fun b6=>?_)
  ·refine⟨fun w hw=>hw.pk pkA,?_⟩
   refine WB.oo 16 rfl (OW.alloc rfl fun b6=>?_)
   refine⟨fun w hw=>hw.pk pkA,?_⟩
   refine zb.st 17 ?_
   refine⟨fun w hw=>hw.pk pkA,?_⟩
   refine zb.st 18 ?_
   refine⟨fun w hw=>hw.pk pkA,?_⟩
   refine WB.done kr ?_
   refine WK.un ?_
   refine WK.pick [.blk b5 (.cells #[.int .i64 ic1, .int .i64 nn] 50 (0,0)), .blk b6 (.cells #[.bool s.reached, .bool s.unlike, .slice VA s.vars.length vc, .slice SA s.stack.length sc] 203 (0,0))] ?_
   exact WK.meet (b5,b6) trivial (by exact⟨rfl,rfl,rfl,rfl,trivial⟩) rfl (List.Sublist.refl _)
  ·refine⟨fun w hw=>hw.pk pkA,?_⟩
   refine WB.oo 15 rfl (OW.alloc rfl fun b5=>?_)
   refine⟨fun w hw=>hw.pk pkA,?_⟩
   refine zb.st 17 ?_
   refine⟨fun w hw=>hw.pk pkA,?_⟩
   refine zb.st 18 ?_
   refine⟨fun w hw=>hw.pk pkA,?_⟩
   refine WB.done kr ?_
   refine WK.un ?_
   refine WK.pick [.blk b5 (.cells #[.int .i64 ic1, .int .i64 nn] 50 (0,0)), .blk b6 (.cells #[.bool s.reached, .bool s.unlike, .slice VA s.vars.length vc, .slice SA s.stack.length sc] 203 (0,0))] ?_
   exact WK.meet (b5,b6) trivial (by exact⟨rfl,rfl,rfl,rfl,trivial⟩) rfl (List.Sublist.refl _)
 obtain⟨b5,b6⟩:=t
 refine gom ?_
 refine WL.oo (OW.callK rfl (next_fn _ ic1 nn k (by omega)) rfl fun v' G' H' h hg=>?_)
 obtain⟨XA,xcap,he,hg5,hx5,rfl⟩:=h
 cases he
 obtain⟨nx,hnx⟩:∃nx,nx=nextR (ic1,(nn:Int)) k:=⟨_,rfl⟩
 rw[←hnx]at hx5⊢
 have hnxl:nx.length≤2:=by rw[hnx];unfold nextR;split;simp;split;simp;split<;>simp
 have hfc5:=hfc.mono hg5
 have hfp5:=hfp.mono hg5
 have hfc25:=hfc2.mono hg5
 refine gom ?_
 refine WC.pick [.blk b5 (.cells #[.int .i64 ic1, .int .i64 nn] 50 (0,0)), .blk b6 (.cells #[.bool s.reached, .bool s.unlike, .slice VA s.vars.length vc, .slice SA s.stack.length sc] 203 (0,0))] ?_
 refine WC.loop (X:=Nat) (fun j=>[(0, .pointer (some ⟨bf,0,none⟩)),(5, .pointer (some ⟨b5,0,none⟩)),(6, .pointer (some ⟨b6,0,none⟩)),(30, .slice XA nx.length xcap),(31, .int .i64 nx.length),(32, .int .i64 j)]) (fun _=>G') (fun _=>[.blk b5 (.cells #[.int .i64 ic1, .int .i64 nn] 50 (0,0)), .blk b6 (.cells #[.bool s.reached, .bool s.unlike, .slice VA s.vars.length vc, .slice SA s.stack.length sc] 203 (0,0))])
  (fun j=>nx.length - j) (fun j=>j≤nx.length∧∀(q:Nat) x,q<j→nx[q]? =some x→x<(p.code.length:Int)) 0 ⟨Nat.zero_le _,fun q x h=>by omega⟩ (by exact⟨rfl,rfl,rfl,rfl,rfl,rfl,trivial⟩) rfl (List.Sublist.refl _) fun j hj=>?_
 obtain⟨hj,hall⟩:=hj
 have hmet:metR w p k (ic1,(nn:Int)) s=if nx.any (fun x=>decide ((p.code.length:Int)≤x))then 183
   else if badS w (ic1,(nn:Int)) s then 181
   else if(ic1=9∧p.result≠0)∨(ic1=10∧p.result=0)then 181
   else if kindsR w p (ic1,(nn:Int)) s (s.stack.drop (s.stack.length - (effC w s.vars (ic1,(nn:Int))).1))=false then 184 else 0:=by rw[hnx];rfl
 by_cases hjl:j<nx.length
 ·
  have y1:decide ((j:Int)<(nx.length:Int))=true:=decide_eq_true (by omega)
  obtain⟨x,hx⟩:∃x,nx[j]? =some x:=⟨_,List.getElem?_eq_getElem hjl⟩
  obtain⟨xb',xo',rfl,hxc⟩:=hx5.at hx
  have w0':(0:Int)≤(j:Int):=by omega
  have w1:(j:Int)<(nx.length:Int):=by omega
  have w2:=wrapS j (by omega)
  by_cases hxl:(p.code.length:Int)≤x
  ·have y2:decide ((p.code.length:Int)≤x)=true:=decide_eq_true hxl
   have hm:metR w p k (ic1,(nn:Int)) s=183:=by
    rw[hmet,if_pos (List.any_eq_true.2 ⟨x,List.mem_of_getElem? hx,decide_eq_true hxl⟩)]
   rw[hm]
   refine gom ?_
   refine WC.rt ?_
   exact QF.p1 (.inl rfl) rfl (.tmp rfl) (⟨rfl,hg5,rfl⟩)
  ·have y2:decide ((p.code.length:Int)≤x)=false:=decide_eq_false hxl
   refine gom ?_
   exact WK.again (j+1) (by omega) ⟨by omega,fun q y hq hy=>by
    rcases Nat.lt_or_ge q j with h | h
    ·exact hall q y h hy
    ·obtain rfl:q=j:=by omega
     rw[hx]at hy;cases hy;omega⟩ (by exact⟨rfl,rfl,rfl,rfl,rfl,rfl,trivial⟩) rfl (List.Sublist.refl _)
 have y1:decide ((j:Int)<(nx.length:Int))=false:=decide_eq_false (by omega)
 have hany:¬(nx.any (fun x=>decide ((p.code.length:Int)≤x))=true):=by
  intro h
  obtain⟨x,hx,hx2⟩:=List.any_eq_true.1 h
  obtain⟨q,hq⟩:=List.getElem?_of_mem hx
  have:=hall q x (by have:=(List.getElem?_eq_some_iff.1 hq).1;omega) hq
  have:=of_decide_eq_true hx2
  omega
 rw[if_neg hany]at hmet
 have hW5:=hW.mono hg5
 have hF5:=hF.mono hg5
 have hS5:=hS.mono hg5
 refine gom ?_
 refine WL.oo (OW.callK rfl (effect_fn G' w p bf bw CA NA PA cc nc pc QA (some ⟨ib,io,none⟩) qc ic (some ⟨sb,so,none⟩) l.length tc hW5 hF5 s VA vc SA sc hS5 (by omega) ic1 nn (by rw[hvs];exact hiE)) rfl fun v' G' H' h hg=>?_)
 obtain⟨LA,lc,he,hg6,hs6,rfl⟩:=h
 cases he
 have htk:=hW.takes s.vars (ic1,(nn:Int))
 have hly:=effC_lays w s.vars (ic1,(nn:Int))
 obtain⟨sr,su,sv,sk⟩:=s
 dsimp only at hr hvs hks hmet hs6 htk hly⊢
 subst hr
 obtain⟨tk,htke⟩:∃tk,tk=(effC w sv (ic1,(nn:Int))).1:=⟨_,rfl⟩
 obtain⟨ly,hlye⟩:∃ly,ly=(effC w sv (ic1,(nn:Int))).2:=⟨_,rfl⟩
 rw[←htke]at htk hmet
 rw[←hlye]at hly hs6
 rw[←htke,←hlye]
 have hgl:=Gh.le_trans hg5 hg6
 have hfc6:=hfc.mono hgl
 have hfp6:=hfp.mono hgl
 have y3:IntKind.i64.wrap ((sk.length:Int) - (tk:Int))=(sk.length:Int) - (tk:Int):=wrapI (by omega) (by omega)
 by_cases hb:badS w (ic1,(nn:Int)) ⟨true,su,sv,sk⟩
 ·have hb':su=true∨(sk.length<tk∨128<sk.length - tk+ly.length):=by unfold badS at hb;rw[htke,hlye];exact hb
  rw[if_pos hb]at hmet
  rw[hmet]
  cases su with
  | true=>
   refine gom ?_
   refine WC.rt ?_
   exact QF.p1 (.inl rfl) rfl (.tmp rfl) (⟨rfl,hgl,rfl⟩)
  | false=>
  by_cases h1:sk.length<tk
  ·have y7:decide ((sk.length:Int) - (tk:Int)<0)=true:=decide_eq_true (by omega)
   refine gom ?_
   refine WC.rt ?_
   exact QF.p1 (.inl rfl) rfl (.tmp rfl) (⟨rfl,hgl,rfl⟩)
  ·have y7:decide ((sk.length:Int) - (tk:Int)<0)=false:=decide_eq_false (by omega)
   have h2:128<sk.length - tk+ly.length:=by
    rcases hb' with h | h | h
    ·cases h
    ·exact absurd h h1
    ·exact h
   have y8:IntKind.i64.wrap ((sk.length:Int) - (tk:Int)+(ly.length:Int))=(sk.length:Int) - (tk:Int)+(ly.length:Int):=wrapI (by omega) (by omega)
   have y9:decide ((128:Int)<(sk.length:Int) - (tk:Int)+(ly.length:Int))=true:=decide_eq_true (by omega)
   refine gom ?_
   refine WC.rt ?_
   exact QF.p1 (.inl rfl) rfl (.tmp rfl) (⟨rfl,hgl,rfl⟩)
 rw[if_neg hb]at hmet
 have hb':¬(su=true∨(sk.length<tk∨128<sk.length - tk+ly.length)):=by unfold badS at hb;rw[htke,hlye];exact hb
 have hus:su=false:=by cases h:su with | false=>rfl | true=>exact absurd (.inl h) hb'
 subst hus
 have h1:¬sk.length<tk:=fun h=>hb' (.inr (.inl h))
 have h2:¬128<sk.length - tk+ly.length:=fun h=>hb' (.inr (.inr h))
 have y7:decide ((sk.length:Int) - (tk:Int)<0)=false:=decide_eq_false (by omega)
 have y8:IntKind.i64.wrap ((sk.length:Int) - (tk:Int)+(ly.length:Int))=(sk.length:Int) - (tk:Int)+(ly.length:Int):=wrapI (by omega) (by omega)
 have y9:decide ((128:Int)<(sk.length:Int) - (tk:Int)+(ly.length:Int))=false:=decide_eq_false (by omega)
 by_cases h9:(ic1=9∧p.result≠0)∨(ic1=10∧p.result=0)
 ·rw[if_pos h9]at hmet
  rw[hmet]
  rcases h9 with⟨rfl,h9⟩ | ⟨rfl,h9⟩
  ·have hrb:(p.result != 0)=true:=by simpa using h9
   refine gom ?_
   refine WC.rt ?_
   exact QF.p1 (.inl rfl) rfl (.tmp rfl) (⟨rfl,hgl,rfl⟩)
  ·have hrb:(p.result != 0)=false:=by simpa using h9
   refine gom ?_
   refine WC.rt ?_
   exact QF.p1 (.inl rfl) rfl (.tmp rfl) (⟨rfl,hgl,rfl⟩)
 rw[if_neg h9]at hmet
 have hto:(sk.drop (sk.length - tk)).length=tk:=by rw[List.length_drop];omega
 have hkf:=kinds_fn _ w p bf bw CA NA PA cc nc pc QA (some ⟨ib,io,none⟩) qc ic (some ⟨sb,so,none⟩) l.length tc (hW.mono hgl) (hF.mono hgl) ⟨true,false,sv,sk⟩ VA vc SA sc (hS.mono hgl) (by dsimp only;omega) ic1 nn (by dsimp only;rw[hvs];exact hiE)
  (if sc=sk.length - tk then SA else SA.map (·.add ((sk.length - tk)*(Kd.int .i64).n))) (sc - (sk.length - tk)) (sk.drop (sk.length - tk)) ((hS.mono hgl).stack.fromG hS.hs) (by rw[hto];omega)
  (fun h=>by rw[hto,htke,effC_one h];exact Nat.le_refl _) (fun h=>by rw[hto,htke,effC_two h];exact Nat.le_refl _)
 have hl5:sk.length - (sk.length - tk)=(sk.drop (sk.length - tk)).length:=by rw[List.length_drop]
 have e5:((sk.length:Int) - (tk:Int)).toNat=sk.length - tk:=by omega
 have hsc:=hS.hs
 have fin:∀b,kindsR w p (ic1,(nn:Int)) ⟨true,false,sv,sk⟩ (sk.drop (sk.length - tk))=b→metR w p k (ic1,(nn:Int)) ⟨true,false,sv,sk⟩=if b=false then 184 else 0:=fun b hb=>by rw[hmet,hb]
 by_cases d9:ic1=9
 ·subst d9
  have hres:p.result=0:=by
   apply Decidable.byContradiction;intro h;exact h9 (.inl ⟨rfl,h⟩)
  have hrb:(p.result != 0)=false:=by rw[hres];rfl
  refine gom ?_
  refine WQ.tp (Gp.sliceFrom rfl rfl (by omega) (by dsimp only at hsc;omega)) kr kr rfl ?_
  rw[e5,hl5]
  refine WQ.one kr kr (OW.callK rfl (hkf) rfl fun v' G' H' h hg=>?_)
  obtain⟨he,rfl,rfl⟩:=h
  cases he
  cases hb5:kindsR w p ((9:Int),(nn:Int)) ⟨true,false,sv,sk⟩ (sk.drop (sk.length - tk))with
  | true=>
   refine gom ?_
   refine WC.rt ?_
   exact QF.p1 (.inl rfl) rfl (.tmp rfl) (⟨by rw[fin _ hb5];rfl,hgl,rfl⟩)
  | false=>
   refine gom ?_
   refine WC.rt ?_
   exact QF.p1 (.inl rfl) rfl (.tmp rfl) (⟨by rw[fin _ hb5];rfl,hgl,rfl⟩)
 have y10:(ic1==9)=false:=by simpa using d9
 by_cases d10:ic1=10
 ·subst d10
  have hres:p.result≠0:=fun h=>h9 (.inr ⟨rfl,h⟩)
  have hrb:(p.result != 0)=true:=by simpa using hres
  refine gom ?_
  refine WQ.tp (Gp.sliceFrom rfl rfl (by omega) (by dsimp only at hsc;omega)) kr kr rfl ?_
  rw[e5,hl5]
  refine WQ.one kr kr (OW.callK rfl (hkf) rfl fun v' G' H' h hg=>?_)
  obtain⟨he,rfl,rfl⟩:=h
  cases he
  cases hb5:kindsR w p ((10:Int),(nn:Int)) ⟨true,false,sv,sk⟩ (sk.drop (sk.length - tk))with
  | true=>
   refine gom ?_
   refine WC.rt ?_
   exact QF.p1 (.inl rfl) rfl (.tmp rfl) (⟨by rw[fin _ hb5];rfl,hgl,rfl⟩)
  | false=>
   refine gom ?_
   refine WC.rt ?_
   exact QF.p1 (.inl rfl) rfl (.tmp rfl) (⟨by rw[fin _ hb5];rfl,hgl,rfl⟩)
 have y11:(ic1==10)=false:=by simpa using d10
 refine gom ?_
 refine WQ.tp (Gp.sliceFrom rfl rfl (by omega) (by dsimp only at hsc;omega)) kr kr rfl ?_
 rw[e5,hl5]
 refine WQ.one kr kr (OW.callK rfl (hkf) rfl fun v' G' H' h hg=>?_)
 obtain⟨he,rfl,rfl⟩:=h
 cases he
 cases hb5:kindsR w p (ic1,(nn:Int)) ⟨true,false,sv,sk⟩ (sk.drop (sk.length - tk))with
 | true=>
  refine gom ?_
  refine WC.rt ?_
  exact QF.p1 (.inl rfl) rfl (.tmp rfl) (⟨by rw[fin _ hb5];rfl,hgl,rfl⟩)
 | false=>
  refine gom ?_
  refine WC.rt ?_
  exact QF.p1 (.inl rfl) rfl (.tmp rfl) (⟨by rw[fin _ hb5];rfl,hgl,rfl⟩)
theorem wrong_fn:Fn Tryz.prog 92 #[.pointer (some ⟨bf,0,none⟩)] G []
      fun e G' H'=>e= .returned (.tuple #[.int .i64 (wrongR w p l).1, .int .i64 (wrongR w p l).2])∧G.le G'∧H'=[]:=by
 have hfc:=hF.cells
 have hfew:=hp.few
 have hll:=hc.len
 refine Fn.enter Tryz.func92 rfl rfl fun w0=>?_
 refine gom ?_
 refine WC.loop (X:=Nat×Gh) (fun x=>[(0, .pointer (some ⟨bf,0,none⟩)),(10, .slice TA l.length tc),(11, .int .i64 l.length),(12, .int .i64 x.1)]) (fun x=>x.2) (fun _=>[]) (fun x=>l.length - x.1) (fun x=>x.1≤l.length∧G.le x.2∧∀j,j<x.1→badAt w p l j=0) (0,G) ⟨Nat.zero_le _,Gh.le_refl _,fun j h=>by omega⟩ (by exact⟨rfl,rfl,rfl,rfl,trivial⟩) rfl (List.Sublist.refl _) fun x hx=>?_
 obtain⟨k,G1⟩:=x
 obtain⟨hk,hg1,hall⟩:=hx
 dsimp only at hk hg1 hall
 by_cases hlt:k<l.length
 rotate_left
 ·have e2:decide ((k:Int)<(l.length:Int))=false:=decide_eq_false (by omega)
  have he:wrongR w p l=(0,0):=firstR_none fun j hj=>hall j (by omega)
  refine gom ?_
  refine WC.rt ?_
  exact QF.p2 (.inl rfl) rfl (.tmp rfl) (.tmp rfl) (⟨by rw[he],hg1,rfl⟩)
 have e2:decide ((k:Int)<(l.length:Int))=true:=decide_eq_true (by omega)
 obtain⟨s,hs⟩:∃s,l[k]? =some s:=⟨_,List.getElem?_eq_getElem hlt⟩
 obtain⟨i,hi⟩:∃i,p.code[k]? =some i:=⟨_,List.getElem?_eq_getElem (by omega)⟩
 have hT1:=hT.mono hg1
 obtain⟨sb,so,scs,rfl,hsk,hsc⟩:=hT1 k s hs
 obtain⟨VA,vc,SA,sc,rfl,hS⟩:=Kd.ss_rep hsk
 have x0:(0:Int)≤(k:Int):=by omega
 have x1:(k:Int)<(l.length:Int):=by omega
 have x2:=wrapS k (by omega)
 refine go ?_
 refine WL.oo (OW.alloc rfl fun b5=>?_)
 cases hr:s.reached with
 | false=>
  refine gom ?_
  exact WK.again (k+1,G1) (by dsimp only;omega) ⟨by dsimp only;omega,hg1,fun j hj=>by
   rcases Nat.lt_or_ge j k with h | h
   ·exact hall j h
   ·obtain rfl:j=k:=by dsimp only at hj;omega
    unfold badAt;rw[hs,hi];simp[hr]⟩ (by exact⟨rfl,rfl,rfl,rfl,trivial⟩) rfl (List.nil_sublist _)
 | true=>
 have hba:badAt w p l k=metR w p k i s:=by unfold badAt;rw[hs,hi];simp[hr]
 refine gom ?_
 refine WL.oo (OW.callK rfl (at_fn G1 w p bf bw CA NA PA cc nc pc QA IA qc ic (some ⟨sb,so,none⟩) tc l (hW.mono hg1) (hF.mono hg1) hT1 hp hc k s i hs hi hr) rfl fun v' G' H' h hg=>?_)
 obtain⟨he,hg2,rfl⟩:=h
 cases he
 rw[←hba]
 by_cases hb:badAt w p l k=0
 ·have e3:(badAt w p l k != 0)=false:=by simpa using hb
  refine gom ?_
  exact WK.again (k+1,G') (by dsimp only;omega) ⟨by dsimp only;omega,Gh.le_trans hg1 hg2,fun j hj=>by
   rcases Nat.lt_or_ge j k with h | h
   ·exact hall j h
   ·obtain rfl:j=k:=by dsimp only at hj;omega
    exact hb⟩ (by exact⟨rfl,rfl,rfl,rfl,trivial⟩) rfl (List.nil_sublist _)
 ·have e3:(badAt w p l k != 0)=true:=by simpa using hb
  have he:wrongR w p l=((k:Int),badAt w p l k):=firstR_at hlt hall hb
  refine gom ?_
  refine WC.rt ?_
  exact QF.p2 (.inl rfl) rfl (.tmp rfl) (.tmp rfl) (⟨by rw[he],Gh.le_trans hg1 hg2,rfl⟩)
end
end
section
theorem bytes_beq (a b:ByteArray):(a==b)=decide (a=b):=by
 rw[beq_toListBytes,ByteArray.toList_eq,ByteArray.toList_eq]
 obtain⟨⟨a⟩⟩:=a
 obtain⟨⟨b⟩⟩:=b
 rw[Bool.eq_iff_iff]
 simp
section
variable {L:List (Nat×Value)} {d:Option Tmp} {ty:TypeId} {pos:String} {af:Array Edge} {gu:Option (Nat×Bool)}
theorem Gp.eqV {x y:Operand} {t':TypeId} {u v:V} (hx:ev L x=some (.agg #[.int .i64 u.t, .int .i64 u.i, .bool u.b, .string u.s])) (hy:ev L y=some (.agg #[.int .i64 v.t, .int .i64 v.i, .bool v.b, .string v.s])):
  Gp Tryz.prog L ⟨d, .binOp .eql 52 x y t',ty,pos,af,gu⟩ (.bool (decide (u=v))):=fun a st w=>by
 have h1:Tryz.prog.eqGuardType Tryz.prog.depth 52=false:=by kernel_rfl
 have h2:Tryz.prog.underlying 52=some (.struct (Tryz.prog.fieldsOf 52)):=by kernel_rfl
 have h3:Tryz.prog.stoodInHeld 52=false:=by kernel_rfl
 have key:(Op.eqFields 9999 #[.int .i64 u.t, .int .i64 u.i, .bool u.b, .string u.s] #[.int .i64 v.t, .int .i64 v.i, .bool v.b, .string v.s] (Tryz.prog.fieldsOf 52).toList).run Tryz.prog w= .ok (decide (u=v)) w:=by
  have a0:=fun w=>(inferInstance:Agg Tryz.prog 44 false).h w
  have a1:=fun w=>(inferInstance:Agg Tryz.prog 2 false).h w
  have a2:=fun w=>(inferInstance:Agg Tryz.prog 4 false).h w
  have a3:=fun w=>(inferInstance:Agg Tryz.prog 9 false).h w
  have u0:Tryz.prog.underlying 44=some (.int .i64):=Und.h
  have u1:Tryz.prog.underlying 2=some (.int .i64):=Und.h
  have u2:Tryz.prog.underlying 4=some .bool:=Und.h
  have u3:Tryz.prog.underlying 9=some .string:=Und.h
  have e:decide (u=v)=(u.t==v.t&&(u.i==v.i&&(u.b==v.b&&(u.s.toList==v.s.toList)))):=by
   rw[←beq_toListBytes,bytes_beq]
   obtain⟨t,i,b,s⟩:=u
   obtain⟨t',i',b',s'⟩:=v
   rw[Bool.eq_iff_iff]
   simp
  rw[e]
  simp only[Program.fieldsOf,Tryz.underlying52]
  simp only[Op.eqFields,part,Sem.run_bind,a0,a1,a2,a3,Result.andThen_ok,Sem.run_ite]
  simp[run_equalIn_int _ _ _ _ _ _ _ u0,run_equalIn_int _ _ _ _ _ _ _ u1,run_equalIn_bool' _ _ _ _ _ u2,run_equalIn_string _ _ _ _ _ u3]
  by_cases q0:u.t=v.t<;>by_cases q1:u.i=v.i<;>by_cases q2:u.b=v.b<;>by_cases q3:u.s.toList=v.s.toList<;>simp[q0,q1,q2,q3]
 simp only[execOp,Sem.run_bind,st.eval hx,st.eval hy,run_eqGuard_agg w .eql _ x y _ _ h1,Result.andThen_ok,run_eql_struct,run_equalIn_agg w 9999 _ _ _ h2 h3,key]
 rfl
end
attribute [local irreducible] Tryz.prog
theorem typed_fn (G:Gh) (H:List Own) (t:Int):Fn Tryz.prog 129 #[.int .i64 t] G H fun e G' H'=>e= .returned (.bool (typedR t))∧G=G'∧H'=H:=by
 refine Fn.enter Tryz.func129 rfl rfl fun w0=>?_
 cases h1:decide (1≤t)with
 | true=>
  refine gom ?_
  refine WC.rt ?_
  exact QF.p1 (.inl rfl) rfl (.tmp rfl) (⟨by rw[typedR,h1,Bool.true_and],rfl,rfl⟩)
 | false=>
  refine gom ?_
  refine WC.rt ?_
  exact QF.p1 (.inl rfl) rfl (.tmp rfl) (⟨by rw[typedR,h1,Bool.false_and],rfl,rfl⟩)
theorem value_fn (G:Gh) (v:V):Fn Tryz.prog 127 #[.agg #[.int .i64 v.t, .int .i64 v.i, .bool v.b, .string v.s]] G [] fun e G' H'=>e= .returned (.bool (valueR v))∧G=G'∧H'=[]:=by
 obtain⟨t,i,b,s⟩:=v
 refine Fn.enter Tryz.func127 rfl rfl fun w0=>?_
 refine WC.seq ?_
 refine WC.region ?_
 refine WL.oo (OW.box rfl rfl fun b1=>?_)
 refine gom ?_
 refine WL.oo (OW.alloc rfl fun b3=>?_)
 have fin:∀(u:V) (b:Bool),decide ((⟨t,i,b,s⟩:V)=u)=decide ((⟨t,i,b,s⟩:V)=u):=fun _ _=>rfl
 by_cases h1:t=1
 ·subst h1
  refine gom ?_
  refine WL.pp (Gp.eqV (u:=⟨1,i,b,s⟩) (v:=⟨1,i,false,⟨#[]⟩⟩) rfl rfl) ?_
  have hv:valueR ⟨1,i,b,s⟩=(decide ((⟨1,i,b,s⟩:V)=⟨1,i,false,⟨#[]⟩⟩)&&decide ((s.size:Int)≤4096)):=rfl
  rw[hv]
  cases h5:decide ((⟨1,i,b,s⟩:V)=⟨1,i,false,⟨#[]⟩⟩)with
  | true=>
   refine gom ?_
   refine WC.rt ?_
   exact QF.p1 (.inl rfl) rfl (.tmp rfl) (⟨by rw[Bool.true_and],rfl,rfl⟩)
  | false=>
   refine gom ?_
   refine WC.rt ?_
   exact QF.p1 (.inl rfl) rfl (.tmp rfl) (⟨by rw[Bool.false_and],rfl,rfl⟩)
 have y1:(t==1)=false:=by simpa using h1
 by_cases h2:t=2
 ·subst h2
  refine gom ?_
  refine WL.pp (Gp.eqV (u:=⟨2,i,b,s⟩) (v:=⟨2,0,b,⟨#[]⟩⟩) rfl rfl) ?_
  have hv:valueR ⟨2,i,b,s⟩=(decide ((⟨2,i,b,s⟩:V)=⟨2,0,b,⟨#[]⟩⟩)&&decide ((s.size:Int)≤4096)):=rfl
  rw[hv]
  cases h5:decide ((⟨2,i,b,s⟩:V)=⟨2,0,b,⟨#[]⟩⟩)with
  | true=>
   refine gom ?_
   refine WC.rt ?_
   exact QF.p1 (.inl rfl) rfl (.tmp rfl) (⟨by rw[Bool.true_and],rfl,rfl⟩)
  | false=>
   refine gom ?_
   refine WC.rt ?_
   exact QF.p1 (.inl rfl) rfl (.tmp rfl) (⟨by rw[Bool.false_and],rfl,rfl⟩)
 have y2:(t==2)=false:=by simpa using h2
 by_cases h3:t=3
 ·subst h3
  refine gom ?_
  refine WL.pp (Gp.eqV (u:=⟨3,i,b,s⟩) (v:=⟨3,0,false,s⟩) rfl rfl) ?_
  have hv:valueR ⟨3,i,b,s⟩=(decide ((⟨3,i,b,s⟩:V)=⟨3,0,false,s⟩)&&decide ((s.size:Int)≤4096)):=rfl
  rw[hv]
  cases h5:decide ((⟨3,i,b,s⟩:V)=⟨3,0,false,s⟩)with
  | true=>
   refine gom ?_
   refine WC.rt ?_
   exact QF.p1 (.inl rfl) rfl (.tmp rfl) (⟨by rw[Bool.true_and],rfl,rfl⟩)
  | false=>
   refine gom ?_
   refine WC.rt ?_
   exact QF.p1 (.inl rfl) rfl (.tmp rfl) (⟨by rw[Bool.false_and],rfl,rfl⟩)
 have y3:(t==3)=false:=by simpa using h3
 have hv:valueR ⟨t,i,b,s⟩=false:=by unfold valueR;simp[h1,h2,h3]
 rw[hv]
 refine gom ?_
 refine WC.rt ?_
 exact QF.p1 (.inl rfl) rfl (.tmp rfl) (⟨rfl,rfl,rfl⟩)
theorem all_step {α:Type} {f:α→Bool} {l:List α} {i:Nat} {x:α} (hx:l[i]? =some x) (h:∀j y,j<i→l[j]? =some y→f y=true) (hf:f x=true):∀j y,j<i+1→l[j]? =some y→f y=true:=fun j y hj hy=>by
 rcases Nat.lt_or_ge j i with h1 | h1
 ·exact h j y h1 hy
 ·obtain rfl:j=i:=by omega
  rw[hx]at hy;cases hy;exact hf
theorem all_of {α:Type} {f:α→Bool} {l:List α} {i:Nat} (h:∀j y,j<i→l[j]? =some y→f y=true) (hi:l.length≤i):l.all f=true:=by
 rw[List.all_eq_true]
 intro x hx
 obtain⟨j,hj⟩:=List.getElem?_of_mem hx
 exact h j x (by have:=(List.getElem?_eq_some_iff.1 hj).1;omega) hj
theorem all_not {α:Type} {f:α→Bool} {l:List α} {i:Nat} {x:α} (hx:l[i]? =some x) (hf:f x=false):l.all f=false:=by
 rw[List.all_eq_false]
 exact⟨x,List.mem_of_getElem? hx,by rw[hf];simp⟩
theorem values_fn (G:Gh) (A:Option Addr) (l:List V) (cap:Nat) (hA:Sl Kd.val G A l) (hl:l.length≤100000000000000):
  Fn Tryz.prog 86 #[.slice A l.length cap] G [] fun e G' H'=>e= .returned (.bool (l.all valueR))∧G=G'∧H'=[]:=by
 refine Fn.enter Tryz.func86 rfl rfl fun w0=>?_
 refine gom ?_
 refine WC.loop (X:=Nat) (fun i=>[(5, .slice A l.length cap),(6, .int .i64 l.length),(7, .int .i64 i)]) (fun _=>G) (fun _=>[]) (fun i=>l.length - i) (fun i=>i≤l.length∧∀j y,j<i→l[j]? =some y→valueR y=true) 0 ⟨Nat.zero_le _,fun j y h=>by omega⟩ (by exact⟨rfl,rfl,rfl,trivial⟩) rfl (List.Sublist.refl _) fun i hx=>?_
 obtain⟨hi,hall⟩:=hx
 by_cases hlt:i<l.length
 rotate_left
 ·have e2:decide ((i:Int)<(l.length:Int))=false:=decide_eq_false (by omega)
  refine gom ?_
  refine WC.rt ?_
  exact QF.p1 (.inl rfl) rfl (.tmp rfl) (⟨by rw[all_of hall (by omega)],rfl,rfl⟩)
 have e2:decide ((i:Int)<(l.length:Int))=true:=decide_eq_true (by omega)
 obtain⟨v,hv⟩:∃v,l[i]? =some v:=⟨_,List.getElem?_eq_getElem hlt⟩
 obtain⟨b,o,cs,rfl,hk,hcs⟩:=hA i v hv
 obtain rfl:cs=vcells v:=hk
 have x0:(0:Int)≤(i:Int):=by omega
 have x1:(i:Int)<(l.length:Int):=by omega
 have x2:=wrapS i (by omega)
 refine gom ?_
 refine WL.oo (OW.alloc rfl fun b4=>?_)
 refine gom ?_
 refine WL.oo (OW.callK rfl (value_fn G v) rfl fun v' G' H' h hg=>?_)
 obtain⟨he,rfl,rfl⟩:=h
 cases he
 cases hf:valueR v with
 | true=>
  refine gom ?_
  exact WK.again (i+1) (by omega) ⟨by omega,all_step hv hall hf⟩ (by exact⟨rfl,rfl,rfl,trivial⟩) rfl (List.nil_sublist _)
 | false=>
  refine gom ?_
  refine WC.rt ?_
  exact QF.p1 (.inl rfl) rfl (.tmp rfl) (⟨by rw[all_not hv hf],rfl,rfl⟩)
theorem head_fn (G:Gh) (A:Option Addr) (l:List Int) (cap:Nat) (r:Int) (hA:Sl (Kd.int .i64) G A l) (hl:l.length≤100000000000000):
  Fn Tryz.prog 88 #[.slice A l.length cap, .int .i64 r] G [] fun e G' H'=>e= .returned (.bool (headR l r))∧G=G'∧H'=[]:=by
 refine Fn.enter Tryz.func88 rfl rfl fun w0=>?_
 refine gom ?_
 refine WC.loop (X:=Nat) (fun i=>[(0, .slice A l.length cap),(1, .int .i64 r),(7, .slice A l.length cap),(8, .int .i64 l.length),(9, .int .i64 i)]) (fun _=>G) (fun _=>[]) (fun i=>l.length - i) (fun i=>i≤l.length∧∀j y,j<i→l[j]? =some y→typedR y=true) 0 ⟨Nat.zero_le _,fun j y h=>by omega⟩ (by exact⟨rfl,rfl,rfl,rfl,rfl,trivial⟩) rfl (List.Sublist.refl _) fun i hx=>?_
 obtain⟨hi,hall⟩:=hx
 by_cases hlt:i<l.length
 rotate_left
 ·have e2:decide ((i:Int)<(l.length:Int))=false:=decide_eq_false (by omega)
  have ha:=all_of hall (by omega)
  cases h5:decide ((l.length:Int)≤64)with
  | false=>
   refine gom ?_
   refine WC.rt ?_
   exact QF.p1 (.inl rfl) rfl (.tmp rfl) (⟨by rw[headR,ha,h5];rfl,rfl,rfl⟩)
  | true=>
  cases h6:(r==0)with
  | true=>
   refine gom ?_
   refine WC.rt ?_
   exact QF.p1 (.inl rfl) rfl (.tmp rfl) (⟨by rw[headR,ha,h5,h6];rfl,rfl,rfl⟩)
  | false=>
   refine gom ?_
   refine WL.oo (OW.callK rfl (typed_fn G [] r) rfl fun v' G' H' h hg=>?_)
   obtain⟨he,rfl,rfl⟩:=h
   cases he
   refine gom ?_
   refine WC.rt ?_
   exact QF.p1 (.inl rfl) rfl (.tmp rfl) (⟨by rw[headR,ha,h5,h6];rfl,rfl,rfl⟩)
 have e2:decide ((i:Int)<(l.length:Int))=true:=decide_eq_true (by omega)
 obtain⟨v,hv⟩:∃v,l[i]? =some v:=⟨_,List.getElem?_eq_getElem hlt⟩
 obtain⟨b,o,rfl,hcs⟩:=hA.at hv
 have x0:(0:Int)≤(i:Int):=by omega
 have x1:(i:Int)<(l.length:Int):=by omega
 have x2:=wrapS i (by omega)
 refine gom ?_
 refine WL.oo (OW.callK rfl (typed_fn G [] v) rfl fun v' G' H' h hg=>?_)
 obtain⟨he,rfl,rfl⟩:=h
 cases he
 cases hf:typedR v with
 | true=>
  refine gom ?_
  exact WK.again (i+1) (by omega) ⟨by omega,all_step hv hall hf⟩ (by exact⟨rfl,rfl,rfl,rfl,rfl,trivial⟩) rfl (List.nil_sublist _)
 | false=>
  refine gom ?_
  refine WC.rt ?_
  exact QF.p1 (.inl rfl) rfl (.tmp rfl) (⟨by rw[headR,all_not hv hf];rfl,rfl,rfl⟩)
theorem alone_fn (G:Gh) (w:Wd) (p:Pr) (bw:Nat) (CA NA PA:Option Addr) (cc nc pc:Nat) (hW:WRep G w bw CA NA PA cc nc pc) (QA IA:Option Addr) (qc ic:Nat) (i:Int×Int):
  Fn Tryz.prog 90 #[.pointer (some ⟨bw,0,none⟩), .agg (prC p QA qc IA ic), .agg #[.int .i64 i.1, .int .i64 i.2]] G [] fun e G' H'=>e= .returned (.int .i64 (aloneR w p i))∧G=G'∧H'=[]:=by
 have hwc:=hW.cells
 obtain⟨c,n⟩:=i
 refine Fn.enter Tryz.func90 rfl rfl fun w0=>?_
 refine WC.seq ?_
 refine WC.region ?_
 refine WL.oo (OW.box rfl rfl fun b1=>?_)
 refine WL.oo (OW.box rfl rfl fun b2=>?_)
 refine gom ?_
 refine WL.oo (OW.callK rfl (may_fn G c n) rfl fun v' G' H' h hg=>?_)
 obtain⟨he,rfl,rfl⟩:=h
 cases he
 cases hm:mayR c n with
 | false=>
  have he:aloneR w p (c,n)=180:=by unfold aloneR;rw[if_pos hm]
  rw[he]
  refine gom ?_
  refine WC.rt ?_
  exact QF.p1 (.inl rfl) rfl (.tmp rfl) (⟨rfl,rfl,rfl⟩)
 | true=>
 have hm':¬(mayR c n=false):=by rw[hm];simp
 refine WL.pick [.blk b2 (.cells #[.int .i64 c, .int .i64 n] 50 (0,0)), .blk b1 (.cells (prC p QA qc IA ic) 47 (0,0))] ?_
 by_cases c1:c=1
 ·subst c1
  have he:aloneR w p (1,n)=if(w.consts.length:Int)≤n then 180 else 0:=by unfold aloneR;rw[if_neg hm',if_neg (by simp)];rfl
  by_cases hq:(w.consts.length:Int)≤n
  ·have z2:decide ((w.consts.length:Int)≤n)=true:=decide_eq_true hq
   rw[he,if_pos hq]
   refine gom ?_
   refine WC.rt ?_
   exact QF.p1 (.inl rfl) rfl (.tmp rfl) (⟨rfl,rfl,rfl⟩)
  ·have z2:decide ((w.consts.length:Int)≤n)=false:=decide_eq_false hq
   rw[he,if_neg hq]
   refine gom ?_
   refine WC.rt ?_
   exact QF.p1 (.inl rfl) rfl (.tmp rfl) (⟨rfl,rfl,rfl⟩)
 have y1:(c==1)=false:=by simpa using c1
 by_cases c2:c=2
 ·subst c2
  have he:aloneR w p (2,n)=if p.locals≤n then 180 else 0:=by unfold aloneR;rw[if_neg hm',if_neg (by simp)];rfl
  by_cases hq:p.locals≤n
  ·have z2:decide (p.locals≤n)=true:=decide_eq_true hq
   rw[he,if_pos hq]
   refine gom ?_
   refine WC.rt ?_
   exact QF.p1 (.inl rfl) rfl (.tmp rfl) (⟨rfl,rfl,rfl⟩)
  ·have z2:decide (p.locals≤n)=false:=decide_eq_false hq
   rw[he,if_neg hq]
   refine gom ?_
   refine WC.rt ?_
   exact QF.p1 (.inl rfl) rfl (.tmp rfl) (⟨rfl,rfl,rfl⟩)
 have y2:(c==2)=false:=by simpa using c2
 by_cases c3:c=3
 ·subst c3
  have he:aloneR w p (3,n)=if p.locals≤n then 180 else 0:=by unfold aloneR;rw[if_neg hm',if_neg (by simp)];rfl
  by_cases hq:p.locals≤n
  ·have z2:decide (p.locals≤n)=true:=decide_eq_true hq
   rw[he,if_pos hq]
   refine gom ?_
   refine WC.rt ?_
   exact QF.p1 (.inl rfl) rfl (.tmp rfl) (⟨rfl,rfl,rfl⟩)
  ·have z2:decide (p.locals≤n)=false:=decide_eq_false hq
   rw[he,if_neg hq]
   refine gom ?_
   refine WC.rt ?_
   exact QF.p1 (.inl rfl) rfl (.tmp rfl) (⟨rfl,rfl,rfl⟩)
 have y3:(c==3)=false:=by simpa using c3
 by_cases c7:c=7
 ·subst c7
  have he:aloneR w p (7,n)=if(w.procs.length:Int)≤n then 180 else 0:=by unfold aloneR;rw[if_neg hm',if_neg (by simp)];rfl
  by_cases hq:(w.procs.length:Int)≤n
  ·have z2:decide ((w.procs.length:Int)≤n)=true:=decide_eq_true hq
   rw[he,if_pos hq]
   refine gom ?_
   refine WC.rt ?_
   exact QF.p1 (.inl rfl) rfl (.tmp rfl) (⟨rfl,rfl,rfl⟩)
  ·have z2:decide ((w.procs.length:Int)≤n)=false:=decide_eq_false hq
   rw[he,if_neg hq]
   refine gom ?_
   refine WC.rt ?_
   exact QF.p1 (.inl rfl) rfl (.tmp rfl) (⟨rfl,rfl,rfl⟩)
 have y7:(c==7)=false:=by simpa using c7
 by_cases c8:c=8
 ·subst c8
  have he:aloneR w p (8,n)=if(w.needs.length:Int)≤n then 180 else 0:=by unfold aloneR;rw[if_neg hm',if_neg (by simp)];rfl
  by_cases hq:(w.needs.length:Int)≤n
  ·have z2:decide ((w.needs.length:Int)≤n)=true:=decide_eq_true hq
   rw[he,if_pos hq]
   refine gom ?_
   refine WC.rt ?_
   exact QF.p1 (.inl rfl) rfl (.tmp rfl) (⟨rfl,rfl,rfl⟩)
  ·have z2:decide ((w.needs.length:Int)≤n)=false:=decide_eq_false hq
   rw[he,if_neg hq]
   refine gom ?_
   refine WC.rt ?_
   exact QF.p1 (.inl rfl) rfl (.tmp rfl) (⟨rfl,rfl,rfl⟩)
 have y8:(c==8)=false:=by simpa using c8
 by_cases c5:c=5
 ·subst c5
  by_cases hj:(p.code.length:Int)≤n
  ·have z1:decide ((p.code.length:Int)≤n)=true:=decide_eq_true hj
   have he:aloneR w p (5,n)=182:=by unfold aloneR;rw[if_neg hm',if_pos ⟨by simp,hj⟩]
   rw[he]
   refine gom ?_
   refine WC.rt ?_
   exact QF.p1 (.inl rfl) rfl (.tmp rfl) (⟨rfl,rfl,rfl⟩)
  ·have z1:decide ((p.code.length:Int)≤n)=false:=decide_eq_false hj
   have he:aloneR w p (5,n)=if(2147483647:Int)≤n then 180 else 0:=by unfold aloneR;rw[if_neg hm',if_neg (fun h=>hj h.2)];rfl
   by_cases hq:(2147483647:Int)≤n
   ·have z2:decide ((2147483647:Int)≤n)=true:=decide_eq_true hq
    rw[he,if_pos hq]
    refine gom ?_
    refine WC.rt ?_
    exact QF.p1 (.inl rfl) rfl (.tmp rfl) (⟨rfl,rfl,rfl⟩)
   ·have z2:decide ((2147483647:Int)≤n)=false:=decide_eq_false hq
    rw[he,if_neg hq]
    refine gom ?_
    refine WC.rt ?_
    exact QF.p1 (.inl rfl) rfl (.tmp rfl) (⟨rfl,rfl,rfl⟩)
 have y5:(c==5)=false:=by simpa using c5
 by_cases c6:c=6
 ·subst c6
  by_cases hj:(p.code.length:Int)≤n
  ·have z1:decide ((p.code.length:Int)≤n)=true:=decide_eq_true hj
   have he:aloneR w p (6,n)=182:=by unfold aloneR;rw[if_neg hm',if_pos ⟨by simp,hj⟩]
   rw[he]
   refine gom ?_
   refine WC.rt ?_
   exact QF.p1 (.inl rfl) rfl (.tmp rfl) (⟨rfl,rfl,rfl⟩)
  ·have z1:decide ((p.code.length:Int)≤n)=false:=decide_eq_false hj
   have he:aloneR w p (6,n)=if(2147483647:Int)≤n then 180 else 0:=by unfold aloneR;rw[if_neg hm',if_neg (fun h=>hj h.2)];rfl
   by_cases hq:(2147483647:Int)≤n
   ·have z2:decide ((2147483647:Int)≤n)=true:=decide_eq_true hq
    rw[he,if_pos hq]
    refine gom ?_
    refine WC.rt ?_
    exact QF.p1 (.inl rfl) rfl (.tmp rfl) (⟨rfl,rfl,rfl⟩)
   ·have z2:decide ((2147483647:Int)≤n)=false:=decide_eq_false hq
    rw[he,if_neg hq]
    refine gom ?_
    refine WC.rt ?_
    exact QF.p1 (.inl rfl) rfl (.tmp rfl) (⟨rfl,rfl,rfl⟩)
 have y6:(c==6)=false:=by simpa using c6
 have he:aloneR w p (c,n)=if(2147483647:Int)≤n then 180 else 0:=by
  unfold aloneR
  simp[hm,c1,c2,c3,c5,c6,c7,c8]
 by_cases hq:(2147483647:Int)≤n
 ·have z2:decide ((2147483647:Int)≤n)=true:=decide_eq_true hq
  rw[he,if_pos hq]
  refine gom ?_
  refine WC.rt ?_
  exact QF.p1 (.inl rfl) rfl (.tmp rfl) (⟨rfl,rfl,rfl⟩)
 ·have z2:decide ((2147483647:Int)≤n)=false:=decide_eq_false hq
  rw[he,if_neg hq]
  refine gom ?_
  refine WC.rt ?_
  exact QF.p1 (.inl rfl) rfl (.tmp rfl) (⟨rfl,rfl,rfl⟩)
end
end Go.Proofs.YtcnlkfocbbkdhaaGreatDoor.Gb
namespace Go.Proofs
open Go Go.Shelf
def Tryz.lays137_ren:Go.Shelf.Ren:=⟨fun | 137=>208 | 217=>226 | 266=>243 | n=>n,fun | 9=>9 | 5=>5 | 3=>3 | n=>n,fun | n=>n⟩
theorem Tryz.lays137:Go.Proofs.Lays.n137 Tryz.prog Tryz.lays137_ren:= {
 mixed:=by kernel_rfl
 f137:=Tryz.func208.trans (congrArg some (by kernel_rfl))
 f217:=Tryz.func226.trans (congrArg some (by kernel_rfl))
 f266:=Tryz.func243.trans (congrArg some (by kernel_rfl))
 t3:=Tryz.underlying3
 a3:=Tryz.isAgg3
 z3:=Tryz.sizeOf3
 v3:=Tryz.zeroValue3
 t5:=Tryz.underlying5
 a5:=Tryz.isAgg5
 z5:=Tryz.sizeOf5
 v5:=Tryz.zeroValue5
 t9:=Tryz.underlying9
 a9:=Tryz.isAgg9
 z9:=Tryz.sizeOf9
 v9:=Tryz.zeroValue9 }
open Go.RowKit in
theorem Tryz.strings_IndexByte (s:ByteArray) (c:Int) (w:World):
  Calls Tryz.prog 208 #[.string s, .int .u8 c] w fun e w'=>e= .returned (.int .i64 (Lib.indexByte s.data.toList c.toNat.toUInt8))∧w'=w:=Any.strings_IndexByte Tryz.lays137 s c w
def Tryz.laysM171_ren:Go.Shelf.Ren:=⟨fun | 171=>254 | 243=>261 | 246=>223 | 283=>239 | 284=>240 | 285=>241 | 286=>242 | 129=>256 | 317=>255 | 318=>257 | 319=>258 | 320=>259 | 337=>262 | 338=>263 | n=>n,fun | 3=>3 | 9=>9 | 2=>2 | 4=>4 | 171=>315 | 0=>0 | 53=>124 | 37=>71 | 5=>5 | 173=>318 | 212=>327 | 51=>328 | 20=>20 | 213=>329 | 46=>224 | 232=>343 | 233=>344 | n=>n,fun | 17=>3 | 18=>6 | 19=>7 | n=>n⟩
def Tryz.laysM173_ren:Go.Shelf.Ren:=⟨fun | 173=>205 | 246=>223 | 283=>239 | 284=>240 | 285=>241 | 286=>242 | 129=>256 | 317=>255 | 318=>257 | 319=>258 | 320=>259 | 337=>262 | 338=>263 | n=>n,fun | 2=>2 | 3=>3 | 9=>9 | 4=>4 | 171=>315 | 0=>0 | 53=>124 | 37=>71 | 5=>5 | 173=>318 | 212=>327 | 51=>328 | 20=>20 | 213=>329 | 46=>224 | 232=>343 | 233=>344 | n=>n,fun | 17=>3 | 18=>6 | 19=>7 | n=>n⟩
theorem Tryz.laysM173:Go.Proofs.LaysM.n173 Tryz.prog Tryz.laysM173_ren:= {
 mixed:=by kernel_rfl
 f129:=Tryz.func256.trans (congrArg some (by kernel_rfl))
 f173:=Tryz.func205.trans (congrArg some (by kernel_rfl))
 f246:=Tryz.func223.trans (congrArg some (by kernel_rfl))
 f283:=Tryz.func239.trans (congrArg some (by kernel_rfl))
 f284:=Tryz.func240.trans (congrArg some (by kernel_rfl))
 f285:=Tryz.func241.trans (congrArg some (by kernel_rfl))
 f286:=Tryz.func242.trans (congrArg some (by kernel_rfl))
 f317:=Tryz.func255.trans (congrArg some (by kernel_rfl))
 f318:=Tryz.func257.trans (congrArg some (by kernel_rfl))
 f319:=Tryz.func258.trans (congrArg some (by kernel_rfl))
 f320:=Tryz.func259.trans (congrArg some (by kernel_rfl))
 f337:=Tryz.func262.trans (congrArg some (by kernel_rfl))
 f338:=Tryz.func263.trans (congrArg some (by kernel_rfl))
 t0:=Tryz.underlying0
 a0:=Tryz.isAgg0
 z0:=Tryz.sizeOf0
 v0:=Tryz.zeroValue0
 t2:=Tryz.underlying2
 a2:=Tryz.isAgg2
 z2:=Tryz.sizeOf2
 v2:=Tryz.zeroValue2
 t3:=Tryz.underlying3
 a3:=Tryz.isAgg3
 z3:=Tryz.sizeOf3
 v3:=Tryz.zeroValue3
 t4:=Tryz.underlying4
 a4:=Tryz.isAgg4
 z4:=Tryz.sizeOf4
 v4:=Tryz.zeroValue4
 t5:=Tryz.underlying5
 a5:=Tryz.isAgg5
 z5:=Tryz.sizeOf5
 v5:=Tryz.zeroValue5
 t9:=Tryz.underlying9
 a9:=Tryz.isAgg9
 z9:=Tryz.sizeOf9
 v9:=Tryz.zeroValue9
 t20:=Tryz.underlying20
 a20:=Tryz.isAgg20
 z20:=Tryz.sizeOf20
 v20:=Tryz.zeroValue20
 t37:=Tryz.underlying71
 a37:=Tryz.isAgg71
 z37:=Tryz.sizeOf71
 v37:=Tryz.zeroValue71
 t46:=Tryz.underlying224
 a46:=Tryz.isAgg224
 z46:=Tryz.sizeOf224
 v46:=Tryz.zeroValue224
 t51:=Tryz.underlying328
 a51:=Tryz.isAgg328
 z51:=Tryz.sizeOf328
 v51:=Tryz.zeroValue328
 t53:=Tryz.underlying124
 a53:=Tryz.isAgg124
 z53:=Tryz.sizeOf124
 v53:=Tryz.zeroValue124
 t171:=Tryz.underlying315
 a171:=Tryz.isAgg315
 z171:=Tryz.sizeOf315
 v171:=Tryz.zeroValue315
 t173:=Tryz.underlying318
 a173:=Tryz.isAgg318
 z173:=Tryz.sizeOf318
 v173:=Tryz.zeroValue318
 t212:=Tryz.underlying327
 a212:=Tryz.isAgg327
 z212:=Tryz.sizeOf327
 v212:=Tryz.zeroValue327
 t213:=Tryz.underlying329
 a213:=Tryz.isAgg329
 z213:=Tryz.sizeOf329
 t232:=Tryz.underlying343
 a232:=Tryz.isAgg343
 z232:=Tryz.sizeOf343
 v232:=Tryz.zeroValue343
 t233:=Tryz.underlying344
 a233:=Tryz.isAgg344
 z233:=Tryz.sizeOf344
 v233:=Tryz.zeroValue344
 g17:=by kernel_rfl
 g18:=by kernel_rfl
 g19:=by kernel_rfl
 i0:=by kernel_rfl
 i2:=by kernel_rfl
 i3:=by kernel_rfl
 i4:=by kernel_rfl
 i5:=by kernel_rfl
 i9:=by kernel_rfl
 i20:=by kernel_rfl
 i37:=by kernel_rfl
 i46:=by kernel_rfl
 i51:=by kernel_rfl
 i53:=by kernel_rfl
 i171:=by kernel_rfl
 i173:=by kernel_rfl
 i212:=by kernel_rfl
 i232:=by kernel_rfl
 i233:=by kernel_rfl
 m17:=by kernel_rfl
 m18:=by kernel_rfl
 m19:=by kernel_rfl }
open Go.RowKit Go.Sort Go.Lib in
theorem Tryz.strconv_FormatInt_10 (n:Int) (h0: -9223372036854775808≤n) (h1:n≤9223372036854775807) (w:World) (htab:Lib.TabIs Tryz.prog w "internal/strconv.uint64pow10" .u64 Lib.pow10Tab):
  Calls Tryz.prog 205 #[.int .i64 n, .int .i64 10] w fun e w'=>e= .returned (.string ⟨(Lib.itoa n).toArray⟩)∧∃k os,w'=grow (w.drewN k) os:=Any.strconv_FormatInt_10 Tryz.laysM173 n h0 h1 w htab
def Tryz.laysC174_ren:Go.Shelf.Ren:=⟨fun | 174=>204 | 247=>221 | 245=>222 | 287=>234 | 279=>235 | 280=>236 | 281=>237 | 282=>238 | 321=>250 | 322=>251 | 316=>252 | 171=>254 | 205=>253 | 243=>261 | 246=>223 | 283=>239 | 284=>240 | 285=>241 | 286=>242 | 129=>256 | 317=>255 | 318=>257 | 319=>258 | 320=>259 | 337=>262 | 338=>263 | n=>n,fun | 9=>9 | 3=>3 | 2=>2 | 75=>285 | 85=>286 | 4=>4 | 167=>309 | 5=>5 | 53=>124 | 175=>310 | 46=>224 | 168=>312 | 37=>71 | 0=>0 | 210=>324 | 21=>21 | 127=>338 | 145=>341 | 143=>339 | 171=>315 | 173=>318 | 212=>327 | 51=>328 | 20=>20 | 213=>329 | 232=>343 | 233=>344 | 80=>345 | n=>n,fun | 15=>1 | 16=>2 | 17=>3 | 18=>6 | 19=>7 | n=>n⟩
theorem Tryz.laysC174:Go.Proofs.LaysC.n174 Tryz.prog Tryz.laysC174_ren:= {
 mixed:=by kernel_rfl
 f129:=Tryz.func256.trans (congrArg some (by kernel_rfl))
 f171:=Tryz.func254.trans (congrArg some (by kernel_rfl))
 f174:=Tryz.func204.trans (congrArg some (by kernel_rfl))
 f205:=Tryz.func253.trans (congrArg some (by kernel_rfl))
 f243:=Tryz.func261.trans (congrArg some (by kernel_rfl))
 f245:=Tryz.func222.trans (congrArg some (by kernel_rfl))
 f246:=Tryz.func223.trans (congrArg some (by kernel_rfl))
 f247:=Tryz.func221.trans (congrArg some (by kernel_rfl))
 f279:=Tryz.func235.trans (congrArg some (by kernel_rfl))
 f280:=Tryz.func236.trans (congrArg some (by kernel_rfl))
 f281:=Tryz.func237.trans (congrArg some (by kernel_rfl))
 f282:=Tryz.func238.trans (congrArg some (by kernel_rfl))
 f283:=Tryz.func239.trans (congrArg some (by kernel_rfl))
 f284:=Tryz.func240.trans (congrArg some (by kernel_rfl))
 f285:=Tryz.func241.trans (congrArg some (by kernel_rfl))
 f286:=Tryz.func242.trans (congrArg some (by kernel_rfl))
 f287:=Tryz.func234.trans (congrArg some (by kernel_rfl))
 f316:=Tryz.func252.trans (congrArg some (by kernel_rfl))
 f317:=Tryz.func255.trans (congrArg some (by kernel_rfl))
 f318:=Tryz.func257.trans (congrArg some (by kernel_rfl))
 f319:=Tryz.func258.trans (congrArg some (by kernel_rfl))
 f320:=Tryz.func259.trans (congrArg some (by kernel_rfl))
 f321:=Tryz.func250.trans (congrArg some (by kernel_rfl))
 f322:=Tryz.func251.trans (congrArg some (by kernel_rfl))
 f337:=Tryz.func262.trans (congrArg some (by kernel_rfl))
 f338:=Tryz.func263.trans (congrArg some (by kernel_rfl))
 t0:=Tryz.underlying0
 a0:=Tryz.isAgg0
 z0:=Tryz.sizeOf0
 v0:=Tryz.zeroValue0
 t2:=Tryz.underlying2
 a2:=Tryz.isAgg2
 z2:=Tryz.sizeOf2
 v2:=Tryz.zeroValue2
 t3:=Tryz.underlying3
 a3:=Tryz.isAgg3
 z3:=Tryz.sizeOf3
 v3:=Tryz.zeroValue3
 t4:=Tryz.underlying4
 a4:=Tryz.isAgg4
 z4:=Tryz.sizeOf4
 v4:=Tryz.zeroValue4
 t5:=Tryz.underlying5
 a5:=Tryz.isAgg5
 z5:=Tryz.sizeOf5
 v5:=Tryz.zeroValue5
 t9:=Tryz.underlying9
 a9:=Tryz.isAgg9
 z9:=Tryz.sizeOf9
 v9:=Tryz.zeroValue9
 t20:=Tryz.underlying20
 a20:=Tryz.isAgg20
 z20:=Tryz.sizeOf20
 v20:=Tryz.zeroValue20
 t21:=Tryz.underlying21
 a21:=Tryz.isAgg21
 z21:=Tryz.sizeOf21
 v21:=Tryz.zeroValue21
 t37:=Tryz.underlying71
 a37:=Tryz.isAgg71
 z37:=Tryz.sizeOf71
 v37:=Tryz.zeroValue71
 t46:=Tryz.underlying224
 a46:=Tryz.isAgg224
 z46:=Tryz.sizeOf224
 v46:=Tryz.zeroValue224
 t51:=Tryz.underlying328
 a51:=Tryz.isAgg328
 z51:=Tryz.sizeOf328
 v51:=Tryz.zeroValue328
 t53:=Tryz.underlying124
 a53:=Tryz.isAgg124
 z53:=Tryz.sizeOf124
 v53:=Tryz.zeroValue124
 t75:=Tryz.underlying285
 a75:=Tryz.isAgg285
 z75:=Tryz.sizeOf285
 v75:=Tryz.zeroValue285
 t85:=Tryz.underlying286
 a85:=Tryz.isAgg286
 z85:=Tryz.sizeOf286
 v85:=Tryz.zeroValue286
 t127:=Tryz.underlying338
 a127:=Tryz.isAgg338
 z127:=Tryz.sizeOf338
 v127:=Tryz.zeroValue338
 t143:=Tryz.underlying339
 a143:=Tryz.isAgg339
 z143:=Tryz.sizeOf339
 v143:=Tryz.zeroValue339
 t145:=Tryz.underlying341
 a145:=Tryz.isAgg341
 z145:=Tryz.sizeOf341
 v145:=Tryz.zeroValue341
 t167:=Tryz.underlying309
 a167:=Tryz.isAgg309
 z167:=Tryz.sizeOf309
 v167:=Tryz.zeroValue309
 t168:=Tryz.underlying312
 a168:=Tryz.isAgg312
 z168:=Tryz.sizeOf312
 v168:=Tryz.zeroValue312
 t171:=Tryz.underlying315
 a171:=Tryz.isAgg315
 z171:=Tryz.sizeOf315
 v171:=Tryz.zeroValue315
 t173:=Tryz.underlying318
 a173:=Tryz.isAgg318
 z173:=Tryz.sizeOf318
 v173:=Tryz.zeroValue318
 t175:=Tryz.underlying310
 a175:=Tryz.isAgg310
 z175:=Tryz.sizeOf310
 v175:=Tryz.zeroValue310
 t210:=Tryz.underlying324
 a210:=Tryz.isAgg324
 z210:=Tryz.sizeOf324
 v210:=Tryz.zeroValue324
 t212:=Tryz.underlying327
 a212:=Tryz.isAgg327
 z212:=Tryz.sizeOf327
 v212:=Tryz.zeroValue327
 t213:=Tryz.underlying329
 a213:=Tryz.isAgg329
 z213:=Tryz.sizeOf329
 t232:=Tryz.underlying343
 a232:=Tryz.isAgg343
 z232:=Tryz.sizeOf343
 v232:=Tryz.zeroValue343
 t233:=Tryz.underlying344
 a233:=Tryz.isAgg344
 z233:=Tryz.sizeOf344
 v233:=Tryz.zeroValue344
 g15:=by kernel_rfl
 g16:=by kernel_rfl
 g17:=by kernel_rfl
 g18:=by kernel_rfl
 g19:=by kernel_rfl
 t80:=Tryz.underlying345
 a80:=Tryz.isAgg345
 z80:=Tryz.sizeOf345
 v80:=Tryz.zeroValue345
 i0:=by kernel_rfl
 i2:=by kernel_rfl
 i3:=by kernel_rfl
 i4:=by kernel_rfl
 i5:=by kernel_rfl
 i9:=by kernel_rfl
 i20:=by kernel_rfl
 i21:=by kernel_rfl
 i37:=by kernel_rfl
 i46:=by kernel_rfl
 i51:=by kernel_rfl
 i53:=by kernel_rfl
 i75:=by kernel_rfl
 i80:=by kernel_rfl
 i85:=by kernel_rfl
 i127:=by kernel_rfl
 i143:=by kernel_rfl
 i145:=by kernel_rfl
 i167:=by kernel_rfl
 i168:=by kernel_rfl
 i171:=by kernel_rfl
 i173:=by kernel_rfl
 i175:=by kernel_rfl
 i210:=by kernel_rfl
 i212:=by kernel_rfl
 i232:=by kernel_rfl
 i233:=by kernel_rfl
 m15:=by kernel_rfl
 m16:=by kernel_rfl
 m17:=by kernel_rfl
 m18:=by kernel_rfl
 m19:=by kernel_rfl
 c0:=by kernel_rfl
 c2:=by kernel_rfl
 c3:=by kernel_rfl
 c4:=by kernel_rfl
 c5:=by kernel_rfl
 c9:=by kernel_rfl
 c20:=by kernel_rfl
 c21:=by kernel_rfl
 c37:=by kernel_rfl
 c46:=by kernel_rfl
 c51:=by kernel_rfl
 c53:=by kernel_rfl
 c75:=by kernel_rfl
 c80:=by kernel_rfl
 c85:=by kernel_rfl
 c127:=by kernel_rfl
 c143:=by kernel_rfl
 c145:=by kernel_rfl
 c167:=by kernel_rfl
 c168:=by kernel_rfl
 c171:=by kernel_rfl
 c173:=by kernel_rfl
 c175:=by kernel_rfl
 c210:=by kernel_rfl
 c212:=by kernel_rfl
 c213:=by kernel_rfl
 c232:=by kernel_rfl
 c233:=by kernel_rfl }
open Go.RowKit in
theorem Tryz.strconv_ParseInt_10_at64_ok (s:ByteArray) (hmax:s.size≤9223372036854775806) (v:Int) (h:Lib.parseIntB 64 s.data.toList= .ok v) (w:World):
  Calls Tryz.prog 204 #[.string s, .int .i64 10, .int .i64 64] w fun e w'=>e= .returned (.tuple #[.int .i64 v, .nilIface])∧(w'=w∨∃t,w'=Lib.bytesWorld w 5 t):=Any.strconv_ParseInt_10_at64_ok Tryz.laysC174 s hmax v h w
open Go.RowKit in
theorem Tryz.strconv_ParseInt_10_at64_syntax (s:ByteArray) (hlim:s.size≤281474976710656) (h:Lib.parseIntB 64 s.data.toList=Lib.parseIntB 64 []) (ev:Value) (w:World) (hv:w.cell? ⟨1,0,none⟩=some ev) (hev:ev= .nilIface∨∃te pe,ev= .iface te pe):
  Calls Tryz.prog 204 #[.string s, .int .i64 10, .int .i64 64] w fun e w'=>∃N,e= .returned (.tuple #[.int .i64 (0), .iface 312 (.pointer (some ⟨N,0,none⟩))])∧w.heap.size≤N∧w'.heap[N]? =some (.cells #[.string ⟨#[80,97,114,115,101,73,110,116]⟩, .string s,ev] 324 (0,0))∧Below w.heap.size w w':=Any.strconv_ParseInt_10_at64_syntax Tryz.laysC174 s hlim h ev w hv hev
open Go.RowKit in
theorem Tryz.strconv_ParseInt_10_at64_range (s:ByteArray) (hlim:s.size≤281474976710656) (h:Lib.parseIntB 64 s.data.toList= .range) (ev:Value) (w:World) (hv:w.cell? ⟨2,0,none⟩=some ev) (hev:ev= .nilIface∨∃te pe,ev= .iface te pe):
  Calls Tryz.prog 204 #[.string s, .int .i64 10, .int .i64 64] w fun e w'=>∃N,e= .returned (.tuple #[.int .i64 (Lib.intSat 64 s.data.toList), .iface 312 (.pointer (some ⟨N,0,none⟩))])∧w.heap.size≤N∧w'.heap[N]? =some (.cells #[.string ⟨#[80,97,114,115,101,73,110,116]⟩, .string s,ev] 324 (0,0))∧Below w.heap.size w w':=Any.strconv_ParseInt_10_at64_range Tryz.laysC174 s hlim h ev w hv hev
def Tryz.lays143_ren:Go.Shelf.Ren:=⟨fun | 143=>220 | 219=>233 | 217=>226 | 225=>247 | 224=>248 | 267=>249 | 266=>243 | 314=>260 | n=>n,fun | 9=>9 | 3=>3 | 4=>4 | 5=>5 | 46=>224 | 146=>336 | 51=>328 | n=>n,fun | 1=>0 | n=>n⟩
def Tryz.lays138_ren:Go.Shelf.Ren:=⟨fun | 138=>219 | 195=>230 | 218=>232 | 143=>220 | 219=>233 | 217=>226 | 225=>247 | 224=>248 | 267=>249 | 266=>243 | 314=>260 | n=>n,fun | 9=>9 | 3=>3 | 4=>4 | 5=>5 | 0=>0 | 46=>224 | 146=>336 | 51=>328 | n=>n,fun | 1=>0 | n=>n⟩
def Tryz.lays99_ren:Go.Shelf.Ren:=⟨fun | 99=>207 | 206=>225 | n=>n,fun | 9=>9 | 4=>4 | 3=>3 | n=>n,fun | n=>n⟩
theorem Tryz.lays99:Go.Proofs.Lays.n99 Tryz.prog Tryz.lays99_ren:= {
 mixed:=by kernel_rfl
 f99:=Tryz.func207.trans (congrArg some (by kernel_rfl))
 f206:=Tryz.func225.trans (congrArg some (by kernel_rfl))
 t3:=Tryz.underlying3
 a3:=Tryz.isAgg3
 z3:=Tryz.sizeOf3
 v3:=Tryz.zeroValue3
 t4:=Tryz.underlying4
 a4:=Tryz.isAgg4
 z4:=Tryz.sizeOf4
 v4:=Tryz.zeroValue4
 t9:=Tryz.underlying9
 a9:=Tryz.isAgg9
 z9:=Tryz.sizeOf9
 v9:=Tryz.zeroValue9 }
open Go.RowKit Go.Lib in
theorem Tryz.strings_HasPrefix (s p:ByteArray) (w:World):
  Calls Tryz.prog 207 #[.string s, .string p] w fun e w'=>e= .returned (.bool (Lib.hasPrefix s.data.toList p.data.toList))∧w'=w:=Any.strings_HasPrefix Tryz.lays99 s p w
def Tryz.lays146_ren:Go.Shelf.Ren:=⟨fun | 146=>180 | 221=>203 | 268=>218 | 138=>219 | 143=>220 | 195=>230 | 197=>231 | 218=>232 | 219=>233 | 260=>246 | 217=>226 | 225=>247 | 224=>248 | 267=>249 | 266=>243 | 314=>260 | n=>n,fun | 9=>9 | 31=>221 | 3=>3 | 4=>4 | 0=>0 | 105=>307 | 21=>21 | 5=>5 | 46=>224 | 119=>332 | 139=>335 | 138=>334 | 146=>336 | 51=>328 | n=>n,fun | 1=>0 | 3=>4 | 4=>5 | n=>n⟩
theorem Tryz.lays146:Go.Proofs.Lays.n146 Tryz.prog Tryz.lays146_ren:= {
 mixed:=by kernel_rfl
 f138:=Tryz.func219.trans (congrArg some (by kernel_rfl))
 f143:=Tryz.func220.trans (congrArg some (by kernel_rfl))
 f146:=Tryz.func180.trans (congrArg some (by kernel_rfl))
 f195:=Tryz.func230.trans (congrArg some (by kernel_rfl))
 f197:=Tryz.func231.trans (congrArg some (by kernel_rfl))
 f217:=Tryz.func226.trans (congrArg some (by kernel_rfl))
 f218:=Tryz.func232.trans (congrArg some (by kernel_rfl))
 f219:=Tryz.func233.trans (congrArg some (by kernel_rfl))
 f221:=Tryz.func203.trans (congrArg some (by kernel_rfl))
 f224:=Tryz.func248.trans (congrArg some (by kernel_rfl))
 f225:=Tryz.func247.trans (congrArg some (by kernel_rfl))
 f260:=Tryz.func246.trans (congrArg some (by kernel_rfl))
 f266:=Tryz.func243.trans (congrArg some (by kernel_rfl))
 f267:=Tryz.func249.trans (congrArg some (by kernel_rfl))
 f268:=Tryz.func218.trans (congrArg some (by kernel_rfl))
 f314:=Tryz.func260.trans (congrArg some (by kernel_rfl))
 t0:=Tryz.underlying0
 a0:=Tryz.isAgg0
 z0:=Tryz.sizeOf0
 v0:=Tryz.zeroValue0
 t3:=Tryz.underlying3
 a3:=Tryz.isAgg3
 z3:=Tryz.sizeOf3
 v3:=Tryz.zeroValue3
 t4:=Tryz.underlying4
 a4:=Tryz.isAgg4
 z4:=Tryz.sizeOf4
 v4:=Tryz.zeroValue4
 t5:=Tryz.underlying5
 a5:=Tryz.isAgg5
 z5:=Tryz.sizeOf5
 v5:=Tryz.zeroValue5
 t9:=Tryz.underlying9
 a9:=Tryz.isAgg9
 z9:=Tryz.sizeOf9
 v9:=Tryz.zeroValue9
 t21:=Tryz.underlying21
 a21:=Tryz.isAgg21
 z21:=Tryz.sizeOf21
 v21:=Tryz.zeroValue21
 t31:=Tryz.underlying221
 a31:=Tryz.isAgg221
 z31:=Tryz.sizeOf221
 v31:=Tryz.zeroValue221
 t46:=Tryz.underlying224
 a46:=Tryz.isAgg224
 z46:=Tryz.sizeOf224
 v46:=Tryz.zeroValue224
 t51:=Tryz.underlying328
 a51:=Tryz.isAgg328
 z51:=Tryz.sizeOf328
 v51:=Tryz.zeroValue328
 t105:=Tryz.underlying307
 a105:=Tryz.isAgg307
 z105:=Tryz.sizeOf307
 v105:=Tryz.zeroValue307
 t119:=Tryz.underlying332
 a119:=Tryz.isAgg332
 z119:=Tryz.sizeOf332
 t138:=Tryz.underlying334
 a138:=Tryz.isAgg334
 z138:=Tryz.sizeOf334
 v138:=Tryz.zeroValue334
 t139:=Tryz.underlying335
 a139:=Tryz.isAgg335
 z139:=Tryz.sizeOf335
 v139:=Tryz.zeroValue335
 t146:=Tryz.underlying336
 a146:=Tryz.isAgg336
 z146:=Tryz.sizeOf336
 v146:=Tryz.zeroValue336
 g1:=by kernel_rfl
 g3:=by kernel_rfl
 g4:=by kernel_rfl }
open Go.RowKit Go.Lib in
theorem Tryz.strings_Split (s sep:ByteArray) (m:Int) (w:World) (hs:s.size<4294967281) (hm:w.cell? ⟨0,0,none⟩=some (.int .i64 m)) (h1:1≤sep.size):
  Calls Tryz.prog 180 #[.string s, .string sep] w fun e w'=>
   e= .returned (.slice (some ⟨w.heap.size,0,none⟩) (Lib.countB s sep+1) (Lib.countB s sep+1))∧w'=w.alloc (.cells ((Lib.splitB sep 0 (Lib.countB s sep) s).map Value.string).toArray 9):=Any.strings_Split Tryz.lays146 (by kernel_rfl) s sep m w hs hm h1
end Go.Proofs
namespace Go.Proofs.YtcnlkfocbbkdhaaGreatDoor.Gb
open Go Go.Proofs
section
open Go Go.RowKit
structure Kept (W w':World):Prop where
 kb:W.keptBut w' (fun _=>False)
 heap:∀i,i<W.heap.size→w'.heap[i]? =W.heap[i]?
 size:W.heap.size≤w'.heap.size
theorem Kept.frame {W w':World} (h:Kept W w') (may:MemPlace→Prop):W.keptBut w' may:=World.keptBut_mono (fun _ f=>f.elim) h.kb
theorem Stp.kept {G0 G:Gh} {w0 w:World} {H:List Own} (h:Stp (covs []) G0 w0 G H w):Kept w0 w:=by
 have hh:∀i,i<w0.heap.size→w.heap[i]? =w0.heap[i]? :=fun i hi=>(h.keep i hi).1 fun o ⟨x,hx,_⟩=>by cases hx
 refine⟨⟨h.weq.1,h.weq.2,fun i hi=>?_⟩,hh,h.size⟩
 rw[hh i hi]
 cases hb:w0.heap[i]? with
 | none=>rfl
 | some ob=>cases ob<;>simp_all
theorem Fn.keptG {P:Program} {f:FuncId} {vs:Array Value} {G:Gh} {R:Ending→Gh→List Own→Prop} (h:Fn P f vs G [] R) {R':Ending→Prop} (hr:∀e G' H',R e G' H'→R' e) {w:World} (hs:Sat G [] w) (hx:Ex (covs []) w):
  Calls P f vs w fun e w'=>R' e∧Kept w w':=
 (h w hs hx).mono fun e _ ⟨G',H',r,_,s⟩=>⟨hr e G' H' r,s.kept⟩
def Gw (w:World):Gh:=fun b o=>w.cell? ⟨b,o,none⟩
theorem Sat.whole (w:World):Sat (Gw w) [] w where
 agr b o v h:=h
 hold x h:=by cases h
 apart:=List.Pairwise.nil
 ghost x h:=by cases h
structure Ext2 (w w':World):Prop where
 size:w.heap.size≤w'.heap.size
 heap:∀b,b<w.heap.size→w'.heap[b]? =w.heap[b]?
 weq:WEq w w'
theorem Fn.ofExt {P:Program} {f:FuncId} {vs:Array Value} {G:Gh} {R:Ending→Prop} (h:∀w,Sat G [] w→Ex (covs []) w→Calls P f vs w fun e w'=>R e∧Ext2 w w'):Fn P f vs G [] fun e G' H'=>R e∧G=G'∧H'=[]:=fun w hs hxx=>
 (h w hs hxx).mono fun e w' ⟨hr,hx⟩=>by
  refine⟨G,[],⟨hr,rfl,rfl⟩,⟨fun b o v hg=>?_,fun x hx=>(by cases hx),List.Pairwise.nil,fun x hx=>(by cases hx)⟩,⟨hx.size,fun b hb=>⟨fun _=>hx.heap b hb,fun c T fr hc=>⟨c,(hx.heap b hb).trans hc,rfl,fun _ _=>rfl⟩⟩,G.le_refl,fun _ _ _ h=> .inl h,fun x hx'=>(by cases hx'),hx.weq⟩⟩
  have h1:=hs.agr b o v hg
  have hb:b<w.heap.size:=by
   rcases Nat.lt_or_ge b w.heap.size with h | h
   ·exact h
   ·simp only[World.cell?]at h1
    rw[Array.getElem?_eq_none h]at h1;simp at h1
  simp only[World.cell?]at h1⊢
  rw[hx.heap b hb];exact h1
end
section
def bytesL (s:ByteArray):List UInt8:=s.data.toList
theorem bytesL_length (s:ByteArray):(bytesL s).length=s.size:=Array.length_toList
section
variable {P:Program} {L:List (Nat×Value)} {G:Gh} {H:List Own} {d:Option Tmp} {ty:TypeId} {pos:String} {af:Array Edge} {gu:Option (Nat×Bool)}
theorem Gp.indexS {t:TypeId} {x y:Operand} {s:ByteArray} {k:IntKind} {i:Int} {c:UInt8} (hx:ev L x=some (.string s)) (hy:ev L y=some (.int k i)) [hu:Und P t .string] (h0:0≤i) (hc:(bytesL s)[i.toNat]? =some c):Gp P L ⟨d, .index t x y,ty,pos,af,gu⟩ (.int .u8 c.toNat):=
 fun a st w=>by
  have hi:=(List.getElem?_eq_some_iff.1 hc).1
  rw[bytesL_length]at hi
  have h1:=run_index_string (P:=P) w t s k i hu.h
  rw[dif_pos ⟨h0,by omega⟩]at h1
  have h2:s[i.toNat]'hi=c:=by
   have h3:(bytesL s)[i.toNat]? =some (s[i.toNat]'hi):=by
    unfold bytesL
    rw[List.getElem?_eq_getElem (by simpa [bytesL_length]using hi)]
    simp
    rfl
   rw[h3]at hc
   exact Option.some.inj hc
  simp only[execOp,Sem.run_bind,st.eval hx,st.eval hy,h1,Result.andThen_ok,h2]
  rfl
theorem Gp.sliceSTo {t:TypeId} {x y:Operand} {s:ByteArray} {k:IntKind} {i:Int} (hx:ev L x=some (.string s)) (hy:ev L y=some (.int k i)) [hu:Und P t .string] (h0:0≤i) (h1:i≤s.size):Gp P L ⟨d, .slice t x none (some y) none,ty,pos,af,gu⟩ (.string (s.extract 0 i.toNat)):=
 fun a st w=>by
  have h:=run_slice_string_to_if (P:=P) w t s k i hu.h
  rw[if_pos ⟨h0,h1⟩]at h
  simp[execOp,st.eval hx,st.eval hy,run_sliceAt_string w t _ _ _ _ hu.h,h]
theorem Gp.sliceSFrom {t:TypeId} {x y:Operand} {s:ByteArray} {k:IntKind} {i:Int} (hx:ev L x=some (.string s)) (hy:ev L y=some (.int k i)) [hu:Und P t .string] (h0:0≤i) (h1:i≤s.size):Gp P L ⟨d, .slice t x (some y) none none,ty,pos,af,gu⟩ (.string (s.extract i.toNat s.size)):=
 fun a st w=>by
  have h:=run_slice_string_from_if (P:=P) w t s k i hu.h
  rw[if_pos ⟨h0,h1⟩]at h
  simp[execOp,st.eval hx,st.eval hy,run_sliceAt_string w t _ _ _ _ hu.h,h]
theorem Gp.indexV {t m e en eb:Nat} {ze:Value} {x y:Operand} {cs:Array Value} {k:IntKind} {i:Int} {v:Value} (hu:P.underlying t=some (.array m e)) (hx:ev L x=some (.agg cs)) (hy:ev L y=some (.int k i)) [ha:Agg P e false] [hi2:Inf P e en eb ze] (hn:en=1) (h0:0≤i) (h1:i<m) (hc:cs[i.toNat]? =some v):
  Gp P L ⟨d, .index t x y,ty,pos,af,gu⟩ v:=fun a st w=>by
 subst hn
 simp[execOp,st.eval hx,st.eval hy,Instr.index,asIntOf,run_underlying hu,h0,h1,hi2.sizeOf,part,ha.h,hc]
end
attribute [local irreducible] Tryz.prog
theorem Ext2.ofBelow {w w':World} (h:Go.RowKit.Below w.heap.size w w'):Ext2 w w':=⟨h.size,fun b hb=>h.block b hb,h.os,h.output⟩
theorem Ext2.refl (w:World):Ext2 w w:=⟨Nat.le_refl _,fun _ _=>rfl,WEq.refl w⟩
theorem gTab:Tryz.prog.globalNamed "internal/strconv.uint64pow10" =some 3:=by kernel_rfl
theorem tab_of {w:World} (h:Ex (covs []) w):Lib.TabIs Tryz.prog w "internal/strconv.uint64pow10" .u64 Lib.pow10Tab:=by
 obtain⟨⟨T,fr,hh⟩,_⟩:=h _ (.head _)
 unfold Lib.TabIs World.var?
 rw[gTab]
 show(match w.heap[3]? with | some (.cells cs _ _)=>some cs | _=>none)=_
 rw[hh];rfl
structure Env (G:Gh):Prop where
 syn:∃te pe,G 1 0=some (.iface te pe)
 rng:∃te pe,G 2 0=some (.iface te pe)
 mxl:∃m,G 0 0=some (.int .i64 m)
theorem Env.mono {G G':Gh} (h:Env G) (hg:G.le G'):Env G':=
 ⟨let ⟨te,pe,e⟩:=h.syn;⟨te,pe,hg _ _ _ e⟩,let ⟨te,pe,e⟩:=h.rng;⟨te,pe,hg _ _ _ e⟩,let ⟨m,e⟩:=h.mxl;⟨m,hg _ _ _ e⟩⟩
theorem Ext2.grow (w:World) (k:Nat) (os:Array Obj):Ext2 w (Go.Sort.grow (w.drewN k) os):=
 ⟨by show w.heap.size≤(w.heap++os).size;simp,fun b hb=>by show(w.heap++os)[b]? =w.heap[b]?;rw[Array.getElem?_append_left hb],rfl,rfl⟩
theorem formatInt_fn (G:Gh) (hE:Env G) (n:Int) (h0: -9223372036854775808≤n) (h1:n≤9223372036854775807):
  Fn Tryz.prog 205 #[.int .i64 n, .int .i64 10] G [] fun e G' H'=>e= .returned (.string ⟨(Lib.itoa n).toArray⟩)∧G=G'∧H'=[]:=
 Fn.ofExt (R:=fun e=>e= .returned (.string ⟨(Lib.itoa n).toArray⟩)) fun w hs hx=>(Tryz.strconv_FormatInt_10 n h0 h1 w (tab_of hx)).mono fun e w' ⟨he,k,os,hw⟩=>⟨he,hw▸Ext2.grow w k os⟩
theorem Ext2.bytes {w w':World} {e:TypeId} {s:ByteArray} (h:w'=w∨∃t,w'=Lib.bytesWorld w e t):Ext2 w w':=by
 rcases h with rfl | ⟨t,rfl⟩
 ·exact Ext2.refl _
 ·exact Ext2.ofBelow (Lib.bytesWorld_below w e t)
theorem Sat.cell0 {G:Gh} {w:World} (hs:Sat G [] w) {g:Nat} {v:Value} (h:G g 0=some v):w.cell? ⟨g,0,none⟩=some v:=hs.agr g 0 v h
theorem parseIntB_ok {l:List UInt8} {v:Int} (h:Lib.parseIntB 64 l= .ok v): -9223372036854775808≤v∧v≤9223372036854775807:=by
 unfold Lib.parseIntB at h
 split at h
 ·cases h
 ·rename_i c r
  dsimp only at h
  split at h
  ·cases h
  ·cases h
  ·rename_i u hu
   split at h
   ·cases h
   ·rename_i h1
    split at h
    ·cases h
    ·rename_i h2
     simp only[Lib.NumEnd.ok.injEq]at h
     by_cases hn:c.toNat=45
     ·rw[if_pos hn]at h
      have h2':¬(2^(64 - 1)<u):=fun h'=>h2 ⟨hn,h'⟩
      omega
     ·rw[if_neg hn]at h
      have h1':¬(2^(64 - 1)≤u):=fun h'=>h1 ⟨hn,h'⟩
      omega
def pints (e:Ending):Prop:=∃n v,e= .returned (.tuple #[.int .i64 n,v])∧((v= .nilIface∧ -9223372036854775808≤n∧n≤9223372036854775807)∨∃t p,v= .iface t p)
theorem parseInt_fn (G:Gh) (hE:Env G) (s:ByteArray) (hl:s.size≤281474976710656):
  Fn Tryz.prog 204 #[.string s, .int .i64 10, .int .i64 64] G [] fun e G' H'=>pints e∧G=G'∧H'=[]:=
 Fn.ofExt (R:=pints) fun w hs _=>by
  cases h:Lib.parseIntB 64 s.data.toList with
  | ok v=>exact(Tryz.strconv_ParseInt_10_at64_ok s (by omega) v h w).mono fun e w' ⟨he,hw⟩=>⟨⟨v,_,he, .inl ⟨rfl,(parseIntB_ok h).1,(parseIntB_ok h).2⟩⟩,Ext2.bytes (s:=s) hw⟩
  | range=>
   obtain⟨te,pe,hv⟩:=hE.rng
   exact(Tryz.strconv_ParseInt_10_at64_range s hl h _ w (hs.cell0 hv) (.inr ⟨te,pe,rfl⟩)).mono fun e w' ⟨N,he,_,_,hb⟩=>⟨⟨_,_,he, .inr ⟨_,_,rfl⟩⟩,Ext2.ofBelow hb⟩
  | _=>
   obtain⟨te,pe,hv⟩:=hE.syn
   exact(Tryz.strconv_ParseInt_10_at64_syntax s hl h _ w (hs.cell0 hv) (.inr ⟨te,pe,rfl⟩)).mono fun e w' ⟨N,he,_,_,hb⟩=>⟨⟨0,_,he, .inr ⟨_,_,rfl⟩⟩,Ext2.ofBelow hb⟩
theorem indexByte_fn (G:Gh) (s:ByteArray) (c:Int):Fn Tryz.prog 208 #[.string s, .int .u8 c] G [] fun e G' H'=>e= .returned (.int .i64 (Lib.indexByte s.data.toList c.toNat.toUInt8))∧G=G'∧H'=[]:=
 Fn.ofExt (R:=fun e=>e= .returned (.int .i64 (Lib.indexByte s.data.toList c.toNat.toUInt8))) fun w hs _=>(Tryz.strings_IndexByte s c w).mono fun e w' ⟨he,hw⟩=>⟨he,hw▸Ext2.refl w⟩
theorem hasPrefix_fn (G:Gh) (s p:ByteArray):Fn Tryz.prog 207 #[.string s, .string p] G [] fun e G' H'=>e= .returned (.bool (Lib.hasPrefix s.data.toList p.data.toList))∧G=G'∧H'=[]:=
 Fn.ofExt (R:=fun e=>e= .returned (.bool (Lib.hasPrefix s.data.toList p.data.toList))) fun w hs _=>(Tryz.strings_HasPrefix s p w).mono fun e w' ⟨he,hw⟩=>⟨he,hw▸Ext2.refl w⟩
section
variable {P:Program} {L:List (Nat×Value)} {d:Option Tmp} {ty:TypeId} {pos:String} {af:Array Edge} {gu:Option (Nat×Bool)}
theorem Gp.eqNilNil {x:Operand} {t t':Nat} (hx:ev L x=some .nilIface) (hu:P.underlying t=some (.interface (P.methodsAt t))):Gp P L ⟨d, .binOp .eql t x (.const .nilIface) t',ty,pos,af,gu⟩ (.bool true):=
 fun a st w=>by
  have hc:a.eval (.const .nilIface)= .nilIface:=rfl
  simp[execOp,st.eval hx,hc,eqGuard,run_eql_nil_nil w t hu]
theorem Gp.eqHeldNil {x:Operand} {t t' u:Nat} {v:Value} (hx:ev L x=some (.iface u v)) (hu:P.underlying t=some (.interface (P.methodsAt t))):Gp P L ⟨d, .binOp .eql t x (.const .nilIface) t',ty,pos,af,gu⟩ (.bool false):=
 fun a st w=>by
  have hc:a.eval (.const .nilIface)= .nilIface:=rfl
  simp[execOp,st.eval hx,hc,eqGuard,run_eql_held_nil w t u v hu]
end
def letterN (n:Int):Bool:=n==95 || (decide (97≤n)&&decide (n≤122)) || (decide (65≤n)&&decide (n≤90))
def digitN (n:Int):Bool:=decide (48≤n)&&decide (n≤57)
theorem letter_fn (G:Gh) (H:List Own) (n:Int):Fn Tryz.prog 182 #[.int .u8 n] G H fun e G' H'=>e= .returned (.bool (letterN n))∧G=G'∧H'=H:=by
 refine Fn.enter Tryz.func182 rfl rfl fun w0=>?_
 cases h1:(n==95)with
 | true=>
  refine gom ?_
  refine WC.rt ?_
  exact QF.p1 (.inl rfl) rfl (.tmp rfl) (⟨by rw[letterN,h1];rfl,rfl,rfl⟩)
 | false=>
 cases h2:decide (97≤n)with
 | true=>
  cases h3:decide (n≤122)with
  | true=>
   refine gom ?_
   refine WC.rt ?_
   exact QF.p1 (.inl rfl) rfl (.tmp rfl) (⟨by rw[letterN,h1,h2,h3];rfl,rfl,rfl⟩)
  | false=>
   have h4:decide (65≤n)=true:=by rw[decide_eq_true_iff]at h2⊢;omega
   have h5:decide (n≤90)=false:=by rw[decide_eq_false_iff_not]at h3⊢;omega
   refine gom ?_
   refine WC.rt ?_
   exact QF.p1 (.inl rfl) rfl (.tmp rfl) (⟨by rw[letterN,h1,h2,h3,h4,h5];rfl,rfl,rfl⟩)
 | false=>
  cases h4:decide (65≤n)with
  | true=>
   refine gom ?_
   refine WC.rt ?_
   exact QF.p1 (.inl rfl) rfl (.tmp rfl) (⟨by rw[letterN,h1,h2,h4];rfl,rfl,rfl⟩)
  | false=>
   refine gom ?_
   refine WC.rt ?_
   exact QF.p1 (.inl rfl) rfl (.tmp rfl) (⟨by rw[letterN,h1,h2,h4];rfl,rfl,rfl⟩)
theorem digit_fn (G:Gh) (H:List Own) (n:Int):Fn Tryz.prog 185 #[.int .u8 n] G H fun e G' H'=>e= .returned (.bool (digitN n))∧G=G'∧H'=H:=by
 refine Fn.enter Tryz.func185 rfl rfl fun w0=>?_
 cases h1:decide (48≤n)with
 | true=>
  refine gom ?_
  refine WC.rt ?_
  exact QF.p1 (.inl rfl) rfl (.tmp rfl) (⟨by rw[digitN,h1];rfl,rfl,rfl⟩)
 | false=>
  refine gom ?_
  refine WC.rt ?_
  exact QF.p1 (.inl rfl) rfl (.tmp rfl) (⟨by rw[digitN,h1];rfl,rfl,rfl⟩)
def wordN (n:Int):Bool:=letterN n || digitN n
theorem wordc_fn (G:Gh) (H:List Own) (n:Int):Fn Tryz.prog 184 #[.int .u8 n] G H fun e G' H'=>e= .returned (.bool (wordN n))∧G=G'∧H'=H:=by
 refine Fn.enter Tryz.func184 rfl rfl fun w0=>?_
 refine gom ?_
 refine WL.oo (OW.callK rfl (letter_fn G [] n) rfl fun v' G' H' h hg=>?_)
 obtain⟨he,rfl,rfl⟩:=h
 cases he
 refine WL.pick H ?_
 cases h1:letterN n with
 | true=>
  refine gom ?_
  refine WC.rt ?_
  exact QF.p1 (.inl rfl) rfl (.tmp rfl) (⟨by rw[wordN,h1];rfl,rfl,rfl⟩)
 | false=>
  refine gom ?_
  refine WL.oo (OW.callK rfl (digit_fn G [] n) rfl fun v' G' H' h hg=>?_)
  obtain⟨he,rfl,rfl⟩:=h
  cases he
  refine WL.pick H ?_
  refine gom ?_
  refine WC.rt ?_
  exact QF.p1 (.inl rfl) rfl (.tmp rfl) (⟨by rw[wordN,h1];rfl,rfl,rfl⟩)
def runL (g:Int→Bool):List UInt8→Nat
 | []=>0
 | c::l=>if g c.toNat then 1+runL g l else 0
theorem runL_le (g:Int→Bool):∀l,runL g l≤l.length
 | []=>Nat.le_refl _
 | c::l=>by have:=runL_le g l;simp only[runL,List.length_cons];split<;>omega
theorem runL_at {g:Int→Bool} :∀ {l:List UInt8} {i:Nat},(∀j c,j<i→l[j]? =some c→g c.toNat=true)→i≤l.length→(∀c,l[i]? =some c→g c.toNat=false)→runL g l=i
 | [],i,_,h,_=>by simp at h;simp[runL,h]
 | c::l,0,_,_,h=>by simp[runL,h c rfl]
 | c::l,i+1,h1,h2,h3=>by
  have ih:=runL_at (g:=g) (l:=l) (i:=i) (fun j d hj hd=>h1 (j+1) d (by omega) (by simpa using hd)) (by simpa using h2) (fun d hd=>h3 d (by simpa using hd))
  simp only[runL]
  rw[if_pos (h1 0 c (by omega) rfl),ih];omega
theorem run_fn (G:Gh) (s:ByteArray) (f:Nat) (g:Int→Bool) [Body Tryz.prog f] (hf:∀n,Fn Tryz.prog f #[.int .u8 n] G [] fun e G' H'=>e= .returned (.bool (g n))∧G=G'∧H'=[]) (hl:s.size≤100000000000000):
  Fn Tryz.prog 183 #[.string s, .int .i64 0, .func (.func f) #[] #[]] G [] fun e G' H'=>e= .returned (.int .i64 (runL g (bytesL s)))∧G=G'∧H'=[]:=by
 refine Fn.enter Tryz.func183 rfl rfl fun w0=>?_
 refine gom ?_
 refine WC.loop (X:=Nat) (fun i=>[(0, .string s),(1, .int .i64 0),(2, .func (.func f) #[] #[]),(7, .int .i64 i)]) (fun _=>G) (fun _=>[]) (fun i=>s.size - i) (fun i=>i≤s.size∧∀j c,j<i→(bytesL s)[j]? =some c→g c.toNat=true) 0 ⟨Nat.zero_le _,fun j c h=>by omega⟩ (by exact⟨rfl,rfl,rfl,rfl,trivial⟩) rfl (List.Sublist.refl _) fun i hx=>?_
 obtain⟨hi,hall⟩:=hx
 have hbl:=bytesL_length s
 have x1:IntKind.i64.wrap ((0:Int)+(i:Int))=(i:Int):=by rw[Int.zero_add];exact wrapI (by omega) (by omega)
 have x2:=wrapS i (by omega)
 by_cases hlt:i<s.size
 rotate_left
 ·have e2:decide ((i:Int)<(s.size:Int))=false:=decide_eq_false (by omega)
  have hr:runL g (bytesL s)=i:=runL_at hall (by omega) (fun c hc=>by have:=(List.getElem?_eq_some_iff.1 hc).1;omega)
  refine gom ?_
  refine WC.rt ?_
  exact QF.p1 (.inl rfl) rfl (.tmp rfl) (⟨by rw[hr],rfl,rfl⟩)
 have e2:decide ((i:Int)<(s.size:Int))=true:=decide_eq_true (by omega)
 obtain⟨c,hc⟩:∃c,(bytesL s)[i]? =some c:=⟨_,List.getElem?_eq_getElem (by omega)⟩
 refine gom ?_
 refine WL.pp (Gp.indexS rfl rfl (by omega) hc) ?_
 refine WL.oo (OW.callVK rfl rfl rfl (hf c.toNat) rfl fun v' G' H' h hg=>?_)
 obtain⟨he,rfl,rfl⟩:=h
 cases he
 cases hg:g c.toNat with
 | true=>
  refine gom ?_
  exact WK.again (i+1) (by omega) ⟨by omega,fun j d hj hd=>by
   rcases Nat.lt_or_ge j i with h | h
   ·exact hall j d h hd
   ·obtain rfl:j=i:=by omega
    rw[hc]at hd;cases hd;exact hg⟩ (by exact⟨rfl,rfl,rfl,rfl,trivial⟩) rfl (List.Sublist.refl _)
 | false=>
  have hr:runL g (bytesL s)=i:=runL_at hall (by omega) (fun d hd=>by rw[hc]at hd;cases hd;exact hg)
  refine gom ?_
  refine WC.rt ?_
  exact QF.p1 (.inl rfl) rfl (.tmp rfl) (⟨by rw[hr],rfl,rfl⟩)
end
section
attribute [local irreducible] Tryz.prog
section
variable {P:Program} {L:List (Nat×Value)} {d:Option Tmp} {ty:TypeId} {pos:String} {af:Array Edge} {gu:Option (Nat×Bool)}
theorem Gp.or {t t':TypeId} {x y:Operand} {k:IntKind} {m n:Int} (hx:ev L x=some (.int k m)) (hy:ev L y=some (.int k n)):Gp P L ⟨d, .binOp .or t x y t',ty,pos,af,gu⟩ (.int k (bits .or k m n)):=
 fun a st w=>by
  have h:Op.intBits .or k m n=pure (.int k (bits .or k m n)):=rfl
  simp[execOp,st.eval hx,st.eval hy,eqGuard_or,binOp_or,h]
theorem Gp.shl {t t':TypeId} {x y:Operand} {k k':IntKind} {m n:Int} (hx:ev L x=some (.int k m)) (hy:ev L y=some (.int k' n)) (hn:0≤n):Gp P L ⟨d, .binOp .shl t x y t',ty,pos,af,gu⟩ (.int k (k.wrap (m*2^min n.toNat k.bits))):=
 fun a st w=>by simp[execOp,st.eval hx,st.eval hy,eqGuard_shl,binOp_shl,shift_shl_any k k' m n hn]
end
def keysL:List ByteArray:=[⟨#[105,110,99,108,117,100,101]⟩,⟨#[97,115]⟩,⟨#[101,120,112,111,114,116]⟩,⟨#[99,111,110,115,116]⟩,⟨#[102,117,110,99]⟩,⟨#[118,97,114]⟩,⟨#[105,102]⟩,⟨#[101,108,115,101]⟩,⟨#[119,104,105,108,101]⟩,⟨#[114,101,116,117,114,110]⟩,⟨#[112,114,105,110,116]⟩,⟨#[116,114,117,101]⟩,⟨#[102,97,108,115,101]⟩,⟨#[105,110,116]⟩,⟨#[98,111,111,108]⟩,⟨#[116,101,120,116]⟩]
def keyR (s:ByteArray):Bool:=keysL.any (fun k=>s==k)
theorem any_step {α:Type} {f:α→Bool} {l:List α} {i:Nat} {x:α} (hx:l[i]? =some x) (h:∀j y,j<i→l[j]? =some y→f y=false) (hf:f x=false):∀j y,j<i+1→l[j]? =some y→f y=false:=fun j y hj hy=>by
 rcases Nat.lt_or_ge j i with h1 | h1
 ·exact h j y h1 hy
 ·obtain rfl:j=i:=by omega
  rw[hx]at hy;cases hy;exact hf
theorem any_none {α:Type} {f:α→Bool} {l:List α} {i:Nat} (h:∀j y,j<i→l[j]? =some y→f y=false) (hi:l.length≤i):l.any f=false:=by
 rw[List.any_eq_false]
 intro x hx
 obtain⟨j,hj⟩:=List.getElem?_of_mem hx
 rw[h j x (by have:=(List.getElem?_eq_some_iff.1 hj).1;omega) hj];simp
theorem any_at {α:Type} {f:α→Bool} {l:List α} {i:Nat} {x:α} (hx:l[i]? =some x) (hf:f x=true):l.any f=true:=List.any_eq_true.2 ⟨x,List.mem_of_getElem? hx,hf⟩
theorem strs_at {l:List ByteArray} {i:Nat} {k:ByteArray} (h:l[i]? =some k):((l.map Value.string).toArray)[((i:Nat):Int).toNat]? =some (.string k):=by simp[h]
set_option maxRecDepth 100000 in
theorem key_fn (G:Gh) (s:ByteArray):Fn Tryz.prog 186 #[.string s] G [] fun e G' H'=>e= .returned (.bool (keyR s))∧G=G'∧H'=[]:=by
 refine Fn.enter Tryz.func186 rfl rfl fun w0=>?_
 refine gom ?_
 refine WL.pp (Gp.buildArr (cells:=keysL.map Value.string) Tryz.underlying283 rfl kr) ?_
 refine WL.oo (OW.alloc rfl fun b3=>?_)
 refine WL.oo (OW.store (n:=16) (cs:=keysL.map Value.string) (c':=(keysL.map Value.string).toArray) rfl rfl atA rfl kr kr kr kr ?_ rfl)
 refine WL.nil ?_
 refine WK.un ?_
 refine WC.seq ?_
 refine WC.seq ?_
 refine WC.region ?_
 refine WL.vv (Gv.loadN (cs:=keysL.map Value.string) rfl atA kr kr) ?_
 refine go ?_
 refine WC.loop (X:=Nat) (fun i=>[(0, .string s),(7, .agg (keysL.map Value.string).toArray),(8, .int .i64 i)]) (fun _=>G) (fun _=>[]) (fun i=>16 - i) (fun i=>i≤16∧∀j k,j<i→keysL[j]? =some k→(s==k)=false) 0 ⟨Nat.zero_le _,fun j k h=>by omega⟩ (by exact⟨rfl,rfl,rfl,trivial⟩) rfl (List.nil_sublist _) fun i hx=>?_
 obtain⟨hi,hall⟩:=hx
 have hkl:keysL.length=16:=rfl
 by_cases hlt:i<16
 rotate_left
 ·have e2:decide ((i:Int)<16)=false:=decide_eq_false (by omega)
  refine gom ?_
  refine WC.rt ?_
  exact QF.p1 (.inl rfl) rfl (.tmp rfl) (⟨by rw[keyR,any_none hall (by omega)],rfl,rfl⟩)
 have e2:decide ((i:Int)<16)=true:=decide_eq_true (by omega)
 obtain⟨k,hk⟩:∃k,keysL[i]? =some k:=⟨_,List.getElem?_eq_getElem (by omega)⟩
 have x2:=wrapS i (by omega)
 refine gom ?_
 refine WL.pp (Gp.indexV Tryz.underlying283 rfl rfl rfl (by omega) (by omega) (strs_at hk)) ?_
 refine go ?_
 cases hg:(s==k)with
 | false=>
  refine gom ?_
  exact WK.again (i+1) (by omega) ⟨by omega,any_step (f:=fun k=>s==k) hk hall hg⟩ (by exact⟨rfl,rfl,rfl,trivial⟩) rfl (List.Sublist.refl _)
 | true=>
  refine gom ?_
  refine WC.rt ?_
  exact QF.p1 (.inl rfl) rfl (.tmp rfl) (⟨by rw[keyR,any_at (f:=fun k=>s==k) hk hg],rfl,rfl⟩)
theorem nibble_fn (G:Gh) (n:Int):Fn Tryz.prog 224 #[.int .u8 n] G [] fun e G' H'=>∃m,e= .returned (.int .i64 m)∧G=G'∧H'=[]:=by
 refine Fn.enter Tryz.func224 rfl rfl fun w0=>?_
 refine gom ?_
 refine WL.oo (OW.callK rfl (digit_fn G [] n) rfl fun v' G' H' h hg=>?_)
 obtain⟨he,rfl,rfl⟩:=h
 cases he
 cases h1:digitN n with
 | true=>
  refine gom ?_
  refine zw.sub ?_
  refine zw.conv ?_
  refine gom ?_
  refine WC.rt ?_
  exact QF.p1 (.inl rfl) rfl (.tmp rfl) (⟨_,rfl,rfl,rfl⟩)
 | false=>
 cases h2:decide (97≤n)with
 | false=>
  refine gom ?_
  refine WC.rt ?_
  exact QF.p1 (.inl rfl) rfl (.tmp rfl) (⟨_,rfl,rfl,rfl⟩)
 | true=>
 cases h3:decide (n≤102)with
 | false=>
  refine gom ?_
  refine WC.rt ?_
  exact QF.p1 (.inl rfl) rfl (.tmp rfl) (⟨_,rfl,rfl,rfl⟩)
 | true=>
  refine gom ?_
  refine zw.sub ?_
  refine zw.conv ?_
  refine zw.add ?_
  refine gom ?_
  refine WC.rt ?_
  exact QF.p1 (.inl rfl) rfl (.tmp rfl) (⟨_,rfl,rfl,rfl⟩)
theorem piece_fn (G:Gh) (s:ByteArray) (hs:0<s.size):Fn Tryz.prog 206 #[.string s] G [] fun e G' H'=>∃c n:Int,e= .returned (.tuple #[.int .u8 c, .int .i64 n])∧(n=0∨n=1∨n=2∨n=4)∧G=G'∧H'=[]:=by
 have hbl:=bytesL_length s
 obtain⟨c,hc⟩:∃c,(bytesL s)[0]? =some c:=⟨_,List.getElem?_eq_getElem (by omega)⟩
 have hne:(s==⟨#[]⟩)=false:=by
  rw[bytes_beq]
  exact decide_eq_false fun e=>by rw[e]at hs;exact absurd hs (by decide)
 have hc':(bytesL s)[(0:Int).toNat]? =some c:=hc
 refine Fn.enter Tryz.func206 rfl rfl fun w0=>?_
 refine gom ?_
 rw[hne]
 refine gom ?_
 refine WL.pp (Gp.indexS rfl rfl (by decide) hc') ?_
 refine gom ?_
 cases h1:decide ((c.toNat:Int)<32)with
 | true=>
  refine gom ?_
  refine WC.rt ?_
  exact QF.p2 (.inl rfl) rfl (.tmp rfl) (.tmp rfl) (⟨_,0,rfl, .inl rfl,rfl,rfl⟩)
 | false=>
 refine gom ?_
 refine WL.pp (Gp.indexS rfl rfl (by decide) hc') ?_
 refine gom ?_
 cases h2:decide ((126:Int)<c.toNat)with
 | true=>
  refine gom ?_
  refine WC.rt ?_
  exact QF.p2 (.inl rfl) rfl (.tmp rfl) (.tmp rfl) (⟨_,0,rfl, .inl rfl,rfl,rfl⟩)
 | false=>
 refine gom ?_
 refine WL.pp (Gp.indexS rfl rfl (by decide) hc') ?_
 refine gom ?_
 cases h3:((c.toNat:Int)==34)with
 | true=>
  refine gom ?_
  refine WC.rt ?_
  exact QF.p2 (.inl rfl) rfl (.tmp rfl) (.tmp rfl) (⟨_,0,rfl, .inl rfl,rfl,rfl⟩)
 | false=>
 refine gom ?_
 refine WL.pp (Gp.indexS rfl rfl (by decide) hc') ?_
 refine gom ?_
 cases h4:((c.toNat:Int) != 92)with
 | true=>
  refine gom ?_
  refine WL.pp (Gp.indexS rfl rfl (by decide) hc') ?_
  refine gom ?_
  refine WC.rt ?_
  exact QF.p2 (.inl rfl) rfl (.tmp rfl) (.tmp rfl) (⟨_,1,rfl, .inr (.inl rfl),rfl,rfl⟩)
 | false=>
 cases h5:decide ((s.size:Int)<2)with
 | true=>
  refine gom ?_
  refine WC.rt ?_
  exact QF.p2 (.inl rfl) rfl (.tmp rfl) (.tmp rfl) (⟨_,0,rfl, .inl rfl,rfl,rfl⟩)
 | false=>
 have h5':=of_decide_eq_false h5
 obtain⟨c1,hc1⟩:∃c,(bytesL s)[1]? =some c:=⟨_,List.getElem?_eq_getElem (by omega)⟩
 have hc1':(bytesL s)[(1:Int).toNat]? =some c1:=hc1
 refine gom ?_
 refine WL.pp (Gp.indexS rfl rfl (by decide) hc1') ?_
 refine gom ?_
 cases h6:((c1.toNat:Int)==110)with
 | true=>
  refine gom ?_
  refine WC.rt ?_
  exact QF.p2 (.inl rfl) rfl (.tmp rfl) (.tmp rfl) (⟨_,2,rfl, .inr (.inr (.inl rfl)),rfl,rfl⟩)
 | false=>
 cases h7:((c1.toNat:Int)==116)with
 | true=>
  refine gom ?_
  refine WC.rt ?_
  exact QF.p2 (.inl rfl) rfl (.tmp rfl) (.tmp rfl) (⟨_,2,rfl, .inr (.inr (.inl rfl)),rfl,rfl⟩)
 | false=>
 cases h8:((c1.toNat:Int)==34)with
 | true=>
  refine gom ?_
  refine WL.pp (Gp.indexS rfl rfl (by decide) hc1') ?_
  refine gom ?_
  refine WC.rt ?_
  exact QF.p2 (.inl rfl) rfl (.tmp rfl) (.tmp rfl) (⟨_,2,rfl, .inr (.inr (.inl rfl)),rfl,rfl⟩)
 | false=>
 cases h9:((c1.toNat:Int)==92)with
 | true=>
  refine gom ?_
  refine WL.pp (Gp.indexS rfl rfl (by decide) hc1') ?_
  refine gom ?_
  refine WC.rt ?_
  exact QF.p2 (.inl rfl) rfl (.tmp rfl) (.tmp rfl) (⟨_,2,rfl, .inr (.inr (.inl rfl)),rfl,rfl⟩)
 | false=>
 cases h10:((c1.toNat:Int)==120)with
 | false=>
  refine gom ?_
  refine WC.rt ?_
  exact QF.p2 (.inl rfl) rfl (.tmp rfl) (.tmp rfl) (⟨_,0,rfl, .inl rfl,rfl,rfl⟩)
 | true=>
 cases h11:decide ((4:Int)≤(s.size:Int))with
 | false=>
  refine gom ?_
  refine WC.rt ?_
  exact QF.p2 (.inl rfl) rfl (.tmp rfl) (.tmp rfl) (⟨_,0,rfl, .inl rfl,rfl,rfl⟩)
 | true=>
 have h11':=of_decide_eq_true h11
 obtain⟨c2,hc2⟩:∃c,(bytesL s)[2]? =some c:=⟨_,List.getElem?_eq_getElem (by omega)⟩
 have hc2':(bytesL s)[(2:Int).toNat]? =some c2:=hc2
 obtain⟨c3,hc3⟩:∃c,(bytesL s)[3]? =some c:=⟨_,List.getElem?_eq_getElem (by omega)⟩
 have hc3':(bytesL s)[(3:Int).toNat]? =some c3:=hc3
 refine gom ?_
 refine WL.pp (Gp.indexS rfl rfl (by decide) hc2') ?_
 refine WL.oo (OW.callK rfl (nibble_fn G c2.toNat) rfl fun v' G' H' h hg=>?_)
 obtain⟨m2,he,rfl,rfl⟩:=h
 cases he
 cases h12:decide ((0:Int)≤m2)with
 | false=>
  refine gom ?_
  refine WC.rt ?_
  exact QF.p2 (.inl rfl) rfl (.tmp rfl) (.tmp rfl) (⟨_,0,rfl, .inl rfl,rfl,rfl⟩)
 | true=>
 refine gom ?_
 refine WL.pp (Gp.indexS rfl rfl (by decide) hc3') ?_
 refine WL.oo (OW.callK rfl (nibble_fn G c3.toNat) rfl fun v' G' H' h hg=>?_)
 obtain⟨m3,he,rfl,rfl⟩:=h
 cases he
 cases h13:decide ((0:Int)≤m3)with
 | false=>
  refine gom ?_
  refine WC.rt ?_
  exact QF.p2 (.inl rfl) rfl (.tmp rfl) (.tmp rfl) (⟨_,0,rfl, .inl rfl,rfl,rfl⟩)
 | true=>
 refine go ?_
 refine WC.draw mixed ?_
 refine za.move 0 ?_
 refine WA.pp 1 rfl (Gp.indexS rfl rfl (by decide) hc2') ?_
 refine za.move 4 ?_
 refine WA.pp 5 rfl (Gp.indexS rfl rfl (by decide) hc3') ?_
 refine WA.oo 2 rfl (OW.callK rfl (nibble_fn G c2.toNat) rfl fun v' G' H' h hg=>?_)
 obtain⟨m4,he,rfl,rfl⟩:=h
 cases he
 refine WA.pp 3 rfl (Gp.shl rfl rfl (by decide)) ?_
 refine WA.oo 6 rfl (OW.callK rfl (nibble_fn G c3.toNat) rfl fun v' G' H' h hg=>?_)
 obtain⟨m5,he,rfl,rfl⟩:=h
 cases he
 refine WA.pp 7 rfl (Gp.or rfl rfl) ?_
 refine za.conv 8 ?_
 refine za.assign 9 ?_
 refine za.assign 10 ?_
 refine WA.done kr ?_
 refine WK.un ?_
 refine WC.rt ?_
 exact QF.p2 (.inl rfl) rfl (.tmp rfl) (.tmp rfl) (⟨_,4,rfl, .inr (.inr (.inr rfl)),rfl,rfl⟩)
end
section
attribute [local irreducible] Tryz.prog
theorem QF.p3 {P:Program} {fn:Func} {G0 G:Gh} {H0 H H' F:List Own} {w0:W0 H0} {R:Ending→Gh→List Own→Prop} {L:List (Nat×Value)} {N:Nat} {e:Exit} (he:e= .ret∨e= .normal) {r s q:ResultVar} {v u x:Value} (hres:fn.results= #[r,s,q]) (hv:RV P L H r v) (hu:RV P L H s u) (hx:RV P L H q x) (h:R (.returned (.tuple #[v,u,x])) G H')
  (hs:Pk H H' F:=by repeat (first | exact Pk.nil | exact Pk.all | exact Pk.app | exact Pk.appR | with_reducible apply Pk.na | (apply Pk.cons;(repeat first | exact .here | apply Rem.there | apply Rem.app)) | apply Pk.assoc | apply Pk.skip | apply Pk.skipA)):WK (QF P fn G0 w0.w H0 R e) ⟨w0.w,G0,covs H0,N,[],w0.ex⟩ L G H:=
 QF.ofP he (.tuple #[v,u,x]) (fun a w st=>by simp[results_rvS,hres,hv.run st,hu.run st,hx.run st]) h hs
theorem Gv.convBytes {P:Program} {L:List (Nat×Value)} {G:Gh} {H:List Own} {d:Option Tmp} {ty:TypeId} {pos:String} {af:Array Edge} {gu:Option (Nat×Bool)} {src dst e:TypeId} {x:Operand} {A:Option Addr} {cap:Nat} {xs:List Int} (hx:ev L x=some (.slice A xs.length cap)) [hs:Und P src (.slice e)] [he:Und P e (.int .u8)] [hd:Und P dst .string]
  (hr:Rds G H A (xs.map (.int .u8))) (hn:A=none→xs.length=0):Gv P L G H ⟨d, .convert src dst x,ty,pos,af,gu⟩ (.string (strOfNums xs)):=fun a w sk s=>by
 have key:(convert src dst (.slice A xs.length cap)).run P w= .ok (.string (strOfNums xs)) w:=by
  cases A with
  | none=>
   have h0:xs=[]:=List.eq_nil_of_length_eq_zero (hn rfl)
   subst h0
   exact run_convert_bytes_nil w src e hs.h he.h _ _ dst hd.h
  | some p=>
   rcases hr with h | ⟨b,o,h1,h2⟩
   ·have h0:xs=[]:=by simpa using h
    subst h0
    obtain⟨b,o,sp⟩:=p
    have hl:(loadCells ⟨b,o,sp⟩ 0).run P w= .ok (([]:List Int).map (Value.int .u8)).toArray w:=by simp[loadCells,loadCellsFrom]
    rw[run_convert_bytes_string w src dst e _ _ cap hs.h he.h hd.h]
    exact run_bytesToString w _ 0 cap [] hl
   ·cases h1
    exact run_convert_bytes_arg w src e hs.h he.h b o xs.length cap xs rfl (fun i hi=>by
     rw[h2 w s i (.int .u8 (xs.getD i 0)) (by simp[List.getD,hi])]) dst hd.h
 simp[execOp,sk.eval hx,key]
def twoL:List ByteArray:=[⟨#[61,61]⟩,⟨#[33,61]⟩,⟨#[60,61]⟩,⟨#[62,61]⟩,⟨#[43,43]⟩,⟨#[38,38]⟩,⟨#[124,124]⟩]
set_option maxRecDepth 100000 in
theorem sign_fn (G:Gh) (s:ByteArray) (hs:0<s.size):Fn Tryz.prog 189 #[.string s] G [] fun e G' H'=>∃n,e= .returned (.int .i64 n)∧G=G'∧H'=[]:=by
 have hbl:=bytesL_length s
 obtain⟨c,hc⟩:∃c,(bytesL s)[0]? =some c:=⟨_,List.getElem?_eq_getElem (by omega)⟩
 have hc':(bytesL s)[(0:Int).toNat]? =some c:=hc
 refine Fn.enter Tryz.func189 rfl rfl fun w0=>?_
 refine gom ?_
 refine WL.pp (Gp.buildArr (cells:=twoL.map Value.string) Tryz.underlying291 rfl kr) ?_
 refine WL.oo (OW.alloc rfl fun b3=>?_)
 refine WL.oo (OW.store (n:=7) (cs:=twoL.map Value.string) (c':=(twoL.map Value.string).toArray) rfl rfl atA rfl kr kr kr kr ?_ rfl)
 refine WL.nil ?_
 refine WK.un ?_
 refine WC.seq ?_
 refine WC.seq ?_
 refine WC.region ?_
 refine WL.vv (Gv.loadN (cs:=twoL.map Value.string) rfl atA kr kr) ?_
 refine go ?_
 refine WC.loop (X:=Nat) (fun i=>[(0, .string s),(7, .agg (twoL.map Value.string).toArray),(8, .int .i64 i)]) (fun _=>G) (fun _=>[]) (fun i=>7 - i) (fun i=>i≤7) 0 (Nat.zero_le _) (by exact⟨rfl,rfl,rfl,trivial⟩) rfl (List.nil_sublist _) fun i hi=>?_
 have hkl:twoL.length=7:=rfl
 by_cases hlt:i<7
 rotate_left
 ·have e2:decide ((i:Int)<7)=false:=decide_eq_false (by omega)
  refine gom ?_
  refine WL.pp (Gp.indexS rfl rfl (by decide) hc') ?_
  refine WL.oo (OW.callK rfl (indexByte_fn G _ c.toNat) rfl fun v' G' H' h hg=>?_)
  obtain⟨he,rfl,rfl⟩:=h
  cases he
  refine gom ?_
  generalize hb:decide (0≤Lib.indexByte _ _)=b
  cases b
  ·
   refine gom ?_
   refine WC.rt ?_
   exact QF.p1 (.inl rfl) rfl (.tmp rfl) (⟨_,rfl,rfl,rfl⟩)
  ·
   refine gom ?_
   refine WC.rt ?_
   exact QF.p1 (.inl rfl) rfl (.tmp rfl) (⟨_,rfl,rfl,rfl⟩)
 have e2:decide ((i:Int)<7)=true:=decide_eq_true (by omega)
 obtain⟨k,hk⟩:∃k,twoL[i]? =some k:=⟨_,List.getElem?_eq_getElem (by omega)⟩
 have x2:=wrapS i (by omega)
 refine gom ?_
 refine WL.pp (Gp.indexV Tryz.underlying291 rfl rfl rfl (by omega) (by omega) (strs_at hk)) ?_
 refine go ?_
 refine WL.oo (OW.callK rfl (hasPrefix_fn G s k) rfl fun v' G' H' h hg=>?_)
 obtain⟨he,rfl,rfl⟩:=h
 cases he
 cases hg:Lib.hasPrefix s.data.toList k.data.toList with
 | false=>
  refine gom ?_
  exact WK.again (i+1) (by omega) (by omega) (by exact⟨rfl,rfl,rfl,trivial⟩) rfl (List.Sublist.refl _)
 | true=>
  refine gom ?_
  refine WC.rt ?_
  exact QF.p1 (.inl rfl) rfl (.tmp rfl) (⟨_,rfl,rfl,rfl⟩)
theorem whole_fn (G:Gh) (hE:Env G) (s:ByteArray) (hs:0<s.size) (hl:s.size≤281474976710656):Fn Tryz.prog 187 #[.string s] G [] fun e G' H'=>∃(n:Int) (b:Bool),e= .returned (.tuple #[.int .i64 n, .bool b])∧G=G'∧H'=[]:=by
 have hbl:=bytesL_length s
 obtain⟨c,hc⟩:∃c,(bytesL s)[0]? =some c:=⟨_,List.getElem?_eq_getElem (by omega)⟩
 have hc':(bytesL s)[(0:Int).toNat]? =some c:=hc
 have hp:=(parseInt_fn G hE s hl).mono (R':=fun e G' H'=>∃n v,e= .returned (.tuple #[.int .i64 n,v])∧((v= .nilIface∧ -9223372036854775808≤n∧n≤9223372036854775807)∨∃t p,v= .iface t p)∧G=G'∧H'=[]) (fun e G' H' ⟨⟨n,v,h1,h2⟩,h3,h4⟩=>⟨n,v,h1,h2,h3,h4⟩)
 refine Fn.enter Tryz.func187 rfl rfl fun w0=>?_
 refine gom ?_
 refine WL.oo (OW.callK rfl (hp) rfl fun v' G' H' h hg=>?_)
 obtain⟨n,v,he,hv,rfl,rfl⟩:=h
 cases he
 refine go ?_
 rcases hv with⟨rfl,hn0,hn1⟩ | ⟨t,p,rfl⟩
 ·
  refine WL.pp (Gp.eqNilNil rfl kr) ?_
  refine gom ?_
  refine WL.oo (OW.callK rfl (formatInt_fn G hE n hn0 hn1) rfl fun v' G' H' h hg=>?_)
  obtain⟨he,rfl,rfl⟩:=h
  cases he
  cases h1:((⟨(Lib.itoa n).toArray⟩:ByteArray)==s)with
  | false=>
   refine gom ?_
   rw[h1]
   refine gom ?_
   refine WC.rt ?_
   exact QF.p2 (.inl rfl) rfl (.tmp rfl) (.tmp rfl) (⟨_,_,rfl,rfl,rfl⟩)
  | true=>
   refine gom ?_
   rw[h1]
   refine gom ?_
   refine WL.pp (Gp.indexS rfl rfl (by decide) hc') ?_
   refine WL.oo (OW.callK rfl (digit_fn G [] c.toNat) rfl fun v' G' H' h hg=>?_)
   obtain⟨he,rfl,rfl⟩:=h
   cases he
   refine gom ?_
   refine WC.rt ?_
   exact QF.p2 (.inl rfl) rfl (.tmp rfl) (.tmp rfl) (⟨_,_,rfl,rfl,rfl⟩)
 ·
  refine WL.pp (Gp.eqHeldNil rfl kr) ?_
  refine gom ?_
  refine WC.rt ?_
  exact QF.p2 (.inl rfl) rfl (.tmp rfl) (.tmp rfl) (⟨_,_,rfl,rfl,rfl⟩)
theorem quoted_fn (G:Gh) (s:ByteArray) (hs:0<s.size) (hl:s.size≤100000000000000):Fn Tryz.prog 188 #[.string s] G [] fun e G' H'=>∃(v:ByteArray) (n:Int),e= .returned (.tuple #[.string v, .int .i64 n])∧G=G'∧H'=[]:=by
 have hbl:=bytesL_length s
 obtain⟨c,hc⟩:∃c,(bytesL s)[0]? =some c:=⟨_,List.getElem?_eq_getElem (by omega)⟩
 have hc':(bytesL s)[(0:Int).toNat]? =some c:=hc
 have hne:(s==⟨#[]⟩)=false:=by
  rw[bytes_beq]
  exact decide_eq_false fun e=>by rw[e]at hs;exact absurd hs (by decide)
 refine Fn.enter Tryz.func188 rfl rfl fun w0=>?_
 refine gom ?_
 rw[hne]
 refine gom ?_
 refine WL.pp (Gp.indexS rfl rfl (by decide) hc') ?_
 refine gom ?_
 cases h1:((c.toNat:Int) != 34)with
 | true=>
  refine gom ?_
  refine WC.rt ?_
  exact QF.p2 (.inl rfl) rfl (.tmp rfl) (.tmp rfl) (⟨_,_,rfl,rfl,rfl⟩)
 | false=>
 refine gom ?_
 refine WC.nothing ?_
 refine WC.loop (X:=Nat×List Int×Option Addr×Nat×Own) (fun x=>[(0, .string s),(4, .slice x.2.2.1 x.2.1.length x.2.2.2.1),(5, .int .i64 x.1)]) (fun _=>G) (fun x=>[x.2.2.2.2]) (fun x=>s.size - x.1) (fun x=>Vec 5 1 x.2.2.1 x.2.1.length x.2.2.2.1 (x.2.1.map (.int .u8)) x.2.2.2.2∧x.2.1.length≤4096∧x.1≤s.size+4) (1,[],none,0, .spare 0 0 0) ⟨⟨rfl, .inl ⟨rfl,rfl,rfl,rfl⟩⟩,by decide,by dsimp only;omega⟩ (by exact⟨rfl,rfl,rfl,trivial⟩) rfl (List.Sublist.refl _) fun x hx=>?_
 obtain⟨i,xs,A,cap,o⟩:=x
 obtain⟨hv,hxs,hi⟩:=hx
 dsimp only at hv hxs hi
 have fin:∀ {a:Act},True:=fun {a} =>trivial
 by_cases hlt:i<s.size
 rotate_left
 ·have e2:decide ((i:Int)<(s.size:Int))=false:=decide_eq_false (by omega)
  have e3:decide ((s.size:Int)≤(i:Int))=true:=decide_eq_true (by omega)
  refine gom ?_
  refine WC.rt ?_
  exact QF.p2 (.inl rfl) rfl (.tmp rfl) (.tmp rfl) (⟨_,_,rfl,rfl,rfl⟩)
 have e2:decide ((i:Int)<(s.size:Int))=true:=decide_eq_true (by omega)
 have e3:decide ((s.size:Int)≤(i:Int))=false:=decide_eq_false (by omega)
 obtain⟨ci,hci⟩:∃c,(bytesL s)[i]? =some c:=⟨_,List.getElem?_eq_getElem (by omega)⟩
 have x2:=wrapS i (by omega)
 refine gom ?_
 refine WL.pp (Gp.indexS rfl rfl (by omega) hci) ?_
 refine gom ?_
 cases h2:((ci.toNat:Int) != 34)with
 | false=>
  refine gom ?_
  have hA0:A=none→xs.length=0:=fun hA=>by
   rcases hv.2 with⟨_,h,_⟩ | ⟨b,c,h,_⟩
   ·exact h
   ·rw[hA]at h;cases h
  refine WL.vv (Gv.convBytes (xs:=xs) rfl (Vec.rds hv .here) hA0) ?_
  refine gom ?_
  refine WC.rt ?_
  exact QF.p2 (.inl rfl) rfl (.tmp rfl) (.tmp rfl) (⟨_,_,rfl,rfl,rfl⟩)
 | true=>
 refine gom ?_
 refine WL.pp (Gp.sliceSFrom rfl rfl (by omega) (by omega)) ?_
 refine WL.oo (OW.callK rfl (piece_fn G (s.extract i s.size) (by rw[ByteArray.size_extract];omega)) rfl fun v' G' H' h hg=>?_)
 obtain⟨cc,n,he,hn,rfl,rfl⟩:=h
 cases he
 refine gom ?_
 cases h3:(n==0)with
 | true=>
  refine gom ?_
  refine WC.rt ?_
  exact QF.p2 (.inl rfl) rfl (.tmp rfl) (.tmp rfl) (⟨_,_,rfl,rfl,rfl⟩)
 | false=>
 have h3':n≠0:=by simpa using h3
 cases h4:decide ((4096:Int)≤(xs.length:Int))with
 | true=>
  refine gom ?_
  refine WC.rt ?_
  exact QF.p2 (.inl rfl) rfl (.tmp rfl) (.tmp rfl) (⟨_,_,rfl,rfl,rfl⟩)
 | false=>
 have h4':=of_decide_eq_false h4
 obtain⟨m,rfl⟩:∃m:Nat,n=m:=⟨n.toNat,by omega⟩
 have x5:IntKind.i64.wrap ((i:Int)+(m:Int))=((i+m:Nat):Int):=by rw[wrapI (by omega) (by omega)];omega
 refine gom ?_
 refine WL.op kr (OW.buildSlice rfl kr kr (by rfl) rfl fun b9=>?_)
 refine WL.oo (OW.append rfl rfl kr kr hv atA (Rds.blk0 (cs:=[.int .u8 cc]) .here rfl) rfl rfl (by show(xs.length+1)*1≤_;omega) (by show xs.length+1≤_;omega) rfl fun A3 c3 o3 hv3=>?_)
 refine gom ?_
 refine WK.pick [o3] ?_
 have hl3:(xs++[cc]).length=xs.length+1:=by simp
 have hl4:(xs++[cc]).length≤4096:=by rw[hl3];omega
 have hm4:i+m≤s.size+4:=by omega
 have hm5:s.size - (i+m)<s.size - i:=by omega
 have hv5:Vec 5 1 A3 (xs++[cc]).length c3 ((xs++[cc]).map (.int .u8)) o3:=by rw[hl3,List.map_append];exact hv3
 exact WK.again (i+m,xs++[cc],A3,c3,o3) (by exact hm5) ⟨hv5,hl4,hm4⟩ (by exact⟨rfl,by show _=some (Value.slice A3 (xs++[cc]).length c3);rw[hl3];rfl,rfl,trivial⟩) rfl (List.Sublist.refl _)
theorem extract_all (s:ByteArray):s.extract 0 s.size=s:=by
 apply ByteArray.ext
 rw[ByteArray.data_extract]
 show s.data.extract 0 s.data.size=s.data
 simp
def wordR (s:ByteArray):Bool:=
 match bytesL s with
 | []=>false
 | c::l=>letterN c.toNat&&(decide (runL wordN (c::l)=(c::l).length)&&(decide ((c::l).length≤32)&& !keyR s))
theorem wordR_cons {s:ByteArray} {c:UInt8} {l:List UInt8} (h:bytesL s=c::l):wordR s=(letterN c.toNat&&(decide (runL wordN (c::l)=(c::l).length)&&(decide ((c::l).length≤32)&& !keyR s))):=by
 unfold wordR;rw[h]
theorem token_fn (G:Gh) (hE:Env G) (s:ByteArray) (c:UInt8) (l:List UInt8) (hs:bytesL s=c::l) (hl:s.size≤100000000000000):
  Fn Tryz.prog 159 #[.string s] G [] fun e G' H'=>∃k n e0:Int,e= .returned (.tuple #[.int .i64 k, .int .i64 n, .int .i64 e0])∧((e0==0&&(k==1&&n==s.size))=wordR s)∧G=G'∧H'=[]:=by
 have hbl:=bytesL_length s
 have hw:=wordR_cons hs
 have hpos:0<s.size:=by rw[←hbl,hs];simp
 have hc:(bytesL s)[0]? =some c:=by rw[hs];rfl
 have hc':(bytesL s)[(0:Int).toNat]? =some c:=hc
 have hlen:(c::l).length=s.size:=by rw[←hs];exact hbl
 rw[hlen,←hs]at hw
 refine Fn.enter Tryz.func159 rfl rfl fun w0=>?_
 refine gom ?_
 refine WL.pp (Gp.indexS rfl rfl (by decide) hc') ?_
 refine gom ?_
 refine WL.oo (OW.callK rfl (letter_fn G [] c.toNat) rfl fun v' G' H' h hg=>?_)
 obtain⟨he,rfl,rfl⟩:=h
 cases he
 cases h1:letterN c.toNat with
 | true=>
  rw[h1,Bool.true_and]at hw
  refine gom ?_
  refine WL.oo (OW.callK rfl (run_fn G s 184 wordN (wordc_fn G []) hl) rfl fun v' G' H' h hg=>?_)
  obtain⟨he,rfl,rfl⟩:=h
  cases he
  obtain⟨n,hn⟩:∃n,n=runL wordN (bytesL s):=⟨_,rfl⟩
  have hnle:n≤s.size:=by rw[hn,←hbl];exact runL_le _ _
  rw[←hn]at hw⊢
  by_cases h2:32<n
  ·have y2:decide ((32:Int)<(n:Int))=true:=decide_eq_true (by omega)
   have hwf:wordR s=false:=by
    rw[hw]
    by_cases h3:n=s.size
    ·rw[decide_eq_false (show¬s.size≤32 by omega)];simp
    ·rw[decide_eq_false h3];rfl
   refine gom ?_
   refine WC.rt ?_
   exact QF.p3 (.inl rfl) rfl (.tmp rfl) (.tmp rfl) (.tmp rfl) (⟨0,0,123,rfl,by rw[hwf];rfl,rfl,rfl⟩)
  ·have y2:decide ((32:Int)<(n:Int))=false:=decide_eq_false (by omega)
   refine gom ?_
   refine WL.pp (Gp.sliceSTo rfl rfl (by omega) (by omega)) ?_
   refine WL.oo (OW.callK rfl (key_fn G _) rfl fun v' G' H' h hg=>?_)
   obtain⟨he,rfl,rfl⟩:=h
   cases he
   rw[Int.toNat_natCast]
   by_cases h3:n=s.size
   ·have hex:s.extract 0 n=s:=by rw[h3];exact extract_all s
    rw[hex]
    rw[decide_eq_true h3,decide_eq_true (show s.size≤32 by omega),Bool.true_and,Bool.true_and]at hw
    cases h4:keyR s with
    | true=>
     refine gom ?_
     refine WC.rt ?_
     exact QF.p3 (.inl rfl) rfl (.tmp rfl) (.tmp rfl) (.tmp rfl) (⟨4,n,0,rfl,by rw[hw,h4];rfl,rfl,rfl⟩)
    | false=>
     refine gom ?_
     refine WC.rt ?_
     exact QF.p3 (.inl rfl) rfl (.tmp rfl) (.tmp rfl) (.tmp rfl) (⟨1,n,0,rfl,by rw[hw,h4,h3];simp,rfl,rfl⟩)
   ·have hwf:wordR s=false:=by rw[hw,decide_eq_false h3];rfl
    cases h4:keyR (s.extract 0 n)with
    | true=>
     refine gom ?_
     refine WC.rt ?_
     exact QF.p3 (.inl rfl) rfl (.tmp rfl) (.tmp rfl) (.tmp rfl) (⟨4,n,0,rfl,by rw[hwf];rfl,rfl,rfl⟩)
    | false=>
     have h5:((n:Int)==(s.size:Int))=false:=by rw[beq_eq_false_iff_ne];omega
     refine gom ?_
     refine WC.rt ?_
     exact QF.p3 (.inl rfl) rfl (.tmp rfl) (.tmp rfl) (.tmp rfl) (⟨1,n,0,rfl,by rw[hwf,h5];rfl,rfl,rfl⟩)
 | false=>
 have hwf:wordR s=false:=by rw[hw,h1];rfl
 refine gom ?_
 refine WL.oo (OW.callK rfl (digit_fn G [] c.toNat) rfl fun v' G' H' h hg=>?_)
 obtain⟨he,rfl,rfl⟩:=h
 cases he
 cases h2:digitN c.toNat with
 | true=>
  refine gom ?_
  refine WL.oo (OW.callK rfl (run_fn G s 185 digitN (digit_fn G []) hl) rfl fun v' G' H' h hg=>?_)
  obtain⟨he,rfl,rfl⟩:=h
  cases he
  obtain⟨n,hn⟩:∃n,n=runL digitN (bytesL s):=⟨_,rfl⟩
  have hnle:n≤s.size:=by rw[hn,←hbl];exact runL_le _ _
  have hn1:1≤n:=by rw[hn,hs];simp only[runL];rw[if_pos h2];omega
  rw[←hn]
  refine gom ?_
  refine WL.pp (Gp.sliceSTo rfl rfl (by omega) (by omega)) ?_
  refine WL.oo (OW.callK rfl (whole_fn G hE _ (by rw[ByteArray.size_extract];omega) (by rw[ByteArray.size_extract];omega)) rfl fun v' G' H' h hg=>?_)
  obtain⟨m,b,he,rfl,rfl⟩:=h
  cases he
  refine gom ?_
  cases b with
  | false=>
   refine gom ?_
   refine WC.rt ?_
   exact QF.p3 (.inl rfl) rfl (.tmp rfl) (.tmp rfl) (.tmp rfl) (⟨0,0,121,rfl,by rw[hwf];rfl,rfl,rfl⟩)
  | true=>
  by_cases h3:n<s.size
  ·have y3:decide ((n:Int)<(s.size:Int))=true:=decide_eq_true (by omega)
   obtain⟨d,hd⟩:∃d,(bytesL s)[n]? =some d:=⟨_,List.getElem?_eq_getElem (by omega)⟩
   refine gom ?_
   refine WL.pp (Gp.indexS rfl rfl (by omega) (show(bytesL s)[((n:Nat):Int).toNat]? =some d from hd)) ?_
   refine WL.oo (OW.callK rfl (letter_fn G [] d.toNat) rfl fun v' G' H' h hg=>?_)
   obtain⟨he,rfl,rfl⟩:=h
   cases he
   cases h4:letterN d.toNat with
   | true=>
    refine gom ?_
    refine WC.rt ?_
    exact QF.p3 (.inl rfl) rfl (.tmp rfl) (.tmp rfl) (.tmp rfl) (⟨0,0,121,rfl,by rw[hwf];rfl,rfl,rfl⟩)
   | false=>
    refine gom ?_
    refine WC.rt ?_
    exact QF.p3 (.inl rfl) rfl (.tmp rfl) (.tmp rfl) (.tmp rfl) (⟨2,n,0,rfl,by rw[hwf];rfl,rfl,rfl⟩)
  ·have y3:decide ((n:Int)<(s.size:Int))=false:=decide_eq_false (by omega)
   refine gom ?_
   refine WC.rt ?_
   exact QF.p3 (.inl rfl) rfl (.tmp rfl) (.tmp rfl) (.tmp rfl) (⟨2,n,0,rfl,by rw[hwf];rfl,rfl,rfl⟩)
 | false=>
 cases h3:((c.toNat:Int)==34)with
 | true=>
  refine gom ?_
  refine WL.oo (OW.callK rfl (quoted_fn G s hpos hl) rfl fun v' G' H' h hg=>?_)
  obtain⟨v,n,he,rfl,rfl⟩:=h
  cases he
  refine gom ?_
  cases h4:(n==0)with
  | true=>
   refine gom ?_
   refine WC.rt ?_
   exact QF.p3 (.inl rfl) rfl (.tmp rfl) (.tmp rfl) (.tmp rfl) (⟨0,0,122,rfl,by rw[hwf];rfl,rfl,rfl⟩)
  | false=>
   refine gom ?_
   refine WC.rt ?_
   exact QF.p3 (.inl rfl) rfl (.tmp rfl) (.tmp rfl) (.tmp rfl) (⟨3,n,0,rfl,by rw[hwf];rfl,rfl,rfl⟩)
 | false=>
 refine gom ?_
 refine WL.oo (OW.callK rfl (sign_fn G s hpos) rfl fun v' G' H' h hg=>?_)
 obtain⟨n,he,rfl,rfl⟩:=h
 cases he
 refine gom ?_
 cases h4:(n==0)with
 | true=>
  refine gom ?_
  refine WC.rt ?_
  exact QF.p3 (.inl rfl) rfl (.tmp rfl) (.tmp rfl) (.tmp rfl) (⟨0,0,120,rfl,by rw[hwf];rfl,rfl,rfl⟩)
 | false=>
  refine gom ?_
  refine WC.rt ?_
  exact QF.p3 (.inl rfl) rfl (.tmp rfl) (.tmp rfl) (.tmp rfl) (⟨5,n,0,rfl,by rw[hwf];rfl,rfl,rfl⟩)
theorem just_fn (G:Gh) (hE:Env G) (s:ByteArray) (hl:s.size≤100000000000000):
  Fn Tryz.prog 128 #[.string s, .int .i64 1] G [] fun e G' H'=>e= .returned (.bool (wordR s))∧G=G'∧H'=[]:=by
 refine Fn.enter Tryz.func128 rfl rfl fun w0=>?_
 cases hs:bytesL s with
 | nil=>
  have h0:s=⟨#[]⟩:=by
   apply ByteArray.ext
   have:s.data.toList=[]:=hs
   exact Array.toList_eq_nil_iff.1 this
  have hw:wordR s=false:=by unfold wordR;rw[hs]
  rw[hw]
  subst h0
  refine gom ?_
  refine WC.rt ?_
  exact QF.p1 (.inl rfl) rfl (.tmp rfl) (⟨rfl,rfl,rfl⟩)
 | cons c l=>
  have hne:(s==⟨#[]⟩)=false:=by
   rw[bytes_beq]
   exact decide_eq_false fun e=>by rw[e]at hs;cases hs
  refine gom ?_
  rw[hne]
  refine gom ?_
  refine WL.oo (OW.callK rfl (token_fn G hE s c l hs hl) rfl fun v' G' H' h hg=>?_)
  obtain⟨k,n,e0,he,hk,rfl,rfl⟩:=h
  cases he
  rw[←hk]
  refine gom ?_
  cases h1:(e0==0)with
  | false=>
   refine gom ?_
   refine WC.rt ?_
   exact QF.p1 (.inl rfl) rfl (.tmp rfl) (⟨rfl,rfl,rfl⟩)
  | true=>
  cases h2:(k==1)with
  | false=>
   refine gom ?_
   refine WC.rt ?_
   exact QF.p1 (.inl rfl) rfl (.tmp rfl) (⟨rfl,rfl,rfl⟩)
  | true=>
   refine gom ?_
   refine WC.rt ?_
   exact QF.p1 (.inl rfl) rfl (.tmp rfl) (⟨by simp,rfl,rfl⟩)
theorem word_fn (G:Gh) (hE:Env G) (s:ByteArray) (hl:s.size≤100000000000000):
  Fn Tryz.prog 87 #[.string s] G [] fun e G' H'=>e= .returned (.bool (wordR s))∧G=G'∧H'=[]:=by
 refine Fn.enter Tryz.func87 rfl rfl fun w0=>?_
 refine gom ?_
 refine WL.oo (OW.callK rfl (just_fn G hE s hl) rfl fun v' G' H' h hg=>?_)
 obtain⟨he,rfl,rfl⟩:=h
 cases he
 refine gom ?_
 refine WC.rt ?_
 exact QF.p1 (.inl rfl) rfl (.tmp rfl) (⟨rfl,rfl,rfl⟩)
end
end Go.Proofs.YtcnlkfocbbkdhaaGreatDoor.Gb
