/- Layer 22, the document's: what is missing, what stands before: walked. Layer 22, the document's: a procedure linked: walked. The document's words, paths, heads, values: walked. A text's pieces between slashes: the law of their search; no program in sight. The document's paths, heads, values, rows of types, states: walked. The document's states: joined, compared; where an instruction goes on: walked. The document's look at one instruction; what it takes and lays: walked. What the document knows behind an instruction: walked. -/
import Derived.Test.YtcnlkfocbbkdhaaGreatDoorWh
import Derived.Laws.DeepStrings4
set_option linter.unusedVariables false
set_option linter.unusedSimpArgs false
set_option linter.unusedSectionVars false
namespace Go.Proofs.YtcnlkfocbbkdhaaGreatDoor.Gb
open Go Go.Proofs
section
open Go.MapKept
theorem any_take {α:Type} {f:α→Bool} {l:List α} {i:Nat} {x:α} (h:l[i]? =some x):(l.take (i+1)).any f=((l.take i).any f || f x):=by rw[take_snoc' h,List.any_append];simp
attribute [local irreducible] Tryz.prog sameN sameP eqL metA metL missL fitX
structure RM where
 i:Nat
 A:Option Addr
 cap:Nat
 acc:List Nd
 x:Own
set_option maxRecDepth 20000 in
set_option maxHeartbeats 4000000 in
theorem rMissing_fn (G:Gh) (A:Option Addr) (cap:Nat) (l:List Ob) (hl:Sl Kd.ob G A l) (hL:LLim l):
  Fn Tryz.prog 46 #[.slice A l.length cap] G [] fun e G' H'=>∃MA mc x,e= .returned (.slice MA (missL l).length mc)∧G=G'∧KVec Kd.ned 56 G' MA mc (missL l) x∧H'=[x]:=by
 have hlen:=hL.len
 refine Fn.enter Tryz.func46 rfl rfl fun w0=>?_
 refine gom ?_
 refine WC.nothing ?_
 refine WC.loop (X:=RM) (fun x=>[(0, .slice A l.length cap),(3, .slice x.A x.acc.length x.cap),(4, .int .i64 x.i)]) (fun _=>G) (fun x=>[x.x]) (fun x=>l.length - x.i)
  (fun x=>x.i≤l.length∧KVec Kd.ned 56 G x.A x.cap x.acc x.x∧x.acc=((l.take x.i).flatMap (·.needs)).foldl (missStep l) []) ⟨0,none,0,[], .spare 0 0 0⟩ ⟨Nat.zero_le _,KVec.nil,rfl⟩ (by exact⟨rfl,rfl,rfl,trivial⟩) rfl (List.Sublist.refl _) fun x hx=>?_
 obtain⟨i,B,cb,acc,xo⟩:=x
 obtain⟨hi,hK,hacc⟩:=hx
 dsimp only at hi hK hacc
 have x2:=wrapS i (by omega)
 by_cases hlt:i<l.length
 rotate_left
 ·have e2:decide ((i:Int)<(l.length:Int))=false:=decide_eq_false (by omega)
  have hm:acc=missL l:=by rw[hacc,List.take_of_length_le (by omega)];unfold missL;rfl
  subst hm
  refine gom ?_
  refine WC.rt ?_
  exact QF.p1 (.inl rfl) rfl (.tmp rfl) (⟨B,cb,xo,rfl,rfl,hK,rfl⟩)
 have e2:decide ((i:Int)<(l.length:Int))=true:=decide_eq_true (by omega)
 obtain⟨o,ho⟩:∃o,l[i]? =some o:=⟨_,List.getElem?_eq_getElem (by omega)⟩
 have hom:=List.mem_of_getElem? ho
 have x0:(0:Int)≤(i:Int):=by omega
 have x1:(i:Int)<(l.length:Int):=by omega
 obtain⟨ab,ao,cs,rfl,hks,hcs⟩:=hl i o ho
 obtain⟨CA,cc,NA,nc,PA,pc,rfl,hO⟩:=hks
 have hfl:(l.take (i+1)).flatMap (·.needs)=(l.take i).flatMap (·.needs)++o.needs:=by rw[take_snoc' ho,List.flatMap_append];simp
 have hsn:=sumN_take ho
 have hsl:=hL.sumN
 refine gom ?_
 refine WC.loop (X:=RM) (fun x=>[(0, .slice (some ⟨ab,ao,none⟩) l.length cap),(3, .slice x.A x.acc.length x.cap),(4, .int .i64 i),(5, .int .i64 x.i)]) (fun _=>G) (fun x=>[x.x]) (fun x=>o.needs.length - x.i)
  (fun x=>x.i≤o.needs.length∧KVec Kd.ned 56 G x.A x.cap x.acc x.x∧x.acc=((l.take i).flatMap (·.needs)++o.needs.take x.i).foldl (missStep l) []) ⟨0,B,cb,acc,xo⟩ ⟨Nat.zero_le _,hK,by dsimp only;rw[List.take_zero,List.append_nil];exact hacc⟩ (by exact⟨rfl,rfl,rfl,rfl,trivial⟩) rfl (List.Sublist.refl _) fun x hx=>?_
 obtain⟨j,B,cb,acc,xo⟩:=x
 obtain⟨hj,hK,hacc⟩:=hx
 dsimp only at hj hK hacc
 have y2:=wrapS j (by omega)
 by_cases hjl:j<o.needs.length
 rotate_left
 ·have e4:decide ((j:Int)<(o.needs.length:Int))=false:=decide_eq_false (by omega)
  have htj:o.needs.take j=o.needs:=List.take_of_length_le (by omega)
  refine gom ?_
  exact WK.again ⟨i+1,B,cb,acc,xo⟩ (by dsimp only;omega) ⟨by show i+1≤_;omega,hK,by dsimp only;rw[hacc,hfl,htj]⟩ (by exact⟨rfl,rfl,rfl,trivial⟩) rfl (List.Sublist.refl _)
 have e4:decide ((j:Int)<(o.needs.length:Int))=true:=decide_eq_true (by omega)
 obtain⟨n,hn⟩:∃n,o.needs[j]? =some n:=⟨_,List.getElem?_eq_getElem hjl⟩
 have hnm:=List.mem_of_getElem? hn
 have y0:(0:Int)≤(j:Int):=by omega
 have y1:(j:Int)<(o.needs.length:Int):=by omega
 obtain⟨nb,no,cs2,rfl,hks2,hcs2⟩:=hO.needs j n hn
 obtain⟨QA,qc,rfl,hQ⟩:=hks2
 have hqn:(o.needs.take (j+1))=o.needs.take j++[n]:=take_snoc' hn
 have hstep:((l.take i).flatMap (·.needs)++o.needs.take (j+1)).foldl (missStep l) []=missStep l acc n:=by rw[hqn,←List.append_assoc,List.foldl_append,←hacc];rfl
 have hal:acc.length≤1048576:=by
  have:=foldl_len l ((l.take i).flatMap (·.needs)++o.needs.take j) []
  rw[←hacc,List.length_append,List.length_take,List.length_nil]at this
  omega
 have hap:∀x∈acc,x.params.length≤1000000000:=fun x hx=>by
  rw[hacc]at hx
  rcases foldl_mem l _ _ x hx with h | h
  ·cases h
  ·rcases List.mem_append.1 h with h | h
   ·obtain⟨o',ho',hx'⟩:=List.mem_flatMap.1 h
    have:=hL.np o' (List.mem_of_mem_take ho') x hx';omega
   ·have:=hL.np o hom x (List.mem_of_mem_take h);omega
 have hnp:=hL.np o hom n hnm
 refine gom ?_
 refine WL.oo (OW.alloc rfl fun b6=>?_)
 refine gom ?_
 refine WL.oo (OW.callK rfl (rmetN_fn G (some ⟨ab,ao,none⟩) cap l hl hL n QA qc hQ) rfl fun v' G' H' h hg=>?_)
 obtain⟨he,rfl,rfl⟩:=h
 cases he
 have hmn:=metA_neg l n
 refine gom ?_
 refine WC.pick [xo, .blk b6 (.cells (ndC n QA qc) 56 (0,0))] ?_
 obtain⟨cs0,hr0,hk0⟩:=hK.rds (H:=[xo, .blk b6 (.cells (ndC n QA qc) 56 (0,0))]) .here
 refine WC.loop (X:=Nat) (fun q=>[(0, .slice (some ⟨ab,ao,none⟩) l.length cap),(3, .slice B acc.length cb),(4, .int .i64 i),(5, .int .i64 j),(6, .pointer (some ⟨b6,0,none⟩)),(9, .bool (metL l n || (acc.take q).any (fun x=>sameN x n))),(10, .int .i64 q)]) (fun _=>G) (fun _=>[xo, .blk b6 (.cells (ndC n QA qc) 56 (0,0))]) (fun q=>acc.length - q)
  (fun q=>q≤acc.length) 0 (Nat.zero_le _) (by exact⟨rfl,rfl,rfl,rfl,rfl,by rw[List.take_zero,List.any_nil,Bool.or_false,←hmn];rfl,rfl,trivial⟩) rfl (List.Sublist.refl _) fun q hq=>?_
 have w2:=wrapS q (by omega)
 by_cases hql:q<acc.length
 rotate_left
 ·have e6:decide ((q:Int)<(acc.length:Int))=false:=decide_eq_false (by omega)
  have hta:acc.take q=acc:=List.take_of_length_le (by omega)
  rw[hta]
  cases hkn:(metL l n || acc.any (fun x=>sameN x n))with
  | true=>
   have hst:missStep l acc n=acc:=by unfold missStep;rw[if_pos hkn]
   refine gom ?_
   refine WK.pick [xo] ?_
   exact WK.again ⟨j+1,B,cb,acc,xo⟩ (by dsimp only;omega) ⟨by show j+1≤_;omega,hK,by dsimp only;rw[hstep,hst]⟩ (by exact⟨rfl,rfl,rfl,rfl,trivial⟩) rfl (List.Sublist.refl _)
  | false=>
   have hst:missStep l acc n=acc++[n]:=by unfold missStep;rw[hkn];rfl
   refine gom ?_
   refine WL.op kr (OW.buildSlice rfl kr kr (by rfl) rfl fun b62=>?_)
   refine WL.oo (OW.append1 (k:=Kd.ned) (u:=n) rfl rfl kr rfl hK atA .here rfl ⟨QA,qc,rfl,hQ⟩ (by omega) (by omega) rfl fun A5 c5 o5 hv5=>?_)
   refine gom ?_
   refine WK.pick [o5] ?_
   exact WK.again ⟨j+1,A5,c5,acc++[n],o5⟩ (by dsimp only;omega) ⟨by show j+1≤_;omega,hv5,by dsimp only;rw[hstep,hst]⟩ (by exact⟨rfl,rfl,rfl,rfl,trivial⟩) rfl (List.Sublist.refl _)
 have e6:decide ((q:Int)<(acc.length:Int))=true:=decide_eq_true (by omega)
 obtain⟨x,hx⟩:∃x,acc[q]? =some x:=⟨_,List.getElem?_eq_getElem hql⟩
 have hat:=any_take (f:=fun x=>sameN x n) hx
 have z0:(0:Int)≤(q:Int):=by omega
 have z1:(q:Int)<(acc.length:Int):=by omega
 have hks:=hk0.at_ q x hx
 obtain⟨rb,ro,hrr,hread⟩:=hr0.resolve_left (fun h=>by have h1:=hk0.len;rw[h,show Kd.ned.n=4 from rfl,List.length_nil]at h1;omega)
 subst hrr
 cases hkn:(metL l n || (acc.take q).any (fun x=>sameN x n))with
 | true=>
  have hnext:(metL l n || (acc.take (q+1)).any (fun x=>sameN x n))=true:=by rw[hat,←Bool.or_assoc,hkn];rfl
  refine go ?_
  refine WC.draw mixed ?_
  refine za.move 0 ?_
  refine za.move 1 ?_
  refine za.skip 2 ?_
  refine za.skip 3 ?_
  refine za.skip 4 ?_
  refine za.skip 5 ?_
  refine za.skip 6 ?_
  refine za.skip 7 ?_
  refine za.pick 8 ?_
  refine za.assign 9 ?_
  refine WA.done kr ?_
  refine WK.un ?_
  refine gom ?_
  exact WK.again (q+1) (by omega) (by omega) (by exact⟨rfl,rfl,rfl,rfl,rfl,by rw[hnext];rfl,rfl,trivial⟩) rfl (List.Sublist.refl _)
 | false=>
  have hnext:(metL l n || (acc.take (q+1)).any (fun x=>sameN x n))=sameN x n:=by rw[hat,←Bool.or_assoc,hkn,Bool.false_or]
  obtain⟨XA,xc,hxe,hX⟩:=id hks
  refine go ?_
  refine WC.draw mixed ?_
  refine za.move 0 ?_
  refine za.move 1 ?_
  refine za.move 2 ?_
  refine za.move 3 ?_
  refine za.ix 4 ?_
  refine WA.vv 5 rfl (Gv.loadRN (i:=((q:Nat):Int).toNat*4) (es:=[.string x.path, .string x.name, .slice XA x.params.length xc, .int .i64 x.result]) rfl hread (List.Sublist.refl _) hxe rfl) ?_
  refine za.ld 6 ?_
  refine WA.oo 7 rfl (OW.callK rfl (rsameNeed_fn G x n XA QA xc qc hX hQ (by have:=hap x (List.mem_of_getElem? hx);omega)) rfl fun v' G' H' h hg=>?_)
  obtain⟨he,rfl,rfl⟩:=h
  cases he
  refine za.pick 8 ?_
  refine za.assign 9 ?_
  refine WA.done kr ?_
  refine WK.un ?_
  refine gom ?_
  refine WK.pick [xo, .blk b6 (.cells (ndC n QA qc) 56 (0,0))] ?_
  exact WK.again (q+1) (by omega) (by omega) (by exact⟨rfl,rfl,rfl,rfl,rfl,by rw[hnext];rfl,rfl,trivial⟩) rfl (List.Sublist.refl _)
set_option maxHeartbeats 2000000 in
theorem rbefore_fn (G:Gh) (A:Option Addr) (cap:Nat) (l:List Ob) (hl:Sl Kd.ob G A l) (hL:LLim l) (n:Nat) (hn:n≤l.length):
  Fn Tryz.prog 47 #[.slice A l.length cap, .int .i64 n] G [] fun e G' H'=>e= .returned (.tuple #[.int .i64 (sumC (l.take n)), .int .i64 (sumP (l.take n))])∧G=G'∧H'=[]:=by
 have hlen:=hL.len
 have hsc:=hL.sumC
 have hsp:=hL.sumP
 refine Fn.enter Tryz.func47 rfl rfl fun w0=>?_
 refine gom ?_
 refine WC.loop (X:=Nat) (fun i=>[(0, .slice A l.length cap),(1, .int .i64 n),(6, .int .i64 (sumC (l.take i))),(7, .int .i64 (sumP (l.take i))),(8, .int .i64 i)]) (fun _=>G) (fun _=>[]) (fun i=>n - i) (fun i=>i≤n) 0 (Nat.zero_le _) (by exact⟨rfl,rfl,rfl,rfl,rfl,trivial⟩) rfl (List.Sublist.refl _) fun i hi=>?_
 have x2:=wrapS i (by omega)
 by_cases hlt:i<n
 rotate_left
 ·have e2:decide ((i:Int)<(n:Int))=false:=decide_eq_false (by omega)
  obtain rfl:i=n:=by omega
  refine gom ?_
  refine WC.rt ?_
  exact QF.p2 (.inl rfl) rfl (.tmp rfl) (.tmp rfl) (⟨rfl,rfl,rfl⟩)
 have e2:decide ((i:Int)<(n:Int))=true:=decide_eq_true (by omega)
 obtain⟨o,ho⟩:∃o,l[i]? =some o:=⟨_,List.getElem?_eq_getElem (by omega)⟩
 have x0:(0:Int)≤(i:Int):=by omega
 have x1:(i:Int)<(l.length:Int):=by omega
 obtain⟨ab,ao,cs,rfl,hks,hcs⟩:=hl i o ho
 obtain⟨CA,cc,NA,nc,PA,pc,rfl,hO⟩:=hks
 have h1:=sumP_snoc_le ho
 have h2:=sumC_snoc_le ho
 have e3:sumC (l.take (i+1))=sumC (l.take i)+o.consts.length:=by rw[take_snoc' ho];unfold sumC;rw[List.map_append,List.sum_append];simp
 have e4:sumP (l.take (i+1))=sumP (l.take i)+o.procs.length:=by rw[take_snoc' ho];unfold sumP;rw[List.map_append,List.sum_append];simp
 have w1:IntKind.i64.wrap ((sumC (l.take i):Int)+(o.consts.length:Int))=(sumC (l.take (i+1)):Int):=by rw[wrapI (by omega) (by omega),e3];omega
 have w2:IntKind.i64.wrap ((sumP (l.take i):Int)+(o.procs.length:Int))=(sumP (l.take (i+1)):Int):=by rw[wrapI (by omega) (by omega),e4];omega
 refine gom ?_
 exact WK.again (i+1) (by omega) (by omega) (by exact⟨rfl,rfl,rfl,rfl,rfl,trivial⟩) rfl (List.Sublist.refl _)
end
section
open Go.MapKept
abbrev rprB (b:Nat) (p:Pr) (QA:Option Addr) (qc:Nat) (IA:Option Addr) (ic:Nat):Own:= .blk b (.cells #[.string p.name, .bool p.exp, .slice QA p.params.length qc, .int .i64 p.locals, .int .i64 p.result, .slice IA p.code.length ic] 47 (0,0))
abbrev zpB (b:Nat):Own:= .blk b (.cells #[.string ⟨#[]⟩, .bool false, .slice none 0 0, .int .i64 0, .int .i64 0, .slice none 0 0] 47 (0,0))
theorem moveI_1 (L:List (ByteArray×Pr)) (o:Ob) (cs ps:Nat) (n:Int):moveI L o cs ps (1,n)=(1,n+cs):=by unfold moveI;rw[if_pos rfl]
theorem moveI_7 (L:List (ByteArray×Pr)) (o:Ob) (cs ps:Nat) (n:Int):moveI L o cs ps (7,n)=(7,n+ps):=by unfold moveI;rw[if_neg (by dsimp only;decide),if_pos rfl]
theorem moveI_8 {L:List (ByteArray×Pr)} {o:Ob} {cs ps:Nat} {n:Int} {nd:Nd} (h:o.needs[n.toNat]? =some nd):moveI L o cs ps (8,n)=(7,atL L (nd.path,nd.name)):=by unfold moveI;rw[if_neg (by dsimp only;decide),if_neg (by dsimp only;decide),if_pos rfl];dsimp only;rw[h]
theorem moveI_x {L:List (ByteArray×Pr)} {o:Ob} {cs ps:Nat} {c n:Int} (h1:c≠1) (h7:c≠7) (h8:c≠8):moveI L o cs ps (c,n)=(c,n):=by unfold moveI;rw[if_neg h1,if_neg h7,if_neg h8]
attribute [local irreducible] Tryz.prog metA metL missL allPr atL moveI sumP sumC objAns
set_option maxRecDepth 20000 in
set_option maxHeartbeats 4000000 in
theorem rmoved_fn (G:Gh) (A:Option Addr) (cap:Nat) (l:List Ob) (hl:Sl Kd.ob G A l) (hL:LLim l) (hv:∀o∈l,(objAns o).2.2=0) (hp:(l.map (·.path)).Nodup) (hm:missL l=[]) (i:Nat) (o:Ob) (ho:l[i]? =some o) (p:Pr) (hpm:p∈o.procs) (QA:Option Addr) (qc:Nat) (IA:Option Addr) (ic:Nat) (hI:Sl Kd.ins G IA p.code):
  Fn Tryz.prog 48 #[.slice A l.length cap, .int .i64 i, .agg #[.string p.name, .bool p.exp, .slice QA p.params.length qc, .int .i64 p.locals, .int .i64 p.result, .slice IA p.code.length ic]] G [] fun e G' H'=>∃IB ib,e= .returned (.agg #[.string p.name, .bool p.exp, .slice QA p.params.length qc, .int .i64 p.locals, .int .i64 p.result, .slice IB p.code.length ib])∧G.le G'∧Sl Kd.ins G' IB (p.code.map (moveI (allPr l) o (sumC (l.take i)) (sumP (l.take i))))∧H'=[]:=by
 have hlen:=hL.len
 have hom:=List.mem_of_getElem? ho
 have hil:=(List.getElem?_eq_some_iff.1 ho).1
 have hcl:=(hL.pp o hom p hpm).2
 have hsc:=sumC_take_le l i
 have hsp:=sumP_take_le l i
 have hsc':=hL.sumC
 have hsp':=hL.sumP
 obtain⟨jp,hjp⟩:=List.getElem?_of_mem hpm
 have halone:=(outAt_zero (w:=o.wd) hjp (allR_zero (objAns_zero (hv o hom)).2 jp (List.getElem?_eq_some_iff.1 hjp).1)).2.2.1
 refine Fn.enter Tryz.func48 rfl rfl fun w0=>?_
 refine WC.seq ?_
 refine WC.region ?_
 refine WL.oo (OW.box rfl rfl fun b5=>?_)
 refine WL.oo (OW.alloc rfl fun b6=>?_)
 refine gom ?_
 refine WL.oo (OW.callK rfl (rbefore_fn G A cap l hl hL i (by omega)) rfl fun v' G' H' h hg=>?_)
 obtain⟨he,rfl,rfl⟩:=h
 cases he
 refine gom ?_
 refine WC.nothing ?_
 refine WC.pick [.spare 0 0 0,rprB b5 p QA qc IA ic,zpB b6] ?_
 refine WC.loop (X:=Nat×Option Addr×Nat×Own) (fun x=>[(0, .slice A l.length cap),(1, .int .i64 i),(5, .pointer (some ⟨b5,0,none⟩)),(6, .pointer (some ⟨b6,0,none⟩)),(7, .int .i64 (sumC (l.take i))),(8, .int .i64 (sumP (l.take i))),(9, .slice x.2.1 ((p.code.take x.1).map (moveI (allPr l) o (sumC (l.take i)) (sumP (l.take i)))).length x.2.2.1),(10, .int .i64 x.1)]) (fun _=>G) (fun x=>[x.2.2.2,rprB b5 p QA qc IA ic,zpB b6]) (fun x=>p.code.length - x.1)
  (fun x=>x.1≤p.code.length∧KVec Kd.ins 50 G x.2.1 x.2.2.1 ((p.code.take x.1).map (moveI (allPr l) o (sumC (l.take i)) (sumP (l.take i)))) x.2.2.2) (0,none,0, .spare 0 0 0) ⟨Nat.zero_le _,KVec.nil⟩ (by exact⟨rfl,rfl,rfl,rfl,rfl,rfl,rfl,rfl,trivial⟩) rfl (List.Sublist.refl _) fun x hx=>?_
 obtain⟨k,B,cb,xo⟩:=x
 obtain⟨hk,hK⟩:=hx
 dsimp only at hk hK
 have x2:=wrapS k (by omega)
 by_cases hlt:k<p.code.length
 rotate_left
 ·have e2:decide ((k:Int)<(p.code.length:Int))=false:=decide_eq_false (by omega)
  have htk:p.code.take k=p.code:=List.take_of_length_le (by omega)
  rw[htk]at hK
  refine gom ?_
  refine WC.freezeK (by decide) hK atA fun G1 hg1 hS=>?_
  refine gom ?_
  refine WC.rt ?_
  exact QF.p1 (.inl rfl) rfl (.cell rfl inferInstance inferInstance atA rfl rfl) (⟨B,cb,by rw[htk,List.length_map];rfl,hg1,hS,rfl⟩)
 have e2:decide ((k:Int)<(p.code.length:Int))=true:=decide_eq_true (by omega)
 obtain⟨ins,hins⟩:∃ins,p.code[k]? =some ins:=⟨_,List.getElem?_eq_getElem hlt⟩
 have x0:(0:Int)≤(k:Int):=by omega
 have x1:(k:Int)<(p.code.length:Int):=by omega
 obtain⟨ib,io,ics,rfl,hik,hic⟩:=hI k ins hins
 have hal:=halone k ins hins
 have hsn:(p.code.take (k+1)).map (moveI (allPr l) o (sumC (l.take i)) (sumP (l.take i)))=(p.code.take k).map (moveI (allPr l) o (sumC (l.take i)) (sumP (l.take i)))++[moveI (allPr l) o (sumC (l.take i)) (sumP (l.take i)) ins]:=by rw[take_snoc' hins,List.map_append];rfl
 have hll:((p.code.take k).map (moveI (allPr l) o (sumC (l.take i)) (sumP (l.take i)))).length=k:=by rw[List.length_map,List.length_take];omega
 obtain⟨c,n⟩:=ins
 obtain rfl:ics=[.int .i64 c, .int .i64 n]:=hik
 obtain⟨al1,al2,al3⟩:=aloneR_zero hal
 obtain⟨n0,n1,_⟩:=mayR_le al1
 dsimp only at n0 n1 al2 al3
 refine gom ?_
 refine WL.oo (OW.alloc rfl fun b11=>?_)
 by_cases c1:c=1
 ·subst c1
  have hmi:=moveI_1 (allPr l) o (sumC (l.take i)) (sumP (l.take i)) n
  have hw:IntKind.i64.wrap (n+(sumC (l.take i):Int))=n+(sumC (l.take i):Int):=wrapI (by omega) (by omega)
  refine gom ?_
  refine WL.op kr (OW.buildSlice rfl kr kr (by rfl) rfl fun b78=>?_)
  refine WL.oo (OW.append1 (k:=Kd.ins) (u:=((1:Int),n+(sumC (l.take i):Int))) rfl rfl kr rfl hK atA .here rfl rfl (by rw[hll];omega) (by rw[hll];omega) rfl fun A6 c6 x6 hk6=>?_)
  refine gom ?_
  refine WK.pick [x6,rprB b5 p QA qc (some ⟨ib,io,none⟩) ic,zpB b6] ?_
  rw[←hmi,←hsn]at hk6
  exact WK.again (k+1,A6,c6,x6) (by dsimp only;omega) ⟨by show k+1≤_;omega,hk6⟩ (by exact⟨rfl,rfl,rfl,rfl,rfl,rfl,by rw[hsn,hmi];rfl,rfl,trivial⟩) rfl (List.Sublist.refl _)
 have g1:(c==1)=false:=by rw[beq_eq_false_iff_ne];exact c1
 have g1r:((1:Int)==c)=false:=by rw[beq_eq_false_iff_ne];exact fun e=>c1 e.symm
 by_cases c7:c=7
 ·subst c7
  have hmi:=moveI_7 (allPr l) o (sumC (l.take i)) (sumP (l.take i)) n
  have hw:IntKind.i64.wrap (n+(sumP (l.take i):Int))=n+(sumP (l.take i):Int):=wrapI (by omega) (by omega)
  refine gom ?_
  refine WL.op kr (OW.buildSlice rfl kr kr (by rfl) rfl fun b78=>?_)
  refine WL.oo (OW.append1 (k:=Kd.ins) (u:=((7:Int),n+(sumP (l.take i):Int))) rfl rfl kr rfl hK atA .here rfl rfl (by rw[hll];omega) (by rw[hll];omega) rfl fun A6 c6 x6 hk6=>?_)
  refine gom ?_
  refine WK.pick [x6,rprB b5 p QA qc (some ⟨ib,io,none⟩) ic,zpB b6] ?_
  rw[←hmi,←hsn]at hk6
  exact WK.again (k+1,A6,c6,x6) (by dsimp only;omega) ⟨by show k+1≤_;omega,hk6⟩ (by exact⟨rfl,rfl,rfl,rfl,rfl,rfl,by rw[hsn,hmi];rfl,rfl,trivial⟩) rfl (List.Sublist.refl _)
 have g7:(c==7)=false:=by rw[beq_eq_false_iff_ne];exact c7
 have g7r:((7:Int)==c)=false:=by rw[beq_eq_false_iff_ne];exact fun e=>c7 e.symm
 by_cases c8:c=8
 ·subst c8
  have hn8:n<(o.needs.length:Int):=by simpa [Ob.wd]using al3
  obtain⟨nd,hnd⟩:∃nd,o.needs[n.toNat]? =some nd:=⟨_,List.getElem?_eq_getElem (by omega)⟩
  have hndm:=List.mem_of_getElem? hnd
  have hmi:=moveI_8 (L:=allPr l) (cs:=sumC (l.take i)) (ps:=sumP (l.take i)) hnd
  have hmet:metL l nd=true:=foldl_met _ (by unfold missL at hm;exact hm) nd (List.mem_flatMap.2 ⟨o,hom,hndm⟩)
  obtain⟨ai,ak,ao',hma,hao,hak,hat⟩:=metA_at hv hp hmet
  have hail:=(List.getElem?_eq_some_iff.1 hao).1
  have hasum:=sumP_at hao hak
  obtain⟨lb,lo,lcs,rfl,hlk,hlc⟩:=hl i o ho
  obtain⟨CA,cc,NA,nc,PA,pc,rfl,hO⟩:=hlk
  obtain⟨nb,no,ncs,rfl,hnk,hncc⟩:=hO.needs n.toNat nd hnd
  obtain⟨NQ,nqc,rfl,hNQ⟩:=hnk
  have y0:(0:Int)≤(i:Int):=by omega
  have y1:(i:Int)<(l.length:Int):=by omega
  refine go ?_
  refine WC.draw mixed ?_
  refine za.move 0 ?_
  refine za.move 1 ?_
  refine za.move 2 ?_
  refine za.ix 3 ?_
  refine za.fa 4 ?_
  refine WA.vv 5 rfl (Gv.loadG1 (i:=2) rfl hlc rfl) ?_
  refine za.fa 6 ?_
  refine za.ld 7 ?_
  refine za.ix 8 ?_
  refine WA.vv 9 rfl (Gv.loadGN rfl hncc rfl) ?_
  refine WA.oo 10 rfl (OW.callK rfl (rmetN_fn G (some ⟨lb,lo,none⟩) cap l hl hL nd NQ nqc hNQ) rfl fun v' G' H' h hg=>?_)
  obtain⟨he,rfl,rfl⟩:=h
  rw[hma]at he
  cases he
  refine za.move 11 ?_
  refine za.ext 12 ?_
  refine za.ext 13 ?_
  refine za.assign 14 ?_
  refine za.assign 15 ?_
  refine WA.done kr ?_
  refine WK.un ?_
  refine gom ?_
  refine WL.oo (OW.callK rfl (rbefore_fn G (some ⟨lb,lo,none⟩) cap l hl hL ai (by omega)) rfl fun v' G' H' h hg=>?_)
  obtain⟨he,rfl,rfl⟩:=h
  cases he
  have hw:IntKind.i64.wrap ((sumP (l.take ai):Int)+(ak:Int))=atL (allPr l) (nd.path,nd.name):=by rw[wrapI (by omega) (by omega),hat];omega
  refine gom ?_
  refine WL.op kr (OW.buildSlice rfl kr kr (by rfl) rfl fun b78=>?_)
  refine WL.oo (OW.append1 (k:=Kd.ins) (u:=((7:Int),atL (allPr l) (nd.path,nd.name))) rfl rfl kr rfl hK atA .here rfl rfl (by rw[hll];omega) (by rw[hll];omega) rfl fun A6 c6 x6 hk6=>?_)
  refine gom ?_
  refine WK.pick [x6,rprB b5 p QA qc (some ⟨ib,io,none⟩) ic,zpB b6] ?_
  rw[←hmi,←hsn]at hk6
  exact WK.again (k+1,A6,c6,x6) (by dsimp only;omega) ⟨by show k+1≤_;omega,hk6⟩ (by exact⟨rfl,rfl,rfl,rfl,rfl,rfl,by rw[hsn,hmi];rfl,rfl,trivial⟩) rfl (List.Sublist.refl _)
 have g8:(c==8)=false:=by rw[beq_eq_false_iff_ne];exact c8
 have g8r:((8:Int)==c)=false:=by rw[beq_eq_false_iff_ne];exact fun e=>c8 e.symm
 have hmi:=moveI_x (L:=allPr l) (o:=o) (cs:=sumC (l.take i)) (ps:=sumP (l.take i)) (n:=n) c1 c7 c8
 refine gom ?_
 refine WL.op kr (OW.buildSlice rfl kr kr (by rfl) rfl fun b78=>?_)
 refine WL.oo (OW.append1 (k:=Kd.ins) (u:=(c,n)) rfl rfl kr rfl hK atA .here rfl rfl (by rw[hll];omega) (by rw[hll];omega) rfl fun A6 c6 x6 hk6=>?_)
 refine gom ?_
 refine WK.pick [x6,rprB b5 p QA qc (some ⟨ib,io,none⟩) ic,zpB b6] ?_
 rw[←hmi,←hsn]at hk6
 exact WK.again (k+1,A6,c6,x6) (by dsimp only;omega) ⟨by show k+1≤_;omega,hk6⟩ (by exact⟨rfl,rfl,rfl,rfl,rfl,rfl,by rw[hsn,hmi];rfl,rfl,trivial⟩) rfl (List.Sublist.refl _)
end
section
open Go.MapKept
attribute [local irreducible] Tryz.prog
theorem rLetter_fn (G:Gh) (n:Int) (h0:0≤n) (h1:n≤255):Fn Tryz.prog 169 #[.int .u8 n] G [] fun e G' H'=>e= .returned (.bool (letterN n))∧G=G'∧H'=[]:=by
 refine Fn.enter Tryz.func169 rfl rfl fun w0=>?_
 have hrng:(0≤n∧n≤64)∨(65≤n∧n≤90)∨(91≤n∧n≤94)∨(95≤n∧n≤95)∨(96≤n∧n≤96)∨(97≤n∧n≤122)∨(123≤n∧n≤255):=by omega
 rcases hrng with hr | hr | hr | hr | hr | hr | hr
 ·have eq95:(n==(95:Int))=false:=by rw[beq_eq_false_iff_ne];omega
  have ge97:decide ((97:Int)≤n)=false:=decide_eq_false (by omega)
  have le122:decide (n≤(122:Int))=true:=decide_eq_true (by omega)
  have ge65:decide ((65:Int)≤n)=false:=decide_eq_false (by omega)
  have le90:decide (n≤(90:Int))=true:=decide_eq_true (by omega)
  have hv:letterN n=false:=by unfold letterN;simp only[eq95,ge97,le122,ge65,le90];rfl
  rw[hv]
  refine gom ?_
  refine WC.rt ?_
  exact QF.p1 (.inl rfl) rfl (.tmp rfl) (⟨rfl,rfl,rfl⟩)
 ·have eq95:(n==(95:Int))=false:=by rw[beq_eq_false_iff_ne];omega
  have ge97:decide ((97:Int)≤n)=false:=decide_eq_false (by omega)
  have le122:decide (n≤(122:Int))=true:=decide_eq_true (by omega)
  have ge65:decide ((65:Int)≤n)=true:=decide_eq_true (by omega)
  have le90:decide (n≤(90:Int))=true:=decide_eq_true (by omega)
  have hv:letterN n=true:=by unfold letterN;simp only[eq95,ge97,le122,ge65,le90];rfl
  rw[hv]
  refine gom ?_
  refine WC.rt ?_
  exact QF.p1 (.inl rfl) rfl (.tmp rfl) (⟨rfl,rfl,rfl⟩)
 ·have eq95:(n==(95:Int))=false:=by rw[beq_eq_false_iff_ne];omega
  have ge97:decide ((97:Int)≤n)=false:=decide_eq_false (by omega)
  have le122:decide (n≤(122:Int))=true:=decide_eq_true (by omega)
  have ge65:decide ((65:Int)≤n)=true:=decide_eq_true (by omega)
  have le90:decide (n≤(90:Int))=false:=decide_eq_false (by omega)
  have hv:letterN n=false:=by unfold letterN;simp only[eq95,ge97,le122,ge65,le90];rfl
  rw[hv]
  refine gom ?_
  refine WC.rt ?_
  exact QF.p1 (.inl rfl) rfl (.tmp rfl) (⟨rfl,rfl,rfl⟩)
 ·have eq95:(n==(95:Int))=true:=by rw[beq_iff_eq];omega
  have ge97:decide ((97:Int)≤n)=false:=decide_eq_false (by omega)
  have le122:decide (n≤(122:Int))=true:=decide_eq_true (by omega)
  have ge65:decide ((65:Int)≤n)=true:=decide_eq_true (by omega)
  have le90:decide (n≤(90:Int))=false:=decide_eq_false (by omega)
  have hv:letterN n=true:=by unfold letterN;simp only[eq95,ge97,le122,ge65,le90];rfl
  rw[hv]
  refine gom ?_
  refine WC.rt ?_
  exact QF.p1 (.inl rfl) rfl (.tmp rfl) (⟨rfl,rfl,rfl⟩)
 ·have eq95:(n==(95:Int))=false:=by rw[beq_eq_false_iff_ne];omega
  have ge97:decide ((97:Int)≤n)=false:=decide_eq_false (by omega)
  have le122:decide (n≤(122:Int))=true:=decide_eq_true (by omega)
  have ge65:decide ((65:Int)≤n)=true:=decide_eq_true (by omega)
  have le90:decide (n≤(90:Int))=false:=decide_eq_false (by omega)
  have hv:letterN n=false:=by unfold letterN;simp only[eq95,ge97,le122,ge65,le90];rfl
  rw[hv]
  refine gom ?_
  refine WC.rt ?_
  exact QF.p1 (.inl rfl) rfl (.tmp rfl) (⟨rfl,rfl,rfl⟩)
 ·have eq95:(n==(95:Int))=false:=by rw[beq_eq_false_iff_ne];omega
  have ge97:decide ((97:Int)≤n)=true:=decide_eq_true (by omega)
  have le122:decide (n≤(122:Int))=true:=decide_eq_true (by omega)
  have ge65:decide ((65:Int)≤n)=true:=decide_eq_true (by omega)
  have le90:decide (n≤(90:Int))=false:=decide_eq_false (by omega)
  have hv:letterN n=true:=by unfold letterN;simp only[eq95,ge97,le122,ge65,le90];rfl
  rw[hv]
  refine gom ?_
  refine WC.rt ?_
  exact QF.p1 (.inl rfl) rfl (.tmp rfl) (⟨rfl,rfl,rfl⟩)
 ·have eq95:(n==(95:Int))=false:=by rw[beq_eq_false_iff_ne];omega
  have ge97:decide ((97:Int)≤n)=true:=decide_eq_true (by omega)
  have le122:decide (n≤(122:Int))=false:=decide_eq_false (by omega)
  have ge65:decide ((65:Int)≤n)=true:=decide_eq_true (by omega)
  have le90:decide (n≤(90:Int))=false:=decide_eq_false (by omega)
  have hv:letterN n=false:=by unfold letterN;simp only[eq95,ge97,le122,ge65,le90];rfl
  rw[hv]
  refine gom ?_
  refine WC.rt ?_
  exact QF.p1 (.inl rfl) rfl (.tmp rfl) (⟨rfl,rfl,rfl⟩)
theorem rDigit_fn (G:Gh) (n:Int) (h0:0≤n) (h1:n≤255):Fn Tryz.prog 170 #[.int .u8 n] G [] fun e G' H'=>e= .returned (.bool (digitN n))∧G=G'∧H'=[]:=by
 refine Fn.enter Tryz.func170 rfl rfl fun w0=>?_
 have hrng:(0≤n∧n≤47)∨(48≤n∧n≤57)∨(58≤n∧n≤255):=by omega
 rcases hrng with hr | hr | hr
 ·have ge48:decide ((48:Int)≤n)=false:=decide_eq_false (by omega)
  have le57:decide (n≤(57:Int))=true:=decide_eq_true (by omega)
  have hv:digitN n=false:=by unfold digitN;simp only[ge48,le57];rfl
  rw[hv]
  refine gom ?_
  refine WC.rt ?_
  exact QF.p1 (.inl rfl) rfl (.tmp rfl) (⟨rfl,rfl,rfl⟩)
 ·have ge48:decide ((48:Int)≤n)=true:=decide_eq_true (by omega)
  have le57:decide (n≤(57:Int))=true:=decide_eq_true (by omega)
  have hv:digitN n=true:=by unfold digitN;simp only[ge48,le57];rfl
  rw[hv]
  refine gom ?_
  refine WC.rt ?_
  exact QF.p1 (.inl rfl) rfl (.tmp rfl) (⟨rfl,rfl,rfl⟩)
 ·have ge48:decide ((48:Int)≤n)=true:=decide_eq_true (by omega)
  have le57:decide (n≤(57:Int))=false:=decide_eq_false (by omega)
  have hv:digitN n=false:=by unfold digitN;simp only[ge48,le57];rfl
  rw[hv]
  refine gom ?_
  refine WC.rt ?_
  exact QF.p1 (.inl rfl) rfl (.tmp rfl) (⟨rfl,rfl,rfl⟩)
theorem rkeys_fn (G:Gh):Fn Tryz.prog 172 #[] G [] fun e G' H'=>∃b,e= .returned (.slice (some ⟨b,0,none⟩) 16 16)∧G.le G'∧Sl Kd.str G' (some ⟨b,0,none⟩) keysL∧H'=[]:=by
 refine Fn.enter Tryz.func172 rfl rfl fun w0=>?_
 refine gom ?_
 refine WL.op kr (OW.buildSlice rfl kr kr (by rfl) rfl fun b1=>?_)
 refine gom ?_
 refine WC.freezeC (cs:=keysL.map Value.string) .here rfl fun G1 hg1 h1=>?_
 refine WC.rt ?_
 exact QF.p1 (.inl rfl) rfl (.tmp rfl) (⟨b1,rfl,hg1,Cs.strs h1,rfl⟩)
theorem ramong_fn (G:Gh) (A:Option Addr) (l:List ByteArray) (cap:Nat) (s:ByteArray) (hA:Sl Kd.str G A l) (hl:l.length≤100000000000000):
  Fn Tryz.prog 171 #[.slice A l.length cap, .string s] G [] fun e G' H'=>e= .returned (.bool (l.any (fun k=>s==k)))∧G=G'∧H'=[]:=by
 refine Fn.enter Tryz.func171 rfl rfl fun w0=>?_
 refine gom ?_
 refine WC.loop (X:=Nat) (fun i=>[(0, .slice A l.length cap),(1, .string s),(5, .int .i64 (i:Int))]) (fun _=>G) (fun _=>[]) (fun i=>l.length - i) (fun i=>i≤l.length∧∀j y,j<i→l[j]? =some y→(s==y)=false) 0 ⟨Nat.zero_le _,(fun j y h=>absurd h (Nat.not_lt_zero _))⟩ (by exact⟨rfl,rfl,rfl,trivial⟩) rfl (List.Sublist.refl _) fun i hx=>?_
 obtain⟨hi,hall⟩:=hx
 have x2:=wrapS i (by omega)
 by_cases hlt:i<l.length
 rotate_left
 ·have e2:decide ((i:Int)<(l.length:Int))=false:=decide_eq_false (by omega)
  rw[any_none hall (by omega)]
  refine gom ?_
  refine WC.rt ?_
  exact QF.p1 (.inl rfl) rfl (.tmp rfl) (⟨rfl,rfl,rfl⟩)
 have e2:decide ((i:Int)<(l.length:Int))=true:=decide_eq_true (by omega)
 obtain⟨y,hy⟩:∃y,l[i]? =some y:=⟨_,List.getElem?_eq_getElem hlt⟩
 obtain⟨ab,ao,cs,rfl,hk,hcs⟩:=hA i y hy
 obtain rfl:cs=[.string y]:=hk
 have x0:(0:Int)≤i:=by omega
 have x1:(i:Int)<(l.length:Int):=by omega
 have hsym:(y==s)=(s==y):=by rw[bytes_beq,bytes_beq];congr 1;exact propext ⟨Eq.symm,Eq.symm⟩
 cases hq:(s==y)with
 | true=>
  have hv:l.any (fun k=>s==k)=true:=List.any_eq_true.2 ⟨y,List.mem_of_getElem? hy,hq⟩
  rw[hv]
  refine gom ?_
  rw[hsym,hq]
  refine gom ?_
  refine WC.rt ?_
  exact QF.p1 (.inl rfl) rfl (.tmp rfl) (⟨rfl,rfl,rfl⟩)
 | false=>
  refine gom ?_
  rw[hsym,hq]
  refine gom ?_
  exact WK.again (i+1) (by omega) ⟨by omega,any_step hy hall hq⟩ (by exact⟨rfl,rfl,rfl,trivial⟩) rfl (List.Sublist.refl _)
theorem rKey_fn (G:Gh) (s:ByteArray):Fn Tryz.prog 146 #[.string s] G [] fun e G' H'=>e= .returned (.bool (keyR s))∧G.le G'∧H'=[]:=by
 refine Fn.enter Tryz.func146 rfl rfl fun w0=>?_
 refine gom ?_
 refine WL.oo (OW.callK rfl (rkeys_fn G) rfl fun v' G' H' h hg=>?_)
 obtain⟨b,he,hg1,hs,rfl⟩:=h
 cases he
 refine gom ?_
 refine WL.oo (OW.callK rfl (ramong_fn G' _ keysL 16 s hs (by decide)) rfl fun v' G' H' h hg=>?_)
 obtain⟨he,rfl,rfl⟩:=h
 cases he
 refine gom ?_
 refine WC.rt ?_
 exact QF.p1 (.inl rfl) rfl (.tmp rfl) (⟨rfl,hg1,rfl⟩)
def rnameR (s:ByteArray):Bool:=
 match bytesL s with
 | []=>false
 | c::l=>letterN c.toNat&&(decide ((c::l).length≤32)&&(c::l).all (fun c=>wordN c.toNat))
theorem u8le (c:UInt8):((c.toNat:Nat):Int)≤255:=by have:=c.toNat_lt;omega
theorem rname_fn (G:Gh) (s:ByteArray) (hl:s.size≤100000000000000):Fn Tryz.prog 145 #[.string s] G [] fun e G' H'=>e= .returned (.bool (rnameR s))∧G=G'∧H'=[]:=by
 have hbl:=bytesL_length s
 refine Fn.enter Tryz.func145 rfl rfl fun w0=>?_
 cases hb:bytesL s with
 | nil=>
  have h0:s.size=0:=by rw[←hbl,hb];rfl
  have e1:((s.size:Int)==0)=true:=by rw[h0];rfl
  have hv:rnameR s=false:=by unfold rnameR;rw[hb]
  rw[hv]
  refine gom ?_
  refine WC.rt ?_
  exact QF.p1 (.inl rfl) rfl (.tmp rfl) (⟨rfl,rfl,rfl⟩)
 | cons c l=>
 have hsz:s.size=(c::l).length:=by rw[←hbl,hb]
 have hpos:0<s.size:=by rw[hsz];simp
 have e1:((s.size:Int)==0)=false:=by rw[beq_eq_false_iff_ne];omega
 have hv:rnameR s=(letterN c.toNat&&(decide ((c::l).length≤32)&&(c::l).all (fun c=>wordN c.toNat))):=by unfold rnameR;rw[hb]
 rw[hv,←hsz]
 by_cases h32:s.size≤32
 rotate_left
 ·have e2:decide ((32:Int)<(s.size:Int))=true:=decide_eq_true (by omega)
  rw[decide_eq_false h32]
  refine gom ?_
  refine WC.rt ?_
  exact QF.p1 (.inl rfl) rfl (.tmp rfl) (⟨by simp,rfl,rfl⟩)
 have e2:decide ((32:Int)<(s.size:Int))=false:=decide_eq_false (by omega)
 rw[decide_eq_true h32]
 have hc:(bytesL s)[(0:Int).toNat]? =some c:=by rw[hb];rfl
 refine gom ?_
 refine WL.pp (Gp.indexS rfl rfl (by decide) hc) ?_
 refine WL.oo (OW.callK rfl (rLetter_fn G c.toNat (by omega) (u8le c)) rfl fun v' G' H' h hg=>?_)
 obtain⟨he,rfl,rfl⟩:=h
 cases he
 cases hlc:letterN c.toNat with
 | false=>
  refine gom ?_
  refine WC.rt ?_
  exact QF.p1 (.inl rfl) rfl (.tmp rfl) (⟨by simp,rfl,rfl⟩)
 | true=>
 refine gom ?_
 refine WC.loop (X:=Nat) (fun i=>[(0, .string s),(3, .int .i64 (i:Int))]) (fun _=>G) (fun _=>[]) (fun i=>s.size - i) (fun i=>i≤s.size∧∀j y,j<i→(c::l)[j]? =some y→(fun c:UInt8=>wordN c.toNat) y=true) 0 ⟨Nat.zero_le _,(fun j y h=>absurd h (Nat.not_lt_zero _))⟩ (by exact⟨rfl,rfl,trivial⟩) rfl (List.Sublist.refl _) fun i hx=>?_
 obtain⟨hi,hall⟩:=hx
 have x2:=wrapS i (by omega)
 by_cases hlt:i<s.size
 rotate_left
 ·have e3:decide ((i:Int)<(s.size:Int))=false:=decide_eq_false (by omega)
  have ha:=all_of (f:=fun c:UInt8=>wordN c.toNat) hall (by omega)
  rw[ha]
  refine gom ?_
  refine WC.rt ?_
  exact QF.p1 (.inl rfl) rfl (.tmp rfl) (⟨rfl,rfl,rfl⟩)
 have e3:decide ((i:Int)<(s.size:Int))=true:=decide_eq_true (by omega)
 obtain⟨y,hy⟩:∃y,(c::l)[i]? =some y:=⟨_,List.getElem?_eq_getElem (by omega)⟩
 have hy':(bytesL s)[i]? =some y:=by rw[hb];exact hy
 refine gom ?_
 refine WL.pp (Gp.indexS rfl rfl (by omega) hy') ?_
 refine WL.oo (OW.callK rfl (rLetter_fn G y.toNat (by omega) (u8le y)) rfl fun v' G' H' h hg=>?_)
 obtain⟨he,rfl,rfl⟩:=h
 cases he
 cases hl1:letterN y.toNat with
 | true=>
  have hw:(fun c:UInt8=>wordN c.toNat) y=true:=by dsimp only;unfold wordN;rw[hl1];rfl
  refine gom ?_
  exact WK.again (i+1) (by omega) ⟨by omega,all_step (f:=fun c:UInt8=>wordN c.toNat) hy hall hw⟩ (by exact⟨rfl,rfl,trivial⟩) rfl (List.Sublist.refl _)
 | false=>
 refine gom ?_
 refine WL.pp (Gp.indexS rfl rfl (by omega) hy') ?_
 refine WL.oo (OW.callK rfl (rDigit_fn G y.toNat (by omega) (u8le y)) rfl fun v' G' H' h hg=>?_)
 obtain⟨he,rfl,rfl⟩:=h
 cases he
 cases hd1:digitN y.toNat with
 | true=>
  have hw:(fun c:UInt8=>wordN c.toNat) y=true:=by dsimp only;unfold wordN;rw[hl1,hd1];rfl
  refine gom ?_
  exact WK.again (i+1) (by omega) ⟨by omega,all_step (f:=fun c:UInt8=>wordN c.toNat) hy hall hw⟩ (by exact⟨rfl,rfl,trivial⟩) rfl (List.Sublist.refl _)
 | false=>
  have hw:(fun c:UInt8=>wordN c.toNat) y=false:=by dsimp only;unfold wordN;rw[hl1,hd1];rfl
  rw[all_not (f:=fun c:UInt8=>wordN c.toNat) hy hw]
  refine gom ?_
  refine WC.rt ?_
  exact QF.p1 (.inl rfl) rfl (.tmp rfl) (⟨rfl,rfl,rfl⟩)
theorem runL_allH {g:Int→Bool} :∀l:List UInt8,decide (runL g l=l.length)=l.all (fun c=>g c.toNat)
 | []=>rfl
 | c::l=>by
  have ih:=runL_allH (g:=g) l
  have hle:=runL_le g l
  rw[List.all_cons]
  by_cases hg:g c.toNat=true
  ·have hr:runL g (c::l)=1+runL g l:=by simp only[runL,if_pos hg]
   rw[hg,Bool.true_and,←ih]
   by_cases h:runL g l=l.length
   ·rw[decide_eq_true h,decide_eq_true (by rw[hr,List.length_cons];omega)]
   ·rw[decide_eq_false h,decide_eq_false (by rw[hr,List.length_cons];omega)]
  ·have hr:runL g (c::l)=0:=by simp only[runL,if_neg hg]
   rw[show g c.toNat=false by simpa using hg,Bool.false_and]
   exact decide_eq_false (by rw[hr,List.length_cons];omega)
theorem word_eq (s:ByteArray):wordR s=(rnameR s&& !keyR s):=by
 unfold wordR rnameR
 cases bytesL s with
 | nil=>rfl
 | cons c l=>
  dsimp only
  rw[runL_allH]
  cases letterN c.toNat<;>cases (c::l).all (fun c=>wordN c.toNat)<;>cases decide ((c::l).length≤32)<;>rfl
theorem rWord_fn (G:Gh) (s:ByteArray) (hl:s.size≤100000000000000):Fn Tryz.prog 98 #[.string s] G [] fun e G' H'=>e= .returned (.bool (wordR s))∧G.le G'∧H'=[]:=by
 rw[word_eq]
 refine Fn.enter Tryz.func98 rfl rfl fun w0=>?_
 refine gom ?_
 refine WL.oo (OW.callK rfl (rname_fn G s hl) rfl fun v' G' H' h hg=>?_)
 obtain⟨he,rfl,rfl⟩:=h
 cases he
 cases h1:rnameR s with
 | false=>
  refine gom ?_
  refine WC.rt ?_
  exact QF.p1 (.inl rfl) rfl (.tmp rfl) (⟨rfl,Gh.le_refl _,rfl⟩)
 | true=>
 refine gom ?_
 refine WL.oo (OW.callK rfl (rKey_fn G s) rfl fun v' G' H' h hg=>?_)
 obtain⟨he,hg1,rfl⟩:=h
 cases he
 refine gom ?_
 refine WC.rt ?_
 exact QF.p1 (.inl rfl) rfl (.tmp rfl) (⟨rfl,hg1,rfl⟩)
set_option maxHeartbeats 4000000 in
theorem rName4_fn (G:Gh) (s:ByteArray) (hl:s.size≤100000000000000):Fn Tryz.prog 200 #[.string s] G [] fun e G' H'=>e= .returned (.bool (nameR s))∧G=G'∧H'=[]:=by
 have hbl:=bytesL_length s
 refine Fn.enter Tryz.func200 rfl rfl fun w0=>?_
 by_cases h1:s.size<1
 ·have y1:decide ((s.size:Int)<1)=true:=decide_eq_true (by omega)
  have hn:nameR s=false:=by unfold nameR;rw[decide_eq_false (show¬1≤s.size by omega)];rfl
  rw[hn]
  refine gom ?_
  refine WC.rt ?_
  exact QF.p1 (.inl rfl) rfl (.tmp rfl) (⟨rfl,rfl,rfl⟩)
 have y1:decide ((s.size:Int)<1)=false:=decide_eq_false (by omega)
 by_cases h2:64<s.size
 ·have y2:decide ((64:Int)<(s.size:Int))=true:=decide_eq_true (by omega)
  have hn:nameR s=false:=by unfold nameR;rw[decide_eq_false (show¬s.size≤64 by omega)];simp
  rw[hn]
  refine gom ?_
  refine WC.rt ?_
  exact QF.p1 (.inl rfl) rfl (.tmp rfl) (⟨rfl,rfl,rfl⟩)
 have y2:decide ((64:Int)<(s.size:Int))=false:=decide_eq_false (by omega)
 cases h3:(s==⟨#[46]⟩)with
 | true=>
  have hn:nameR s=false:=by unfold nameR;rw[h3];simp
  rw[hn]
  refine gom ?_
  rw[h3]
  refine gom ?_
  refine WC.rt ?_
  exact QF.p1 (.inl rfl) rfl (.tmp rfl) (⟨rfl,rfl,rfl⟩)
 | false=>
 cases h4:(s==⟨#[46,46]⟩)with
 | true=>
  have hn:nameR s=false:=by unfold nameR;rw[h4];simp
  rw[hn]
  refine gom ?_
  rw[h3]
  refine gom ?_
  rw[h4]
  refine gom ?_
  refine WC.rt ?_
  exact QF.p1 (.inl rfl) rfl (.tmp rfl) (⟨rfl,rfl,rfl⟩)
 | false=>
 have hn:nameR s=(bytesL s).all (fun c=>nameC c.toNat):=by unfold nameR;rw[h3,h4,decide_eq_true (show 1≤s.size by omega),decide_eq_true (show s.size≤64 by omega)];rfl
 rw[hn]
 refine gom ?_
 rw[h3]
 refine gom ?_
 rw[h4]
 refine gom ?_
 refine WC.loop (X:=Nat) (fun i=>[(0, .string s),(3, .int .i64 (i:Int))]) (fun _=>G) (fun _=>[]) (fun i=>s.size - i) (fun i=>i≤s.size∧∀j y,j<i→(bytesL s)[j]? =some y→(fun c:UInt8=>nameC c.toNat) y=true) 0 ⟨Nat.zero_le _,(fun j y h=>absurd h (Nat.not_lt_zero _))⟩ (by exact⟨rfl,rfl,trivial⟩) rfl (List.Sublist.refl _) fun i hx=>?_
 obtain⟨hi,hall⟩:=hx
 have x2:=wrapS i (by omega)
 by_cases hlt:i<s.size
 rotate_left
 ·have e3:decide ((i:Int)<(s.size:Int))=false:=decide_eq_false (by omega)
  have ha:=all_of (f:=fun c:UInt8=>nameC c.toNat) hall (by omega)
  rw[ha]
  refine gom ?_
  refine WC.rt ?_
  exact QF.p1 (.inl rfl) rfl (.tmp rfl) (⟨rfl,rfl,rfl⟩)
 have e3:decide ((i:Int)<(s.size:Int))=true:=decide_eq_true (by omega)
 obtain⟨y,hy⟩:∃y,(bytesL s)[i]? =some y:=⟨_,List.getElem?_eq_getElem (by omega)⟩
 have hu:=u8le y
 refine gom ?_
 refine WL.pp (Gp.indexS rfl rfl (by omega) hy) ?_
 obtain⟨m,hm⟩:∃m:Int,m=((y.toNat:Nat):Int):=⟨_,rfl⟩
 rw[←hm]at hu⊢
 have hm0:0≤m:=by omega
 have hrng:(0≤m∧m≤44)∨(45≤m∧m≤45)∨(46≤m∧m≤46)∨(47≤m∧m≤47)∨(48≤m∧m≤57)∨(58≤m∧m≤64)∨(65≤m∧m≤90)∨(91≤m∧m≤94)∨(95≤m∧m≤95)∨(96≤m∧m≤96)∨(97≤m∧m≤122)∨(123≤m∧m≤255):=by omega
 rcases hrng with hr | hr | hr | hr | hr | hr | hr | hr | hr | hr | hr | hr
 ·have ge97:decide ((97:Int)≤m)=false:=decide_eq_false (by omega)
  have le122:decide (m≤(122:Int))=true:=decide_eq_true (by omega)
  have ge65:decide ((65:Int)≤m)=false:=decide_eq_false (by omega)
  have le90:decide (m≤(90:Int))=true:=decide_eq_true (by omega)
  have ge48:decide ((48:Int)≤m)=false:=decide_eq_false (by omega)
  have le57:decide (m≤(57:Int))=true:=decide_eq_true (by omega)
  have eq46:(m==(46:Int))=false:=by rw[beq_eq_false_iff_ne];omega
  have eq95:(m==(95:Int))=false:=by rw[beq_eq_false_iff_ne];omega
  have eq45:(m==(45:Int))=false:=by rw[beq_eq_false_iff_ne];omega
  have hw:(fun c:UInt8=>nameC c.toNat) y=false:=by dsimp only;rw[←hm];unfold nameC;simp only[ge97,le122,ge65,le90,ge48,le57,eq46,eq95,eq45];rfl
  rw[all_not (f:=fun c:UInt8=>nameC c.toNat) hy hw]
  refine gom ?_
  refine WC.rt ?_
  exact QF.p1 (.inl rfl) rfl (.tmp rfl) (⟨rfl,rfl,rfl⟩)
 ·have ge97:decide ((97:Int)≤m)=false:=decide_eq_false (by omega)
  have le122:decide (m≤(122:Int))=true:=decide_eq_true (by omega)
  have ge65:decide ((65:Int)≤m)=false:=decide_eq_false (by omega)
  have le90:decide (m≤(90:Int))=true:=decide_eq_true (by omega)
  have ge48:decide ((48:Int)≤m)=false:=decide_eq_false (by omega)
  have le57:decide (m≤(57:Int))=true:=decide_eq_true (by omega)
  have eq46:(m==(46:Int))=false:=by rw[beq_eq_false_iff_ne];omega
  have eq95:(m==(95:Int))=false:=by rw[beq_eq_false_iff_ne];omega
  have eq45:(m==(45:Int))=true:=by rw[beq_iff_eq];omega
  have hw:(fun c:UInt8=>nameC c.toNat) y=true:=by dsimp only;rw[←hm];unfold nameC;simp only[ge97,le122,ge65,le90,ge48,le57,eq46,eq95,eq45];rfl
  refine gom ?_
  exact WK.again (i+1) (by omega) ⟨by omega,all_step (f:=fun c:UInt8=>nameC c.toNat) hy hall hw⟩ (by exact⟨rfl,rfl,trivial⟩) rfl (List.Sublist.refl _)
 ·have ge97:decide ((97:Int)≤m)=false:=decide_eq_false (by omega)
  have le122:decide (m≤(122:Int))=true:=decide_eq_true (by omega)
  have ge65:decide ((65:Int)≤m)=false:=decide_eq_false (by omega)
  have le90:decide (m≤(90:Int))=true:=decide_eq_true (by omega)
  have ge48:decide ((48:Int)≤m)=false:=decide_eq_false (by omega)
  have le57:decide (m≤(57:Int))=true:=decide_eq_true (by omega)
  have eq46:(m==(46:Int))=true:=by rw[beq_iff_eq];omega
  have eq95:(m==(95:Int))=false:=by rw[beq_eq_false_iff_ne];omega
  have eq45:(m==(45:Int))=false:=by rw[beq_eq_false_iff_ne];omega
  have hw:(fun c:UInt8=>nameC c.toNat) y=true:=by dsimp only;rw[←hm];unfold nameC;simp only[ge97,le122,ge65,le90,ge48,le57,eq46,eq95,eq45];rfl
  refine gom ?_
  exact WK.again (i+1) (by omega) ⟨by omega,all_step (f:=fun c:UInt8=>nameC c.toNat) hy hall hw⟩ (by exact⟨rfl,rfl,trivial⟩) rfl (List.Sublist.refl _)
 ·have ge97:decide ((97:Int)≤m)=false:=decide_eq_false (by omega)
  have le122:decide (m≤(122:Int))=true:=decide_eq_true (by omega)
  have ge65:decide ((65:Int)≤m)=false:=decide_eq_false (by omega)
  have le90:decide (m≤(90:Int))=true:=decide_eq_true (by omega)
  have ge48:decide ((48:Int)≤m)=false:=decide_eq_false (by omega)
  have le57:decide (m≤(57:Int))=true:=decide_eq_true (by omega)
  have eq46:(m==(46:Int))=false:=by rw[beq_eq_false_iff_ne];omega
  have eq95:(m==(95:Int))=false:=by rw[beq_eq_false_iff_ne];omega
  have eq45:(m==(45:Int))=false:=by rw[beq_eq_false_iff_ne];omega
  have hw:(fun c:UInt8=>nameC c.toNat) y=false:=by dsimp only;rw[←hm];unfold nameC;simp only[ge97,le122,ge65,le90,ge48,le57,eq46,eq95,eq45];rfl
  rw[all_not (f:=fun c:UInt8=>nameC c.toNat) hy hw]
  refine gom ?_
  refine WC.rt ?_
  exact QF.p1 (.inl rfl) rfl (.tmp rfl) (⟨rfl,rfl,rfl⟩)
 ·have ge97:decide ((97:Int)≤m)=false:=decide_eq_false (by omega)
  have le122:decide (m≤(122:Int))=true:=decide_eq_true (by omega)
  have ge65:decide ((65:Int)≤m)=false:=decide_eq_false (by omega)
  have le90:decide (m≤(90:Int))=true:=decide_eq_true (by omega)
  have ge48:decide ((48:Int)≤m)=true:=decide_eq_true (by omega)
  have le57:decide (m≤(57:Int))=true:=decide_eq_true (by omega)
  have eq46:(m==(46:Int))=false:=by rw[beq_eq_false_iff_ne];omega
  have eq95:(m==(95:Int))=false:=by rw[beq_eq_false_iff_ne];omega
  have eq45:(m==(45:Int))=false:=by rw[beq_eq_false_iff_ne];omega
  have hw:(fun c:UInt8=>nameC c.toNat) y=true:=by dsimp only;rw[←hm];unfold nameC;simp only[ge97,le122,ge65,le90,ge48,le57,eq46,eq95,eq45];rfl
  refine gom ?_
  exact WK.again (i+1) (by omega) ⟨by omega,all_step (f:=fun c:UInt8=>nameC c.toNat) hy hall hw⟩ (by exact⟨rfl,rfl,trivial⟩) rfl (List.Sublist.refl _)
 ·have ge97:decide ((97:Int)≤m)=false:=decide_eq_false (by omega)
  have le122:decide (m≤(122:Int))=true:=decide_eq_true (by omega)
  have ge65:decide ((65:Int)≤m)=false:=decide_eq_false (by omega)
  have le90:decide (m≤(90:Int))=true:=decide_eq_true (by omega)
  have ge48:decide ((48:Int)≤m)=true:=decide_eq_true (by omega)
  have le57:decide (m≤(57:Int))=false:=decide_eq_false (by omega)
  have eq46:(m==(46:Int))=false:=by rw[beq_eq_false_iff_ne];omega
  have eq95:(m==(95:Int))=false:=by rw[beq_eq_false_iff_ne];omega
  have eq45:(m==(45:Int))=false:=by rw[beq_eq_false_iff_ne];omega
  have hw:(fun c:UInt8=>nameC c.toNat) y=false:=by dsimp only;rw[←hm];unfold nameC;simp only[ge97,le122,ge65,le90,ge48,le57,eq46,eq95,eq45];rfl
  rw[all_not (f:=fun c:UInt8=>nameC c.toNat) hy hw]
  refine gom ?_
  refine WC.rt ?_
  exact QF.p1 (.inl rfl) rfl (.tmp rfl) (⟨rfl,rfl,rfl⟩)
 ·have ge97:decide ((97:Int)≤m)=false:=decide_eq_false (by omega)
  have le122:decide (m≤(122:Int))=true:=decide_eq_true (by omega)
  have ge65:decide ((65:Int)≤m)=true:=decide_eq_true (by omega)
  have le90:decide (m≤(90:Int))=true:=decide_eq_true (by omega)
  have ge48:decide ((48:Int)≤m)=true:=decide_eq_true (by omega)
  have le57:decide (m≤(57:Int))=false:=decide_eq_false (by omega)
  have eq46:(m==(46:Int))=false:=by rw[beq_eq_false_iff_ne];omega
  have eq95:(m==(95:Int))=false:=by rw[beq_eq_false_iff_ne];omega
  have eq45:(m==(45:Int))=false:=by rw[beq_eq_false_iff_ne];omega
  have hw:(fun c:UInt8=>nameC c.toNat) y=true:=by dsimp only;rw[←hm];unfold nameC;simp only[ge97,le122,ge65,le90,ge48,le57,eq46,eq95,eq45];rfl
  refine gom ?_
  exact WK.again (i+1) (by omega) ⟨by omega,all_step (f:=fun c:UInt8=>nameC c.toNat) hy hall hw⟩ (by exact⟨rfl,rfl,trivial⟩) rfl (List.Sublist.refl _)
 ·have ge97:decide ((97:Int)≤m)=false:=decide_eq_false (by omega)
  have le122:decide (m≤(122:Int))=true:=decide_eq_true (by omega)
  have ge65:decide ((65:Int)≤m)=true:=decide_eq_true (by omega)
  have le90:decide (m≤(90:Int))=false:=decide_eq_false (by omega)
  have ge48:decide ((48:Int)≤m)=true:=decide_eq_true (by omega)
  have le57:decide (m≤(57:Int))=false:=decide_eq_false (by omega)
  have eq46:(m==(46:Int))=false:=by rw[beq_eq_false_iff_ne];omega
  have eq95:(m==(95:Int))=false:=by rw[beq_eq_false_iff_ne];omega
  have eq45:(m==(45:Int))=false:=by rw[beq_eq_false_iff_ne];omega
  have hw:(fun c:UInt8=>nameC c.toNat) y=false:=by dsimp only;rw[←hm];unfold nameC;simp only[ge97,le122,ge65,le90,ge48,le57,eq46,eq95,eq45];rfl
  rw[all_not (f:=fun c:UInt8=>nameC c.toNat) hy hw]
  refine gom ?_
  refine WC.rt ?_
  exact QF.p1 (.inl rfl) rfl (.tmp rfl) (⟨rfl,rfl,rfl⟩)
 ·have ge97:decide ((97:Int)≤m)=false:=decide_eq_false (by omega)
  have le122:decide (m≤(122:Int))=true:=decide_eq_true (by omega)
  have ge65:decide ((65:Int)≤m)=true:=decide_eq_true (by omega)
  have le90:decide (m≤(90:Int))=false:=decide_eq_false (by omega)
  have ge48:decide ((48:Int)≤m)=true:=decide_eq_true (by omega)
  have le57:decide (m≤(57:Int))=false:=decide_eq_false (by omega)
  have eq46:(m==(46:Int))=false:=by rw[beq_eq_false_iff_ne];omega
  have eq95:(m==(95:Int))=true:=by rw[beq_iff_eq];omega
  have eq45:(m==(45:Int))=false:=by rw[beq_eq_false_iff_ne];omega
  have hw:(fun c:UInt8=>nameC c.toNat) y=true:=by dsimp only;rw[←hm];unfold nameC;simp only[ge97,le122,ge65,le90,ge48,le57,eq46,eq95,eq45];rfl
  refine gom ?_
  exact WK.again (i+1) (by omega) ⟨by omega,all_step (f:=fun c:UInt8=>nameC c.toNat) hy hall hw⟩ (by exact⟨rfl,rfl,trivial⟩) rfl (List.Sublist.refl _)
 ·have ge97:decide ((97:Int)≤m)=false:=decide_eq_false (by omega)
  have le122:decide (m≤(122:Int))=true:=decide_eq_true (by omega)
  have ge65:decide ((65:Int)≤m)=true:=decide_eq_true (by omega)
  have le90:decide (m≤(90:Int))=false:=decide_eq_false (by omega)
  have ge48:decide ((48:Int)≤m)=true:=decide_eq_true (by omega)
  have le57:decide (m≤(57:Int))=false:=decide_eq_false (by omega)
  have eq46:(m==(46:Int))=false:=by rw[beq_eq_false_iff_ne];omega
  have eq95:(m==(95:Int))=false:=by rw[beq_eq_false_iff_ne];omega
  have eq45:(m==(45:Int))=false:=by rw[beq_eq_false_iff_ne];omega
  have hw:(fun c:UInt8=>nameC c.toNat) y=false:=by dsimp only;rw[←hm];unfold nameC;simp only[ge97,le122,ge65,le90,ge48,le57,eq46,eq95,eq45];rfl
  rw[all_not (f:=fun c:UInt8=>nameC c.toNat) hy hw]
  refine gom ?_
  refine WC.rt ?_
  exact QF.p1 (.inl rfl) rfl (.tmp rfl) (⟨rfl,rfl,rfl⟩)
 ·have ge97:decide ((97:Int)≤m)=true:=decide_eq_true (by omega)
  have le122:decide (m≤(122:Int))=true:=decide_eq_true (by omega)
  have ge65:decide ((65:Int)≤m)=true:=decide_eq_true (by omega)
  have le90:decide (m≤(90:Int))=false:=decide_eq_false (by omega)
  have ge48:decide ((48:Int)≤m)=true:=decide_eq_true (by omega)
  have le57:decide (m≤(57:Int))=false:=decide_eq_false (by omega)
  have eq46:(m==(46:Int))=false:=by rw[beq_eq_false_iff_ne];omega
  have eq95:(m==(95:Int))=false:=by rw[beq_eq_false_iff_ne];omega
  have eq45:(m==(45:Int))=false:=by rw[beq_eq_false_iff_ne];omega
  have hw:(fun c:UInt8=>nameC c.toNat) y=true:=by dsimp only;rw[←hm];unfold nameC;simp only[ge97,le122,ge65,le90,ge48,le57,eq46,eq95,eq45];rfl
  refine gom ?_
  exact WK.again (i+1) (by omega) ⟨by omega,all_step (f:=fun c:UInt8=>nameC c.toNat) hy hall hw⟩ (by exact⟨rfl,rfl,trivial⟩) rfl (List.Sublist.refl _)
 ·have ge97:decide ((97:Int)≤m)=true:=decide_eq_true (by omega)
  have le122:decide (m≤(122:Int))=false:=decide_eq_false (by omega)
  have ge65:decide ((65:Int)≤m)=true:=decide_eq_true (by omega)
  have le90:decide (m≤(90:Int))=false:=decide_eq_false (by omega)
  have ge48:decide ((48:Int)≤m)=true:=decide_eq_true (by omega)
  have le57:decide (m≤(57:Int))=false:=decide_eq_false (by omega)
  have eq46:(m==(46:Int))=false:=by rw[beq_eq_false_iff_ne];omega
  have eq95:(m==(95:Int))=false:=by rw[beq_eq_false_iff_ne];omega
  have eq45:(m==(45:Int))=false:=by rw[beq_eq_false_iff_ne];omega
  have hw:(fun c:UInt8=>nameC c.toNat) y=false:=by dsimp only;rw[←hm];unfold nameC;simp only[ge97,le122,ge65,le90,ge48,le57,eq46,eq95,eq45];rfl
  rw[all_not (f:=fun c:UInt8=>nameC c.toNat) hy hw]
  refine gom ?_
  refine WC.rt ?_
  exact QF.p1 (.inl rfl) rfl (.tmp rfl) (⟨rfl,rfl,rfl⟩)
end
section
open Go.MapKept
abbrev slash:ByteArray:=⟨#[47]⟩
theorem index_at:∀(l:List UInt8) (j:Nat),(∀k c,k<j→l[k]? =some c→c≠47)→l[j]? =some 47→Lib.index l [47]=(j:Int)
 | [],j,_,h=>by simp at h
 | b::l,0,_,h=>by
  have:b=47:=by simpa using h
  subst this
  rw[Lib.index];simp[List.isPrefixOf]
 | b::l,j+1,h1,h2=>by
  have hb:b≠47:=h1 0 b (by omega) rfl
  have hp:([47]:List UInt8).isPrefixOf (b::l)=false:=by simp[List.isPrefixOf,Ne.symm hb]
  have ih:=index_at l j (fun k c hk hc=>h1 (k+1) c (by omega) (by simpa using hc)) (by simpa using h2)
  rw[Lib.index,hp,ih]
  simp
theorem index_no:∀(l:List UInt8),(∀c∈l,c≠47)→Lib.index l [47]= -1
 | [],_=>by simp[Lib.index]
 | b::l,h=>by
  have hb:b≠47:=h b (List.mem_cons_self ..)
  have hp:([47]:List UInt8).isPrefixOf (b::l)=false:=by simp[List.isPrefixOf,Ne.symm hb]
  have ih:=index_no l fun c hc=>h c (List.mem_cons_of_mem _ hc)
  rw[Lib.index,hp,ih];rfl
theorem rest_list (s:ByteArray) (f:Nat):(s.extract f s.size).data.toList=(bytesL s).drop f:=by
 have:(s.extract f s.size).data=s.data.extract f s.size:=by simp
 rw[this]
 unfold bytesL
 rw[Array.toList_extract,List.extract_eq_drop_take',List.drop_take]
 rw[List.take_of_length_le]
 simp
theorem ext_front (s:ByteArray) (f i:Nat) (hf:f≤i) (hi:i≤s.size):(s.extract f s.size).extract 0 (i - f+0)=s.extract f i:=by
 apply ByteArray.ext
 simp only[ByteArray.data_extract]
 rw[Array.extract_extract]
 congr 1
 simp
 omega
theorem ext_back (s:ByteArray) (f i:Nat) (hf:f≤i) (hi:i<s.size):(s.extract f s.size).extract (i - f+1) (s.extract f s.size).size=s.extract (i+1) s.size:=by
 apply ByteArray.ext
 simp only[ByteArray.data_extract,ByteArray.size_extract]
 rw[Array.extract_extract]
 congr 1
 ·omega
 ·simp;omega
def restL (s:ByteArray) (f:Nat):List ByteArray:=Lib.splitB slash 0 (Lib.countB (s.extract f s.size) slash) (s.extract f s.size)
theorem restL_all (s:ByteArray):restL s 0=slashL s:=by
 have:s.extract 0 s.size=s:=by apply ByteArray.ext;simp
 unfold restL slashL
 rw[this]
theorem restL_hit {s:ByteArray} {f i:Nat} (hf:f≤i) (h1:∀k c,f≤k→k<i→(bytesL s)[k]? =some c→c≠47) (h2:(bytesL s)[i]? =some 47):restL s f=s.extract f i::restL s (i+1):=by
 have hi:i<s.size:=by rw[←bytesL_length];exact(List.getElem?_eq_some_iff.1 h2).1
 have hx:Lib.indexB (s.extract f s.size) slash=((i - f:Nat):Int):=by
  show Lib.index (s.extract f s.size).data.toList [47]=_
  rw[rest_list]
  refine index_at _ _ (fun k c hk hc=>?_) ?_
  ·rw[List.getElem?_drop]at hc;exact h1 (f+k) c (by omega) (by omega) hc
  ·rw[List.getElem?_drop,show f+(i - f)=i by omega];exact h2
 have hc:=Lib.countB_hit (s.extract f s.size) slash (i - f) (by decide) hx
 unfold restL
 rw[hc,Nat.add_comm 1,Lib.splitB_hit slash 0 _ _ (i - f) hx,ext_front s f i hf (by omega)]
 have hs:slash.size=1:=rfl
 rw[hs,ext_back s f i hf hi]
theorem restL_end {s:ByteArray} {f:Nat} (h1:∀k c,f≤k→(bytesL s)[k]? =some c→c≠47):restL s f=[s.extract f s.size]:=by
 have hx:Lib.indexB (s.extract f s.size) slash= -1:=by
  show Lib.index (s.extract f s.size).data.toList [47]=_
  rw[rest_list]
  refine index_no _ fun c hc=>?_
  obtain⟨k,hk⟩:=List.getElem?_of_mem hc
  rw[List.getElem?_drop]at hk
  exact h1 (f+k) c (by omega) hk
 unfold restL
 rw[Lib.countB_miss _ _ hx,Lib.splitB_zero]
end
section
open Go.MapKept
section
variable {P:Program} {L:List (Nat×Value)} {d:Option Tmp} {ty:TypeId} {pos:String} {af:Array Edge} {gu:Option (Nat×Bool)}
theorem Gp.sliceS2 {t:TypeId} {x y z:Operand} {s:ByteArray} {k k':IntKind} {i j:Int} (hx:ev L x=some (.string s)) (hy:ev L y=some (.int k i)) (hz:ev L z=some (.int k' j)) [hu:Und P t .string] (h0:0≤i) (h1:i≤j) (h2:j≤s.size):Gp P L ⟨d, .slice t x (some y) (some z) none,ty,pos,af,gu⟩ (.string (s.extract i.toNat j.toNat)):=
 fun a st w=>by
  have h:=run_slice_string_if (P:=P) w t s k k' i j hu.h
  rw[if_pos ⟨by omega,h2⟩,if_pos ⟨h0,h1⟩]at h
  simp[execOp,st.eval hx,st.eval hy,st.eval hz,run_sliceAt_string w t _ _ _ _ hu.h,h]
end
abbrev StVec (A:Option Addr) (l:List ByteArray) (cap:Nat) (x:Own):Prop:=Vec 9 1 A l.length cap (l.map Value.string) x
theorem StVec.nil:StVec none [] 0 (.spare 0 0 0):=⟨rfl, .inl ⟨rfl,rfl,rfl,rfl⟩⟩
theorem StVec.snoc {A:Option Addr} {l:List ByteArray} {cap:Nat} {x:Own} {z:ByteArray} (h:Vec 9 1 A (l.length+1) cap (l.map Value.string++[.string z]) x):StVec A (l++[z]) cap x:=by
 unfold StVec;rw[List.map_append,List.length_append];exact h
theorem StVec.sl {G:Gh} {A:Option Addr} {l:List ByteArray} (hz:l.map Value.string=[]∨∃b,A=some ⟨b,0,none⟩∧Cs G b 0 (l.map Value.string)):Sl Kd.str G A l:=by
 rcases hz with hz | ⟨b,rfl,hc⟩
 ·have:l=[]:=by simpa using hz
  subst this;exact Sl.nil _ _ _
 ·exact Cs.strs hc
theorem restL_len (s:ByteArray):∀(n f:Nat),s.size - f≤n→(restL s f).length≤n+1
 | 0,f,h=>by
  rw[restL_end fun k c hk hc=>by have:=(List.getElem?_eq_some_iff.1 hc).1;rw[bytesL_length]at this;omega]
  simp
 | n+1,f,h=>by
  by_cases hx:∃k,f≤k∧(bytesL s)[k]? =some 47
  ·have hmin:∃k,f≤k∧(bytesL s)[k]? =some 47∧∀j,f≤j→j<k→(bytesL s)[j]? ≠some 47:=by
    obtain⟨k,h1,h2⟩:=hx
    induction k using Nat.strongRecOn with
    | _ k ih=>
     by_cases hj:∃j,f≤j∧j<k∧(bytesL s)[j]? =some 47
     ·obtain⟨j,h3,h4,h5⟩:=hj
      exact ih j h4 h3 h5
     ·exact⟨k,h1,h2,fun j h3 h4 h5=>hj ⟨j,h3,h4,h5⟩⟩
   obtain⟨k,h1,h2,h3⟩:=hmin
   rw[restL_hit h1 (fun j c hj hk hc e=>h3 j hj hk (by rw[hc,e])) h2]
   have hk:=(List.getElem?_eq_some_iff.1 h2).1
   rw[bytesL_length]at hk
   have:=restL_len s n (k+1) (by omega)
   simp;omega
  ·rw[restL_end fun k c hk hc e=>hx ⟨k,hk,by rw[hc,e]⟩]
   simp
def lvalR (v:V):Bool:=
 if v.t=1 then !v.b&&(v.s==⟨#[]⟩)else if v.t=2 then v.i==0&&(v.s==⟨#[]⟩)else if v.t=3 then v.i==0&& !v.b&&decide ((v.s.size:Int)≤4096)else false
theorem lvalR_eq (v:V):lvalR v=valueR v:=by
 obtain⟨t,i,b,s⟩:=v
 unfold lvalR valueR
 dsimp only
 by_cases h1:t=1
 ·subst h1
  rw[if_pos rfl,if_pos rfl,bytes_beq]
  by_cases hs:s=⟨#[]⟩
  ·subst hs;cases b<;>simp<;>decide
  ·rw[decide_eq_false hs];cases b<;>simp[hs]
 rw[if_neg h1,if_neg h1]
 by_cases h2:t=2
 ·subst h2
  rw[if_pos rfl,if_pos rfl,bytes_beq]
  by_cases hs:s=⟨#[]⟩
  ·subst hs
   by_cases hi:i=0<;>simp[hi]<;>decide
  ·rw[decide_eq_false hs];simp[hs]
 rw[if_neg h2,if_neg h2]
 by_cases h3:t=3
 ·subst h3
  rw[if_pos rfl,if_pos rfl]
  by_cases hi:i=0
  ·subst hi;cases b<;>simp
  ·cases b<;>simp[hi]
 ·rw[if_neg h3,if_neg h3];rfl
attribute [local irreducible] Tryz.prog
attribute [local irreducible] restL slashL nameR
set_option maxHeartbeats 2000000 in
theorem rPieces_fn (G:Gh) (s:ByteArray) (hl:s.size≤1000000000000):Fn Tryz.prog 199 #[.string s] G [] fun e G' H'=>∃A cap x,e= .returned (.slice A (slashL s).length cap)∧G=G'∧StVec A (slashL s) cap x∧H'=[x]:=by
 have hbl:=bytesL_length s
 have hrl:=restL_len s s.size 0 (by omega)
 refine Fn.enter Tryz.func199 rfl rfl fun w0=>?_
 refine gom ?_
 refine WC.nothing ?_
 refine WC.loop (X:=Nat×Nat×List ByteArray×Option Addr×Nat×Own) (fun t=>[(0, .string s),(3, .slice t.2.2.2.1 t.2.2.1.length t.2.2.2.2.1),(4, .int .i64 (t.2.1:Int)),(5, .int .i64 (t.1:Int))]) (fun _=>G) (fun t=>[t.2.2.2.2.2]) (fun t=>s.size+1 - t.1)
  (fun t=>t.1≤s.size+1∧t.2.1≤t.1∧StVec t.2.2.2.1 t.2.2.1 t.2.2.2.2.1 t.2.2.2.2.2∧(∀k c,t.2.1≤k→k<t.1→(bytesL s)[k]? =some c→c≠47)∧(t.1≤s.size→slashL s=t.2.2.1++restL s t.2.1)∧(s.size<t.1→slashL s=t.2.2.1)) (0,0,[],none,0, .spare 0 0 0)
  ⟨Nat.zero_le _,Nat.le_refl _,StVec.nil,(fun k c _ h=>absurd h (Nat.not_lt_zero _)),fun _=>(restL_all s).symm,fun h=>absurd h (Nat.not_lt_zero _)⟩ (by exact⟨rfl,rfl,rfl,rfl,trivial⟩) rfl (List.Sublist.refl _) fun t ht=>?_
 obtain⟨i,f,l,B,c,o⟩:=t
 obtain⟨hi,hf,hv,hno,hS1,hS2⟩:=ht
 dsimp only at hi hf hv hno hS1 hS2
 have x2:=wrapS i (by omega)
 by_cases hlt:i≤s.size
 rotate_left
 ·have e2:decide ((i:Int)≤(s.size:Int))=false:=decide_eq_false (by omega)
  rw[hS2 (by omega)]
  refine gom ?_
  refine WC.rt ?_
  exact QF.p1 (.inl rfl) rfl (.tmp rfl) (⟨B,c,o,rfl,rfl,hv,rfl⟩)
 have e2:decide ((i:Int)≤(s.size:Int))=true:=decide_eq_true (by omega)
 have hS:=hS1 hlt
 have hlen:l.length+(restL s f).length≤s.size+1:=by rw[←List.length_append,←hS,←restL_all];exact hrl
 by_cases hend:i=s.size
 ·have e3:((i:Int)==(s.size:Int))=true:=by rw[beq_iff_eq];omega
  have hre:=restL_end (s:=s) (f:=f) (fun k c hk hc=>by
   have hkl:=(List.getElem?_eq_some_iff.1 hc).1
   exact hno k c hk (by omega) hc)
  rw[hre]at hS hlen
  rw[List.length_singleton]at hlen
  refine gom ?_
  have p0:(0:Int)≤(f:Int):=by omega
  have p1:(f:Int)≤(i:Int):=by omega
  have p2:(i:Int)≤(s.size:Int):=by omega
  refine WL.pp (Gp.sliceS2 rfl rfl rfl (by exact p0) (by exact p1) (by exact p2)) ?_
  rw[Int.toNat_natCast,Int.toNat_natCast]
  refine WL.op kr (OW.buildSlice rfl kr kr (by rfl) rfl fun b27=>?_)
  refine WL.oo (OW.append rfl rfl kr kr hv atA (Rds.blk0 (cs:=[.string (s.extract f i)]) .here rfl) rfl rfl (by first | omega | (dsimp only;omega)) (by first | omega | (dsimp only;omega)) rfl fun A3 c3 o3 hv3=>?_)
  have h3:=StVec.snoc hv3
  have hl3:l.length+1=(l++[s.extract f i]).length:=by rw[List.length_append];rfl
  refine gom ?_
  refine WK.pick [o3] ?_
  exact WK.again (i+1,i+1,l++[s.extract f i],A3,c3,o3) (by dsimp only;omega) ⟨by dsimp only;omega,Nat.le_refl _,h3,(fun k c h1 h2=>by dsimp only at h1 h2;omega),fun h=>by dsimp only at h;omega,fun _=>by dsimp only;rw[hS,hend]⟩ (by exact⟨rfl,by show _=some (Value.slice A3 _ c3);rw[←hl3];rfl,rfl,rfl,trivial⟩) rfl (List.Sublist.refl _)
 have e3:((i:Int)==(s.size:Int))=false:=by rw[beq_eq_false_iff_ne];omega
 obtain⟨y,hy⟩:∃y,(bytesL s)[i]? =some y:=⟨_,List.getElem?_eq_getElem (by omega)⟩
 refine gom ?_
 refine WL.pp (Gp.indexS rfl rfl (by omega) hy) ?_
 by_cases h47:y=47
 ·subst h47
  have hrh:=restL_hit (s:=s) hf hno hy
  rw[hrh]at hS hlen
  rw[List.length_cons]at hlen
  refine gom ?_
  have p0:(0:Int)≤(f:Int):=by omega
  have p1:(f:Int)≤(i:Int):=by omega
  have p2:(i:Int)≤(s.size:Int):=by omega
  refine WL.pp (Gp.sliceS2 rfl rfl rfl (by exact p0) (by exact p1) (by exact p2)) ?_
  rw[Int.toNat_natCast,Int.toNat_natCast]
  refine WL.op kr (OW.buildSlice rfl kr kr (by rfl) rfl fun b27=>?_)
  refine WL.oo (OW.append rfl rfl kr kr hv atA (Rds.blk0 (cs:=[.string (s.extract f i)]) .here rfl) rfl rfl (by first | omega | (dsimp only;omega)) (by first | omega | (dsimp only;omega)) rfl fun A3 c3 o3 hv3=>?_)
  have h3:=StVec.snoc hv3
  have hl3:l.length+1=(l++[s.extract f i]).length:=by rw[List.length_append];rfl
  refine gom ?_
  refine WK.pick [o3] ?_
  exact WK.again (i+1,i+1,l++[s.extract f i],A3,c3,o3) (by dsimp only;omega) ⟨by dsimp only;omega,Nat.le_refl _,h3,(fun k c h1 h2=>by dsimp only at h1 h2;omega),fun _=>by dsimp only;rw[hS];simp,fun h=>by dsimp only at h;omega⟩ (by exact⟨rfl,by show _=some (Value.slice A3 _ c3);rw[←hl3];rfl,rfl,rfl,trivial⟩) rfl (List.Sublist.refl _)
 ·have e4:(((y.toNat:Nat):Int)==47)=false:=by
   rw[beq_eq_false_iff_ne]
   intro h
   apply h47
   exact UInt8.toNat_inj.1 (by show y.toNat=47;omega)
  refine gom ?_
  exact WK.again (i+1,f,l,B,c,o) (by dsimp only;omega) ⟨by dsimp only;omega,by dsimp only;omega,hv,(fun k c h1 h2 hc=>by
   dsimp only at h1 h2
   rcases Nat.lt_or_ge k i with h | h
   ·exact hno k c h1 h hc
   ·obtain rfl:k=i:=by omega
    rw[hy]at hc;cases hc;exact h47),fun _=>hS,fun h=>by dsimp only at h;omega⟩ (by exact⟨rfl,rfl,rfl,rfl,trivial⟩) rfl (List.Sublist.refl _)
theorem slash_size (s:ByteArray):∀x∈slashL s,x.size≤s.size:=fun x hx=>by
 unfold slashL at hx
 exact splitB_size _ _ _ x hx
theorem rPath_fn (G:Gh) (s:ByteArray) (hl:s.size≤1000000000000):Fn Tryz.prog 144 #[.string s] G [] fun e G' H'=>e= .returned (.bool (pathR s))∧G.le G'∧H'=[]:=by
 refine Fn.enter Tryz.func144 rfl rfl fun w0=>?_
 have hN:Fn Tryz.prog 168 #[.string s] G [] fun e G' H'=>∃A n cap,e= .returned (.tuple #[.slice A n cap, .bool (pathR s)])∧G.le G'∧H'=[]:=by
  refine Fn.enter Tryz.func168 rfl rfl fun w0=>?_
  cases h1:(s==⟨#[]⟩)with
  | true=>
   have hp:pathR s=true:=by unfold pathR;rw[h1];rfl
   rw[hp]
   refine gom ?_
   rw[h1]
   refine gom ?_
   refine WC.rt ?_
   exact QF.p2 (.inl rfl) rfl (.tmp rfl) (.tmp rfl) (⟨none,0,0,rfl,Gh.le_refl _,rfl⟩)
  | false=>
  have hp:pathR s=(decide ((slashL s).length≤32)&&(slashL s).all nameR):=by unfold pathR;rw[h1];rfl
  refine gom ?_
  rw[h1]
  refine gom ?_
  refine WL.oo (OW.callK rfl (rPieces_fn G s hl) rfl fun v' G' H' h hg=>?_)
  obtain⟨A,cap,x,he,rfl,hv,rfl⟩:=h
  cases he
  refine WL.frozenVec hv atA fun G1 hg1 hz1=>?_
  have hs1:=StVec.sl hz1
  have hrl:(slashL s).length≤s.size+1:=by rw[←restL_all];exact restL_len s s.size 0 (by omega)
  have hsz:=slash_size s
  refine gom ?_
  refine WC.loop (X:=Nat) (fun i=>[(4, .slice A (slashL s).length cap),(5, .int .i64 (i:Int))]) (fun _=>G1) (fun _=>[]) (fun i=>(slashL s).length - i) (fun i=>i≤(slashL s).length∧∀j y,j<i→(slashL s)[j]? =some y→nameR y=true) 0 ⟨Nat.zero_le _,(fun j y h=>absurd h (Nat.not_lt_zero _))⟩ (by exact⟨rfl,rfl,trivial⟩) rfl (List.nil_sublist _) fun i hx=>?_
  obtain⟨hi,hall⟩:=hx
  have x2:=wrapS i (by omega)
  by_cases hlt:i<(slashL s).length
  rotate_left
  ·have e2:decide ((i:Int)<((slashL s).length:Int))=false:=decide_eq_false (by omega)
   have ha:=all_of hall (by omega)
   by_cases h32:(slashL s).length≤32
   ·have e3:decide ((32:Int)<((slashL s).length:Int))=false:=decide_eq_false (by omega)
    rw[hp,ha,decide_eq_true h32]
    refine gom ?_
    refine WC.rt ?_
    exact QF.p2 (.inl rfl) rfl (.tmp rfl) (.tmp rfl) (⟨A,_,cap,rfl,hg1,rfl⟩)
   ·have e3:decide ((32:Int)<((slashL s).length:Int))=true:=decide_eq_true (by omega)
    rw[hp,ha,decide_eq_false h32]
    refine gom ?_
    refine WC.rt ?_
    exact QF.p2 (.inl rfl) rfl (.tmp rfl) (.tmp rfl) (⟨none,0,0,rfl,hg1,rfl⟩)
  have e2:decide ((i:Int)<((slashL s).length:Int))=true:=decide_eq_true (by omega)
  obtain⟨y,hy⟩:∃y,(slashL s)[i]? =some y:=⟨_,List.getElem?_eq_getElem hlt⟩
  obtain⟨ab,ao,cs,rfl,hk,hcs⟩:=hs1 i y hy
  obtain rfl:cs=[.string y]:=hk
  have x0:(0:Int)≤i:=by omega
  have x1:(i:Int)<((slashL s).length:Int):=by omega
  have hys:=hsz y (List.mem_of_getElem? hy)
  refine gom ?_
  refine WL.oo (OW.callK rfl (rName4_fn G1 y (by omega)) rfl fun v' G' H' h hg=>?_)
  obtain⟨he,rfl,rfl⟩:=h
  cases he
  cases hn:nameR y with
  | true=>
   refine gom ?_
   exact WK.again (i+1) (by omega) ⟨by omega,all_step hy hall hn⟩ (by exact⟨rfl,rfl,trivial⟩) rfl (List.nil_sublist _)
  | false=>
   rw[hp,all_not hy hn,Bool.and_false]
   refine gom ?_
   refine WC.rt ?_
   exact QF.p2 (.inl rfl) rfl (.tmp rfl) (.tmp rfl) (⟨none,0,0,rfl,hg1,rfl⟩)
 refine gom ?_
 refine WL.oo (OW.callK rfl (hN) rfl fun v' G' H' h hg=>?_)
 obtain⟨A,n,cap,he,hg1,rfl⟩:=h
 cases he
 refine gom ?_
 refine WC.rt ?_
 exact QF.p1 (.inl rfl) rfl (.tmp rfl) (⟨rfl,hg1,rfl⟩)
theorem rplace_fn (G:Gh) (s:ByteArray) (hl:s.size≤1000000000000):Fn Tryz.prog 96 #[.string s] G [] fun e G' H'=>e= .returned (.bool (fileR s))∧G.le G'∧H'=[]:=by
 refine Fn.enter Tryz.func96 rfl rfl fun w0=>?_
 cases h1:(s==⟨#[]⟩)with
 | true=>
  have hv:fileR s=false:=by unfold fileR;rw[h1];rfl
  rw[hv]
  refine gom ?_
  rw[h1]
  refine gom ?_
  refine WC.rt ?_
  exact QF.p1 (.inl rfl) rfl (.tmp rfl) (⟨rfl,Gh.le_refl _,rfl⟩)
 | false=>
 have hv:fileR s=pathR s:=by unfold fileR;rw[h1];rfl
 rw[hv]
 refine gom ?_
 rw[h1]
 refine gom ?_
 refine WL.oo (OW.callK rfl (rPath_fn G s hl) rfl fun v' G' H' h hg=>?_)
 obtain⟨he,hg1,rfl⟩:=h
 cases he
 refine gom ?_
 refine WC.rt ?_
 exact QF.p1 (.inl rfl) rfl (.tmp rfl) (⟨rfl,hg1,rfl⟩)
theorem rhead_fn (G:Gh) (A:Option Addr) (l:List Int) (cap:Nat) (r:Int) (hA:Sl (Kd.int .i64) G A l) (hl:l.length≤100000000000000):
  Fn Tryz.prog 99 #[.slice A l.length cap, .int .i64 r] G [] fun e G' H'=>e= .returned (.bool (headR l r))∧G=G'∧H'=[]:=by
 refine Fn.enter Tryz.func99 rfl rfl fun w0=>?_
 refine gom ?_
 refine WC.loop (X:=Nat) (fun i=>[(0, .slice A l.length cap),(1, .int .i64 r),(5, .int .i64 i)]) (fun _=>G) (fun _=>[]) (fun i=>l.length - i) (fun i=>i≤l.length∧∀j y,j<i→l[j]? =some y→typedR y=true) 0 ⟨Nat.zero_le _,fun j y h=>by omega⟩ (by exact⟨rfl,rfl,rfl,trivial⟩) rfl (List.Sublist.refl _) fun i hx=>?_
 obtain⟨hi,hall⟩:=hx
 by_cases hlt:i<l.length
 rotate_left
 ·have e2:decide ((i:Int)<(l.length:Int))=false:=decide_eq_false (by omega)
  have ha:=all_of hall (by omega)
  cases h5:decide ((l.length:Int)≤64)with
  | false=>
   refine gom ?_
   refine WC.rt ?_
   exact QF.p1 (.inl rfl) rfl (.tmp rfl) (⟨by rw[headR,ha,h5];rfl,rfl,rfl⟩)
  | true=>
  have hr:(r==0 || typedR r)=(decide (0≤r)&&decide (r≤3)):=by
   unfold typedR
   rw[Bool.eq_iff_iff]
   simp
   omega
  cases h6:decide ((0:Int)≤r)with
  | false=>
   refine gom ?_
   refine WC.rt ?_
   exact QF.p1 (.inl rfl) rfl (.tmp rfl) (⟨by rw[headR,ha,h5,hr,h6];rfl,rfl,rfl⟩)
  | true=>
   refine gom ?_
   refine WC.rt ?_
   exact QF.p1 (.inl rfl) rfl (.tmp rfl) (⟨by rw[headR,ha,h5,hr,h6];rfl,rfl,rfl⟩)
 have e2:decide ((i:Int)<(l.length:Int))=true:=decide_eq_true (by omega)
 obtain⟨v,hv⟩:∃v,l[i]? =some v:=⟨_,List.getElem?_eq_getElem hlt⟩
 obtain⟨b,o,rfl,hcs⟩:=hA.at hv
 have x0:(0:Int)≤(i:Int):=by omega
 have x1:(i:Int)<(l.length:Int):=by omega
 have x2:=wrapS i (by omega)
 by_cases hv1:v<1
 ·have e3:decide (v<1)=true:=decide_eq_true hv1
  have hf:typedR v=false:=by unfold typedR;rw[decide_eq_false (by omega)];rfl
  refine gom ?_
  refine WC.rt ?_
  exact QF.p1 (.inl rfl) rfl (.tmp rfl) (⟨by rw[headR,all_not hv hf];rfl,rfl,rfl⟩)
 have e3:decide (v<1)=false:=decide_eq_false hv1
 by_cases hv3:3<v
 ·have e4:decide ((3:Int)<v)=true:=decide_eq_true hv3
  have hf:typedR v=false:=by unfold typedR;rw[decide_eq_false (show¬v≤3 by omega),Bool.and_false]
  refine gom ?_
  refine WC.rt ?_
  exact QF.p1 (.inl rfl) rfl (.tmp rfl) (⟨by rw[headR,all_not hv hf];rfl,rfl,rfl⟩)
 have e4:decide ((3:Int)<v)=false:=decide_eq_false hv3
 have hf:typedR v=true:=by unfold typedR;rw[decide_eq_true (by omega),decide_eq_true (by omega)];rfl
 refine gom ?_
 exact WK.again (i+1) (by omega) ⟨by omega,all_step hv hall hf⟩ (by exact⟨rfl,rfl,rfl,trivial⟩) rfl (List.nil_sublist _)
set_option maxHeartbeats 1000000 in
theorem rvalue_fn (G:Gh) (v:V):Fn Tryz.prog 97 #[.agg #[.int .i64 v.t, .int .i64 v.i, .bool v.b, .string v.s]] G [] fun e G' H'=>e= .returned (.bool (valueR v))∧G=G'∧H'=[]:=by
 rw[←lvalR_eq]
 refine Fn.enter Tryz.func97 rfl rfl fun w0=>?_
 obtain⟨t,i,b,s⟩:=v
 refine WC.seq ?_
 refine WC.region ?_
 refine WL.oo (OW.box rfl rfl fun b1=>?_)
 unfold lvalR
 dsimp only
 by_cases h1:t=1
 ·subst h1
  rw[if_pos rfl]
  cases b with
  | true=>
   refine gom ?_
   refine WC.rt ?_
   exact QF.p1 (.inl rfl) rfl (.tmp rfl) (⟨rfl,rfl,rfl⟩)
  | false=>
   refine gom ?_
   refine WC.rt ?_
   exact QF.p1 (.inl rfl) rfl (.tmp rfl) (⟨by simp,rfl,rfl⟩)
 have e1:(t==1)=false:=by simpa using h1
 rw[if_neg h1]
 by_cases h2:t=2
 ·subst h2
  rw[if_pos rfl]
  cases hi:(i==0)with
  | true=>
   refine gom ?_
   refine WC.rt ?_
   exact QF.p1 (.inl rfl) rfl (.tmp rfl) (⟨by simp,rfl,rfl⟩)
  | false=>
   refine gom ?_
   refine WC.rt ?_
   exact QF.p1 (.inl rfl) rfl (.tmp rfl) (⟨by simp,rfl,rfl⟩)
 have e2:(t==2)=false:=by simpa using h2
 rw[if_neg h2]
 by_cases h3:t=3
 ·subst h3
  rw[if_pos rfl]
  cases hi:(i==0)with
  | false=>
   refine gom ?_
   refine WC.rt ?_
   exact QF.p1 (.inl rfl) rfl (.tmp rfl) (⟨by simp,rfl,rfl⟩)
  | true=>
  cases b with
  | true=>
   refine gom ?_
   refine WC.rt ?_
   exact QF.p1 (.inl rfl) rfl (.tmp rfl) (⟨by simp,rfl,rfl⟩)
  | false=>
   refine gom ?_
   refine WC.rt ?_
   exact QF.p1 (.inl rfl) rfl (.tmp rfl) (⟨by simp,rfl,rfl⟩)
 have e3:(t==3)=false:=by simpa using h3
 rw[if_neg h3]
 refine gom ?_
 refine WC.rt ?_
 exact QF.p1 (.inl rfl) rfl (.tmp rfl) (⟨rfl,rfl,rfl⟩)
theorem rsame_fn (G:Gh) (A B:Option Addr) (l m:List Int) (ca cb:Nat) (ha:Sl (Kd.int .i64) G A l) (hb:Sl (Kd.int .i64) G B m) (hl:l.length≤100000000000000):
  Fn Tryz.prog 202 #[.slice A l.length ca, .slice B m.length cb] G [] fun e G' H'=>e= .returned (.bool (decide (l=m)))∧G=G'∧H'=[]:=by
 refine Fn.enter Tryz.func202 rfl rfl fun w0=>?_
 by_cases hne:l.length=m.length
 rotate_left
 ·have e1:((l.length:Int) != (m.length:Int))=true:=by rw[bne_iff_ne];omega
  refine gom ?_
  refine WC.rt ?_
  exact QF.p1 (.inl rfl) rfl (.tmp rfl) (⟨by rw[decide_eq_false fun e=>hne (by rw[e])],rfl,rfl⟩)
 have e1:((l.length:Int) != (m.length:Int))=false:=by rw[hne];simp
 refine gom ?_
 refine WC.loop (X:=Nat) (fun i=>[(5, .int .i64 i),(0, .slice A l.length ca),(1, .slice B m.length cb)]) (fun _=>G) (fun _=>[]) (fun i=>l.length - i) (fun i=>i≤l.length∧∀j,j<i→l[j]? =m[j]?) 0 ⟨Nat.zero_le _,fun j h=>by omega⟩ (by exact⟨rfl,rfl,rfl,trivial⟩) rfl (List.Sublist.refl _) fun i hx=>?_
 obtain⟨hi,hall⟩:=hx
 by_cases hlt:i<l.length
 rotate_left
 ·have e2:decide ((i:Int)<(l.length:Int))=false:=decide_eq_false (by omega)
  have he:l=m:=by
   refine List.ext_getElem? fun j=>?_
   rcases Nat.lt_or_ge j i with h | h
   ·exact hall j h
   ·rw[List.getElem?_eq_none (by omega),List.getElem?_eq_none (by omega)]
  refine gom ?_
  refine WC.rt ?_
  exact QF.p1 (.inl rfl) rfl (.tmp rfl) (⟨by rw[decide_eq_true he],rfl,rfl⟩)
 have e2:decide ((i:Int)<(l.length:Int))=true:=decide_eq_true (by omega)
 obtain⟨x,hx⟩:∃x,l[i]? =some x:=⟨_,List.getElem?_eq_getElem hlt⟩
 obtain⟨y,hy⟩:∃y,m[i]? =some y:=⟨_,List.getElem?_eq_getElem (by omega)⟩
 obtain⟨ab,ao,cs1,rfl,hk1,hca⟩:=ha i x hx
 obtain⟨bb,bo,cs2,rfl,hk2,hcb⟩:=hb i y hy
 obtain rfl:cs1=[.int .i64 x]:=hk1
 obtain rfl:cs2=[.int .i64 y]:=hk2
 have x0:(0:Int)≤i:=by omega
 have x2:(i:Int)<(l.length:Int):=by omega
 have x3:(i:Int)<(m.length:Int):=by omega
 have x4:=wrapS i (by omega)
 by_cases hxy:x=y
 ·have e3:(x != y)=false:=by simp[hxy]
  refine gom ?_
  exact WK.again (i+1) (by omega) ⟨by omega,fun j hj=>by
   rcases Nat.lt_or_ge j i with h | h
   ·exact hall j h
   ·obtain rfl:j=i:=by omega
    rw[hx,hy,hxy]⟩ (by exact⟨rfl,rfl,rfl,trivial⟩) rfl (List.Sublist.refl _)
 ·have e3:(x != y)=true:=by rw[bne_iff_ne];exact hxy
  refine gom ?_
  refine WC.rt ?_
  exact QF.p1 (.inl rfl) rfl (.tmp rfl) (⟨by rw[decide_eq_false fun e=>by rw[e,hy]at hx;exact hxy (Option.some.inj hx).symm],rfl,rfl⟩)
end
section
open Go.MapKept
attribute [local irreducible] Tryz.prog
abbrev rsV (s:SS) (VA:Option Addr) (vc:Nat) (SA:Option Addr) (sc:Nat):Value:= .agg #[.bool s.reached, .slice VA s.vars.length vc, .bool s.unlike, .slice SA s.stack.length sc]
abbrev rsC (s:SS) (VA:Option Addr) (vc:Nat) (SA:Option Addr) (sc:Nat):Array Value:= #[.bool s.reached, .slice VA s.vars.length vc, .bool s.unlike, .slice SA s.stack.length sc]
theorem TVec.nil:TVec none [] 0 (.spare 0 0 0):=⟨rfl, .inl ⟨rfl,rfl,rfl,rfl⟩⟩
theorem TVec.snoc {A:Option Addr} {l:List Int} {cap:Nat} {x:Own} {z:Int} (h:Vec 44 1 A (l.length+1) cap (ints l++[.int .i64 z]) x):TVec A (l++[z]) cap x:=by
 unfold TVec IVec;rw[ints_append,List.length_append];exact h
theorem take_snoc {l:List Int} {i:Nat} {z:Int} (h:l[i]? =some z):l.take (i+1)=l.take i++[z]:=by
 rw[List.take_add_one,h];rfl
set_option maxHeartbeats 2000000 in
theorem rjoinRow_fn (G:Gh) (A B:Option Addr) (ca cb:Nat) (l m:List Int) (ha:Sl (Kd.int .i64) G A l) (hb:Sl (Kd.int .i64) G B m) (hl:l.length≤1000000000) (hlm:l.length=m.length):
  Fn Tryz.prog 201 #[.slice A l.length ca, .slice B m.length cb] G [] fun e G' H'=>∃A' cap',e= .returned (.slice A' (joinRow l m).length cap')∧G.le G'∧(joinRow l m).length≤cap'∧Sl (Kd.int .i64) G' A' (joinRow l m)∧H'=[]:=by
 have hjl:=joinRow_length hlm
 refine Fn.enter Tryz.func201 rfl rfl fun w0=>?_
 refine gom ?_
 refine WC.nothing ?_
 refine WC.loop (X:=Nat×List Int×Option Addr×Nat×Own) (fun t=>[(0, .slice A l.length ca),(1, .slice B m.length cb),(5, .slice t.2.2.1 t.2.1.length t.2.2.2.1),(6, .int .i64 (t.1:Int))]) (fun _=>G) (fun t=>[t.2.2.2.2]) (fun t=>l.length - t.1)
  (fun t=>t.1≤l.length∧t.2.1=(joinRow l m).take t.1∧TVec t.2.2.1 t.2.1 t.2.2.2.1 t.2.2.2.2) (0,[],none,0, .spare 0 0 0)
  ⟨Nat.zero_le _,rfl,TVec.nil⟩ (by exact⟨rfl,rfl,rfl,rfl,trivial⟩) rfl (List.Sublist.refl _) fun t ht=>?_
 obtain⟨i,r,C,c,o⟩:=t
 obtain⟨hi,hr,hv⟩:=ht
 dsimp only at hi hr hv
 have x4:=wrapS i (by omega)
 by_cases hlt:i<l.length
 rotate_left
 ·have e2:decide ((i:Int)<(l.length:Int))=false:=decide_eq_false (by omega)
  have hre:r=joinRow l m:=by rw[hr,List.take_of_length_le (by omega)]
  subst hre
  refine gom ?_
  refine WC.frozenVec hv atA fun G2 h2 z2=>?_
  have hs:=IVec.sl z2
  have hcap:=hv.le
  refine WC.rt ?_
  exact QF.p1 (.inl rfl) rfl (.tmp rfl) (⟨C,c,rfl,h2,hcap,hs,rfl⟩)
 have e2:decide ((i:Int)<(l.length:Int))=true:=decide_eq_true (by omega)
 obtain⟨x,hx⟩:∃x,l[i]? =some x:=⟨_,List.getElem?_eq_getElem hlt⟩
 obtain⟨y,hy⟩:∃y,m[i]? =some y:=⟨_,List.getElem?_eq_getElem (by omega)⟩
 obtain⟨ab,ao,rfl,hca⟩:=ha.at hx
 obtain⟨bb,bo,rfl,hcb⟩:=hb.at hy
 have x0:(0:Int)≤i:=by omega
 have x2:(i:Int)<(l.length:Int):=by omega
 have x3:(i:Int)<(m.length:Int):=by omega
 have hjg:=joinRow_get hx hy
 have hrl:r.length=i:=by rw[hr,List.length_take];omega
 by_cases hxy:x=y
 ·have e3:(x==y)=true:=by simpa using hxy
  refine gom ?_
  refine WL.op kr (OW.buildSlice rfl kr kr (by rfl) rfl fun b27=>?_)
  refine WL.oo (OW.append rfl rfl kr kr hv atA (Rds.blk0 (cs:=[.int .i64 x]) .here rfl) rfl rfl (by first | omega | (dsimp only;omega)) (by first | omega | (dsimp only;omega)) rfl fun A3 c3 o3 hv3=>?_)
  have h3:=TVec.snoc hv3
  have hl3:r.length+1=(r++[x]).length:=by rw[List.length_append];rfl
  refine gom ?_
  refine WK.pick [o3] ?_
  exact WK.again (i+1,r++[x],A3,c3,o3) (by dsimp only;omega) ⟨by dsimp only;omega,by dsimp only;rw[take_snoc hjg,joinT,if_pos hxy,hr],h3⟩ (by exact⟨rfl,rfl,by show _=some (Value.slice A3 _ c3);rw[←hl3];rfl,rfl,trivial⟩) rfl (List.Sublist.refl _)
 ·have e3:(x==y)=false:=by simpa using hxy
  refine gom ?_
  refine WL.op kr (OW.buildSlice rfl kr kr (by rfl) rfl fun b30=>?_)
  refine WL.oo (OW.append rfl rfl kr kr hv atA (Rds.blk0 (cs:=[.int .i64 0]) .here rfl) rfl rfl (by first | omega | (dsimp only;omega)) (by first | omega | (dsimp only;omega)) rfl fun A3 c3 o3 hv3=>?_)
  have h3:=TVec.snoc hv3
  have hl3:r.length+1=(r++[0]).length:=by rw[List.length_append];rfl
  refine gom ?_
  refine WK.pick [o3] ?_
  exact WK.again (i+1,r++[0],A3,c3,o3) (by dsimp only;omega) ⟨by dsimp only;omega,by dsimp only;rw[take_snoc hjg,joinT,if_neg hxy,hr],h3⟩ (by exact⟨rfl,rfl,by show _=some (Value.slice A3 _ c3);rw[←hl3];rfl,rfl,trivial⟩) rfl (List.Sublist.refl _)
theorem ralike_fn (G:Gh) (a b:SS) (VA VB:Option Addr) (va vb:Nat) (SA SB:Option Addr) (sa sb:Nat) (ha:SRep G a VA va SA sa) (hb:SRep G b VB vb SB sb) (hv:a.vars.length≤1000000000) (hs:a.stack.length≤1000000000):
  Fn Tryz.prog 176 #[rsV a VA va SA sa,rsV b VB vb SB sb] G [] fun e G' H'=>e= .returned (.bool (decide (a=b)))∧G=G'∧H'=[]:=by
 refine Fn.enter Tryz.func176 rfl rfl fun w0=>?_
 refine WC.seq ?_
 refine WC.region ?_
 refine WL.oo (OW.box rfl rfl fun b1=>?_)
 refine WL.oo (OW.box rfl rfl fun b2=>?_)
 obtain⟨ar,au,avs,ast⟩:=a
 obtain⟨br,bu,bvs,bst⟩:=b
 dsimp only at hv hs
 cases hr:(ar==br)with
 | false=>
  have e1:decide ((⟨ar,au,avs,ast⟩:SS)=⟨br,bu,bvs,bst⟩)=false:=decide_eq_false (by intro e;cases e;simp at hr)
  rw[e1]
  refine gom ?_
  rw[hr]
  refine gom ?_
  refine WC.rt ?_
  exact QF.p1 (.inl rfl) rfl (.tmp rfl) (⟨rfl,rfl,rfl⟩)
 | true=>
 cases hu:(au==bu)with
 | false=>
  have e1:decide ((⟨ar,au,avs,ast⟩:SS)=⟨br,bu,bvs,bst⟩)=false:=decide_eq_false (by intro e;cases e;simp at hu)
  rw[e1]
  refine gom ?_
  rw[hr]
  refine gom ?_
  rw[hu]
  refine gom ?_
  refine WC.rt ?_
  exact QF.p1 (.inl rfl) rfl (.tmp rfl) (⟨rfl,rfl,rfl⟩)
 | true=>
 refine gom ?_
 rw[hr]
 refine gom ?_
 rw[hu]
 refine gom ?_
 refine WL.oo (OW.callK rfl (rsame_fn G VA VB avs bvs va vb ha.vars hb.vars (by omega)) rfl fun v' G' H' h hg=>?_)
 obtain⟨he,rfl,rfl⟩:=h
 cases he
 by_cases hv2:avs=bvs
 rotate_left
 ·have e1:decide ((⟨ar,au,avs,ast⟩:SS)=⟨br,bu,bvs,bst⟩)=false:=decide_eq_false (by intro e;cases e;exact hv2 rfl)
  have e2:decide (avs=bvs)=false:=decide_eq_false hv2
  rw[e1,e2]
  refine gom ?_
  refine WC.rt ?_
  exact QF.p1 (.inl rfl) rfl (.tmp rfl) (⟨rfl,rfl,rfl⟩)
 have e2:decide (avs=bvs)=true:=decide_eq_true hv2
 rw[e2]
 refine gom ?_
 refine WL.oo (OW.callK rfl (rsame_fn G SA SB ast bst sa sb ha.stack hb.stack (by omega)) rfl fun v' G' H' h hg=>?_)
 obtain⟨he,rfl,rfl⟩:=h
 cases he
 have e1:decide ((⟨ar,au,avs,ast⟩:SS)=⟨br,bu,bvs,bst⟩)=decide (ast=bst):=by
  simp only[beq_iff_eq]at hr hu
  subst hr hu hv2
  by_cases h:ast=bst
  ·subst h;simp
  ·rw[decide_eq_false h,decide_eq_false (fun e=>h (by cases e;rfl))]
 rw[e1]
 refine gom ?_
 refine WC.rt ?_
 exact QF.p1 (.inl rfl) rfl (.tmp rfl) (⟨rfl,rfl,rfl⟩)
theorem rjoin_fn (G:Gh) (a b:SS) (VA VB:Option Addr) (va vb:Nat) (SA SB:Option Addr) (sa sb:Nat) (ha:SRep G a VA va SA sa) (hb:SRep G b VB vb SB sb) (hl:a.reached=true→b.reached=true→a.vars.length=b.vars.length) (hv:a.vars.length≤1000000000) (hs:a.stack.length≤1000000000):
  Fn Tryz.prog 175 #[rsV a VA va SA sa,rsV b VB vb SB sb] G [] fun e G' H'=>∃V' v' S' s',e= .returned (rsV (joinS a b) V' v' S' s')∧G.le G'∧SRep G' (joinS a b) V' v' S' s'∧H'=[]:=by
 refine Fn.enter Tryz.func175 rfl rfl fun w0=>?_
 refine WC.seq ?_
 refine WC.region ?_
 refine WL.oo (OW.box rfl rfl fun b1=>?_)
 refine WL.oo (OW.box rfl rfl fun b2=>?_)
 refine WL.oo (OW.alloc rfl fun b3=>?_)
 obtain⟨ar,au,av,ak⟩:=a
 obtain⟨br,bu,bv,bk⟩:=b
 dsimp only at hl hv hs
 cases ar with
 | false=>
  rw[show joinS ⟨false,au,av,ak⟩ ⟨br,bu,bv,bk⟩=⟨br,bu,bv,bk⟩from rfl]
  refine gom ?_
  refine WC.rt ?_
  exact QF.p1 (.inl rfl) rfl (.cell rfl inferInstance inferInstance atA rfl rfl) (⟨VB,vb,SB,sb,rfl,Gh.le_refl _,hb,rfl⟩)
 | true=>
 cases br with
 | false=>
  rw[show joinS ⟨true,au,av,ak⟩ ⟨false,bu,bv,bk⟩=⟨true,au,av,ak⟩from rfl]
  refine gom ?_
  refine WC.rt ?_
  exact QF.p1 (.inl rfl) rfl (.cell rfl inferInstance inferInstance atA rfl rfl) (⟨VA,va,SA,sa,rfl,Gh.le_refl _,ha,rfl⟩)
 | true=>
 have hlen:=hl rfl rfl
 refine gom ?_
 refine WL.oo (OW.callK rfl (rjoinRow_fn G VA VB va vb av bv ha.vars hb.vars hv hlen) rfl fun v' G' H' h hg=>?_)
 obtain⟨A1,cap1,he,hg1,hc1,hs1,rfl⟩:=h
 cases he
 refine WL.pick [.blk b1 (.cells #[.bool true, .slice VA av.length va, .bool au, .slice SA ak.length sa] 220 (0,0)), .blk b2 (.cells #[.bool true, .slice VB bv.length vb, .bool bu, .slice SB bk.length sb] 220 (0,0)), .blk b3 (.cells #[.bool false, .slice none 0 0, .bool false, .slice none 0 0] 220 (0,0))] ?_
 refine gom ?_
 refine WL.oo (OW.alloc rfl fun b6=>?_)
 by_cases hc:au=true∨bu=true∨ak.length≠bk.length
 ·rw [show joinS ⟨true,au,av,ak⟩ ⟨true,bu,bv,bk⟩=⟨true,true,joinRow av bv,[]⟩ by unfold joinS;rw[if_neg (by simp),if_neg (by simp),if_pos hc]]
  cases au with
  | true=>
   refine gom ?_
   refine WC.rt ?_
   exact QF.p1 (.inl rfl) rfl (.cell rfl inferInstance inferInstance atA rfl rfl) (⟨A1,cap1,none,0,rfl,hg1,⟨hc1,Nat.le_refl _,hs1,Sl.nil _ _ _⟩,rfl⟩)
  | false=>
  cases bu with
  | true=>
   refine gom ?_
   refine WC.rt ?_
   exact QF.p1 (.inl rfl) rfl (.cell rfl inferInstance inferInstance atA rfl rfl) (⟨A1,cap1,none,0,rfl,hg1,⟨hc1,Nat.le_refl _,hs1,Sl.nil _ _ _⟩,rfl⟩)
  | false=>
   have hne:((ak.length:Int) != (bk.length:Int))=true:=by
    rw[bne_iff_ne];simp at hc;omega
   refine gom ?_
   refine WC.rt ?_
   exact QF.p1 (.inl rfl) rfl (.cell rfl inferInstance inferInstance atA rfl rfl) (⟨A1,cap1,none,0,rfl,hg1,⟨hc1,Nat.le_refl _,hs1,Sl.nil _ _ _⟩,rfl⟩)
 ·have hua:au=false:=by cases h:au with | false=>rfl | true=>exact absurd (.inl h) hc
  have hub:bu=false:=by cases h:bu with | false=>rfl | true=>exact absurd (.inr (.inl h)) hc
  have hsl:ak.length=bk.length:=by apply Decidable.byContradiction;intro h;exact hc (.inr (.inr h))
  have hne:((ak.length:Int) != (bk.length:Int))=false:=by rw[hsl];simp
  rw[show joinS ⟨true,au,av,ak⟩ ⟨true,bu,bv,bk⟩=⟨true,false,joinRow av bv,joinRow ak bk⟩ by unfold joinS;rw[if_neg (by simp),if_neg (by simp),if_neg hc]]
  subst hua hub
  refine gom ?_
  refine WL.oo (OW.callK rfl (rjoinRow_fn _ SA SB sa sb ak bk (ha.stack.mono hg1) (hb.stack.mono hg1) hs hsl) rfl fun v' G' H' h hg=>?_)
  obtain⟨A2,cap2,he,hg2,hc2,hs2,rfl⟩:=h
  cases he
  refine gom ?_
  refine WC.rt ?_
  exact QF.p1 (.inl rfl) rfl (.cell rfl inferInstance inferInstance atA rfl rfl) (⟨A1,cap1,A2,cap2,rfl,Gh.le_trans hg1 hg2,⟨hc1,hc2,hs1.mono hg2,hs2⟩,rfl⟩)
def onwR (i:Int×Int) (k:Nat):List Int:=if i.1=5 then [i.2]else if i.1=6 then [(k:Int)+1,i.2]else if i.1=9∨i.1=10 then []else [(k:Int)+1]
theorem mem_onwR (i:Int×Int) (k:Nat) (x:Int):x∈onwR i k↔x∈nextR i k:=by
 unfold onwR nextR
 by_cases h5:i.1=5
 ·rw[if_pos h5,if_neg (by omega),if_pos h5]
 by_cases h6:i.1=6
 ·rw[if_neg h5,if_pos h6,if_neg (by omega),if_neg h5,if_pos h6];simp[or_comm]
 by_cases h9:i.1=9∨i.1=10
 ·rw[if_neg h5,if_neg h6,if_pos h9,if_pos h9]
 ·rw[if_neg h5,if_neg h6,if_neg h9,if_neg h9,if_neg h5,if_neg h6]
theorem ronwards_fn (G:Gh) (c n:Int) (k:Nat) (hk:k≤1000000000):
  Fn Tryz.prog 174 #[.agg #[.int .i64 c, .int .i64 n], .int .i64 k] G [] fun e G' H'=>∃A cap,e= .returned (.slice A (onwR (c,n) k).length cap)∧G.le G'∧Sl (Kd.int .i64) G' A (onwR (c,n) k)∧H'=[]:=by
 refine Fn.enter Tryz.func174 rfl rfl fun w0=>?_
 refine WC.seq ?_
 refine WC.region ?_
 refine WL.oo (OW.box rfl rfl fun b1=>?_)
 have x1:=wrapS k (by omega)
 have fin:∀ {b:Nat} {c:Array Value} {l:List Int},c=(ints l).toArray→Sl (Kd.int .i64) (G.add b c) (some ⟨b,0,none⟩) l:=fun {b c l} h=>IVec.sl (.inr ⟨b,rfl,fun j v e=>by
  rw[Nat.zero_add,Gh.add_at,h];simpa using e⟩)
 by_cases h5:c=5
 ·have e1:onwR (c,n) k=[n]:=by unfold onwR;rw[if_pos h5]
  rw[e1];subst h5
  refine gom ?_
  refine WL.op kr (OW.buildSlice rfl kr kr (by rfl) rfl fun b2=>?_)
  refine gom ?_
  refine WC.freeze (j:=0) .here fun hg=>?_
  refine WC.rt ?_
  exact QF.p1 (.inl rfl) rfl (.tmp rfl) (⟨some ⟨b2,0,none⟩,1,rfl,hg,fin rfl,rfl⟩)
 have y5:(c==5)=false:=by simpa using h5
 by_cases h6:c=6
 ·have e1:onwR (c,n) k=[(k:Int)+1,n]:=by unfold onwR;rw[if_neg h5,if_pos h6]
  rw[e1];subst h6
  refine gom ?_
  refine WL.op kr (OW.buildSlice rfl kr kr (by rfl) rfl fun b2=>?_)
  refine gom ?_
  refine WC.freeze (j:=0) .here fun hg=>?_
  refine WC.rt ?_
  exact QF.p1 (.inl rfl) rfl (.tmp rfl) (⟨some ⟨b2,0,none⟩,2,rfl,hg,fin rfl,rfl⟩)
 have y6:(c==6)=false:=by simpa using h6
 by_cases h9:c=9
 ·have e1:onwR (c,n) k=[]:=by unfold onwR;rw[if_neg h5,if_neg h6,if_pos (.inl h9)]
  rw[e1];subst h9
  refine gom ?_
  refine WC.rt ?_
  exact QF.p1 (.inl rfl) rfl (.tmp rfl) (⟨none,0,rfl,Gh.le_refl _,Sl.nil _ _ _,rfl⟩)
 by_cases h10:c=10
 ·have e1:onwR (c,n) k=[]:=by unfold onwR;rw[if_neg h5,if_neg h6,if_pos (.inr h10)]
  rw[e1];subst h10
  refine gom ?_
  refine WC.rt ?_
  exact QF.p1 (.inl rfl) rfl (.tmp rfl) (⟨none,0,rfl,Gh.le_refl _,Sl.nil _ _ _,rfl⟩)
 have y9:(c==9)=false:=by simpa using h9
 have y10:(c==10)=false:=by simpa using h10
 have e1:onwR (c,n) k=[(k:Int)+1]:=by unfold onwR;rw[if_neg h5,if_neg h6,if_neg (by simp[h9,h10])]
 rw[e1]
 refine gom ?_
 refine WL.op kr (OW.buildSlice rfl kr kr (by rfl) rfl fun b2=>?_)
 refine gom ?_
 refine WC.freeze (j:=0) .here fun hg=>?_
 refine WC.rt ?_
 exact QF.p1 (.inl rfl) rfl (.tmp rfl) (⟨some ⟨b2,0,none⟩,1,rfl,hg,fin rfl,rfl⟩)
end
section
open Go.MapKept
attribute [local irreducible] Tryz.prog
structure RWp (G:Gh) (w:Wd) (CA NA PA:Option Addr):Prop where
 consts:Sl Kd.val G CA w.consts
 needs:Sl Kd.ned G NA w.needs
 procs:Sl Kd.prc G PA w.procs
 cl:w.consts.length≤100000000000000
 nl:w.needs.length≤100000000000000
 pl:w.procs.length≤100000000000000
 np:∀q∈w.needs,q.params.length≤100000000000000
 pp:∀q∈w.procs,q.params.length≤100000000000000
theorem RWp.mono {G G':Gh} {w:Wd} {CA NA PA:Option Addr} (h:RWp G w CA NA PA) (hg:G.le G'):RWp G' w CA NA PA:=
 ⟨h.consts.mono hg,h.needs.mono hg,h.procs.mono hg,h.cl,h.nl,h.pl,h.np,h.pp⟩
abbrev wdC (w:Wd) (CA NA PA:Option Addr) (cc nc pc:Nat):Array Value:= #[.slice CA w.consts.length cc, .slice NA w.needs.length nc, .slice PA w.procs.length pc]
theorem RWp.takes {G:Gh} {w:Wd} {CA NA PA:Option Addr} {cc nc pc:Nat} (h:RWp G w CA NA PA) (vars:List Int) (i:Int×Int):(effC w vars i).1≤100000000000000:=by
 unfold effC
 have h2:=rowC_takes i.1
 split
 ·simp
 split
 ·simp
 split
 ·cases hq:w.procs[i.2.toNat]? with
  | none=>simp
  | some p=>exact h.pp p (List.mem_of_getElem? hq)
 split
 ·cases hq:w.needs[i.2.toNat]? with
  | none=>simp
  | some p=>exact h.np p (List.mem_of_getElem? hq)
 split
 ·simp
 split
 ·simp
 split
 ·simp
 split<;>simp<;>omega
def limR (w:Wd) (p:Pr) (c:Int):Int:=if c=1 then(w.consts.length:Int)else if c=2∨c=3 then p.locals else if c=7 then(w.procs.length:Int)else if c=8 then(w.needs.length:Int)else(p.code.length:Int)
def itsR (w:Wd) (p:Pr) (c n:Int):Int:=if mayR c n=false then 180 else if(rowC c).n=true∧limR w p c≤n then(if c=5∨c=6 then 182 else 180)else 0
theorem itsR_eq {w:Wd} {p:Pr} (h:p.code.length≤16384) (c n:Int):itsR w p c n=aloneR w p (c,n):=by
 unfold itsR aloneR limR
 cases hm:mayR c n with
 | false=>rfl
 | true=>
  have hm':¬(true=false):=by simp
  rw[if_neg hm',if_neg hm']
  have hmm:=hm
  unfold mayR at hmm
  simp only[Bool.and_eq_true,Bool.or_eq_true,decide_eq_true_eq]at hmm
  obtain⟨_,h0,h1,h2⟩:=hmm
  dsimp only
  rw[←numbR_row]at h2⊢
  by_cases c1:c=1
  ·subst c1;simp[numbR]
  by_cases c2:c=2
  ·subst c2;simp[numbR]
  by_cases c3:c=3
  ·subst c3;simp[numbR]
  by_cases c7:c=7
  ·subst c7;simp[numbR]
  by_cases c8:c=8
  ·subst c8;simp[numbR]
  by_cases c5:c=5
  ·subst c5
   by_cases hn:(p.code.length:Int)≤n
   ·simp[numbR,hn]
   ·simp[numbR,hn];omega
  by_cases c6:c=6
  ·subst c6
   by_cases hn:(p.code.length:Int)≤n
   ·simp[numbR,hn]
   ·simp[numbR,hn];omega
  have hn:numbR c=false:=by unfold numbR;simp[c1,c2,c3,c5,c6,c7,c8]
  rw[hn]at h2⊢
  have hn0:n=0:=by simpa using h2
  subst hn0
  simp[c1,c2,c3,c5,c6,c7,c8]
set_option maxHeartbeats 2000000 in
theorem ritself_fn (G:Gh) (w:Wd) (p:Pr) (CA NA PA:Option Addr) (cc nc pc:Nat) (QA IA:Option Addr) (qc ic:Nat) (c n:Int):
  Fn Tryz.prog 147 #[.agg (wdC w CA NA PA cc nc pc), .agg (prC p QA qc IA ic), .agg #[.int .i64 c, .int .i64 n]] G [] fun e G' H'=>e= .returned (.int .i64 (itsR w p c n))∧G=G'∧H'=[]:=by
 refine Fn.enter Tryz.func147 rfl rfl fun w0=>?_
 refine WC.seq ?_
 refine WC.region ?_
 refine WL.oo (OW.box rfl rfl fun b1=>?_)
 refine WL.oo (OW.box rfl rfl fun b2=>?_)
 refine WL.oo (OW.box rfl rfl fun b3=>?_)
 refine gom ?_
 refine WL.oo (OW.callK rfl (lone_fn G c n) rfl fun v' G' H' h hg=>?_)
 obtain⟨he,rfl,rfl⟩:=h
 cases he
 cases hm:mayR c n with
 | false=>
  have he:itsR w p c n=180:=by unfold itsR;rw[if_pos hm]
  rw[he]
  refine gom ?_
  refine WC.rt ?_
  exact QF.p1 (.inl rfl) rfl (.tmp rfl) (⟨rfl,rfl,rfl⟩)
 | true=>
 have hm':¬(mayR c n=false):=by rw[hm];simp
 refine WL.pick [.blk b1 (.cells (wdC w CA NA PA cc nc pc) 162 (0,0)), .blk b2 (.cells (prC p QA qc IA ic) 47 (0,0)), .blk b3 (.cells #[.int .i64 c, .int .i64 n] 50 (0,0))] ?_
 by_cases c1:c=1
 ·subst c1
  have hr:(rowC 1).n=true:=rfl
  by_cases hq:(w.consts.length:Int)≤n
  ·have z2:decide ((w.consts.length:Int)≤n)=true:=decide_eq_true hq
   have he:itsR w p 1 n=180:=by unfold itsR limR;rw[if_neg hm',if_pos ⟨hr,by simpa using hq⟩];rfl
   rw[he]
   refine gom ?_
   refine WL.oo (OW.callK rfl (numb_fn G [] 1) rfl fun v' G' H' h hg=>?_)
   obtain⟨he2,rfl,rfl⟩:=h
   cases he2
   rw[hr]
   refine gom ?_
   refine WC.rt ?_
   exact QF.p1 (.inl rfl) rfl (.tmp rfl) (⟨rfl,rfl,rfl⟩)
  ·have z2:decide ((w.consts.length:Int)≤n)=false:=decide_eq_false hq
   have he:itsR w p 1 n=0:=by unfold itsR limR;rw[if_neg hm',if_neg (fun h=>hq (by simpa using h.2))]
   rw[he]
   refine gom ?_
   refine WL.oo (OW.callK rfl (numb_fn G [] 1) rfl fun v' G' H' h hg=>?_)
   obtain⟨he2,rfl,rfl⟩:=h
   cases he2
   rw[hr]
   refine gom ?_
   refine WC.rt ?_
   exact QF.p1 (.inl rfl) rfl (.tmp rfl) (⟨rfl,rfl,rfl⟩)
 have y1:(c==1)=false:=by simpa using c1
 by_cases c2:c=2
 ·subst c2
  have hr:(rowC 2).n=true:=rfl
  by_cases hq:p.locals≤n
  ·have z2:decide (p.locals≤n)=true:=decide_eq_true hq
   have he:itsR w p 2 n=180:=by unfold itsR limR;rw[if_neg hm',if_pos ⟨hr,by simpa using hq⟩];rfl
   rw[he]
   refine gom ?_
   refine WL.oo (OW.callK rfl (numb_fn G [] 2) rfl fun v' G' H' h hg=>?_)
   obtain⟨he2,rfl,rfl⟩:=h
   cases he2
   rw[hr]
   refine gom ?_
   refine WC.rt ?_
   exact QF.p1 (.inl rfl) rfl (.tmp rfl) (⟨rfl,rfl,rfl⟩)
  ·have z2:decide (p.locals≤n)=false:=decide_eq_false hq
   have he:itsR w p 2 n=0:=by unfold itsR limR;rw[if_neg hm',if_neg (fun h=>hq (by simpa using h.2))]
   rw[he]
   refine gom ?_
   refine WL.oo (OW.callK rfl (numb_fn G [] 2) rfl fun v' G' H' h hg=>?_)
   obtain⟨he2,rfl,rfl⟩:=h
   cases he2
   rw[hr]
   refine gom ?_
   refine WC.rt ?_
   exact QF.p1 (.inl rfl) rfl (.tmp rfl) (⟨rfl,rfl,rfl⟩)
 have y2:(c==2)=false:=by simpa using c2
 by_cases c3:c=3
 ·subst c3
  have hr:(rowC 3).n=true:=rfl
  by_cases hq:p.locals≤n
  ·have z2:decide (p.locals≤n)=true:=decide_eq_true hq
   have he:itsR w p 3 n=180:=by unfold itsR limR;rw[if_neg hm',if_pos ⟨hr,by simpa using hq⟩];rfl
   rw[he]
   refine gom ?_
   refine WL.oo (OW.callK rfl (numb_fn G [] 3) rfl fun v' G' H' h hg=>?_)
   obtain⟨he2,rfl,rfl⟩:=h
   cases he2
   rw[hr]
   refine gom ?_
   refine WC.rt ?_
   exact QF.p1 (.inl rfl) rfl (.tmp rfl) (⟨rfl,rfl,rfl⟩)
  ·have z2:decide (p.locals≤n)=false:=decide_eq_false hq
   have he:itsR w p 3 n=0:=by unfold itsR limR;rw[if_neg hm',if_neg (fun h=>hq (by simpa using h.2))]
   rw[he]
   refine gom ?_
   refine WL.oo (OW.callK rfl (numb_fn G [] 3) rfl fun v' G' H' h hg=>?_)
   obtain⟨he2,rfl,rfl⟩:=h
   cases he2
   rw[hr]
   refine gom ?_
   refine WC.rt ?_
   exact QF.p1 (.inl rfl) rfl (.tmp rfl) (⟨rfl,rfl,rfl⟩)
 have y3:(c==3)=false:=by simpa using c3
 by_cases c7:c=7
 ·subst c7
  have hr:(rowC 7).n=true:=rfl
  by_cases hq:(w.procs.length:Int)≤n
  ·have z2:decide ((w.procs.length:Int)≤n)=true:=decide_eq_true hq
   have he:itsR w p 7 n=180:=by unfold itsR limR;rw[if_neg hm',if_pos ⟨hr,by simpa using hq⟩];rfl
   rw[he]
   refine gom ?_
   refine WL.oo (OW.callK rfl (numb_fn G [] 7) rfl fun v' G' H' h hg=>?_)
   obtain⟨he2,rfl,rfl⟩:=h
   cases he2
   rw[hr]
   refine gom ?_
   refine WC.rt ?_
   exact QF.p1 (.inl rfl) rfl (.tmp rfl) (⟨rfl,rfl,rfl⟩)
  ·have z2:decide ((w.procs.length:Int)≤n)=false:=decide_eq_false hq
   have he:itsR w p 7 n=0:=by unfold itsR limR;rw[if_neg hm',if_neg (fun h=>hq (by simpa using h.2))]
   rw[he]
   refine gom ?_
   refine WL.oo (OW.callK rfl (numb_fn G [] 7) rfl fun v' G' H' h hg=>?_)
   obtain⟨he2,rfl,rfl⟩:=h
   cases he2
   rw[hr]
   refine gom ?_
   refine WC.rt ?_
   exact QF.p1 (.inl rfl) rfl (.tmp rfl) (⟨rfl,rfl,rfl⟩)
 have y7:(c==7)=false:=by simpa using c7
 by_cases c8:c=8
 ·subst c8
  have hr:(rowC 8).n=true:=rfl
  by_cases hq:(w.needs.length:Int)≤n
  ·have z2:decide ((w.needs.length:Int)≤n)=true:=decide_eq_true hq
   have he:itsR w p 8 n=180:=by unfold itsR limR;rw[if_neg hm',if_pos ⟨hr,by simpa using hq⟩];rfl
   rw[he]
   refine gom ?_
   refine WL.oo (OW.callK rfl (numb_fn G [] 8) rfl fun v' G' H' h hg=>?_)
   obtain⟨he2,rfl,rfl⟩:=h
   cases he2
   rw[hr]
   refine gom ?_
   refine WC.rt ?_
   exact QF.p1 (.inl rfl) rfl (.tmp rfl) (⟨rfl,rfl,rfl⟩)
  ·have z2:decide ((w.needs.length:Int)≤n)=false:=decide_eq_false hq
   have he:itsR w p 8 n=0:=by unfold itsR limR;rw[if_neg hm',if_neg (fun h=>hq (by simpa using h.2))]
   rw[he]
   refine gom ?_
   refine WL.oo (OW.callK rfl (numb_fn G [] 8) rfl fun v' G' H' h hg=>?_)
   obtain⟨he2,rfl,rfl⟩:=h
   cases he2
   rw[hr]
   refine gom ?_
   refine WC.rt ?_
   exact QF.p1 (.inl rfl) rfl (.tmp rfl) (⟨rfl,rfl,rfl⟩)
 have y8:(c==8)=false:=by simpa using c8
 by_cases c5:c=5
 ·subst c5
  have hr:(rowC 5).n=true:=rfl
  by_cases hq:(p.code.length:Int)≤n
  ·have z2:decide ((p.code.length:Int)≤n)=true:=decide_eq_true hq
   have he:itsR w p 5 n=182:=by unfold itsR limR;rw[if_neg hm',if_pos ⟨hr,by simpa using hq⟩];rfl
   rw[he]
   refine gom ?_
   refine WL.oo (OW.callK rfl (numb_fn G [] 5) rfl fun v' G' H' h hg=>?_)
   obtain⟨he2,rfl,rfl⟩:=h
   cases he2
   rw[hr]
   refine gom ?_
   refine WC.rt ?_
   exact QF.p1 (.inl rfl) rfl (.tmp rfl) (⟨rfl,rfl,rfl⟩)
  ·have z2:decide ((p.code.length:Int)≤n)=false:=decide_eq_false hq
   have he:itsR w p 5 n=0:=by unfold itsR limR;rw[if_neg hm',if_neg (fun h=>hq (by simpa using h.2))]
   rw[he]
   refine gom ?_
   refine WL.oo (OW.callK rfl (numb_fn G [] 5) rfl fun v' G' H' h hg=>?_)
   obtain⟨he2,rfl,rfl⟩:=h
   cases he2
   rw[hr]
   refine gom ?_
   refine WC.rt ?_
   exact QF.p1 (.inl rfl) rfl (.tmp rfl) (⟨rfl,rfl,rfl⟩)
 have y5:(c==5)=false:=by simpa using c5
 by_cases c6:c=6
 ·subst c6
  have hr:(rowC 6).n=true:=rfl
  by_cases hq:(p.code.length:Int)≤n
  ·have z2:decide ((p.code.length:Int)≤n)=true:=decide_eq_true hq
   have he:itsR w p 6 n=182:=by unfold itsR limR;rw[if_neg hm',if_pos ⟨hr,by simpa using hq⟩];rfl
   rw[he]
   refine gom ?_
   refine WL.oo (OW.callK rfl (numb_fn G [] 6) rfl fun v' G' H' h hg=>?_)
   obtain⟨he2,rfl,rfl⟩:=h
   cases he2
   rw[hr]
   refine gom ?_
   refine WC.rt ?_
   exact QF.p1 (.inl rfl) rfl (.tmp rfl) (⟨rfl,rfl,rfl⟩)
  ·have z2:decide ((p.code.length:Int)≤n)=false:=decide_eq_false hq
   have he:itsR w p 6 n=0:=by unfold itsR limR;rw[if_neg hm',if_neg (fun h=>hq (by simpa using h.2))]
   rw[he]
   refine gom ?_
   refine WL.oo (OW.callK rfl (numb_fn G [] 6) rfl fun v' G' H' h hg=>?_)
   obtain⟨he2,rfl,rfl⟩:=h
   cases he2
   rw[hr]
   refine gom ?_
   refine WC.rt ?_
   exact QF.p1 (.inl rfl) rfl (.tmp rfl) (⟨rfl,rfl,rfl⟩)
 have y6:(c==6)=false:=by simpa using c6
 have hr:(rowC c).n=false:=by rw[←numbR_row];unfold numbR;simp[c1,c2,c3,c5,c6,c7,c8]
 have he:itsR w p c n=0:=by unfold itsR;rw[if_neg hm',if_neg (fun h=>by rw[hr]at h;exact absurd h.1 (by simp))]
 rw[he]
 refine gom ?_
 refine WL.oo (OW.callK rfl (numb_fn G [] c) rfl fun v' G' H' h hg=>?_)
 obtain⟨he2,rfl,rfl⟩:=h
 cases he2
 rw[hr]
 refine gom ?_
 refine WC.rt ?_
 exact QF.p1 (.inl rfl) rfl (.tmp rfl) (⟨rfl,rfl,rfl⟩)
set_option maxHeartbeats 4000000 in
theorem reffect_fn (G:Gh) (w:Wd) (p:Pr) (CA NA PA:Option Addr) (cc nc pc:Nat) (hW:RWp G w CA NA PA) (QA IA:Option Addr) (qc ic:Nat) (VA:Option Addr) (sv:List Int) (vc:Nat) (hV:Sl (Kd.int .i64) G VA sv) (c:Int) (n:Nat) (ho:EOk w sv.length c n):
  Fn Tryz.prog 177 #[.agg (wdC w CA NA PA cc nc pc), .agg (prC p QA qc IA ic), .agg #[.int .i64 c, .int .i64 n], .slice VA sv.length vc] G []
   fun e G' H'=>∃A cap,e= .returned (.tuple #[.int .i64 (effC w sv (c,n)).1, .slice A (effC w sv (c,n)).2.length cap])∧G.le G'∧Sl (Kd.int .i64) G' A (effC w sv (c,n)).2∧H'=[]:=by
 obtain⟨ho1,ho2,ho3,ho7,ho8⟩:=ho
 refine Fn.enter Tryz.func177 rfl rfl fun w0=>?_
 refine WC.seq ?_
 refine WC.region ?_
 refine WL.oo (OW.box rfl rfl fun b1=>?_)
 refine WL.oo (OW.box rfl rfl fun b2=>?_)
 refine WL.oo (OW.box rfl rfl fun b3=>?_)
 by_cases h1:c=1
 ·subst h1
  obtain⟨v,hvv⟩:∃v,w.consts[n]? =some v:=⟨_,List.getElem?_eq_getElem (ho1 rfl)⟩
  obtain⟨cb,co,cs,rfl,hk,hcs⟩:=hW.consts n v hvv
  obtain rfl:cs=vcells v:=hk
  have x0:(0:Int)≤(n:Int):=by omega
  have x1:(n:Int)<(w.consts.length:Int):=by have:=ho1 rfl;omega
  have he1:effC w sv ((1:Int),(n:Int))=(0,[v.t]):=by unfold effC;simp[hvv]
  refine gom ?_
  refine WL.op kr (OW.buildSlice rfl kr kr (by rfl) rfl fun b4=>?_)
  refine WL.nothing ?_
  refine WL.oo (OW.append rfl rfl kr kr TVec.nil atA (Rds.blk0 (cs:=[.int .i64 v.t]) atA rfl) rfl rfl (by first | omega | (dsimp only;omega)) (by first | omega | (dsimp only;omega)) rfl fun A3 c3 o3 hv3=>?_)
  have h3:=TVec.snoc (l:=[]) hv3
  refine gom ?_
  refine WC.frozenVec h3 atA fun G2 h2 z2=>?_
  have hs2:=IVec.sl z2
  refine WC.rt ?_
  exact QF.p2 (.inl rfl) rfl (.tmp rfl) (.tmp rfl) (⟨A3,c3,by rw[he1];first | done | rfl,h2,by rw[he1];exact hs2,rfl⟩)
 have y1:(c==1)=false:=by simpa using h1
 by_cases h2:c=2
 ·subst h2
  obtain⟨v,hvv⟩:∃v,sv[n]? =some v:=⟨_,List.getElem?_eq_getElem (ho2 rfl)⟩
  obtain⟨cb,co,rfl,hcs⟩:=hV.at hvv
  have x0:(0:Int)≤(n:Int):=by omega
  have x1:(n:Int)<(sv.length:Int):=by have:=ho2 rfl;omega
  have he1:effC w sv ((2:Int),(n:Int))=(0,[v]):=by unfold effC;simp[hvv]
  refine gom ?_
  refine WL.op kr (OW.buildSlice rfl kr kr (by rfl) rfl fun b5=>?_)
  refine WL.nothing ?_
  refine WL.oo (OW.append rfl rfl kr kr TVec.nil atA (Rds.blk0 (cs:=[.int .i64 v]) atA rfl) rfl rfl (by first | omega | (dsimp only;omega)) (by first | omega | (dsimp only;omega)) rfl fun A3 c3 o3 hv3=>?_)
  have h3:=TVec.snoc (l:=[]) hv3
  refine gom ?_
  refine WC.frozenVec h3 atA fun G2 h2 z2=>?_
  have hs2:=IVec.sl z2
  refine WC.rt ?_
  exact QF.p2 (.inl rfl) rfl (.tmp rfl) (.tmp rfl) (⟨A3,c3,by rw[he1];first | done | rfl,h2,by rw[he1];exact hs2,rfl⟩)
 have y2:(c==2)=false:=by simpa using h2
 by_cases h3:c=3
 ·subst h3
  have he1:effC w sv ((3:Int),(n:Int))=(1,[]):=by unfold effC;simp[rowC,rowsC]
  refine gom ?_
  refine WC.rt ?_
  exact QF.p2 (.inl rfl) rfl (.tmp rfl) (.tmp rfl) (⟨none,0,by rw[he1];first | done | rfl,Gh.le_refl _,by rw[he1];exact Sl.nil _ _ _,rfl⟩)
 have y3:(c==3)=false:=by simpa using h3
 by_cases h4:c=4
 ·subst h4
  have he1:effC w sv ((4:Int),(n:Int))=(1,[]):=by unfold effC;simp[rowC,rowsC]
  refine gom ?_
  refine WC.rt ?_
  exact QF.p2 (.inl rfl) rfl (.tmp rfl) (.tmp rfl) (⟨none,0,by rw[he1];first | done | rfl,Gh.le_refl _,by rw[he1];exact Sl.nil _ _ _,rfl⟩)
 have y4:(c==4)=false:=by simpa using h4
 by_cases h6:c=6
 ·subst h6
  have he1:effC w sv ((6:Int),(n:Int))=(1,[]):=by unfold effC;simp[rowC,rowsC]
  refine gom ?_
  refine WC.rt ?_
  exact QF.p2 (.inl rfl) rfl (.tmp rfl) (.tmp rfl) (⟨none,0,by rw[he1];first | done | rfl,Gh.le_refl _,by rw[he1];exact Sl.nil _ _ _,rfl⟩)
 have y6:(c==6)=false:=by simpa using h6
 by_cases h10:c=10
 ·subst h10
  have he1:effC w sv ((10:Int),(n:Int))=(1,[]):=by unfold effC;simp[rowC,rowsC]
  refine gom ?_
  refine WC.rt ?_
  exact QF.p2 (.inl rfl) rfl (.tmp rfl) (.tmp rfl) (⟨none,0,by rw[he1];first | done | rfl,Gh.le_refl _,by rw[he1];exact Sl.nil _ _ _,rfl⟩)
 have y10:(c==10)=false:=by simpa using h10
 by_cases h11:c=11
 ·subst h11
  have he1:effC w sv ((11:Int),(n:Int))=(1,[]):=by unfold effC;simp[rowC,rowsC]
  refine gom ?_
  refine WC.rt ?_
  exact QF.p2 (.inl rfl) rfl (.tmp rfl) (.tmp rfl) (⟨none,0,by rw[he1];first | done | rfl,Gh.le_refl _,by rw[he1];exact Sl.nil _ _ _,rfl⟩)
 have y11:(c==11)=false:=by simpa using h11
 by_cases h7:c=7
 ·subst h7
  obtain⟨q,hq⟩:∃q,w.procs[n]? =some q:=⟨_,List.getElem?_eq_getElem (ho7 rfl)⟩
  obtain⟨cb,co,cs,rfl,hk,hcs⟩:=hW.procs n q hq
  obtain⟨PA2,pc2,CA2,cc2,rfl,hk1,hk2⟩:=hk
  have x0:(0:Int)≤(n:Int):=by omega
  have x1:(n:Int)<(w.procs.length:Int):=by have:=ho7 rfl;omega
  have he1:effC w sv ((7:Int),(n:Int))=(q.params.length,if q.result=0 then []else [q.result]):=by unfold effC;simp[hq,hdE]
  by_cases hr:q.result=0
  ·have e4:(q.result != 0)=false:=by simpa using hr
   rw[if_pos hr]at he1
   refine gom ?_
   refine WC.rt ?_
   exact QF.p2 (.inl rfl) rfl (.tmp rfl) (.tmp rfl) (⟨none,0,by rw[he1];first | done | rfl,Gh.le_refl _,by rw[he1];exact Sl.nil _ _ _,rfl⟩)
  ·have e4:(q.result != 0)=true:=by simpa using hr
   rw[if_neg hr]at he1
   refine gom ?_
   refine WL.op kr (OW.buildSlice rfl kr kr (by rfl) rfl fun b6=>?_)
   refine WL.nothing ?_
   refine WL.oo (OW.append rfl rfl kr kr TVec.nil atA (Rds.blk0 (cs:=[.int .i64 q.result]) atA rfl) rfl rfl (by first | omega | (dsimp only;omega)) (by first | omega | (dsimp only;omega)) rfl fun A3 c3 o3 hv3=>?_)
   have h3:=TVec.snoc (l:=[]) hv3
   refine gom ?_
   refine WC.frozenVec h3 atA fun G2 h2 z2=>?_
   have hs2:=IVec.sl z2
   refine WC.rt ?_
   exact QF.p2 (.inl rfl) rfl (.tmp rfl) (.tmp rfl) (⟨A3,c3,by rw[he1];first | done | rfl,h2,by rw[he1];exact hs2,rfl⟩)
 have y7:(c==7)=false:=by simpa using h7
 by_cases h8:c=8
 ·subst h8
  obtain⟨q,hq⟩:∃q,w.needs[n]? =some q:=⟨_,List.getElem?_eq_getElem (ho8 rfl)⟩
  obtain⟨cb,co,cs,rfl,hk,hcs⟩:=hW.needs n q hq
  obtain⟨PA2,pc2,rfl,hk1⟩:=hk
  have x0:(0:Int)≤(n:Int):=by omega
  have x1:(n:Int)<(w.needs.length:Int):=by have:=ho8 rfl;omega
  have he1:effC w sv ((8:Int),(n:Int))=(q.params.length,if q.result=0 then []else [q.result]):=by unfold effC;simp[hq,hdE]
  by_cases hr:q.result=0
  ·have e4:(q.result != 0)=false:=by simpa using hr
   rw[if_pos hr]at he1
   refine gom ?_
   refine WC.rt ?_
   exact QF.p2 (.inl rfl) rfl (.tmp rfl) (.tmp rfl) (⟨none,0,by rw[he1];first | done | rfl,Gh.le_refl _,by rw[he1];exact Sl.nil _ _ _,rfl⟩)
  ·have e4:(q.result != 0)=true:=by simpa using hr
   rw[if_neg hr]at he1
   refine gom ?_
   refine WL.op kr (OW.buildSlice rfl kr kr (by rfl) rfl fun b7=>?_)
   refine WL.nothing ?_
   refine WL.oo (OW.append rfl rfl kr kr TVec.nil atA (Rds.blk0 (cs:=[.int .i64 q.result]) atA rfl) rfl rfl (by first | omega | (dsimp only;omega)) (by first | omega | (dsimp only;omega)) rfl fun A3 c3 o3 hv3=>?_)
   have h3:=TVec.snoc (l:=[]) hv3
   refine gom ?_
   refine WC.frozenVec h3 atA fun G2 h2 z2=>?_
   have hs2:=IVec.sl z2
   refine WC.rt ?_
   exact QF.p2 (.inl rfl) rfl (.tmp rfl) (.tmp rfl) (⟨A3,c3,by rw[he1];first | done | rfl,h2,by rw[he1];exact hs2,rfl⟩)
 have y8:(c==8)=false:=by simpa using h8
 by_cases h12:c=12
 ·subst h12
  have he1:effC w sv ((12:Int),(n:Int))=(2,[2]):=by unfold effC;simp[rowC,rowsC]
  refine gom ?_
  refine WL.op kr (OW.buildSlice rfl kr kr (by rfl) rfl fun b8=>?_)
  refine WL.nothing ?_
  refine WL.oo (OW.append rfl rfl kr kr TVec.nil atA (Rds.blk0 (cs:=[.int .i64 2]) atA rfl) rfl rfl (by first | omega | (dsimp only;omega)) (by first | omega | (dsimp only;omega)) rfl fun A3 c3 o3 hv3=>?_)
  have h3:=TVec.snoc (l:=[]) hv3
  refine gom ?_
  refine WC.frozenVec h3 atA fun G2 h2 z2=>?_
  have hs2:=IVec.sl z2
  refine WC.rt ?_
  exact QF.p2 (.inl rfl) rfl (.tmp rfl) (.tmp rfl) (⟨A3,c3,by rw[he1];first | done | rfl,h2,by rw[he1];exact hs2,rfl⟩)
 have y12:(c==12)=false:=by simpa using h12
 by_cases h13:c=13
 ·subst h13
  have he1:effC w sv ((13:Int),(n:Int))=(2,[2]):=by unfold effC;simp[rowC,rowsC]
  refine gom ?_
  refine WL.op kr (OW.buildSlice rfl kr kr (by rfl) rfl fun b8=>?_)
  refine WL.nothing ?_
  refine WL.oo (OW.append rfl rfl kr kr TVec.nil atA (Rds.blk0 (cs:=[.int .i64 2]) atA rfl) rfl rfl (by first | omega | (dsimp only;omega)) (by first | omega | (dsimp only;omega)) rfl fun A3 c3 o3 hv3=>?_)
  have h3:=TVec.snoc (l:=[]) hv3
  refine gom ?_
  refine WC.frozenVec h3 atA fun G2 h2 z2=>?_
  have hs2:=IVec.sl z2
  refine WC.rt ?_
  exact QF.p2 (.inl rfl) rfl (.tmp rfl) (.tmp rfl) (⟨A3,c3,by rw[he1];first | done | rfl,h2,by rw[he1];exact hs2,rfl⟩)
 have y13:(c==13)=false:=by simpa using h13
 by_cases h14:c=14
 ·subst h14
  have he1:effC w sv ((14:Int),(n:Int))=(2,[2]):=by unfold effC;simp[rowC,rowsC]
  refine gom ?_
  refine WL.op kr (OW.buildSlice rfl kr kr (by rfl) rfl fun b8=>?_)
  refine WL.nothing ?_
  refine WL.oo (OW.append rfl rfl kr kr TVec.nil atA (Rds.blk0 (cs:=[.int .i64 2]) atA rfl) rfl rfl (by first | omega | (dsimp only;omega)) (by first | omega | (dsimp only;omega)) rfl fun A3 c3 o3 hv3=>?_)
  have h3:=TVec.snoc (l:=[]) hv3
  refine gom ?_
  refine WC.frozenVec h3 atA fun G2 h2 z2=>?_
  have hs2:=IVec.sl z2
  refine WC.rt ?_
  exact QF.p2 (.inl rfl) rfl (.tmp rfl) (.tmp rfl) (⟨A3,c3,by rw[he1];first | done | rfl,h2,by rw[he1];exact hs2,rfl⟩)
 have y14:(c==14)=false:=by simpa using h14
 by_cases h15:c=15
 ·subst h15
  have he1:effC w sv ((15:Int),(n:Int))=(2,[2]):=by unfold effC;simp[rowC,rowsC]
  refine gom ?_
  refine WL.op kr (OW.buildSlice rfl kr kr (by rfl) rfl fun b8=>?_)
  refine WL.nothing ?_
  refine WL.oo (OW.append rfl rfl kr kr TVec.nil atA (Rds.blk0 (cs:=[.int .i64 2]) atA rfl) rfl rfl (by first | omega | (dsimp only;omega)) (by first | omega | (dsimp only;omega)) rfl fun A3 c3 o3 hv3=>?_)
  have h3:=TVec.snoc (l:=[]) hv3
  refine gom ?_
  refine WC.frozenVec h3 atA fun G2 h2 z2=>?_
  have hs2:=IVec.sl z2
  refine WC.rt ?_
  exact QF.p2 (.inl rfl) rfl (.tmp rfl) (.tmp rfl) (⟨A3,c3,by rw[he1];first | done | rfl,h2,by rw[he1];exact hs2,rfl⟩)
 have y15:(c==15)=false:=by simpa using h15
 by_cases h16:c=16
 ·subst h16
  have he1:effC w sv ((16:Int),(n:Int))=(2,[2]):=by unfold effC;simp[rowC,rowsC]
  refine gom ?_
  refine WL.op kr (OW.buildSlice rfl kr kr (by rfl) rfl fun b8=>?_)
  refine WL.nothing ?_
  refine WL.oo (OW.append rfl rfl kr kr TVec.nil atA (Rds.blk0 (cs:=[.int .i64 2]) atA rfl) rfl rfl (by first | omega | (dsimp only;omega)) (by first | omega | (dsimp only;omega)) rfl fun A3 c3 o3 hv3=>?_)
  have h3:=TVec.snoc (l:=[]) hv3
  refine gom ?_
  refine WC.frozenVec h3 atA fun G2 h2 z2=>?_
  have hs2:=IVec.sl z2
  refine WC.rt ?_
  exact QF.p2 (.inl rfl) rfl (.tmp rfl) (.tmp rfl) (⟨A3,c3,by rw[he1];first | done | rfl,h2,by rw[he1];exact hs2,rfl⟩)
 have y16:(c==16)=false:=by simpa using h16
 by_cases h17:c=17
 ·subst h17
  have he1:effC w sv ((17:Int),(n:Int))=(2,[2]):=by unfold effC;simp[rowC,rowsC]
  refine gom ?_
  refine WL.op kr (OW.buildSlice rfl kr kr (by rfl) rfl fun b8=>?_)
  refine WL.nothing ?_
  refine WL.oo (OW.append rfl rfl kr kr TVec.nil atA (Rds.blk0 (cs:=[.int .i64 2]) atA rfl) rfl rfl (by first | omega | (dsimp only;omega)) (by first | omega | (dsimp only;omega)) rfl fun A3 c3 o3 hv3=>?_)
  have h3:=TVec.snoc (l:=[]) hv3
  refine gom ?_
  refine WC.frozenVec h3 atA fun G2 h2 z2=>?_
  have hs2:=IVec.sl z2
  refine WC.rt ?_
  exact QF.p2 (.inl rfl) rfl (.tmp rfl) (.tmp rfl) (⟨A3,c3,by rw[he1];first | done | rfl,h2,by rw[he1];exact hs2,rfl⟩)
 have y17:(c==17)=false:=by simpa using h17
 by_cases h20:c=20
 ·subst h20
  have he1:effC w sv ((20:Int),(n:Int))=(2,[3]):=by unfold effC;simp[rowC,rowsC]
  refine gom ?_
  refine WL.op kr (OW.buildSlice rfl kr kr (by rfl) rfl fun b9=>?_)
  refine WL.nothing ?_
  refine WL.oo (OW.append rfl rfl kr kr TVec.nil atA (Rds.blk0 (cs:=[.int .i64 3]) atA rfl) rfl rfl (by first | omega | (dsimp only;omega)) (by first | omega | (dsimp only;omega)) rfl fun A3 c3 o3 hv3=>?_)
  have h3:=TVec.snoc (l:=[]) hv3
  refine gom ?_
  refine WC.frozenVec h3 atA fun G2 h2 z2=>?_
  have hs2:=IVec.sl z2
  refine WC.rt ?_
  exact QF.p2 (.inl rfl) rfl (.tmp rfl) (.tmp rfl) (⟨A3,c3,by rw[he1];first | done | rfl,h2,by rw[he1];exact hs2,rfl⟩)
 have y20:(c==20)=false:=by simpa using h20
 by_cases h18:c=18
 ·subst h18
  have he1:effC w sv ((18:Int),(n:Int))=(2,[1]):=by unfold effC;simp[rowC,rowsC]
  refine gom ?_
  refine WL.op kr (OW.buildSlice rfl kr kr (by rfl) rfl fun b10=>?_)
  refine WL.nothing ?_
  refine WL.oo (OW.append rfl rfl kr kr TVec.nil atA (Rds.blk0 (cs:=[.int .i64 1]) atA rfl) rfl rfl (by first | omega | (dsimp only;omega)) (by first | omega | (dsimp only;omega)) rfl fun A3 c3 o3 hv3=>?_)
  have h3:=TVec.snoc (l:=[]) hv3
  refine gom ?_
  refine WC.frozenVec h3 atA fun G2 h2 z2=>?_
  have hs2:=IVec.sl z2
  refine WC.rt ?_
  exact QF.p2 (.inl rfl) rfl (.tmp rfl) (.tmp rfl) (⟨A3,c3,by rw[he1];first | done | rfl,h2,by rw[he1];exact hs2,rfl⟩)
 have y18:(c==18)=false:=by simpa using h18
 by_cases h19:c=19
 ·subst h19
  have he1:effC w sv ((19:Int),(n:Int))=(2,[1]):=by unfold effC;simp[rowC,rowsC]
  refine gom ?_
  refine WL.op kr (OW.buildSlice rfl kr kr (by rfl) rfl fun b10=>?_)
  refine WL.nothing ?_
  refine WL.oo (OW.append rfl rfl kr kr TVec.nil atA (Rds.blk0 (cs:=[.int .i64 1]) atA rfl) rfl rfl (by first | omega | (dsimp only;omega)) (by first | omega | (dsimp only;omega)) rfl fun A3 c3 o3 hv3=>?_)
  have h3:=TVec.snoc (l:=[]) hv3
  refine gom ?_
  refine WC.frozenVec h3 atA fun G2 h2 z2=>?_
  have hs2:=IVec.sl z2
  refine WC.rt ?_
  exact QF.p2 (.inl rfl) rfl (.tmp rfl) (.tmp rfl) (⟨A3,c3,by rw[he1];first | done | rfl,h2,by rw[he1];exact hs2,rfl⟩)
 have y19:(c==19)=false:=by simpa using h19
 by_cases h21:c=21
 ·subst h21
  have he1:effC w sv ((21:Int),(n:Int))=(2,[1]):=by unfold effC;simp[rowC,rowsC]
  refine gom ?_
  refine WL.op kr (OW.buildSlice rfl kr kr (by rfl) rfl fun b10=>?_)
  refine WL.nothing ?_
  refine WL.oo (OW.append rfl rfl kr kr TVec.nil atA (Rds.blk0 (cs:=[.int .i64 1]) atA rfl) rfl rfl (by first | omega | (dsimp only;omega)) (by first | omega | (dsimp only;omega)) rfl fun A3 c3 o3 hv3=>?_)
  have h3:=TVec.snoc (l:=[]) hv3
  refine gom ?_
  refine WC.frozenVec h3 atA fun G2 h2 z2=>?_
  have hs2:=IVec.sl z2
  refine WC.rt ?_
  exact QF.p2 (.inl rfl) rfl (.tmp rfl) (.tmp rfl) (⟨A3,c3,by rw[he1];first | done | rfl,h2,by rw[he1];exact hs2,rfl⟩)
 have y21:(c==21)=false:=by simpa using h21
 by_cases h22:c=22
 ·subst h22
  have he1:effC w sv ((22:Int),(n:Int))=(2,[1]):=by unfold effC;simp[rowC,rowsC]
  refine gom ?_
  refine WL.op kr (OW.buildSlice rfl kr kr (by rfl) rfl fun b10=>?_)
  refine WL.nothing ?_
  refine WL.oo (OW.append rfl rfl kr kr TVec.nil atA (Rds.blk0 (cs:=[.int .i64 1]) atA rfl) rfl rfl (by first | omega | (dsimp only;omega)) (by first | omega | (dsimp only;omega)) rfl fun A3 c3 o3 hv3=>?_)
  have h3:=TVec.snoc (l:=[]) hv3
  refine gom ?_
  refine WC.frozenVec h3 atA fun G2 h2 z2=>?_
  have hs2:=IVec.sl z2
  refine WC.rt ?_
  exact QF.p2 (.inl rfl) rfl (.tmp rfl) (.tmp rfl) (⟨A3,c3,by rw[he1];first | done | rfl,h2,by rw[he1];exact hs2,rfl⟩)
 have y22:(c==22)=false:=by simpa using h22
 by_cases h23:c=23
 ·subst h23
  have he1:effC w sv ((23:Int),(n:Int))=(2,[1]):=by unfold effC;simp[rowC,rowsC]
  refine gom ?_
  refine WL.op kr (OW.buildSlice rfl kr kr (by rfl) rfl fun b10=>?_)
  refine WL.nothing ?_
  refine WL.oo (OW.append rfl rfl kr kr TVec.nil atA (Rds.blk0 (cs:=[.int .i64 1]) atA rfl) rfl rfl (by first | omega | (dsimp only;omega)) (by first | omega | (dsimp only;omega)) rfl fun A3 c3 o3 hv3=>?_)
  have h3:=TVec.snoc (l:=[]) hv3
  refine gom ?_
  refine WC.frozenVec h3 atA fun G2 h2 z2=>?_
  have hs2:=IVec.sl z2
  refine WC.rt ?_
  exact QF.p2 (.inl rfl) rfl (.tmp rfl) (.tmp rfl) (⟨A3,c3,by rw[he1];first | done | rfl,h2,by rw[he1];exact hs2,rfl⟩)
 have y23:(c==23)=false:=by simpa using h23
 by_cases h24:c=24
 ·subst h24
  have he1:effC w sv ((24:Int),(n:Int))=(1,[1]):=by unfold effC;simp[rowC,rowsC]
  refine gom ?_
  refine WL.op kr (OW.buildSlice rfl kr kr (by rfl) rfl fun b11=>?_)
  refine WL.nothing ?_
  refine WL.oo (OW.append rfl rfl kr kr TVec.nil atA (Rds.blk0 (cs:=[.int .i64 1]) atA rfl) rfl rfl (by first | omega | (dsimp only;omega)) (by first | omega | (dsimp only;omega)) rfl fun A3 c3 o3 hv3=>?_)
  have h3:=TVec.snoc (l:=[]) hv3
  refine gom ?_
  refine WC.frozenVec h3 atA fun G2 h2 z2=>?_
  have hs2:=IVec.sl z2
  refine WC.rt ?_
  exact QF.p2 (.inl rfl) rfl (.tmp rfl) (.tmp rfl) (⟨A3,c3,by rw[he1];first | done | rfl,h2,by rw[he1];exact hs2,rfl⟩)
 have y24:(c==24)=false:=by simpa using h24
 by_cases h26:c=26
 ·subst h26
  have he1:effC w sv ((26:Int),(n:Int))=(1,[1]):=by unfold effC;simp[rowC,rowsC]
  refine gom ?_
  refine WL.op kr (OW.buildSlice rfl kr kr (by rfl) rfl fun b11=>?_)
  refine WL.nothing ?_
  refine WL.oo (OW.append rfl rfl kr kr TVec.nil atA (Rds.blk0 (cs:=[.int .i64 1]) atA rfl) rfl rfl (by first | omega | (dsimp only;omega)) (by first | omega | (dsimp only;omega)) rfl fun A3 c3 o3 hv3=>?_)
  have h3:=TVec.snoc (l:=[]) hv3
  refine gom ?_
  refine WC.frozenVec h3 atA fun G2 h2 z2=>?_
  have hs2:=IVec.sl z2
  refine WC.rt ?_
  exact QF.p2 (.inl rfl) rfl (.tmp rfl) (.tmp rfl) (⟨A3,c3,by rw[he1];first | done | rfl,h2,by rw[he1];exact hs2,rfl⟩)
 have y26:(c==26)=false:=by simpa using h26
 by_cases h25:c=25
 ·subst h25
  have he1:effC w sv ((25:Int),(n:Int))=(1,[2]):=by unfold effC;simp[rowC,rowsC]
  refine gom ?_
  refine WL.op kr (OW.buildSlice rfl kr kr (by rfl) rfl fun b12=>?_)
  refine WL.nothing ?_
  refine WL.oo (OW.append rfl rfl kr kr TVec.nil atA (Rds.blk0 (cs:=[.int .i64 2]) atA rfl) rfl rfl (by first | omega | (dsimp only;omega)) (by first | omega | (dsimp only;omega)) rfl fun A3 c3 o3 hv3=>?_)
  have h3:=TVec.snoc (l:=[]) hv3
  refine gom ?_
  refine WC.frozenVec h3 atA fun G2 h2 z2=>?_
  have hs2:=IVec.sl z2
  refine WC.rt ?_
  exact QF.p2 (.inl rfl) rfl (.tmp rfl) (.tmp rfl) (⟨A3,c3,by rw[he1];first | done | rfl,h2,by rw[he1];exact hs2,rfl⟩)
 have y25:(c==25)=false:=by simpa using h25
 have he1:effC w sv (c,(n:Int))=(0,[]):=by
  by_cases h:1≤c∧c≤26
  ·obtain h5 | h9:c=5∨c=9:=by omega
   ·subst h5;unfold effC;simp[rowC,rowsC]
   ·subst h9;unfold effC;simp[rowC,rowsC]
  ·unfold effC
   rw[rowC_out h]
   rw[if_neg h1,if_neg h2,if_neg h7,if_neg h8,if_neg h20,if_neg (by omega),if_neg h25];rfl
 refine gom ?_
 refine WC.rt ?_
 exact QF.p2 (.inl rfl) rfl (.tmp rfl) (.tmp rfl) (⟨none,0,by rw[he1];first | done | rfl,Gh.le_refl _,by rw[he1];exact Sl.nil _ _ _,rfl⟩)
end
section
open Go.MapKept
attribute [local irreducible] Tryz.prog
theorem TVec.nilv:Vec 44 1 none 0 0 [] (.spare 0 0 0):=⟨rfl, .inl ⟨rfl,rfl,rfl,rfl⟩⟩
theorem Sl.takeV {α:Type} {k:Kd α} {G:Gh} {A:Option Addr} {xs:List α} (h:Sl k G A xs) (n:Nat):Sl k G A (xs.take n):=fun i x hx=>h i x (by
 rw[List.getElem?_take]at hx
 split at hx
 ·exact hx
 ·cases hx)
section
variable (G:Gh) (w:Wd) (p:Pr) (CA NA PA:Option Addr) (cc nc pc:Nat) (hW:RWp G w CA NA PA) (QA IA:Option Addr) (qc ic:Nat)
include hW
set_option maxHeartbeats 4000000 in
theorem rbehind_fn (s:SS) (VA:Option Addr) (vc:Nat) (SA:Option Addr) (sc:Nat) (hS:SRep G s VA vc SA sc) (hr:s.reached=true) (hv:s.vars.length≤1000000000) (hk:s.stack.length≤1000000000) (c:Int) (n:Nat) (ho:EOk w s.vars.length c n):
  Fn Tryz.prog 173 #[.agg (wdC w CA NA PA cc nc pc), .agg (prC p QA qc IA ic), .agg #[.int .i64 c, .int .i64 n],rsV s VA vc SA sc] G []
   fun e G' H'=>∃V' v' S' s',e= .returned (rsV (behR w (c,n) s) V' v' S' s')∧G.le G'∧SRep G' (behR w (c,n) s) V' v' S' s'∧H'=[]:=by
 have htk:=hW.takes (cc:=cc) (nc:=nc) (pc:=pc) s.vars (c,n)
 have hly:=effC_lays w s.vars (c,n)
 refine Fn.enter Tryz.func173 rfl rfl fun w0=>?_
 obtain⟨sr,su,sv,sk⟩:=s
 dsimp only at htk hly hv hk ho hr⊢
 subst hr
 refine WC.seq ?_
 refine WC.region ?_
 refine WL.oo (OW.box rfl rfl fun b1=>?_)
 refine WL.oo (OW.box rfl rfl fun b2=>?_)
 refine WL.oo (OW.box rfl rfl fun b3=>?_)
 refine WL.oo (OW.box rfl rfl fun b4=>?_)
 refine WL.oo (OW.alloc rfl fun b5=>?_)
 refine gom ?_
 refine WL.oo (OW.alloc rfl fun b6=>?_)
 refine gom ?_
 refine WL.nothing ?_
 refine WL.oo (OW.append rfl rfl kr kr TVec.nilv atA hS.vars.ints (ints_length _) (ints_one _) (by first | omega | (dsimp only;omega)) (by first | omega | (dsimp only;omega)) rfl fun A1 c1 x1 hx1=>?_)
 rw[Nat.zero_add]at hx1⊢
 rw[List.nil_append]at hx1
 replace hx1:TVec A1 sv c1 x1:=hx1
 have ho3:=ho.store
 have hvl:(varsR (c,(n:Int)) ⟨true,su,sv,sk⟩).length=sv.length:=varsR_length _ _
 refine zw.fa ?_
 refine zw.st ?_
 refine WL.nil ?_
 refine WK.un ?_
 refine WC.join (X:=Own) (fun _=>[(4, .pointer (some ⟨b1,0,none⟩)),(5, .pointer (some ⟨b2,0,none⟩)),(6, .pointer (some ⟨b3,0,none⟩)),(7, .pointer (some ⟨b4,0,none⟩)),(8, .pointer (some ⟨b5,0,none⟩)),(9, .pointer (some ⟨b6,0,none⟩))]) (fun _=>G)
  (fun o=>[o, .blk b6 (.cells #[.bool true, .slice A1 sv.length c1, .bool false, .slice none 0 0] 220 (0,0)), .blk b1 (.cells (wdC w CA NA PA cc nc pc) 162 (0,0)), .blk b2 (.cells (prC p QA qc IA ic) 47 (0,0)), .blk b3 (.cells #[.int .i64 c, .int .i64 n] 50 (0,0)), .blk b4 (.cells #[.bool true, .slice VA sv.length vc, .bool su, .slice SA sk.length sc] 220 (0,0)), .blk b5 (.cells #[.bool false, .slice none 0 0, .bool false, .slice none 0 0] 220 (0,0))])
  (fun o=>Vec 44 1 A1 sv.length c1 (ints (varsR (c,(n:Int)) ⟨true,su,sv,sk⟩)) o) ?_ fun o hx1'=>?_
 ·by_cases h3:c=3
  rotate_left
  ·have y3:(c==3)=false:=by simpa using h3
   refine gom ?_
   refine WK.pick [x1, .blk b6 (.cells #[.bool true, .slice A1 sv.length c1, .bool false, .slice none 0 0] 220 (0,0)), .blk b1 (.cells (wdC w CA NA PA cc nc pc) 162 (0,0)), .blk b2 (.cells (prC p QA qc IA ic) 47 (0,0)), .blk b3 (.cells #[.int .i64 c, .int .i64 n] 50 (0,0)), .blk b4 (.cells #[.bool true, .slice VA sv.length vc, .bool su, .slice SA sk.length sc] 220 (0,0)), .blk b5 (.cells #[.bool false, .slice none 0 0, .bool false, .slice none 0 0] 220 (0,0))] ?_
   exact WK.meet (x1) (by unfold varsR;rw[if_neg h3];exact hx1) (by exact⟨rfl,rfl,rfl,rfl,rfl,rfl,trivial⟩) rfl (List.Sublist.refl _)
  subst h3
  have hn:=ho3 rfl
  obtain⟨xb,xc,rfl,rfl,hxc⟩:=hx1.some (by omega)
  have hn0:0+((n:Nat):Int).toNat*1=n:=by omega
  obtain⟨_,hfit,hput⟩:=IVec.put hx1 (i:=0+((n:Nat):Int).toNat*1) (by omega) 0
  have hble:Nat.ble (0+((n:Nat):Int).toNat*1+1) xc.size=true:=Nat.ble_eq_true_of_le (by omega)
  have x0:(0:Int)≤(n:Int):=by omega
  have x1:(n:Int)<(sv.length:Int):=by omega
  have hput':Vec 44 1 (some ⟨xb,0,none⟩) sv.length c1 (ints (sv.set n 0)) (.blk xb (.cells (splice xc (0+((n:Nat):Int).toNat*1) [.int .i64 0]) 44 (0,0))):=by
   have h:=hput
   unfold IVec at h
   rw[List.length_set]at h
   rwa [hn0]at h⊢
  cases su with
  | true=>
   refine gom ?_
   refine WK.pick [.blk xb (.cells (splice xc (0+((n:Nat):Int).toNat*1) [.int .i64 0]) 44 (0,0)), .blk b6 (.cells #[.bool true, .slice (some ⟨xb,0,none⟩) sv.length c1, .bool false, .slice none 0 0] 220 (0,0)), .blk b1 (.cells (wdC w CA NA PA cc nc pc) 162 (0,0)), .blk b2 (.cells (prC p QA qc IA ic) 47 (0,0)), .blk b3 (.cells #[.int .i64 3, .int .i64 n] 50 (0,0)), .blk b4 (.cells #[.bool true, .slice VA sv.length vc, .bool true, .slice SA sk.length sc] 220 (0,0)), .blk b5 (.cells #[.bool false, .slice none 0 0, .bool false, .slice none 0 0] 220 (0,0))] ?_
   exact WK.meet (.blk xb (.cells (splice xc (0+((n:Nat):Int).toNat*1) [.int .i64 0]) 44 (0,0))) (hput') (by exact⟨rfl,rfl,rfl,rfl,rfl,rfl,trivial⟩) rfl (List.Sublist.refl _)
  | false=>
  by_cases hk0:sk.length=0
  ·have y4:decide ((0:Int)<(sk.length:Int))=false:=decide_eq_false (by omega)
   have ht:topS ⟨true,false,sv,sk⟩=0:=by
    have:sk=[]:=List.eq_nil_of_length_eq_zero hk0
    subst this;rfl
   refine gom ?_
   refine WK.pick [.blk xb (.cells (splice xc (0+((n:Nat):Int).toNat*1) [.int .i64 0]) 44 (0,0)), .blk b6 (.cells #[.bool true, .slice (some ⟨xb,0,none⟩) sv.length c1, .bool false, .slice none 0 0] 220 (0,0)), .blk b1 (.cells (wdC w CA NA PA cc nc pc) 162 (0,0)), .blk b2 (.cells (prC p QA qc IA ic) 47 (0,0)), .blk b3 (.cells #[.int .i64 3, .int .i64 n] 50 (0,0)), .blk b4 (.cells #[.bool true, .slice VA sv.length vc, .bool false, .slice SA sk.length sc] 220 (0,0)), .blk b5 (.cells #[.bool false, .slice none 0 0, .bool false, .slice none 0 0] 220 (0,0))] ?_
   exact WK.meet (.blk xb (.cells (splice xc (0+((n:Nat):Int).toNat*1) [.int .i64 0]) 44 (0,0))) (by unfold varsR;rw[if_pos rfl,ht];exact hput') (by exact⟨rfl,rfl,rfl,rfl,rfl,rfl,trivial⟩) rfl (List.Sublist.refl _)
  have y4:decide ((0:Int)<(sk.length:Int))=true:=decide_eq_true (by omega)
  obtain⟨z,hz⟩:∃z,sk[sk.length - 1]? =some z:=⟨_,List.getElem?_eq_getElem (by omega)⟩
  have ht:topS ⟨true,false,sv,sk⟩=z:=by
   show(sk[sk.length - 1]?).getD 0=z
   rw[hz];rfl
  obtain⟨zb,zo,rfl,hzc⟩:=hS.stack.at hz
  have y5:IntKind.i64.wrap ((sk.length:Int) - 1)=((sk.length - 1:Nat):Int):=by
   have e:=wrapI (x:=(sk.length:Int) - 1) (by omega) (by omega)
   rw[e];omega
  have z0:(0:Int)≤((sk.length - 1:Nat):Int):=by omega
  have z1:((sk.length - 1:Nat):Int)<(sk.length:Int):=by omega
  obtain⟨_,hfit2,hput2⟩:=IVec.put hput (i:=0+((n:Nat):Int).toNat*1) (by rw[List.length_set];omega) z
  have hble2:Nat.ble (0+((n:Nat):Int).toNat*1+1) (splice xc (0+((n:Nat):Int).toNat*1) [.int .i64 0]).size=true:=Nat.ble_eq_true_of_le (by omega)
  have hput2':Vec 44 1 (some ⟨xb,0,none⟩) sv.length c1 (ints (sv.set n z)) (.blk xb (.cells (splice (splice xc (0+((n:Nat):Int).toNat*1) [.int .i64 0]) (0+((n:Nat):Int).toNat*1) [.int .i64 z]) 44 (0,0))):=by
   have h:=hput2
   unfold IVec at h
   rw[List.set_set,List.length_set]at h
   rwa [hn0]at h⊢
  refine go ?_
  refine WC.draw mixed ?_
  refine za.fa 0 ?_
  refine za.fa 2 ?_
  refine za.fa 4 ?_
  refine za.fa 6 ?_
  refine za.ld 7 ?_
  refine za.len 8 ?_
  refine WA.pp 9 rfl (Gp.sub' rfl rfl y5) ?_
  refine za.ld 1 ?_
  refine za.ld 3 ?_
  refine za.ld 5 ?_
  refine za.ix 10 ?_
  refine WA.vv 11 rfl (Gv.loadG1 (i:=0) rfl hzc rfl) ?_
  refine za.ix 12 ?_
  refine WA.oo 13 rfl (OW.store (n:=1) (cs:=[.int .i64 z]) rfl rfl atA rfl rfl rfl hble2 rfl ?_ rfl)
  refine WA.done kr ?_
  refine WK.un ?_
  refine WK.pick [.blk xb (.cells (splice (splice xc (0+((n:Nat):Int).toNat*1) [.int .i64 0]) (0+((n:Nat):Int).toNat*1) [.int .i64 z]) 44 (0,0)), .blk b6 (.cells #[.bool true, .slice (some ⟨xb,0,none⟩) sv.length c1, .bool false, .slice none 0 0] 220 (0,0)), .blk b1 (.cells (wdC w CA NA PA cc nc pc) 162 (0,0)), .blk b2 (.cells (prC p QA qc IA ic) 47 (0,0)), .blk b3 (.cells #[.int .i64 3, .int .i64 n] 50 (0,0)), .blk b4 (.cells #[.bool true, .slice VA sv.length vc, .bool false, .slice (some ⟨zb,zo,none⟩) sk.length sc] 220 (0,0)), .blk b5 (.cells #[.bool false, .slice none 0 0, .bool false, .slice none 0 0] 220 (0,0))] ?_
  exact WK.meet (.blk xb (.cells (splice (splice xc (0+((n:Nat):Int).toNat*1) [.int .i64 0]) (0+((n:Nat):Int).toNat*1) [.int .i64 z]) 44 (0,0))) (by unfold varsR;rw[if_pos rfl,ht];exact hput2') (by exact⟨rfl,rfl,rfl,rfl,rfl,rfl,trivial⟩) rfl (List.Sublist.refl _)
 have hx1v:TVec A1 (varsR (c,(n:Int)) ⟨true,su,sv,sk⟩) c1 o:=by unfold TVec IVec;rw[hvl];exact hx1'
 clear hx1
 refine gom ?_
 refine WL.oo (OW.callK rfl (reffect_fn G w p CA NA PA cc nc pc hW QA IA qc ic VA sv vc hS.vars c n ho) rfl fun v' G' H' h hg=>?_)
 obtain⟨LA,lc,he,hg1,hs1,rfl⟩:=h
 cases he
 obtain⟨tk,htke⟩:∃tk,tk=(effC w sv (c,n)).1:=⟨_,rfl⟩
 obtain⟨ly,hlye⟩:∃ly,ly=(effC w sv (c,n)).2:=⟨_,rfl⟩
 rw[←htke]at htk
 rw[←hlye]at hly hs1
 rw[←htke,←hlye]
 refine WL.pick [o, .blk b6 (.cells #[.bool true, .slice A1 sv.length c1, .bool false, .slice none 0 0] 220 (0,0)), .blk b1 (.cells (wdC w CA NA PA cc nc pc) 162 (0,0)), .blk b2 (.cells (prC p QA qc IA ic) 47 (0,0)), .blk b3 (.cells #[.int .i64 c, .int .i64 n] 50 (0,0)), .blk b4 (.cells #[.bool true, .slice VA sv.length vc, .bool su, .slice SA sk.length sc] 220 (0,0)), .blk b5 (.cells #[.bool false, .slice none 0 0, .bool false, .slice none 0 0] 220 (0,0))] ?_
 have y1:IntKind.i64.wrap ((sk.length:Int) - (tk:Int))=(sk.length:Int) - (tk:Int):=wrapI (by omega) (by omega)
 by_cases hb:badS w (c,(n:Int)) ⟨true,su,sv,sk⟩
 ·have he1:behR w (c,(n:Int)) ⟨true,su,sv,sk⟩=⟨true,true,varsR (c,(n:Int)) ⟨true,su,sv,sk⟩,[]⟩:=by unfold behR;rw[if_pos hb]
  rw[he1]
  have hb':su=true∨(sk.length<tk∨128<sk.length - tk+ly.length):=by unfold badS at hb;rw[htke,hlye];exact hb
  cases su with
  | true=>
   refine gom ?_
   refine WC.frozenVec hx1v atA fun G3 h3 z3=>?_
   refine WC.rt ?_
   exact QF.p1 (.inl rfl) rfl (.cell rfl inferInstance inferInstance atA rfl rfl) (⟨A1,c1,none,0,by show _=Ending.returned (.agg #[.bool true, .slice A1 (varsR (c,(n:Int)) ⟨true,true,sv,sk⟩).length c1, .bool true, .slice none 0 0]);rw[hvl];first | done | rfl,Gh.le_trans hg1 h3,⟨hx1v.le,Nat.le_refl _,IVec.sl z3,Sl.nil _ _ _⟩,rfl⟩)
  | false=>
  by_cases h1:sk.length<tk
  ·have y7:decide ((sk.length:Int)<(tk:Int))=true:=decide_eq_true (by omega)
   refine gom ?_
   refine WC.frozenVec hx1v atA fun G3 h3 z3=>?_
   refine WC.rt ?_
   exact QF.p1 (.inl rfl) rfl (.cell rfl inferInstance inferInstance atA rfl rfl) (⟨A1,c1,none,0,by show _=Ending.returned (.agg #[.bool true, .slice A1 (varsR (c,(n:Int)) ⟨true,false,sv,sk⟩).length c1, .bool true, .slice none 0 0]);rw[hvl];first | done | rfl,Gh.le_trans hg1 h3,⟨hx1v.le,Nat.le_refl _,IVec.sl z3,Sl.nil _ _ _⟩,rfl⟩)
  ·have y7:decide ((sk.length:Int)<(tk:Int))=false:=decide_eq_false (by omega)
   have h2:128<sk.length - tk+ly.length:=by
    rcases hb' with h | h | h
    ·cases h
    ·exact absurd h h1
    ·exact h
   have y8:IntKind.i64.wrap ((sk.length:Int) - (tk:Int)+(ly.length:Int))=(sk.length:Int) - (tk:Int)+(ly.length:Int):=wrapI (by omega) (by omega)
   have y9:decide ((128:Int)<(sk.length:Int) - (tk:Int)+(ly.length:Int))=true:=decide_eq_true (by omega)
   refine gom ?_
   refine WC.frozenVec hx1v atA fun G3 h3 z3=>?_
   refine WC.rt ?_
   exact QF.p1 (.inl rfl) rfl (.cell rfl inferInstance inferInstance atA rfl rfl) (⟨A1,c1,none,0,by show _=Ending.returned (.agg #[.bool true, .slice A1 (varsR (c,(n:Int)) ⟨true,false,sv,sk⟩).length c1, .bool true, .slice none 0 0]);rw[hvl];first | done | rfl,Gh.le_trans hg1 h3,⟨hx1v.le,Nat.le_refl _,IVec.sl z3,Sl.nil _ _ _⟩,rfl⟩)
 ·have he1:behR w (c,(n:Int)) ⟨true,su,sv,sk⟩=⟨true,false,varsR (c,(n:Int)) ⟨true,su,sv,sk⟩,sk.take (sk.length - tk)++ly⟩:=by unfold behR;rw[if_neg hb,htke,hlye]
  have hb':¬(su=true∨(sk.length<tk∨128<sk.length - tk+ly.length)):=by unfold badS at hb;rw[htke,hlye];exact hb
  rw[he1]
  have hus:su=false:=by cases h:su with | false=>rfl | true=>exact absurd (.inl h) hb'
  subst hus
  have h1:¬sk.length<tk:=fun h=>hb' (.inr (.inl h))
  have h2:¬128<sk.length - tk+ly.length:=fun h=>hb' (.inr (.inr h))
  have y7:decide ((sk.length:Int)<(tk:Int))=false:=decide_eq_false (by omega)
  have y8:IntKind.i64.wrap ((sk.length:Int) - (tk:Int)+(ly.length:Int))=(sk.length:Int) - (tk:Int)+(ly.length:Int):=wrapI (by omega) (by omega)
  have y9:decide ((128:Int)<(sk.length:Int) - (tk:Int)+(ly.length:Int))=false:=decide_eq_false (by omega)
  have hsc:=hS.hs
  dsimp only at hsc
  have e5:((sk.length:Int) - (tk:Int)).toNat=sk.length - tk:=by omega
  refine WL.nothing ?_
  refine go ?_
  refine WC.draw mixed ?_
  have hcut:=Sl.takeV hS.stack (sk.length - tk)
  have hcl:(sk.take (sk.length - tk)).length=sk.length - tk:=by rw[List.length_take];omega
  refine za.fa 0 ?_
  refine za.fa 2 ?_
  refine za.fa 4 ?_
  refine za.ld 5 ?_
  refine za.len 6 ?_
  refine za.move 7 ?_
  refine WA.pp 8 rfl (Gp.sub' rfl rfl y1) ?_
  refine za.ld 1 ?_
  refine za.ld 3 ?_
  refine WA.pp 9 rfl (Gp.sliceTo rfl rfl (by omega) (by omega)) ?_
  refine WA.oo 10 rfl (OW.append rfl rfl kr kr TVec.nilv atA (hcut.mono hg1).ints (by rw[ints_length,hcl,e5]) (ints_one _) (by first | omega | (dsimp only;omega)) (by first | omega | (dsimp only;omega)) rfl fun A3 c3 o3 hv3=>?_)
  refine za.fa 11 ?_
  refine za.st 12 ?_
  refine WA.done kr ?_
  refine WK.un ?_
  refine gom ?_
  have hln:ints (sk.take (sk.length - tk)++ly)=([]++ints (sk.take (sk.length - tk)))++ints ly:=by rw[ints_append,List.nil_append]
  have hle:(sk.take (sk.length - tk)++ly).length=0+((sk.length:Int) - (tk:Int)).toNat+ly.length:=by rw[List.length_append,hcl,Nat.zero_add,e5]
  refine WL.oo (OW.append rfl rfl kr kr hv3 atA hs1.ints (ints_length _) (ints_one _) (by first | omega | (dsimp only;omega)) (by first | omega | (dsimp only;omega)) rfl fun A4 c4 o4 hv4=>?_)
  rw[←hln]at hv4
  refine gom ?_
  refine WC.frozenVec hx1v atA fun G3 h3 z3=>?_
  refine WC.frozenVec hv4 atA fun G4 h4 z4=>?_
  refine WC.rt ?_
  exact QF.p1 (.inl rfl) rfl (.cell rfl inferInstance inferInstance atA rfl rfl) (⟨A1,c1,A4,c4,by show _=Ending.returned (.agg #[.bool true, .slice A1 (varsR (c,(n:Int)) ⟨true,false,sv,sk⟩).length c1, .bool false, .slice A4 (sk.take (sk.length - tk)++ly).length c4]);rw[hvl,hle];first | done | rfl,Gh.le_trans hg1 (Gh.le_trans h3 h4),⟨hx1v.le,by rw[hle];exact hv4.le,(IVec.sl z3).mono h4,IVec.sl z4⟩,rfl⟩)
end
end
end Go.Proofs.YtcnlkfocbbkdhaaGreatDoor.Gb
