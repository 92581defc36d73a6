/- Layer 22: the writer: values, heads, procedures: walked. Layer 22: the writer: heads, procedures: walked. Layer 22: a constant's bytes; the writer's first text. Layer 22: object.Bytes: walked. Layer 22: the two small objects of the law's last word: they must be taken (no program in sight). Layer 22: the law's own small objects: walked. The machine's stack and its small helpers, part 2. The machine's values and tests. Numbers and texts compared and reckoned with. What is taken from the stack, and laid there. Values of a type are taken; two are compared. Two values are compared by their order. A program and a machine in memory; frames are entered, copied, found. A frame is entered. A procedure is called. A frame is left. Two values are held against one another; too few for an operation; what an instruction without a number comes to. Instructions without a number: dropped, left, printed. Any instruction without a number. An instruction is carried out, 1: constants, variables. An instruction is carried out, 2. -/
import Derived.Test.YtcnlkfocbbkdhaaGreatDoorWf
set_option linter.unusedVariables false
set_option linter.unusedSimpArgs false
set_option linter.unusedSectionVars false
namespace Go.Proofs.YtcnlkfocbbkdhaaGreatDoor.Gb
open Go Go.Proofs
section
open Go.MapKept
attribute [local irreducible] Tryz.prog
def valI (v:V):List Int:=kindI v.t++(if v.t=1 then uintL (zzN v.i)else if v.t=2 then [boolI v.b]else if v.t=3 then txtI v.s else [])
def valsI (vs:List V):List Int:=uI vs.length++vs.flatMap valI
def headI (s:ByteArray) (ps:List Int) (r:Int):List Int:=txtI s++uI ps.length++ps.flatMap kindI++kindI r
def procI (p:Pr):List Int:=headI p.name p.params p.result++[boolI p.exp]++uI p.locals++(bytesR p.code).1
def procsI (ps:List Pr):List Int:=uI ps.length++ps.flatMap procI
section
variable {α:Type} {f:α→List Int} {l:List α} {k:Nat} {a:α}
theorem flat_snoc (h:l[k]? =some a):(l.take (k+1)).flatMap f=(l.take k).flatMap f++f a:=by rw[take_snoc' h,List.flatMap_append];simp
theorem flat_take (k:Nat):((l.take k).flatMap f).length≤(l.flatMap f).length:=by
 conv=>rhs;rw[←List.take_append_drop k l]
 rw[List.flatMap_append,List.length_append];omega
theorem flat_at (h:l[k]? =some a):((l.take k).flatMap f).length+(f a).length≤(l.flatMap f).length:=by
 rw[←List.length_append,←flat_snoc h];exact flat_take _
end
structure WrS where
 i:Nat
 A:Option Addr
 cap:Nat
 x:Own
 G:Gh
 n:Nat
set_option maxRecDepth 20000 in
set_option maxHeartbeats 2000000 in
theorem wvalues_fn (G:Gh) (wb:Nat) (A:Option Addr) (l:List Int) (cap:Nat) (x:Own) (hx:BVec A l cap x) (VA:Option Addr) (vs:List V) (vc:Nat) (hV:Sl Kd.val G VA vs) (hi:∀v∈vs, -9223372036854775808≤v.i∧v.i≤9223372036854775807) (hvl:vs.length≤1000000000) (hl:l.length+(valsI vs).length≤80000000000000):
  Fn Tryz.prog 60 #[.pointer (some ⟨wb,0,none⟩), .slice VA vs.length vc] G [wrB wb A l.length cap,x] (WrP wb l (valsI vs) G):=by
 refine Fn.enter Tryz.func60 rfl rfl fun w0=>?_
 refine gom ?_
 refine WL.oo (OW.callK rfl (uint_fn G wb A l cap x hx (vs.length:Int) (by omega)) rfl fun v' G' H' h hg=>?_)
 obtain⟨A1,c1,x1,he,hg1,h1,rfl⟩:=h
 cases he
 refine gom ?_
 have hb:∀k,(l++uI vs.length++(vs.take k).flatMap valI).length=l.length+(uI vs.length).length+((vs.take k).flatMap valI).length:=fun k=>by rw[List.length_append,List.length_append]
 have hvl':(valsI vs).length=(uI vs.length).length+(vs.flatMap valI).length:=by rw[valsI,List.length_append]
 have h00:l++uI vs.length++(vs.take 0).flatMap valI=l++uI vs.length:=by simp
 refine WC.loop (X:=WrS) (fun s=>[(0, .pointer (some ⟨wb,0,none⟩)),(10, .slice VA vs.length vc),(11, .int .i64 vs.length),(12, .int .i64 s.i)]) (fun s=>s.G) (fun s=>[wrB wb s.A s.n s.cap,s.x]) (fun s=>vs.length - s.i) (fun s=>s.i≤vs.length∧G.le s.G∧BVec s.A (l++uI vs.length++(vs.take s.i).flatMap valI) s.cap s.x∧s.n=(l++uI vs.length++(vs.take s.i).flatMap valI).length)
  ⟨0,A1,c1,x1,G',(l++uI vs.length).length⟩ ⟨Nat.zero_le _,hg1,by rw[h00];exact h1,by dsimp only;rw[h00]⟩ (by exact⟨rfl,rfl,rfl,rfl,trivial⟩) rfl (List.Sublist.refl _) (fun s hs=>?_)
 obtain⟨k,B,c,o,G2,n⟩:=s
 obtain⟨hk,hg2,hv,hn⟩:=hs
 dsimp only at hk hg2 hv hn
 have x2:=wrapS k (by omega)
 by_cases hlt:k<vs.length
 rotate_left
 ·have e2:decide ((k:Int)<(vs.length:Int))=false:=decide_eq_false (by omega)
  have ht:l++uI vs.length++(vs.take k).flatMap valI=l++valsI vs:=by rw[List.take_of_length_le (by omega),valsI,List.append_assoc]
  rw[ht]at hv hn
  subst hn
  refine gom ?_
  refine WK.un ?_
  exact QF.p0 (.inr rfl) rfl  (⟨B,c,o,rfl,hg2,hv,rfl⟩)
 have e2:decide ((k:Int)<(vs.length:Int))=true:=decide_eq_true (by omega)
 obtain⟨v,hvk⟩:∃v,vs[k]? =some v:=⟨_,List.getElem?_eq_getElem (by omega)⟩
 have hvi:=hi v (List.mem_of_getElem? hvk)
 have hV2:=hV.mono hg2
 obtain⟨ib,io,ics,rfl,hik,hic⟩:=hV2 k v hvk
 obtain rfl:ics=vcells v:=hik
 have x0:(0:Int)≤(k:Int):=by omega
 have x1':(k:Int)<(vs.length:Int):=by omega
 have hfa:=flat_at (f:=valI) hvk
 have hfs:=flat_snoc (f:=valI) hvk
 have hva:(valI v).length=1+(if v.t=1 then uintL (zzN v.i)else if v.t=2 then [boolI v.b]else if v.t=3 then txtI v.s else []).length:=by rw[valI,List.length_append];rfl
 have hbk:=hb k
 generalize hM:l++uI vs.length++(vs.take k).flatMap valI=M at*
 have hnext:l++uI vs.length++(vs.take (k+1)).flatMap valI=M++valI v:=by rw[hfs,←List.append_assoc,hM]
 subst hn
 have hkl:(M++kindI v.t).length=M.length+1:=by rw[List.length_append];rfl
 refine gom ?_
 refine WL.oo (OW.alloc rfl fun b5=>?_)
 refine gom ?_
 refine WL.oo (OW.callK rfl (kind_fn G2 wb B M c o hv v.t (by omega)) rfl fun v' G' H' h hg=>?_)
 obtain⟨A3,c3,x3,he,hg3,h3,rfl⟩:=h
 cases he
 by_cases t1:v.t=1
 ·have e1:(v.t==1)=true:=by rw[beq_iff_eq];exact t1
  rw[if_pos t1]at hva
  have hen:M++kindI v.t++uintL (zzN v.i)=M++valI v:=by rw[valI,if_pos t1,List.append_assoc]
  refine gom ?_
  refine WQ.one kr kr (OW.callK rfl (putInt_fn G' A3 (M++kindI v.t) c3 x3 h3 v.i hvi (by omega)) rfl fun v' G' H' h hg=>?_)
  obtain⟨A4,c4,x4,he,rfl,h4,rfl⟩:=h
  cases he
  rw[hen]at h4⊢
  refine gom ?_
  refine WQ.one kr kr (OW.store rfl rfl atA rfl (by rfl) (by rfl) kr (by rfl) ?_ rfl)
  refine gom ?_
  refine WK.pick [wrB wb A4 (M++valI v).length c4,x4] ?_
  exact WK.again ⟨k+1,A4,c4,x4,G',(M++valI v).length⟩ (by dsimp only;omega) ⟨by dsimp only;omega,Gh.le_trans hg2 hg3,by dsimp only;rw[hnext];exact h4,by dsimp only;rw[hnext]⟩ (by exact⟨rfl,rfl,rfl,rfl,trivial⟩) rfl (List.Sublist.refl _)
 have e1:(v.t==1)=false:=by rw[beq_eq_false_iff_ne];exact t1
 rw[if_neg t1]at hva
 by_cases t2:v.t=2
 ·have e2':(v.t==2)=true:=by rw[beq_iff_eq];exact t2
  rw[if_pos t2]at hva
  have hen:M++kindI v.t++[boolI v.b]=M++valI v:=by rw[valI,if_neg t1,if_pos t2,List.append_assoc]
  refine gom ?_
  refine WQ.one kr kr (OW.callK rfl (putBool_fn G' A3 (M++kindI v.t) c3 x3 h3 v.b (by omega)) rfl fun v' G' H' h hg=>?_)
  obtain⟨A4,c4,x4,he,rfl,h4,rfl⟩:=h
  cases he
  rw[hen]at h4⊢
  refine gom ?_
  refine WQ.one kr kr (OW.store rfl rfl atA rfl (by rfl) (by rfl) kr (by rfl) ?_ rfl)
  refine gom ?_
  refine WK.pick [wrB wb A4 (M++valI v).length c4,x4] ?_
  exact WK.again ⟨k+1,A4,c4,x4,G',(M++valI v).length⟩ (by dsimp only;omega) ⟨by dsimp only;omega,Gh.le_trans hg2 hg3,by dsimp only;rw[hnext];exact h4,by dsimp only;rw[hnext]⟩ (by exact⟨rfl,rfl,rfl,rfl,trivial⟩) rfl (List.Sublist.refl _)
 have e2':(v.t==2)=false:=by rw[beq_eq_false_iff_ne];exact t2
 rw[if_neg t2]at hva
 by_cases t3:v.t=3
 ·have e3:(v.t==3)=true:=by rw[beq_iff_eq];exact t3
  rw[if_pos t3]at hva
  have hen:M++kindI v.t++txtI v.s=M++valI v:=by rw[valI,if_neg t1,if_neg t2,if_pos t3,List.append_assoc]
  have htx:(txtI v.s).length=(uintL v.s.size).length+v.s.size:=by rw[txtI,List.length_append,strI_length]
  refine gom ?_
  refine WL.oo (OW.callK rfl (text_fn G' wb A3 (M++kindI v.t) c3 x3 h3 v.s (by omega)) rfl fun v' G' H' h hg=>?_)
  obtain⟨G3,rfl⟩:∃G3,G3=G':=⟨_,rfl⟩
  obtain⟨A4,c4,x4,he,hg4,h4,rfl⟩:=h
  cases he
  rw[hen]at h4⊢
  refine gom ?_
  refine WK.pick [wrB wb A4 (M++valI v).length c4,x4] ?_
  exact WK.again ⟨k+1,A4,c4,x4,_,(M++valI v).length⟩ (by dsimp only;omega) ⟨by dsimp only;omega,Gh.le_trans hg2 (Gh.le_trans hg3 hg4),by dsimp only;rw[hnext];exact h4,by dsimp only;rw[hnext]⟩ (by exact⟨rfl,rfl,rfl,rfl,trivial⟩) rfl (List.Sublist.refl _)
 have e3:(v.t==3)=false:=by rw[beq_eq_false_iff_ne];exact t3
 have hen:M++kindI v.t=M++valI v:=by rw[valI,if_neg t1,if_neg t2,if_neg t3,List.append_nil]
 rw[hen]at h3⊢
 refine gom ?_
 refine WK.pick [wrB wb A3 (M++valI v).length c3,x3] ?_
 exact WK.again ⟨k+1,A3,c3,x3,G',(M++valI v).length⟩ (by dsimp only;omega) ⟨by dsimp only;omega,Gh.le_trans hg2 hg3,by dsimp only;rw[hnext];exact h3,by dsimp only;rw[hnext]⟩ (by exact⟨rfl,rfl,rfl,rfl,trivial⟩) rfl (List.Sublist.refl _)
end
section
open Go.MapKept
attribute [local irreducible] Tryz.prog bytesR
theorem kinds_len:∀ps:List Int,(ps.flatMap kindI).length=ps.length
 | []=>rfl
 | p::ps=>by rw[List.flatMap_cons,List.length_append,kinds_len ps];show 1+_=_;rw[List.length_cons];omega
theorem headI_len (s:ByteArray) (ps:List Int) (r:Int):(headI s ps r).length=(txtI s).length+(uI ps.length).length+ps.length+1:=by
 simp only[headI,List.length_append,kinds_len];rfl
set_option maxRecDepth 20000 in
set_option maxHeartbeats 2000000 in
theorem whead_fn (G:Gh) (wb:Nat) (A:Option Addr) (l:List Int) (cap:Nat) (x:Own) (hx:BVec A l cap x) (s:ByteArray) (VA:Option Addr) (vs:List Int) (vc:Nat) (r:Int) (hV:Sl (Kd.int .i64) G VA vs) (hl:l.length+(headI s vs r).length≤80000000000000):
  Fn Tryz.prog 62 #[.pointer (some ⟨wb,0,none⟩), .string s, .slice VA vs.length vc, .int .i64 r] G [wrB wb A l.length cap,x] (WrP wb l (headI s vs r) G):=by
 have hhl:=headI_len s vs r
 have htx:(txtI s).length=(uintL s.size).length+s.size:=by rw[txtI,List.length_append,strI_length]
 refine Fn.enter Tryz.func62 rfl rfl fun w0=>?_
 refine gom ?_
 refine WL.oo (OW.callK rfl (text_fn G wb A l cap x hx s (by omega)) rfl fun v' G' H' h hg=>?_)
 obtain⟨A0,c0,x0,he,hg0,h0,rfl⟩:=h
 cases he
 obtain⟨G1,rfl⟩:∃G1,G1=G':=⟨_,rfl⟩
 have hb0:(l++txtI s).length=l.length+(txtI s).length:=List.length_append
 refine gom ?_
 refine WL.oo (OW.callK rfl (uint_fn G1 wb A0 (l++txtI s) c0 x0 h0 (vs.length:Int) (by omega)) rfl fun v' G' H' h hg=>?_)
 obtain⟨A1,c1,x1,he,hg1,h1,rfl⟩:=h
 cases he
 refine gom ?_
 generalize hB:l++txtI s++uI vs.length=N at*
 have hbN:N.length=l.length+(txtI s).length+(uI vs.length).length:=by rw[←hB,List.length_append,List.length_append]
 have h00:N++(vs.take 0).flatMap kindI=N:=by simp
 refine WC.loop (X:=WrS) (fun s=>[(0, .pointer (some ⟨wb,0,none⟩)),(3, .int .i64 r),(17, .slice VA vs.length vc),(18, .int .i64 vs.length),(19, .int .i64 s.i)]) (fun s=>s.G) (fun s=>[wrB wb s.A s.n s.cap,s.x]) (fun s=>vs.length - s.i) (fun s=>s.i≤vs.length∧G.le s.G∧BVec s.A (N++(vs.take s.i).flatMap kindI) s.cap s.x∧s.n=(N++(vs.take s.i).flatMap kindI).length)
  ⟨0,A1,c1,x1,G',N.length⟩ ⟨Nat.zero_le _,Gh.le_trans hg0 hg1,by rw[h00];exact h1,by dsimp only;rw[h00]⟩ (by exact⟨rfl,rfl,rfl,rfl,rfl,trivial⟩) rfl (List.Sublist.refl _) (fun s hs=>?_)
 obtain⟨k,B,c,o,G2,n⟩:=s
 obtain⟨hk,hg2,hv,hn⟩:=hs
 dsimp only at hk hg2 hv hn
 have x2:=wrapS k (by omega)
 by_cases hlt:k<vs.length
 rotate_left
 ·have e2:decide ((k:Int)<(vs.length:Int))=false:=decide_eq_false (by omega)
  rw[List.take_of_length_le (by omega)]at hv hn
  have hbk:(N++vs.flatMap kindI).length=N.length+vs.length:=by rw[List.length_append,kinds_len]
  subst hn
  refine gom ?_
  refine WL.oo (OW.callK rfl (kind_fn G2 wb B _ c o hv r (by omega)) rfl fun v' G' H' h hg=>?_)
  obtain⟨A3,c3,x3,he,hg3,h3,rfl⟩:=h
  cases he
  have ht:N++vs.flatMap kindI++kindI r=l++headI s vs r:=by rw[headI,←hB];simp only[List.append_assoc]
  rw[ht]at h3⊢
  refine gom ?_
  refine WK.un ?_
  exact QF.p0 (.inr rfl) rfl  (⟨A3,c3,x3,rfl,Gh.le_trans hg2 hg3,h3,rfl⟩)
 have e2:decide ((k:Int)<(vs.length:Int))=true:=decide_eq_true (by omega)
 obtain⟨v,hvk⟩:∃v,vs[k]? =some v:=⟨_,List.getElem?_eq_getElem (by omega)⟩
 have hV2:=hV.mono hg2
 obtain⟨ib,io,ics,rfl,hik,hic⟩:=hV2 k v hvk
 obtain rfl:ics=[.int .i64 v]:=hik
 have x0:(0:Int)≤(k:Int):=by omega
 have x1':(k:Int)<(vs.length:Int):=by omega
 have hfs:=flat_snoc (f:=kindI) hvk
 have hfa:=flat_take (f:=kindI) (l:=vs) k
 have hkk:=kinds_len vs
 have hbk:(N++(vs.take k).flatMap kindI).length=N.length+((vs.take k).flatMap kindI).length:=List.length_append
 generalize hM:N++(vs.take k).flatMap kindI=M at*
 have hnext:N++(vs.take (k+1)).flatMap kindI=M++kindI v:=by rw[hfs,←List.append_assoc,hM]
 subst hn
 refine gom ?_
 refine WL.oo (OW.callK rfl (kind_fn G2 wb B M c o hv v (by omega)) rfl fun v' G' H' h hg=>?_)
 obtain⟨A3,c3,x3,he,hg3,h3,rfl⟩:=h
 cases he
 refine gom ?_
 refine WK.pick [wrB wb A3 (M++kindI v).length c3,x3] ?_
 exact WK.again ⟨k+1,A3,c3,x3,G',(M++kindI v).length⟩ (by dsimp only;omega) ⟨by dsimp only;omega,Gh.le_trans hg2 hg3,by dsimp only;rw[hnext];exact h3,by dsimp only;rw[hnext]⟩ (by exact⟨rfl,rfl,rfl,rfl,rfl,trivial⟩) rfl (List.Sublist.refl _)
set_option maxRecDepth 20000 in
set_option maxHeartbeats 2000000 in
theorem wprocs_fn (G:Gh) (wb:Nat) (A:Option Addr) (l:List Int) (cap:Nat) (x:Own) (hx:BVec A l cap x) (VA:Option Addr) (vs:List Pr) (vc:Nat) (hV:Sl Kd.prc G VA vs) (hvl:vs.length≤1000000000) (hcl:∀p∈vs,p.code.length≤9000000000000) (hl:l.length+(procsI vs).length≤80000000000000):
  Fn Tryz.prog 63 #[.pointer (some ⟨wb,0,none⟩), .slice VA vs.length vc] G [wrB wb A l.length cap,x] (WrP wb l (procsI vs) G):=by
 have hvl':(procsI vs).length=(uI vs.length).length+(vs.flatMap procI).length:=by rw[procsI,List.length_append]
 refine Fn.enter Tryz.func63 rfl rfl fun w0=>?_
 refine gom ?_
 refine WL.oo (OW.callK rfl (uint_fn G wb A l cap x hx (vs.length:Int) (by omega)) rfl fun v' G' H' h hg=>?_)
 obtain⟨A1,c1,x1,he,hg1,h1,rfl⟩:=h
 cases he
 refine gom ?_
 generalize hB:l++uI vs.length=N at*
 have hbN:N.length=l.length+(uI vs.length).length:=by rw[←hB,List.length_append]
 have h00:N++(vs.take 0).flatMap procI=N:=by simp
 refine WC.loop (X:=WrS) (fun s=>[(0, .pointer (some ⟨wb,0,none⟩)),(12, .slice VA vs.length vc),(13, .int .i64 vs.length),(14, .int .i64 s.i)]) (fun s=>s.G) (fun s=>[wrB wb s.A s.n s.cap,s.x]) (fun s=>vs.length - s.i) (fun s=>s.i≤vs.length∧G.le s.G∧BVec s.A (N++(vs.take s.i).flatMap procI) s.cap s.x∧s.n=(N++(vs.take s.i).flatMap procI).length)
  ⟨0,A1,c1,x1,G',N.length⟩ ⟨Nat.zero_le _,hg1,by rw[h00];exact h1,by dsimp only;rw[h00]⟩ (by exact⟨rfl,rfl,rfl,rfl,trivial⟩) rfl (List.Sublist.refl _) (fun s hs=>?_)
 obtain⟨k,B,c,o,G2,n⟩:=s
 obtain⟨hk,hg2,hv,hn⟩:=hs
 dsimp only at hk hg2 hv hn
 have x2:=wrapS k (by omega)
 by_cases hlt:k<vs.length
 rotate_left
 ·have e2:decide ((k:Int)<(vs.length:Int))=false:=decide_eq_false (by omega)
  have ht:N++vs.flatMap procI=l++procsI vs:=by rw[procsI,←hB,List.append_assoc]
  rw[List.take_of_length_le (by omega),ht]at hv hn
  subst hn
  refine gom ?_
  refine WK.un ?_
  exact QF.p0 (.inr rfl) rfl  (⟨B,c,o,rfl,hg2,hv,rfl⟩)
 have e2:decide ((k:Int)<(vs.length:Int))=true:=decide_eq_true (by omega)
 obtain⟨v,hvk⟩:∃v,vs[k]? =some v:=⟨_,List.getElem?_eq_getElem (by omega)⟩
 have hcv:=hcl v (List.mem_of_getElem? hvk)
 have hV2:=hV.mono hg2
 obtain⟨ib,io,ics,rfl,hik,hic⟩:=hV2 k v hvk
 obtain⟨QA,qc,CA,cc,rfl,hQ,hC⟩:=hik
 have x0:(0:Int)≤(k:Int):=by omega
 have x1':(k:Int)<(vs.length:Int):=by omega
 have hfs:=flat_snoc (f:=procI) hvk
 have hfa:=flat_at (f:=procI) hvk
 have hbk:(N++(vs.take k).flatMap procI).length=N.length+((vs.take k).flatMap procI).length:=List.length_append
 have hpi:(procI v).length=(headI v.name v.params v.result).length+1+(uI v.locals).length+(bytesR v.code).1.length:=by simp only[procI,List.length_append];rfl
 generalize hM:N++(vs.take k).flatMap procI=M at*
 have hnext:N++(vs.take (k+1)).flatMap procI=M++procI v:=by rw[hfs,←List.append_assoc,hM]
 subst hn
 refine gom ?_
 refine WL.oo (OW.alloc rfl fun b5=>?_)
 refine gom ?_
 refine WL.oo (OW.callK rfl (whead_fn G2 wb B M c o hv v.name QA v.params qc v.result hQ (by omega)) rfl fun v' G' H' h hg=>?_)
 obtain⟨A3,c3,x3,he,hg3,h3,rfl⟩:=h
 cases he
 obtain⟨G3,rfl⟩:∃G3,G3=G':=⟨_,rfl⟩
 have hb3:(M++headI v.name v.params v.result).length=M.length+(headI v.name v.params v.result).length:=List.length_append
 refine gom ?_
 refine WQ.one kr kr (OW.callK rfl (putBool_fn G3 A3 _ c3 x3 h3 v.exp (by omega)) rfl fun v' G' H' h hg=>?_)
 obtain⟨A4,c4,x4,he,rfl,h4,rfl⟩:=h
 cases he
 have hb4:(M++headI v.name v.params v.result++[boolI v.exp]).length=M.length+(headI v.name v.params v.result).length+1:=by rw[List.length_append,hb3];rfl
 refine gom ?_
 refine WQ.one kr kr (OW.store rfl rfl atA rfl (by rfl) (by rfl) kr (by rfl) ?_ rfl)
 refine gom ?_
 refine WL.oo (OW.callK rfl (uint_fn G3 wb A4 _ c4 x4 h4 v.locals (by omega)) rfl fun v' G' H' h hg=>?_)
 obtain⟨A5,c5,x5,he,hg5,h5,rfl⟩:=h
 cases he
 have hC5:=hC.mono (Gh.le_trans hg3 hg5)
 have hb5:(M++headI v.name v.params v.result++[boolI v.exp]++uI v.locals).length=M.length+(headI v.name v.params v.result).length+1+(uI v.locals).length:=by rw[List.length_append,hb4]
 refine gom ?_
 refine WL.oo (OW.callK rfl (Bytes_fn _ CA v.code cc hC5 hcv) rfl fun v' G' H' h hg=>?_)
 obtain⟨A6,c6,x6,he,rfl,h6,rfl⟩:=h
 cases he
 refine gom ?_
 refine WL.oo (OW.append rfl rfl kr kr h5 atA (h6.rds atA) (u8s_length _) (u8s_one _) (by omega) (by omega) rfl fun A7 c7 x7 hv7=>?_)
 have h7:=BVec.more hv7
 have hen:M++headI v.name v.params v.result++[boolI v.exp]++uI v.locals++(bytesR v.code).1=M++procI v:=by simp only[procI,List.append_assoc]
 have hl7:(M++headI v.name v.params v.result++[boolI v.exp]++uI v.locals).length+(bytesR v.code).1.length=(M++procI v).length:=by rw[←hen,List.length_append (bs:=(bytesR v.code).1)]
 rw[hen]at h7
 rw[hl7]
 refine gom ?_
 refine WK.pick [wrB wb A7 (M++procI v).length c7,x7] ?_
 exact WK.again ⟨k+1,A7,c7,x7,_,(M++procI v).length⟩ (by dsimp only;omega) ⟨by dsimp only;omega,Gh.le_trans hg2 (Gh.le_trans hg3 hg5),by dsimp only;rw[hnext];exact h7,by dsimp only;rw[hnext]⟩ (by exact⟨rfl,rfl,rfl,rfl,trivial⟩) rfl (List.Sublist.refl _)
end
section
open Go.MapKept
section
variable {P:Program} {Q:Exit→Act→World→Prop} {cx:Cx} {L:List (Nat×Value)} {G:Gh} {H:List Own} {K:List (Nat×Value)→Gh→List Own→Prop}
 {d:Option Tmp} {ty:TypeId} {pos:String} {af:Array Edge} {gu:Option (Nat×Bool)}
theorem OW.buildSliceN {t e n by_ len:Nat} {z:Value} {ps:Array (Nat×Operand)} {vs:List (Nat×Value)} {cells:List Value} (hp:evP L ps=some vs) [hu:Und P t (.slice e)] [hi:Inf P e n by_ z] (hlim:leLim (len*n)=true) (hz:z.cells.size=n)
  (hf:fillS (fun i=>some (i*n,n)) (repS len z.cells.toList) vs=some cells) (hd:dOk d cx.N=true)
  (k:∀b,cx.w0.heap.size≤b→K (putL d (.slice (some ⟨b,0,none⟩) len len) L) G (.blk b (.cells cells.toArray e (0,0))::H)):OW P Q ⟨d, .buildSlice t len ps,ty,pos,af,gu⟩ cx L G H K:=by
 refine OW.gives hd fun a w st=>⟨.slice (some ⟨w.heap.size,0,none⟩) len len,w.alloc (.cells cells.toArray e),G, .blk w.heap.size (.cells cells.toArray e (0,0))::H, .inl ?_,st.sat.alloc _,Stp.alloc _,k _ st.stp.size⟩
 have hl:=Nat.le_of_ble_eq_true hlim
 have he:=Sk.evP st.slot hp
 have hl':¬(16777216<len*n):=by omega
 have hf1:=fill_of_fillS _ _ _ _ hf
 rw[←base_repS z.cells n len hz]at hf1
 have hrun:∀PS:Array (Nat×Value),PS.toList=vs→(Instr.buildSlice t len PS).run P w= .ok (.slice (some ⟨w.heap.size,0,none⟩) len len) (w.alloc (.cells cells.toArray e)):=by
  intro PS he
  by_cases h0:len*n=0
  ·rw[h0]at hf1
   simp only[Array.range_zero',List.map_toArray,List.map_nil]at hf1
   simp[Instr.buildSlice,run_underlying hu.h,hi.sizeOf,h0,he,newRow,Array.range_zero',hf1]
  ·simp[Instr.buildSlice,run_underlying hu.h,hi.sizeOf,hi.zeroValue,h0,hl',he,hf1,newRow]
 simp only[execOp,Sem.run_bind,hrun _ he,Result.andThen_ok]
 rfl
theorem OW.convMark {t e b n cap j:Nat} {x:Operand} {c:Array Value} (hx:ev L x=some (.slice (some ⟨b,0,none⟩) n cap)) [hu:Und P t (.slice e)] [he:Und P e (.int .u8)] (hj:At H j (.blk b (.cells c e (0,0)))) (hb:cx.w0.heap.size≤b) (hd:dOk d cx.N=true)
  (k:G.le (G.add b c)→K (putL d (.slice (some ⟨b,0,none⟩) n cap) L) (G.add b c) (H.eraseIdx j)):OW P Q ⟨d, .convert t t x,ty,pos,af,gu⟩ cx L G H K:=by
 intro next hn a w st
 have hh:w.heap[b]? =some (.cells c e (0,0)):=st.sat.hold _ (List.mem_of_getElem? hj.get)
 have hbl:b<w.heap.size:=(Array.getElem?_eq_some_iff.1 hh).1
 have hsh:w.shape? b=some (e,c.size):=by unfold World.shape?;rw[hh]
 have hrun:(execOp a.eval ⟨d, .convert t t x,ty,pos,af,gu⟩).run P w= .ok (.value (.slice (some ⟨b,0,none⟩) n cap)) (w.freeze ⟨b,c.size,none⟩ 1):=by
  simp[execOp,st.eval hx,convert,run_underlying hu.h,run_underlying he.h,markStringish,hsh]
 have hheap:∀b',b'≠b→(w.freeze ⟨b,c.size,none⟩ 1).heap[b']? =w.heap[b']? :=fun b' hne=>by
  unfold World.freeze
  rw[if_neg (by decide)]
  show(w.heap.modify b _)[b']? =_
  rw[Array.getElem?_modify,if_neg (fun e=>hne e.symm)]
 have hat:∃fr,(w.freeze ⟨b,c.size,none⟩ 1).heap[b]? =some (.cells c e fr):=by
  unfold World.freeze
  rw[if_neg (by decide)]
  refine⟨(c.size,c.size+1),?_⟩
  show(w.heap.modify b _)[b]? =_
  rw[Array.getElem?_modify,if_pos rfl,hh]
  rfl
 have hcell:∀b' o,(w.freeze ⟨b,c.size,none⟩ 1).cell? ⟨b',o,none⟩=w.cell? ⟨b',o,none⟩:=fun b' o=>by
  by_cases hbb:b'=b
  ·subst hbb
   obtain⟨fr,h⟩:=hat
   simp only[World.cell?,h,hh]
  ·simp only[World.cell?,hheap b' hbb]
 have hsz:(w.freeze ⟨b,c.size,none⟩ 1).heap.size=w.heap.size:=by
  unfold World.freeze
  rw[if_neg (by decide)]
  exact Array.size_modify
 have hfz:=st.sat.frozen hj
 have hap:=List.pairwise_cons.1 (st.sat.perm (perm_at hj)).apart
 have hsat:Sat (G.add b c) (H.eraseIdx j) (w.freeze ⟨b,c.size,none⟩ 1):=by
  refine⟨fun b' o v e=>by rw[hcell];exact hfz.2.agr b' o v e,fun y hy=>?_,hfz.2.apart,hfz.2.ghost⟩
  have hy0:=hfz.2.hold y hy
  have hne:=hap.1 y hy
  cases y with
  | blk b2 o2=>
   have:b2≠b:=fun e=>hne b 0 rfl e.symm
   show _=_
   rw[hheap b2 this];exact hy0
  | spare b2 lo hi=>
   intro hlt
   obtain⟨c2,T2,h1,h2⟩:=hy0 hlt
   have:b2≠b:=fun e=>hne b lo rfl ⟨e.symm,Nat.le_refl _,hlt⟩
   exact⟨c2,T2,by rw[hheap b2 this];exact h1,h2⟩
 have hstp:Stp cx.S cx.G0 cx.w0 (G.add b c) (H.eraseIdx j) (w.freeze ⟨b,c.size,none⟩ 1):=by
  refine⟨by rw[hsz];exact st.stp.size,fun b' hb'=>?_,Gh.le_trans st.stp.gle hfz.1,fun b' o v e=>?_,fun y hy=>st.stp.own y (List.mem_of_mem_eraseIdx hy),?_⟩
  ·have h:=st.stp.keep b' hb'
   have hne:b'≠b:=by omega
   unfold KeepB at h⊢
   rw[hheap b' hne];exact h
  ·unfold Gh.add at e
   split at e
   ·rename_i hbb;subst hbb;exact .inr (.inr hb)
   ·exact st.stp.gnew b' o v e
  ·have h:=st.stp.weq
   unfold World.freeze
   rw[if_neg (by decide)]
   exact h
 unfold Oper.wp
 rw[hrun]
 exact hn _ _ _ (k hfz.1) _ _ (st.put d _ hd hsat hstp)
end
attribute [local irreducible] Tryz.prog
theorem freshF_fn (G:Gh) (A:Option Addr) (l:List Int) (cap:Nat) (hA:Sl (Kd.int .u8) G A l) (hl:l.length≤100000000000000) (k:Nat) (hk:k≤1000):
  Fn Tryz.prog 151 #[.slice A l.length cap, .int .i64 k] G [] fun e G' H'=>∃A' cap' x',e= .returned (.slice A' l.length cap')∧G=G'∧BVec A' l cap' x'∧H'=[x']:=by
 refine Fn.enter Tryz.func151 rfl rfl fun w0=>?_
 have x2:IntKind.i64.wrap ((l.length:Int)+k)=((l.length+k:Nat):Int):=by rw[wrapI (by omega) (by omega)];rfl
 have hrd:∀H:List Own,Rds G H A (u8s l):=fun H=>by
  obtain⟨cs,h1,h2⟩:=hA.kfl (H:=H) (by decide)
  have:cs=u8s l:=by
   apply List.ext_getElem?
   intro i
   cases hi:l[i]? with
   | none=>
    have:cs.length≤i:=by have:=h2.len;rw[List.getElem?_eq_none_iff]at hi;simp only[Kd.int]at this;omega
    rw[List.getElem?_eq_none this,u8s,List.getElem?_map,hi];rfl
   | some z=>
    have h3:=h2.at_ i z hi
    have h4:(cs.drop (i*1)).take 1=[.int .u8 z]:=h3
    rw[u8s,List.getElem?_map,hi]
    have h5:((cs.drop (i*1)).take 1)[0]? =some (.int .u8 z):=by rw[h4];rfl
    rw[List.getElem?_take,if_pos (by decide),List.getElem?_drop,Nat.mul_one,Nat.add_zero]at h5
    exact h5
  rw[←this];exact h1
 refine gom ?_
 refine WL.oo (OW.makeSlice2 (n:=1) (z:= .int .u8 0) (m:=(l.length:Int)) (c:=((l.length+k:Nat):Int)) rfl rfl rfl (by omega) (by omega) (by omega) (by omega) rfl fun tb o1 ho1=>?_)
 rw[Int.toNat_natCast,Int.toNat_natCast]at ho1⊢
 refine gom ?_
 refine WL.oo (OW.copy rfl rfl kr ho1 .here (hrd _) (u8s_length l) (u8s_one l) (Nat.le_refl _) rfl fun o2 ho2=>?_)
 have h2:BVec (some ⟨tb,0,none⟩) l (l.length+k) o2:=by
  unfold BVec
  rw[List.drop_eq_nil_of_le (by rw[repS_length];exact Nat.le_refl _),List.append_nil]at ho2
  exact ho2
 refine gom ?_
 refine WC.rt ?_
 exact QF.p1 (.inl rfl) rfl (.tmp rfl) (⟨_,_,o2,rfl,rfl,h2,rfl⟩)
theorem putTextF_fn (G:Gh) (A:Option Addr) (l:List Int) (cap:Nat) (hA:Sl (Kd.int .u8) G A l) (SA:Option Addr) (ss:List ByteArray) (sc:Nat) (hS:Sl Kd.str G SA ss) (hsl:ss.length≤1000) (hl:l.length+(strsI ss).length≤100000000000000):
  Fn Tryz.prog 104 #[.slice A l.length cap, .slice SA ss.length sc] G [] fun e G' H'=>∃A' cap' x',e= .returned (.slice A' (l++strsI ss).length cap')∧G=G'∧BVec A' (l++strsI ss) cap' x'∧H'=[x']:=by
 refine Fn.enter Tryz.func104 rfl rfl fun w0=>?_
 refine gom ?_
 refine WL.oo (OW.callK rfl (freshF_fn G A l cap hA (by omega) 16 (by decide)) rfl fun v' G' H' h hg=>?_)
 obtain⟨A1,c1,x1,he,rfl,h1,rfl⟩:=h
 cases he
 refine gom ?_
 refine WL.oo (OW.callK rfl (texts_fn G A1 l c1 x1 h1 SA ss sc hS hsl hl) rfl fun v' G' H' h hg=>?_)
 obtain⟨A2,c2,x2,he,rfl,h2,rfl⟩:=h
 cases he
 refine gom ?_
 refine WC.rt ?_
 exact QF.p1 (.inl rfl) rfl (.tmp rfl) (⟨_,_,x2,rfl,rfl,h2,rfl⟩)
theorem textF_fn (G:Gh) (wb:Nat) (A:Option Addr) (l:List Int) (cap:Nat) (hA:Sl (Kd.int .u8) G A l) (s:ByteArray) (hl:l.length+s.size≤90000000000000):
  Fn Tryz.prog 59 #[.pointer (some ⟨wb,0,none⟩), .string s] G [wrB wb A l.length cap] (WrP wb l (txtI s) G):=by
 refine Fn.enter Tryz.func59 rfl rfl fun w0=>?_
 have hst:strsI [s]=txtI s:=by simp[strsI,txtI]
 have h10:=uintL_len10 (n:=s.size) (by omega)
 have hlt:(txtI s).length≤s.size+10:=by rw[txtI,List.length_append,strI_length];omega
 refine gom ?_
 refine WL.op kr (OW.buildSlice rfl kr kr (by rfl) rfl fun b6=>?_)
 refine WL.freezeK (k:=Kd.str) (A:=some ⟨_,0,none⟩) (T:=9) (cap:=1) (l:=[s]) (by decide) ⟨[.string s],⟨rfl, .inr ⟨_,_,rfl,rfl,Nat.le_refl _,rfl,rfl⟩⟩,KFl.one (k:=Kd.str) rfl⟩ .here fun G1 hg1 hS=>?_
 have hA1:=hA.mono hg1
 refine gom ?_
 refine WL.oo (OW.callK rfl (putTextF_fn G1 A l cap hA1 _ [s] 1 hS (by simp) (by rw[hst];omega)) rfl fun v' G' H' h hg=>?_)
 obtain⟨A1,c1,x1,he,rfl,h1,rfl⟩:=h
 cases he
 rw[hst]at h1⊢
 refine gom ?_
 refine WK.un ?_
 exact QF.p0 (.inr rfl) rfl  (⟨A1,c1,x1,rfl,hg1,h1,rfl⟩)
end
section
open Go.MapKept
attribute [local irreducible] Tryz.prog objAns bytesR
def ndI (n:Nd):List Int:=txtI n.path++headI n.name n.params n.result
def magI:List Int:=[116,79,49]
def objI (o:Ob):List Int:=magI++txtI o.path++valsI o.consts++uI o.needs.length++o.needs.flatMap ndI++procsI o.procs
noncomputable def bytesO (o:Ob):List Int:=if(objAns o).2.2=0 then objI o else []
set_option maxRecDepth 20000 in
set_option maxHeartbeats 2000000 in
theorem objBytes_fn (G:Gh) (hE:Env G) (o:Ob) (CA NA PA:Option Addr) (cc nc pc:Nat) (hO:ORep G o CA NA PA) (hL:OLim o) (hi:∀v∈o.consts, -9223372036854775808≤v.i∧v.i≤9223372036854775807) (hcl:o.consts.length≤1000000000) (hnl:o.needs.length≤1000000000) (hpl:o.procs.length≤1000000000)
  (hpc:∀p∈o.procs,p.code.length≤9000000000000) (hl:(objI o).length≤70000000000000):
  Fn Tryz.prog 27 #[.agg (obC o CA NA PA cc nc pc)] G [] fun e G' H'=>∃A' cap' x',e= .returned (.tuple #[.slice A' (bytesO o).length cap', .int .i64 (objAns o).2.2])∧G.le G'∧BVec A' (bytesO o) cap' x'∧H'=[x']:=by
 refine Fn.enter Tryz.func27 rfl rfl fun w0=>?_
 refine WC.seq ?_
 refine WC.region ?_
 refine WL.oo (OW.box rfl rfl fun b1=>?_)
 refine gom ?_
 refine WL.oo (OW.callK rfl (Object_fn G hE o CA NA PA cc nc pc hO hL) rfl fun v' G' H' h hg=>?_)
 obtain⟨he,hg1,rfl⟩:=h
 cases he
 obtain⟨G1,rfl⟩:∃G1,G1=G':=⟨_,rfl⟩
 refine gom ?_
 refine WL.oo (OW.alloc rfl fun b4=>?_)
 refine gom ?_
 cases herr:decide ((objAns o).2.2=0)with
 | false=>
  have hne:=of_decide_eq_false herr
  have e1:((objAns o).2.2 != 0)=true:=by rw[bne_iff_ne];exact hne
  have e0:((objAns o).2.2==0)=false:=by rw[beq_eq_false_iff_ne];exact hne
  have hb:bytesO o=[]:=by rw[bytesO,if_neg hne]
  rw[hb]
  first | rw[e1] | rw[e0]
  refine gom ?_
  refine WC.nothing ?_
  refine WC.rt ?_
  exact QF.p2 (.inl rfl) rfl (.tmp rfl) (.tmp rfl) (⟨none,0,_,rfl,hg1,BVec.nil,rfl⟩)
 | true=>
 have heq:=of_decide_eq_true herr
 have e1:((objAns o).2.2 != 0)=false:=by rw[heq];rfl
 have hb:bytesO o=objI o:=by rw[bytesO,if_pos heq]
 rw[hb,heq]
 have hol:(objI o).length=3+(txtI o.path).length+(valsI o.consts).length+(uI o.needs.length).length+(o.needs.flatMap ndI).length+(procsI o.procs).length:=by simp only[objI,List.length_append];rfl
 have htx:(txtI o.path).length=(uintL o.path.size).length+o.path.size:=by rw[txtI,List.length_append,strI_length]
 refine gom ?_
 refine WL.oo (OW.buildSliceN (cells:=[.int .u8 116, .int .u8 79, .int .u8 49]) rfl kr kr (by rfl) rfl fun mb hmb=>?_)
 refine WL.oo (OW.convMark rfl .here hmb rfl fun hgm=>?_)
 have hA:Sl (Kd.int .u8) (G1.add mb #[.int .u8 116, .int .u8 79, .int .u8 49]) (some ⟨mb,0,none⟩) magI:=
  KFl.sl (k:=Kd.int .u8) (l:=[116]++[79]++[49]) (by decide) (((KFl.one (cs:=[.int .u8 116]) rfl).append (KFl.one (cs:=[.int .u8 79]) rfl)).append (KFl.one (cs:=[.int .u8 49]) rfl)) (.inr ⟨mb,rfl,fun i v e=>by rw[Nat.zero_add,Gh.add_at];simpa using e⟩)
 generalize hG2:G1.add mb #[.int .u8 116, .int .u8 79, .int .u8 49]=G2 at hA hgm⊢
 refine gom ?_
 refine WL.oo (OW.box rfl rfl fun b21=>?_)
 refine gom ?_
 refine WQ.one kr kr (OW.callK rfl (textF_fn G2 b21 (some ⟨mb,0,none⟩) magI 3 hA o.path (by rw[show magI.length=3 from rfl];omega)) rfl fun v' G' H' h hg=>?_)
 obtain⟨A1,c1,x1,he,hg3,h1,rfl⟩:=h
 cases he
 obtain⟨G3,rfl⟩:∃G3,G3=G':=⟨_,rfl⟩
 have hg13:G1.le G3:=Gh.le_trans hgm hg3
 have hl1:(magI++txtI o.path).length=3+(txtI o.path).length:=List.length_append
 have hO3:=hO.mono (Gh.le_trans hg1 hg13)
 refine gom ?_
 refine WQ.one kr kr (OW.callK rfl (wvalues_fn G3 b21 A1 _ c1 x1 h1 CA o.consts cc hO3.consts hi hcl (by omega)) rfl fun v' G' H' h hg=>?_)
 obtain⟨A2,c2,x2,he,hg4,h2,rfl⟩:=h
 cases he
 obtain⟨G4,rfl⟩:∃G4,G4=G':=⟨_,rfl⟩
 have hl2:(magI++txtI o.path++valsI o.consts).length=3+(txtI o.path).length+(valsI o.consts).length:=by rw[List.length_append,hl1]
 refine gom ?_
 refine WQ.one kr kr (OW.callK rfl (uint_fn G4 b21 A2 _ c2 x2 h2 (o.needs.length:Int) (by omega)) rfl fun v' G' H' h hg=>?_)
 obtain⟨A3,c3,x3,he,hg5,h3,rfl⟩:=h
 cases he
 obtain⟨G5,rfl⟩:∃G5,G5=G':=⟨_,rfl⟩
 have hl3:(magI++txtI o.path++valsI o.consts++uI o.needs.length).length=3+(txtI o.path).length+(valsI o.consts).length+(uI o.needs.length).length:=by rw[List.length_append,hl2]
 refine gom ?_
 generalize hB:magI++txtI o.path++valsI o.consts++uI o.needs.length=N at*
 have hg15:G1.le G5:=Gh.le_trans hg13 (Gh.le_trans hg4 hg5)
 have h00:N++(o.needs.take 0).flatMap ndI=N:=by simp
 refine WC.pick [wrB b21 A3 N.length c3,x3, .blk b1 (.cells (obC o CA NA PA cc nc pc) 38 (0,0))] ?_
 refine WC.loop (X:=WrS) (fun s=>[(1, .pointer (some ⟨b1,0,none⟩)),(6, .pointer (some ⟨b21,0,none⟩)),(42, .slice NA o.needs.length nc),(43, .int .i64 o.needs.length),(44, .int .i64 s.i)]) (fun s=>s.G) (fun s=>[wrB b21 s.A s.n s.cap,s.x, .blk b1 (.cells (obC o CA NA PA cc nc pc) 38 (0,0))]) (fun s=>o.needs.length - s.i) (fun s=>s.i≤o.needs.length∧G1.le s.G∧BVec s.A (N++(o.needs.take s.i).flatMap ndI) s.cap s.x∧s.n=(N++(o.needs.take s.i).flatMap ndI).length)
  ⟨0,A3,c3,x3,G5,N.length⟩ ⟨Nat.zero_le _,hg15,by rw[h00];exact h3,by dsimp only;rw[h00]⟩ (by exact⟨rfl,rfl,rfl,rfl,rfl,trivial⟩) rfl (List.Sublist.refl _) (fun s hs=>?_)
 obtain⟨k,B,c,x,G6,n⟩:=s
 obtain⟨hk,hg6,hv,hn⟩:=hs
 dsimp only at hk hg6 hv hn
 have x2:=wrapS k (by omega)
 by_cases hlt:k<o.needs.length
 rotate_left
 ·have e2:decide ((k:Int)<(o.needs.length:Int))=false:=decide_eq_false (by omega)
  have hbk:(N++o.needs.flatMap ndI).length=N.length+(o.needs.flatMap ndI).length:=List.length_append
  rw[List.take_of_length_le (by omega)]at hv hn
  subst hn
  have hO6:=hO.mono (Gh.le_trans hg1 hg6)
  refine gom ?_
  refine WQ.one kr kr (OW.callK rfl (wprocs_fn G6 b21 B _ c x hv PA o.procs pc hO6.procs hpl hpc (by omega)) rfl fun v' G' H' h hg=>?_)
  obtain⟨A7,c7,x7,he,hg7,h7,rfl⟩:=h
  cases he
  have ht:N++o.needs.flatMap ndI++procsI o.procs=objI o:=by rw[objI,←hB]
  rw[ht]at h7⊢
  refine gom ?_
  refine WC.rt ?_
  exact QF.p2 (.inl rfl) rfl (.tmp rfl) (.tmp rfl) (⟨A7,c7,x7,rfl,Gh.le_trans hg1 (Gh.le_trans hg6 hg7),h7,rfl⟩)
 have e2:decide ((k:Int)<(o.needs.length:Int))=true:=decide_eq_true (by omega)
 obtain⟨v,hvk⟩:∃v,o.needs[k]? =some v:=⟨_,List.getElem?_eq_getElem (by omega)⟩
 have hV2:=(hO.mono (Gh.le_trans hg1 hg6)).needs
 obtain⟨ib,io,ics,rfl,hik,hic⟩:=hV2 k v hvk
 obtain⟨QA,qc,rfl,hQ⟩:=hik
 have x0:(0:Int)≤(k:Int):=by omega
 have x1':(k:Int)<(o.needs.length:Int):=by omega
 have hfs:=flat_snoc (f:=ndI) hvk
 have hfa:=flat_at (f:=ndI) hvk
 have hbk:(N++(o.needs.take k).flatMap ndI).length=N.length+((o.needs.take k).flatMap ndI).length:=List.length_append
 have hpi:(ndI v).length=(txtI v.path).length+(headI v.name v.params v.result).length:=List.length_append
 have htv:(txtI v.path).length=(uintL v.path.size).length+v.path.size:=by rw[txtI,List.length_append,strI_length]
 generalize hM:N++(o.needs.take k).flatMap ndI=M at*
 have hnext:N++(o.needs.take (k+1)).flatMap ndI=M++ndI v:=by rw[hfs,←List.append_assoc,hM]
 subst hn
 refine gom ?_
 refine WL.oo (OW.alloc rfl fun b8=>?_)
 refine gom ?_
 refine WQ.one kr kr (OW.callK rfl (text_fn G6 b21 B M c x hv v.path (by omega)) rfl fun v' G' H' h hg=>?_)
 obtain⟨A7,c7,x7,he,hg7,h7,rfl⟩:=h
 cases he
 obtain⟨G7,rfl⟩:∃G7,G7=G':=⟨_,rfl⟩
 have hl7:(M++txtI v.path).length=M.length+(txtI v.path).length:=List.length_append
 refine gom ?_
 refine WQ.one kr kr (OW.callK rfl (whead_fn G7 b21 A7 _ c7 x7 h7 v.name QA v.params qc v.result (hQ.mono hg7) (by omega)) rfl fun v' G' H' h hg=>?_)
 obtain⟨A8,c8,x8,he,hg8,h8,rfl⟩:=h
 cases he
 have hen:M++txtI v.path++headI v.name v.params v.result=M++ndI v:=by rw[ndI,List.append_assoc]
 rw[hen]at h8⊢
 refine gom ?_
 refine WK.pick [wrB b21 A8 (M++ndI v).length c8,x8, .blk b1 (.cells (obC o CA (some ⟨ib,io,none⟩) PA cc nc pc) 38 (0,0))] ?_
 exact WK.again ⟨k+1,A8,c8,x8,_,(M++ndI v).length⟩ (by dsimp only;omega) ⟨by dsimp only;omega,Gh.le_trans hg6 (Gh.le_trans hg7 hg8),by dsimp only;rw[hnext];exact h8,by dsimp only;rw[hnext]⟩ (by exact⟨rfl,rfl,rfl,rfl,rfl,trivial⟩) rfl (List.Sublist.refl _)
end
section
def l2 (t:Int):List SS:=[⟨true,false,[],[]⟩,⟨true,false,[],[t]⟩]
section
variable {w:Wd} {p:Pr} {i0:Int×Int} {t:Int} (hc:p.code=[i0,(10,0)]) (hp:p.params=[]) (hl:p.locals=0) (hn:nextR i0 0=[1]) (hw:behR w i0 ⟨true,false,[],[]⟩=⟨true,false,[],[t]⟩)
include hc hp hl hn hw
theorem two_closed:Closed w p (l2 t) where
 len:=by rw[hc];rfl
 wf s hs:=by
  simp only[l2,List.mem_cons,List.not_mem_nil,or_false]at hs
  rcases hs with rfl | rfl<;>exact⟨fun h=>(by cases h),fun _=>by rw[hl];rfl,fun h=>(by cases h),by simp⟩
 zero s hs:=by
  obtain rfl:_=s:=Option.some.inj hs
  have:beginS p=⟨true,false,[],[]⟩:=by unfold beginS;rw[hp,hl];rfl
  rw[this]
  exact SS.le_refl _
 step k i s hi hs hr x hx j s' hj ht:=by
  rw[hc]at hi
  match k,hi,hs with
  | 0,hi,hs=>
   obtain rfl:_=i:=Option.some.inj hi
   obtain rfl:_=s:=Option.some.inj hs
   rw[hn]at hx
   have hx1:x=1:=by simpa using hx
   obtain rfl:j=1:=by omega
   obtain rfl:_=s':=Option.some.inj ht
   rw[hw];exact SS.le_refl _
  | 1,hi,hs=>
   obtain rfl:_=i:=Option.some.inj hi
   exact absurd hx (by simp[nextR])
  | k+2,hi,hs=>cases hs
theorem two_least:Least w p (l2 t) where
 closed:=two_closed hc hp hl hn hw
 low m hm:=by
  have hcl:=two_closed hc hp hl hn hw
  have hlen:m.length=2:=by rw[hm.len,hc];rfl
  obtain⟨m0,h0⟩:∃s,m[0]? =some s:=⟨_,List.getElem?_eq_getElem (by omega)⟩
  obtain⟨m1,h1⟩:∃s,m[1]? =some s:=⟨_,List.getElem?_eq_getElem (by omega)⟩
  have hbe:beginS p=⟨true,false,[],[]⟩:=by unfold beginS;rw[hp,hl];rfl
  have hb:(beginS p).le m0:=hm.zero m0 h0
  rw[hbe]at hb
  have hr:m0.reached=true:=(hb rfl).1
  have h2:=hm.step 0 i0 m0 (by rw[hc];rfl) h0 hr 1 (by rw[hn];simp) 1 m1 rfl h1
  have h3:(behR w i0 ⟨true,false,[],[]⟩).le (behR w i0 m0):=behR_mono (hcl.wf _ (List.mem_cons_self ..)) (hm.wf _ (List.mem_of_getElem? h0)) hb
  have h4:=SS.le_trans h3 h2
  intro k s s' hs ht
  match k,hs,ht with
  | 0,hs,ht=>
   obtain rfl:_=s:=Option.some.inj hs
   rw[h0]at ht
   obtain rfl:_=s':=Option.some.inj ht
   exact hb
  | 1,hs,ht=>
   obtain rfl:_=s:=Option.some.inj hs
   rw[h1]at ht
   obtain rfl:_=s':=Option.some.inj ht
   rw[hw]at h4;exact h4
  | k+2,hs,ht=>cases hs
end
def p1:Pr:=⟨⟨#[102]⟩,true,[],0,1,[(1,0),(10,0)]⟩
def o1:Ob:=⟨⟨#[97]⟩,[⟨1,7,false,⟨#[]⟩⟩],[],[p1]⟩
def p2:Pr:=⟨⟨#[109,97,105,110]⟩,true,[],0,1,[(8,0),(10,0)]⟩
def n2:Nd:=⟨⟨#[97]⟩,⟨#[102]⟩,[],1⟩
def o2:Ob:=⟨⟨#[98]⟩,[],[n2],[p2]⟩
theorem word_f':wordR ⟨#[102]⟩=true:=by decide+kernel
theorem word_main:wordR ⟨#[109,97,105,110]⟩=true:=by decide+kernel
theorem file_a':fileR ⟨#[97]⟩=true:=by decide+kernel
theorem file_b':fileR ⟨#[98]⟩=true:=by decide+kernel
theorem least_1:Least o1.wd p1 (l2 1):=two_least rfl rfl rfl (by decide+kernel) (by decide+kernel)
theorem least_2:Least o2.wd p2 (l2 1):=two_least rfl rfl rfl (by decide+kernel) (by decide+kernel)
theorem procR_1:procR p1=true:=by rw[procR,show p1.name=⟨#[102]⟩from rfl,word_f'];rfl
theorem procR_2:procR p2=true:=by rw[procR,show p2.name=⟨#[109,97,105,110]⟩from rfl,word_main];rfl
theorem objR_1:objR o1=true:=by rw[objR,show o1.path=⟨#[97]⟩from rfl,file_a'];decide+kernel
theorem needR_2:needR n2=true:=by rw[needR,show n2.path=⟨#[97]⟩from rfl,show n2.name=⟨#[102]⟩from rfl,file_a',word_f'];rfl
theorem objR_2:objR o2=true:=by rw[objR,show o2.path=⟨#[98]⟩from rfl,file_b',show o2.needs=[n2]from rfl,List.all_cons,needR_2];rfl
theorem out_1:outAt o1.wd 0=(0,0):=by
 rw[outAt_eq (p:=p1) rfl,procOut,if_neg (by rw[procR_1];simp),if_neg (by decide+kernel),least_1.flow]
 decide+kernel
theorem out_2:outAt o2.wd 0=(0,0):=by
 rw[outAt_eq (p:=p2) rfl,procOut,if_neg (by rw[procR_2];simp),if_neg (by decide+kernel),least_2.flow]
 decide+kernel
theorem ans_1:objAns o1=(0,0,0):=by
 rw[objAns,objR_1,if_pos rfl]
 exact allR_none fun j hj=>by
  obtain rfl:j=0:=by simp[o1,Ob.wd]at hj;exact hj
  rw[out_1]
theorem ans_2:objAns o2=(0,0,0):=by
 rw[objAns,objR_2,if_pos rfl]
 exact allR_none fun j hj=>by
  obtain rfl:j=0:=by simp[o2,Ob.wd]at hj;exact hj
  rw[out_2]
end
section
open Go.MapKept
attribute [local irreducible] Tryz.prog
theorem two_ins {G:Gh} {bi:Nat} {a:Int} (h:Cs G bi 0 [.int .i64 a, .int .i64 0, .int .i64 10, .int .i64 0]):Sl Kd.ins G (some ⟨bi,0,none⟩) [(a,0),(10,0)]:=
 KFl.sl (k:=Kd.ins) (l:=[(a,0)]++[(10,0)]) (by decide) ((KFl.one (cs:=[.int .i64 a, .int .i64 0]) rfl).append (KFl.one (cs:=[.int .i64 10, .int .i64 0]) rfl)) (.inr ⟨bi,rfl,h⟩)
theorem sl_none {α:Type} {k:Kd α} {G:Gh} :Sl k G none []:=fun i x hx=>by cases hx
theorem rep_1 {G:Gh} {bc bp bi:Nat} (h1:Cs G bc 0 (vcells ⟨1,7,false,⟨#[]⟩⟩)) (h2:Cs G bp 0 (prC p1 none 0 (some ⟨bi,0,none⟩) 2).toList) (h3:Cs G bi 0 [.int .i64 1, .int .i64 0, .int .i64 10, .int .i64 0]):ORep G o1 (some ⟨bc,0,none⟩) none (some ⟨bp,0,none⟩) where
 consts:=KFl.sl (k:=Kd.val) (by decide) (KFl.one (k:=Kd.val) (x:=⟨1,7,false,⟨#[]⟩⟩) rfl) (.inr ⟨bc,rfl,h1⟩)
 needs:=sl_none
 procs:=KFl.sl (k:=Kd.prc) (by decide) (KFl.one (k:=Kd.prc) (cs:=(prC p1 none 0 (some ⟨bi,0,none⟩) 2).toList) (x:=p1) ⟨none,0,some ⟨bi,0,none⟩,2,rfl,sl_none,two_ins h3⟩) (.inr ⟨bp,rfl,h2⟩)
theorem rep_2 {G:Gh} {bn bp bi:Nat} (h1:Cs G bn 0 [.string n2.path, .string n2.name, .slice none 0 0, .int .i64 1]) (h2:Cs G bp 0 (prC p2 none 0 (some ⟨bi,0,none⟩) 2).toList) (h3:Cs G bi 0 [.int .i64 8, .int .i64 0, .int .i64 10, .int .i64 0]):ORep G o2 none (some ⟨bn,0,none⟩) (some ⟨bp,0,none⟩) where
 consts:=sl_none
 needs:=KFl.sl (k:=Kd.ned) (by decide) (KFl.one (k:=Kd.ned) (x:=n2) (cs:=[.string n2.path, .string n2.name, .slice none 0 0, .int .i64 1]) ⟨none,0,rfl,sl_none⟩) (.inr ⟨bn,rfl,h1⟩)
 procs:=KFl.sl (k:=Kd.prc) (by decide) (KFl.one (k:=Kd.prc) (cs:=(prC p2 none 0 (some ⟨bi,0,none⟩) 2).toList) (x:=p2) ⟨none,0,some ⟨bi,0,none⟩,2,rfl,sl_none,two_ins h3⟩) (.inr ⟨bp,rfl,h2⟩)
theorem lawOne_fn (G:Gh):Fn Tryz.prog 20 #[] G [] fun e G' H'=>∃CA PA,e= .returned (.agg (obC o1 CA none PA 1 0 1))∧G.le G'∧ORep G' o1 CA none PA∧H'=[]:=by
 refine Fn.enter Tryz.func20 rfl rfl fun w0=>?_
 refine gom ?_
 refine WL.oo (OW.alloc rfl fun b0=>?_)
 refine gom ?_
 refine WL.op kr (OW.buildSlice rfl kr kr (by rfl) rfl fun b4=>?_)
 refine gom ?_
 refine WL.oo (OW.alloc rfl fun b1=>?_)
 refine gom ?_
 refine WL.op kr (OW.buildSlice rfl kr kr (by rfl) rfl fun b7=>?_)
 refine gom ?_
 refine WL.op kr (OW.buildSlice rfl kr kr (by rfl) rfl fun b9=>?_)
 refine gom ?_
 refine WC.freezeC .here rfl fun G1 hg1 h1=>?_
 refine WC.freezeC .here rfl fun G2 hg2 h2=>?_
 refine WC.freezeC (.there .here) rfl fun G3 hg3 h3=>?_
 refine WC.rt ?_
 exact QF.p1 (.inl rfl) rfl (.cell rfl inferInstance inferInstance atA rfl rfl) (⟨_,_,rfl,Gh.le_trans hg1 (Gh.le_trans hg2 hg3),rep_1 (h2.mono hg3) (h1.mono (Gh.le_trans hg2 hg3)) h3,rfl⟩)
theorem lawTwo_fn (G:Gh):Fn Tryz.prog 43 #[] G [] fun e G' H'=>∃NA PA,e= .returned (.agg (obC o2 none NA PA 0 1 1))∧G.le G'∧ORep G' o2 none NA PA∧H'=[]:=by
 refine Fn.enter Tryz.func43 rfl rfl fun w0=>?_
 refine gom ?_
 refine WL.oo (OW.alloc rfl fun b0=>?_)
 refine gom ?_
 refine WL.op kr (OW.buildSlice rfl kr kr (by rfl) rfl fun b4=>?_)
 refine gom ?_
 refine WL.oo (OW.alloc rfl fun b1=>?_)
 refine gom ?_
 refine WL.op kr (OW.buildSlice rfl kr kr (by rfl) rfl fun b7=>?_)
 refine gom ?_
 refine WL.op kr (OW.buildSlice rfl kr kr (by rfl) rfl fun b9=>?_)
 refine gom ?_
 refine WC.freezeC .here rfl fun G1 hg1 h1=>?_
 refine WC.freezeC .here rfl fun G2 hg2 h2=>?_
 refine WC.freezeC (.there .here) rfl fun G3 hg3 h3=>?_
 refine WC.rt ?_
 exact QF.p1 (.inl rfl) rfl (.cell rfl inferInstance inferInstance atA rfl rfl) (⟨_,_,rfl,Gh.le_trans hg1 (Gh.le_trans hg2 hg3),rep_2 (h2.mono hg3) (h1.mono (Gh.le_trans hg2 hg3)) h3,rfl⟩)
end
section
attribute [local irreducible] Tryz.prog
theorem wrap_small {x:Int} (h0: -1000000000000000≤x) (h1:x≤1000000000000000):IntKind.i64.wrap x=x:=by rw[IntKind.wrap_i64];omega
def halted (n:Int):Ending:= .panicked [{ v:= .iface 251 (.agg #[.int .i64 n]),recovered:=false }]
theorem stuck_fn (G:Gh):Fn Tryz.prog 209 #[] G [] fun e G' H'=>e=halted 6∧G=G'∧H'=[]:=by
 refine Fn.enter (vs:=[]) Tryz.func209 rfl rfl fun w0=>?_
 refine WC.region ?_
 refine zw.build ?_
 refine zw.iface ?_
 refine WL.oo (OW.panic rfl (QF.panic (List.Sublist.refl _) ⟨rfl,rfl,rfl⟩))
theorem need_ok (G:Gh):Fn Tryz.prog 193 #[.bool true] G [] fun e G' H'=>e= .returned (.tuple #[])∧G=G'∧H'=[]:=by
 refine Fn.enter Tryz.func193 rfl rfl fun w0=>?_
 refine WC.seq ?_
 refine WC.region ?_
 refine zw.move ?_
 refine zw.not ?_
 refine WL.nil ?_
 refine WK.un ?_
 refine WC.cond_false rfl ?_
 exact WC.skip (QF.ret0 (.inr rfl) rfl (List.Sublist.refl _) ⟨rfl,rfl,rfl⟩)
theorem need_no (G:Gh):Fn Tryz.prog 193 #[.bool false] G [] fun e G' H'=>e=halted 6∧G=G'∧H'=[]:=by
 refine Fn.enter Tryz.func193 rfl rfl fun w0=>?_
 refine WC.seq ?_
 refine WC.region ?_
 refine zw.move ?_
 refine zw.not ?_
 refine WL.nil ?_
 refine WK.un ?_
 refine WC.cond_true rfl ?_
 refine WC.region ?_
 refine WL.oo (OW.call rfl (F:=[]) (List.Perm.refl _) (stuck_fn G) rfl (fun v G' H' h _=>by cases h.1) (fun ch G' H' h _=>?_) (fun G' H' h=>by cases h.1))
 obtain⟨he,rfl,rfl⟩:=h
 cases he
 exact QF.panic (List.Sublist.refl _) ⟨rfl,rfl,rfl⟩
theorem pop_fn (G:Gh) (b:Nat) (A:Option Addr) (cap:Nat) (p a:Int) (B:Option Addr) (m cm:Nat) (l1 l2:List V) (x:Own) (hv:Vec 52 4 A (l1.length+l2.length) cap (vflat (l1++l2)) x) (hb:l1.length+l2.length≤1000000000):
  Fn Tryz.prog 212 #[.pointer (some ⟨b,0,none⟩), .int .i64 l2.length] G [.blk b (.cells (frC A (l1.length+l2.length) cap p a B m cm) 245 (0,0)),x]
   fun e G' H'=>∃A' cap' x',e= .returned (.slice A' l2.length cap')∧G=G'∧H'=[x', .blk b (.cells (frC A l1.length cap p a B m cm) 245 (0,0)),x]∧Vec 52 4 A' l2.length cap' (vflat l2) x'∧Vec 52 4 A l1.length cap (vflat l1) x:=by
 have e1:IntKind.i64.wrap (((l1.length+l2.length:Nat):Int) - (l2.length:Int))=(l1.length:Int):=by rw[wrap_small]<;>omega
 have hd:(vflat (l1++l2)).drop (l1.length*4)=vflat l2:=by rw[vflat_append,←vflat_length,List.drop_left]
 have ht:(vflat (l1++l2)).take (l1.length*4)=vflat l1:=by rw[vflat_append,←vflat_length,List.take_left]
 have hle:=hv.le
 have hv2:Vec 52 4 A l1.length cap (vflat l1) x:=ht▸hv.cut (m:=l1.length) (by omega)
 refine Fn.enter Tryz.func212 rfl rfl fun w0=>?_
 refine WC.seq ?_
 refine WC.region ?_
 refine zw.assign ?_
 refine WL.nil ?_
 refine WK.un ?_
 refine WC.seq ?_
 refine WC.region ?_
 refine zw.move ?_
 refine zw.nil ?_
 refine zw.fa ?_
 refine zw.ld ?_
 refine zw.len ?_
 refine zw.move ?_
 refine zw.sub ?_
 rw[e1]
 refine zw.assign ?_
 refine WL.nil ?_
 refine WK.un ?_
 refine WC.seq ?_
 refine WC.region ?_
 refine zw.move ?_
 refine zw.nil ?_
 refine zw.fa ?_
 refine zw.ld ?_
 refine zw.move ?_
 refine WL.pp (Gp.sliceFrom rfl rfl (by omega) (by omega)) ?_
 have hr:=hv.rdsFrom (G:=G) (H:=[.blk b (.cells (frC A (l1.length+l2.length) cap p a B m cm) 245 (0,0)),x]) (.there .here) (lo:=l1.length) (by omega)
 rw[hd]at hr
 simp only[Int.toNat_natCast,Nat.add_sub_cancel_left]
 refine WL.oo (OW.callR rfl (perm_all _) (clone_vals G _ _ _ _ _ hr (vflat_length _) (vflat_one _) (fun hA=>?_) (by omega)) rfl (by rintro e G' H' ⟨A',cap',x',h,_⟩;exact⟨_,h⟩) fun v G' H' h hg=>?_)
 ·split at hA
  ·omega
  ·rcases hv.2 with⟨h1,h2,_⟩ | ⟨b',c',h1,_⟩
   ·omega
   ·rw[h1]at hA;cases hA
 obtain⟨A',cap',x',he,rfl,rfl,hv'⟩:=h
 cases he
 refine zw.assign ?_
 refine WL.nil ?_
 refine WK.un ?_
 refine WC.seq ?_
 refine WC.region ?_
 refine zw.move ?_
 refine zw.move ?_
 refine zw.nil ?_
 refine zw.fa ?_
 refine zw.ld ?_
 refine zw.move ?_
 refine WL.pp (Gp.sliceTo rfl rfl (by omega) (by omega)) ?_
 refine zw.nil ?_
 refine zw.fa ?_
 refine zw.st ?_
 refine WL.nil ?_
 refine WK.un ?_
 refine WC.seq ?_
 refine WC.region ?_
 refine zw.move ?_
 refine zw.assign ?_
 refine WL.nil ?_
 refine WK.un ?_
 refine WC.ret ?_
 (refine WK.un ?_)
 exact QF.ret1 (.inl rfl) rfl (.tmp rfl) (List.Sublist.refl _) ⟨A',cap',x',rfl,rfl,rfl,hv',hv2⟩
end
section
attribute [local irreducible] Tryz.prog
def vOK (v:V):Bool:=if v.t=1 then !v.b&&v.s==⟨#[]⟩else if v.t=2 then v.i==0&&v.s==⟨#[]⟩else if v.t=3 then v.i==0&& !v.b&&decide ((v.s.size:Int)≤4096)else false
theorem value_fnQ (G:Gh) (v:V):Fn Tryz.prog 138 #[.agg #[.int .i64 v.t, .int .i64 v.i, .bool v.b, .string v.s]] G [] fun e G' H'=>e= .returned (.bool (vOK v))∧G=G'∧H'=[]:=by
 refine Fn.enter Tryz.func138 rfl rfl fun w0=>?_
 refine WC.seq ?_
 refine WC.region ?_
 refine WL.oo (OW.box rfl rfl fun b1=>?_)
 refine zw.assign ?_
 refine WL.nil ?_
 refine WK.un ?_
 refine WC.seq ?_
 refine WC.seq ?_
 refine WC.region ?_
 refine zw.fa ?_
 refine zw.ld ?_
 refine WL.nil ?_
 refine WK.un ?_
 refine WC.block ?_  -- 0
 refine WC.seq ?_
 refine WC.region ?_
 refine zw.eq ?_
 refine zw.assign ?_
 refine WL.nil ?_
 refine WK.un ?_
 refine WC.cond rfl (fun hc=>?_) (fun hc=>?_)
 ·-- yes
  have ht:v.t=1:=by simpa using hc
  refine WC.seq ?_
  refine WC.region ?_
  refine zw.fa ?_
  refine zw.ld ?_
  refine zw.not ?_
  refine zw.move ?_
  generalize hb:v.b=b
  cases b
  all_goals (first | refine WL.p (Gp.fieldAddr rfl) (by rfl) rfl ?_ | refine WL.skip (by rfl) rfl ?_)
  all_goals (first | (first | (refine WL.v (Gv.load1 rfl atA (by first | rfl | assumption)) (by rfl) rfl ?_) | (refine WL.v (Gv.loadN rfl atA (by rfl) (by rfl)) (by rfl) rfl ?_) | (refine WL.v (Gv.loadG1 rfl (by assumption) rfl) (by rfl) rfl ?_) | (refine WL.v (Gv.loadG0 rfl (by assumption) rfl) (by rfl) rfl ?_) | (refine WL.v (Gv.loadGN rfl (by assumption) rfl) (by rfl) rfl ?_)) | refine WL.skip (by rfl) rfl ?_)
  all_goals (first | (first | refine WL.p (Gp.eqI rfl rfl) (by rfl) rfl ?_ | refine WL.p (Gp.eqS rfl rfl) (by rfl) rfl ?_ | refine WL.p (Gp.nilSl rfl) (by rfl) rfl ?_ | refine WL.p (Gp.eqB rfl rfl) (by rfl) rfl ?_) | refine WL.skip (by rfl) rfl ?_)
  all_goals (first | (first | refine WL.p (Gp.pickT rfl rfl) (by rfl) rfl ?_ | refine WL.p (Gp.pickF rfl rfl) (by rfl) rfl ?_) | refine WL.skip (by rfl) rfl ?_)
  all_goals (first | refine WL.p (Gp.assign rfl) (by rfl) rfl ?_ | refine WL.skip (by rfl) rfl ?_)
  all_goals refine WL.nil ?_
  all_goals (refine WK.un ?_)
  all_goals refine WC.ret ?_
  all_goals (refine WK.un ?_)
  all_goals exact QF.ret1 (.inl rfl) rfl (.tmp rfl) (List.nil_sublist _) ⟨by simp[vOK,ht,hb],rfl,rfl⟩
 ·-- no
  have ht1:¬v.t=1:=by simpa using hc
  refine WC.seq ?_
  refine WC.region ?_
  refine zw.eq ?_
  refine zw.assign ?_
  refine WL.nil ?_
  refine WK.un ?_
  refine WC.cond rfl (fun hc=>?_) (fun hc=>?_)
  ·-- yes
   have ht:v.t=2:=by simpa using hc
   refine WC.seq ?_
   refine WC.region ?_
   refine zw.fa ?_
   refine zw.ld ?_
   refine zw.eq ?_
   refine zw.move ?_
   generalize hb:(v.i==0)=b
   cases b
   all_goals (first | refine WL.p (Gp.fieldAddr rfl) (by rfl) rfl ?_ | refine WL.skip (by rfl) rfl ?_)
   all_goals (first | (first | (refine WL.v (Gv.load1 rfl atA (by first | rfl | assumption)) (by rfl) rfl ?_) | (refine WL.v (Gv.loadN rfl atA (by rfl) (by rfl)) (by rfl) rfl ?_) | (refine WL.v (Gv.loadG1 rfl (by assumption) rfl) (by rfl) rfl ?_) | (refine WL.v (Gv.loadG0 rfl (by assumption) rfl) (by rfl) rfl ?_) | (refine WL.v (Gv.loadGN rfl (by assumption) rfl) (by rfl) rfl ?_)) | refine WL.skip (by rfl) rfl ?_)
   all_goals (first | (first | refine WL.p (Gp.eqI rfl rfl) (by rfl) rfl ?_ | refine WL.p (Gp.eqS rfl rfl) (by rfl) rfl ?_ | refine WL.p (Gp.nilSl rfl) (by rfl) rfl ?_ | refine WL.p (Gp.eqB rfl rfl) (by rfl) rfl ?_) | refine WL.skip (by rfl) rfl ?_)
   all_goals (first | (first | refine WL.p (Gp.pickT rfl rfl) (by rfl) rfl ?_ | refine WL.p (Gp.pickF rfl rfl) (by rfl) rfl ?_) | refine WL.skip (by rfl) rfl ?_)
   all_goals (first | refine WL.p (Gp.assign rfl) (by rfl) rfl ?_ | refine WL.skip (by rfl) rfl ?_)
   all_goals refine WL.nil ?_
   all_goals (refine WK.un ?_)
   all_goals refine WC.ret ?_
   all_goals (refine WK.un ?_)
   all_goals exact QF.ret1 (.inl rfl) rfl (.tmp rfl) (List.nil_sublist _) ⟨by simp[vOK,ht,hb],rfl,rfl⟩
  ·-- no
   have ht2:¬v.t=2:=by simpa using hc
   refine WC.seq ?_
   refine WC.region ?_
   refine zw.eq ?_
   refine zw.assign ?_
   refine WL.nil ?_
   refine WK.un ?_
   refine WC.cond rfl (fun hc=>?_) (fun hc=>?_)
   ·-- yes
    have ht:v.t=3:=by simpa using hc
    refine WC.seq ?_
    refine WC.region ?_
    refine zw.fa ?_
    refine zw.ld ?_
    refine zw.eq ?_
    refine zw.move ?_
    generalize hb:(v.i==0)=b
    generalize hb':v.b=b'
    cases b<;>cases b'
    all_goals (first | refine WL.p (Gp.fieldAddr rfl) (by rfl) rfl ?_ | refine WL.skip (by rfl) rfl ?_)
    all_goals (first | (first | (refine WL.v (Gv.load1 rfl atA (by first | rfl | assumption)) (by rfl) rfl ?_) | (refine WL.v (Gv.loadN rfl atA (by rfl) (by rfl)) (by rfl) rfl ?_) | (refine WL.v (Gv.loadG1 rfl (by assumption) rfl) (by rfl) rfl ?_) | (refine WL.v (Gv.loadG0 rfl (by assumption) rfl) (by rfl) rfl ?_) | (refine WL.v (Gv.loadGN rfl (by assumption) rfl) (by rfl) rfl ?_)) | refine WL.skip (by rfl) rfl ?_)
    all_goals (first | refine WL.p (Gp.notB rfl) (by rfl) rfl ?_ | refine WL.skip (by rfl) rfl ?_)
    all_goals (first | (first | refine WL.p (Gp.pickT rfl rfl) (by rfl) rfl ?_ | refine WL.p (Gp.pickF rfl rfl) (by rfl) rfl ?_) | refine WL.skip (by rfl) rfl ?_)
    all_goals (first | refine WL.p (Gp.move rfl) (by rfl) rfl ?_ | refine WL.skip (by rfl) rfl ?_)
    all_goals (first | refine WL.p (Gp.fieldAddr rfl) (by rfl) rfl ?_ | refine WL.skip (by rfl) rfl ?_)
    all_goals (first | (first | (refine WL.v (Gv.load1 rfl atA (by first | rfl | assumption)) (by rfl) rfl ?_) | (refine WL.v (Gv.loadN rfl atA (by rfl) (by rfl)) (by rfl) rfl ?_) | (refine WL.v (Gv.loadG1 rfl (by assumption) rfl) (by rfl) rfl ?_) | (refine WL.v (Gv.loadG0 rfl (by assumption) rfl) (by rfl) rfl ?_) | (refine WL.v (Gv.loadGN rfl (by assumption) rfl) (by rfl) rfl ?_)) | refine WL.skip (by rfl) rfl ?_)
    all_goals (first | (first | refine WL.p (Gp.lenSl rfl) (by rfl) rfl ?_ | refine WL.p (Gp.lenS rfl) (by rfl) rfl ?_) | refine WL.skip (by rfl) rfl ?_)
    all_goals (first | (first | refine WL.p (Gp.leI rfl rfl) (by rfl) rfl ?_ | refine WL.p (Gp.leS rfl rfl) (by rfl) rfl ?_) | refine WL.skip (by rfl) rfl ?_)
    all_goals (first | (first | refine WL.p (Gp.pickT rfl rfl) (by rfl) rfl ?_ | refine WL.p (Gp.pickF rfl rfl) (by rfl) rfl ?_) | refine WL.skip (by rfl) rfl ?_)
    all_goals (first | refine WL.p (Gp.assign rfl) (by rfl) rfl ?_ | refine WL.skip (by rfl) rfl ?_)
    all_goals refine WL.nil ?_
    all_goals (refine WK.un ?_)
    all_goals refine WC.ret ?_
    all_goals (refine WK.un ?_)
    all_goals exact QF.ret1 (.inl rfl) rfl (.tmp rfl) (List.nil_sublist _) ⟨by simp[vOK,ht,hb,hb'],rfl,rfl⟩
   ·-- no
    have ht3:¬v.t=3:=by simpa using hc
    refine WC.skip ?_
    refine WK.un ?_
    refine WC.seq ?_
    refine WC.region ?_
    refine zw.assign ?_
    refine WL.nil ?_
    refine WK.un ?_
    refine WC.ret ?_
    (refine WK.un ?_)
    exact QF.ret1 (.inl rfl) rfl (.tmp rfl) (List.nil_sublist _) ⟨by simp[vOK,ht1,ht2,ht3],rfl,rfl⟩
end
section
attribute [local irreducible] Tryz.prog
def cmpI (a b:Int):Int:=if a<b then -1 else if b<a then 1 else 0
def cmpS (a b:ByteArray):Int:=if Op.bytesLess a.toList b.toList then -1 else if Op.bytesLess b.toList a.toList then 1 else 0
def reckonS (c a b:Int):Option Int:=
 if c=18 then some (IntKind.i64.wrap (a+b))else if c=19 then some (IntKind.i64.wrap (a - b))else if c=21 then some (IntKind.i64.wrap (a*b))
 else if c=22 then(if b=0 then none else some (IntKind.i64.wrap (a.tdiv b)))else if c=23 then(if b=0 then none else some (a.tmod b))else none
end
section
attribute [local irreducible] Tryz.prog
abbrev frB (b:Nat) (A:Option Addr) (n cap:Nat) (p a:Int) (B:Option Addr) (m cm:Nat):Own:= .blk b (.cells (frC A n cap p a B m cm) 245 (0,0))
abbrev VVec (A:Option Addr) (cap:Nat) (l:List V) (x:Own):Prop:=Vec 52 4 A l.length cap (vflat l) x
def Left (b:Nat) (H:List Own):Prop:=∃c:Array Value,c.size=4∧H=[.blk b (.cells c 245 (0,0))]
theorem Left.of (b:Nat) (A:Option Addr) (n cap:Nat) (p a:Int) (B:Option Addr) (m cm:Nat):Left b [frB b A n cap p a B m cm]:=⟨_,rfl,rfl⟩
theorem lay_ok (G:Gh) (mv:Value) (b:Nat) (A:Option Addr) (cap:Nat) (p a:Int) (B:Option Addr) (m cm:Nat) (l:List V) (x:Own) (v:V) (hv:VVec A cap l x) (hb:l.length<128):
  Fn Tryz.prog 194 #[mv, .pointer (some ⟨b,0,none⟩), .agg #[.int .i64 v.t, .int .i64 v.i, .bool v.b, .string v.s]] G [frB b A l.length cap p a B m cm,x]
   fun e G' H'=>∃A' cap' x',e= .returned (.tuple #[])∧G=G'∧H'=[frB b A' (l++[v]).length cap' p a B m cm,x']∧VVec A' cap' (l++[v]) x':=by
 refine Fn.enter Tryz.func194 rfl rfl fun w0=>?_
 refine WC.seq ?_
 refine WC.region ?_
 refine WL.oo (OW.box rfl rfl fun b1=>?_)
 refine WL.nil ?_
 refine WK.un ?_
 refine WC.seq ?_
 refine WC.region ?_
 refine zw.move ?_
 refine zw.nil ?_
 refine zw.fa ?_
 refine WL.oo (OW.callR rfl (perm_at (.there .here)) (high_fn G _ _ _ _ _ _ _ _ _) rfl (by rintro e G' H' ⟨h,_⟩;exact⟨_,h⟩) fun v' G' H' h hg=>?_)
 obtain⟨he,rfl,rfl⟩:=h
 cases he
 refine zw.lt ?_
 rw[show decide ((l.length:Int)<128)=true by simp;omega]
 refine WL.oo (OW.callR rfl (Hf:=[]) (List.Perm.refl _) (need_ok G) rfl (by rintro e G' H' ⟨h,_⟩;exact⟨_,h⟩) fun v' G' H' h hg=>?_)
 obtain⟨he,rfl,rfl⟩:=h
 cases he
 refine WL.nil ?_
 refine WK.un ?_
 refine WC.draw mixed ?_
 refine za.move 0 ?_
 refine za.nil 1 ?_
 refine za.fa 2 ?_
 refine za.ld 3 ?_
 refine WA.oo 4 rfl (OW.callR rfl (Hf:=[frB b A l.length cap p a B m cm,x]) (F:=[.blk b1 _]) (List.Perm.cons _ (List.Perm.swap _ _ _)) (push_fn G b A l.length cap p a B m cm (vflat l) x v hv (by omega)) rfl (by rintro e G' H' ⟨_,_,_,h,_⟩;exact⟨_,h⟩) fun v' G' H' h hg=>?_)
 obtain⟨A',cap',x',he,rfl,rfl,hv'⟩:=h
 cases he
 refine WA.done kr ?_
 refine WK.un ?_
 exact QF.ret0 (.inr rfl) rfl (H':=[frB b A' (l.length+1) cap' p a B m cm,x']) (by exact .cons_cons _ (.cons_cons _ (List.nil_sublist _))) ⟨A',cap',x',rfl,rfl,by simp,by
  have e1:vflat (l++[v])=vflat l++vcells v:=by rw[vflat_append];simp[vflat]
  have e2:(l++[v]).length=l.length+1:=by simp
  unfold VVec;rw[e1,e2];exact hv'⟩
theorem lay_no (G:Gh) (mv:Value) (b:Nat) (A:Option Addr) (n cap:Nat) (p a:Int) (B:Option Addr) (m cm:Nat) (vv:Value) (hb:128≤n):
  Fn Tryz.prog 194 #[mv, .pointer (some ⟨b,0,none⟩),vv] G [frB b A n cap p a B m cm]
   fun e G' H'=>e=halted 6∧G=G'∧Left b H':=by
 refine Fn.enter Tryz.func194 rfl rfl fun w0=>?_
 refine WC.seq ?_
 refine WC.region ?_
 refine WL.oo (OW.box rfl rfl fun b1=>?_)
 refine WL.nil ?_
 refine WK.un ?_
 refine WC.seq ?_
 refine WC.region ?_
 refine zw.move ?_
 refine zw.nil ?_
 refine zw.fa ?_
 refine WL.oo (OW.callR rfl (perm_at (.there .here)) (high_fn G _ _ _ _ _ _ _ _ _) rfl (by rintro e G' H' ⟨h,_⟩;exact⟨_,h⟩) fun v' G' H' h hg=>?_)
 obtain⟨he,rfl,rfl⟩:=h
 cases he
 refine zw.lt ?_
 rw[show decide ((n:Int)<128)=false by simp;omega]
 refine WL.oo (OW.call rfl (Hf:=[]) (List.Perm.refl _) (need_no G) rfl (fun v G' H' h _=>by cases h.1) (fun ch G' H' h _=>?_) (fun G' H' h=>by cases h.1))
 obtain⟨he,rfl,rfl⟩:=h
 cases he
 refine WK.un ?_
 exact QF.panic (H':=[frB b A n cap p a B m cm]) (by exact .cons_cons _ (List.nil_sublist _)) ⟨rfl,rfl,Left.of ..⟩
theorem take_ok (G:Gh) (mv:Value) (b:Nat) (A:Option Addr) (cap:Nat) (p a:Int) (B:Option Addr) (m cm:Nat) (l1 l2:List V) (x:Own) (hv:VVec A cap (l1++l2) x) (hb:l1.length+l2.length≤1000000000):
  Fn Tryz.prog 195 #[mv, .pointer (some ⟨b,0,none⟩), .int .i64 l2.length] G [frB b A (l1++l2).length cap p a B m cm,x]
   fun e G' H'=>∃A' cap' x',e= .returned (.slice A' l2.length cap')∧G=G'∧H'=[x',frB b A l1.length cap p a B m cm,x]∧VVec A' cap' l2 x'∧VVec A cap l1 x:=by
 have e0:(l1++l2).length=l1.length+l2.length:=List.length_append
 rw[e0]
 unfold VVec at hv
 rw[e0]at hv
 refine Fn.enter Tryz.func195 rfl rfl fun w0=>?_
 refine WC.seq ?_
 refine WC.region ?_
 refine zw.assign ?_
 refine WL.nil ?_
 refine WK.un ?_
 refine WC.seq ?_
 refine WC.region ?_
 refine zw.move ?_
 refine zw.nil ?_
 refine zw.fa ?_
 refine WL.oo (OW.callR rfl (perm_at .here) (high_fn G _ _ _ _ _ _ _ _ _) rfl (by rintro e G' H' ⟨h,_⟩;exact⟨_,h⟩) fun v' G' H' h hg=>?_)
 obtain⟨he,rfl,rfl⟩:=h
 cases he
 refine zw.move ?_
 refine zw.ge ?_
 rw[show decide ((l2.length:Int)≤((l1.length+l2.length:Nat):Int))=true by simp;omega]
 refine WL.oo (OW.callR rfl (Hf:=[]) (List.Perm.refl _) (need_ok G) rfl (by rintro e G' H' ⟨h,_⟩;exact⟨_,h⟩) fun v' G' H' h hg=>?_)
 obtain⟨he,rfl,rfl⟩:=h
 cases he
 refine WL.nil ?_
 refine WK.un ?_
 refine WC.seq ?_
 refine WC.region ?_
 refine zw.move ?_
 refine zw.nil ?_
 refine zw.fa ?_
 refine zw.move ?_
 refine WL.oo (OW.callR rfl (perm_all _) (pop_fn G b A cap p a B m cm l1 l2 x hv hb) rfl (by rintro e G' H' ⟨_,_,_,h,_⟩;exact⟨_,h⟩) fun v' G' H' h hg=>?_)
 obtain⟨A',cap',x',he,rfl,rfl,hv1,hv2⟩:=h
 cases he
 refine zw.assign ?_
 refine WL.nil ?_
 refine WK.un ?_
 refine WC.ret ?_
 (refine WK.un ?_)
 exact QF.ret1 (.inl rfl) rfl (.tmp rfl) (List.Sublist.refl _) ⟨A',cap',x',rfl,rfl,rfl,hv1,hv2⟩
theorem take_no (G:Gh) (mv:Value) (b:Nat) (A:Option Addr) (n cap:Nat) (p a:Int) (B:Option Addr) (m cm:Nat) (k:Int) (hb:(n:Int)<k):
  Fn Tryz.prog 195 #[mv, .pointer (some ⟨b,0,none⟩), .int .i64 k] G [frB b A n cap p a B m cm]
   fun e G' H'=>e=halted 6∧G=G'∧Left b H':=by
 refine Fn.enter Tryz.func195 rfl rfl fun w0=>?_
 refine WC.seq ?_
 refine WC.region ?_
 refine zw.assign ?_
 refine WL.nil ?_
 refine WK.un ?_
 refine WC.seq ?_
 refine WC.region ?_
 refine zw.move ?_
 refine zw.nil ?_
 refine zw.fa ?_
 refine WL.oo (OW.callR rfl (perm_at .here) (high_fn G _ _ _ _ _ _ _ _ _) rfl (by rintro e G' H' ⟨h,_⟩;exact⟨_,h⟩) fun v' G' H' h hg=>?_)
 obtain⟨he,rfl,rfl⟩:=h
 cases he
 refine zw.move ?_
 refine zw.ge ?_
 rw[show decide (k≤(n:Int))=false by simp;omega]
 refine WL.oo (OW.call rfl (Hf:=[]) (List.Perm.refl _) (need_no G) rfl (fun v G' H' h _=>by cases h.1) (fun ch G' H' h _=>?_) (fun G' H' h=>by cases h.1))
 obtain⟨he,rfl,rfl⟩:=h
 cases he
 refine WK.un ?_
 exact QF.panic (H':=[frB b A n cap p a B m cm]) (List.Sublist.refl _) ⟨rfl,rfl,Left.of ..⟩
end
section
attribute [local irreducible] Tryz.prog
theorem vflat_elem:∀(l:List V) (i:Nat) (v:V),l[i]? =some v→((vflat l).drop (i*4)).take 4=vcells v
 | [],i,v,h=>by simp at h
 | u::l,0,v,h=>by simp at h;subst h;simp[vflat,vcells]
 | u::l,i+1,v,h=>by
  have ih:=vflat_elem l i v (by simpa using h)
  have e:vflat (u::l)=vcells u++vflat l:=by simp[vflat]
  rw[e,List.drop_append,List.drop_eq_nil_of_le (by simp[vcells];omega),List.nil_append]
  rw[show(i+1)*4 - (vcells u).length=i*4 by simp[vcells];omega]
  exact ih
theorem take_drop_of_take {α:Type} (c l:List α) (n i k:Nat) (h:c.take n=l) (hk:i+k≤n):(c.drop i).take k=(l.drop i).take k:=by
 subst h
 apply List.ext_getElem?
 intro j
 simp only[List.getElem?_take,List.getElem?_drop]
 by_cases hj:j<k
 ·simp[hj,show i+j<n by omega]
 ·simp[hj]
theorem VVec.elem {A:Option Addr} {cap:Nat} {l:List V} {b:Nat} {c:Array Value} {i:Nat} {v:V} (hl:c.toList.take (l.length*4)=vflat l) (hi:l[i]? =some v):(c.toList.drop (0+((i:Nat):Int).toNat*4)).take 4=vcells v:=by
 have hlt:i<l.length:=(List.getElem?_eq_some_iff.1 hi).1
 rw[Int.toNat_natCast,Nat.zero_add,take_drop_of_take _ _ _ _ _ hl (by omega)]
 exact vflat_elem l i v hi
theorem typed_fnQ (G:Gh) (mv:Value) (b:Nat) (A:Option Addr) (cap:Nat) (p a:Int) (B:Option Addr) (m cm:Nat) (l1 l2:List V) (x:Own) (t:Int) (hv:VVec A cap (l1++l2) x) (hb:l1.length+l2.length≤1000000000):
  Fn Tryz.prog 196 #[mv, .pointer (some ⟨b,0,none⟩), .int .i64 l2.length, .int .i64 t] G [frB b A (l1++l2).length cap p a B m cm,x]
   fun e G' H'=>G=G'∧((∃A' cap' x',e= .returned (.slice A' l2.length cap')∧(∀v∈l2,v.t=t)∧H'=[x',frB b A l1.length cap p a B m cm,x]∧VVec A' cap' l2 x'∧VVec A cap l1 x)∨(e=halted 6∧(∃v∈l2,v.t≠t)∧Left b H')):=by
 refine Fn.enter Tryz.func196 rfl rfl fun w0=>?_
 refine WC.seq ?_
 refine WC.region ?_
 refine zw.assign ?_
 refine WL.nil ?_
 refine WK.un ?_
 refine WC.seq ?_
 refine WC.region ?_
 refine zw.move ?_
 refine zw.move ?_
 refine zw.move ?_
 refine WL.oo (OW.callR rfl (perm_all _) (take_ok G mv b A cap p a B m cm l1 l2 x hv hb) rfl (by rintro e G' H' ⟨_,_,_,h,_⟩;exact⟨_,h⟩) fun v' G' H' h hg=>?_)
 obtain⟨A',cap',x',he,rfl,rfl,hv1,hv2⟩:=h
 cases he
 refine zw.assign ?_
 refine WL.nil ?_
 refine WK.un ?_
 refine WC.seq ?_
 refine WC.seq ?_
 refine WC.region ?_
 refine zw.move ?_
 refine zw.len ?_
 refine zw.move ?_
 refine WL.nil ?_
 refine WK.un ?_
 refine WC.block ?_  -- 0
 refine WC.loop (X:=Nat) (fun i=>[(18, .int .i64 (i:Int)),(17, .int .i64 l2.length),(16, .slice A' l2.length cap'),(9, .slice A' l2.length cap'),(3, .int .i64 t)]) (fun _=>G) (fun _=>[x',frB b A l1.length cap p a B m cm,x]) (fun i=>l2.length - i) (fun i=>i≤l2.length∧∀j u,j<i→l2[j]? =some u→u.t=t) 0 ⟨Nat.zero_le _,fun j u h=>by omega⟩ (by exact⟨rfl,rfl,rfl,rfl,rfl,trivial⟩) rfl (List.Sublist.refl _) fun i hx=>?_
 obtain⟨hi,hall⟩:=hx
 refine WC.seq ?_
 refine WC.region ?_
 refine zw.lt ?_
 refine WL.nil ?_
 refine WK.un ?_
 refine WC.seq ?_
 refine WC.cond rfl (fun hc2=>?_) (fun hc2=>?_)
 ·-- yes
  have hlt:i<l2.length:=by have h:=hc2;simp at h;omega
  obtain⟨v,hvi⟩:∃v,l2[i]? =some v:=⟨_,List.getElem?_eq_getElem hlt⟩
  refine WC.skip ?_
  refine WK.un ?_
  refine WC.seq ?_
  refine WC.block ?_  -- 1
  refine WC.seq ?_
  refine WC.region ?_
  obtain⟨hl,⟨h1,h2,h3,h4⟩ | ⟨b',c,rfl,rfl,h1,h2,h3⟩⟩:=hv1
  ·omega
  refine zw.ix ?_
  refine WL.vv (Gv.loadN rfl .here (VVec.elem (A:=none) (cap:=0) (b:=0) h3 hvi) rfl) ?_
  refine WL.oo (OW.alloc rfl fun b3=>?_)
  refine zw.st ?_
  refine WL.nil ?_
  refine WK.un ?_
  refine WC.region ?_
  refine zw.fa ?_
  refine zw.ld ?_
  refine zw.move ?_
  refine zw.eq ?_
  by_cases ht:v.t=t
  ·rw [show(v.t==t)=true by simpa using ht]
   refine WL.oo (OW.callR rfl (Hf:=[]) (List.Perm.refl _) (need_ok G) rfl (by rintro e G' H' ⟨h,_⟩;exact⟨_,h⟩) fun v' G' H' h hg=>?_)
   obtain⟨he,rfl,rfl⟩:=h
   cases he
   refine WL.nil ?_
   refine WK.un ?_
   refine WC.region ?_
   refine zw.add ?_
   refine zw.move ?_
   refine WL.nil ?_
   refine WK.un ?_
   exact WK.again (i+1) (by omega) ⟨by omega,fun j u hj hu=>by
    rcases Nat.lt_or_ge j i with h | h
    ·exact hall j u h hu
    ·obtain rfl:j=i:=by omega
     rw[hvi]at hu;cases hu;exact ht⟩ (by refine⟨?_,rfl,rfl,rfl,rfl,trivial⟩;show some _=some _;rw[wrap_small (by omega) (by omega)];rfl) rfl (by exact .cons _ (List.Sublist.refl _))
  ·rw[show(v.t==t)=false by simpa using ht]
   refine WL.oo (OW.call rfl (Hf:=[]) (List.Perm.refl _) (need_no G) rfl (fun v G' H' h _=>by cases h.1) (fun ch G' H' h _=>?_) (fun G' H' h=>by cases h.1))
   obtain⟨he,rfl,rfl⟩:=h
   cases he
   refine WK.un ?_
   exact QF.panic (H':=[frB b A l1.length cap p a B m cm]) (by exact .cons _ (.cons _ (.cons_cons _ (List.nil_sublist _)))) ⟨rfl, .inr ⟨rfl,⟨v,List.mem_of_getElem? hvi,ht⟩,Left.of ..⟩⟩
 ·-- no
  have hge:i=l2.length:=by have h:=hc2;simp at h;omega
  refine WC.exit ?_
  refine WK.un ?_
  refine WC.seq ?_
  refine WC.region ?_
  refine zw.move ?_
  refine zw.assign ?_
  refine WL.nil ?_
  refine WK.un ?_
  refine WC.ret ?_
  (refine WK.un ?_)
  exact QF.ret1 (.inl rfl) rfl (.tmp rfl) (List.Sublist.refl _) ⟨rfl, .inl ⟨A',cap',x',rfl,fun v hvm=>by obtain⟨j,hj,rfl⟩:=List.getElem_of_mem hvm;exact hall j _ (by omega) (List.getElem?_eq_getElem hj),rfl,hv1,hv2⟩⟩
end
section
attribute [local irreducible] Tryz.prog
def ordN (u v:V):Int:=if cmpI u.i v.i=0 then cmpS u.s v.s else cmpI u.i v.i
def ordS (c:Int) (u v:V):Bool:=if c=14 then decide (ordN u v<0)else if c=15 then decide (ordN u v≤0)else if c=16 then decide (0<ordN u v)else decide (0≤ordN u v)
def ordOK (u v:V):Prop:=u.t=v.t∧(u.t=1∨u.t=3)
end
section
attribute [local irreducible] Tryz.prog
structure Pg where
 consts:List V
 procs:List Pr
abbrev mcC (c1 c2 c3:Value) (FA:Option Addr) (n cap:Nat) (en:Int) (v:V) (OA:Option Addr) (on ocap:Nat) (st:Int) (ed:Bool):Array Value:=
 #[c1,c2,c3, .slice FA n cap, .int .i64 en, .int .i64 v.t, .int .i64 v.i, .bool v.b, .string v.s, .slice OA on ocap, .int .i64 st, .bool ed]
abbrev mcB (mb:Nat) (c1 c2 c3:Value) (FA:Option Addr) (n cap:Nat) (en:Int) (v:V) (OA:Option Addr) (on ocap:Nat) (st:Int) (ed:Bool):Own:= .blk mb (.cells (mcC c1 c2 c3 FA n cap en v OA on ocap st ed) 160 (0,0))
def ptrs (bs:List Nat):List Value:=bs.map fun b=> .pointer (some ⟨b,0,none⟩)
abbrev PVec (A:Option Addr) (cap:Nat) (bs:List Nat) (x:Own):Prop:=Vec 241 1 A bs.length cap (ptrs bs) x
def sizedP (p:Pr):Bool:=decide ((p.params.length:Int)≤p.locals)&&decide (p.locals≤64)
theorem sized_fn (G:Gh) (nm:ByteArray) (ex:Bool) (PA:Option Addr) (n pc:Nat) (lo re:Int) (cv:Value):
  Fn Tryz.prog 137 #[.agg #[.string nm, .bool ex, .slice PA n pc, .int .i64 lo, .int .i64 re,cv]] G [] fun e G' H'=>e= .returned (.bool (decide ((n:Int)≤lo)&&decide (lo≤64)))∧G=G'∧H'=[]:=by
 refine Fn.enter Tryz.func137 rfl rfl fun w0=>?_
 refine WC.seq ?_
 refine WC.region ?_
 refine WL.oo (OW.box rfl rfl fun b1=>?_)
 refine zw.assign ?_
 refine WL.nil ?_
 refine WK.un ?_
 refine WC.seq ?_
 refine WC.region ?_
 refine zw.fa ?_
 refine zw.ld ?_
 refine zw.fa ?_
 refine zw.ld ?_
 refine zw.len ?_
 refine zw.ge ?_
 refine zw.move ?_
 generalize hb:decide ((n:Int)≤lo)=b
 cases b
 all_goals (first | refine WL.p (Gp.fieldAddr rfl) (by rfl) rfl ?_ | refine WL.skip (by rfl) rfl ?_)
 all_goals (first | (first | (refine WL.v (Gv.load1 rfl atA (by first | rfl | assumption)) (by rfl) rfl ?_) | (refine WL.v (Gv.loadN rfl atA (by rfl) (by rfl)) (by rfl) rfl ?_) | (refine WL.v (Gv.loadG1 rfl (by assumption) rfl) (by rfl) rfl ?_) | (refine WL.v (Gv.loadG0 rfl (by assumption) rfl) (by rfl) rfl ?_) | (refine WL.v (Gv.loadGN rfl (by assumption) rfl) (by rfl) rfl ?_)) | refine WL.skip (by rfl) rfl ?_)
 all_goals (first | (first | refine WL.p (Gp.leI rfl rfl) (by rfl) rfl ?_ | refine WL.p (Gp.leS rfl rfl) (by rfl) rfl ?_) | refine WL.skip (by rfl) rfl ?_)
 all_goals (first | (first | refine WL.p (Gp.pickT rfl rfl) (by rfl) rfl ?_ | refine WL.p (Gp.pickF rfl rfl) (by rfl) rfl ?_) | refine WL.skip (by rfl) rfl ?_)
 all_goals (first | refine WL.p (Gp.assign rfl) (by rfl) rfl ?_ | refine WL.skip (by rfl) rfl ?_)
 all_goals refine WL.nil ?_
 all_goals (refine WK.un ?_)
 all_goals refine WC.ret ?_
 all_goals (refine WK.un ?_)
 all_goals exact QF.ret1 (.inl rfl) rfl (.tmp rfl) (List.nil_sublist _) ⟨by simp,rfl,rfl⟩
theorem top_fn (G:Gh) (mb:Nat) (c1 c2 c3:Value) (FA:Option Addr) (cap:Nat) (en:Int) (v:V) (OA:Option Addr) (on ocap:Nat) (st:Int) (ed:Bool) (bs:List Nat) (b:Nat) (x:Own)
  (hv:PVec FA cap (bs++[b]) x) (hb:bs.length≤1000000000):
  Fn Tryz.prog 164 #[.pointer (some ⟨mb,0,none⟩)] G [mcB mb c1 c2 c3 FA (bs++[b]).length cap en v OA on ocap st ed,x]
   fun e G' H'=>e= .returned (.pointer (some ⟨b,0,none⟩))∧G=G'∧H'=[mcB mb c1 c2 c3 FA (bs++[b]).length cap en v OA on ocap st ed,x]:=by
 have hlen:(bs++[b]).length=bs.length+1:=by simp
 have hz:IntKind.i64.wrap (((bs++[b]).length:Int) - 1)=(bs.length:Int):=by rw[hlen,wrap_small (by omega) (by omega)];omega
 obtain⟨hl,⟨h1,h2,h3,h4⟩ | ⟨b',c',rfl,rfl,h1,h2,h3⟩⟩:=id hv
 ·simp at h2
 refine Fn.enter Tryz.func164 rfl rfl fun w0=>?_
 refine WC.seq ?_
 refine WC.region ?_
 refine zw.assign ?_
 refine WL.nil ?_
 refine WK.un ?_
 refine WC.seq ?_
 refine WC.draw mixed ?_
 refine za.move 0 ?_
 refine za.nil 1 ?_
 refine za.fa 2 ?_
 refine za.move 4 ?_
 refine za.nil 5 ?_
 refine za.fa 6 ?_
 refine za.ld 7 ?_
 refine za.len 8 ?_
 refine WA.pp 9 rfl (Gp.sub' rfl rfl hz) ?_
 refine za.ld 3 ?_
 refine za.ix 10 ?_
 refine WA.vv 11 rfl (Gv.load1 rfl (.there .here) (by have h:=congrArg (fun l=>l[bs.length]?) h3;simp[ptrs,hlen]at h;simpa using h)) ?_
 refine za.assign 12 ?_
 refine WA.done kr ?_
 refine WK.un ?_
 refine WC.ret ?_
 (refine WK.un ?_)
 exact QF.ret1 (.inl rfl) rfl (.tmp rfl) (List.Sublist.refl _) ⟨rfl,rfl,rfl⟩
theorem copied_fnQ (G:Gh) (b:Nat) (A:Option Addr) (cap:Nat) (p a:Int) (B:Option Addr) (cm:Nat) (l m:List V) (x y:Own) (hx:VVec A cap l x) (hy:VVec B cm m y) (hl:l.length≤1000000000) (hm:m.length≤1000000000):
  Fn Tryz.prog 165 #[.pointer (some ⟨b,0,none⟩)] G [frB b A l.length cap p a B m.length cm,x,y]
   fun e G' H'=>∃A' cap' B' cm' x' y',e= .returned (.agg (frC A' l.length cap' p a B' m.length cm'))∧G=G'∧H'=[x',y',frB b A l.length cap p a B m.length cm,x,y]∧VVec A' cap' l x'∧VVec B' cm' m y':=by
 have none_zero:∀ {A:Option Addr} {cap:Nat} {l:List V} {x:Own},VVec A cap l x→A=none→l.length=0:=by
  rintro A cap l x ⟨_,⟨_,h,_⟩ | ⟨b,c,h,_⟩⟩ hA
  ·exact h
  ·rw[h]at hA;cases hA
 refine Fn.enter Tryz.func165 rfl rfl fun w0=>?_
 refine WC.seq ?_
 refine WC.region ?_
 refine WL.oo (OW.alloc rfl fun b2=>?_)
 refine WL.nil ?_
 refine WK.un ?_
 refine WC.seq ?_
 refine WC.region ?_
 refine zw.move ?_
 refine zw.nil ?_
 refine zw.ld ?_
 refine WL.oo (OW.alloc rfl fun b3=>?_)
 refine zw.st ?_
 refine WL.nil ?_
 refine WK.un ?_
 refine WC.seq ?_
 refine WC.region ?_
 refine zw.move ?_
 refine zw.nil ?_
 refine zw.fa ?_
 refine zw.fa ?_
 refine zw.ld ?_
 refine WL.oo (OW.callK rfl (clone_vals G [frB b A l.length cap p a B m.length cm,x] A l.length cap (vflat l) (hx.rds (.there .here)) (vflat_length l) (vflat_one l) (none_zero hx) (by omega)) rfl fun v' G' H' h hg=>?_)
 obtain⟨A',cap',x',he,rfl,rfl,hx'⟩:=h
 cases he
 refine zw.fa ?_
 refine zw.fa ?_
 refine zw.st ?_
 refine WL.nil ?_
 refine WK.un ?_
 refine WC.seq ?_
 refine WC.region ?_
 refine zw.move ?_
 refine zw.nil ?_
 refine zw.fa ?_
 refine zw.ld ?_
 refine WL.oo (OW.callK rfl (clone_vals G [frB b A l.length cap p a B m.length cm,y] B m.length cm (vflat m) (hy.rds (.there .here)) (vflat_length m) (vflat_one m) (none_zero hy) (by omega)) rfl fun v' G' H' h hg=>?_)
 obtain⟨B',cm',y',he,rfl,rfl,hy'⟩:=h
 cases he
 refine zw.fa ?_
 refine zw.st ?_
 refine WL.nil ?_
 refine WK.un ?_
 refine WC.seq ?_
 refine WC.region ?_
 refine zw.ld ?_
 refine zw.st ?_
 refine WL.nil ?_
 refine WK.un ?_
 refine WC.rt ?_
 exact QF.p1 (.inl rfl) rfl (.cell rfl inferInstance inferInstance atA rfl rfl) (⟨A',cap',B',cm',x',y',rfl,rfl,rfl,hx',hy'⟩)
end
section
attribute [local irreducible] Tryz.prog
def V0:V:=⟨0,0,false,⟨#[]⟩⟩
theorem repS_V0:∀n,repS n (vcells V0)=vflat (List.replicate n V0)
 | 0=>rfl
 | n+1=>by rw[repS,repS_V0 n,List.replicate_succ];simp[vflat]
def padded (args:List V) (lo:Int):List V:=args++List.replicate (lo.toNat - args.length) V0
theorem padded_length {args:List V} {lo:Int} (h:(args.length:Int)≤lo):(padded args lo).length=lo.toNat:=by simp[padded];omega
theorem enter_fn (G:Gh) (mb:Nat) (c1 c3:Value) (PA:Option Addr) (pn pc:Nat) (procs:List Pr) (FA:Option Addr) (cap:Nat) (en:Int) (v:V) (OA:Option Addr) (on ocap:Nat) (st:Int) (ed:Bool) (bs:List Nat) (x:Own)
  (i:Nat) (p:Pr) (hp:procs[i]? =some p) (hpn:pn=procs.length) (hG:Sl Kd.prc G PA procs) (hv:PVec FA cap bs x) (hb:bs.length≤1000000000)
  (AA:Option Addr) (ac:Nat) (args:List V) (Ha:List Own) (hr:Rds G Ha AA (vflat args)) (hla:(args.length:Int)≤p.locals) (hlo:p.locals≤64):
  Fn Tryz.prog 140 #[.pointer (some ⟨mb,0,none⟩), .int .i64 i, .slice AA args.length ac] G (mcB mb c1 (.slice PA pn pc) c3 FA bs.length cap en v OA on ocap st ed::x::Ha)
   fun e G' H'=>∃FA' cap' b VA x' y,e= .returned (.tuple #[])∧G=G'∧H'=mcB mb c1 (.slice PA pn pc) c3 FA' (bs++[b]).length cap' en v OA on ocap st ed::x'::frB b none 0 0 i 0 VA (padded args p.locals).length (padded args p.locals).length:: .spare 0 0 0::y::Ha∧PVec FA' cap' (bs++[b]) x'∧VVec VA (padded args p.locals).length (padded args p.locals) y:=by
 have hi:i<procs.length:=(List.getElem?_eq_some_iff.1 hp).1
 obtain⟨pb,po,cs,rfl,⟨QA,qc,CA,cc,rfl,_,_⟩,hcs⟩:=hG i p hp
 have hpl:=padded_length hla
 rw[hpl]
 refine Fn.enter Tryz.func140 rfl rfl fun w0=>?_
 refine WC.seq ?_
 refine WC.region ?_
 refine zw.move ?_
 refine zw.move ?_
 refine zw.nil ?_
 refine zw.fa ?_
 refine zw.fa ?_
 refine zw.ld ?_
 refine zw.move ?_
 refine zw.ix ?_
 refine zw.fa ?_
 refine WL.vv (Gv.loadG1 rfl hcs rfl) ?_
 refine WL.oo (OW.makeSlice rfl rfl (by rfl) (by omega) (by omega) (by omega) rfl fun vb y hy=>?_)
 refine zw.build ?_
 refine WL.oo (OW.box rfl rfl fun b4=>?_)
 refine zw.assign ?_
 refine WL.nil ?_
 refine WK.un ?_
 rw[show repS p.locals.toNat (Value.cells (.agg #[.int .i64 0, .int .i64 0, .bool false, .string ⟨#[]⟩])).toList=vflat (List.replicate p.locals.toNat V0)from repS_V0 _]at hy
 refine WC.seq ?_
 refine WC.region ?_
 refine zw.move ?_
 refine zw.nil ?_
 refine zw.fa ?_
 refine zw.ld ?_
 refine zw.move ?_
 refine WL.oo (OW.copy rfl rfl rfl hy (.there .here) ((hr.sub (by exact .cons _ (.cons _ (.cons _ (.cons _ (List.Sublist.refl _))))))) (vflat_length args) (vflat_one args) (by omega) rfl fun y' hy'=>?_)
 refine WL.nil ?_
 refine WK.un ?_
 have e1:vflat args++(vflat (List.replicate p.locals.toNat V0)).drop (args.length*4)=vflat (padded args p.locals):=by
  rw[padded,vflat_append]
  congr 1
  have h2:List.replicate p.locals.toNat V0=List.replicate args.length V0++List.replicate (p.locals.toNat - args.length) V0:=by rw[List.replicate_append_replicate];congr 1;omega
  rw[h2,vflat_append,show args.length*4=(vflat (List.replicate args.length V0)).length by rw[vflat_length];simp,List.drop_left]
 rw[e1]at hy'
 refine WC.region ?_
 refine zw.move ?_
 refine zw.move ?_
 refine zw.nil ?_
 refine zw.fa ?_
 refine zw.ld ?_
 refine zw.move ?_
 refine WL.op kr (OW.buildSlice rfl kr kr (by rfl) rfl fun b5=>?_)
 refine WL.oo (OW.append rfl rfl kr kr hv atA (Rds.blk0 (cs:=ptrs [b4]) .here rfl) rfl rfl (by omega) (by omega) rfl fun FA' cap' x' hx'=>?_)
 refine zw.nil ?_
 refine zw.fa ?_
 refine zw.st ?_
 refine WL.nil ?_
 refine WK.un ?_
 refine WK.nothing ?_
 have e2:(bs++[b4]).length=bs.length+1:=by simp
 have e3:ptrs (bs++[b4])=ptrs bs++ptrs [b4]:=by simp[ptrs]
 refine WK.un ?_
 exact QF.p0 (.inr rfl) rfl  (⟨FA',cap',b4,some ⟨vb,0,none⟩,x',y',rfl,rfl,by rw[e2],by unfold PVec;rw[e2,e3];exact hx',by unfold VVec;rw[hpl];exact hy'⟩)
end
section
attribute [local irreducible] Tryz.prog
def tys (l:List V):List Int:=l.map (·.t)
def callR (procs:List Pr) (l:List V) (n:Int) (depth:Nat):Except Int (Pr×List V×List V):=
 if n<0 then .error 6 else
 match procs[n.toNat]? with
 | none=> .error 6
 | some q=>
  if sizedP q=false then .error 6
  else if l.length<q.params.length then .error 6
  else if tys (l.drop (l.length - q.params.length))≠q.params then .error 6
  else if q.result≠0∧128≤l.length - q.params.length then .error 6
  else if 64≤depth then .error 4
  else .ok (q,l.take (l.length - q.params.length),l.drop (l.length - q.params.length))
theorem cut_list {α:Type} (l:List α) (k:Nat) (h:k≤l.length):∃l1 l2,l=l1++l2∧l2.length=k∧l.take (l.length - k)=l1∧l.drop (l.length - k)=l2:=
 ⟨_,_,(List.take_append_drop (l.length - k) l).symm,by simp;omega,rfl,rfl⟩
theorem call_fn (G:Gh) (mb:Nat) (c1 c3:Value) (PA:Option Addr) (pc:Nat) (procs:List Pr) (FA:Option Addr) (fcap:Nat) (en:Int) (v:V) (OA:Option Addr) (on ocap:Nat) (st:Int) (ed:Bool) (bs:List Nat) (fx:Own)
  (hG:Sl Kd.prc G PA procs) (hfv:PVec FA fcap bs fx) (hbs:bs.length≤1000000000)
  (b:Nat) (A:Option Addr) (cap:Nat) (p a:Int) (B:Option Addr) (m cm:Nat) (l:List V) (x:Own) (hv:VVec A cap l x) (hl:l.length≤1000000) (n:Int):
  Fn Tryz.prog 197 #[.pointer (some ⟨mb,0,none⟩), .pointer (some ⟨b,0,none⟩), .int .i64 n] G [mcB mb c1 (.slice PA procs.length pc) c3 FA bs.length fcap en v OA on ocap st ed,fx,frB b A l.length cap p a B m cm,x]
   fun e G' H'=>G=G'∧match callR procs l n bs.length with
    | .error k=>e=halted k∧∃H1,Left b H1∧H'=mcB mb c1 (.slice PA procs.length pc) c3 FA bs.length fcap en v OA on ocap st ed::fx::H1
    | .ok (q,r,args)=>∃FA' fcap' b' VA x' y,e= .returned (.tuple #[])∧H'=[mcB mb c1 (.slice PA procs.length pc) c3 FA' (bs++[b']).length fcap' en v OA on ocap st ed,x',frB b A r.length cap p a B m cm,x,frB b' none 0 0 n 0 VA (padded args q.locals).length (padded args q.locals).length, .spare 0 0 0,y]∧
      PVec FA' fcap' (bs++[b']) x'∧VVec VA (padded args q.locals).length (padded args q.locals) y∧VVec A cap r x:=by
 refine Fn.enter Tryz.func197 rfl rfl fun w0=>?_
 refine WC.seq ?_
 refine WC.region ?_
 refine zw.move ?_
 refine zw.ge ?_
 refine zw.move ?_
 by_cases hn0:n<0
 ·rw[show decide ((0:Int)≤n)=false by simpa using hn0]
  refine zw.skip ?_
  refine zw.skip ?_
  refine zw.skip ?_
  refine zw.skip ?_
  refine zw.skip ?_
  refine zw.skip ?_
  refine zw.skip ?_
  refine zw.skip ?_
  refine zw.pick ?_
  refine zw.move ?_
  refine zw.skip ?_
  refine zw.skip ?_
  refine zw.skip ?_
  refine zw.skip ?_
  refine zw.skip ?_
  refine zw.skip ?_
  refine zw.skip ?_
  refine zw.skip ?_
  refine zw.skip ?_
  refine zw.pick ?_
  refine WL.oo (OW.call rfl (Hf:=[]) (List.Perm.refl _) (need_no _) rfl (fun v G' H' h _=>by cases h.1) (fun ch G' H' h _=>?_) (fun G' H' h=>by cases h.1))
  obtain⟨he,rfl,rfl⟩:=h
  cases he
  refine WK.un ?_
  exact QF.panicP (⟨rfl,by rw[callR,if_pos hn0];exact⟨rfl,_,Left.of b A l.length cap p a B m cm,rfl⟩⟩)
 obtain⟨i,rfl⟩:=Int.eq_ofNat_of_zero_le (Int.not_lt.1 hn0)
 rw[show decide ((0:Int)≤(i:Int))=true by simp]
 refine zw.move ?_
 refine zw.move ?_
 refine zw.nil ?_
 refine zw.fa ?_
 refine zw.fa ?_
 refine zw.ld ?_
 refine zw.len ?_
 refine zw.lt ?_
 by_cases hn1:i<procs.length
 rotate_left
 ·rw[show decide ((i:Int)<(procs.length:Int))=false by simp;omega]
  refine zw.pick ?_
  refine zw.move ?_
  refine zw.skip ?_
  refine zw.skip ?_
  refine zw.skip ?_
  refine zw.skip ?_
  refine zw.skip ?_
  refine zw.skip ?_
  refine zw.skip ?_
  refine zw.skip ?_
  refine zw.skip ?_
  refine zw.pick ?_
  refine WL.oo (OW.call rfl (Hf:=[]) (List.Perm.refl _) (need_no _) rfl (fun v G' H' h _=>by cases h.1) (fun ch G' H' h _=>?_) (fun G' H' h=>by cases h.1))
  obtain⟨he,rfl,rfl⟩:=h
  cases he
  refine WK.un ?_
  exact QF.panicP (⟨rfl,by rw[callR,if_neg hn0,Int.toNat_natCast,List.getElem?_eq_none (by omega)];exact⟨rfl,_,Left.of b A l.length cap p a B m cm,rfl⟩⟩)
 rw[show decide ((i:Int)<(procs.length:Int))=true by simp;omega]
 obtain⟨q,hq⟩:∃q,procs[i]? =some q:=⟨_,List.getElem?_eq_getElem hn1⟩
 obtain⟨pb,po,cs,rfl,⟨QA,qc,CA,cc,rfl,hQ,hC⟩,hcs⟩:=hG i q hq
 have hcR:callR procs l (i:Int) bs.length=if sizedP q=false then .error 6 else if l.length<q.params.length then .error 6 else if tys (l.drop (l.length - q.params.length))≠q.params then .error 6 else if q.result≠0∧128≤l.length - q.params.length then .error 6 else if 64≤bs.length then .error 4 else .ok (q,l.take (l.length - q.params.length),l.drop (l.length - q.params.length)):=by
  rw[callR,if_neg hn0,Int.toNat_natCast,hq]
 rw[hcR]
 refine zw.pick ?_
 refine zw.move ?_
 refine zw.move ?_
 refine zw.nil ?_
 refine zw.fa ?_
 refine zw.fa ?_
 refine zw.ld ?_
 refine zw.move ?_
 refine zw.ix ?_
 refine WL.vv (Gv.loadGN rfl hcs rfl) ?_
 refine WL.oo (OW.callR rfl (Hf:=[]) (List.Perm.refl _) (sized_fn G q.name q.exp QA q.params.length qc q.locals q.result (.slice CA q.code.length cc)) rfl (by rintro e G' H' ⟨h,_⟩;exact⟨_,h⟩) fun v' G' H' h hg=>?_)
 obtain⟨he,rfl,rfl⟩:=h
 cases he
 refine zw.pick ?_
 by_cases hs:sizedP q=false
 ·rw[show(decide ((q.params.length:Int)≤q.locals)&&decide (q.locals≤64))=false from hs]
  refine WL.oo (OW.call rfl (Hf:=[]) (List.Perm.refl _) (need_no _) rfl (fun v G' H' h _=>by cases h.1) (fun ch G' H' h _=>?_) (fun G' H' h=>by cases h.1))
  obtain⟨he,rfl,rfl⟩:=h
  cases he
  refine WK.un ?_
  exact QF.panicP (⟨rfl,by rw[if_pos hs];exact⟨rfl,_,Left.of b A l.length cap p a B m cm,rfl⟩⟩)
 rw[show(decide ((q.params.length:Int)≤q.locals)&&decide (q.locals≤64))=true by have h:=hs;unfold sizedP at h;simpa using h]
 rw[if_neg hs]
 have hs':(q.params.length:Int)≤q.locals∧q.locals≤64:=by have h:=hs;unfold sizedP at h;simpa using h
 refine WL.oo (OW.callR rfl (Hf:=[]) (List.Perm.refl _) (need_ok G) rfl (by rintro e G' H' ⟨h,_⟩;exact⟨_,h⟩) fun v' G' H' h hg=>?_)
 obtain⟨he,rfl,rfl⟩:=h
 cases he
 refine WL.nil ?_
 refine WK.un ?_
 refine WC.seq ?_
 refine WC.region ?_
 refine zw.move ?_
 refine zw.nil ?_
 refine zw.fa ?_
 refine zw.fa ?_
 refine zw.ld ?_
 refine zw.move ?_
 refine zw.ix ?_
 refine WL.vv (Gv.loadGN rfl hcs rfl) ?_
 refine WL.oo (OW.alloc rfl fun b1=>?_)
 refine zw.st ?_
 refine WL.nil ?_
 refine WK.un ?_
 refine WC.seq ?_
 refine WC.region ?_
 refine zw.move ?_
 refine zw.move ?_
 refine zw.fa ?_
 refine zw.ld ?_
 refine zw.len ?_
 by_cases hk:l.length<q.params.length
 ·rw[if_pos hk]
  refine WL.oo (OW.call rfl (Pk.perm pkA) (take_no G _ b A l.length cap p a B m cm q.params.length (by omega)) rfl (fun v' G' H' h hg=>by cases h.1) (fun ch G' H' h hg=>?_) (fun G' H' h=>by repeat (first | (cases h.1;done) | (cases h;done) | (obtain⟨_,h⟩:=h) | (rcases h with h | h))))
  obtain⟨he,rfl,c,hc,rfl⟩:=h
  cases he
  refine WK.un ?_
  exact QF.panicP ⟨rfl,rfl,_,⟨c,hc,rfl⟩,rfl⟩ pkA
 rw[if_neg hk]
 obtain⟨l1,l2,rfl,hl2,ht,hd⟩:=cut_list l q.params.length (by omega)
 rw[ht,hd]
 have hl1:(l1++l2).length - q.params.length=l1.length:=by rw[←hl2];simp
 rw[hl1]
 rw[←hl2]
 refine WL.oo (OW.callK rfl (take_ok G _ b A cap p a B m cm l1 l2 x hv (by simp at hl;omega)) rfl fun v' G' H' h hg=>?_)
 obtain⟨A',cap',x',he,rfl,rfl,hv1,hv2⟩:=h
 cases he
 refine zw.assign ?_
 refine WL.nil ?_
 refine WK.un ?_
 refine WC.seq ?_
 refine WC.seq ?_
 refine WC.region ?_
 refine zw.move ?_
 refine zw.len ?_
 refine zw.move ?_
 refine WL.nil ?_
 refine WK.un ?_
 refine WC.block ?_  -- 0
 refine WC.pk (H':=[x',frB b A l1.length cap p a B m cm,x, .blk b1 (.cells #[.string q.name, .bool q.exp, .slice QA l2.length qc, .int .i64 q.locals, .int .i64 q.result, .slice CA q.code.length cc] 47 (0,0)),mcB mb c1 (.slice (some ⟨pb,po,none⟩) procs.length pc) c3 FA bs.length fcap en v OA on ocap st ed,fx]) pkA ?_
 refine WC.loop (X:=Nat) (fun j=>[(50, .int .i64 j),(49, .int .i64 l2.length),(48, .slice A' l2.length cap'),(7, .slice A' l2.length cap'),(6, .pointer (some ⟨b1,0,none⟩)),(0, .pointer (some ⟨mb,0,none⟩)),(1, .pointer (some ⟨b,0,none⟩)),(2, .int .i64 i)]) (fun j=>G) (fun j=>[x',frB b A l1.length cap p a B m cm,x, .blk b1 (.cells #[.string q.name, .bool q.exp, .slice QA l2.length qc, .int .i64 q.locals, .int .i64 q.result, .slice CA q.code.length cc] 47 (0,0)),mcB mb c1 (.slice (some ⟨pb,po,none⟩) procs.length pc) c3 FA bs.length fcap en v OA on ocap st ed,fx]) (fun j=>l2.length - j) (fun j=>j≤l2.length∧∀k (u:V) t,k<j→l2[k]? =some u→q.params[k]? =some t→u.t=t) 0 ⟨by omega,fun k u t h=>by omega⟩ (by exact⟨rfl,rfl,rfl,rfl,rfl,rfl,rfl,rfl,trivial⟩) rfl (List.Sublist.refl _) fun j hx=>?_
 obtain⟨hj,hall⟩:=hx
 refine WC.seq ?_
 refine WC.region ?_
 refine zw.lt ?_
 refine WL.nil ?_
 refine WK.un ?_
 refine WC.seq ?_
 refine WC.cond rfl (fun hc2=>?_) (fun hc2=>?_)
 ·-- yes
  have hlt:j<l2.length:=by have h:=hc2;simp at h;omega
  obtain⟨u,hu⟩:∃u,l2[j]? =some u:=⟨_,List.getElem?_eq_getElem hlt⟩
  obtain⟨t,ht⟩:∃t,q.params[j]? =some t:=⟨_,List.getElem?_eq_getElem (by omega)⟩
  obtain⟨qb,qo,cs,rfl,hK,hcsq⟩:=hQ j t ht
  obtain rfl:cs=[.int .i64 t]:=hK
  obtain⟨hlv,⟨h1,h2,h3,h4⟩ | ⟨b',c,rfl,rfl,h1,h2,h3⟩⟩:=hv1
  ·omega
  refine WC.skip ?_
  refine WK.un ?_
  refine WC.seq ?_
  refine WC.block ?_  -- 1
  refine WC.seq ?_
  refine WC.region ?_
  refine zw.move ?_
  refine zw.ix ?_
  refine WL.vv (Gv.loadN rfl .here (VVec.elem (A:=none) (cap:=0) (b:=0) h3 hu) rfl) ?_
  refine WL.oo (OW.alloc rfl fun b3=>?_)
  refine zw.assign ?_
  refine zw.st ?_
  refine WL.nil ?_
  refine WK.un ?_
  refine WC.draw mixed ?_
  refine za.fa 0 ?_
  refine za.ld 1 ?_
  refine za.fa 2 ?_
  refine za.ld 3 ?_
  refine za.move 4 ?_
  refine za.ix 5 ?_
  refine WA.vv 6 rfl (Gv.loadG0 rfl hcsq rfl) ?_
  refine za.eq 7 ?_
  by_cases htt:u.t=t
  ·rw [show(u.t==t)=true by simpa using htt]
   refine WA.oo 8 rfl (OW.callR rfl (Hf:=[]) (List.Perm.refl _) (need_ok G) rfl (by rintro e G' H' ⟨h,_⟩;exact⟨_,h⟩) fun v' G' H' h hg=>?_)
   obtain⟨he,rfl,rfl⟩:=h
   cases he
   refine WA.done kr ?_
   refine WK.un ?_
   refine WC.region ?_
   refine zw.add ?_
   refine zw.move ?_
   refine WL.nil ?_
   refine WK.un ?_
   exact WK.again (j+1) (by omega) ⟨by omega,fun k u' t' hk hu' ht'=>by
    rcases Nat.lt_or_ge k j with h | h
    ·exact hall k u' t' h hu' ht'
    ·obtain rfl:k=j:=by omega
     rw[hu]at hu';rw[ht]at ht';cases hu';cases ht';exact htt⟩ (by refine⟨?_,rfl,rfl,rfl,rfl,rfl,rfl,rfl,trivial⟩;show some _=some _;rw[wrap_small (by omega) (by simp at hl;omega)];rfl) rfl (by exact .cons _ (List.Sublist.refl _))
  ·rw[show(u.t==t)=false by simpa using htt]
   have hne:tys l2≠q.params:=fun h=>htt (by
    have h1:=congrArg (fun l=>l[j]?) h
    simp only[tys,List.getElem?_map,hu,ht,Option.map_some,Option.some.injEq]at h1
    exact h1)
   rw[if_pos hne]
   refine WA.oo 8 rfl (OW.call rfl (Hf:=[]) (List.Perm.refl _) (need_no _) rfl (fun v G' H' h _=>by cases h.1) (fun ch G' H' h _=>?_) (fun G' H' h=>by cases h.1))
   obtain⟨he,rfl,rfl⟩:=h
   cases he
   refine WK.un ?_
   exact QF.panicP (⟨rfl,rfl,_,Left.of b A l1.length cap p a B m cm,rfl⟩)
 ·-- no
  have hge:j=l2.length:=by have h:=hc2;simp at h;omega
  have heq:tys l2=q.params:=by
   apply List.ext_getElem?
   intro k
   rcases Nat.lt_or_ge k l2.length with hk' | hk'
   ·obtain⟨u,hu⟩:∃u,l2[k]? =some u:=⟨_,List.getElem?_eq_getElem hk'⟩
    obtain⟨t,ht⟩:∃t,q.params[k]? =some t:=⟨_,List.getElem?_eq_getElem (by omega)⟩
    rw[tys,List.getElem?_map,hu,ht,Option.map_some,hall k u t (by omega) hu ht]
   ·rw[List.getElem?_eq_none (by simpa [tys]using hk'),List.getElem?_eq_none (by omega)]
  rw[if_neg (show¬tys l2≠q.params from fun h=>h heq)]
  refine WC.exit ?_
  refine WK.un ?_
  refine WC.join (X:=Unit) (fun _=>[(7, .slice A' l2.length cap'),(0, .pointer (some ⟨mb,0,none⟩)),(1, .pointer (some ⟨b,0,none⟩)),(2, .int .i64 i)]) (fun _=>G) (fun _=>[x',frB b A l1.length cap p a B m cm,x,mcB mb c1 (.slice (some ⟨pb,po,none⟩) procs.length pc) c3 FA bs.length fcap en v OA on ocap st ed,fx]) (fun _=>¬(q.result≠0∧128≤l1.length)) ?_ fun _ hok=>?_
  ·refine WC.seq ?_
   refine WC.region ?_
   refine zw.fa ?_
   refine zw.ld ?_
   refine zw.ne ?_
   refine WL.nil ?_
   refine WK.un ?_
   refine WC.cond rfl (fun hc4=>?_) (fun hc4=>?_)
   ·-- yes
    have hr0:q.result≠0:=by simpa using hc4
    refine WC.region ?_
    refine zw.move ?_
    refine zw.nil ?_
    refine zw.fa ?_
    refine WL.oo (OW.callK rfl (high_fn G b A l1.length cap p a B m cm) rfl fun v' G' H' h hg=>?_)
    obtain⟨he,rfl,rfl⟩:=h
    cases he
    refine zw.lt ?_
    by_cases h128:128≤l1.length
    ·rw[show decide ((l1.length:Int)<128)=false by simp;omega]
     rw[if_pos ⟨hr0,h128⟩]
     refine WL.oo (OW.call rfl (Hf:=[]) (List.Perm.refl _) (need_no _) rfl (fun v G' H' h _=>by cases h.1) (fun ch G' H' h _=>?_) (fun G' H' h=>by cases h.1))
     obtain⟨he,rfl,rfl⟩:=h
     cases he
     refine WK.un ?_
     exact QF.panicP (⟨rfl,rfl,_,Left.of b A l1.length cap p a B m cm,rfl⟩)
    ·rw[show decide ((l1.length:Int)<128)=true by simp;omega]
     refine WL.oo (OW.callR rfl (Hf:=[]) (List.Perm.refl _) (need_ok G) rfl (by rintro e G' H' ⟨h,_⟩;exact⟨_,h⟩) fun v' G' H' h hg=>?_)
     obtain⟨he,rfl,rfl⟩:=h
     cases he
     refine WL.nil ?_
     refine WK.un ?_
     refine WK.pk (H':=[x',frB b A l1.length cap p a B m cm,x,mcB mb c1 (.slice (some ⟨pb,po,none⟩) procs.length pc) c3 FA bs.length fcap en v OA on ocap st ed,fx]) pkA ?_
     exact WK.meet () (fun h=>h128 h.2) (by exact⟨rfl,rfl,rfl,rfl,trivial⟩) rfl (List.Sublist.refl _)
   ·-- no
    have hr0:q.result=0:=by simpa using hc4
    refine WC.skip ?_
    refine WK.un ?_
    refine WK.pk (H':=[x',frB b A l1.length cap p a B m cm,x,mcB mb c1 (.slice (some ⟨pb,po,none⟩) procs.length pc) c3 FA bs.length fcap en v OA on ocap st ed,fx]) pkA ?_
    exact WK.meet () (fun h=>h.1 hr0) (by exact⟨rfl,rfl,rfl,rfl,trivial⟩) rfl (List.Sublist.refl _)
  rw[if_neg hok]
  refine WC.seq ?_
  refine WC.seq ?_
  refine WC.region ?_
  refine zw.move ?_
  refine zw.nil ?_
  refine zw.fa ?_
  refine zw.ld ?_
  refine zw.len ?_
  refine zw.ge ?_
  refine WL.nil ?_
  refine WK.un ?_
  refine WC.cond rfl (fun hc5=>?_) (fun hc5=>?_)
  ·-- yes
   have h64:64≤bs.length:=by have h:=hc5;simp at h;omega
   refine WC.region ?_
   refine zw.build ?_
   refine zw.iface ?_
   rw[if_pos h64]
   refine WL.oo (OW.panic rfl ?_)
   refine WK.un ?_
   exact QF.panicP ⟨rfl,rfl,_,Left.of b A l1.length cap p a B m cm,rfl⟩ pkA
  ·-- no
   have h64:¬64≤bs.length:=by have h:=hc5;simp at h;omega
   rw[if_neg h64]
   refine WC.skip ?_
   refine WK.un ?_
   refine WC.region ?_
   refine zw.move ?_
   refine zw.move ?_
   refine zw.move ?_
   refine WL.oo (OW.callK rfl (enter_fn G mb c1 c3 (some ⟨pb,po,none⟩) procs.length pc procs FA fcap en v OA on ocap st ed bs fx i q hq rfl hG hfv hbs A' cap' l2 [x'] (hv1.rds .here) (by omega) hs'.2) rfl fun v' G' H' h hg=>?_)
   obtain⟨FA',fcap',b',VA,x'',y,he,rfl,rfl,hx2,hy2⟩:=h
   cases he
   refine WL.nil ?_
   refine WK.un ?_
   exact QF.p0 (.inr rfl) rfl  (⟨rfl,FA',fcap',b',VA,x'',y,rfl,rfl,hx2,hy2,hv2⟩)
end
section
attribute [local irreducible] Tryz.prog
def lastV (v:V) (l:List V):V:=l.getLastD v
theorem lastV_take (v:V) (l:List V) (j:Nat) (u:V) (h:l[j]? =some u):lastV v (l.take (j+1))=u:=by
 rw[List.take_add_one,h];simp[lastV]
theorem PVec.cut1 {FA:Option Addr} {cap:Nat} {bs:List Nat} {b:Nat} {x:Own} (h:PVec FA cap (bs++[b]) x):PVec FA cap bs x:=by
 have e:(ptrs (bs++[b])).take (bs.length*1)=ptrs bs:=by simp[ptrs]
 have:=Vec.cut (m:=bs.length) h (by simp)
 rw[e]at this
 exact this
theorem leave_end (G:Gh) (mb:Nat) (c1 c2 c3:Value) (FA:Option Addr) (fcap:Nat) (en:Int) (v:V) (OA:Option Addr) (on ocap:Nat) (st:Int) (ed:Bool) (b:Nat) (fx:Own) (hfv:PVec FA fcap [b] fx)
  (LA:Option Addr) (lc:Nat) (l:List V) (Ha:List Own) (hr:Rds G Ha LA (vflat l)) (hll:l.length≤1000000):
  Fn Tryz.prog 213 #[.pointer (some ⟨mb,0,none⟩), .slice LA l.length lc] G (mcB mb c1 c2 c3 FA 1 fcap en v OA on ocap st ed::fx::Ha)
   fun e G' H'=>e= .returned (.tuple #[])∧G=G'∧H'=mcB mb c1 c2 c3 FA 0 fcap 1 (lastV v l) OA on ocap st true::fx::Ha∧PVec FA fcap [] fx:=by
 have hcap:=hfv.le
 have hcut:=PVec.cut1 (bs:=[]) hfv
 refine Fn.enter Tryz.func213 rfl rfl fun w0=>?_
 refine WC.seq ?_
 refine WC.draw mixed ?_
 refine za.move 0 ?_
 refine za.move 1 ?_
 refine za.nil 2 ?_
 refine za.fa 3 ?_
 refine za.move 5 ?_
 refine za.nil 6 ?_
 refine za.fa 7 ?_
 refine za.ld 8 ?_
 refine za.len 9 ?_
 refine za.sub 10 ?_
 refine za.ld 4 ?_
 rw[show IntKind.i64.wrap (((1:Nat):Int) - 1)=0 by decide]
 refine WA.pp 11 rfl (Gp.sliceTo rfl rfl (by omega) (by omega)) ?_
 refine za.nil 12 ?_
 refine za.fa 13 ?_
 refine za.st 14 ?_
 refine WA.done kr ?_
 refine WK.un ?_
 refine WC.seq ?_
 refine WC.seq ?_
 refine WC.region ?_
 refine zw.move ?_
 refine zw.nil ?_
 refine zw.fa ?_
 refine zw.ld ?_
 refine zw.len ?_
 refine zw.eq ?_
 refine WL.nil ?_
 refine WK.un ?_
 refine WC.cond_true rfl ?_
 refine WC.seq ?_
 refine WC.region ?_
 refine zw.move ?_
 refine zw.move ?_
 refine zw.nil ?_
 refine zw.fa ?_
 refine zw.st ?_
 refine zw.nil ?_
 refine zw.fa ?_
 refine zw.fa ?_
 refine zw.st ?_
 refine WL.nil ?_
 refine WK.un ?_
 refine WC.seq ?_
 refine WC.seq ?_
 refine WC.region ?_
 refine zw.move ?_
 refine zw.len ?_
 refine zw.move ?_
 refine WL.nil ?_
 refine WK.un ?_
 refine WC.block ?_  -- 0
 refine WC.pk (H':=mcB mb c1 c2 c3 FA 0 fcap 1 v OA on ocap st true::fx::Ha) pkA ?_
 refine WC.loop (X:=Nat) (fun j=>[(37, .int .i64 j),(36, .int .i64 l.length),(35, .slice LA l.length lc),(0, .pointer (some ⟨mb,0,none⟩))]) (fun j=>G) (fun j=>mcB mb c1 c2 c3 FA 0 fcap 1 (lastV v (l.take j)) OA on ocap st true::fx::Ha) (fun j=>l.length - j) (fun j=>j≤l.length) 0 (by omega) (by exact⟨rfl,rfl,rfl,rfl,trivial⟩) rfl (List.Sublist.refl _) fun j hj=>?_
 refine WC.seq ?_
 refine WC.region ?_
 refine zw.lt ?_
 refine WL.nil ?_
 refine WK.un ?_
 refine WC.seq ?_
 refine WC.cond rfl (fun hc8=>?_) (fun hc8=>?_)
 ·-- yes
  have hlt:j<l.length:=by have h:=hc8;simp at h;omega
  obtain⟨u,hu⟩:∃u,l[j]? =some u:=⟨_,List.getElem?_eq_getElem hlt⟩
  rcases hr with h0 | ⟨lb,lo,rfl,hread⟩
  ·have h:=congrArg List.length h0
   rw[vflat_length]at h;simp only[List.length_nil]at h;omega
  refine WC.skip ?_
  refine WK.un ?_
  refine WC.seq ?_
  refine WC.block ?_  -- 1
  refine WC.seq ?_
  refine WC.region ?_
  refine zw.ix ?_
  refine WL.vv (Gv.loadRN rfl hread (by repeat (first | exact List.Sublist.refl _ | exact List.nil_sublist _ | apply List.Sublist.cons)) (vflat_elem l j u hu) rfl) ?_
  refine WL.oo (OW.alloc rfl fun b9=>?_)
  refine zw.st ?_
  refine WL.nil ?_
  refine WK.un ?_
  refine WC.region ?_
  refine zw.move ?_
  refine zw.ld ?_
  refine zw.nil ?_
  refine zw.fa ?_
  refine zw.fa ?_
  refine zw.st ?_
  refine WL.nil ?_
  refine WK.un ?_
  refine WC.region ?_
  refine zw.add ?_
  refine zw.move ?_
  refine WL.nil ?_
  refine WK.un ?_
  refine WK.pk (H':=mcB mb c1 c2 c3 FA 0 fcap 1 u OA on ocap st true::fx::Ha) pkA ?_
  exact WK.again (j+1) (by omega) (show j+1≤l.length by omega) (by refine⟨?_,rfl,rfl,rfl,trivial⟩;show some _=some _;rw[wrap_small (by omega) (by omega)];rfl) rfl (by show List.Sublist (mcB mb c1 c2 c3 FA 0 fcap 1 (lastV v (l.take (j+1))) OA on ocap st true::_) _;rw[lastV_take v l j u hu];exact List.Sublist.refl _)
 ·-- no
  have hge:j=l.length:=by have h:=hc8;simp at h;omega
  subst hge
  rw[List.take_length]
  refine WC.exit ?_
  refine WK.un ?_
  refine WC.rt ?_
  exact QF.p0 (.inl rfl) rfl  (⟨rfl,rfl,rfl,hcut⟩)
theorem leave_go (G:Gh) (mb:Nat) (c1 c2 c3:Value) (FA:Option Addr) (fcap:Nat) (en:Int) (v:V) (OA:Option Addr) (on ocap:Nat) (st:Int) (ed:Bool) (bs:List Nat) (b0 b:Nat) (fx:Own) (hfv:PVec FA fcap (bs++[b0]++[b]) fx) (hbs:bs.length≤1000000)
  (A:Option Addr) (cap:Nat) (p a:Int) (B:Option Addr) (m cm:Nat) (l0:List V) (x:Own) (hv:VVec A cap l0 x)
  (LA:Option Addr) (lc:Nat) (l:List V) (Ha:List Own) (hr:Rds G Ha LA (vflat l)) (hll:l0.length+l.length≤1000000):
  Fn Tryz.prog 213 #[.pointer (some ⟨mb,0,none⟩), .slice LA l.length lc] G (mcB mb c1 c2 c3 FA (bs++[b0]++[b]).length fcap en v OA on ocap st ed::fx::frB b0 A l0.length cap p a B m cm::x::Ha)
   fun e G' H'=>∃A' cap' x',e= .returned (.tuple #[])∧G=G'∧H'=mcB mb c1 c2 c3 FA (bs++[b0]).length fcap en v OA on ocap st ed::fx::frB b0 A' (l0++l).length cap' p a B m cm::x'::Ha∧PVec FA fcap (bs++[b0]) fx∧VVec A' cap' (l0++l) x':=by
 have hcap:=hfv.le
 have hcut:=PVec.cut1 hfv
 have e0:(bs++[b0]++[b]).length=bs.length+2:=by simp
 have e1:(bs++[b0]).length=bs.length+1:=by simp
 rw[e0]at hcap
 refine Fn.enter Tryz.func213 rfl rfl fun w0=>?_
 refine WC.seq ?_
 refine WC.draw mixed ?_
 refine za.move 0 ?_
 refine za.move 1 ?_
 refine za.nil 2 ?_
 refine za.fa 3 ?_
 refine za.move 5 ?_
 refine za.nil 6 ?_
 refine za.fa 7 ?_
 refine za.ld 8 ?_
 refine za.len 9 ?_
 refine za.sub 10 ?_
 refine za.ld 4 ?_
 rw[show IntKind.i64.wrap (((bs++[b0]++[b]).length:Int) - 1)=((bs++[b0]).length:Int) by rw[e0,e1,wrap_small (by omega) (by omega)];omega]
 refine WA.pp 11 rfl (Gp.sliceTo rfl rfl (by omega) (by omega)) ?_
 rw[Int.toNat_natCast]
 refine za.nil 12 ?_
 refine za.fa 13 ?_
 refine za.st 14 ?_
 refine WA.done kr ?_
 refine WK.un ?_
 refine WC.seq ?_
 refine WC.seq ?_
 refine WC.region ?_
 refine zw.move ?_
 refine zw.nil ?_
 refine zw.fa ?_
 refine zw.ld ?_
 refine zw.len ?_
 refine zw.eq ?_
 refine WL.nil ?_
 refine WK.un ?_
 rw[show((((bs++[b0]).length:Nat):Int)==0)=false by rw[e1];simp;omega]
 refine WC.cond_false rfl ?_
 refine WC.skip ?_
 refine WK.un ?_
 refine WC.seq ?_
 refine WC.region ?_
 refine zw.move ?_
 refine zw.len ?_
 refine zw.move ?_
 refine WL.nil ?_
 refine WK.un ?_
 refine WC.block ?_  -- 2
 refine WC.pk (H':=mcB mb c1 c2 c3 FA (bs++[b0]).length fcap en v OA on ocap st ed::fx::frB b0 A l0.length cap p a B m cm::x::Ha) pkA ?_
 refine WC.loop (X:=Nat×Option Addr×Nat×Own) (fun j=>[(49, .int .i64 j.1),(48, .int .i64 l.length),(47, .slice LA l.length lc),(0, .pointer (some ⟨mb,0,none⟩))]) (fun j=>G) (fun j=>mcB mb c1 c2 c3 FA (bs++[b0]).length fcap en v OA on ocap st ed::fx::frB b0 j.2.1 (l0++l.take j.1).length j.2.2.1 p a B m cm::j.2.2.2::Ha) (fun j=>l.length - j.1) (fun j=>j.1≤l.length∧VVec j.2.1 j.2.2.1 (l0++l.take j.1) j.2.2.2) (0,A,cap,x) ⟨by simp,by simpa using hv⟩ (by exact⟨rfl,rfl,rfl,rfl,trivial⟩) rfl (by show List.Sublist (_::_::frB b0 A (l0++l.take 0).length cap p a B m cm::_) _;rw[List.take_zero,List.append_nil];exact List.Sublist.refl _) fun j hj=>?_
 obtain⟨j,A1,cap1,x1⟩:=j
 obtain⟨hj,hv1⟩:=hj
 simp only at hj hv1
 refine WC.seq ?_
 refine WC.region ?_
 refine zw.lt ?_
 refine WL.nil ?_
 refine WK.un ?_
 refine WC.seq ?_
 refine WC.cond rfl (fun hc8=>?_) (fun hc8=>?_)
 ·-- yes
  have hlt:j<l.length:=by have h:=hc8;simp at h;omega
  obtain⟨u,hu⟩:∃u,l[j]? =some u:=⟨_,List.getElem?_eq_getElem hlt⟩
  have e2:l0++l.take (j+1)=(l0++l.take j)++[u]:=by rw[List.take_add_one,hu];simp
  have e3:(l0++l.take (j+1)).length=(l0++l.take j).length+1:=by rw[e2,List.length_append (bs:=[u])];rfl
  have e4:vflat (l0++l.take (j+1))=vflat (l0++l.take j)++vcells u:=by rw[e2,vflat_append];simp[vflat]
  rcases hr with h0 | ⟨lb,lo,rfl,hread⟩
  ·have h:=congrArg List.length h0
   rw[vflat_length]at h;simp only[List.length_nil]at h;omega
  refine WC.skip ?_
  refine WK.un ?_
  refine WC.seq ?_
  refine WC.block ?_  -- 3
  refine WC.seq ?_
  refine WC.region ?_
  refine zw.ix ?_
  refine WL.vv (Gv.loadRN rfl hread (by repeat (first | exact List.Sublist.refl _ | exact List.nil_sublist _ | apply List.Sublist.cons)) (vflat_elem l j u hu) rfl) ?_
  refine WL.oo (OW.alloc rfl fun b11=>?_)
  refine zw.st ?_
  refine WL.nil ?_
  refine WK.un ?_
  refine WC.drawS (Hs:=[.blk b11 (.cells (vcells u).toArray 52 (0,0))]) mixed pkA ?_
  refine zb.move 0 ?_
  refine WB.vv 4 rfl (Gv.loadN rfl .here rfl rfl) ?_
  refine WB.oo 1 rfl (OW.callK rfl (top_fn G mb c1 c2 c3 FA fcap en v OA on ocap st ed bs b0 fx hcut (by omega)) rfl fun v' G' H' h hg=>?_)
  obtain⟨he,rfl,rfl⟩:=h
  cases he
  refine⟨fun w hw=>hw.pk pkA,?_⟩
  refine zb.nil 2 ?_
  refine zb.fa 3 ?_
  refine WB.oo 5 rfl (OW.callK rfl (push_fn G b0 A1 (l0++l.take j).length cap1 p a B m cm (vflat (l0++l.take j)) x1 u hv1 (by simp;omega)) rfl fun v' G' H' h hg=>?_)
  obtain⟨A2,cap2,x2,he,rfl,rfl,hv2⟩:=h
  cases he
  refine⟨fun w hw=>hw.pk pkA,?_⟩
  refine WB.done kr ?_
  refine WK.un ?_
  refine WC.region ?_
  refine zw.add ?_
  refine zw.move ?_
  refine WL.nil ?_
  refine WK.un ?_
  refine WK.pk (H':=mcB mb c1 c2 c3 FA (bs++[b0]).length fcap en v OA on ocap st ed::fx::frB b0 A2 ((l0++l.take j).length+1) cap2 p a B m cm::x2::Ha) pkA ?_
  exact WK.again (j+1,A2,cap2,x2) (show l.length - (j+1)<l.length - j by omega) ⟨show j+1≤l.length by omega,by show VVec A2 cap2 (l0++l.take (j+1)) x2;unfold VVec;rw[e3,e4];exact hv2⟩ (by refine⟨?_,rfl,rfl,rfl,trivial⟩;show some _=some _;rw[wrap_small (by omega) (by omega)];rfl) rfl (by show List.Sublist (_::_::frB b0 A2 (l0++l.take (j+1)).length cap2 p a B m cm::_) _;rw[e3];exact List.Sublist.refl _)
 ·-- no
  have hge:j=l.length:=by have h:=hc8;simp at h;omega
  subst hge
  refine WC.exit ?_
  refine WK.un ?_
  rw[List.take_length]at hv1
  refine WK.pk (H':=mcB mb c1 c2 c3 FA (bs++[b0]).length fcap en v OA on ocap st ed::fx::frB b0 A1 (l0++l.take l.length).length cap1 p a B m cm::x1::Ha) pkA ?_
  rw[List.take_length]
  refine WK.un ?_
  exact QF.p0 (.inr rfl) rfl  (⟨A1,cap1,x1,rfl,rfl,rfl,hcut,hv1⟩)
end
section
section
variable {L:List (Nat×Value)} {d:Option Tmp} {ty:TypeId} {pos:String} {af:Array Edge} {gu:Option (Nat×Bool)}
end
attribute [local irreducible] Tryz.prog
theorem typed_no (G:Gh) (mv:Value) (b:Nat) (A:Option Addr) (n cap:Nat) (p a:Int) (B:Option Addr) (m cm:Nat) (k t:Int) (hb:(n:Int)<k):
  Fn Tryz.prog 196 #[mv, .pointer (some ⟨b,0,none⟩), .int .i64 k, .int .i64 t] G [frB b A n cap p a B m cm]
   fun e G' H'=>e=halted 6∧G=G'∧Left b H':=by
 refine Fn.enter Tryz.func196 rfl rfl fun w0=>?_
 refine WC.seq ?_
 refine WC.region ?_
 refine zw.assign ?_
 refine WL.nil ?_
 refine WK.un ?_
 refine WC.seq ?_
 refine WC.region ?_
 refine zw.move ?_
 refine zw.move ?_
 refine zw.move ?_
 refine WL.oo (OW.call rfl (Pk.perm pkA) (take_no G mv b A n cap p a B m cm k hb) rfl (fun v' G' H' h hg=>by cases h.1) (fun ch G' H' h hg=>?_) (fun G' H' h=>by repeat (first | (cases h.1;done) | (cases h;done) | (obtain⟨_,h⟩:=h) | (rcases h with h | h))))
 obtain⟨he,rfl,c,hc,rfl⟩:=h
 cases he
 refine WK.un ?_
 exact QF.panicP ⟨rfl,rfl,c,hc,rfl⟩ pkA
theorem WK.swap {K:Act→World→Prop} {cx:Cx} {L:List (Nat×Value)} {G:Gh} {H F:List Own} (h:WK K cx L G (F++H)):WK K cx L G (H++F):=fun a w st=>h a w (st.perm List.perm_append_comm)
def pop1 (l:List V):Option (List V×V):=match l.reverse with
 | []=>none
 | v::r=>some (r.reverse,v)
def pop2 (l:List V):Option (List V×V×V):=match l.reverse with
 | v::u::r=>some (r.reverse,u,v)
 | _=>none
theorem pop1_snoc (r:List V) (v:V):pop1 (r++[v])=some (r,v):=by simp[pop1]
theorem pop2_snoc (r:List V) (u v:V):pop2 (r++[u,v])=some (r,u,v):=by simp[pop2]
theorem pop1_none {l:List V} (h:l.length<1):pop1 l=none:=by
 have:l=[]:=List.eq_nil_of_length_eq_zero (by omega)
 subst this;rfl
theorem pop2_none {l:List V} (h:l.length<2):pop2 l=none:=by
 match l,h with
 | [],_=>rfl
 | [v],_=>rfl
theorem one_or {l:List V} :l.length<1∨∃r v,l=r++[v]:=by
 rcases Nat.lt_or_ge l.length 1 with h | h
 ·exact .inl h
 ·obtain⟨l1,l2,rfl,h2,_,_⟩:=cut_list l 1 h
  match l2,h2 with
  | [v],_=>exact .inr ⟨l1,v,rfl⟩
theorem two_or {l:List V} :l.length<2∨∃r u v,l=r++[u,v]:=by
 rcases Nat.lt_or_ge l.length 2 with h | h
 ·exact .inl h
 ·obtain⟨l1,l2,rfl,h2,_,_⟩:=cut_list l 2 h
  match l2,h2 with
  | [u,v],_=>exact .inr ⟨l1,u,v,rfl⟩
instance (u v:V):Decidable (ordOK u v):=by unfold ordOK;infer_instance
inductive PR where
 | halt (n:Int)
 | set (l:List V)
 | print (l:List V) (v:V)
 | leave (l:List V) (g:List V)
def truthV (b:Bool):V:=⟨2,0,b,⟨#[]⟩⟩
def numV (n:Int):V:=⟨1,n,false,⟨#[]⟩⟩
def textV (s:ByteArray):V:=⟨3,0,false,s⟩
def ty1 (l:List V) (t:Int):Option (List V×V):=match pop1 l with
 | none=>none
 | some (r,v)=>if v.t=t then some (r,v)else none
def ty2 (l:List V) (t:Int):Option (List V×V×V):=match pop2 l with
 | none=>none
 | some (r,u,v)=>if u.t=t∧v.t=t then some (r,u,v)else none
def on1 (l:List V) (t:Int) (f:List V→V→PR):PR:=match ty1 l t with
 | none=> .halt 6
 | some (r,v)=>f r v
def on2 (l:List V) (t:Int) (f:List V→V→V→PR):PR:=match ty2 l t with
 | none=> .halt 6
 | some (r,u,v)=>f r u v
theorem pop1_some {l r:List V} {v:V} (h:pop1 l=some (r,v)):l=r++[v]:=by
 rcases@one_or l with h1 | ⟨r',v',rfl⟩
 ·rw[pop1_none h1]at h;cases h
 ·rw[pop1_snoc]at h;cases h;rfl
theorem pop2_some {l r:List V} {u v:V} (h:pop2 l=some (r,u,v)):l=r++[u,v]:=by
 rcases@two_or l with h1 | ⟨r',u',v',rfl⟩
 ·rw[pop2_none h1]at h;cases h
 ·rw[pop2_snoc]at h;cases h;rfl
theorem ty1_some {l r:List V} {t:Int} {v:V} (h:ty1 l t=some (r,v)):l=r++[v]∧v.t=t:=by
 unfold ty1 at h
 split at h
 ·cases h
 ·rename_i r' v' hp
  split at h
  ·cases h;exact⟨pop1_some hp, ‹_›⟩
  ·cases h
theorem ty2_some {l r:List V} {t:Int} {u v:V} (h:ty2 l t=some (r,u,v)):l=r++[u,v]∧u.t=t∧v.t=t:=by
 unfold ty2 at h
 split at h
 ·cases h
 ·rename_i r' u' v' hp
  split at h
  ·cases h;exact⟨pop2_some hp, ‹_›⟩
  ·cases h
theorem ty1_none {l:List V} {t:Int} (h:ty1 l t=none):l.length<1∨∃r v,l=r++[v]∧v.t≠t:=by
 rcases@one_or l with h1 | ⟨r',v',rfl⟩
 ·exact .inl h1
 ·refine .inr ⟨r',v',rfl,fun hv=>?_⟩
  rw[ty1,pop1_snoc]at h;simp[hv]at h
theorem Ex.sub {H H':List Own} {w:World} (h:Ex (covs H) w) (hs:∀x∈H',x∈H):Ex (covs H') w:=fun q hq=>⟨(h q hq).1,fun o ⟨x,hx,hc⟩=>(h q hq).2 o ⟨x,hs x hx,hc⟩⟩
theorem Fn.pk {P:Program} {f:FuncId} {vs:Array Value} {G:Gh} {H H' F:List Own} {R:Ending→Gh→List Own→Prop} (h:Fn P f vs G H' R) (p:Pk H H' F):Fn P f vs G H fun e G' H1=>∃H2,R e G' H2∧H1=H2++F:=by
 intro w hs hx
 have hs':=hs.perm p.perm
 refine(h w (hs'.sub (List.sublist_append_left _ _)) (hx.sub fun y hy=>p.perm.mem_iff.2 (List.mem_append_left _ hy))).mono fun e w' ⟨G',H2,r,s,st⟩=>⟨G',H2++F,⟨H2,r,rfl⟩,hs'.frame s st,?_⟩
 have:=st.frame (F:=F)
 exact⟨this.size,fun b hb=>(this.keep b hb).mono fun o ⟨x,hx,hc⟩=>⟨x,p.perm.mem_iff.2 hx,hc⟩,this.gle,fun b o v e=>(this.gnew b o v e).imp_right fun h=>h.imp_left fun⟨x,hx,hc⟩=>⟨x,p.perm.mem_iff.2 hx,hc⟩,fun x hx b o hc=>(this.own x hx b o hc).imp_left fun⟨y,hy,hc⟩=>⟨y,p.perm.mem_iff.2 hy,hc⟩,this.weq⟩
theorem Fn.drop {P:Program} {f:FuncId} {vs:Array Value} {G:Gh} {H:List Own} {R R':Ending→Gh→List Own→Prop} (h:Fn P f vs G H R) (hr:∀e G' H',R e G' H'→∃H2,H2.Sublist H'∧R' e G' H2):Fn P f vs G H R':=
 fun w hs hx=>(h w hs hx).mono fun e w' ⟨G',H',r,s,st⟩=>by
  obtain⟨H2,h1,h2⟩:=hr _ _ _ r
  exact⟨G',H2,h2,s.sub h1,⟨st.size,st.keep,st.gle,st.gnew,fun x hx=>st.own x (h1.subset hx),st.weq⟩⟩
section
variable (G:Gh) (mv:Value) (b:Nat) (A:Option Addr) (cap:Nat) (p a:Int) (B:Option Addr) (m cm:Nat) (x:Own)
theorem typed1_ok (r:List V) (v:V) (t:Int) (ht:v.t=t) (hv:VVec A cap (r++[v]) x) (hb:(r++[v]).length≤1000000):
  Fn Tryz.prog 196 #[mv, .pointer (some ⟨b,0,none⟩), .int .i64 1, .int .i64 t] G [frB b A (r++[v]).length cap p a B m cm,x]
   fun e G' H'=>∃A' cap' x',e= .returned (.slice A' 1 cap')∧G=G'∧H'=[x',frB b A r.length cap p a B m cm,x]∧VVec A' cap' [v] x'∧VVec A cap r x:=
 (typed_fnQ G mv b A cap p a B m cm r [v] x t hv (by simp at hb⊢;omega)).mono fun e G' H' ⟨h1,h2⟩=>by
  rcases h2 with⟨A',cap',x',h3,_,h5,h6,h7⟩ | ⟨_,⟨u,hu,hne⟩,_⟩
  ·exact⟨A',cap',x',h3,h1,h5,h6,h7⟩
  ·rw[List.mem_singleton]at hu;subst hu;exact absurd ht hne
theorem typed1_no (l:List V) (t:Int) (hn:ty1 l t=none) (hv:VVec A cap l x) (hb:l.length≤1000000):
  Fn Tryz.prog 196 #[mv, .pointer (some ⟨b,0,none⟩), .int .i64 1, .int .i64 t] G [frB b A l.length cap p a B m cm,x]
   fun e G' H'=>e=halted 6∧G=G'∧Left b H':=by
 rcases ty1_none hn with h | ⟨r,v,rfl,hne⟩
 ·refine((typed_no G mv b A l.length cap p a B m cm 1 t (by omega)).pk (F:=[x]) (.cons .here .nil)).drop fun e G' H' ⟨H2,⟨h1,h2,h3⟩,h4⟩=>⟨H2,by rw[h4];exact List.sublist_append_left _ _,h1,h2,h3⟩
 ·refine(typed_fnQ G mv b A cap p a B m cm r [v] x t hv (by simp at hb⊢;omega)).mono fun e G' H' ⟨h1,h2⟩=>?_
  rcases h2 with⟨A',cap',x',h3,h4,_⟩ | ⟨h3,_,h4⟩
  ·exact absurd (h4 v (by simp)) hne
  ·exact⟨h3,h1,h4⟩
end
def onA (l:List V) (f:List V→V→PR):PR:=match pop1 l with
 | none=> .halt 6
 | some (r,v)=>f r v
def onB (l:List V) (f:List V→V→V→PR):PR:=match pop2 l with
 | none=> .halt 6
 | some (r,u,v)=>f r u v
def recR (c:Int) (r:List V) (u v:V):PR:=match reckonS c u.i v.i with
 | none=> .halt 2
 | some n=> .set (r++[numV n])
def plainR (res:Int) (l:List V) (c:Int) (outn:Nat):PR:=
 if c=4 then onA l fun r _=> .set r
 else if c=9 then if res=0 then .leave l []else .halt 6
 else if c=10 then if res=0 then .halt 6 else on1 l res fun r v=> .leave r [v]
 else if c=11 then onA l fun r v=>if 4096≤outn then .halt 7 else .print r v
 else if c=12 then onB l fun r u v=>if u.t=v.t then .set (r++[truthV (decide (u=v))])else .halt 6
 else if c=13 then onB l fun r u v=>if u.t=v.t then .set (r++[truthV (!decide (u=v))])else .halt 6
 else if c=25 then on1 l 2 fun r v=> .set (r++[truthV (!v.b)])
 else if c=26 then on1 l 3 fun r v=> .set (r++[numV v.s.size])
 else if c=20 then on2 l 3 fun r u v=>if 4096<u.s.size+v.s.size then .halt 3 else .set (r++[textV (u.s++v.s)])
 else if c=14∨c=15∨c=16∨c=17 then onB l fun r u v=>if ordOK u v then .set (r++[truthV (ordS c u v)])else .halt 6
 else if c=24 then on1 l 1 fun r v=> .set (r++[numV (IntKind.i64.wrap (0 - v.i))])
 else if c=18∨c=19∨c=21∨c=22∨c=23 then on2 l 1 (recR c)
 else .halt 6
end
section
attribute [local irreducible] Tryz.prog
def Lv (G:Gh) (mb:Nat) (M fx:Own) (Hx:List Own) (RL:List V→List Own→Prop):Prop:=
 (Fn Tryz.prog 213 #[.pointer (some ⟨mb,0,none⟩), .slice none 0 0] G (M::fx::Hx) fun e G' H'=>e= .returned (.tuple #[])∧G=G'∧RL [] H')∧
 ∀A' cap' y v,VVec A' cap' [v] y→Fn Tryz.prog 213 #[.pointer (some ⟨mb,0,none⟩), .slice A' 1 cap'] G (y::M::fx::Hx) fun e G' H'=>e= .returned (.tuple #[])∧G=G'∧RL [v] H'
def PlR (G:Gh) (mb:Nat) (c1 c2 c3:Value) (FA:Option Addr) (fn fcap:Nat) (en:Int) (w:V) (OA:Option Addr) (ocap:Nat) (st:Int) (ed:Bool) (out:List V) (ox fx:Own) (Hx:List Own) (RL:List V→List Own→Prop)
  (b:Nat) (A:Option Addr) (cap:Nat) (p a:Int) (B:Option Addr) (m cm:Nat) (x:Own) (r:PR):Ending→Gh→List Own→Prop:=fun e G' H'=>G=G'∧match r with
 | .halt k=>e=halted k∧∃y,Left b [y]∧H'=mcB mb c1 c2 c3 FA fn fcap en w OA out.length ocap st ed::ox::y::fx::Hx
 | .set r=>∃A' cap' x',e= .returned (.tuple #[])∧VVec A' cap' r x'∧H'=mcB mb c1 c2 c3 FA fn fcap en w OA out.length ocap st ed::ox::frB b A' r.length cap' p a B m cm::x'::fx::Hx
 | .print r v=>∃OA' ocap' ox',e= .returned (.tuple #[])∧VVec OA' ocap' (out++[v]) ox'∧VVec A cap r x∧H'=mcB mb c1 c2 c3 FA fn fcap en w OA' (out++[v]).length ocap' st ed::ox'::frB b A r.length cap p a B m cm::x::fx::Hx
 | .leave r g=>∃H1,e= .returned (.tuple #[])∧VVec A cap r x∧RL g H1∧H'=ox::frB b A r.length cap p a B m cm::x::H1
section
variable (G:Gh) (mb:Nat) (c1 c2 c3:Value) (FA:Option Addr) (fn fcap:Nat) (en:Int) (w:V) (OA:Option Addr) (ocap:Nat) (st:Int) (ed:Bool) (out:List V) (ox fx:Own) (Hx:List Own) (RL:List V→List Own→Prop)
  (b:Nat) (A:Option Addr) (cap:Nat) (p a:Int) (B:Option Addr) (m cm:Nat) (x:Own) (l:List V) (nm:ByteArray) (ex:Bool) (qv cv:Value) (lo res:Int)
theorem plain_give (hv:VVec A cap l x) (hl:l.length≤1000000) (hL:Lv G mb (mcB mb c1 c2 c3 FA fn fcap en w OA out.length ocap st ed) fx Hx RL):Fn Tryz.prog 198 #[.pointer (some ⟨mb,0,none⟩), .pointer (some ⟨b,0,none⟩), .agg #[.string nm, .bool ex,qv, .int .i64 lo, .int .i64 res,cv], .int .i64 10] G
  (mcB mb c1 c2 c3 FA fn fcap en w OA out.length ocap st ed::ox::frB b A l.length cap p a B m cm::x::fx::Hx) (PlR G mb c1 c2 c3 FA fn fcap en w OA ocap st ed out ox fx Hx RL b A cap p a B m cm x (plainR res l 10 out.length)):=by
 refine Fn.enter Tryz.func198 rfl rfl fun w0=>?_
 rw[show plainR res l 10 out.length=if res=0 then .halt 6 else on1 l res fun r v=> .leave r [v] by simp[plainR]]
 refine WC.seq ?_
 refine WC.region ?_
 refine WL.oo (OW.box rfl rfl fun b1=>?_)
 refine WL.nil ?_
 refine WK.un ?_
 refine WC.seq ?_
 refine WC.region ?_
 refine zw.move ?_
 refine WL.nil ?_
 refine WK.un ?_
 repeat (first | refine WC.seq ?_ | refine WC.block ?_ | (refine WC.region ?_;refine WL.p (Gp.eqI rfl rfl) kr rfl ?_;refine WL.p (Gp.assign rfl) kr rfl ?_;refine WL.nil ?_;refine WK.un ?_) | refine WC.cond_true rfl ?_ | refine WC.cond_false rfl ?_ | (refine WC.skip ?_;refine WK.un ?_) | (refine WC.exit ?_;refine WK.un ?_))
 refine WC.region ?_
 refine zw.fa ?_
 refine zw.ld ?_
 refine zw.ne ?_
 by_cases hr:res=0
 ·rw[show(res != 0)=false by simpa using hr,if_pos hr]
  refine WL.oo (OW.call rfl (Hf:=[]) (List.Perm.refl _) (need_no _) rfl (fun v G' H' h _=>by cases h.1) (fun ch G' H' h _=>?_) (fun G' H' h=>by cases h.1))
  obtain⟨he,rfl,rfl⟩:=h
  cases he
  refine WK.un ?_
  exact QF.panicP (⟨rfl,rfl,_,Left.of b A l.length cap p a B m cm,rfl⟩)
 rw[show(res != 0)=true by simpa using hr,if_neg hr]
 refine WL.oo (OW.callR rfl (Hf:=[]) (List.Perm.refl _) (need_ok G) rfl (by rintro e G' H' ⟨h,_⟩;exact⟨_,h⟩) fun v' G' H' h hg=>?_)
 obtain⟨he,rfl,rfl⟩:=h
 cases he
 refine WL.nil ?_
 refine WK.un ?_
 refine WC.region ?_
 refine zw.move ?_
 refine zw.move ?_
 refine zw.move ?_
 refine zw.fa ?_
 refine zw.ld ?_
 cases ht:ty1 l res with
 | none=>
  rw[show on1 l res _= .halt 6 by rw[on1,ht]]
  refine WL.oo (OW.call rfl (Pk.perm pkA) (typed1_no G _ b A cap p a B m cm x l res ht hv hl) rfl (fun v' G' H' h hg=>by cases h.1) (fun ch G' H' h hg=>?_) (fun G' H' h=>by repeat (first | (cases h.1;done) | (cases h;done) | (obtain⟨_,h⟩:=h) | (rcases h with h | h))))
  obtain⟨he,rfl,c,hc,rfl⟩:=h
  cases he
  refine WK.un ?_
  exact QF.panicP ⟨rfl,rfl,_,⟨c,hc,rfl⟩,rfl⟩
 | some rv=>
  obtain⟨r,v⟩:=rv
  rw[show on1 l res _= .leave r [v] by rw[on1,ht]]
  obtain⟨rfl,hvt⟩:=ty1_some ht
  refine WL.oo (OW.callK rfl (typed1_ok G _ b A cap p a B m cm x r v res hvt hv hl) rfl fun v' G' H' h hg=>?_)
  obtain⟨A',cap',x',he,rfl,rfl,hv1,hv2⟩:=h
  cases he
  refine WL.oo (OW.callK rfl (hL.2 A' cap' x' v hv1) rfl fun v' G' H' h hg=>?_)
  obtain⟨he,rfl,hR⟩:=h
  cases he
  refine WL.nil ?_
  refine WK.un ?_
  refine WC.exit ?_
  refine WK.un ?_
  refine WK.un ?_
  refine WK.swap ?_
  exact QF.p0 (.inr rfl) rfl ⟨rfl,H',rfl,hv2,hR,rfl⟩ pkA
end
end
section
attribute [local irreducible] Tryz.prog
section
variable (G:Gh) (mb:Nat) (c1 c2 c3:Value) (FA:Option Addr) (fn fcap:Nat) (en:Int) (w:V) (OA:Option Addr) (ocap:Nat) (st:Int) (ed:Bool) (out:List V) (ox fx:Own) (Hx:List Own) (RL:List V→List Own→Prop)
  (b:Nat) (A:Option Addr) (cap:Nat) (p a:Int) (B:Option Addr) (m cm:Nat) (x:Own) (l:List V) (nm:ByteArray) (ex:Bool) (qv cv:Value) (lo res:Int)
theorem plain_fn (c:Int) (hc:c=10) (hv:VVec A cap l x) (hl:l.length≤1000000) (hz:∀v∈l,v.s.size≤400000000000) (ho:VVec OA ocap out ox) (hL:Lv G mb (mcB mb c1 c2 c3 FA fn fcap en w OA out.length ocap st ed) fx Hx RL):
  Fn Tryz.prog 198 #[.pointer (some ⟨mb,0,none⟩), .pointer (some ⟨b,0,none⟩), .agg #[.string nm, .bool ex,qv, .int .i64 lo, .int .i64 res,cv], .int .i64 c] G
  (mcB mb c1 c2 c3 FA fn fcap en w OA out.length ocap st ed::ox::frB b A l.length cap p a B m cm::x::fx::Hx) (PlR G mb c1 c2 c3 FA fn fcap en w OA ocap st ed out ox fx Hx RL b A cap p a B m cm x (plainR res l c out.length)):=by
 subst hc
 exact plain_give G mb c1 c2 c3 FA fn fcap en w OA ocap st ed out ox fx Hx RL b A cap p a B m cm x l nm ex qv cv lo res hv hl hL
end
end
section
attribute [local irreducible] Tryz.prog
def OpS (l:List (Int×Int)):Prop:=∀i∈l,i.1=1∨i.1=7∨i.1=10
inductive DR where
 | halt (n:Int)
 | go (l:List V) (k:Nat) (vars:List V)
 | print (l:List V) (v:V)
 | call (q:Pr) (r args:List V) (n:Int)
 | leave (l g:List V)
def layRQ (l:List V) (k:Nat) (vars:List V) (v:V):DR:=if 128≤l.length then .halt 6 else .go (l++[v]) (k+1) vars
def constR (consts:List V) (l:List V) (k:Nat) (vars:List V) (n:Int):DR:=if n<0 then .halt 6 else match consts[n.toNat]? with
 | none=> .halt 6
 | some v=>if vOK v=true then layRQ l k vars v else .halt 6
def loadR (l:List V) (k:Nat) (vars:List V) (n:Int):DR:=if n<0 then .halt 6 else match vars[n.toNat]? with
 | none=> .halt 6
 | some v=>if v.t=0 then .halt 6 else layRQ l k vars v
def storeR (l:List V) (k:Nat) (vars:List V) (n:Int):DR:=if n<0∨vars.length≤n.toNat then .halt 6 else match pop1 l with
 | none=> .halt 6
 | some (r,v)=> .go r (k+1) (vars.set n.toNat v)
def jumpR (cl:Nat) (l:List V) (vars:List V) (n:Int):DR:=if n<0∨cl≤n.toNat then .halt 6 else .go l n.toNat vars
def unlessR (cl:Nat) (l:List V) (k:Nat) (vars:List V) (n:Int):DR:=if n<0∨cl≤n.toNat then .halt 6 else match ty1 l 2 with
 | none=> .halt 6
 | some (r,v)=> .go r (if v.b then k+1 else n.toNat) vars
def callD (procs:List Pr) (l:List V) (n:Int) (depth:Nat):DR:=match callR procs l n depth with
 | .error e=> .halt e
 | .ok (q,r,a)=> .call q r a n
def plainD (res:Int) (l:List V) (k:Nat) (vars:List V) (c:Int) (outn:Nat):DR:=match plainR res l c outn with
 | .halt m=> .halt m
 | .set r=> .go r (k+1) vars
 | .print r v=> .print r v
 | .leave r g=> .leave r g
def doR (pg:Pg) (pr:Pr) (l:List V) (k:Nat) (vars:List V) (depth outn:Nat):DR:=match pr.code[k]? with
 | none=> .halt 6
 | some (c,n)=>
  if c=1 then constR pg.consts l k vars n
  else if c=2 then loadR l k vars n
  else if c=3 then storeR l k vars n
  else if c=5 then jumpR pr.code.length l vars n
  else if c=6 then unlessR pr.code.length l k vars n
  else if c=7 then callD pg.procs l n depth
  else if n≠0 then .halt 6
  else plainD pr.result l k vars c outn
def DoR (G:Gh) (mb:Nat) (c1 c2 c3:Value) (FA:Option Addr) (fcap:Nat) (en:Int) (w:V) (OA:Option Addr) (ocap:Nat) (st:Int) (ed:Bool) (out:List V) (ox fx:Own) (Hx:List Own) (RL:List V→List Own→Prop)
  (b:Nat) (A:Option Addr) (cap pi:Nat) (B:Option Addr) (vars:List V) (cm:Nat) (x y:Own) (bs:List Nat) (k1:Nat) (r:DR):Ending→Gh→List Own→Prop:=fun e G' H'=>G=G'∧match r with
 | .halt n=>e=halted n∧∃z,Left b [z]∧H'=mcB mb c1 c2 c3 FA bs.length fcap en w OA out.length ocap st ed::ox::z::fx::Hx
 | .go l' k' vars'=>∃A' cap' x' y',e= .returned (.tuple #[])∧VVec A' cap' l' x'∧VVec B cm vars' y'∧H'=mcB mb c1 c2 c3 FA bs.length fcap en w OA out.length ocap st ed::ox::frB b A' l'.length cap' pi k' B vars'.length cm::x'::y'::fx::Hx
 | .print l' v=>∃OA' ocap' ox',e= .returned (.tuple #[])∧VVec OA' ocap' (out++[v]) ox'∧VVec A cap l' x∧H'=mcB mb c1 c2 c3 FA bs.length fcap en w OA' (out++[v]).length ocap' st ed::ox'::frB b A l'.length cap pi k1 B vars.length cm::x::y::fx::Hx
 | .call q l' args n=>∃FA' fcap' b' VA fx' yv,e= .returned (.tuple #[])∧PVec FA' fcap' (bs++[b']) fx'∧VVec VA (padded args q.locals).length (padded args q.locals) yv∧VVec A cap l' x∧
   H'=mcB mb c1 c2 c3 FA' (bs++[b']).length fcap' en w OA out.length ocap st ed::ox::frB b A l'.length cap pi k1 B vars.length cm::x::y::fx'::frB b' none 0 0 n 0 VA (padded args q.locals).length (padded args q.locals).length:: .spare 0 0 0::yv::Hx
 | .leave l' g=>∃H1,e= .returned (.tuple #[])∧RL g H1∧H'=ox::H1
section
variable (G:Gh) (pg:Pg) (CA PA:Option Addr) (cc pc:Nat) (hC:Sl Kd.val G CA pg.consts) (hP:Sl Kd.prc G PA pg.procs)
  (mb:Nat) (c3:Value) (FA:Option Addr) (fcap:Nat) (en:Int) (w:V) (OA:Option Addr) (ocap:Nat) (st:Int) (ed:Bool) (out:List V) (ox fx:Own) (Hx:List Own) (RL:List V→List Own→Prop)
  (b:Nat) (A:Option Addr) (cap pi:Nat) (pr:Pr) (hpr:pg.procs[pi]? =some pr) (B:Option Addr) (vars:List V) (cm:Nat) (x y:Own) (bs:List Nat) (l:List V) (k:Nat) (hkb:k≤100000000000000∧OpS pr.code)
include hC hP hpr hkb
theorem do_const (n:Int) (hi:pr.code[k]? =some (1,n)) (hv:VVec A cap l x) (hl:l.length≤1000000) (hy:VVec B cm vars y):Fn Tryz.prog 167 #[.pointer (some ⟨mb,0,none⟩), .pointer (some ⟨b,0,none⟩)] G
  (mcB mb (.slice CA pg.consts.length cc) (.slice PA pg.procs.length pc) c3 FA bs.length fcap en w OA out.length ocap st ed::ox::frB b A l.length cap pi k B vars.length cm::x::y::fx::Hx)
  (DoR G mb (.slice CA pg.consts.length cc) (.slice PA pg.procs.length pc) c3 FA fcap en w OA ocap st ed out ox fx Hx RL b A cap pi B vars cm x y bs (k+1) (doR pg pr l k vars bs.length out.length)):=by
 rw[show doR pg pr l k vars bs.length out.length=constR pg.consts l k vars n by simp[doR,hi]]
 obtain⟨pb,po,cs,hPA,⟨QA,qc,IA,ic,rfl,hQ,hI⟩,hcs⟩:=hP pi pr hpr
 obtain⟨ib,io,cs2,rfl,hK,hcs2⟩:=hI k (1,n) hi
 obtain rfl:cs2=[.int .i64 1, .int .i64 n]:=hK
 have hk:k<pr.code.length:=(List.getElem?_eq_some_iff.1 hi).1
 have hpl:pi<pg.procs.length:=(List.getElem?_eq_some_iff.1 hpr).1
 subst hPA
 refine Fn.enter Tryz.func167 rfl rfl fun w0=>?_
 refine WC.seq ?_
 refine WC.draw mixed ?_
 refine za.move 0 ?_
 refine za.nil 1 ?_
 refine za.fa 2 ?_
 refine za.fa 3 ?_
 refine za.ld 4 ?_
 refine za.move 5 ?_
 refine za.nil 6 ?_
 refine za.fa 7 ?_
 refine za.ld 8 ?_
 refine za.ix 9 ?_
 refine WA.vv 10 rfl (Gv.loadGN rfl hcs rfl) ?_
 refine WA.oo 11 rfl (OW.alloc rfl fun b1=>?_)
 refine za.st 12 ?_
 refine WA.done kr ?_
 refine WK.un ?_
 refine WC.seq ?_
 refine WC.draw mixed ?_
 refine za.move 0 ?_
 refine za.nil 1 ?_
 refine za.fa 2 ?_
 refine za.ld 3 ?_
 refine WA.pp 4 rfl (Gp.geI' rfl rfl (show decide ((0:Int)≤(k:Int))=true by simp)) ?_
 refine za.move 5 ?_
 refine za.move 6 ?_
 refine za.nil 7 ?_
 refine za.fa 8 ?_
 refine za.ld 9 ?_
 refine za.fa 10 ?_
 refine za.ld 11 ?_
 refine za.len 12 ?_
 refine WA.pp 13 rfl (Gp.ltI' rfl rfl (show decide ((k:Int)<(pr.code.length:Int))=true by simp;omega)) ?_
 refine za.pick 14 ?_
 refine WA.oo 15 rfl (OW.callR rfl (Hf:=[]) (List.Perm.refl _) (need_ok G) rfl (by rintro e G' H' ⟨h,_⟩;exact⟨_,h⟩) fun v' G' H' h hg=>?_)
 obtain⟨he,rfl,rfl⟩:=h
 cases he
 refine WA.done kr ?_
 refine WK.un ?_
 refine WC.seq ?_
 refine WC.draw mixed ?_
 refine za.fa 0 ?_
 refine za.ld 1 ?_
 refine za.move 2 ?_
 refine za.nil 3 ?_
 refine za.fa 4 ?_
 refine za.ld 5 ?_
 refine za.ix 6 ?_
 refine WA.vv 7 rfl (Gv.loadGN rfl hcs2 rfl) ?_
 refine WA.oo 8 rfl (OW.alloc rfl fun b2=>?_)
 refine za.st 9 ?_
 refine WA.done kr ?_
 refine WK.un ?_
 refine WC.seq ?_
 refine WC.region ?_
 refine zw.move ?_
 refine zw.nil ?_
 refine zw.fa ?_
 refine zw.ld ?_
 refine WL.pp (Gp.add' rfl rfl (show IntKind.i64.wrap ((k:Int)+1)=((k+1:Nat):Int) by rw[wrap_small (by omega) (by omega)];omega)) ?_
 refine zw.nil ?_
 refine zw.fa ?_
 refine zw.st ?_
 refine WL.nil ?_
 refine WK.un ?_
 refine WC.seq ?_
 refine WC.region ?_
 refine zw.fa ?_
 refine zw.ld ?_
 refine WL.nil ?_
 refine WK.un ?_
 refine WC.pk (H':= .blk b2 (.cells #[.int .i64 1, .int .i64 n] 50 (0,0)):: .blk b1 (.cells #[.string pr.name, .bool pr.exp, .slice QA pr.params.length qc, .int .i64 pr.locals, .int .i64 pr.result, .slice (some ⟨ib,io,none⟩) pr.code.length ic] 47 (0,0))::mcB mb (.slice CA pg.consts.length cc) (.slice (some ⟨pb,po,none⟩) pg.procs.length pc) c3 FA bs.length fcap en w OA out.length ocap st ed::ox::frB b A l.length cap pi (k+1:Nat) B vars.length cm::x::y::fx::Hx) pkA ?_
 repeat (first | refine WC.seq ?_ | refine WC.block ?_ | (refine WC.region ?_;refine WL.p (Gp.eqI rfl rfl) kr rfl ?_;refine WL.p (Gp.assign rfl) kr rfl ?_;refine WL.nil ?_;refine WK.un ?_) | refine WC.cond_true rfl ?_ | refine WC.cond_false rfl ?_ | (refine WC.skip ?_;refine WK.un ?_) | (refine WC.exit ?_;refine WK.un ?_))
 refine WC.draw mixed ?_
 refine za.fa 0 ?_
 refine za.ld 1 ?_
 by_cases hn0:n<0
 ·rw[show constR pg.consts l k vars n= .halt 6 by rw[constR,if_pos hn0]]
  refine WA.pp 2 rfl (Gp.geI' rfl rfl (show decide ((0:Int)≤n)=false by simpa using hn0)) ?_
  refine za.move 3 ?_
  refine za.skip 4 ?_
  refine za.skip 5 ?_
  refine za.skip 6 ?_
  refine za.skip 7 ?_
  refine za.skip 8 ?_
  refine za.skip 9 ?_
  refine za.skip 10 ?_
  refine za.skip 11 ?_
  refine za.skip 12 ?_
  refine za.pick 13 ?_
  refine za.move 14 ?_
  refine za.skip 15 ?_
  refine za.skip 16 ?_
  refine za.skip 17 ?_
  refine za.skip 18 ?_
  refine za.skip 19 ?_
  refine za.skip 20 ?_
  refine za.skip 21 ?_
  refine za.skip 22 ?_
  refine za.skip 23 ?_
  refine za.skip 24 ?_
  refine za.pick 25 ?_
  refine WA.oo 26 rfl (OW.call rfl (Hf:=[]) (List.Perm.refl _) (need_no _) rfl (fun v G' H' h _=>by cases h.1) (fun ch G' H' h _=>?_) (fun G' H' h=>by cases h.1))
  obtain⟨he,rfl,rfl⟩:=h
  cases he
  refine WK.un ?_
  exact QF.panicP (⟨rfl,rfl,_,Left.of b A l.length cap pi (k+1:Nat) B vars.length cm,rfl⟩)
 obtain⟨i,rfl⟩:=Int.eq_ofNat_of_zero_le (Int.not_lt.1 hn0)
 refine WA.pp 2 rfl (Gp.geI' rfl rfl (show decide ((0:Int)≤(i:Int))=true by simp)) ?_
 refine za.move 3 ?_
 refine za.fa 4 ?_
 refine za.ld 5 ?_
 refine za.move 6 ?_
 refine za.nil 7 ?_
 refine za.fa 8 ?_
 refine za.fa 9 ?_
 refine za.ld 10 ?_
 refine za.len 11 ?_
 cases hc:pg.consts[i]? with
 | none=>
  rw[show constR pg.consts l k vars (i:Int)= .halt 6 by rw[constR,if_neg hn0,Int.toNat_natCast,hc]]
  refine WA.pp 12 rfl (Gp.ltI' rfl rfl (show decide ((i:Int)<(pg.consts.length:Int))=false by have:=List.getElem?_eq_none_iff.1 hc;simp;omega)) ?_
  refine za.pick 13 ?_
  refine za.move 14 ?_
  refine za.skip 15 ?_
  refine za.skip 16 ?_
  refine za.skip 17 ?_
  refine za.skip 18 ?_
  refine za.skip 19 ?_
  refine za.skip 20 ?_
  refine za.skip 21 ?_
  refine za.skip 22 ?_
  refine za.skip 23 ?_
  refine za.skip 24 ?_
  refine za.pick 25 ?_
  refine WA.oo 26 rfl (OW.call rfl (Hf:=[]) (List.Perm.refl _) (need_no _) rfl (fun v G' H' h _=>by cases h.1) (fun ch G' H' h _=>?_) (fun G' H' h=>by cases h.1))
  obtain⟨he,rfl,rfl⟩:=h
  cases he
  refine WK.un ?_
  exact QF.panicP (⟨rfl,rfl,_,Left.of b A l.length cap pi (k+1:Nat) B vars.length cm,rfl⟩)
 | some v=>
 obtain⟨cb,co,cs3,rfl,hK3,hcs3⟩:=hC i v hc
 obtain rfl:cs3=vcells v:=hK3
 have hic:i<pg.consts.length:=(List.getElem?_eq_some_iff.1 hc).1
 refine WA.pp 12 rfl (Gp.ltI' rfl rfl (show decide ((i:Int)<(pg.consts.length:Int))=true by simp;omega)) ?_
 refine za.pick 13 ?_
 refine za.move 14 ?_
 refine za.move 15 ?_
 refine za.nil 16 ?_
 refine za.fa 17 ?_
 refine za.fa 18 ?_
 refine za.ld 19 ?_
 refine za.fa 20 ?_
 refine za.ld 21 ?_
 refine za.ix 22 ?_
 refine WA.vv 23 rfl (Gv.loadGN rfl hcs3 rfl) ?_
 refine WA.oo 24 rfl (OW.callR rfl (Hf:=[]) (List.Perm.refl _) (value_fnQ G v) rfl (by rintro e G' H' ⟨h,_⟩;exact⟨_,h⟩) fun v' G' H' h hg=>?_)
 obtain⟨he,rfl,rfl⟩:=h
 cases he
 refine za.pick 25 ?_
 by_cases hok:vOK v=true
 rotate_left
 ·rw[show constR pg.consts l k vars (i:Int)= .halt 6 by rw[constR,if_neg hn0,Int.toNat_natCast,hc];exact if_neg hok]
  rw[show vOK v=false by simpa using hok]
  refine WA.oo 26 rfl (OW.call rfl (Hf:=[]) (List.Perm.refl _) (need_no _) rfl (fun v G' H' h _=>by cases h.1) (fun ch G' H' h _=>?_) (fun G' H' h=>by cases h.1))
  obtain⟨he,rfl,rfl⟩:=h
  cases he
  refine WK.un ?_
  exact QF.panicP (⟨rfl,rfl,_,Left.of b A l.length cap pi (k+1:Nat) B vars.length cm,rfl⟩)
 rw[show constR pg.consts l k vars (i:Int)=layRQ l k vars v by rw[constR,if_neg hn0,Int.toNat_natCast,hc];exact if_pos hok]
 rw[hok]
 refine WA.oo 26 rfl (OW.callR rfl (Hf:=[]) (List.Perm.refl _) (need_ok G) rfl (by rintro e G' H' ⟨h,_⟩;exact⟨_,h⟩) fun v' G' H' h hg=>?_)
 obtain⟨he,rfl,rfl⟩:=h
 cases he
 refine WA.done kr ?_
 refine WK.un ?_
 refine WC.draw mixed ?_
 refine za.move 0 ?_
 refine za.move 1 ?_
 refine za.move 2 ?_
 refine za.nil 3 ?_
 refine za.fa 4 ?_
 refine za.fa 5 ?_
 refine za.ld 6 ?_
 refine za.fa 7 ?_
 refine za.ld 8 ?_
 refine za.ix 9 ?_
 refine WA.vv 10 rfl (Gv.loadGN rfl hcs3 rfl) ?_
 by_cases hf:128≤l.length
 ·rw[show layRQ l k vars v= .halt 6 by rw[layRQ,if_pos hf]]
  refine WA.oo 11 rfl (OW.call rfl (Pk.perm pkA) (lay_no G _ b A l.length cap pi (k+1:Nat) B vars.length cm _ hf) rfl (fun v' G' H' h hg=>by cases h.1) (fun ch G' H' h hg=>?_) (fun G' H' h=>by repeat (first | (cases h.1;done) | (cases h;done) | (obtain⟨_,h⟩:=h) | (rcases h with h | h))))
  obtain⟨he,rfl,c,hc,rfl⟩:=h
  cases he
  refine WK.un ?_
  exact QF.panicP ⟨rfl,rfl,_,⟨c,hc,rfl⟩,rfl⟩
 rw[show layRQ l k vars v= .go (l++[v]) (k+1) vars by rw[layRQ,if_neg hf]]
 refine WA.oo 11 rfl (OW.callK rfl (lay_ok G _ b A cap pi (k+1:Nat) B vars.length cm l x v hv (by omega)) rfl fun v' G' H' h hg=>?_)
 obtain⟨A',cap',x',he,rfl,rfl,hv'⟩:=h
 cases he
 refine WA.done kr ?_
 refine WK.un ?_
 exact QF.p0 (.inr rfl) rfl ⟨rfl,A',cap',x',y,rfl,hv',hy,rfl⟩ pkA
end
end
section
attribute [local irreducible] Tryz.prog
section
variable (G:Gh) (pg:Pg) (CA PA:Option Addr) (cc pc:Nat) (hC:Sl Kd.val G CA pg.consts) (hP:Sl Kd.prc G PA pg.procs)
  (mb:Nat) (c3:Value) (FA:Option Addr) (fcap:Nat) (en:Int) (w:V) (OA:Option Addr) (ocap:Nat) (st:Int) (ed:Bool) (out:List V) (ox fx:Own) (Hx:List Own) (RL:List V→List Own→Prop)
  (b:Nat) (A:Option Addr) (cap pi:Nat) (pr:Pr) (hpr:pg.procs[pi]? =some pr) (B:Option Addr) (vars:List V) (cm:Nat) (x y:Own) (bs:List Nat) (l:List V) (k:Nat) (hkb:k≤100000000000000∧OpS pr.code)
include hC hP hpr hkb
theorem do_call (n:Int) (hi:pr.code[k]? =some (7,n)) (hv:VVec A cap l x) (hl:l.length≤1000000) (hfv:PVec FA fcap bs fx) (hbs:bs.length≤1000000000):Fn Tryz.prog 167 #[.pointer (some ⟨mb,0,none⟩), .pointer (some ⟨b,0,none⟩)] G
  (mcB mb (.slice CA pg.consts.length cc) (.slice PA pg.procs.length pc) c3 FA bs.length fcap en w OA out.length ocap st ed::ox::frB b A l.length cap pi k B vars.length cm::x::y::fx::Hx)
  (DoR G mb (.slice CA pg.consts.length cc) (.slice PA pg.procs.length pc) c3 FA fcap en w OA ocap st ed out ox fx Hx RL b A cap pi B vars cm x y bs (k+1) (doR pg pr l k vars bs.length out.length)):=by
 rw[show doR pg pr l k vars bs.length out.length=callD pg.procs l n bs.length by simp[doR,hi]]
 obtain⟨pb,po,cs,hPA,⟨QA,qc,IA,ic,rfl,hQ,hI⟩,hcs⟩:=hP pi pr hpr
 obtain⟨ib,io,cs2,rfl,hK,hcs2⟩:=hI k (7,n) hi
 obtain rfl:cs2=[.int .i64 7, .int .i64 n]:=hK
 have hk:k<pr.code.length:=(List.getElem?_eq_some_iff.1 hi).1
 have hpl:pi<pg.procs.length:=(List.getElem?_eq_some_iff.1 hpr).1
 subst hPA
 refine Fn.enter Tryz.func167 rfl rfl fun w0=>?_
 refine WC.seq ?_
 refine WC.draw mixed ?_
 refine za.move 0 ?_
 refine za.nil 1 ?_
 refine za.fa 2 ?_
 refine za.fa 3 ?_
 refine za.ld 4 ?_
 refine za.move 5 ?_
 refine za.nil 6 ?_
 refine za.fa 7 ?_
 refine za.ld 8 ?_
 refine za.ix 9 ?_
 refine WA.vv 10 rfl (Gv.loadGN rfl hcs rfl) ?_
 refine WA.oo 11 rfl (OW.alloc rfl fun b1=>?_)
 refine za.st 12 ?_
 refine WA.done kr ?_
 refine WK.un ?_
 refine WC.seq ?_
 refine WC.draw mixed ?_
 refine za.move 0 ?_
 refine za.nil 1 ?_
 refine za.fa 2 ?_
 refine za.ld 3 ?_
 refine WA.pp 4 rfl (Gp.geI' rfl rfl (show decide ((0:Int)≤(k:Int))=true by simp)) ?_
 refine za.move 5 ?_
 refine za.move 6 ?_
 refine za.nil 7 ?_
 refine za.fa 8 ?_
 refine za.ld 9 ?_
 refine za.fa 10 ?_
 refine za.ld 11 ?_
 refine za.len 12 ?_
 refine WA.pp 13 rfl (Gp.ltI' rfl rfl (show decide ((k:Int)<(pr.code.length:Int))=true by simp;omega)) ?_
 refine za.pick 14 ?_
 refine WA.oo 15 rfl (OW.callR rfl (Hf:=[]) (List.Perm.refl _) (need_ok G) rfl (by rintro e G' H' ⟨h,_⟩;exact⟨_,h⟩) fun v' G' H' h hg=>?_)
 obtain⟨he,rfl,rfl⟩:=h
 cases he
 refine WA.done kr ?_
 refine WK.un ?_
 refine WC.seq ?_
 refine WC.draw mixed ?_
 refine za.fa 0 ?_
 refine za.ld 1 ?_
 refine za.move 2 ?_
 refine za.nil 3 ?_
 refine za.fa 4 ?_
 refine za.ld 5 ?_
 refine za.ix 6 ?_
 refine WA.vv 7 rfl (Gv.loadGN rfl hcs2 rfl) ?_
 refine WA.oo 8 rfl (OW.alloc rfl fun b2=>?_)
 refine za.st 9 ?_
 refine WA.done kr ?_
 refine WK.un ?_
 refine WC.seq ?_
 refine WC.region ?_
 refine zw.move ?_
 refine zw.nil ?_
 refine zw.fa ?_
 refine zw.ld ?_
 refine WL.pp (Gp.add' rfl rfl (show IntKind.i64.wrap ((k:Int)+1)=((k+1:Nat):Int) by rw[wrap_small (by omega) (by omega)];omega)) ?_
 refine zw.nil ?_
 refine zw.fa ?_
 refine zw.st ?_
 refine WL.nil ?_
 refine WK.un ?_
 refine WC.seq ?_
 refine WC.region ?_
 refine zw.fa ?_
 refine zw.ld ?_
 refine WL.nil ?_
 refine WK.un ?_
 refine WC.pk (H':= .blk b2 (.cells #[.int .i64 7, .int .i64 n] 50 (0,0)):: .blk b1 (.cells #[.string pr.name, .bool pr.exp, .slice QA pr.params.length qc, .int .i64 pr.locals, .int .i64 pr.result, .slice (some ⟨ib,io,none⟩) pr.code.length ic] 47 (0,0))::mcB mb (.slice CA pg.consts.length cc) (.slice (some ⟨pb,po,none⟩) pg.procs.length pc) c3 FA bs.length fcap en w OA out.length ocap st ed::ox::frB b A l.length cap pi (k+1:Nat) B vars.length cm::x::y::fx::Hx) pkA ?_
 repeat (first | refine WC.seq ?_ | refine WC.block ?_ | (refine WC.region ?_;refine WL.p (Gp.eqI rfl rfl) kr rfl ?_;refine WL.p (Gp.assign rfl) kr rfl ?_;refine WL.nil ?_;refine WK.un ?_) | refine WC.cond_true rfl ?_ | refine WC.cond_false rfl ?_ | (refine WC.skip ?_;refine WK.un ?_) | (refine WC.exit ?_;refine WK.un ?_))
 refine WC.region ?_
 refine zw.move ?_
 refine zw.move ?_
 refine zw.fa ?_
 refine zw.ld ?_
 cases hq:callR pg.procs l n bs.length with
 | error e=>
  rw[show callD pg.procs l n bs.length= .halt e by rw[callD,hq]]
  refine WL.oo (OW.call rfl (Pk.perm pkA) ((call_fn G mb (.slice CA pg.consts.length cc) c3 (some ⟨pb,po,none⟩) pc pg.procs FA fcap en w OA out.length ocap st ed bs fx hP hfv hbs b A cap pi (k+1:Nat) B vars.length cm l x hv hl n).mono fun e' G' H' h=>(by rw[hq]at h;exact h:G=G'∧e'=halted e∧∃H1,Left b H1∧H'=mcB mb (.slice CA pg.consts.length cc) (.slice (some ⟨pb,po,none⟩) pg.procs.length pc) c3 FA bs.length fcap en w OA out.length ocap st ed::fx::H1)) rfl (fun v' G' H' h hg=>by cases h.2.1) (fun ch G' H' h hg=>?_) (fun G' H' h=>by cases h.2.1))
  obtain⟨rfl,he,H1,⟨c,hc,rfl⟩,rfl⟩:=h
  cases he
  refine WK.un ?_
  exact QF.panicP ⟨rfl,rfl,_,⟨c,hc,rfl⟩,rfl⟩ pkA
 | ok t=>
  obtain⟨q,r,args⟩:=t
  rw[show callD pg.procs l n bs.length= .call q r args n by rw[callD,hq]]
  refine WL.oo (OW.callR rfl (Pk.perm pkA) ((call_fn G mb (.slice CA pg.consts.length cc) c3 (some ⟨pb,po,none⟩) pc pg.procs FA fcap en w OA out.length ocap st ed bs fx hP hfv hbs b A cap pi (k+1:Nat) B vars.length cm l x hv hl n).mono fun e' G' H' h=>(by rw[hq]at h;exact h)) rfl (by rintro e G' H' ⟨_,_,_,_,_,_,_,h,_⟩;exact⟨_,h⟩) fun v' G' H' h hg=>?_)
  obtain⟨rfl,FA',fcap',b',VA,x',yv,he,rfl,hx2,hy2,hv2⟩:=h
  cases he
  refine WL.nil ?_
  refine WK.un ?_
  exact QF.p0 (.inr rfl) rfl ⟨rfl,FA',fcap',b',VA,x',yv,rfl,hx2,hy2,hv2,rfl⟩ pkA
end
end
end Go.Proofs.YtcnlkfocbbkdhaaGreatDoor.Gb
