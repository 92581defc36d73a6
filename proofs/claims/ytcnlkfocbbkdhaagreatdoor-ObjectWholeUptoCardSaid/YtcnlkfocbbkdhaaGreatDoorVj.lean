/- Bytes onto a constant's bytes. The document's bytes of an object: walked. The document's look at a program: walked. The writer's first constants: walked. Bytes of a program, the program's and the document's: walked. What the verifier takes lies within the bounds of what is read, and its bytes are those that are read (no program in sight). An object's file read, walked. A program's file read, walked. Arguments of a bounded bulk, opened with the sum of all that they hold: lists of objects. How many bytes objects and programs have; ObjectBytes: walked. What is written is bytes (no program in sight). Values and points, compared. Objects compared, by the program and by the document: walked. Objects and programs compared, by the program and by the document; ObjectSames: walked. Objects and programs compared, by the program and by the document: walked. ObjectBack: walked. ObjectOrder: its arguments opened. ObjectBytes: its arguments opened. ObjectWhole: walked. Rows of bytes of bounded bulk, opened. -/
import Derived.Test.YtcnlkfocbbkdhaaGreatDoorVi
set_option linter.unusedVariables false
set_option linter.unusedSimpArgs false
set_option linter.unusedSectionVars false
namespace Go.Proofs.YtcnlkfocbbkdhaaGreatDoor.Gb
open Go Go.Proofs
section
open Go.MapKept
section
variable {P:Program} {Q:Exit→Act→World→Prop} {cx:Cx} {L:List (Nat×Value)} {G:Gh} {H:List Own} {K:List (Nat×Value)→Gh→List Own→Prop}
 {d:Option Tmp} {ty:TypeId} {pos:String} {af:Array Edge} {gu:Option (Nat×Bool)}
end
end
section
open Go.MapKept
attribute [local irreducible] Tryz.prog bytesR preL valsI procsI ndI objAns
def preO (o:Ob) (k:Nat):List Int:=magI++txtI o.path++valsI o.consts++preL ndI o.needs k
end
section
open Go.MapKept
attribute [local irreducible] Tryz.prog ptsOkR fileR valueR allA
end
section
open Go.MapKept
attribute [local irreducible] Tryz.prog
theorem putUintF_fn (G:Gh) (A:Option Addr) (l:List Int) (cap:Nat) (hA:Sl (Kd.int .u8) G A l) (n:Nat) (hn:n<18446744073709551616) (hl:l.length≤100000000000):
  Fn Tryz.prog 108 #[.slice A l.length cap, .int .u64 n] G [] fun e G' H'=>∃A' cap' x',e= .returned (.slice A' (l++uintL n).length cap')∧G=G'∧BVec A' (l++uintL n) cap' x'∧H'=[x']:=by
 refine Fn.enter Tryz.func108 rfl rfl fun w0=>?_
 refine gom ?_
 refine WL.oo (OW.callK rfl (freshF_fn G A l cap hA (by omega) 10 (by decide)) rfl fun v' G' H' h hg=>?_)
 obtain⟨A1,c1,x1,he,rfl,h1,rfl⟩:=h
 cases he
 refine gom ?_
 refine WL.oo (OW.callK rfl (short_fn G A1 l c1 x1 h1 n hn (by omega)) rfl fun v' G' H' h hg=>?_)
 obtain⟨A2,c2,x2,he,rfl,h2,rfl⟩:=h
 cases he
 refine gom ?_
 refine WC.rt ?_
 exact QF.p1 (.inl rfl) rfl (.tmp rfl) (⟨_,_,x2,rfl,rfl,h2,rfl⟩)
theorem uintF_fn (G:Gh) (wb:Nat) (A:Option Addr) (l:List Int) (cap:Nat) (hA:Sl (Kd.int .u8) G A l) (n:Int) (hl:l.length≤100000000000):
  Fn Tryz.prog 61 #[.pointer (some ⟨wb,0,none⟩), .int .i64 n] G [wrB wb A l.length cap] (WrP wb l (uI n) G):=by
 refine Fn.enter Tryz.func61 rfl rfl fun w0=>?_
 refine gom ?_
 refine WL.pp (Gp.convTo (r:=(((IntKind.u64.wrap n).toNat:Nat):Int)) rfl (u64_wrap n).1) ?_
 refine WL.oo (OW.callK rfl (putUintF_fn G A l cap hA (IntKind.u64.wrap n).toNat (u64_wrap n).2 hl) rfl fun v' G' H' h hg=>?_)
 obtain⟨A1,c1,x1,he,rfl,h1,rfl⟩:=h
 cases he
 refine gom ?_
 refine WK.un ?_
 exact QF.p0 (.inr rfl) rfl  (⟨A1,c1,x1,rfl,Gh.le_refl _,h1,rfl⟩)
set_option maxRecDepth 20000 in
set_option maxHeartbeats 2000000 in
theorem wvaluesF_fn (G:Gh) (wb:Nat) (A:Option Addr) (l:List Int) (cap:Nat) (hA:Sl (Kd.int .u8) G A l) (VA:Option Addr) (vs:List V) (vc:Nat) (hV:Sl Kd.val G VA vs) (hi:∀v∈vs, -9223372036854775808≤v.i∧v.i≤9223372036854775807) (hvl:vs.length≤1000000000) (hl0:l.length≤1000) (hl:l.length+(valsI vs).length≤80000000000000):
  Fn Tryz.prog 60 #[.pointer (some ⟨wb,0,none⟩), .slice VA vs.length vc] G [wrB wb A l.length cap] (WrP wb l (valsI vs) G):=by
 refine Fn.enter Tryz.func60 rfl rfl fun w0=>?_
 refine gom ?_
 refine WL.oo (OW.callK rfl (uintF_fn G wb A l cap hA (vs.length:Int) (by omega)) rfl fun v' G' H' h hg=>?_)
 obtain⟨A1,c1,x1,he,hg1,h1,rfl⟩:=h
 cases he
 refine gom ?_
 have hb:∀k,(l++uI vs.length++(vs.take k).flatMap valI).length=l.length+(uI vs.length).length+((vs.take k).flatMap valI).length:=fun k=>by rw[List.length_append,List.length_append]
 have hvl':(valsI vs).length=(uI vs.length).length+(vs.flatMap valI).length:=by rw[valsI,List.length_append]
 have h00:l++uI vs.length++(vs.take 0).flatMap valI=l++uI vs.length:=by simp
 refine WC.loop (X:=WrS) (fun s=>[(0, .pointer (some ⟨wb,0,none⟩)),(10, .slice VA vs.length vc),(11, .int .i64 vs.length),(12, .int .i64 s.i)]) (fun s=>s.G) (fun s=>[wrB wb s.A s.n s.cap,s.x]) (fun s=>vs.length - s.i) (fun s=>s.i≤vs.length∧G.le s.G∧BVec s.A (l++uI vs.length++(vs.take s.i).flatMap valI) s.cap s.x∧s.n=(l++uI vs.length++(vs.take s.i).flatMap valI).length)
  ⟨0,A1,c1,x1,G',(l++uI vs.length).length⟩ ⟨Nat.zero_le _,hg1,by rw[h00];exact h1,by dsimp only;rw[h00]⟩ (by exact⟨rfl,rfl,rfl,rfl,trivial⟩) rfl (List.Sublist.refl _) (fun s hs=>?_)
 obtain⟨k,B,c,o,G2,n⟩:=s
 obtain⟨hk,hg2,hv,hn⟩:=hs
 dsimp only at hk hg2 hv hn
 have x2:=wrapS k (by omega)
 by_cases hlt:k<vs.length
 rotate_left
 ·have e2:decide ((k:Int)<(vs.length:Int))=false:=decide_eq_false (by omega)
  have ht:l++uI vs.length++(vs.take k).flatMap valI=l++valsI vs:=by rw[List.take_of_length_le (by omega),valsI,List.append_assoc]
  rw[ht]at hv hn
  subst hn
  refine gom ?_
  refine WK.un ?_
  exact QF.p0 (.inr rfl) rfl  (⟨B,c,o,rfl,hg2,hv,rfl⟩)
 have e2:decide ((k:Int)<(vs.length:Int))=true:=decide_eq_true (by omega)
 obtain⟨v,hvk⟩:∃v,vs[k]? =some v:=⟨_,List.getElem?_eq_getElem (by omega)⟩
 have hvi:=hi v (List.mem_of_getElem? hvk)
 have hV2:=hV.mono hg2
 obtain⟨ib,io,ics,rfl,hik,hic⟩:=hV2 k v hvk
 obtain rfl:ics=vcells v:=hik
 have x0:(0:Int)≤(k:Int):=by omega
 have x1':(k:Int)<(vs.length:Int):=by omega
 have hfa:=flat_at (f:=valI) hvk
 have hfs:=flat_snoc (f:=valI) hvk
 have hva:(valI v).length=1+(if v.t=1 then uintL (zzN v.i)else if v.t=2 then [boolI v.b]else if v.t=3 then txtI v.s else []).length:=by rw[valI,List.length_append];rfl
 have hbk:=hb k
 generalize hM:l++uI vs.length++(vs.take k).flatMap valI=M at*
 have hnext:l++uI vs.length++(vs.take (k+1)).flatMap valI=M++valI v:=by rw[hfs,←List.append_assoc,hM]
 subst hn
 have hkl:(M++kindI v.t).length=M.length+1:=by rw[List.length_append];rfl
 refine gom ?_
 refine WL.oo (OW.alloc rfl fun b5=>?_)
 refine gom ?_
 refine WL.oo (OW.callK rfl (kind_fn G2 wb B M c o hv v.t (by omega)) rfl fun v' G' H' h hg=>?_)
 obtain⟨A3,c3,x3,he,hg3,h3,rfl⟩:=h
 cases he
 by_cases t1:v.t=1
 ·have e1:(v.t==1)=true:=by rw[beq_iff_eq];exact t1
  rw[if_pos t1]at hva
  have hen:M++kindI v.t++uintL (zzN v.i)=M++valI v:=by rw[valI,if_pos t1,List.append_assoc]
  refine gom ?_
  refine WQ.one kr kr (OW.callK rfl (putInt_fn G' A3 (M++kindI v.t) c3 x3 h3 v.i hvi (by omega)) rfl fun v' G' H' h hg=>?_)
  obtain⟨A4,c4,x4,he,rfl,h4,rfl⟩:=h
  cases he
  rw[hen]at h4⊢
  refine gom ?_
  refine WQ.one kr kr (OW.store rfl rfl atA rfl (by rfl) (by rfl) kr (by rfl) ?_ rfl)
  refine gom ?_
  refine WK.pick [wrB wb A4 (M++valI v).length c4,x4] ?_
  exact WK.again ⟨k+1,A4,c4,x4,G',(M++valI v).length⟩ (by dsimp only;omega) ⟨by dsimp only;omega,Gh.le_trans hg2 hg3,by dsimp only;rw[hnext];exact h4,by dsimp only;rw[hnext]⟩ (by exact⟨rfl,rfl,rfl,rfl,trivial⟩) rfl (List.Sublist.refl _)
 have e1:(v.t==1)=false:=by rw[beq_eq_false_iff_ne];exact t1
 rw[if_neg t1]at hva
 by_cases t2:v.t=2
 ·have e2':(v.t==2)=true:=by rw[beq_iff_eq];exact t2
  rw[if_pos t2]at hva
  have hen:M++kindI v.t++[boolI v.b]=M++valI v:=by rw[valI,if_neg t1,if_pos t2,List.append_assoc]
  refine gom ?_
  refine WQ.one kr kr (OW.callK rfl (putBool_fn G' A3 (M++kindI v.t) c3 x3 h3 v.b (by omega)) rfl fun v' G' H' h hg=>?_)
  obtain⟨A4,c4,x4,he,rfl,h4,rfl⟩:=h
  cases he
  rw[hen]at h4⊢
  refine gom ?_
  refine WQ.one kr kr (OW.store rfl rfl atA rfl (by rfl) (by rfl) kr (by rfl) ?_ rfl)
  refine gom ?_
  refine WK.pick [wrB wb A4 (M++valI v).length c4,x4] ?_
  exact WK.again ⟨k+1,A4,c4,x4,G',(M++valI v).length⟩ (by dsimp only;omega) ⟨by dsimp only;omega,Gh.le_trans hg2 hg3,by dsimp only;rw[hnext];exact h4,by dsimp only;rw[hnext]⟩ (by exact⟨rfl,rfl,rfl,rfl,trivial⟩) rfl (List.Sublist.refl _)
 have e2':(v.t==2)=false:=by rw[beq_eq_false_iff_ne];exact t2
 rw[if_neg t2]at hva
 by_cases t3:v.t=3
 ·have e3:(v.t==3)=true:=by rw[beq_iff_eq];exact t3
  rw[if_pos t3]at hva
  have hen:M++kindI v.t++txtI v.s=M++valI v:=by rw[valI,if_neg t1,if_neg t2,if_pos t3,List.append_assoc]
  have htx:(txtI v.s).length=(uintL v.s.size).length+v.s.size:=by rw[txtI,List.length_append,strI_length]
  refine gom ?_
  refine WL.oo (OW.callK rfl (text_fn G' wb A3 (M++kindI v.t) c3 x3 h3 v.s (by omega)) rfl fun v' G' H' h hg=>?_)
  obtain⟨G3,rfl⟩:∃G3,G3=G':=⟨_,rfl⟩
  obtain⟨A4,c4,x4,he,hg4,h4,rfl⟩:=h
  cases he
  rw[hen]at h4⊢
  refine gom ?_
  refine WK.pick [wrB wb A4 (M++valI v).length c4,x4] ?_
  exact WK.again ⟨k+1,A4,c4,x4,_,(M++valI v).length⟩ (by dsimp only;omega) ⟨by dsimp only;omega,Gh.le_trans hg2 (Gh.le_trans hg3 hg4),by dsimp only;rw[hnext];exact h4,by dsimp only;rw[hnext]⟩ (by exact⟨rfl,rfl,rfl,rfl,trivial⟩) rfl (List.Sublist.refl _)
 have e3:(v.t==3)=false:=by rw[beq_eq_false_iff_ne];exact t3
 have hen:M++kindI v.t=M++valI v:=by rw[valI,if_neg t1,if_neg t2,if_neg t3,List.append_nil]
 rw[hen]at h3⊢
 refine gom ?_
 refine WK.pick [wrB wb A3 (M++valI v).length c3,x3] ?_
 exact WK.again ⟨k+1,A3,c3,x3,G',(M++valI v).length⟩ (by dsimp only;omega) ⟨by dsimp only;omega,Gh.le_trans hg2 hg3,by dsimp only;rw[hnext];exact h3,by dsimp only;rw[hnext]⟩ (by exact⟨rfl,rfl,rfl,rfl,trivial⟩) rfl (List.Sublist.refl _)
end
section
open Go.MapKept
def ptI (x:Pt):List Int:=txtI x.path++txtI x.name++uI x.proc
def magP:List Int:=[116,80,49]
def pgI (cs:List V) (prs:List Pr) (pts:List Pt):List Int:=magP++valsI cs++procsI prs++uI pts.length++pts.flatMap ptI
noncomputable def bytesPg (cs:List V) (prs:List Pr) (pts:List Pt):List Int:=if(progAns cs prs pts).2.2=0 then pgI cs prs pts else []
attribute [local irreducible] Tryz.prog bytesR valsI procsI ptI progAns preL
set_option maxRecDepth 20000 in
set_option maxHeartbeats 4000000 in
theorem pgBytes_fn (G:Gh) (hE:Env G) (cs:List V) (prs:List Pr) (pts:List Pt) (CA PA QA:Option Addr) (cc pc qc:Nat) (hC:Sl Kd.val G CA cs) (hP:Sl Kd.prc G PA prs) (hQ:Sl Kd.pnt G QA pts) (hL:GLim cs prs pts) (hi:∀v∈cs, -9223372036854775808≤v.i∧v.i≤9223372036854775807) (hcl:cs.length≤1000000000) (hpl:prs.length≤1000000000) (hql:pts.length≤1000000000)
  (hpc:∀p∈prs,p.code.length≤9000000000000) (hl:(pgI cs prs pts).length≤70000000000000):
  Fn Tryz.prog 29 #[.agg #[.slice CA cs.length cc, .slice PA prs.length pc, .slice QA pts.length qc]] G [] fun e G' H'=>∃A' cap' x',e= .returned (.tuple #[.slice A' (bytesPg cs prs pts).length cap', .int .i64 (progAns cs prs pts).2.2])∧G.le G'∧BVec A' (bytesPg cs prs pts) cap' x'∧H'=[x']:=by
 refine Fn.enter Tryz.func29 rfl rfl fun w0=>?_
 refine WC.seq ?_
 refine WC.region ?_
 refine WL.oo (OW.box rfl rfl fun b1=>?_)
 refine gom ?_
 refine WL.oo (OW.callK rfl (Program_fn G hE cs prs pts CA PA QA cc pc qc hC hP hQ hL) rfl fun v' G' H' h hg=>?_)
 obtain⟨he,hg1,rfl⟩:=h
 cases he
 obtain⟨G1,rfl⟩:∃G1,G1=G':=⟨_,rfl⟩
 refine gom ?_
 refine WL.oo (OW.alloc rfl fun b4=>?_)
 refine gom ?_
 cases herr:decide ((progAns cs prs pts).2.2=0)with
 | false=>
  have hne:=of_decide_eq_false herr
  have e1:((progAns cs prs pts).2.2 != 0)=true:=by rw[bne_iff_ne];exact hne
  have e0:((progAns cs prs pts).2.2==0)=false:=by rw[beq_eq_false_iff_ne];exact hne
  have hb:bytesPg cs prs pts=[]:=by rw[bytesPg,if_neg hne]
  rw[hb]
  first | rw[e1] | rw[e0]
  refine gom ?_
  refine WC.nothing ?_
  refine WC.rt ?_
  exact QF.p2 (.inl rfl) rfl (.tmp rfl) (.tmp rfl) (⟨none,0,_,rfl,hg1,BVec.nil,rfl⟩)
 | true=>
 have heq:=of_decide_eq_true herr
 have e1:((progAns cs prs pts).2.2 != 0)=false:=by rw[heq];rfl
 have hb:bytesPg cs prs pts=pgI cs prs pts:=by rw[bytesPg,if_pos heq]
 rw[hb,heq]
 have hol:(pgI cs prs pts).length=3+(valsI cs).length+(procsI prs).length+(uI pts.length).length+(pts.flatMap ptI).length:=by simp only[pgI,List.length_append];rfl
 have hmg:magP.length=3:=rfl
 refine gom ?_
 refine WL.oo (OW.buildSliceN (cells:=[.int .u8 116, .int .u8 80, .int .u8 49]) rfl kr kr (by rfl) rfl fun mb hmb=>?_)
 refine WL.oo (OW.convMark rfl .here hmb rfl fun hgm=>?_)
 have hA:Sl (Kd.int .u8) (G1.add mb #[.int .u8 116, .int .u8 80, .int .u8 49]) (some ⟨mb,0,none⟩) magP:=
  KFl.sl (k:=Kd.int .u8) (l:=[116]++[80]++[49]) (by decide) (((KFl.one (cs:=[.int .u8 116]) rfl).append (KFl.one (cs:=[.int .u8 80]) rfl)).append (KFl.one (cs:=[.int .u8 49]) rfl)) (.inr ⟨mb,rfl,fun i v e=>by rw[Nat.zero_add,Gh.add_at];simpa using e⟩)
 generalize hG2:G1.add mb #[.int .u8 116, .int .u8 80, .int .u8 49]=G2 at hA hgm⊢
 refine gom ?_
 refine WL.oo (OW.box rfl rfl fun b21=>?_)
 refine gom ?_
 refine WQ.one kr kr (OW.callK rfl (wvaluesF_fn G2 b21 (some ⟨mb,0,none⟩) magP 3 hA CA cs cc (hC.mono (Gh.le_trans hg1 hgm)) hi hcl (by rw[hmg];omega) (by rw[hmg];omega)) rfl fun v' G' H' h hg=>?_)
 obtain⟨A1,c1,x1,he,hg3,h1,rfl⟩:=h
 cases he
 obtain⟨G3,rfl⟩:∃G3,G3=G':=⟨_,rfl⟩
 have hg13:=Gh.le_trans hg1 (Gh.le_trans hgm hg3)
 have hl1:(magP++valsI cs).length=3+(valsI cs).length:=List.length_append
 refine gom ?_
 refine WQ.one kr kr (OW.callK rfl (wprocs_fn G3 b21 A1 _ c1 x1 h1 PA prs pc (hP.mono hg13) hpl hpc (by omega)) rfl fun v' G' H' h hg=>?_)
 obtain⟨A2,c2,x2,he,hg4,h2,rfl⟩:=h
 cases he
 obtain⟨G4,rfl⟩:∃G4,G4=G':=⟨_,rfl⟩
 have hl2:(magP++valsI cs++procsI prs).length=3+(valsI cs).length+(procsI prs).length:=by rw[List.length_append,hl1]
 refine gom ?_
 refine WQ.one kr kr (OW.callK rfl (uint_fn G4 b21 A2 _ c2 x2 h2 (pts.length:Int) (by omega)) rfl fun v' G' H' h hg=>?_)
 obtain⟨A3,c3,x3,he,hg5,h3,rfl⟩:=h
 cases he
 obtain⟨G5,rfl⟩:∃G5,G5=G':=⟨_,rfl⟩
 have hl3:(magP++valsI cs++procsI prs++uI pts.length).length=3+(valsI cs).length+(procsI prs).length+(uI pts.length).length:=by rw[List.length_append,hl2]
 refine gom ?_
 generalize hB:magP++valsI cs++procsI prs++uI pts.length=N at*
 have hg15:=Gh.le_trans hg13 (Gh.le_trans hg4 hg5)
 have h00:N++(pts.take 0).flatMap ptI=N:=by simp
 refine WC.loop (X:=WrS) (fun s=>[(6, .pointer (some ⟨b21,0,none⟩)),(42, .slice QA pts.length qc),(43, .int .i64 pts.length),(44, .int .i64 s.i)]) (fun s=>s.G) (fun s=>[wrB b21 s.A s.n s.cap,s.x]) (fun s=>pts.length - s.i) (fun s=>s.i≤pts.length∧G.le s.G∧BVec s.A (N++(pts.take s.i).flatMap ptI) s.cap s.x∧s.n=(N++(pts.take s.i).flatMap ptI).length)
  ⟨0,A3,c3,x3,G5,N.length⟩ ⟨Nat.zero_le _,hg15,by rw[h00];exact h3,by dsimp only;rw[h00]⟩ (by exact⟨rfl,rfl,rfl,rfl,trivial⟩) rfl (by repeat (first | exact List.Sublist.refl _ | exact List.nil_sublist _ | apply List.Sublist.cons_cons | apply List.Sublist.cons)) (fun s hs=>?_)
 obtain⟨k,B,c,x,G6,n⟩:=s
 obtain⟨hk,hg6,hv,hn⟩:=hs
 dsimp only at hk hg6 hv hn
 have x2:=wrapS k (by omega)
 by_cases hlt:k<pts.length
 rotate_left
 ·have e2:decide ((k:Int)<(pts.length:Int))=false:=decide_eq_false (by omega)
  rw[List.take_of_length_le (by omega)]at hv hn
  have ht:N++pts.flatMap ptI=pgI cs prs pts:=by rw[pgI,←hB]
  rw[ht]at hv hn
  subst hn
  refine gom ?_
  refine WC.rt ?_
  exact QF.p2 (.inl rfl) rfl (.tmp rfl) (.tmp rfl) (⟨B,c,x,rfl,hg6,hv,rfl⟩)
 have e2:decide ((k:Int)<(pts.length:Int))=true:=decide_eq_true (by omega)
 obtain⟨v,hvk⟩:∃v,pts[k]? =some v:=⟨_,List.getElem?_eq_getElem (by omega)⟩
 obtain⟨ib,io,ics,rfl,hik,hic⟩:=(hQ.mono hg6) k v hvk
 obtain rfl:ics=[.string v.path, .string v.name, .int .i64 v.proc]:=hik
 have x0:(0:Int)≤(k:Int):=by omega
 have x1':(k:Int)<(pts.length:Int):=by omega
 have hfs:=flat_snoc (f:=ptI) hvk
 have hfa:=flat_at (f:=ptI) hvk
 have hbk:(N++(pts.take k).flatMap ptI).length=N.length+((pts.take k).flatMap ptI).length:=List.length_append
 have hpi:(ptI v).length=(txtI v.path).length+(txtI v.name).length+(uI v.proc).length:=by unfold ptI;rw[List.length_append,List.length_append]
 have htv:(txtI v.path).length=(uintL v.path.size).length+v.path.size:=by rw[txtI,List.length_append,strI_length]
 have htw:(txtI v.name).length=(uintL v.name.size).length+v.name.size:=by rw[txtI,List.length_append,strI_length]
 generalize hM:N++(pts.take k).flatMap ptI=M at*
 have hnext:N++(pts.take (k+1)).flatMap ptI=M++ptI v:=by rw[hfs,←List.append_assoc,hM]
 subst hn
 refine gom ?_
 refine WL.oo (OW.alloc rfl fun b8=>?_)
 refine gom ?_
 refine WQ.one kr kr (OW.callK rfl (text_fn G6 b21 B M c x hv v.path (by omega)) rfl fun v' G' H' h hg=>?_)
 obtain⟨A7,c7,x7,he,hg7,h7,rfl⟩:=h
 cases he
 obtain⟨G7,rfl⟩:∃G7,G7=G':=⟨_,rfl⟩
 have hl7:(M++txtI v.path).length=M.length+(txtI v.path).length:=List.length_append
 refine gom ?_
 refine WQ.one kr kr (OW.callK rfl (text_fn G7 b21 A7 _ c7 x7 h7 v.name (by omega)) rfl fun v' G' H' h hg=>?_)
 obtain⟨A8,c8,x8,he,hg8,h8,rfl⟩:=h
 cases he
 obtain⟨G8,rfl⟩:∃G8,G8=G':=⟨_,rfl⟩
 have hl8:(M++txtI v.path++txtI v.name).length=M.length+(txtI v.path).length+(txtI v.name).length:=by rw[List.length_append,hl7]
 refine gom ?_
 refine WQ.one kr kr (OW.callK rfl (uint_fn G8 b21 A8 _ c8 x8 h8 v.proc (by omega)) rfl fun v' G' H' h hg=>?_)
 obtain⟨A9,c9,x9,he,hg9,h9,rfl⟩:=h
 cases he
 have hen:M++txtI v.path++txtI v.name++uI v.proc=M++ptI v:=by unfold ptI;simp only[List.append_assoc]
 rw[hen]at h9⊢
 refine gom ?_
 refine WK.pick [wrB b21 A9 (M++ptI v).length c9,x9] ?_
 exact WK.again ⟨k+1,A9,c9,x9,_,(M++ptI v).length⟩ (by dsimp only;omega) ⟨by dsimp only;omega,Gh.le_trans hg6 (Gh.le_trans hg7 (Gh.le_trans hg8 hg9)),by dsimp only;rw[hnext];exact h9,by dsimp only;rw[hnext]⟩ (by exact⟨rfl,rfl,rfl,rfl,trivial⟩) rfl (List.Sublist.refl _)
def preP (cs:List V) (prs:List Pr) (pts:List Pt) (k:Nat):List Int:=magP++valsI cs++procsI prs++preL ptI pts k
end
def encO (o:Ob):List Int:=txtI o.path++(encN enV o.consts++(encN enN o.needs++encN enP o.procs))
def okO (o:Ob):Prop:=okT 4096 o.path∧okN 4096 okVl o.consts∧okN 4096 okNd o.needs∧okN 128 okPr o.procs
structure Pg3 where
 cs:List V
 prs:List Pr
 pts:List Pt
def encG (x:Pg3):List Int:=encN enV x.cs++(encN enP x.prs++encN enT x.pts)
def okG (x:Pg3):Prop:=okN 65536 okVl x.cs∧okN 4096 okPr x.prs∧okN 1073741824 okPt x.pts
theorem rd_obj {bs:List Int} {k k1 k2 k3 k4:Nat} {f f1 f2 f3 f4:Int×Int} {s:ByteArray} {vs:List V} {ns:List Nd} {ps:List Pr} (h1:Rd txtI (okT 4096) bs k f s k1 f1) (h2:Rd (encN enV) (okN 4096 okVl) bs k1 f1 vs k2 f2) (h3:Rd (encN enN) (okN 4096 okNd) bs k2 f2 ns k3 f3) (h4:Rd (encN enP) (okN 128 okPr) bs k3 f3 ps k4 f4):Rd encO okO bs k f ⟨s,vs,ns,ps⟩ k4 f4:=
 Rd.pair (fun(a:ByteArray) (b:List V×List Nd×List Pr)=>(⟨a,b.1,b.2.1,b.2.2⟩:Ob)) (fun c hc=>⟨c.path,(c.consts,c.needs,c.procs),rfl,hc⟩) (fun a b ha hb=>⟨ha,hb⟩) (fun a b _ _=>rfl) h1
  (Rd.pair (e1:=encN enV) (o1:=okN 4096 okVl) (e2:=fun y:List Nd×List Pr=>encN enN y.1++encN enP y.2) (o2:=fun y=>okN 4096 okNd y.1∧okN 128 okPr y.2) (enc:=fun y:List V×List Nd×List Pr=>encN enV y.1++(encN enN y.2.1++encN enP y.2.2)) (ok:=fun y=>okN 4096 okVl y.1∧okN 4096 okNd y.2.1∧okN 128 okPr y.2.2) (fun a b=>(a,b)) (fun c hc=>⟨c.1,c.2,rfl,hc⟩) (fun a b ha hb=>⟨ha,hb⟩) (fun a b _ _=>rfl) h2
   (Rd.pair (fun a b=>(a,b)) (fun c hc=>⟨c.1,c.2,rfl,hc⟩) (fun a b ha hb=>⟨ha,hb⟩) (fun a b _ _=>rfl) h3 h4))
theorem rd_pg {bs:List Int} {k k1 k2 k3:Nat} {f f1 f2 f3:Int×Int} {vs:List V} {ps:List Pr} {ts:List Pt} (h1:Rd (encN enV) (okN 65536 okVl) bs k f vs k1 f1) (h2:Rd (encN enP) (okN 4096 okPr) bs k1 f1 ps k2 f2) (h3:Rd (encN enT) (okN 1073741824 okPt) bs k2 f2 ts k3 f3):Rd encG okG bs k f ⟨vs,ps,ts⟩ k3 f3:=
 Rd.pair (fun(a:List V) (b:List Pr×List Pt)=>(⟨a,b.1,b.2⟩:Pg3)) (fun c hc=>⟨c.cs,(c.prs,c.pts),rfl,hc⟩) (fun a b ha hb=>⟨ha,hb⟩) (fun a b _ _=>rfl) h1
  (Rd.pair (e1:=encN enP) (o1:=okN 4096 okPr) (e2:=encN enT) (o2:=okN 1073741824 okPt) (enc:=fun y:List Pr×List Pt=>encN enP y.1++encN enT y.2) (ok:=fun y=>okN 4096 okPr y.1∧okN 1073741824 okPt y.2) (fun a b=>(a,b)) (fun c hc=>⟨c.1,c.2,rfl,hc⟩) (fun a b ha hb=>⟨ha,hb⟩) (fun a b _ _=>rfl) h2 h3)
theorem split_size:∀(k:Nat) (s:ByteArray),s.size+1≤((Lib.splitB ⟨#[47]⟩ 0 k s).map (fun x=>x.size+1)).sum
 | 0,s=>by rw[Lib.splitB_zero];simp
 | k+1,s=>by
  rcases Lib.indexB_cases s ⟨#[47]⟩with h | ⟨i,h,hi⟩
  ·rw[Lib.splitB_miss _ _ _ _ h];simp
  ·rw[Lib.splitB_hit _ _ _ _ i h,List.map_cons,List.sum_cons]
   have ih:=split_size k (s.extract (i+(⟨#[47]⟩:ByteArray).size) s.size)
   have hz:(⟨#[47]⟩:ByteArray).size=1:=rfl
   rw[ByteArray.size_extract]at ih⊢
   rw[hz]at hi ih⊢
   omega
theorem names_size:∀(l:List ByteArray),l.all nameR=true→(l.map (fun x=>x.size+1)).sum≤65*l.length
 | [],_=>by simp
 | a::l,h=>by
  rw[List.all_cons,Bool.and_eq_true]at h
  have ih:=names_size l h.2
  have h1:a.size≤64:=by
   have:=h.1
   unfold nameR at this
   simp only[Bool.and_eq_true,decide_eq_true_eq]at this
   exact this.1.1.1.2
  rw[List.map_cons,List.sum_cons,List.length_cons]
  omega
theorem path_size {s:ByteArray} (h:pathR s=true):s.size≤4096:=by
 unfold pathR at h
 rw[Bool.or_eq_true]at h
 rcases h with h | h
 ·rw[bb_iff.1 h];decide
 ·rw[Bool.and_eq_true,decide_eq_true_eq]at h
  have h1:=split_size (Lib.countB s ⟨#[47]⟩) s
  have h2:=names_size _ h.2
  have h3:=h.1
  unfold slashL at h2 h3
  omega
theorem file_size {s:ByteArray} (h:fileR s=true):okT 4096 s:=by
 unfold fileR at h
 rw[Bool.and_eq_true]at h
 have:=path_size h.2
 show(s.size:Int)≤4096
 omega
theorem word_size {s:ByteArray} (h:wordR s=true):okT 32 s:=by
 have hb:=bytesL_length s
 unfold wordR at h
 split at h
 ·cases h
 ·rename_i e
  rw[e]at hb
  simp only[Bool.and_eq_true,decide_eq_true_eq]at h
  have:=h.2.2.1
  show(s.size:Int)≤32
  omega
theorem flat_eq {α:Type} {f g:α→List Int} :∀(l:List α),(∀a∈l,f a=g a)→l.flatMap f=l.flatMap g
 | [],_=>rfl
 | a::l,h=>by rw[List.flatMap_cons,List.flatMap_cons,h a List.mem_cons_self,flat_eq l fun b hb=>h b (List.mem_cons_of_mem _ hb)]
theorem typed_ok {t:Int} (h:typedR t=true):okB t:=by
 unfold typedR at h
 simp only[Bool.and_eq_true,decide_eq_true_eq]at h
 exact⟨by omega,by omega⟩
theorem kind_eq {t:Int} (h:okB t):kindI t=encB t:=by
 have h0:=h.1
 have h1:=h.2
 have:IntKind.u8.wrap t=t:=by simp[IntKind.wrap,IntKind.signed,IntKind.bits];omega
 unfold kindI encB
 rw[this]
theorem nN_eq {α:Type} {f g:α→List Int} {l:List α} (hl:l.length<18446744073709551616) (h:∀a∈l,f a=g a):uI l.length++l.flatMap f=encN g l:=by
 unfold encN
 rw[uI_nat _ hl,flat_eq l h]
theorem head_ok {s:ByteArray} {ps:List Int} {r:Int} (hw:wordR s=true) (hh:headR ps r=true):okH (s,ps,r)∧headI s ps r=encH (s,ps,r):=by
 unfold headR at hh
 simp only[Bool.and_eq_true,decide_eq_true_eq,Bool.or_eq_true,beq_iff_eq]at hh
 obtain⟨h1,h2,h3⟩:=hh
 have h4:∀a∈ps,okB a:=fun a ha=>typed_ok (List.all_eq_true.1 h1 a ha)
 have h5:okB r:=by
  rcases h3 with rfl | h3
  ·exact⟨Int.le_refl 0,(by decide:(0:Int)<256)⟩
  ·exact typed_ok h3
 refine⟨⟨word_size hw,⟨by dsimp only;omega,h4⟩,h5⟩,?_⟩
 unfold headI encH
 rw[List.append_assoc,List.append_assoc,←List.append_assoc (uI _),nN_eq (by omega) (fun a ha=>kind_eq (h4 a ha)),kind_eq h5]
theorem ok_1:okB 1:=⟨by decide,by decide⟩
theorem ok_2:okB 2:=⟨by decide,by decide⟩
theorem ok_3:okB 3:=⟨by decide,by decide⟩
theorem val_ok {v:V} (h:valueR v=true) (hi:ok64 v.i):okVl v∧valI v=enV v:=by
 obtain⟨t,i,b,s⟩:=v
 unfold valueR at h
 dsimp only at h hi
 rw[Bool.and_eq_true,decide_eq_true_eq]at h
 obtain⟨h1,h2⟩:=h
 by_cases a1:t=1
 ·rw[if_pos a1,decide_eq_true_eq]at h1
  cases h1
  exact⟨⟨ok_1,hi,h2,fun e=>absurd rfl e,fun _=>rfl,fun _=>rfl⟩,by show kindI 1++uintL (zzN i)=1::encZ i;rw[kind_eq ok_1];rfl⟩
 rw[if_neg a1]at h1
 by_cases a2:t=2
 ·rw[if_pos a2,decide_eq_true_eq]at h1
  cases h1
  exact⟨⟨ok_2,hi,h2,fun _=>rfl,fun e=>absurd rfl e,fun _=>rfl⟩,by show kindI 2++[boolI b]=2::encT b;rw[kind_eq ok_2];rfl⟩
 rw[if_neg a2]at h1
 by_cases a3:t=3
 ·rw[if_pos a3,decide_eq_true_eq]at h1
  cases h1
  exact⟨⟨ok_3,hi,h2,fun _=>rfl,fun _=>rfl,fun e=>absurd rfl e⟩,by show kindI 3++txtI s=3::txtI s;rw[kind_eq ok_3];rfl⟩
 rw[if_neg a3]at h1
 cases h1
theorem may_rows {c n:Int} (h:mayR c n=true):(1≤c∧c≤26)∧0≤n∧n≤2147483647∧((rowC c).n=true∨n=0):=by
 unfold mayR at h
 simp only[Bool.and_eq_true,decide_eq_true_eq,Bool.or_eq_true,beq_iff_eq]at h
 refine⟨?_,h.2.1,h.2.2.1,h.2.2.2⟩
 refine Decidable.byContradiction fun hc=>?_
 have:rowC c=rw0:=by
  unfold rowC
  split
  ·rfl
  ·rw[List.getElem?_eq_none (by show 27≤c.toNat;omega)];rfl
 rw[this]at h
 exact absurd h.1 (by decide)
theorem numb_row {c:Int} (h:1≤c∧c≤26):(rowC c).n=numb c:=by
 obtain⟨n,rfl⟩:∃n:Nat,c=(n:Int):=⟨c.toNat,by omega⟩
 have:∀n:Nat,n<27→(rowC (n:Int)).n=numb (n:Int):=by decide+kernel
 exact this n (by omega)
theorem ins_ok {i:Int×Int} (h:mayI i=true):okIn i∧encI i=enI i:=by
 obtain⟨c,n⟩:=i
 obtain⟨h1,h2,h3,h4⟩:=may_rows (show mayR c n=true from h)
 have h5:=numb_row h1
 refine⟨⟨⟨by dsimp only;omega,by dsimp only;omega⟩,h2,h3,fun e=>?_⟩,?_⟩
 ·rcases h4 with h4 | h4
  ·rw[h5]at h4;rw[h4]at e;cases e
  ·exact h4
 ·unfold encI enI
  dsimp only
  rw[h5]
theorem uI_of {n:Int} (h0:0≤n) (h1:n<18446744073709551616):uI n=encU n.toNat:=by
 unfold uI encU
 rw[wrapU h0 h1]
theorem pr_ok {p:Pr} (h:procR p=true) (hm:∀(j:Nat) i,p.code[j]? =some i→mayR i.1 i.2=true):okPr p∧procI p=enP p:=by
 unfold procR at h
 simp only[Bool.and_eq_true,decide_eq_true_eq]at h
 obtain⟨h1,h2,h3,h4,h5,h6⟩:=h
 obtain⟨g1,g2⟩:=head_ok h1 h2
 have hmi:∀i∈p.code,mayI i=true:=fun i hi=>by
  obtain⟨j,hj⟩:=List.getElem?_of_mem hi
  exact hm j i hj
 refine⟨⟨g1,by omega,h4,⟨by omega,fun i hi=>(ins_ok (hmi i hi)).1⟩⟩,?_⟩
 unfold procI enP
 have hb:(bytesR p.code).1=encN enI p.code:=by
  unfold bytesR
  rw[if_pos (List.all_eq_true.2 hmi)]
  unfold encP encN
  rw[List.take_length,flat_eq _ fun i hi=>(ins_ok (hmi i hi)).2]
 rw[g2,hb,uI_of (by omega) (by omega),List.append_assoc,List.append_assoc]
 rfl
theorem progAns_zero {cs:List V} {prs:List Pr} {pts:List Pt} (h:(progAns cs prs pts).2.2=0):progR cs prs pts=true∧(allA ⟨cs,[],prs⟩).2.2=0:=by
 unfold progAns at h
 split at h
 ·exact⟨by assumption,h⟩
 ·cases h
theorem procOut_zero {w:Wd} {p:Pr} (h:(procOut w [] p).2=0):procR p=true∧∀(j:Nat) (i:Int×Int),p.code[j]? =some i→aloneR w p i=0:=by
 unfold procOut at h
 split at h
 ·cases h
 rename_i hn
 split at h
 ·rename_i ha;exact absurd h ha
 rename_i ha
 refine⟨?_,fun j i hi=>?_⟩
 ·cases hq:procR p with
  | true=>rfl
  | false=>exact absurd (.inl hq) hn
 ·have ha':(firstR p.code.length (aloneAt w p)).2=0:=by simpa using ha
  unfold firstR at ha'
  split at ha'
  ·rename_i k hk
   have:=List.find?_some hk
   simp at this
   exact absurd ha' this
  ·rename_i hk
   have:=List.find?_eq_none.1 hk j (by simpa using(List.getElem?_eq_some_iff.1 hi).1)
   have h2:aloneAt w p j=0:=by simpa using this
   unfold aloneAt at h2
   rw[hi]at h2
   exact h2
theorem pt_in {prs:List Pr} {pts:List Pt} (h:ptsOkR prs pts=true) {x:Pt} (hx:x∈pts):fileR x.path=true∧0≤x.proc∧∃q,prs[x.proc.toNat]? =some q∧q.name=x.name:=by
 obtain⟨k,hk⟩:=List.getElem?_of_mem hx
 have h1:=List.all_eq_true.1 h k (by simpa using(List.getElem?_eq_some_iff.1 hk).1)
 rw[hk]at h1
 dsimp only at h1
 unfold ptOk at h1
 simp only[Bool.and_eq_true,decide_eq_true_eq]at h1
 obtain⟨a1,a2,a3,a4,a5⟩:=h1
 refine⟨a3,a1,?_⟩
 split at a5
 ·rename_i q hq
  rw[Bool.and_eq_true]at a5
  exact⟨q,hq,bb_iff.1 a5.2⟩
 ·cases a5
theorem pg_in {cs:List V} {prs:List Pr} {pts:List Pt} (h:(progAns cs prs pts).2.2=0) (hi:∀v∈cs,ok64 v.i) (hl:pts.length≤1073741824):okG ⟨cs,prs,pts⟩∧magP++valsI cs++procsI prs++uI pts.length++pts.flatMap ptI=magP++encG ⟨cs,prs,pts⟩:=by
 obtain⟨hr,ha⟩:=progAns_zero h
 have hp:∀p∈prs,okPr p∧procI p=enP p:=fun p hp=>by
  obtain⟨k,hk⟩:=List.getElem?_of_mem hp
  have h2:=procOut_zero (allA_ok (w:=⟨cs,[],prs⟩) ha hk)
  exact pr_ok h2.1 fun j i hi=>(aloneR_zero (h2.2 j i hi)).1
 unfold progR at hr
 simp only[Bool.and_eq_true,decide_eq_true_eq]at hr
 obtain⟨h1,h2,h3,h4⟩:=hr
 have hv:=fun v hv=>val_ok (List.all_eq_true.1 h1 v hv) (hi v hv)
 have ht:∀x∈pts,okPt x∧ptI x=enT x:=fun x hx=>by
  obtain⟨a1,a2,q,hq,hn⟩:=pt_in h4 hx
  have hql:=(List.getElem?_eq_some_iff.1 hq).1
  have hw:=(hp q (List.mem_of_getElem? hq)).1.1.1
  dsimp only at hw
  rw[hn]at hw
  refine⟨⟨file_size a1,hw,a2,by omega⟩,?_⟩
  unfold ptI enT
  rw[uI_of a2 (by omega),List.append_assoc]
 refine⟨⟨⟨by dsimp only;omega,fun v hvv=>(hv v hvv).1⟩,⟨by dsimp only;omega,fun p hpp=>(hp p hpp).1⟩,⟨hl,fun x hx=>(ht x hx).1⟩⟩,?_⟩
 unfold encG valsI procsI
 dsimp only
 rw[nN_eq (by omega) (fun v hvv=>(hv v hvv).2),nN_eq (by omega) (fun v hvv=>(hp v hvv).2),List.append_assoc _ (uI _),nN_eq (by omega) (fun x hx=>(ht x hx).2)]
 simp only[List.append_assoc]
section
open Go.MapKept
theorem rd_end {α:Type} {enc:α→List Int} {ok:α→Prop} {bs m:List Int} {b:Bool} {k k':Nat} {f f':Int×Int} {a:α} (hb:BegP bs m b k f) (h:Rd enc ok bs k f a k' f'):
  (b=true→endF bs.length k' f'=(0,0)→ok a∧bs=m++enc a)∧(∀a',ok a'→bs=m++enc a'→b=true∧endF bs.length k' f'=(0,0)∧a'=a):=by
 obtain⟨hk,hb⟩:=hb
 rcases hb with⟨rfl,rfl,hbs⟩ | ⟨rfl,hno⟩
 ·constructor
  ·intro _ he
   obtain⟨hf,hle⟩:f'=(0,0)∧¬k'<bs.length:=by
    unfold endF at he
    split at he
    ·rename_i hh;exact absurd (congrArg Prod.fst he) (by dsimp only;decide)
    ·rename_i hh;exact⟨he,fun hl=>hh ⟨he,hl⟩⟩
   obtain⟨_,h2,h3⟩:=h.sound hf
   rw[List.drop_eq_nil_of_le (by omega:bs.length≤k'),List.append_nil]at h3
   exact⟨h2,by rw[←h3];exact hbs⟩
  ·intro a' ho he
   have hd:bs.drop k=enc a'++[]:=by rw[List.append_nil];rw[hbs]at he;exact List.append_cancel_left he
   obtain⟨h1,h2,h3⟩:=h.rest rfl ho hd
   have hlen:bs.length≤k':=by
    have:=congrArg List.length h3
    rw[List.length_drop,List.length_nil]at this;omega
   refine⟨rfl,?_,h2⟩
   rw[h1];unfold endF;rw[if_neg (fun hh=>by omega)]
 ·exact⟨fun e=>(by cases e),fun a' _ he=>absurd he (hno _)⟩
attribute [local irreducible] Tryz.prog
attribute [local irreducible] numL cntR byteR txtI encZ encT enV enI enP encH enN encN endF objAns
theorem noneF_fn (G:Gh):Fn Tryz.prog 78 #[] G [] fun e G' H'=>e= .returned (.agg #[.int .i64 220, .int .i64 0])∧G=G'∧H'=[]:=by
 refine Fn.enter Tryz.func78 rfl rfl fun w0=>?_
 refine WC.seq ?_
 refine WC.region ?_
 refine WL.oo (OW.alloc rfl fun b0=>?_)
 refine gom ?_
 refine WC.rt ?_
 exact QF.p1 (.inl rfl) rfl (.cell rfl inferInstance inferInstance atA rfl rfl) (⟨rfl,rfl,rfl⟩)
section
variable (G:Gh) (b:Nat) (BA:Option Addr) (bs:List Int) (bc k:Nat) (f:Int×Int) (hB:Sl (Kd.int .u8) G BA bs) (hbs:∀c∈bs,0≤c∧c<256) (hk:k≤bs.length) (hn:bs.length≤140737488351232) (hbc:bs.length≤bc)
include hB hbs hk hn hbc
theorem vals3_fn (most:Nat) (hm:most≤1000000000):Fn Tryz.prog 72 #[rvA b, .int .i64 (most:Int)] G [rdB b BA bs.length bc k f] fun e G' H'=>∃A' vs cap k' f',e= .returned (.slice A' vs.length cap)∧G.le G'∧vs.length≤most∧Sl Kd.val G' A' vs∧Rd (encN enV) (okN most okVl) bs k f vs k' f'∧H'=[rdB b BA bs.length bc k' f']:=by
 refine Fn.freezeK (k:=Kd.val) (by decide) (vals2_fn G b BA bs bc k f hB hbs hk hn hbc most hm) fun e G' H' h=>?_
 obtain⟨A',vs,cap,x',k',f',he,rfl,hl,hv,hr,rfl⟩:=h
 exact⟨_,_,_,_,x',0,hv, .here,fun G'' hg hv'=>⟨A',vs,cap,k',f',he,hg,hl,hv',hr,rfl⟩⟩
theorem procs3_fn (most:Nat) (hm:most≤1000000000):Fn Tryz.prog 76 #[rvA b, .int .i64 (most:Int)] G [rdB b BA bs.length bc k f] fun e G' H'=>∃A' vs cap k' f',e= .returned (.slice A' vs.length cap)∧G.le G'∧(vs.length≤most∧∀p∈vs,prLm p)∧Sl Kd.prc G' A' vs∧Rd (encN enP) (okN most okPr) bs k f vs k' f'∧H'=[rdB b BA bs.length bc k' f']:=by
 refine Fn.freezeK (k:=Kd.prc) (by decide) (procs2_fn G b BA bs bc k f hB hbs hk hn hbc most hm) fun e G' H' h=>?_
 obtain⟨A',vs,cap,x',k',f',he,hg,hl,hv,hr,rfl⟩:=h
 exact⟨_,_,_,_,x',0,hv, .here,fun G'' hg' hv'=>⟨A',vs,cap,k',f',he,Gh.le_trans hg hg',hl,hv',hr,rfl⟩⟩
end
def ndLm (q:Nd):Prop:=q.params.length≤64∧(q.path.size:Int)≤4096∧(q.name.size:Int)≤32
structure RJ1 where
 b6:Nat
 s:ByteArray
 vs:List V
 A:Option Addr
 c:Nat
 k:Nat
 f:Int×Int
 G:Gh
structure RJ2 where
 i:Nat
 ns:List Nd
 A:Option Addr
 c:Nat
 o:Own
 k:Nat
 f:Int×Int
 G:Gh
theorem OLim.zero:OLim ⟨⟨#[]⟩,[],[],[]⟩:=⟨by decide,by decide,by decide,by decide,fun q h=>(by cases h),fun q h=>(by cases h)⟩
def zOb:Array Value:= #[.string ⟨#[]⟩, .slice none 0 0, .slice none 0 0, .slice none 0 0]
set_option maxRecDepth 20000 in
set_option maxHeartbeats 8000000 in
theorem objRead_fn (G:Gh) (hE:Env G) (A:Option Addr) (bs:List Int) (cap:Nat) (hA:Sl (Kd.int .u8) G A bs) (hbs:∀c∈bs,0≤c∧c<256) (hl:bs.length≤140737488351232):
  Fn Tryz.prog 31 #[.slice A bs.length cap] G [] fun e G' H'=>∃o CA NA PA cc nc pc w,e= .returned (.tuple #[.agg (obC o CA NA PA cc nc pc), .agg #[.int .i64 w, .int .i64 0]])∧G.le G'∧ORep G' o CA NA PA∧OLim o∧((w=0∧(objAns o).2.2=0∧okO o∧bs=magI++encO o∧∀o',okO o'→bs=magI++encO o'→o'=o)∨(w=220∧∀o',okO o'→(objAns o').2.2=0→bs≠magI++encO o'))∧H'=[]:=by
 refine Fn.enter Tryz.func31 rfl rfl fun w0=>?_
 refine WC.seq ?_
 refine WC.region ?_
 refine WL.oo (OW.alloc rfl fun b2=>?_)
 refine WL.oo (OW.alloc rfl fun b3=>?_)
 refine gom ?_
 refine WL.oo (OW.callK rfl (begin_fn G A bs cap hA hbs hl ⟨#[116,79,49]⟩ rfl) rfl fun v' G' H' h hg=>?_)
 obtain⟨rb,RA,rc,ok,k0,f0,he,hg1,hrc,hR,hbeg,rfl⟩:=h
 cases he
 obtain⟨G1,rfl⟩:∃G1,G1=G':=⟨_,rfl⟩
 have hk0:=hbeg.1
 refine gom ?_
 refine WL.oo (OW.alloc rfl fun b4=>?_)
 refine go ?_
 refine WC.joinG (X:=RJ1) (fun t=>[(2, .pointer (some ⟨b2,0,none⟩)),(3, .pointer (some ⟨b3,0,none⟩)),(4, .pointer (some ⟨b4,0,none⟩)),(5, .bool ok),(6, .pointer (some ⟨t.b6,0,none⟩))]) (fun t=>t.G) (fun t=>[rdB rb RA bs.length rc t.k t.f, .blk t.b6 (.cells #[.string t.s, .slice t.A t.vs.length t.c, .slice none 0 0, .slice none 0 0] 38 (0,0)),bxB b4 rb, .blk b3 (.cells #[.int .i64 0, .int .i64 0] 77 (0,0)), .blk b2 (.cells zOb 38 (0,0))])
  (fun t=>G1.le t.G∧(t.s.size:Int)≤4096∧t.vs.length≤4096∧Sl Kd.val t.G t.A t.vs∧∃k1 f1,Rd txtI (okT 4096) bs k0 f0 t.s k1 f1∧Rd (encN enV) (okN 4096 okVl) bs k1 f1 t.vs t.k t.f) ?_ fun t ht=>?_
 ·refine WC.pick [rdB rb RA bs.length rc k0 f0,bxB b4 rb, .blk b3 (.cells #[.int .i64 0, .int .i64 0] 77 (0,0)), .blk b2 (.cells zOb 38 (0,0))] ?_
  refine WC.drawS (Hs:=[bxB b4 rb]) mixed pkA ?_
  refine zb.fa 0 ?_
  refine zb.ld 1 ?_
  refine zb.ld 3 ?_
  refine WB.two (i:=2) (j:=6) kr rfl rfl kr kr (OW.callK rfl (rText2_fn G1 rb RA bs rc k0 f0 hR hbs hk0 hl hrc 4096 (by decide) (by decide)) rfl fun v' G' H' h hg=>?_) (OW.alloc rfl fun b6=>?_)
  ·obtain⟨s,k1,f1,he,rfl,hsz,hr1,rfl⟩:=h
   cases he
   refine⟨fun w hw=>hw.pk pkA,?_⟩
   refine WB.two (i:=4) (j:=6) kr rfl rfl kr kr (OW.callK rfl (vals3_fn G1 rb RA bs rc k1 f1 hR hbs hr1.le hl hrc 4096 (by decide)) rfl fun v' G' H' h hg=>?_) (OW.alloc rfl fun b6=>?_)
   ·obtain⟨VA,vs,vc,k2,f2,he,hg2,hvl,hV,hr2,rfl⟩:=h
    cases he
    obtain⟨G2,rfl⟩:∃G2,G2=G':=⟨_,rfl⟩
    refine⟨fun w hw=>(hw.pk pkA).le hg2,?_⟩
    refine zb.build 5 ?_
    refine WB.oo 6 rfl (OW.alloc rfl fun b6=>?_)
    refine⟨fun w hw=>(hw.pk pkA).le hg2,?_⟩
    refine zb.st 7 ?_
    refine⟨fun w hw=>(hw.pk pkA).le hg2,?_⟩
    refine WB.done kr ?_
    refine WK.un ?_
    refine WK.pick [rdB rb RA bs.length rc k2 f2, .blk b6 (.cells #[.string s, .slice VA vs.length vc, .slice none 0 0, .slice none 0 0] 38 (0,0)),bxB b4 rb, .blk b3 (.cells #[.int .i64 0, .int .i64 0] 77 (0,0)), .blk b2 (.cells zOb 38 (0,0))] ?_
    exact WK.meet ⟨b6,s,vs,VA,vc,k2,f2,G2⟩ ⟨hg2,hsz,hvl,hV,k1,f1,hr1,hr2⟩ (by exact⟨rfl,rfl,rfl,rfl,rfl,trivial⟩) rfl (List.Sublist.refl _)
   ·refine⟨fun w hw=>hw.pk pkA,?_⟩
    refine WB.oo 4 rfl (OW.callK rfl (vals3_fn G1 rb RA bs rc k1 f1 hR hbs hr1.le hl hrc 4096 (by decide)) rfl fun v' G' H' h hg=>?_)
    obtain⟨VA,vs,vc,k2,f2,he,hg2,hvl,hV,hr2,rfl⟩:=h
    cases he
    obtain⟨G2,rfl⟩:∃G2,G2=G':=⟨_,rfl⟩
    refine⟨fun w hw=>(hw.pk pkA).le hg2,?_⟩
    refine zb.build 5 ?_
    refine zb.st 7 ?_
    refine⟨fun w hw=>(hw.pk pkA).le hg2,?_⟩
    refine WB.done kr ?_
    refine WK.un ?_
    refine WK.pick [rdB rb RA bs.length rc k2 f2, .blk b6 (.cells #[.string s, .slice VA vs.length vc, .slice none 0 0, .slice none 0 0] 38 (0,0)),bxB b4 rb, .blk b3 (.cells #[.int .i64 0, .int .i64 0] 77 (0,0)), .blk b2 (.cells zOb 38 (0,0))] ?_
    exact WK.meet ⟨b6,s,vs,VA,vc,k2,f2,G2⟩ ⟨hg2,hsz,hvl,hV,k1,f1,hr1,hr2⟩ (by exact⟨rfl,rfl,rfl,rfl,rfl,trivial⟩) rfl (List.Sublist.refl _)
  ·refine⟨fun w hw=>hw.pk pkA,?_⟩
   refine WB.oo 2 rfl (OW.callK rfl (rText2_fn G1 rb RA bs rc k0 f0 hR hbs hk0 hl hrc 4096 (by decide) (by decide)) rfl fun v' G' H' h hg=>?_)
   obtain⟨s,k1,f1,he,rfl,hsz,hr1,rfl⟩:=h
   cases he
   refine⟨fun w hw=>hw.pk pkA,?_⟩
   refine WB.oo 4 rfl (OW.callK rfl (vals3_fn G1 rb RA bs rc k1 f1 hR hbs hr1.le hl hrc 4096 (by decide)) rfl fun v' G' H' h hg=>?_)
   obtain⟨VA,vs,vc,k2,f2,he,hg2,hvl,hV,hr2,rfl⟩:=h
   cases he
   obtain⟨G2,rfl⟩:∃G2,G2=G':=⟨_,rfl⟩
   refine⟨fun w hw=>(hw.pk pkA).le hg2,?_⟩
   refine zb.build 5 ?_
   refine zb.st 7 ?_
   refine⟨fun w hw=>(hw.pk pkA).le hg2,?_⟩
   refine WB.done kr ?_
   refine WK.un ?_
   refine WK.pick [rdB rb RA bs.length rc k2 f2, .blk b6 (.cells #[.string s, .slice VA vs.length vc, .slice none 0 0, .slice none 0 0] 38 (0,0)),bxB b4 rb, .blk b3 (.cells #[.int .i64 0, .int .i64 0] 77 (0,0)), .blk b2 (.cells zOb 38 (0,0))] ?_
   exact WK.meet ⟨b6,s,vs,VA,vc,k2,f2,G2⟩ ⟨hg2,hsz,hvl,hV,k1,f1,hr1,hr2⟩ (by exact⟨rfl,rfl,rfl,rfl,rfl,trivial⟩) rfl (List.Sublist.refl _)
 obtain⟨b6,s,vs,VA,vc,k2,f2,G2⟩:=t
 obtain⟨hg2,hsz,hvl,hV,k1,f1,hr1,hr2⟩:=ht
 dsimp only at hg2 hsz hvl hV hr2
 dsimp only
 have hg02:=Gh.le_trans hg1 hg2
 have hR2:=hR.mono hg2
 refine gom ?_
 refine WL.oo (OW.callK rfl (cnt2_fn G2 rb RA bs rc k2 f2 hR2 hbs hr2.le hl 4096 (by decide)) rfl fun v' G' H' h hg=>?_)
 obtain⟨n,k3,f3,he,rfl,hnm,hn0,hr3,rfl⟩:=h
 cases he
 refine zw.move ?_
 refine WL.nil ?_
 refine WK.un ?_
 refine WC.joinG (X:=RJ2) (fun t=>[(2, .pointer (some ⟨b2,0,none⟩)),(3, .pointer (some ⟨b3,0,none⟩)),(4, .pointer (some ⟨b4,0,none⟩)),(5, .bool ok),(6, .pointer (some ⟨b6,0,none⟩))]) (fun t=>t.G) (fun t=>[rdB rb RA bs.length rc t.k t.f, .blk b6 (.cells #[.string s, .slice VA vs.length vc, .slice t.A t.ns.length t.c, .slice none 0 0] 38 (0,0)),bxB b4 rb, .blk b3 (.cells #[.int .i64 0, .int .i64 0] 77 (0,0)), .blk b2 (.cells zOb 38 (0,0))])
  (fun t=>G2.le t.G∧(t.ns.length≤4096∧∀q∈t.ns,ndLm q)∧Sl Kd.ned t.G t.A t.ns∧Rd (encN enN) (okN 4096 okNd) bs k2 f2 t.ns t.k t.f) ?_ fun t ht=>?_
 ·
  refine gom ?_
  refine WC.nothing ?_
  refine WC.loop (X:=RJ2) (fun t=>[(2, .pointer (some ⟨b2,0,none⟩)),(3, .pointer (some ⟨b3,0,none⟩)),(4, .pointer (some ⟨b4,0,none⟩)),(5, .bool ok),(6, .pointer (some ⟨b6,0,none⟩)),(22, .int .i64 (n:Int)),(23, .int .i64 (t.i:Int))]) (fun t=>t.G) (fun t=>[t.o,rdB rb RA bs.length rc t.k t.f, .blk b6 (.cells #[.string s, .slice VA vs.length vc, .slice t.A t.ns.length t.c, .slice none 0 0] 38 (0,0)),bxB b4 rb, .blk b3 (.cells #[.int .i64 0, .int .i64 0] 77 (0,0)), .blk b2 (.cells zOb 38 (0,0))]) (fun t=>n - t.i)
   (fun t=>t.i≤n∧t.ns.length=t.i∧G2.le t.G∧(∀q∈t.ns,ndLm q)∧Rd (encL enN) (fun l=>l.length=t.i∧∀a∈l,okNd a) bs k3 f3 t.ns t.k t.f∧KVec Kd.ned 56 t.G t.A t.c t.ns t.o)
   ⟨0,[],none,0, .spare 0 0 0,k3,f3,G2⟩ ⟨Nat.zero_le _,rfl,Gh.le_refl _,fun q hq=>(by cases hq),rd_nil hr3.le f3,KVec.nil⟩ (by exact⟨rfl,rfl,rfl,rfl,rfl,rfl,rfl,trivial⟩) rfl (List.Sublist.refl _) fun x hx=>?_
  obtain⟨i,ns,NA,nc,o1,k4,f4,G3⟩:=x
  obtain⟨hi,hnl,hg3,hnb,hr4,hv⟩:=hx
  dsimp only at hi hnl hg3 hnb hr4 hv
  have x2:=wrapS i (by omega)
  by_cases hlt:i<n
  rotate_left
  ·have e2:decide ((i:Int)<(n:Int))=false:=decide_eq_false (by omega)
   obtain rfl:i=n:=by omega
   refine gom ?_
   refine WK.freezeK (by decide) hv atA fun G7 hg7 hS=>?_
   refine WK.pick [rdB rb RA bs.length rc k4 f4, .blk b6 (.cells #[.string s, .slice VA vs.length vc, .slice NA ns.length nc, .slice none 0 0] 38 (0,0)),bxB b4 rb, .blk b3 (.cells #[.int .i64 0, .int .i64 0] 77 (0,0)), .blk b2 (.cells zOb 38 (0,0))] ?_
   exact WK.meet ⟨0,ns,NA,nc,o1,k4,f4,G7⟩ ⟨Gh.le_trans hg3 hg7,⟨by dsimp only;omega,hnb⟩,hS,Rd.list hr3 hr4⟩ (by exact⟨rfl,rfl,rfl,rfl,rfl,trivial⟩) rfl (List.Sublist.refl _)
  have e2:decide ((i:Int)<(n:Int))=true:=decide_eq_true (by omega)
  have hR3:=hR2.mono hg3
  refine gom ?_
  refine WL.oo (OW.callK rfl (rText2_fn G3 rb RA bs rc k4 f4 hR3 hbs hr4.le hl hrc 4096 (by decide) (by decide)) rfl fun v' G' H' h hg=>?_)
  obtain⟨np,k5,f5,he,rfl,hnp,hr5,rfl⟩:=h
  cases he
  refine zw.build ?_
  refine WL.oo (OW.alloc rfl fun b7=>?_)
  refine gom ?_
  refine WL.oo (OW.callK rfl (head2_fn G3 rb RA bs rc k5 f5 hR3 hbs hr5.le hl hrc) rfl fun v' G' H' h hg=>?_)
  obtain⟨nm,PA,ps,pc,r,k6,f6,he,hg4,hnm2,hpl,hPs,hr6,rfl⟩:=h
  cases he
  obtain⟨G4,rfl⟩:∃G4,G4=G':=⟨_,rfl⟩
  have hrn:=rd_need hr5 hr6
  refine gom ?_
  refine WL.oo (OW.callK rfl (bad_fn G4 rb RA bs.length rc k6 f6) rfl fun v' G' H' h hg=>?_)
  obtain⟨he,rfl,rfl⟩:=h
  cases he
  have hv4:=hv.mono hg4
  have hg24:=Gh.le_trans hg3 hg4
  by_cases hbad:f6=(0,0)
  rotate_left
  ·rw[decide_eq_false hbad]
   refine gom ?_
   refine WK.freezeK (by decide) hv4 atA fun G7 hg7 hS=>?_
   refine WK.pick [rdB rb RA bs.length rc k6 f6, .blk b6 (.cells #[.string s, .slice VA vs.length vc, .slice NA ns.length nc, .slice none 0 0] 38 (0,0)),bxB b4 rb, .blk b3 (.cells #[.int .i64 0, .int .i64 0] 77 (0,0)), .blk b2 (.cells zOb 38 (0,0))] ?_
   exact WK.meet ⟨0,ns,NA,nc,o1,k6,f6,G7⟩ ⟨Gh.le_trans hg24 hg7,⟨by dsimp only;omega,hnb⟩,hS,Rd.list hr3 ((hr4.snoc hrn).stop hlt hbad)⟩ (by exact⟨rfl,rfl,rfl,rfl,rfl,trivial⟩) rfl (List.Sublist.refl _)
  rw[decide_eq_true hbad]
  refine gom ?_
  refine WL.op kr (OW.buildSlice rfl kr kr (by rfl) rfl fun b43=>?_)
  refine WL.oo (OW.append1 (k:=Kd.ned) (u:=(⟨np,nm,ps,r⟩:Nd)) rfl rfl kr rfl hv4 atA atA rfl ⟨PA,pc,rfl,hPs⟩ (by dsimp only;omega) (by dsimp only;omega) rfl fun A8 c8 o8 hv8=>?_)
  refine gom ?_
  refine WK.pick [o8,rdB rb RA bs.length rc k6 f6, .blk b6 (.cells #[.string s, .slice VA vs.length vc, .slice A8 (ns++[(⟨np,nm,ps,r⟩:Nd)]).length c8, .slice none 0 0] 38 (0,0)),bxB b4 rb, .blk b3 (.cells #[.int .i64 0, .int .i64 0] 77 (0,0)), .blk b2 (.cells zOb 38 (0,0))] ?_
  exact WK.again ⟨i+1,ns++[⟨np,nm,ps,r⟩],A8,c8,o8,k6,f6,G4⟩ (by dsimp only;omega) ⟨by dsimp only;omega,by rw[List.length_append,hnl];rfl,hg24,fun q hq=>by
   rcases List.mem_append.1 hq with hq | hq
   ·exact hnb q hq
   ·obtain rfl:=List.mem_singleton.1 hq;exact⟨hpl,hnp,hnm2⟩,hr4.snoc hrn,hv8⟩ (by exact⟨rfl,rfl,rfl,rfl,rfl,rfl,rfl,trivial⟩) rfl (List.Sublist.refl _)
 obtain⟨i9,ns,NA,nc,o9,k5,f5,G3⟩:=t
 obtain⟨hg3,⟨hnl,hnb⟩,hN,hr4⟩:=ht
 dsimp only at hg3 hnl hnb hN hr4
 dsimp only
 have hg03:=Gh.le_trans hg02 hg3
 refine gom ?_
 refine WL.oo (OW.callK rfl (procs3_fn G3 rb RA bs rc k5 f5 (hR2.mono hg3) hbs hr4.le hl hrc 128 (by decide)) rfl fun v' G' H' h hg=>?_)
 obtain⟨PA,ps,pc,k6,f6,he,hg4,⟨hpl,hpb⟩,hP,hr6,rfl⟩:=h
 cases he
 obtain⟨G4,rfl⟩:∃G4,G4=G':=⟨_,rfl⟩
 have hg04:=Gh.le_trans hg03 hg4
 have hro:=rd_obj hr1 hr2 hr4 hr6
 obtain⟨hsound,hfull⟩:=rd_end hbeg hro
 have hO:ORep G4 ⟨s,vs,ns,ps⟩ VA NA PA:=⟨hV.mono (Gh.le_trans hg3 hg4),hN.mono hg4,hP⟩
 have hLo:OLim ⟨s,vs,ns,ps⟩:=⟨by dsimp only;omega,by dsimp only;omega,by dsimp only;omega,by dsimp only;omega,fun q hq=>by have:=hnb q hq;unfold ndLm at this;omega,fun q hq=>by have:=hpb q hq;unfold prLm at this;omega⟩
 refine gom ?_
 refine WL.oo (OW.callK rfl (Object_fn G4 (hE.mono hg04) ⟨s,vs,ns,ps⟩ VA NA PA vc nc pc hO hLo) rfl fun v' G' H' h hg=>?_)
 obtain⟨he,hg5,rfl⟩:=h
 cases he
 obtain⟨G5,rfl⟩:∃G5,G5=G':=⟨_,rfl⟩
 have hg05:=Gh.le_trans hg04 hg5
 have hO5:=hO.mono hg5
 generalize hoa:(objAns ⟨s,vs,ns,ps⟩).2.2=oa at hg5⊢
 refine zw.move ?_
 refine zw.ext ?_
 refine zw.ext ?_
 refine WL.oo (OW.alloc rfl fun b8=>?_)
 have hmg:strI ⟨#[116,79,49]⟩=magI:=by rfl
 rw[hmg]at hsound hfull
 cases ok with
 | false=>
  refine gom ?_
  refine WL.oo (OW.callK rfl (noneF_fn G5) rfl fun v' G' H' h hg=>?_)
  obtain⟨he,rfl,rfl⟩:=h
  cases he
  refine gom ?_
  refine WC.rt ?_
  exact QF.p2 (.inl rfl) rfl (.cell rfl inferInstance inferInstance atA rfl rfl) (.cell rfl inferInstance inferInstance atA rfl rfl) (⟨⟨⟨#[]⟩,[],[],[]⟩,none,none,none,0,0,0,220,rfl,hg05,⟨Sl.nil _ _ _,Sl.nil _ _ _,Sl.nil _ _ _⟩,OLim.zero, .inr ⟨rfl,fun o' ho _ he=>(by cases (hfull o' ho he).1)⟩,rfl⟩)
 | true=>
 refine gom ?_
 refine WL.oo (OW.callK rfl (rend_fn G5 rb RA bs.length rc k6 f6 hro.le (by omega)) rfl fun v' G' H' h hg=>?_)
 obtain⟨he,rfl,rfl⟩:=h
 cases he
 generalize endF bs.length k6 f6=q at hsound hfull⊢
 obtain⟨q1,q2⟩:=q
 refine gom ?_
 refine WL.pp (Gp.neFault rfl rfl) ?_
 by_cases hq:(q1,q2)=((0:Int),(0:Int))
 rotate_left
 ·rw[decide_eq_false hq]
  refine gom ?_
  refine WL.oo (OW.callK rfl (noneF_fn G5) rfl fun v' G' H' h hg=>?_)
  obtain⟨he,rfl,rfl⟩:=h
  cases he
  refine gom ?_
  refine WC.rt ?_
  exact QF.p2 (.inl rfl) rfl (.cell rfl inferInstance inferInstance atA rfl rfl) (.cell rfl inferInstance inferInstance atA rfl rfl) (⟨⟨⟨#[]⟩,[],[],[]⟩,none,none,none,0,0,0,220,rfl,hg05,⟨Sl.nil _ _ _,Sl.nil _ _ _,Sl.nil _ _ _⟩,OLim.zero, .inr ⟨rfl,fun o' ho _ he=>absurd (hfull o' ho he).2.1 hq⟩,rfl⟩)
 rw[decide_eq_true hq]
 by_cases hz:oa=0
 rotate_left
 ·have e5:(oa != 0)=true:=by rw[bne_iff_ne];exact hz
  refine gom ?_
  refine WL.oo (OW.callK rfl (noneF_fn G5) rfl fun v' G' H' h hg=>?_)
  obtain⟨he,rfl,rfl⟩:=h
  cases he
  refine gom ?_
  refine WC.rt ?_
  exact QF.p2 (.inl rfl) rfl (.cell rfl inferInstance inferInstance atA rfl rfl) (.cell rfl inferInstance inferInstance atA rfl rfl) (⟨⟨⟨#[]⟩,[],[],[]⟩,none,none,none,0,0,0,220,rfl,hg05,⟨Sl.nil _ _ _,Sl.nil _ _ _,Sl.nil _ _ _⟩,OLim.zero, .inr ⟨rfl,fun o' ho ha he=>(by have:=(hfull o' ho he).2.2;rw[this,hoa]at ha;exact hz ha)⟩,rfl⟩)
 subst hz
 obtain⟨hok,hbs2⟩:=hsound rfl hq
 refine gom ?_
 refine WC.rt ?_
 exact QF.p2 (.inl rfl) rfl (.cell rfl inferInstance inferInstance atA rfl rfl) (.cell rfl inferInstance inferInstance atA rfl rfl) (⟨⟨s,vs,ns,ps⟩,VA,NA,PA,vc,nc,pc,0,rfl,hg05,hO5,hLo, .inl ⟨rfl,hoa,hok,hbs2,fun o' ho he=>(hfull o' ho he).2.2⟩,rfl⟩)
end
section
open Go.MapKept
attribute [local irreducible] Tryz.prog
attribute [local irreducible] numL cntR byteR txtI encZ encT enV enI enP encH enT encN endF progAns
theorem count3_fn (G:Gh) (b:Nat) (BA:Option Addr) (bs:List Int) (bc k:Nat) (f:Int×Int) (most:Nat) (hB:Sl (Kd.int .u8) G BA bs) (hbs:∀c∈bs,0≤c∧c<256) (hk:k≤bs.length) (hn:bs.length≤140737488351232) (hm:most≤1000000000000):
  Fn Tryz.prog 79 #[.pointer (some ⟨b,0,none⟩), .int .i64 (most:Int)] G [rdB b BA bs.length bc k f] fun e G' H'=>∃n k' f',e= .returned (.int .i64 ((n:Nat):Int))∧G=G'∧n≤most∧Rd encU (fun n=>n≤most) bs k f n k' f'∧H'=[rdB b BA bs.length bc k' f']:=by
 refine Fn.mono (count_fn G b BA bs bc k f most hB hbs hk hn (by omega) (by omega)) fun e G' H' h=>?_
 obtain⟨he,rfl,rfl⟩:=h
 subst he
 have hr:=rd_uint hbs hk f most (by omega)
 obtain⟨h1,h2,h3,_,h5⟩:=cntR_le (bs:=bs) (most:=(most:Int)) (k:=k) (f:=f) hbs hk (by omega)
 generalize cntR bs most k f=q at hr h1 h2 h3 h5⊢
 obtain⟨q1,q2,q3⟩:=q
 dsimp only at hr h1 h2 h3 h5⊢
 obtain⟨n,rfl⟩:∃n:Nat,q1=(n:Int):=⟨q1.toNat,by omega⟩
 rw[Int.toNat_natCast]at hr
 exact⟨n,q2,q3,rfl,rfl,by omega,hr,rfl⟩
def ptLm (x:Pt):Prop:=(x.path.size:Int)≤4096
structure RP1 where
 b6:Nat
 vs:List V
 A:Option Addr
 c:Nat
 ps:List Pr
 PA:Option Addr
 pc:Nat
 k:Nat
 f:Int×Int
 G:Gh
structure RP2 where
 i:Nat
 ts:List Pt
 A:Option Addr
 c:Nat
 o:Own
 k:Nat
 f:Int×Int
 G:Gh
structure RP3 where
 b7:Nat
 p:ByteArray
 s:ByteArray
 n:Nat
 k:Nat
 f:Int×Int
def zPg:Array Value:= #[.slice none 0 0, .slice none 0 0, .slice none 0 0]
theorem GLim.zero:GLim [] [] []:=⟨by decide,by decide,by decide,fun q h=>(by cases h),fun q h=>(by cases h)⟩
set_option maxRecDepth 20000 in
set_option maxHeartbeats 8000000 in
theorem pgRead_fn (G:Gh) (hE:Env G) (A:Option Addr) (bs:List Int) (cap:Nat) (hA:Sl (Kd.int .u8) G A bs) (hbs:∀c∈bs,0≤c∧c<256) (hl:bs.length≤140737488351232):
  Fn Tryz.prog 32 #[.slice A bs.length cap] G [] fun e G' H'=>∃cs prs pts CA PA QA cc pc qc w,e= .returned (.tuple #[.agg #[.slice CA (cs:List V).length cc, .slice PA (prs:List Pr).length pc, .slice QA (pts:List Pt).length qc], .agg #[.int .i64 w, .int .i64 0]])∧G.le G'∧Sl Kd.val G' CA cs∧Sl Kd.prc G' PA prs∧Sl Kd.pnt G' QA pts∧GLim cs prs pts∧
   ((w=0∧(progAns cs prs pts).2.2=0∧okG ⟨cs,prs,pts⟩∧bs=magP++encG ⟨cs,prs,pts⟩∧∀x,okG x→bs=magP++encG x→x=⟨cs,prs,pts⟩)∨(w=220∧∀x,okG x→(progAns x.cs x.prs x.pts).2.2=0→bs≠magP++encG x))∧H'=[]:=by
 refine Fn.enter Tryz.func32 rfl rfl fun w0=>?_
 refine WC.seq ?_
 refine WC.region ?_
 refine WL.oo (OW.alloc rfl fun b2=>?_)
 refine WL.oo (OW.alloc rfl fun b3=>?_)
 refine gom ?_
 refine WL.oo (OW.callK rfl (begin_fn G A bs cap hA hbs hl ⟨#[116,80,49]⟩ rfl) rfl fun v' G' H' h hg=>?_)
 obtain⟨rb,RA,rc,ok,k0,f0,he,hg1,hrc,hR,hbeg,rfl⟩:=h
 cases he
 obtain⟨G1,rfl⟩:∃G1,G1=G':=⟨_,rfl⟩
 have hk0:=hbeg.1
 refine gom ?_
 refine WL.oo (OW.alloc rfl fun b4=>?_)
 refine go ?_
 refine WC.joinG (X:=RP1) (fun t=>[(2, .pointer (some ⟨b2,0,none⟩)),(3, .pointer (some ⟨b3,0,none⟩)),(4, .pointer (some ⟨b4,0,none⟩)),(5, .bool ok),(6, .pointer (some ⟨t.b6,0,none⟩))]) (fun t=>t.G) (fun t=>[rdB rb RA bs.length rc t.k t.f, .blk t.b6 (.cells #[.slice t.A t.vs.length t.c, .slice t.PA t.ps.length t.pc, .slice none 0 0] 27 (0,0)),bxB b4 rb, .blk b3 (.cells #[.int .i64 0, .int .i64 0] 77 (0,0)), .blk b2 (.cells zPg 27 (0,0))])
  (fun t=>G1.le t.G∧t.vs.length≤65536∧(t.ps.length≤4096∧∀p∈t.ps,prLm p)∧Sl Kd.val t.G t.A t.vs∧Sl Kd.prc t.G t.PA t.ps∧∃k1 f1,Rd (encN enV) (okN 65536 okVl) bs k0 f0 t.vs k1 f1∧Rd (encN enP) (okN 4096 okPr) bs k1 f1 t.ps t.k t.f) ?_ fun t ht=>?_
 ·refine WC.pick [rdB rb RA bs.length rc k0 f0,bxB b4 rb, .blk b3 (.cells #[.int .i64 0, .int .i64 0] 77 (0,0)), .blk b2 (.cells zPg 27 (0,0))] ?_
  refine WC.drawS (Hs:=[bxB b4 rb]) mixed pkA ?_
  refine zb.ld 0 ?_
  refine zb.ld 2 ?_
  refine WB.two (i:=1) (j:=5) kr rfl rfl kr kr (OW.callK rfl (vals3_fn G1 rb RA bs rc k0 f0 hR hbs hk0 hl hrc 65536 (by decide)) rfl fun v' G' H' h hg=>?_) (OW.alloc rfl fun b6=>?_)
  ·obtain⟨VA,vs,vc,k1,f1,he,hg2,hvl,hV,hr1,rfl⟩:=h
   cases he
   obtain⟨G2,rfl⟩:∃G2,G2=G':=⟨_,rfl⟩
   refine⟨fun w hw=>(hw.pk pkA).le hg2,?_⟩
   refine WB.two (i:=3) (j:=5) kr rfl rfl kr kr (OW.callK rfl (procs3_fn G2 rb RA bs rc k1 f1 (hR.mono hg2) hbs hr1.le hl hrc 4096 (by decide)) rfl fun v' G' H' h hg=>?_) (OW.alloc rfl fun b6=>?_)
   ·obtain⟨PA,ps,pc,k2,f2,he,hg3,hpl,hP,hr2,rfl⟩:=h
    cases he
    obtain⟨G3,rfl⟩:∃G3,G3=G':=⟨_,rfl⟩
    have hg13:=Gh.le_trans hg2 hg3
    refine⟨fun w hw=>(hw.pk pkA).le hg13,?_⟩
    refine zb.build 4 ?_
    refine WB.oo 5 rfl (OW.alloc rfl fun b6=>?_)
    refine⟨fun w hw=>(hw.pk pkA).le hg13,?_⟩
    refine zb.st 6 ?_
    refine⟨fun w hw=>(hw.pk pkA).le hg13,?_⟩
    refine WB.done kr ?_
    refine WK.un ?_
    refine WK.pick [rdB rb RA bs.length rc k2 f2, .blk b6 (.cells #[.slice VA vs.length vc, .slice PA ps.length pc, .slice none 0 0] 27 (0,0)),bxB b4 rb, .blk b3 (.cells #[.int .i64 0, .int .i64 0] 77 (0,0)), .blk b2 (.cells zPg 27 (0,0))] ?_
    exact WK.meet ⟨b6,vs,VA,vc,ps,PA,pc,k2,f2,G3⟩ ⟨hg13,hvl,hpl,hV.mono hg3,hP,k1,f1,hr1,hr2⟩ (by exact⟨rfl,rfl,rfl,rfl,rfl,trivial⟩) rfl (List.Sublist.refl _)
   ·refine⟨fun w hw=>(hw.pk pkA).le hg2,?_⟩
    refine WB.oo 3 rfl (OW.callK rfl (procs3_fn G2 rb RA bs rc k1 f1 (hR.mono hg2) hbs hr1.le hl hrc 4096 (by decide)) rfl fun v' G' H' h hg=>?_)
    obtain⟨PA,ps,pc,k2,f2,he,hg3,hpl,hP,hr2,rfl⟩:=h
    cases he
    obtain⟨G3,rfl⟩:∃G3,G3=G':=⟨_,rfl⟩
    have hg13:=Gh.le_trans hg2 hg3
    refine⟨fun w hw=>(hw.pk pkA).le hg13,?_⟩
    refine zb.build 4 ?_
    refine zb.st 6 ?_
    refine⟨fun w hw=>(hw.pk pkA).le hg13,?_⟩
    refine WB.done kr ?_
    refine WK.un ?_
    refine WK.pick [rdB rb RA bs.length rc k2 f2, .blk b6 (.cells #[.slice VA vs.length vc, .slice PA ps.length pc, .slice none 0 0] 27 (0,0)),bxB b4 rb, .blk b3 (.cells #[.int .i64 0, .int .i64 0] 77 (0,0)), .blk b2 (.cells zPg 27 (0,0))] ?_
    exact WK.meet ⟨b6,vs,VA,vc,ps,PA,pc,k2,f2,G3⟩ ⟨hg13,hvl,hpl,hV.mono hg3,hP,k1,f1,hr1,hr2⟩ (by exact⟨rfl,rfl,rfl,rfl,rfl,trivial⟩) rfl (List.Sublist.refl _)
  ·refine⟨fun w hw=>hw.pk pkA,?_⟩
   refine WB.oo 1 rfl (OW.callK rfl (vals3_fn G1 rb RA bs rc k0 f0 hR hbs hk0 hl hrc 65536 (by decide)) rfl fun v' G' H' h hg=>?_)
   obtain⟨VA,vs,vc,k1,f1,he,hg2,hvl,hV,hr1,rfl⟩:=h
   cases he
   obtain⟨G2,rfl⟩:∃G2,G2=G':=⟨_,rfl⟩
   refine⟨fun w hw=>(hw.pk pkA).le hg2,?_⟩
   refine WB.oo 3 rfl (OW.callK rfl (procs3_fn G2 rb RA bs rc k1 f1 (hR.mono hg2) hbs hr1.le hl hrc 4096 (by decide)) rfl fun v' G' H' h hg=>?_)
   obtain⟨PA,ps,pc,k2,f2,he,hg3,hpl,hP,hr2,rfl⟩:=h
   cases he
   obtain⟨G3,rfl⟩:∃G3,G3=G':=⟨_,rfl⟩
   have hg13:=Gh.le_trans hg2 hg3
   refine⟨fun w hw=>(hw.pk pkA).le hg13,?_⟩
   refine zb.build 4 ?_
   refine zb.st 6 ?_
   refine⟨fun w hw=>(hw.pk pkA).le hg13,?_⟩
   refine WB.done kr ?_
   refine WK.un ?_
   refine WK.pick [rdB rb RA bs.length rc k2 f2, .blk b6 (.cells #[.slice VA vs.length vc, .slice PA ps.length pc, .slice none 0 0] 27 (0,0)),bxB b4 rb, .blk b3 (.cells #[.int .i64 0, .int .i64 0] 77 (0,0)), .blk b2 (.cells zPg 27 (0,0))] ?_
   exact WK.meet ⟨b6,vs,VA,vc,ps,PA,pc,k2,f2,G3⟩ ⟨hg13,hvl,hpl,hV.mono hg3,hP,k1,f1,hr1,hr2⟩ (by exact⟨rfl,rfl,rfl,rfl,rfl,trivial⟩) rfl (List.Sublist.refl _)
 obtain⟨b6,vs,VA,vc,ps,PA,pc,k2,f2,G2⟩:=t
 obtain⟨hg2,hvl,⟨hpl,hpb⟩,hV,hP,k1,f1,hr1,hr2⟩:=ht
 dsimp only at hg2 hvl hpl hpb hV hP hr2
 dsimp only
 have hg02:=Gh.le_trans hg1 hg2
 have hR2:=hR.mono hg2
 refine gom ?_
 refine WL.oo (OW.callK rfl (cnt2_fn G2 rb RA bs rc k2 f2 hR2 hbs hr2.le hl 1073741824 (by decide)) rfl fun v' G' H' h hg=>?_)
 obtain⟨n,k3,f3,he,rfl,hnm,hn0,hr3,rfl⟩:=h
 cases he
 refine zw.move ?_
 refine WL.nil ?_
 refine WK.un ?_
 refine WC.joinG (X:=RP2) (fun t=>[(2, .pointer (some ⟨b2,0,none⟩)),(3, .pointer (some ⟨b3,0,none⟩)),(4, .pointer (some ⟨b4,0,none⟩)),(5, .bool ok),(6, .pointer (some ⟨b6,0,none⟩))]) (fun t=>t.G) (fun t=>[rdB rb RA bs.length rc t.k t.f, .blk b6 (.cells #[.slice VA vs.length vc, .slice PA ps.length pc, .slice t.A t.ts.length t.c] 27 (0,0)),bxB b4 rb, .blk b3 (.cells #[.int .i64 0, .int .i64 0] 77 (0,0)), .blk b2 (.cells zPg 27 (0,0))])
  (fun t=>G2.le t.G∧(t.ts.length≤1073741824∧∀q∈t.ts,ptLm q)∧Sl Kd.pnt t.G t.A t.ts∧Rd (encN enT) (okN 1073741824 okPt) bs k2 f2 t.ts t.k t.f) ?_ fun t ht=>?_
 ·
  refine gom ?_
  refine WC.nothing ?_
  refine WC.loop (X:=RP2) (fun t=>[(2, .pointer (some ⟨b2,0,none⟩)),(3, .pointer (some ⟨b3,0,none⟩)),(4, .pointer (some ⟨b4,0,none⟩)),(5, .bool ok),(6, .pointer (some ⟨b6,0,none⟩)),(21, .int .i64 (n:Int)),(22, .int .i64 (t.i:Int))]) (fun t=>t.G) (fun t=>[t.o,rdB rb RA bs.length rc t.k t.f, .blk b6 (.cells #[.slice VA vs.length vc, .slice PA ps.length pc, .slice t.A t.ts.length t.c] 27 (0,0)),bxB b4 rb, .blk b3 (.cells #[.int .i64 0, .int .i64 0] 77 (0,0)), .blk b2 (.cells zPg 27 (0,0))]) (fun t=>n - t.i)
   (fun t=>t.i≤n∧t.ts.length=t.i∧G2.le t.G∧(∀q∈t.ts,ptLm q)∧Rd (encL enT) (fun l=>l.length=t.i∧∀a∈l,okPt a) bs k3 f3 t.ts t.k t.f∧KVec Kd.pnt 54 t.G t.A t.c t.ts t.o)
   ⟨0,[],none,0, .spare 0 0 0,k3,f3,G2⟩ ⟨Nat.zero_le _,rfl,Gh.le_refl _,fun q hq=>(by cases hq),rd_nil hr3.le f3,KVec.nil⟩ (by exact⟨rfl,rfl,rfl,rfl,rfl,rfl,rfl,trivial⟩) rfl (List.Sublist.refl _) fun x hx=>?_
  obtain⟨i,ts,TA,tc,o1,k4,f4,G3⟩:=x
  obtain⟨hi,hnl,hg3,hnb,hr4,hv⟩:=hx
  dsimp only at hi hnl hg3 hnb hr4 hv
  have x2:=wrapS i (by omega)
  by_cases hlt:i<n
  rotate_left
  ·have e2:decide ((i:Int)<(n:Int))=false:=decide_eq_false (by omega)
   obtain rfl:i=n:=by omega
   refine gom ?_
   refine WK.freezeK (by decide) hv atA fun G7 hg7 hS=>?_
   refine WK.pick [rdB rb RA bs.length rc k4 f4, .blk b6 (.cells #[.slice VA vs.length vc, .slice PA ps.length pc, .slice TA ts.length tc] 27 (0,0)),bxB b4 rb, .blk b3 (.cells #[.int .i64 0, .int .i64 0] 77 (0,0)), .blk b2 (.cells zPg 27 (0,0))] ?_
   exact WK.meet ⟨0,ts,TA,tc,o1,k4,f4,G7⟩ ⟨Gh.le_trans hg3 hg7,⟨by dsimp only;omega,hnb⟩,hS,Rd.list hr3 hr4⟩ (by exact⟨rfl,rfl,rfl,rfl,rfl,trivial⟩) rfl (List.Sublist.refl _)
  have e2:decide ((i:Int)<(n:Int))=true:=decide_eq_true (by omega)
  have hR3:=hR2.mono hg3
  refine go ?_
  refine WC.joinG (X:=RP3) (fun t=>[(2, .pointer (some ⟨b2,0,none⟩)),(3, .pointer (some ⟨b3,0,none⟩)),(4, .pointer (some ⟨b4,0,none⟩)),(5, .bool ok),(6, .pointer (some ⟨b6,0,none⟩)),(21, .int .i64 (n:Int)),(22, .int .i64 (i:Int)),(7, .pointer (some ⟨t.b7,0,none⟩))]) (fun _=>G3) (fun t=>[.blk t.b7 (.cells #[.string t.p, .string t.s, .int .i64 (t.n:Int)] 54 (0,0)),o1,rdB rb RA bs.length rc t.k t.f, .blk b6 (.cells #[.slice VA vs.length vc, .slice PA ps.length pc, .slice TA ts.length tc] 27 (0,0)),bxB b4 rb, .blk b3 (.cells #[.int .i64 0, .int .i64 0] 77 (0,0)), .blk b2 (.cells zPg 27 (0,0))])
   (fun t=>(t.p.size:Int)≤4096∧Rd enT okPt bs k4 f4 ⟨t.p,t.s,(t.n:Int)⟩ t.k t.f) ?_ fun t ht=>?_
  ·refine WC.drawS (Hs:=[bxB b4 rb]) mixed pkA ?_
   refine zb.fa 0 ?_
   refine zb.ld 1 ?_
   refine zb.fa 3 ?_
   refine zb.fa 6 ?_
   refine zb.ld 4 ?_
   refine zb.ld 7 ?_
   refine WB.two (i:=2) (j:=10) kr rfl rfl kr kr (OW.callK rfl (rText2_fn G3 rb RA bs rc k4 f4 hR3 hbs hr4.le hl hrc 4096 (by decide) (by decide)) rfl fun v' G' H' h hg=>?_) (OW.alloc rfl fun b7=>?_)
   ·obtain⟨np,k5,f5,he,rfl,hnp,hr5,rfl⟩:=h
    cases he
    refine⟨fun w hw=>hw.pk pkA,?_⟩
    refine WB.two (i:=5) (j:=10) kr rfl rfl kr kr (OW.callK rfl (rText2_fn G3 rb RA bs rc k5 f5 hR3 hbs hr5.le hl hrc 32 (by decide) (by decide)) rfl fun v' G' H' h hg=>?_) (OW.alloc rfl fun b7=>?_)
    ·obtain⟨nm,k6,f6,he,rfl,hnm2,hr6,rfl⟩:=h
     cases he
     refine⟨fun w hw=>hw.pk pkA,?_⟩
     refine WB.two (i:=8) (j:=10) kr rfl rfl kr kr (OW.callK rfl (count3_fn G3 rb RA bs rc k6 f6 4096 hR3 hbs hr6.le hl (by decide)) rfl fun v' G' H' h hg=>?_) (OW.alloc rfl fun b7=>?_)
     ·obtain⟨m,k7,f7,he,rfl,hmm,hr7,rfl⟩:=h
      cases he
      refine⟨fun w hw=>hw.pk pkA,?_⟩
      refine zb.build 9 ?_
      refine WB.oo 10 rfl (OW.alloc rfl fun b7=>?_)
      refine⟨fun w hw=>hw.pk pkA,?_⟩
      refine zb.st 11 ?_
      refine⟨fun w hw=>hw.pk pkA,?_⟩
      refine WB.done kr ?_
      refine WK.un ?_
      refine WK.pick [.blk b7 (.cells #[.string np, .string nm, .int .i64 (m:Int)] 54 (0,0)),o1,rdB rb RA bs.length rc k7 f7, .blk b6 (.cells #[.slice VA vs.length vc, .slice PA ps.length pc, .slice TA ts.length tc] 27 (0,0)),bxB b4 rb, .blk b3 (.cells #[.int .i64 0, .int .i64 0] 77 (0,0)), .blk b2 (.cells zPg 27 (0,0))] ?_
      exact WK.meet ⟨b7,np,nm,m,k7,f7⟩ ⟨hnp,rd_point hr5 hr6 hr7⟩ (by exact⟨rfl,rfl,rfl,rfl,rfl,rfl,rfl,rfl,trivial⟩) rfl (List.Sublist.refl _)
     ·refine⟨fun w hw=>hw.pk pkA,?_⟩
      refine WB.oo 8 rfl (OW.callK rfl (count3_fn G3 rb RA bs rc k6 f6 4096 hR3 hbs hr6.le hl (by decide)) rfl fun v' G' H' h hg=>?_)
      obtain⟨m,k7,f7,he,rfl,hmm,hr7,rfl⟩:=h
      cases he
      refine⟨fun w hw=>hw.pk pkA,?_⟩
      refine zb.build 9 ?_
      refine zb.st 11 ?_
      refine⟨fun w hw=>hw.pk pkA,?_⟩
      refine WB.done kr ?_
      refine WK.un ?_
      refine WK.pick [.blk b7 (.cells #[.string np, .string nm, .int .i64 (m:Int)] 54 (0,0)),o1,rdB rb RA bs.length rc k7 f7, .blk b6 (.cells #[.slice VA vs.length vc, .slice PA ps.length pc, .slice TA ts.length tc] 27 (0,0)),bxB b4 rb, .blk b3 (.cells #[.int .i64 0, .int .i64 0] 77 (0,0)), .blk b2 (.cells zPg 27 (0,0))] ?_
      exact WK.meet ⟨b7,np,nm,m,k7,f7⟩ ⟨hnp,rd_point hr5 hr6 hr7⟩ (by exact⟨rfl,rfl,rfl,rfl,rfl,rfl,rfl,rfl,trivial⟩) rfl (List.Sublist.refl _)
    ·refine⟨fun w hw=>hw.pk pkA,?_⟩
     refine WB.oo 5 rfl (OW.callK rfl (rText2_fn G3 rb RA bs rc k5 f5 hR3 hbs hr5.le hl hrc 32 (by decide) (by decide)) rfl fun v' G' H' h hg=>?_)
     obtain⟨nm,k6,f6,he,rfl,hnm2,hr6,rfl⟩:=h
     cases he
     refine⟨fun w hw=>hw.pk pkA,?_⟩
     refine WB.oo 8 rfl (OW.callK rfl (count3_fn G3 rb RA bs rc k6 f6 4096 hR3 hbs hr6.le hl (by decide)) rfl fun v' G' H' h hg=>?_)
     obtain⟨m,k7,f7,he,rfl,hmm,hr7,rfl⟩:=h
     cases he
     refine⟨fun w hw=>hw.pk pkA,?_⟩
     refine zb.build 9 ?_
     refine zb.st 11 ?_
     refine⟨fun w hw=>hw.pk pkA,?_⟩
     refine WB.done kr ?_
     refine WK.un ?_
     refine WK.pick [.blk b7 (.cells #[.string np, .string nm, .int .i64 (m:Int)] 54 (0,0)),o1,rdB rb RA bs.length rc k7 f7, .blk b6 (.cells #[.slice VA vs.length vc, .slice PA ps.length pc, .slice TA ts.length tc] 27 (0,0)),bxB b4 rb, .blk b3 (.cells #[.int .i64 0, .int .i64 0] 77 (0,0)), .blk b2 (.cells zPg 27 (0,0))] ?_
     exact WK.meet ⟨b7,np,nm,m,k7,f7⟩ ⟨hnp,rd_point hr5 hr6 hr7⟩ (by exact⟨rfl,rfl,rfl,rfl,rfl,rfl,rfl,rfl,trivial⟩) rfl (List.Sublist.refl _)
   ·refine⟨fun w hw=>hw.pk pkA,?_⟩
    refine WB.oo 2 rfl (OW.callK rfl (rText2_fn G3 rb RA bs rc k4 f4 hR3 hbs hr4.le hl hrc 4096 (by decide) (by decide)) rfl fun v' G' H' h hg=>?_)
    obtain⟨np,k5,f5,he,rfl,hnp,hr5,rfl⟩:=h
    cases he
    refine⟨fun w hw=>hw.pk pkA,?_⟩
    refine WB.oo 5 rfl (OW.callK rfl (rText2_fn G3 rb RA bs rc k5 f5 hR3 hbs hr5.le hl hrc 32 (by decide) (by decide)) rfl fun v' G' H' h hg=>?_)
    obtain⟨nm,k6,f6,he,rfl,hnm2,hr6,rfl⟩:=h
    cases he
    refine⟨fun w hw=>hw.pk pkA,?_⟩
    refine WB.oo 8 rfl (OW.callK rfl (count3_fn G3 rb RA bs rc k6 f6 4096 hR3 hbs hr6.le hl (by decide)) rfl fun v' G' H' h hg=>?_)
    obtain⟨m,k7,f7,he,rfl,hmm,hr7,rfl⟩:=h
    cases he
    refine⟨fun w hw=>hw.pk pkA,?_⟩
    refine zb.build 9 ?_
    refine zb.st 11 ?_
    refine⟨fun w hw=>hw.pk pkA,?_⟩
    refine WB.done kr ?_
    refine WK.un ?_
    refine WK.pick [.blk b7 (.cells #[.string np, .string nm, .int .i64 (m:Int)] 54 (0,0)),o1,rdB rb RA bs.length rc k7 f7, .blk b6 (.cells #[.slice VA vs.length vc, .slice PA ps.length pc, .slice TA ts.length tc] 27 (0,0)),bxB b4 rb, .blk b3 (.cells #[.int .i64 0, .int .i64 0] 77 (0,0)), .blk b2 (.cells zPg 27 (0,0))] ?_
    exact WK.meet ⟨b7,np,nm,m,k7,f7⟩ ⟨hnp,rd_point hr5 hr6 hr7⟩ (by exact⟨rfl,rfl,rfl,rfl,rfl,rfl,rfl,rfl,trivial⟩) rfl (List.Sublist.refl _)
  obtain⟨b7,np,nm,m,k6,f6⟩:=t
  obtain⟨hnp,hrn⟩:=ht
  dsimp only at hnp hrn
  dsimp only
  refine gom ?_
  refine WL.oo (OW.callK rfl (bad_fn G3 rb RA bs.length rc k6 f6) rfl fun v' G' H' h hg=>?_)
  obtain⟨he,rfl,rfl⟩:=h
  cases he
  by_cases hbad:f6=(0,0)
  rotate_left
  ·rw[decide_eq_false hbad]
   refine gom ?_
   refine WK.freezeK (by decide) hv atA fun G7 hg7 hS=>?_
   refine WK.pick [rdB rb RA bs.length rc k6 f6, .blk b6 (.cells #[.slice VA vs.length vc, .slice PA ps.length pc, .slice TA ts.length tc] 27 (0,0)),bxB b4 rb, .blk b3 (.cells #[.int .i64 0, .int .i64 0] 77 (0,0)), .blk b2 (.cells zPg 27 (0,0))] ?_
   exact WK.meet ⟨0,ts,TA,tc,o1,k6,f6,G7⟩ ⟨Gh.le_trans hg3 hg7,⟨by dsimp only;omega,hnb⟩,hS,Rd.list hr3 ((hr4.snoc hrn).stop hlt hbad)⟩ (by exact⟨rfl,rfl,rfl,rfl,rfl,trivial⟩) rfl (List.Sublist.refl _)
  rw[decide_eq_true hbad]
  refine gom ?_
  refine WL.op kr (OW.buildSlice rfl kr kr (by rfl) rfl fun b39=>?_)
  refine WL.oo (OW.append1 (k:=Kd.pnt) (u:=(⟨np,nm,(m:Int)⟩:Pt)) rfl rfl kr rfl hv atA atA rfl rfl (by omega) (by omega) rfl fun A8 c8 o8 hv8=>?_)
  refine gom ?_
  refine WK.pick [o8,rdB rb RA bs.length rc k6 f6, .blk b6 (.cells #[.slice VA vs.length vc, .slice PA ps.length pc, .slice A8 (ts++[(⟨np,nm,(m:Int)⟩:Pt)]).length c8] 27 (0,0)),bxB b4 rb, .blk b3 (.cells #[.int .i64 0, .int .i64 0] 77 (0,0)), .blk b2 (.cells zPg 27 (0,0))] ?_
  exact WK.again (X:=RP2) (x:=⟨i,ts,TA,tc,o1,k4,f4,G3⟩) (μ:=fun t=>n - t.i) ⟨i+1,ts++[⟨np,nm,(m:Int)⟩],A8,c8,o8,k6,f6,G3⟩ (by dsimp only;omega) ⟨by dsimp only;omega,by rw[List.length_append,hnl];rfl,hg3,fun q hq=>by
   rcases List.mem_append.1 hq with hq | hq
   ·exact hnb q hq
   ·obtain rfl:=List.mem_singleton.1 hq;exact hnp,hr4.snoc hrn,hv8⟩ (by exact⟨rfl,rfl,rfl,rfl,rfl,rfl,rfl,trivial⟩) rfl (List.Sublist.refl _)
 obtain⟨i9,ts,TA,tc,o9,k6,f6,G3⟩:=t
 obtain⟨hg3,⟨hnl,hnb⟩,hT,hr3⟩:=ht
 dsimp only at hg3 hnl hnb hT hr3
 dsimp only
 have hg03:=Gh.le_trans hg02 hg3
 have hro:=rd_pg hr1 hr2 hr3
 obtain⟨hsound,hfull⟩:=rd_end hbeg hro
 have hLo:GLim vs ps ts:=⟨by omega,by omega,by omega,fun q hq=>by have:=hnb q hq;unfold ptLm at this;omega,fun q hq=>by have:=hpb q hq;unfold prLm at this;omega⟩
 have hV3:=hV.mono hg3
 have hP3:=hP.mono hg3
 refine gom ?_
 refine WL.oo (OW.callK rfl (Program_fn G3 (hE.mono hg03) vs ps ts VA PA TA vc pc tc hV3 hP3 hT hLo) rfl fun v' G' H' h hg=>?_)
 obtain⟨he,hg5,rfl⟩:=h
 cases he
 obtain⟨G5,rfl⟩:∃G5,G5=G':=⟨_,rfl⟩
 have hg05:=Gh.le_trans hg03 hg5
 generalize hoa:(progAns vs ps ts).2.2=oa at hg5⊢
 refine zw.move ?_
 refine zw.ext ?_
 refine zw.ext ?_
 refine WL.oo (OW.alloc rfl fun b8=>?_)
 have hmg:strI ⟨#[116,80,49]⟩=magP:=by rfl
 rw[hmg]at hsound hfull
 cases ok with
 | false=>
  refine gom ?_
  refine WL.oo (OW.callK rfl (noneF_fn G5) rfl fun v' G' H' h hg=>?_)
  obtain⟨he,rfl,rfl⟩:=h
  cases he
  refine gom ?_
  refine WC.rt ?_
  exact QF.p2 (.inl rfl) rfl (.cell rfl inferInstance inferInstance atA rfl rfl) (.cell rfl inferInstance inferInstance atA rfl rfl) (⟨[],[],[],none,none,none,0,0,0,220,rfl,hg05,Sl.nil _ _ _,Sl.nil _ _ _,Sl.nil _ _ _,GLim.zero, .inr ⟨rfl,fun x ho _ he=>(by cases (hfull x ho he).1)⟩,rfl⟩)
 | true=>
 refine gom ?_
 refine WL.oo (OW.callK rfl (rend_fn G5 rb RA bs.length rc k6 f6 hro.le (by omega)) rfl fun v' G' H' h hg=>?_)
 obtain⟨he,rfl,rfl⟩:=h
 cases he
 generalize endF bs.length k6 f6=q at hsound hfull⊢
 obtain⟨q1,q2⟩:=q
 refine gom ?_
 refine WL.pp (Gp.neFault rfl rfl) ?_
 by_cases hq:(q1,q2)=((0:Int),(0:Int))
 rotate_left
 ·rw[decide_eq_false hq]
  refine gom ?_
  refine WL.oo (OW.callK rfl (noneF_fn G5) rfl fun v' G' H' h hg=>?_)
  obtain⟨he,rfl,rfl⟩:=h
  cases he
  refine gom ?_
  refine WC.rt ?_
  exact QF.p2 (.inl rfl) rfl (.cell rfl inferInstance inferInstance atA rfl rfl) (.cell rfl inferInstance inferInstance atA rfl rfl) (⟨[],[],[],none,none,none,0,0,0,220,rfl,hg05,Sl.nil _ _ _,Sl.nil _ _ _,Sl.nil _ _ _,GLim.zero, .inr ⟨rfl,fun x ho _ he=>absurd (hfull x ho he).2.1 hq⟩,rfl⟩)
 rw[decide_eq_true hq]
 by_cases hz:oa=0
 rotate_left
 ·have e5:(oa != 0)=true:=by rw[bne_iff_ne];exact hz
  refine gom ?_
  refine WL.oo (OW.callK rfl (noneF_fn G5) rfl fun v' G' H' h hg=>?_)
  obtain⟨he,rfl,rfl⟩:=h
  cases he
  refine gom ?_
  refine WC.rt ?_
  exact QF.p2 (.inl rfl) rfl (.cell rfl inferInstance inferInstance atA rfl rfl) (.cell rfl inferInstance inferInstance atA rfl rfl) (⟨[],[],[],none,none,none,0,0,0,220,rfl,hg05,Sl.nil _ _ _,Sl.nil _ _ _,Sl.nil _ _ _,GLim.zero, .inr ⟨rfl,fun x ho ha he=>(by have:=(hfull x ho he).2.2;rw[this]at ha;dsimp only at ha;rw[hoa]at ha;exact hz ha)⟩,rfl⟩)
 subst hz
 obtain⟨hok,hbs2⟩:=hsound rfl hq
 refine gom ?_
 refine WC.rt ?_
 exact QF.p2 (.inl rfl) rfl (.cell rfl inferInstance inferInstance atA rfl rfl) (.cell rfl inferInstance inferInstance atA rfl rfl) (⟨vs,ps,ts,VA,PA,TA,vc,pc,tc,0,rfl,hg05,hV3.mono hg5,hP3.mono hg5,hT.mono hg5,hLo, .inl ⟨rfl,hoa,hok,hbs2,fun x ho he=>(hfull x ho he).2.2⟩,rfl⟩)
end
section
open Go.RowKit Go.ChangeShapes Go.WideShapes Go.MapKept
theorem bulk_app {H:Type} (a b:List (DataW H)):Rows.uptoBulkAll (a++b)=Rows.uptoBulkAll a+Rows.uptoBulkAll b:=by
 induction a with
 | nil=>simp[Rows.uptoBulkAll]
 | cons x r ih=>simp only[List.cons_append,Rows.uptoBulkAll];omega
theorem bulk_take {H:Type} {l:List (DataW H)} {i:Nat} {d:DataW H} (h:l[i]? =some d):Rows.uptoBulkAll (l.take (i+1))=Rows.uptoBulkAll (l.take i)+Rows.uptoBulk d:=by
 rw[take_snoc' h,bulk_app];simp[Rows.uptoBulkAll]
theorem bulk_take_le {H:Type} (l:List (DataW H)) (i:Nat):Rows.uptoBulkAll (l.take i)≤Rows.uptoBulkAll l:=by
 have h:=bulk_app (l.take i) (l.drop i)
 rw[List.take_append_drop]at h
 omega
theorem sum_mem {α:Type} {m:α→Nat} {l:List α} {x:α} (h:x∈l):m x≤(l.map m).sum:=by
 induction l with
 | nil=>cases h
 | cons y r ih=>
  simp only[List.map_cons,List.sum_cons]
  rcases List.mem_cons.1 h with rfl | h
  ·omega
  ·have:=ih h;omega
theorem sum_len {α:Type} {m:α→Nat} (l:List α) (h:∀x∈l,1≤m x):l.length≤(l.map m).sum:=by
 induction l with
 | nil=>simp
 | cons y r ih=>
  have h1:=h y List.mem_cons_self
  have h2:=ih fun x hx=>h x (List.mem_cons_of_mem _ hx)
  simp only[List.map_cons,List.sum_cons,List.length_cons]
  omega
theorem sum_le {α:Type} {f m:α→Nat} (l:List α) (h:∀x∈l,f x≤m x):(l.map f).sum≤(l.map m).sum:=by
 induction l with
 | nil=>simp
 | cons y r ih=>
  have h1:=h y List.mem_cons_self
  have h2:=ih fun x hx=>h x (List.mem_cons_of_mem _ hx)
  simp only[List.map_cons,List.sum_cons]
  omega
section
variable {H:Type} (enc:TypeId×Value→H) (P:Program) (w:World)
def OpensW (t:TypeId) {α:Type} (k:Kd α) (m:α→Nat) (B:α→Prop):Prop:=
 ∀fuel cs d ps,DataW.trod enc P w 0 (fun _=>true) true fuel t cs=some (d,ps)→Rows.uptoBulk d≤1048576→∃a,k.K (Gw w) a cs∧m a≤Rows.uptoBulk d∧B a
theorem OpensW.int {t:TypeId} {i:IntKind} (ht:P.underlying t=some (.int i)):OpensW enc P w t (Kd.int i) (fun _=>1) (fun n=>(Lit.int i n).wf=true):=
 fun fuel cs d ps e _=>let ⟨n,h1,_,h3⟩:=DataW.trod_int ht e;⟨n,h1,bulk_one d,h3⟩
theorem OpensW.bool {t:TypeId} (ht:P.underlying t=some .bool):OpensW enc P w t Kd.bool (fun _=>1) (fun _=>True):=
 fun fuel cs d ps e _=>let ⟨n,h1,_⟩:=DataW.trod_bool ht e;⟨n,h1,bulk_one d,trivial⟩
theorem OpensW.str {t:TypeId} (ht:P.underlying t=some .string):OpensW enc P w t Kd.str (fun s=>s.size+1) (fun _=>True):=
 fun fuel cs d ps e hw=>by
  obtain⟨s,h1,h2,h3⟩:=DataW.trod_string ht e
  obtain⟨rfl,rfl⟩:=Prod.mk.inj h2
  refine⟨s,h1,?_,trivial⟩
  simp only[Rows.uptoBulk,Array.length_toList]
  exact Nat.le_refl _
theorem OpensW.slice {t e:TypeId} {α:Type} {k:Kd α} {m:α→Nat} {B:α→Prop} (ht:P.underlying t=some (.slice e)) (hc:P.cellsOf e=k.n) (h0:0<k.n) (h:OpensW enc P w e k m B):
  OpensW enc P w t (Kd.slice k) (fun xs=>(xs.map m).sum+1) (fun xs=>∀x∈xs,B x):=by
 intro fuel cs d ps hd hw
 rcases DataW.trod_slice ht hd with⟨rfl,_⟩ | ⟨a,len,cap,elems,rest,n,_,rfl,hx,_,hl,_,hlen,hel,_,_⟩
 ·exact⟨[],⟨none,0,rfl,Nat.le_refl _,Sl.nil _ _ _⟩,by simpa using bulk_one d,by simp⟩
 ·obtain ⟨rfl,rfl⟩:=Prod.mk.inj hx
  simp only[Rows.uptoBulk]at hw
  have hwe:∀(j:Nat) (d':DataW H),(elems.map (·.1))[j]? =some d'→Rows.uptoBulk d'≤1048576:=fun j d' hj=>by
   have:=bulk_part (List.mem_of_getElem? hj);omega
  have one:∀i,i<len→∃y cs' d',w.cells? 0 (a.add (i*P.cellsOf e)) (P.cellsOf e)=some cs'∧k.K (Gw w) y cs'∧(elems.map (·.1))[i]? =some d'∧m y≤Rows.uptoBulk d'∧B y:=by
   intro i hi
   have hi':=hel i hi
   have he:i<elems.length:=by omega
   cases hcs:w.cells? 0 (a.add (i*P.cellsOf e)) (P.cellsOf e)with
   | none=>
    rw[hcs,List.getElem?_eq_getElem he]at hi'
    cases hi'
   | some cs'=>
    rw[hcs,List.getElem?_eq_getElem he]at hi'
    simp only[Option.bind_some]at hi'
    have hd':(elems.map (·.1))[i]? =some (elems[i]).1:=by rw[List.getElem?_map,List.getElem?_eq_getElem he];rfl
    obtain⟨y,h1,h2,h3⟩:=h n cs' _ _ hi' (hwe i _ hd')
    exact⟨y,cs',_,rfl,h1,hd',h2,h3⟩
  have all:∀q,q≤len→∃xs:List α,xs.length=q∧(∀x∈xs,B x)∧(xs.map m).sum≤Rows.uptoBulkAll ((elems.map (·.1)).take q)∧∀i x,xs[i]? =some x→∃cs',w.cells? 0 (a.add (i*P.cellsOf e)) (P.cellsOf e)=some cs'∧k.K (Gw w) x cs':=by
   intro q
   induction q with
   | zero=>exact fun _=>⟨[],rfl,by simp,by simp,by simp⟩
   | succ q ih=>
    intro hm
    obtain⟨xs,e1,e2,e4,e3⟩:=ih (by omega)
    obtain⟨y,cs',d',h1,h2,h3,h4,h5⟩:=one q (by omega)
    refine⟨xs++[y],by simp[e1],fun x hx=>?_,?_,fun i x hx=>?_⟩
    ·rcases List.mem_append.1 hx with hx | hx
     ·exact e2 x hx
     ·simp at hx;subst hx;exact h5
    ·rw[bulk_take h3,List.map_append,List.sum_append]
     simp only[List.map_cons,List.map_nil,List.sum_cons,List.sum_nil]
     omega
    ·rcases Nat.lt_or_ge i xs.length with hi | hi
     ·rw[List.getElem?_append_left hi]at hx;exact e3 i x hx
     ·have:i=q:=by have:=(List.getElem?_eq_some_iff.1 hx).1;simp at this;omega
      subst this
      rw[List.getElem?_append_right hi]at hx
      simp[e1]at hx
      subst hx
      exact⟨cs',h1,h2⟩
  obtain⟨xs,e1,e2,e4,e3⟩:=all len (Nat.le_refl _)
  have h5:=bulk_take_le (elems.map (·.1)) len
  refine⟨xs,⟨some a,cap,by rw[e1],by omega,fun i x hx=>?_⟩,by simp only[Rows.uptoBulk];omega,e2⟩
  have hi:=(List.getElem?_eq_some_iff.1 hx).1
  obtain⟨cs0,h10,h20⟩:=e3 0 _ (List.getElem?_eq_getElem (by omega:0<xs.length))
  obtain⟨h30,h40⟩:=cells_get w h10
  have hsp:=cell_plain w (h40 0 _ (List.getElem?_eq_getElem (by rw[h30,hc];exact h0)))
  obtain⟨cs',h1,h2⟩:=e3 i x hx
  obtain⟨h3,h4⟩:=cells_get w h1
  obtain⟨ab,ao,asp⟩:=a
  obtain rfl:asp=none:=by simpa [Addr.add]using hsp
  refine⟨ab,ao,cs',rfl,h2,fun j v e=>?_⟩
  have h5:=h4 j v e
  rw[hc]at h5
  have e5:((⟨ab,ao,none⟩:Addr).add (i*k.n)).add j=⟨ab,ao+i*k.n+j,none⟩:=by
   unfold Addr.add
   split<;>split<;>simp_all
  rw[e5]at h5
  exact h5
theorem field_openW {t:TypeId} {fs:Array Field} {fuel:Nat} {cs:List Value} {d:DataW H} {ps:List MemPlace} (ht:P.underlying t=some (.struct fs)) (hd:DataW.trod enc P w 0 (fun _=>true) true fuel t cs=some (d,ps)) (hw:Rows.uptoBulk d≤1048576):
  cs.length=P.cellsOf t∧∃ds:List (DataW H),ds.length=fs.size∧Rows.uptoBulk d=Rows.uptoBulkAll ds+1∧∀(i:Nat) (f:Field),fs[i]? =some f→∀ {t' o n:Nat},f.type=t'→f.offset=o→P.cellsOf t'=n→∀ {α:Type} {k:Kd α} {m:α→Nat} {B:α→Prop},OpensW enc P w t' k m B→∃a,k.K (Gw w) a ((cs.drop o).take n)∧(∀x,ds[i]? =some x→m a≤Rows.uptoBulk x)∧B a:=by
 obtain⟨xs,n,_,hx,hl,hn,hf⟩:=DataW.trod_struct ht hd
 obtain⟨rfl,rfl⟩:=Prod.mk.inj hx
 refine⟨hl,xs.map (·.1),by rw[List.length_map,hn],by simp only[Rows.uptoBulk],fun i f hi t' o n' e1 e2 e3 α k m B hO=>?_⟩
 subst e1 e2 e3
 have h1:=hf i f hi
 have hilt:i<xs.length:=by rw[hn];exact(Array.getElem?_eq_some_iff.1 hi).1
 rw[List.getElem?_eq_getElem hilt]at h1
 have hd':(xs.map (·.1))[i]? =some (xs[i]).1:=by rw[List.getElem?_map,List.getElem?_eq_getElem hilt];rfl
 simp only[Rows.uptoBulk]at hw
 obtain⟨y,h2,h3,h4⟩:=hO n _ _ _ h1 (Nat.le_trans (bulk_part (List.mem_of_getElem? hd')) (by omega))
 exact⟨y,h2,fun x hx=>by rw[hd']at hx;cases hx;exact h3,h4⟩
theorem open_sliceW {t e:TypeId} {α:Type} {k:Kd α} {m:α→Nat} {B:α→Prop} (ht:P.underlying t=some (.slice e)) (hc:P.cellsOf e=k.n) (h0:0<k.n) (h:OpensW enc P w e k m B)
  {v:Value} {d:DataW H} {ps:List MemPlace} {base:Nat} (hval:Value.okWide P w .any base t v) (hd:DataW.Trod enc P w 0 (fun _=>true) true t v d ps) (hw:Rows.uptoBulk d≤1048576):
  ∃(A:Option Addr) (cap:Nat) (xs:List α),v= .slice A xs.length cap∧xs.length≤cap∧Sl k (Gw w) A xs∧(xs.map m).sum≤1048576∧∀x∈xs,B x:=by
 obtain⟨A,len,cap,rfl⟩:=okWide_slice ht hval
 obtain⟨fuel,hd⟩:=hd
 obtain⟨xs,⟨A',cap',h1,hle,h2⟩,h3,h4⟩:=OpensW.slice enc P w ht hc h0 h fuel _ d ps hd hw
 have e1:[Value.slice A len cap]=[Value.slice A' xs.length cap']:=h1
 cases e1
 have h5:(xs.map m).sum+1≤Rows.uptoBulk d:=h3
 exact⟨_,_,xs,rfl,hle,h2,by omega,h4⟩
end
def mV (v:V):Nat:=v.s.size+1
def mNd (n:Nd):Nat:=n.path.size+n.name.size+n.params.length+1
def mPr (p:Pr):Nat:=p.name.size+p.params.length+p.code.length+1
def mOb (o:Ob):Nat:=o.path.size+(o.consts.map mV).sum+(o.needs.map mNd).sum+(o.procs.map mPr).sum+1
def i64 (z:Int):Prop:=(Lit.int .i64 z).wf=true
structure OInt (o:Ob):Prop where
 cs:∀v∈o.consts,i64 v.t∧i64 v.i
 nd:∀n∈o.needs,i64 n.result∧∀t∈n.params,i64 t
 pr:∀p∈o.procs,i64 p.locals∧i64 p.result∧(∀t∈p.params,i64 t)∧∀i∈p.code,i64 i.1∧i64 i.2
theorem olim_of {o:Ob} (h:mOb o≤1048576):OLim o:=by
 have h':=h
 unfold mOb at h'
 have a1:=sum_len (m:=mV) o.consts fun x _=>by unfold mV;omega
 have a2:=sum_len (m:=mNd) o.needs fun x _=>by unfold mNd;omega
 have a3:=sum_len (m:=mPr) o.procs fun x _=>by unfold mPr;omega
 refine⟨by omega,by omega,by omega,by omega,fun q hq=>?_,fun q hq=>?_⟩
 ·have:q.path.size+q.name.size+q.params.length+1≤(o.needs.map mNd).sum:=sum_mem (m:=mNd) hq
  omega
 ·have:q.name.size+q.params.length+q.code.length+1≤(o.procs.map mPr).sum:=sum_mem (m:=mPr) hq
  omega
theorem llim_of {l:List Ob} (h:(l.map mOb).sum≤1048576):LLim l:=by
 have hm:∀o∈l,mOb o≤1048576:=fun o ho=>Nat.le_trans (sum_mem (m:=mOb) ho) h
 have a0:=sum_len (m:=mOb) l fun x _=>by unfold mOb;omega
 have b1:sumC l=(l.map fun o=>o.consts.length).sum:=rfl
 have a1:(l.map fun o=>o.consts.length).sum≤(l.map mOb).sum:=sum_le l fun o _=>by
  have a1:=sum_len (m:=mV) o.consts fun x _=>by unfold mV;omega
  unfold mOb;omega
 have a2:(l.map (·.needs.length)).sum≤(l.map mOb).sum:=sum_le l fun o _=>by
  have a2:=sum_len (m:=mNd) o.needs fun x _=>by unfold mNd;omega
  unfold mOb;omega
 have b3:sumP l=(l.map fun o=>o.procs.length).sum:=rfl
 have a3:(l.map fun o=>o.procs.length).sum≤(l.map mOb).sum:=sum_le l fun o _=>by
  have a3:=sum_len (m:=mPr) o.procs fun x _=>by unfold mPr;omega
  unfold mOb;omega
 refine⟨by omega,by omega,by omega,by omega,fun o ho=>olim_of (hm o ho),fun o ho p hp=>?_,fun o ho n hn=>?_⟩
 ·have h1:=hm o ho
  have h2:p.name.size+p.params.length+p.code.length+1≤(o.procs.map mPr).sum:=sum_mem (m:=mPr) hp
  unfold mOb at h1
  omega
 ·have h1:=hm o ho
  have h2:n.path.size+n.name.size+n.params.length+1≤(o.needs.map mNd).sum:=sum_mem (m:=mNd) hn
  unfold mOb at h1
  omega
section
attribute [local irreducible] Tryz.prog
variable {H:Type} (enc:TypeId×Value→H) (w:World)
theorem sum_ones {α:Type} (l:List α):(l.map fun _=>1).sum=l.length:=by
 induction l with
 | nil=>rfl
 | cons x r ih=>simp only[List.map_cons,List.sum_cons,List.length_cons,ih];omega
theorem OpensW.value:OpensW enc Tryz.prog w 52 Kd.val mV (fun v=>i64 v.t∧i64 v.i):=by
 intro fuel cs d ps hd hw
 obtain⟨hl,ds,hds,hb,hf⟩:=field_openW enc Tryz.prog w Tryz.underlying52 hd hw
 obtain⟨c0,c1,c2,c3,rfl⟩:=elist4 (hl.trans ecellsV)
 obtain⟨d0,d1,d2,d3,rfl⟩:=elist4 hds
 obtain⟨t,h0,_,b0⟩:=hf 0 _ rfl rfl rfl ecells_typ (OpensW.int enc Tryz.prog w Tryz.underlying44)
 obtain⟨i,h1,_,b1⟩:=hf 1 _ rfl rfl rfl ecells_i64 (OpensW.int enc Tryz.prog w Tryz.underlying2)
 obtain⟨b,h2,_⟩:=hf 2 _ rfl rfl rfl ecells_bool (OpensW.bool enc Tryz.prog w Tryz.underlying4)
 obtain⟨s,h3,m3,_⟩:=hf 3 _ rfl rfl rfl ecells_str (OpensW.str enc Tryz.prog w Tryz.underlying9)
 have m3:=m3 _ rfl
 have e0:[c0]=[Value.int .i64 t]:=h0
 have e1:[c1]=[Value.int .i64 i]:=h1
 have e2:[c2]=[Value.bool b]:=h2
 have e3:[c3]=[Value.string s]:=h3
 cases e0;cases e1;cases e2;cases e3
 simp only[Rows.uptoBulkAll]at hb
 exact⟨⟨t,i,b,s⟩,rfl,by unfold mV;dsimp only;omega,b0,b1⟩
theorem OpensW.instr:OpensW enc Tryz.prog w 50 Kd.ins (fun _=>1) (fun i=>i64 i.1∧i64 i.2):=by
 intro fuel cs d ps hd hw
 obtain⟨hl,ds,hds,hb,hf⟩:=field_openW enc Tryz.prog w Tryz.underlying50 hd hw
 obtain⟨c0,c1,rfl⟩:=elist2 (hl.trans ecellsI)
 obtain⟨c,h0,_,b0⟩:=hf 0 _ rfl rfl rfl ecells_cod (OpensW.int enc Tryz.prog w Tryz.underlying48)
 obtain⟨n,h1,_,b1⟩:=hf 1 _ rfl rfl rfl ecells_int (OpensW.int enc Tryz.prog w Tryz.underlying3)
 have e0:[c0]=[Value.int .i64 c]:=h0
 have e1:[c1]=[Value.int .i64 n]:=h1
 cases e0;cases e1
 exact⟨(c,n),rfl,bulk_one d,b0,b1⟩
theorem OpensW.types:OpensW enc Tryz.prog w 43 (Kd.slice (Kd.int .i64)) (fun xs=>(xs.map fun _=>1).sum+1) (fun xs=>∀t∈xs,i64 t):=
 OpensW.slice enc Tryz.prog w Tryz.underlying43 (k:=Kd.int .i64) ecells_typ (by decide) (OpensW.int enc Tryz.prog w Tryz.underlying44)
theorem OpensW.proc:OpensW enc Tryz.prog w 47 Kd.prc mPr (fun p=>i64 p.locals∧i64 p.result∧(∀t∈p.params,i64 t)∧∀i∈p.code,i64 i.1∧i64 i.2):=by
 intro fuel cs d ps hd hw
 obtain⟨hl,ds,hds,hb,hf⟩:=field_openW enc Tryz.prog w Tryz.underlying47 hd hw
 obtain⟨c0,c1,c2,c3,c4,c5,rfl⟩:=elist6 (hl.trans ecellsP)
 obtain⟨d0,d1,d2,d3,d4,d5,rfl⟩:=elist6 hds
 obtain⟨nm,h0,m0,_⟩:=hf 0 _ rfl rfl rfl ecells_str (OpensW.str enc Tryz.prog w Tryz.underlying9)
 obtain⟨ex,h1,_⟩:=hf 1 _ rfl rfl rfl ecells_bool (OpensW.bool enc Tryz.prog w Tryz.underlying4)
 obtain⟨pr,h2,m2,bp⟩:=hf 2 _ rfl rfl rfl ecells_lt (OpensW.types enc w)
 obtain⟨lo,h3,_,bl⟩:=hf 3 _ rfl rfl rfl ecells_int (OpensW.int enc Tryz.prog w Tryz.underlying3)
 obtain⟨re,h4,_,br⟩:=hf 4 _ rfl rfl rfl ecells_typ (OpensW.int enc Tryz.prog w Tryz.underlying44)
 obtain⟨co,h5,m5,bc⟩:=hf 5 _ rfl rfl rfl ecells_li (OpensW.slice enc Tryz.prog w Tryz.underlying45 (k:=Kd.ins) ecellsI (by decide) (OpensW.instr enc w))
 have m0:=m0 _ rfl
 have m2:=m2 _ rfl
 have m5:=m5 _ rfl
 rw[sum_ones]at m2 m5
 obtain⟨PA,pc,h2',_,hPA⟩:=h2
 obtain⟨CA,cc,h5',_,hCA⟩:=h5
 have e0:[c0]=[Value.string nm]:=h0
 have e1:[c1]=[Value.bool ex]:=h1
 have e2:[c2]=[Value.slice PA pr.length pc]:=h2'
 have e3:[c3]=[Value.int .i64 lo]:=h3
 have e4:[c4]=[Value.int .i64 re]:=h4
 have e5:[c5]=[Value.slice CA co.length cc]:=h5'
 cases e0;cases e1;cases e2;cases e3;cases e4;cases e5
 simp only[Rows.uptoBulkAll]at hb
 exact⟨⟨nm,ex,pr,lo,re,co⟩,⟨PA,pc,CA,cc,rfl,hPA,hCA⟩,by unfold mPr;dsimp only;omega,bl,br,bp,bc⟩
theorem OpensW.need:OpensW enc Tryz.prog w 56 Kd.ned mNd (fun n=>i64 n.result∧∀t∈n.params,i64 t):=by
 intro fuel cs d ps hd hw
 obtain⟨hl,ds,hds,hb,hf⟩:=field_openW enc Tryz.prog w Tryz.underlying56 hd hw
 obtain⟨c0,c1,c2,c3,rfl⟩:=elist4 (hl.trans ecellsN)
 obtain⟨d0,d1,d2,d3,rfl⟩:=elist4 hds
 obtain⟨pt,h0,m0,_⟩:=hf 0 _ rfl rfl rfl ecells_str (OpensW.str enc Tryz.prog w Tryz.underlying9)
 obtain⟨nm,h1,m1,_⟩:=hf 1 _ rfl rfl rfl ecells_str (OpensW.str enc Tryz.prog w Tryz.underlying9)
 obtain⟨pr,h2,m2,bp⟩:=hf 2 _ rfl rfl rfl ecells_lt (OpensW.types enc w)
 obtain⟨re,h3,_,br⟩:=hf 3 _ rfl rfl rfl ecells_typ (OpensW.int enc Tryz.prog w Tryz.underlying44)
 have m0:=m0 _ rfl
 have m1:=m1 _ rfl
 have m2:=m2 _ rfl
 rw[sum_ones]at m2
 obtain⟨PA,pc,h2',_,hPA⟩:=h2
 have e0:[c0]=[Value.string pt]:=h0
 have e1:[c1]=[Value.string nm]:=h1
 have e2:[c2]=[Value.slice PA pr.length pc]:=h2'
 have e3:[c3]=[Value.int .i64 re]:=h3
 cases e0;cases e1;cases e2;cases e3
 simp only[Rows.uptoBulkAll]at hb
 exact⟨⟨pt,nm,pr,re⟩,⟨PA,pc,rfl,hPA⟩,by unfold mNd;dsimp only;omega,br,bp⟩
theorem OpensW.object:OpensW enc Tryz.prog w 38 Kd.ob mOb OInt:=by
 intro fuel cs d ps hd hw
 obtain⟨hl,ds,hds,hb,hf⟩:=field_openW enc Tryz.prog w Tryz.underlying38 hd hw
 obtain⟨c0,c1,c2,c3,rfl⟩:=elist4 (hl.trans ecellsO)
 obtain⟨d0,d1,d2,d3,rfl⟩:=elist4 hds
 obtain⟨pt,h0,m0,_⟩:=hf 0 _ rfl rfl rfl ecells_str (OpensW.str enc Tryz.prog w Tryz.underlying9)
 obtain⟨co,h1,m1,bc⟩:=hf 1 _ rfl rfl rfl ecells_lv (OpensW.slice enc Tryz.prog w Tryz.underlying23 (k:=Kd.val) ecellsV (by decide) (OpensW.value enc w))
 obtain⟨ne,h2,m2,bn⟩:=hf 2 _ rfl rfl rfl ecells_ln (OpensW.slice enc Tryz.prog w Tryz.underlying31 (k:=Kd.ned) ecellsN (by decide) (OpensW.need enc w))
 obtain⟨pr,h3,m3,bp⟩:=hf 3 _ rfl rfl rfl ecells_lp (OpensW.slice enc Tryz.prog w Tryz.underlying24 (k:=Kd.prc) ecellsP (by decide) (OpensW.proc enc w))
 have m0:=m0 _ rfl
 have m1:=m1 _ rfl
 have m2:=m2 _ rfl
 have m3:=m3 _ rfl
 obtain⟨CA,cc,h1',_,hCA⟩:=h1
 obtain⟨NA,nc,h2',_,hNA⟩:=h2
 obtain⟨PA,pc,h3',_,hPA⟩:=h3
 have e0:[c0]=[Value.string pt]:=h0
 have e1:[c1]=[Value.slice CA co.length cc]:=h1'
 have e2:[c2]=[Value.slice NA ne.length nc]:=h2'
 have e3:[c3]=[Value.slice PA pr.length pc]:=h3'
 cases e0;cases e1;cases e2;cases e3
 simp only[Rows.uptoBulkAll]at hb
 exact⟨⟨pt,co,ne,pr⟩,⟨CA,cc,NA,nc,PA,pc,rfl,hCA,hNA,hPA⟩,by unfold mOb;dsimp only;omega,bc,bn,bp⟩
theorem open_objsU {v:Value} {d:DataW H} {ps:List MemPlace} {base:Nat} (hval:Value.okWide Tryz.prog w .any base 22 v) (hd:DataW.Trod enc Tryz.prog w 0 (fun _=>true) true 22 v d ps) (hw:Rows.uptoBulk d≤1048576):
  ∃(l:List Ob) (A:Option Addr) (c:Nat),v= .slice A l.length c∧l.length≤c∧Sl Kd.ob (Gw w) A l∧LLim l∧∀o∈l,OInt o:=by
 obtain⟨A,c,l,h1,h2,h3,h4,h5⟩:=open_sliceW enc Tryz.prog w Tryz.underlying22 (k:=Kd.ob) ecellsO (by decide) (OpensW.object enc w) hval hd hw
 exact⟨l,A,c,h1,h2,h3,llim_of h4,h5⟩
end
end
section
open Go.MapKept
def mPt (x:Pt):Nat:=x.path.size+x.name.size+1
structure GSum (cs:List V) (prs:List Pr) (pts:List Pt):Prop where
 cs:(cs.map mV).sum≤1048576
 pr:(prs.map mPr).sum≤1048576
 pt:(pts.map mPt).sum≤1048576
attribute [local irreducible] Tryz.prog bytesO bytesPg objAns progAns
end
def Byt (l:List Int):Prop:=∀c∈l,0≤c∧c<256
theorem Byt.nil:Byt []:=fun c h=>by cases h
theorem Byt.cons {a:Int} {l:List Int} (h0:0≤a) (h1:a<256) (h:Byt l):Byt (a::l):=fun c hc=>by
 rcases List.mem_cons.1 hc with rfl | hc
 ·exact⟨h0,h1⟩
 ·exact h c hc
theorem Byt.app {a b:List Int} (h:Byt a) (h':Byt b):Byt (a++b):=fun c hc=>by
 rcases List.mem_append.1 hc with hc | hc
 ·exact h c hc
 ·exact h' c hc
theorem Byt.flat {α:Type} {f:α→List Int} {l:List α} (h:∀a∈l,Byt (f a)):Byt (l.flatMap f):=fun c hc=>by
 obtain⟨a,ha,hc⟩:=List.mem_flatMap.1 hc
 exact h a ha c hc
theorem byt_uintL (n:Nat):Byt (uintL n):=by
 induction n using Nat.strongRecOn with
 | _ n ih=>
  by_cases h:n<128
  ·rw[uintL_lt h];exact Byt.cons (by omega) (by omega) Byt.nil
  ·rw[uintL_ge h];exact Byt.cons (by omega) (by omega) (ih _ (by omega))
theorem byt_uI (n:Int):Byt (uI n):=byt_uintL _
theorem byt_str (s:ByteArray):Byt (strI s):=fun c hc=>by
 obtain⟨b,_,rfl⟩:=List.mem_map.1 hc
 have:=b.toNat_lt
 exact⟨by omega,by omega⟩
theorem byt_txt (s:ByteArray):Byt (txtI s):=(byt_uintL _).app (byt_str s)
theorem byt_kind (t:Int):Byt (kindI t):=Byt.cons (by simp[IntKind.wrap,IntKind.signed,IntKind.bits];omega) (by simp[IntKind.wrap,IntKind.signed,IntKind.bits];omega) Byt.nil
theorem byt_bool (b:Bool):Byt [boolI b]:=by cases b<;>exact Byt.cons (by decide) (by decide) Byt.nil
theorem byt_val (v:V):Byt (valI v):=by
 unfold valI
 refine(byt_kind _).app ?_
 split
 ·exact byt_uintL _
 ·split
  ·exact byt_bool _
  ·split
   ·exact byt_txt _
   ·exact Byt.nil
theorem byt_vals (l:List V):Byt (valsI l):=(byt_uI _).app (Byt.flat fun v _=>byt_val v)
theorem byt_head (s:ByteArray) (ps:List Int) (r:Int):Byt (headI s ps r):=((((byt_txt s).app (byt_uI _)).app (Byt.flat fun t _=>byt_kind t))).app (byt_kind r)
theorem byt_code (l:List (Int×Int)):Byt (bytesR l).1:=by
 unfold bytesR
 split
 ·rename_i h
  unfold encP
  rw[List.take_length]
  refine(byt_uintL _).app (Byt.flat fun i hi=>?_)
  obtain⟨h1,_⟩:=may_rows (show mayR i.1 i.2=true from List.all_eq_true.1 h i hi)
  unfold encI
  refine Byt.cons (by omega) (by omega) ?_
  split
  ·exact byt_uintL _
  ·exact Byt.nil
 ·exact Byt.nil
theorem byt_proc (p:Pr):Byt (procI p):=(((byt_head _ _ _).app (byt_bool _)).app (byt_uI _)).app (byt_code _)
theorem byt_procs (l:List Pr):Byt (procsI l):=(byt_uI _).app (Byt.flat fun p _=>byt_proc p)
theorem byt_point (x:Pt):Byt (ptI x):=((byt_txt _).app (byt_txt _)).app (byt_uI _)
theorem byt_pg (cs:List V) (prs:List Pr) (pts:List Pt):Byt (pgI cs prs pts):=by
 unfold pgI
 refine((((Byt.app ?_ (byt_vals _)).app (byt_procs _)).app (byt_uI _)).app (Byt.flat fun n _=>byt_point n))
 exact Byt.cons (by decide) (by decide) (Byt.cons (by decide) (by decide) (Byt.cons (by decide) (by decide) Byt.nil))
theorem okG_lim {cs:List V} {prs:List Pr} {pts:List Pt} (h:okG ⟨cs,prs,pts⟩):cs.length≤65536∧prs.length≤4096∧pts.length≤1073741824∧(∀v∈cs,ok64 v.i)∧∀p∈prs,p.code.length≤16384:=by
 obtain⟨h2,h3,h4⟩:=h
 exact⟨h2.1,h3.1,h4.1,fun v hv=>(h2.2 v hv).2.1,fun p hp=>(h3.2 p hp).2.2.2.1⟩
theorem flat_len {α:Type} {f:α→List Int} (c:Nat):∀l:List α,(∀x∈l,(f x).length≤c)→(l.flatMap f).length≤c*l.length
 | [],_=>by simp
 | a::l,h=>by
  have h1:=h a List.mem_cons_self
  have h2:=flat_len c l fun x hx=>h x (List.mem_cons_of_mem _ hx)
  rw[List.flatMap_cons,List.length_append,List.length_cons,Nat.mul_add]
  omega
theorem txt_le {m:Int} {s:ByteArray} (h:okT m s) (hm:m≤4096):(txtI s).length≤m.toNat+10:=by
 have h1:(s.size:Int)≤m:=h
 have h2:=uintL_len10 (n:=s.size) (by omega)
 unfold txtI
 rw[List.length_append,strI_length]
 omega
theorem encN_len {α:Type} {f:α→List Int} (c:Nat) {l:List α} (hl:l.length<18446744073709551616) (h:∀x∈l,(f x).length≤c):(encN f l).length≤10+c*l.length:=by
 have h1:=flat_len c l h
 have h2:=uintL_len10 (n:=l.length) hl
 unfold encN
 rw[List.length_append]
 omega
theorem enV_len {v:V} (h:okVl v):(enV v).length≤5000:=by
 have h1:=txt_le h.2.2.1 (by decide)
 have h2:=uintL_len10 (n:=zzN v.i) (by have:=zz_rng h.2.1;omega)
 unfold enV encZ encT
 rw[List.length_cons]
 split
 ·omega
 ·split
  ·simp
  ·split
   ·have:((4096:Int).toNat)=4096:=rfl
    omega
   ·simp
theorem enI_len {i:Int×Int} (h:okIn i):(enI i).length≤11:=by
 have h2:=uintL_len10 (n:=i.2.toNat) (by have:=h.2.1;have:=h.2.2.1;omega)
 unfold enI
 rw[List.length_cons]
 split
 ·omega
 ·simp
theorem enP_len {p:Pr} (h:okPr p):(enP p).length≤200000:=by
 obtain⟨⟨a1,a2,a3⟩,b1,b2,b3,b4⟩:=h
 have h1:=txt_le a1 (by decide)
 have h2:=encN_len (f:=encB) 1 (l:=p.params) (by have:=a2.1;dsimp only at this;omega) fun x _=>by unfold encB;simp
 have h3:=encN_len (f:=enI) 11 (l:=p.code) (by omega) fun x hx=>enI_len (b4 x hx)
 have h4:=uintL_len10 (n:=p.locals.toNat) (by omega)
 have h5:=a2.1
 dsimp only at h1 h5
 have h6:((32:Int).toNat)=32:=rfl
 have h7:(encT p.exp).length=1:=rfl
 have h8:(encB p.result).length=1:=rfl
 unfold enP encH encU
 dsimp only
 simp only[List.length_append]
 omega
theorem enT_len {x:Pt} (h:okPt x):(enT x).length≤5000:=by
 obtain⟨a1,a2,a3,a4⟩:=h
 have h1:=txt_le a1 (by decide)
 have h2:=txt_le a2 (by decide)
 have h4:=uintL_len10 (n:=x.proc.toNat) (by omega)
 have h5:((4096:Int).toNat)=4096:=rfl
 have h6:((32:Int).toNat)=32:=rfl
 unfold enT encU
 simp only[List.length_append]
 omega
theorem encG_len {x:Pg3} (h:okG x) (hl:x.pts.length≤1000000000):(encG x).length≤10000000000000:=by
 obtain⟨⟨a1,a2⟩,⟨b1,b2⟩,⟨c1,c2⟩⟩:=h
 have h1:=encN_len (f:=enV) 5000 (l:=x.cs) (by omega) fun v hv=>enV_len (a2 v hv)
 have h2:=encN_len (f:=enP) 200000 (l:=x.prs) (by omega) fun v hv=>enP_len (b2 v hv)
 have h3:=encN_len (f:=enT) 5000 (l:=x.pts) (by omega) fun v hv=>enT_len (c2 v hv)
 unfold encG
 simp only[List.length_append]
 omega
theorem flat_ge {α:Type} {f:α→List Int} :∀l:List α,(∀x∈l,1≤(f x).length)→l.length≤(l.flatMap f).length
 | [],_=>by simp
 | a::l,h=>by
  have h1:=h a List.mem_cons_self
  have h2:=flat_ge l fun x hx=>h x (List.mem_cons_of_mem _ hx)
  rw[List.flatMap_cons,List.length_append,List.length_cons]
  omega
theorem encG_pts (x:Pg3):x.pts.length≤(encG x).length:=by
 have h1:=flat_ge (f:=enT) x.pts fun p _=>by
  have:=uintL_pos p.path.size
  unfold enT txtI
  simp only[List.length_append]
  omega
 unfold encG
 rw[List.length_append,List.length_append,show(encN enT x.pts).length=(uintL x.pts.length).length+(x.pts.flatMap enT).length from List.length_append]
 omega
theorem mag_ne {a b:List Int} :magI++a≠magP++b:=fun h=>by
 have:=congrArg (fun l:List Int=>l[1]?) h
 simp[magI,magP]at this
section
theorem lists_dec (a b:ByteArray):(a.toList==b.toList)=decide (a=b):=by
 by_cases h:a=b
 ·subst h;simp
 ·rw[lists_ne h,decide_eq_false h]
section
variable {L:List (Nat×Value)} {d:Option Tmp} {ty:TypeId} {pos:String} {af:Array Edge} {gu:Option (Nat×Bool)}
theorem Gp.neVal {x y:Operand} {t':TypeId} {v u:V} (hx:ev L x=some (.agg #[.int .i64 v.t, .int .i64 v.i, .bool v.b, .string v.s])) (hy:ev L y=some (.agg #[.int .i64 u.t, .int .i64 u.i, .bool u.b, .string u.s])):
  Gp Tryz.prog L ⟨d, .binOp .neq 52 x y t',ty,pos,af,gu⟩ (.bool (!decide (v=u))):=fun g st w=>by
 have h1:Tryz.prog.eqGuardType Tryz.prog.depth 52=false:=by kernel_rfl
 have h2:Tryz.prog.underlying 52=some (.struct (Tryz.prog.fieldsOf 52)):=by kernel_rfl
 have h3:Tryz.prog.stoodInHeld 52=false:=by kernel_rfl
 have key:(Op.eqFields 9999 #[.int .i64 v.t, .int .i64 v.i, .bool v.b, .string v.s] #[.int .i64 u.t, .int .i64 u.i, .bool u.b, .string u.s] (Tryz.prog.fieldsOf 52).toList).run Tryz.prog w= .ok (decide (v=u)) w:=by
  obtain⟨a,b,c,s⟩:=v
  obtain⟨a',b',c',s'⟩:=u
  have a0:=fun w=>(inferInstance:Agg Tryz.prog 44 false).h w
  have a1:=fun w=>(inferInstance:Agg Tryz.prog 2 false).h w
  have a2:=fun w=>(inferInstance:Agg Tryz.prog 4 false).h w
  have a3:=fun w=>(inferInstance:Agg Tryz.prog 9 false).h w
  have u0:Tryz.prog.underlying 44=some (.int .i64):=Und.h
  have u1:Tryz.prog.underlying 2=some (.int .i64):=Und.h
  have u2:Tryz.prog.underlying 4=some .bool:=Und.h
  have u3:Tryz.prog.underlying 9=some .string:=Und.h
  simp only[Program.fieldsOf,Tryz.underlying52]
  simp only[Op.eqFields,part,Sem.run_bind,a0,a1,a2,a3,Result.andThen_ok,Sem.run_ite]
  simp[run_equalIn_int _ _ _ _ _ _ _ u0,run_equalIn_int _ _ _ _ _ _ _ u1,run_equalIn_bool _ _ _ _ _ u2,run_equalIn_string _ _ _ _ _ u3,lists_dec]
  by_cases q0:a=a'<;>by_cases q1:b=b'<;>by_cases q2:c=c'<;>by_cases q3:s=s'<;>simp[q0,q1,q2,q3]
 simp only[execOp,Sem.run_bind,st.eval hx,st.eval hy,run_eqGuard_agg w .neq _ x y _ _ h1,Result.andThen_ok,run_neq_struct,run_equalIn_agg w 9999 _ _ _ h2 h3,key]
 rfl
theorem Gp.nePnt {x y:Operand} {t':TypeId} {v u:Pt} (hx:ev L x=some (.agg #[.string v.path, .string v.name, .int .i64 v.proc])) (hy:ev L y=some (.agg #[.string u.path, .string u.name, .int .i64 u.proc])):
  Gp Tryz.prog L ⟨d, .binOp .neq 54 x y t',ty,pos,af,gu⟩ (.bool (!decide ((v.path,v.name,v.proc)=(u.path,u.name,u.proc)))):=fun g st w=>by
 have h1:Tryz.prog.eqGuardType Tryz.prog.depth 54=false:=by kernel_rfl
 have h2:Tryz.prog.underlying 54=some (.struct (Tryz.prog.fieldsOf 54)):=by kernel_rfl
 have h3:Tryz.prog.stoodInHeld 54=false:=by kernel_rfl
 have key:(Op.eqFields 9999 #[.string v.path, .string v.name, .int .i64 v.proc] #[.string u.path, .string u.name, .int .i64 u.proc] (Tryz.prog.fieldsOf 54).toList).run Tryz.prog w= .ok (decide ((v.path,v.name,v.proc)=(u.path,u.name,u.proc))) w:=by
  obtain⟨a,b,c⟩:=v
  obtain⟨a',b',c'⟩:=u
  have a0:=fun w=>(inferInstance:Agg Tryz.prog 9 false).h w
  have a2:=fun w=>(inferInstance:Agg Tryz.prog 3 false).h w
  have u0:Tryz.prog.underlying 9=some .string:=Und.h
  have u2:Tryz.prog.underlying 3=some (.int .i64):=Und.h
  simp only[Program.fieldsOf,Tryz.underlying54]
  simp only[Op.eqFields,part,Sem.run_bind,a0,a2,Result.andThen_ok,Sem.run_ite]
  simp[run_equalIn_string _ _ _ _ _ u0,run_equalIn_int _ _ _ _ _ _ _ u2,lists_dec]
  by_cases q0:a=a'<;>by_cases q1:b=b'<;>by_cases q2:c=c'<;>simp[q0,q1,q2]
 simp only[execOp,Sem.run_bind,st.eval hx,st.eval hy,run_eqGuard_agg w .neq _ x y _ _ h1,Result.andThen_ok,run_neq_struct,run_equalIn_agg w 9999 _ _ _ h2 h3,key]
 rfl
end
def eqL {α:Type} (f:α→α→Bool) (a b:List α):Bool:=decide (a.length=b.length)&&(List.range a.length).all fun i=>match a[i]?,b[i]? with
 | some x,some y=>f x y
 | _,_=>true
theorem eqL_len {α:Type} {f:α→α→Bool} {a b:List α} (h:a.length≠b.length):eqL f a b=false:=by unfold eqL;rw[decide_eq_false h];rfl
theorem eqL_false {α:Type} {f:α→α→Bool} {a b:List α} {i:Nat} {x y:α} (hx:a[i]? =some x) (hy:b[i]? =some y) (h:f x y=false):eqL f a b=false:=by
 cases hr:eqL f a b with
 | false=>rfl
 | true=>
  unfold eqL at hr
  rw[Bool.and_eq_true]at hr
  have:=List.all_eq_true.1 hr.2 i (by simpa using(List.getElem?_eq_some_iff.1 hx).1)
  rw[hx,hy]at this
  dsimp only at this
  rw[h]at this
  cases this
theorem eqL_true {α:Type} {f:α→α→Bool} {a b:List α} (hl:a.length=b.length) (h:∀(i:Nat) x y,i<a.length→a[i]? =some x→b[i]? =some y→f x y=true):eqL f a b=true:=by
 unfold eqL
 rw[decide_eq_true hl,Bool.true_and]
 refine List.all_eq_true.2 fun i hi=>?_
 cases hx:a[i]? with
 | none=>rfl
 | some x=>cases hy:b[i]? with
  | none=>rfl
  | some y=>exact h i x y (List.getElem?_eq_some_iff.1 hx).1 hx hy
theorem eqL_refl {α:Type} {f:α→α→Bool} (hf:∀x,f x x=true) (a:List α):eqL f a a=true:=eqL_true rfl fun i x y _ hx hy=>by rw[hx]at hy;cases hy;exact hf x
theorem eqL_dec {α:Type} [DecidableEq α] {f:α→α→Bool} (hf:∀x y,f x y=decide (x=y)) (a b:List α):eqL f a b=decide (a=b):=by
 by_cases h:a=b
 ·subst h;rw[eqL_refl fun x=>by rw[hf];simp];simp
 ·rw[decide_eq_false h]
  cases hr:eqL f a b with
  | false=>rfl
  | true=>
   exfalso
   unfold eqL at hr
   rw[Bool.and_eq_true]at hr
   have hl:=of_decide_eq_true hr.1
   refine h (List.ext_getElem hl fun i h1 h2=>?_)
   have:=List.all_eq_true.1 hr.2 i (by simpa using h1)
   rw[List.getElem?_eq_getElem h1,List.getElem?_eq_getElem h2]at this
   dsimp only at this
   rw[hf]at this
   exact of_decide_eq_true this
def sameP (a b:Pr):Bool:=a.name==b.name&&(a.exp==b.exp&&(a.locals==b.locals&&(a.result==b.result&&(a.params==b.params&&decide (a.code=b.code)))))
def sameOb (a b:Ob):Bool:=a.path==b.path&&(decide (a.consts=b.consts)&&(eqL sameN a.needs b.needs&&eqL sameP a.procs b.procs))
theorem sameP_refl (a:Pr):sameP a a=true:=by unfold sameP;simp[bb_refl]
end
section
open Go.MapKept
attribute [local irreducible] Tryz.prog
theorem eq_step {α:Type} {f:α→α→Bool} {a b:List α} {i:Nat} {x y:α} (h:∀(j:Nat) x y,j<i→a[j]? =some x→b[j]? =some y→f x y=true) (hx:a[i]? =some x) (hy:b[i]? =some y) (hf:f x y=true):∀(j:Nat) x y,j<i+1→a[j]? =some x→b[j]? =some y→f x y=true:=fun j x' y' hj hx' hy'=>by
 rcases Nat.lt_or_ge j i with h1 | h1
 ·exact h j x' y' h1 hx' hy'
 ·obtain rfl:j=i:=by omega
  rw[hx]at hx';rw[hy]at hy';cases hx';cases hy';exact hf
def dV (x y:V):Bool:=decide (x=y)
def dI (x y:Int×Int):Bool:=decide (x=y)
def dT (x y:Int):Bool:=x==y
def dPt (x y:Pt):Bool:=decide ((x.path,x.name,x.proc)=(y.path,y.name,y.proc))
theorem rsameT_fn (G:Gh) (A B:Option Addr) (l m:List Int) (ca cb:Nat) (ha:Sl (Kd.int .i64) G A l) (hb:Sl (Kd.int .i64) G B m) (hl:l.length≤100000000000000):
  Fn Tryz.prog 102 #[.slice A l.length ca, .slice B m.length cb] G [] fun e G' H'=>e= .returned (.bool (eqL dT l m))∧G=G'∧H'=[]:=by
 refine Fn.enter Tryz.func102 rfl rfl fun w0=>?_
 by_cases hne:l.length=m.length
 rotate_left
 ·have e1:((l.length:Int) != (m.length:Int))=true:=by rw[bne_iff_ne];omega
  rw[eqL_len hne]
  refine gom ?_
  refine WC.rt ?_
  exact QF.p1 (.inl rfl) rfl (.tmp rfl) (⟨rfl,rfl,rfl⟩)
 have e1:((l.length:Int) != (m.length:Int))=false:=by rw[hne];simp
 refine gom ?_
 refine WC.loop (X:=Nat) (fun i=>[(5, .int .i64 i),(0, .slice A l.length ca),(1, .slice B m.length cb)]) (fun _=>G) (fun _=>[]) (fun i=>l.length - i) (fun i=>i≤l.length∧∀(j:Nat) x y,j<i→l[j]? =some x→m[j]? =some y→dT x y=true) 0 ⟨Nat.zero_le _,fun j x y h=>absurd h (Nat.not_lt_zero _)⟩ (by exact⟨rfl,rfl,rfl,trivial⟩) rfl (List.Sublist.refl _) fun i hx=>?_
 obtain⟨hi,hall⟩:=hx
 by_cases hlt:i<l.length
 rotate_left
 ·have e2:decide ((i:Int)<(l.length:Int))=false:=decide_eq_false (by omega)
  rw[eqL_true hne fun j x y hj=>hall j x y (by omega)]
  refine gom ?_
  refine WC.rt ?_
  exact QF.p1 (.inl rfl) rfl (.tmp rfl) (⟨rfl,rfl,rfl⟩)
 have e2:decide ((i:Int)<(l.length:Int))=true:=decide_eq_true (by omega)
 obtain⟨x,hx⟩:∃x,l[i]? =some x:=⟨_,List.getElem?_eq_getElem hlt⟩
 obtain⟨y,hy⟩:∃y,m[i]? =some y:=⟨_,List.getElem?_eq_getElem (by omega)⟩
 obtain⟨ab,ao,cs1,rfl,hk1,hca⟩:=ha i x hx
 obtain⟨bb,bo,cs2,rfl,hk2,hcb⟩:=hb i y hy
 obtain rfl:cs1=[.int .i64 x]:=hk1
 obtain rfl:cs2=[.int .i64 y]:=hk2
 have x0:(0:Int)≤i:=by omega
 have x2:(i:Int)<(l.length:Int):=by omega
 have x3:(i:Int)<(m.length:Int):=by omega
 have x4:=wrapS i (by omega)
 cases hf:dT x y with
 | true=>
  have e3:(x != y)=false:=by rw[bne,show(x==y)=true from hf];rfl
  refine gom ?_
  exact WK.again (i+1) (by omega) ⟨by omega,eq_step hall hx hy hf⟩ (by exact⟨rfl,rfl,rfl,trivial⟩) rfl (List.Sublist.refl _)
 | false=>
  have e3:(x != y)=true:=by rw[bne,show(x==y)=false from hf];rfl
  rw[eqL_false hx hy hf]
  refine gom ?_
  refine WC.rt ?_
  exact QF.p1 (.inl rfl) rfl (.tmp rfl) (⟨rfl,rfl,rfl⟩)
theorem rsameV_fn (G:Gh) (A B:Option Addr) (l m:List V) (ca cb:Nat) (ha:Sl Kd.val G A l) (hb:Sl Kd.val G B m) (hl:l.length≤100000000000000):
  Fn Tryz.prog 49 #[.slice A l.length ca, .slice B m.length cb] G [] fun e G' H'=>e= .returned (.bool (eqL dV l m))∧G=G'∧H'=[]:=by
 refine Fn.enter Tryz.func49 rfl rfl fun w0=>?_
 by_cases hne:l.length=m.length
 rotate_left
 ·have e1:((l.length:Int) != (m.length:Int))=true:=by rw[bne_iff_ne];omega
  rw[eqL_len hne]
  refine gom ?_
  refine WC.rt ?_
  exact QF.p1 (.inl rfl) rfl (.tmp rfl) (⟨rfl,rfl,rfl⟩)
 have e1:((l.length:Int) != (m.length:Int))=false:=by rw[hne];simp
 refine gom ?_
 refine WC.loop (X:=Nat) (fun i=>[(5, .int .i64 i),(0, .slice A l.length ca),(1, .slice B m.length cb)]) (fun _=>G) (fun _=>[]) (fun i=>l.length - i) (fun i=>i≤l.length∧∀(j:Nat) x y,j<i→l[j]? =some x→m[j]? =some y→dV x y=true) 0 ⟨Nat.zero_le _,fun j x y h=>absurd h (Nat.not_lt_zero _)⟩ (by exact⟨rfl,rfl,rfl,trivial⟩) rfl (List.Sublist.refl _) fun i hx=>?_
 obtain⟨hi,hall⟩:=hx
 by_cases hlt:i<l.length
 rotate_left
 ·have e2:decide ((i:Int)<(l.length:Int))=false:=decide_eq_false (by omega)
  rw[eqL_true hne fun j x y hj=>hall j x y (by omega)]
  refine gom ?_
  refine WC.rt ?_
  exact QF.p1 (.inl rfl) rfl (.tmp rfl) (⟨rfl,rfl,rfl⟩)
 have e2:decide ((i:Int)<(l.length:Int))=true:=decide_eq_true (by omega)
 obtain⟨x,hx⟩:∃x,l[i]? =some x:=⟨_,List.getElem?_eq_getElem hlt⟩
 obtain⟨y,hy⟩:∃y,m[i]? =some y:=⟨_,List.getElem?_eq_getElem (by omega)⟩
 obtain⟨ab,ao,cs1,rfl,hk1,hca⟩:=ha i x hx
 obtain⟨bb,bo,cs2,rfl,hk2,hcb⟩:=hb i y hy
 obtain rfl:cs1=[.int .i64 x.t, .int .i64 x.i, .bool x.b, .string x.s]:=hk1
 obtain rfl:cs2=[.int .i64 y.t, .int .i64 y.i, .bool y.b, .string y.s]:=hk2
 have x0:(0:Int)≤i:=by omega
 have x2:(i:Int)<(l.length:Int):=by omega
 have x3:(i:Int)<(m.length:Int):=by omega
 have x4:=wrapS i (by omega)
 cases hf:dV x y with
 | true=>
  have e3:(!decide (x=y))=false:=by rw[show decide (x=y)=true from hf];rfl
  refine gom ?_
  refine WQ.tp (Gp.neVal rfl rfl) kr kr rfl ?_
  rw[e3]
  refine gom ?_
  exact WK.again (i+1) (by omega) ⟨by omega,eq_step hall hx hy hf⟩ (by exact⟨rfl,rfl,rfl,trivial⟩) rfl (List.Sublist.refl _)
 | false=>
  have e3:(!decide (x=y))=true:=by rw[show decide (x=y)=false from hf];rfl
  rw[eqL_false hx hy hf]
  refine gom ?_
  refine WQ.tp (Gp.neVal rfl rfl) kr kr rfl ?_
  rw[e3]
  refine gom ?_
  refine WC.rt ?_
  exact QF.p1 (.inl rfl) rfl (.tmp rfl) (⟨rfl,rfl,rfl⟩)
theorem eqT_eq (l m:List Int):eqL dT l m=(l==m):=by rw[eqL_dec (fun x y=>by unfold dT;rw[Bool.eq_iff_iff];simp)];rw[Bool.eq_iff_iff];simp
theorem eqI_eq (l m:List (Int×Int)):eqL dI l m=decide (l=m):=eqL_dec (fun x y=>rfl) l m
theorem eqV_eq (l m:List V):eqL dV l m=decide (l=m):=eqL_dec (fun x y=>rfl) l m
end
section
open Go.MapKept
attribute [local irreducible] Tryz.prog sameN sameP eqL
set_option maxRecDepth 20000 in
set_option maxHeartbeats 2000000 in
theorem rsameP_fn (G:Gh) (A B:Option Addr) (l m:List Pr) (ca cb:Nat) (ha:Sl Kd.prc G A l) (hb:Sl Kd.prc G B m) (hl:l.length≤100000000000000) (hs:∀x∈l,x.params.length≤100000000000000∧x.code.length≤100000000000000):
  Fn Tryz.prog 50 #[.slice A l.length ca, .slice B m.length cb] G [] fun e G' H'=>e= .returned (.bool (eqL sameP l m))∧G=G'∧H'=[]:=by
 refine Fn.enter Tryz.func50 rfl rfl fun w0=>?_
 by_cases hne:l.length=m.length
 rotate_left
 ·have e1:((l.length:Int) != (m.length:Int))=true:=by rw[bne_iff_ne];omega
  rw[eqL_len hne]
  refine go ?_
  refine WC.rt ?_
  exact QF.p1 (.inl rfl) rfl (.tmp rfl) (⟨rfl,rfl,rfl⟩)
 have e1:((l.length:Int) != (m.length:Int))=false:=by rw[hne];simp
 refine go ?_
 refine WC.loop (X:=Nat) (fun i=>[(0, .slice A l.length ca),(1, .slice B m.length cb),(5, .int .i64 i)]) (fun _=>G) (fun _=>[]) (fun i=>l.length - i) (fun i=>i≤l.length∧∀(j:Nat) x y,j<i→l[j]? =some x→m[j]? =some y→sameP x y=true) 0 ⟨Nat.zero_le _,fun j x y h=>absurd h (Nat.not_lt_zero _)⟩ (by exact⟨rfl,rfl,rfl,trivial⟩) rfl (List.Sublist.refl _) fun i hx=>?_
 obtain⟨hi,hall⟩:=hx
 by_cases hlt:i<l.length
 rotate_left
 ·have e2:decide ((i:Int)<(l.length:Int))=false:=decide_eq_false (by omega)
  rw[eqL_true hne fun j x y hj=>hall j x y (by omega)]
  refine go ?_
  refine WC.rt ?_
  exact QF.p1 (.inl rfl) rfl (.tmp rfl) (⟨rfl,rfl,rfl⟩)
 have e2:decide ((i:Int)<(l.length:Int))=true:=decide_eq_true (by omega)
 obtain⟨x,hx⟩:∃x,l[i]? =some x:=⟨_,List.getElem?_eq_getElem hlt⟩
 obtain⟨y,hy⟩:∃y,m[i]? =some y:=⟨_,List.getElem?_eq_getElem (by omega)⟩
 obtain⟨ab,ao,cs1,rfl,hk1,hca⟩:=ha i x hx
 obtain⟨bb,bo,cs2,rfl,hk2,hcb⟩:=hb i y hy
 obtain⟨PA,pc,CA,cc,rfl,hP,hC⟩:=hk1
 obtain⟨QA,qc,DA,dc,rfl,hQ,hD⟩:=hk2
 obtain⟨hxp,hxc⟩:=hs x (List.mem_of_getElem? hx)
 have x0:(0:Int)≤i:=by omega
 have x2:(i:Int)<(l.length:Int):=by omega
 have x3:(i:Int)<(m.length:Int):=by omega
 have x4:=wrapS i (by omega)
 refine go ?_
 refine WC.joinG (X:=Nat×Nat) (fun t=>[(0, .slice (some ⟨ab,ao,none⟩) l.length ca),(1, .slice (some ⟨bb,bo,none⟩) m.length cb),(5, .int .i64 i),(6, .pointer (some ⟨t.1,0,none⟩)),(7, .pointer (some ⟨t.2,0,none⟩))]) (fun _=>G) (fun t=>[prB t.1 x PA pc CA cc,prB t.2 y QA qc DA dc]) (fun _=>True) ?_ fun t _=>?_
 ·refine WC.drawB mixed ?_
  refine zb.move 0 ?_
  refine zb.move 1 ?_
  refine zb.ix 2 ?_
  refine WB.vv 3 rfl (Gv.loadGN rfl hca rfl) ?_
  refine zb.move 4 ?_
  refine zb.move 5 ?_
  refine zb.ix 6 ?_
  refine WB.vv 7 rfl (Gv.loadGN rfl hcb rfl) ?_
  refine WB.two (i:=8) (j:=9) kr rfl rfl kr kr (OW.alloc rfl fun b6=>?_) (OW.alloc rfl fun b7=>?_)
  ·refine⟨fun w hw=>hw.pk pkA,?_⟩
   refine WB.oo 9 rfl (OW.alloc rfl fun b7=>?_)
   refine⟨fun w hw=>hw.pk pkA,?_⟩
   refine zb.st 10 ?_
   refine⟨fun w hw=>hw.pk pkA,?_⟩
   refine zb.st 11 ?_
   refine⟨fun w hw=>hw.pk pkA,?_⟩
   refine WB.done kr ?_
   refine WK.un ?_
   refine WK.pick [prB b6 x PA pc CA cc,prB b7 y QA qc DA dc] ?_
   exact WK.meet (b6,b7) trivial (by exact⟨rfl,rfl,rfl,rfl,rfl,trivial⟩) rfl (List.Sublist.refl _)
  ·refine⟨fun w hw=>hw.pk pkA,?_⟩
   refine WB.oo 8 rfl (OW.alloc rfl fun b6=>?_)
   refine⟨fun w hw=>hw.pk pkA,?_⟩
   refine zb.st 10 ?_
   refine⟨fun w hw=>hw.pk pkA,?_⟩
   refine zb.st 11 ?_
   refine⟨fun w hw=>hw.pk pkA,?_⟩
   refine WB.done kr ?_
   refine WK.un ?_
   refine WK.pick [prB b6 x PA pc CA cc,prB b7 y QA qc DA dc] ?_
   exact WK.meet (b6,b7) trivial (by exact⟨rfl,rfl,rfl,rfl,rfl,trivial⟩) rfl (List.Sublist.refl _)
 obtain⟨b6,b7⟩:=t
 dsimp only
 refine gom ?_
 cases h1:(x.name==y.name)with
 | false=>
  have hf:sameP x y=false:=by unfold sameP;rw[h1];rfl
  rw[eqL_false hx hy hf]
  refine gom ?_
  refine WC.rt ?_
  exact QF.p1 (.inl rfl) rfl (.tmp rfl) (⟨rfl,rfl,rfl⟩)
 | true=>
 refine gom ?_
 cases h2:(x.exp==y.exp)with
 | false=>
  have hf:sameP x y=false:=by unfold sameP;rw[h1,h2];rfl
  rw[eqL_false hx hy hf]
  refine gom ?_
  refine WC.rt ?_
  exact QF.p1 (.inl rfl) rfl (.tmp rfl) (⟨rfl,rfl,rfl⟩)
 | true=>
 cases h3:(x.locals==y.locals)with
 | false=>
  have nh3:(x.locals != y.locals)=true:=by rw[bne,h3];rfl
  have hf:sameP x y=false:=by unfold sameP;rw[h1,h2,h3];rfl
  rw[eqL_false hx hy hf]
  refine gom ?_
  refine WC.rt ?_
  exact QF.p1 (.inl rfl) rfl (.tmp rfl) (⟨rfl,rfl,rfl⟩)
 | true=>
 have nh3:(x.locals != y.locals)=false:=by rw[bne,h3];rfl
 cases h4:(x.result==y.result)with
 | false=>
  have nh4:(x.result != y.result)=true:=by rw[bne,h4];rfl
  have hf:sameP x y=false:=by unfold sameP;rw[h1,h2,h3,h4];rfl
  rw[eqL_false hx hy hf]
  refine gom ?_
  refine WC.rt ?_
  exact QF.p1 (.inl rfl) rfl (.tmp rfl) (⟨rfl,rfl,rfl⟩)
 | true=>
 have nh4:(x.result != y.result)=false:=by rw[bne,h4];rfl
 refine gom ?_
 refine WL.oo (OW.callK rfl (rsameT_fn G PA QA x.params y.params pc qc hP hQ hxp) rfl fun v' G' H' h hg=>?_)
 obtain⟨he,rfl,rfl⟩:=h
 cases he
 cases h5:eqL dT x.params y.params with
 | false=>
  have hf:sameP x y=false:=by unfold sameP;rw[h1,h2,h3,h4,←eqT_eq,h5];rfl
  rw[eqL_false hx hy hf]
  refine gom ?_
  refine WC.rt ?_
  exact QF.p1 (.inl rfl) rfl (.tmp rfl) (⟨rfl,rfl,rfl⟩)
 | true=>
 have hsx:sameP x y=eqL dI x.code y.code:=by unfold sameP;rw[h1,h2,h3,h4,←eqT_eq,h5,eqI_eq];rfl
 by_cases hce:x.code.length=y.code.length
 rotate_left
 ·have e6:((x.code.length:Int) != (y.code.length:Int))=true:=by rw[bne_iff_ne];omega
  have hf:sameP x y=false:=by rw[hsx,eqL_len hce]
  rw[eqL_false hx hy hf]
  refine gom ?_
  refine WC.rt ?_
  exact QF.p1 (.inl rfl) rfl (.tmp rfl) (⟨rfl,rfl,rfl⟩)
 have e6:((x.code.length:Int) != (y.code.length:Int))=false:=by rw[hce];simp
 refine gom ?_
 refine WC.loop (X:=Nat) (fun k=>[(0, .slice (some ⟨ab,ao,none⟩) l.length ca),(1, .slice (some ⟨bb,bo,none⟩) m.length cb),(5, .int .i64 i),(6, .pointer (some ⟨b6,0,none⟩)),(7, .pointer (some ⟨b7,0,none⟩)),(8, .int .i64 k)]) (fun _=>G) (fun _=>[prB b6 x PA pc CA cc,prB b7 y QA qc DA dc]) (fun k=>x.code.length - k) (fun k=>k≤x.code.length∧∀(j:Nat) u v,j<k→x.code[j]? =some u→y.code[j]? =some v→dI u v=true) 0 ⟨Nat.zero_le _,fun j x y h=>absurd h (Nat.not_lt_zero _)⟩ (by exact⟨rfl,rfl,rfl,rfl,rfl,rfl,trivial⟩) rfl (List.Sublist.refl _) fun k hk=>?_
 obtain⟨hk,hkal⟩:=hk
 by_cases hkl:k<x.code.length
 rotate_left
 ·have e7:decide ((k:Int)<(x.code.length:Int))=false:=decide_eq_false (by omega)
  have hf:sameP x y=true:=by rw[hsx];exact eqL_true hce fun j u v hj=>hkal j u v (by omega)
  refine gom ?_
  exact WK.again (i+1) (by omega) ⟨by omega,eq_step hall hx hy hf⟩ (by exact⟨rfl,rfl,rfl,trivial⟩) rfl (List.nil_sublist _)
 have e7:decide ((k:Int)<(x.code.length:Int))=true:=decide_eq_true (by omega)
 obtain⟨u,hu⟩:∃u,x.code[k]? =some u:=⟨_,List.getElem?_eq_getElem hkl⟩
 obtain⟨v,hv⟩:∃v,y.code[k]? =some v:=⟨_,List.getElem?_eq_getElem (by omega)⟩
 obtain⟨ub,uo,us,rfl,hku,huc⟩:=hC k u hu
 obtain⟨vb,vo,vs,rfl,hkv,hvc⟩:=hD k v hv
 obtain rfl:us=[.int .i64 u.1, .int .i64 u.2]:=hku
 obtain rfl:vs=[.int .i64 v.1, .int .i64 v.2]:=hkv
 have y0:(0:Int)≤k:=by omega
 have y2:(k:Int)<(x.code.length:Int):=by omega
 have y3:(k:Int)<(y.code.length:Int):=by omega
 have y4:=wrapS k (by omega)
 cases hf:dI u v with
 | true=>
  have e3:(!decide ((u.1,u.2)=(v.1,v.2)))=false:=by rw[show decide ((u.1,u.2)=(v.1,v.2))=true from hf];rfl
  refine gom ?_
  refine WQ.tp (Gp.neIns rfl rfl) kr kr rfl ?_
  rw[e3]
  refine gom ?_
  exact WK.again (k+1) (by omega) ⟨by omega,eq_step hkal hu hv hf⟩ (by exact⟨rfl,rfl,rfl,rfl,rfl,rfl,trivial⟩) rfl (List.Sublist.refl _)
 | false=>
  have e3:(!decide ((u.1,u.2)=(v.1,v.2)))=true:=by rw[show decide ((u.1,u.2)=(v.1,v.2))=false from hf];rfl
  have hf':sameP x y=false:=by rw[hsx];exact eqL_false hu hv hf
  rw[eqL_false hx hy hf']
  refine gom ?_
  refine WQ.tp (Gp.neIns rfl rfl) kr kr rfl ?_
  rw[e3]
  refine gom ?_
  refine WC.rt ?_
  exact QF.p1 (.inl rfl) rfl (.tmp rfl) (⟨rfl,rfl,rfl⟩)
end
section
open Go.MapKept
attribute [local irreducible] Tryz.prog sameN sameP eqL
structure SLim (o:Ob):Prop where
 cl:o.consts.length≤100000000000000
 nl:o.needs.length≤100000000000000
 pl:o.procs.length≤100000000000000
 nd:∀q∈o.needs,q.params.length≤100000000000000
 pr:∀q∈o.procs,q.params.length≤100000000000000∧q.code.length≤100000000000000
def sameG (c d:List V) (p q:List Pr) (t u:List Pt):Bool:=decide (c=d)&&(eqL sameP p q&&eqL dPt t u)
theorem dPt_refl (x:Pt):dPt x x=true:=by unfold dPt;simp
theorem sameG_refl (c:List V) (p:List Pr) (t:List Pt):sameG c c p p t t=true:=by unfold sameG;rw[eqL_refl sameP_refl,eqL_refl dPt_refl];simp
set_option maxHeartbeats 1000000 in
theorem rSamePg_fn (G:Gh) (c d:List V) (p q:List Pr) (t u:List Pt) (CA PA TA DA QA UA:Option Addr) (cc pc tc dc qc uc:Nat) (hC:Sl Kd.val G CA c) (hD:Sl Kd.val G DA d) (hP:Sl Kd.prc G PA p) (hQ:Sl Kd.prc G QA q) (hT:Sl Kd.pnt G TA t) (hU:Sl Kd.pnt G UA u) (hcl:c.length≤100000000000000) (hpl:p.length≤100000000000000) (htl:t.length≤100000000000000) (hpr:∀x∈p,x.params.length≤100000000000000∧x.code.length≤100000000000000):
  Fn Tryz.prog 17 #[.agg #[.slice CA c.length cc, .slice PA p.length pc, .slice TA t.length tc], .agg #[.slice DA d.length dc, .slice QA q.length qc, .slice UA u.length uc]] G [] fun e G' H'=>e= .returned (.bool (sameG c d p q t u))∧G=G'∧H'=[]:=by
 have heq:=eqV_eq c d
 refine Fn.enter Tryz.func17 rfl rfl fun w0=>?_
 refine WC.seq ?_
 refine WC.region ?_
 refine WL.oo (OW.box rfl rfl fun b2=>?_)
 refine WL.oo (OW.box rfl rfl fun b3=>?_)
 refine gom ?_
 refine WL.oo (OW.callK rfl (rsameV_fn G CA DA c d cc dc hC hD hcl) rfl fun v' G' H' h hg=>?_)
 obtain⟨he,rfl,rfl⟩:=h
 cases he
 cases h2:eqL dV c d with
 | false=>
  rw[show sameG c d p q t u=false by unfold sameG;rw[←heq,h2];rfl]
  refine gom ?_
  refine WC.rt ?_
  exact QF.p1 (.inl rfl) rfl (.tmp rfl) (⟨rfl,rfl,rfl⟩)
 | true=>
 refine gom ?_
 refine WL.oo (OW.callK rfl (rsameP_fn G PA QA p q pc qc hP hQ hpl hpr) rfl fun v' G' H' h hg=>?_)
 obtain⟨he,rfl,rfl⟩:=h
 cases he
 cases h3:eqL sameP p q with
 | false=>
  rw[show sameG c d p q t u=false by unfold sameG;rw[←heq,h2,h3];rfl]
  refine gom ?_
  refine WC.rt ?_
  exact QF.p1 (.inl rfl) rfl (.tmp rfl) (⟨rfl,rfl,rfl⟩)
 | true=>
 rw[show sameG c d p q t u=eqL dPt t u by unfold sameG;rw[←heq,h2,h3];rfl]
 by_cases hne:t.length=u.length
 rotate_left
 ·have e1:((t.length:Int) != (u.length:Int))=true:=by rw[bne_iff_ne];omega
  rw[eqL_len hne]
  refine gom ?_
  refine WC.rt ?_
  exact QF.p1 (.inl rfl) rfl (.tmp rfl) (⟨rfl,rfl,rfl⟩)
 have e1:((t.length:Int) != (u.length:Int))=false:=by rw[hne];simp
 refine gom ?_
 refine WC.loop (X:=Nat) (fun i=>[(2, .pointer (some ⟨b2,0,none⟩)),(3, .pointer (some ⟨b3,0,none⟩)),(5, .int .i64 i)]) (fun _=>G) (fun _=>[.blk b3 (.cells #[.slice DA d.length dc, .slice QA q.length qc, .slice UA u.length uc] 27 (0,0)), .blk b2 (.cells #[.slice CA c.length cc, .slice PA p.length pc, .slice TA t.length tc] 27 (0,0))]) (fun i=>t.length - i) (fun i=>i≤t.length∧∀(j:Nat) x y,j<i→t[j]? =some x→u[j]? =some y→dPt x y=true) 0 ⟨Nat.zero_le _,fun j x y h=>absurd h (Nat.not_lt_zero _)⟩ (by exact⟨rfl,rfl,rfl,trivial⟩) rfl (List.Sublist.refl _) fun i hx=>?_
 obtain⟨hi,hall⟩:=hx
 by_cases hlt:i<t.length
 rotate_left
 ·have e2:decide ((i:Int)<(t.length:Int))=false:=decide_eq_false (by omega)
  rw[eqL_true hne fun j x y hj=>hall j x y (by omega)]
  refine gom ?_
  refine WC.rt ?_
  exact QF.p1 (.inl rfl) rfl (.tmp rfl) (⟨rfl,rfl,rfl⟩)
 have e2:decide ((i:Int)<(t.length:Int))=true:=decide_eq_true (by omega)
 obtain⟨x,hx⟩:∃x,t[i]? =some x:=⟨_,List.getElem?_eq_getElem hlt⟩
 obtain⟨y,hy⟩:∃y,u[i]? =some y:=⟨_,List.getElem?_eq_getElem (by omega)⟩
 obtain⟨ab,ao,cs1,rfl,hk1,hca⟩:=hT i x hx
 obtain⟨bb,bo,cs2,rfl,hk2,hcb⟩:=hU i y hy
 obtain rfl:cs1=[.string x.path, .string x.name, .int .i64 x.proc]:=hk1
 obtain rfl:cs2=[.string y.path, .string y.name, .int .i64 y.proc]:=hk2
 have x0:(0:Int)≤i:=by omega
 have x2:(i:Int)<(t.length:Int):=by omega
 have x3:(i:Int)<(u.length:Int):=by omega
 have x4:=wrapS i (by omega)
 cases hf:dPt x y with
 | true=>
  have e3:(!decide ((x.path,x.name,x.proc)=(y.path,y.name,y.proc)))=false:=by rw[show decide ((x.path,x.name,x.proc)=(y.path,y.name,y.proc))=true from hf];rfl
  refine gom ?_
  refine WQ.tp (Gp.nePnt rfl rfl) kr kr rfl ?_
  rw[e3]
  refine gom ?_
  exact WK.again (i+1) (by omega) ⟨by omega,eq_step hall hx hy hf⟩ (by exact⟨rfl,rfl,rfl,trivial⟩) rfl (List.Sublist.refl _)
 | false=>
  have e3:(!decide ((x.path,x.name,x.proc)=(y.path,y.name,y.proc)))=true:=by rw[show decide ((x.path,x.name,x.proc)=(y.path,y.name,y.proc))=false from hf];rfl
  rw[eqL_false hx hy hf]
  refine gom ?_
  refine WQ.tp (Gp.nePnt rfl rfl) kr kr rfl ?_
  rw[e3]
  refine gom ?_
  refine WC.rt ?_
  exact QF.p1 (.inl rfl) rfl (.tmp rfl) (⟨rfl,rfl,rfl⟩)
end
section
open Go.MapKept
attribute [local irreducible] Tryz.prog bytesO objAns progAns encO encG objI bytesPg
theorem BVec.kv {G:Gh} {A:Option Addr} {l:List Int} {c:Nat} {x:Own} (h:BVec A l c x):KVec (Kd.int .u8) 5 G A c l x:=⟨u8s l,h,⟨by rw[u8s_length];rfl,fun i x hx=>by
 have h1:(u8s l)[i]? =some (.int .u8 x):=by rw[u8s,List.getElem?_map,hx];rfl
 have hl':i<(u8s l).length:=(List.getElem?_eq_some_iff.1 h1).1
 show((u8s l).drop (i*1)).take 1=[.int .u8 x]
 rw[Nat.mul_one,List.drop_eq_getElem_cons hl']
 rw[List.getElem?_eq_getElem hl']at h1
 rw[Option.some.inj h1];rfl⟩⟩
theorem lnone_fn (G:Gh):Fn Tryz.prog 33 #[] G [] fun e G' H'=>e= .returned (.agg #[.int .i64 0, .int .i64 0])∧G=G'∧H'=[]:=by
 refine Fn.enter Tryz.func33 rfl rfl fun w0=>?_
 refine WC.seq ?_
 refine WC.region ?_
 refine WL.oo (OW.alloc rfl fun b0=>?_)
 refine gom ?_
 refine WC.rt ?_
 exact QF.p1 (.inl rfl) rfl (.cell rfl inferInstance inferInstance atA rfl rfl) (⟨rfl,rfl,rfl⟩)
section
variable {L:List (Nat×Value)} {d:Option Tmp} {ty:TypeId} {pos:String} {af:Array Edge} {gu:Option (Nat×Bool)}
theorem Gp.neFaultR {x y:Operand} {t':TypeId} {a b c e:Int} {r:Bool} (hx:ev L x=some (.agg #[.int .i64 a, .int .i64 b])) (hy:ev L y=some (.agg #[.int .i64 c, .int .i64 e])) (h:(!decide ((a,b)=(c,e)))=r):
  Gp Tryz.prog L ⟨d, .binOp .neq 77 x y t',ty,pos,af,gu⟩ (.bool r):=h▸Gp.neFault hx hy
theorem Gp.eqFaultR {x y:Operand} {t':TypeId} {a b c e:Int} {r:Bool} (hx:ev L x=some (.agg #[.int .i64 a, .int .i64 b])) (hy:ev L y=some (.agg #[.int .i64 c, .int .i64 e])) (h:decide ((a,b)=(c,e))=r):
  Gp Tryz.prog L ⟨d, .binOp .eql 77 x y t',ty,pos,af,gu⟩ (.bool r):=h▸Gp.eqFault hx hy
end
end
section
open Go.RowKit Go.ChangeShapes Go.WideShapes Go.MapKept
theorem ecells_u8:Tryz.prog.cellsOf 5=1:=by kernel_rfl
section
attribute [local irreducible] Tryz.prog
variable {H:Type} (enc:TypeId×Value→H) (w:World)
end
end
section
open Go.RowKit Go.ChangeShapes Go.WideShapes Go.MapKept
theorem i64_in {z:Int} (h:i64 z): -9223372036854775808≤z∧z≤9223372036854775807:=by
 unfold i64 at h
 simp[Lit.wf,IntKind.min,IntKind.max,IntKind.signed,IntKind.bits]at h
 omega
section
attribute [local irreducible] Tryz.prog
variable {H:Type} (enc:TypeId×Value→H) (w:World)
end
end
section
open Go.MapKept
attribute [local irreducible] Tryz.prog bytesO objAns progAns encO encG objI bytesPg pgI csZ prZ ptZ linkE
theorem pgBytesK_fn (G:Gh) (hE:Env G) (cs:List V) (prs:List Pr) (pts:List Pt) (CA PA QA:Option Addr) (cc pc qc:Nat) (hC:Sl Kd.val G CA cs) (hP:Sl Kd.prc G PA prs) (hQ:Sl Kd.pnt G QA pts) (hL:GLim cs prs pts) (hi:∀v∈cs,ok64 v.i) (hcl:cs.length≤1000000000) (hpl:prs.length≤1000000000) (hql:pts.length≤1000000000)
  (hpc:∀p∈prs,p.code.length≤9000000000000) (hl:(pgI cs prs pts).length≤70000000000000):
  Fn Tryz.prog 29 #[.agg #[.slice CA cs.length cc, .slice PA prs.length pc, .slice QA pts.length qc]] G [] fun e G' H'=>∃A' cap',e= .returned (.tuple #[.slice A' (bytesPg cs prs pts).length cap', .int .i64 (progAns cs prs pts).2.2])∧G.le G'∧Sl (Kd.int .u8) G' A' (bytesPg cs prs pts)∧H'=[]:=by
 refine Fn.freezeK (k:=Kd.int .u8) (by decide) (pgBytes_fn G hE cs prs pts CA PA QA cc pc qc hC hP hQ hL hi hcl hpl hql hpc hl) fun e G' H' h=>?_
 obtain⟨A',cap',x',he,hg,hv,rfl⟩:=h
 exact⟨_,_,_,_,x',0,hv.kv, .here,fun G'' hg' hv'=>⟨A',cap',he,Gh.le_trans hg hg',hv',rfl⟩⟩
section
attribute [local semireducible] pgI bytesPg
theorem bytesPg_zero {cs:List V} {prs:List Pr} {pts:List Pt} (h:(progAns cs prs pts).2.2=0):bytesPg cs prs pts=pgI cs prs pts:=by rw[bytesPg,if_pos h]
theorem pgI_enc {cs:List V} {prs:List Pr} {pts:List Pt} (h:(progAns cs prs pts).2.2=0) (hi:∀v∈cs,ok64 v.i) (hl:pts.length≤1073741824):okG ⟨cs,prs,pts⟩∧pgI cs prs pts=magP++encG ⟨cs,prs,pts⟩:=pg_in h hi hl
end
theorem glim_ok {cs:List V} {prs:List Pr} {pts:List Pt} (h:okG ⟨cs,prs,pts⟩):GLim cs prs pts:=by
 obtain⟨⟨a1,a2⟩,⟨b1,b2⟩,⟨c1,c2⟩⟩:=h
 dsimp only at a1 b1 c1 a2 b2 c2
 refine⟨by omega,by omega,by omega,fun x hx=>?_,fun q hq=>?_⟩
 ·have:(x.path.size:Int)≤4096:=(c2 x hx).1
  omega
 ·obtain⟨⟨h1,h2,_⟩,_,_,h3⟩:=b2 q hq
  have h4:(q.name.size:Int)≤32:=h1
  have h5:=h2.1
  have h6:=h3.1
  dsimp only at h5
  omega
theorem linkedZ {l:List Ob} (hz:linkE l=0) (hL:LLim l) (hI:∀o∈l,OInt o):(progAns (csZ l) (prZ l) (ptZ l)).2.2=0∧okG ⟨csZ l,prZ l,ptZ l⟩∧(∀v∈csZ l,ok64 v.i)∧(ptZ l).length≤4096:=by
 have h1:=link_verified hz
 have h2:∀v∈csZ l,ok64 v.i:=fun v hv=>by
  rw[csZ,if_pos hz]at hv
  obtain⟨o,ho,hv⟩:=List.mem_flatMap.1 hv
  exact i64_in ((hI o ho).cs v hv).2
 have h3:(progAns (csZ l) (prZ l) (ptZ l)).2.2=0:=by rw[csZ,prZ,ptZ,if_pos hz,if_pos hz,if_pos hz,h1]
 have h4:(ptZ l).length≤4096:=by
  have h5:=(linkE_zero hz).2.2.2.1
  have h6:=(joinT_keys l 0).length_le
  rw[List.length_map,List.length_map,all_len]at h6
  rw[ptZ,if_pos hz]
  omega
 exact⟨h3,(pgI_enc h3 h2 (by omega)).1,h2,h4⟩
set_option maxRecDepth 20000 in
set_option maxHeartbeats 8000000 in
theorem lawWhole_fn (G:Gh) (hE:Env G) (A:Option Addr) (cap:Nat) (l:List Ob) (hl:Sl Kd.ob G A l) (hL:LLim l) (hI:∀o∈l,OInt o)
  (BA:Option Addr) (bs:List Int) (bc:Nat) (hB:Sl (Kd.int .u8) G BA bs) (hbs:∀c∈bs,0≤c∧c<256) (hbl:bs.length≤100000000):
  Fn Tryz.prog 11 #[.slice A l.length cap, .slice BA bs.length bc] G [] fun e G' H'=>e= .returned (.bool true)∧G.le G'∧H'=[]:=by
 refine Fn.enter Tryz.func11 rfl rfl fun w0=>?_
 refine gom ?_
 refine WL.oo (OW.callK rfl (linkZ_fn G hE A cap l hl hL) rfl fun v' G' H' h hg=>?_)
 obtain⟨CA,cc,PA,pc,QA,qc,he,hg1,hC,hP,hQ,rfl⟩:=h
 cases he
 obtain⟨G1,rfl⟩:∃G1,G1=G':=⟨_,rfl⟩
 refine gom ?_
 refine WL.oo (OW.alloc rfl fun b1=>?_)
 by_cases hz:linkE l=0
 rotate_left
 ·have e1:(linkE l==0)=false:=by rw[beq_eq_false_iff_ne];exact hz
  refine gom ?_
  refine WL.oo (OW.callK rfl (pgRead_fn G1 (hE.mono hg1) BA bs bc (hB.mono hg1) hbs (by omega)) rfl fun v' G' H' h hg=>?_)
  obtain⟨cs,prs,pts,C4,P4,T4,c4,p4,t4,w,he,hg4,hC4,hP4,hT4,hL4,hcase,rfl⟩:=h
  cases he
  obtain⟨G4,rfl⟩:∃G4,G4=G':=⟨_,rfl⟩
  have hg04:=Gh.le_trans hg1 hg4
  refine gom ?_
  refine WL.oo (OW.alloc rfl fun b13=>?_)
  refine WL.oo (OW.alloc rfl fun b14=>?_)
  refine go ?_
  refine WC.pick [.blk b13 (.cells #[.slice C4 cs.length c4, .slice P4 prs.length p4, .slice T4 pts.length t4] 27 (0,0)), .blk b14 (.cells #[.int .i64 w, .int .i64 0] 77 (0,0))] ?_
  refine WC.drawS (Hs:=[.blk b13 (.cells #[.slice C4 cs.length c4, .slice P4 prs.length p4, .slice T4 pts.length t4] 27 (0,0)), .blk b14 (.cells #[.int .i64 w, .int .i64 0] 77 (0,0))]) mixed pkA ?_
  refine zb.ld 0 ?_
  refine WB.oo 1 rfl (OW.callK rfl (lnone_fn G4) rfl fun v' G' H' h hg=>?_)
  obtain⟨he,rfl,rfl⟩:=h
  cases he
  refine⟨fun w hw=>hw.pk pkA,?_⟩
  rcases hcase with⟨rfl,hz4,hok4,hbs4,_⟩ | ⟨rfl,_⟩
  rotate_left
  ·
   refine WB.pp 2 rfl (Gp.eqFaultR rfl rfl rfl) ?_
   refine WB.done kr ?_
   refine WK.un ?_
   refine gom ?_
   refine WL.oo (OW.callK rfl (awakeL G4 (hE.mono hg04)) rfl fun v' G' H' h hg=>?_)
   obtain⟨he,hg9,rfl⟩:=h
   cases he
   refine gom ?_
   refine WC.rt ?_
   exact QF.p1 (.inl rfl) rfl (.tmp rfl) (⟨rfl,Gh.le_trans hg04 hg9,rfl⟩)
  obtain⟨a1,a2,a3,a4,a5⟩:=okG_lim hok4
  have hpe:=pgI_enc hz4 a4 a3
  have hbo:bytesPg cs prs pts=bs:=by rw[bytesPg_zero hz4,hpe.2,←hbs4]
  have hpt:pts.length≤1000000000:=by
   have h1:=encG_pts ⟨cs,prs,pts⟩
   have h2:=congrArg List.length hbs4
   rw[List.length_append]at h2
   dsimp only at h1
   omega
  have z1:((progAns cs prs pts).2.2 != 0)=false:=by rw[hz4];rfl
  have z2:(strOfNums (bytesPg cs prs pts)==strOfNums bs)=true:=by rw[hbo];exact bb_refl _
  refine WB.pp 2 rfl (Gp.eqFaultR rfl rfl rfl) ?_
  refine WB.done kr ?_
  refine WK.un ?_
  refine gom ?_
  refine WL.oo (OW.callK rfl (pgBytesK_fn G4 (hE.mono hg04) cs prs pts C4 P4 T4 c4 p4 t4 hC4 hP4 hT4 hL4 a4 (by omega) (by omega) hpt (fun p hp=>by have:=a5 p hp;omega) (by rw[hpe.2,←hbs4];omega)) rfl fun v' G' H' h hg=>?_)
  obtain⟨A5,c5,he,hg5,h5,rfl⟩:=h
  cases he
  obtain⟨G5,rfl⟩:∃G5,G5=G':=⟨_,rfl⟩
  have hg05:=Gh.le_trans hg04 hg5
  have hB5:=hB.mono hg05
  refine gom ?_
  refine WL.vv (Gv.convBytes (xs:=bytesPg cs prs pts) rfl h5.u8s h5.none_zero) ?_
  refine gom ?_
  refine WL.vv (Gv.convBytes (xs:=bs) rfl hB5.u8s hB5.none_zero) ?_
  refine gom ?_
  rw[z2]
  refine gom ?_
  refine WL.oo (OW.callK rfl (awakeL G5 (hE.mono hg05)) rfl fun v' G' H' h hg=>?_)
  obtain⟨he,hg9,rfl⟩:=h
  cases he
  refine gom ?_
  refine WC.rt ?_
  exact QF.p1 (.inl rfl) rfl (.tmp rfl) (⟨rfl,Gh.le_trans hg05 hg9,rfl⟩)
 obtain⟨hpa,hok,hi,hpt⟩:=linkedZ hz hL hI
 have e1:(linkE l==0)=true:=by rw[beq_iff_eq];exact hz
 generalize csZ l=cs at hC hpa hok hi⊢
 generalize prZ l=prs at hP hpa hok⊢
 generalize ptZ l=pts at hQ hpa hok hpt⊢
 obtain⟨a1,a2,a3,_,a5⟩:=okG_lim hok
 have hb0:bytesPg cs prs pts=pgI cs prs pts:=bytesPg_zero hpa
 have henc:=(pgI_enc hpa hi a3).2
 have hb:bytesPg cs prs pts=magP++encG ⟨cs,prs,pts⟩:=by rw[hb0,henc]
 have hby:∀c∈bytesPg cs prs pts,0≤c∧c<256:=by rw[hb0];exact byt_pg cs prs pts
 have hpl:(pgI cs prs pts).length≤70000000000000:=by
  have h1:=encG_len hok (by dsimp only;omega)
  rw[henc,List.length_append,show magP.length=3 from rfl]
  omega
 have hbl2:(bytesPg cs prs pts).length≤140737488351232:=by rw[hb0];omega
 have hGL:=glim_ok hok
 refine gom ?_
 refine WL.oo (OW.callK rfl (pgBytesK_fn G1 (hE.mono hg1) cs prs pts CA PA QA cc pc qc hC hP hQ hGL hi (by omega) (by omega) (by omega) (fun p hp=>by have:=a5 p hp;omega) hpl) rfl fun v' G' H' h hg=>?_)
 obtain⟨A1,c1,he,hg2,h1,rfl⟩:=h
 rw[hpa]at he
 cases he
 obtain⟨G2,rfl⟩:∃G2,G2=G':=⟨_,rfl⟩
 have hg02:=Gh.le_trans hg1 hg2
 refine gom ?_
 refine WL.oo (OW.callK rfl (pgRead_fn G2 (hE.mono hg02) A1 (bytesPg cs prs pts) c1 h1 hby hbl2) rfl fun v' G' H' h hg=>?_)
 obtain⟨cs2,prs2,pts2,C3,P3,T3,c3,p3,t3,w,he,hg3,hC3,hP3,hT3,_,hcase,rfl⟩:=h
 cases he
 obtain⟨rfl,hx⟩:w=0∧(⟨cs,prs,pts⟩:Pg3)=⟨cs2,prs2,pts2⟩:=by
  rcases hcase with⟨h0,_,_,_,hu⟩ | ⟨_,hn⟩
  ·exact⟨h0,hu ⟨cs,prs,pts⟩ hok hb⟩
  ·exact absurd hb (hn ⟨cs,prs,pts⟩ hok hpa)
 cases hx
 obtain⟨G3,rfl⟩:∃G3,G3=G':=⟨_,rfl⟩
 have hg03:=Gh.le_trans hg02 hg3
 refine gom ?_
 refine WL.oo (OW.alloc rfl fun b3=>?_)
 refine WL.oo (OW.alloc rfl fun b4=>?_)
 refine gom ?_
 refine WL.oo (OW.callK rfl (objRead_fn G3 (hE.mono hg03) A1 (bytesPg cs prs pts) c1 (h1.mono hg3) hby hbl2) rfl fun v' G' H' h hg=>?_)
 obtain⟨o2,DA,MA,QB,dc,mc,qb,w,he,hg4,_,_,hcase,rfl⟩:=h
 cases he
 obtain rfl:w=220:=by
  rcases hcase with⟨_,_,_,hx,_⟩ | ⟨h0,_⟩
  ·exact absurd (hx.symm.trans hb) mag_ne
  ·exact h0
 obtain⟨G5,rfl⟩:∃G5,G5=G':=⟨_,rfl⟩
 have hg05:=Gh.le_trans hg03 hg4
 have hg25:=Gh.le_trans hg2 (Gh.le_trans hg3 hg4)
 refine gom ?_
 refine WL.oo (OW.alloc rfl fun b5=>?_)
 refine WL.oo (OW.alloc rfl fun b6=>?_)
 refine go ?_
 refine WC.pick [.blk b1 (.cells #[.slice CA cs.length cc, .slice PA prs.length pc, .slice QA pts.length qc] 27 (0,0)), .blk b3 (.cells #[.slice C3 cs.length c3, .slice P3 prs.length p3, .slice T3 pts.length t3] 27 (0,0)), .blk b4 (.cells #[.int .i64 0, .int .i64 0] 77 (0,0)), .blk b6 (.cells #[.int .i64 220, .int .i64 0] 77 (0,0))] ?_
 refine WC.drawS (Hs:=[.blk b1 (.cells #[.slice CA cs.length cc, .slice PA prs.length pc, .slice QA pts.length qc] 27 (0,0)), .blk b3 (.cells #[.slice C3 cs.length c3, .slice P3 prs.length p3, .slice T3 pts.length t3] 27 (0,0)), .blk b4 (.cells #[.int .i64 0, .int .i64 0] 77 (0,0)), .blk b6 (.cells #[.int .i64 220, .int .i64 0] 77 (0,0))]) mixed pkA ?_
 refine zb.move 0 ?_
 refine WB.pp 1 rfl (Gp.neI' rfl rfl rfl) ?_
 refine zb.move 2 ?_
 refine zb.ld 3 ?_
 refine WB.oo 4 rfl (OW.callK rfl (lnone_fn G5) rfl fun v' G' H' h hg=>?_)
 obtain⟨he,rfl,rfl⟩:=h
 cases he
 refine⟨fun w hw=>hw.pk pkA,?_⟩
 refine WB.pp 5 rfl (Gp.neFaultR rfl rfl rfl) ?_
 refine zb.pick 6 ?_
 refine zb.move 7 ?_
 refine zb.ld 8 ?_
 refine zb.ld 9 ?_
 refine WB.oo 10 rfl (OW.callK rfl (rSamePg_fn G5 cs cs prs prs pts pts CA PA QA C3 P3 T3 cc pc qc c3 p3 t3 (hC.mono hg25) (hC3.mono hg4) (hP.mono hg25) (hP3.mono hg4) (hQ.mono hg25) (hT3.mono hg4) (by omega) (by omega) (by omega) (fun q hq=>⟨(hGL.pr q hq).1,(hGL.pr q hq).2.1⟩)) rfl fun v' G' H' h hg=>?_)
 obtain⟨he,rfl,rfl⟩:=h
 rw[sameG_refl]at he
 cases he
 refine⟨fun w hw=>hw.pk pkA,?_⟩
 refine zb.not 11 ?_
 refine zb.pick 12 ?_
 refine zb.move 13 ?_
 refine zb.ld 14 ?_
 refine WB.oo 15 rfl (OW.callK rfl (lnone_fn G5) rfl fun v' G' H' h hg=>?_)
 obtain⟨he,rfl,rfl⟩:=h
 cases he
 refine⟨fun w hw=>hw.pk pkA,?_⟩
 refine WB.pp 16 rfl (Gp.eqFaultR rfl rfl rfl) ?_
 refine zb.pick 17 ?_
 refine WB.done kr ?_
 refine WK.un ?_
 refine gom ?_
 refine WL.oo (OW.callK rfl (pgRead_fn G5 (hE.mono hg05) BA bs bc (hB.mono hg05) hbs (by omega)) rfl fun v' G' H' h hg=>?_)
 obtain⟨cs,prs,pts,C4,P4,T4,c4,p4,t4,w,he,hg4,hC4,hP4,hT4,hL4,hcase,rfl⟩:=h
 cases he
 obtain⟨G4,rfl⟩:∃G4,G4=G':=⟨_,rfl⟩
 have hg04:=Gh.le_trans hg05 hg4
 refine gom ?_
 refine WL.oo (OW.alloc rfl fun b8=>?_)
 refine WL.oo (OW.alloc rfl fun b9=>?_)
 refine go ?_
 refine WC.pick [.blk b8 (.cells #[.slice C4 cs.length c4, .slice P4 prs.length p4, .slice T4 pts.length t4] 27 (0,0)), .blk b9 (.cells #[.int .i64 w, .int .i64 0] 77 (0,0))] ?_
 refine WC.drawS (Hs:=[.blk b8 (.cells #[.slice C4 cs.length c4, .slice P4 prs.length p4, .slice T4 pts.length t4] 27 (0,0)), .blk b9 (.cells #[.int .i64 w, .int .i64 0] 77 (0,0))]) mixed pkA ?_
 refine zb.ld 0 ?_
 refine WB.oo 1 rfl (OW.callK rfl (lnone_fn G4) rfl fun v' G' H' h hg=>?_)
 obtain⟨he,rfl,rfl⟩:=h
 cases he
 refine⟨fun w hw=>hw.pk pkA,?_⟩
 rcases hcase with⟨rfl,hz4,hok4,hbs4,_⟩ | ⟨rfl,_⟩
 rotate_left
 ·
  refine WB.pp 2 rfl (Gp.eqFaultR rfl rfl rfl) ?_
  refine WB.done kr ?_
  refine WK.un ?_
  refine gom ?_
  refine WL.oo (OW.callK rfl (awakeL G4 (hE.mono hg04)) rfl fun v' G' H' h hg=>?_)
  obtain⟨he,hg9,rfl⟩:=h
  cases he
  refine gom ?_
  refine WC.rt ?_
  exact QF.p1 (.inl rfl) rfl (.tmp rfl) (⟨rfl,Gh.le_trans hg04 hg9,rfl⟩)
 obtain⟨a1,a2,a3,a4,a5⟩:=okG_lim hok4
 have hpe:=pgI_enc hz4 a4 a3
 have hbo:bytesPg cs prs pts=bs:=by rw[bytesPg_zero hz4,hpe.2,←hbs4]
 have hpt:pts.length≤1000000000:=by
  have h1:=encG_pts ⟨cs,prs,pts⟩
  have h2:=congrArg List.length hbs4
  rw[List.length_append]at h2
  dsimp only at h1
  omega
 have z1:((progAns cs prs pts).2.2 != 0)=false:=by rw[hz4];rfl
 have z2:(strOfNums (bytesPg cs prs pts)==strOfNums bs)=true:=by rw[hbo];exact bb_refl _
 refine WB.pp 2 rfl (Gp.eqFaultR rfl rfl rfl) ?_
 refine WB.done kr ?_
 refine WK.un ?_
 refine gom ?_
 refine WL.oo (OW.callK rfl (pgBytesK_fn G4 (hE.mono hg04) cs prs pts C4 P4 T4 c4 p4 t4 hC4 hP4 hT4 hL4 a4 (by omega) (by omega) hpt (fun p hp=>by have:=a5 p hp;omega) (by rw[hpe.2,←hbs4];omega)) rfl fun v' G' H' h hg=>?_)
 obtain⟨A5,c5,he,hg5,h5,rfl⟩:=h
 cases he
 obtain⟨G5,rfl⟩:∃G5,G5=G':=⟨_,rfl⟩
 have hg05:=Gh.le_trans hg04 hg5
 have hB5:=hB.mono hg05
 refine gom ?_
 refine WL.vv (Gv.convBytes (xs:=bytesPg cs prs pts) rfl h5.u8s h5.none_zero) ?_
 refine gom ?_
 refine WL.vv (Gv.convBytes (xs:=bs) rfl hB5.u8s hB5.none_zero) ?_
 refine gom ?_
 rw[z2]
 refine gom ?_
 refine WL.oo (OW.callK rfl (awakeL G5 (hE.mono hg05)) rfl fun v' G' H' h hg=>?_)
 obtain⟨he,hg9,rfl⟩:=h
 cases he
 refine gom ?_
 refine WC.rt ?_
 exact QF.p1 (.inl rfl) rfl (.tmp rfl) (⟨rfl,Gh.le_trans hg05 hg9,rfl⟩)
end
section
open Go.RowKit Go.ChangeShapes Go.WideShapes Go.MapKept
theorem wf_u8' {z:Int} (h:(Lit.int .u8 z).wf=true):0≤z∧z<256:=by
 simp[Lit.wf,IntKind.min,IntKind.max,IntKind.signed,IntKind.bits]at h
 omega
section
attribute [local irreducible] Tryz.prog
variable {H:Type} (enc:TypeId×Value→H) (w:World)
theorem open_bytesU {v:Value} {d:DataW H} {ps:List MemPlace} {base:Nat} (hval:Value.okWide Tryz.prog w .any base 71 v) (hd:DataW.Trod enc Tryz.prog w 0 (fun _=>true) true 71 v d ps) (hw:Rows.uptoBulk d≤1048576):
  ∃(x:List Int) (A:Option Addr) (c:Nat),v= .slice A x.length c∧Sl (Kd.int .u8) (Gw w) A x∧x.length≤c∧x.length≤1048576∧∀z∈x,0≤z∧z<256:=by
 obtain⟨A,c,x,h1,h2,h3,h4,h5⟩:=open_sliceU enc Tryz.prog w Tryz.underlying71 (k:=Kd.int .u8) ecells_u8 (by decide) (OpensU.int enc Tryz.prog w Tryz.underlying5) hval hd hw
 exact⟨x,A,c,h1,h3,h2,h4,fun z hz=>wf_u8' (h5 z hz)⟩
end
end
end Go.Proofs.YtcnlkfocbbkdhaaGreatDoor.Gb
