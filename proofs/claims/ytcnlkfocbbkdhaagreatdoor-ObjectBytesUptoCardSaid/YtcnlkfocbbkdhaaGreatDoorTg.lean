/- Layer 22: the writer: heads, procedures: walked. Layer 22: a constant's bytes; the writer's first text. Layer 22: object.Bytes: walked. Bytes onto bytes; the document's numbers, truths and texts in bytes: walked. The document's bytes of types, constants and procedures: walked. The document's bytes of constants and procedures: walked. The document's words, paths, heads, values: walked. A text's pieces between slashes: the law of their search; no program in sight. The document's paths, heads, values, rows of types, states: walked. The document's states: joined, compared; where an instruction goes on: walked. -/
import Derived.Test.YtcnlkfocbbkdhaaGreatDoorTf
import Derived.Laws.DeepStrings4
set_option linter.unusedVariables false
set_option linter.unusedSimpArgs false
set_option linter.unusedSectionVars false
namespace Go.Proofs.YtcnlkfocbbkdhaaGreatDoor.Gb
open Go Go.Proofs
section
open Go.MapKept
attribute [local irreducible] Tryz.prog bytesR
theorem kinds_len:∀ps:List Int,(ps.flatMap kindI).length=ps.length
 | []=>rfl
 | p::ps=>by rw[List.flatMap_cons,List.length_append,kinds_len ps];show 1+_=_;rw[List.length_cons];omega
theorem headI_len (s:ByteArray) (ps:List Int) (r:Int):(headI s ps r).length=(txtI s).length+(uI ps.length).length+ps.length+1:=by
 simp only[headI,List.length_append,kinds_len];rfl
set_option maxRecDepth 20000 in
set_option maxHeartbeats 2000000 in
theorem whead_fn (G:Gh) (wb:Nat) (A:Option Addr) (l:List Int) (cap:Nat) (x:Own) (hx:BVec A l cap x) (s:ByteArray) (VA:Option Addr) (vs:List Int) (vc:Nat) (r:Int) (hV:Sl (Kd.int .i64) G VA vs) (hl:l.length+(headI s vs r).length≤80000000000000):
  Fn Tryz.prog 62 #[.pointer (some ⟨wb,0,none⟩), .string s, .slice VA vs.length vc, .int .i64 r] G [wrB wb A l.length cap,x] (WrP wb l (headI s vs r) G):=by
 have hhl:=headI_len s vs r
 have htx:(txtI s).length=(uintL s.size).length+s.size:=by rw[txtI,List.length_append,strI_length]
 refine Fn.enter Tryz.func62 rfl rfl fun w0=>?_
 refine gom ?_
 refine WL.oo (OW.callK rfl (text_fn G wb A l cap x hx s (by omega)) rfl fun v' G' H' h hg=>?_)
 obtain⟨A0,c0,x0,he,hg0,h0,rfl⟩:=h
 cases he
 obtain⟨G1,rfl⟩:∃G1,G1=G':=⟨_,rfl⟩
 have hb0:(l++txtI s).length=l.length+(txtI s).length:=List.length_append
 refine gom ?_
 refine WL.oo (OW.callK rfl (uint_fn G1 wb A0 (l++txtI s) c0 x0 h0 (vs.length:Int) (by omega)) rfl fun v' G' H' h hg=>?_)
 obtain⟨A1,c1,x1,he,hg1,h1,rfl⟩:=h
 cases he
 refine gom ?_
 generalize hB:l++txtI s++uI vs.length=N at*
 have hbN:N.length=l.length+(txtI s).length+(uI vs.length).length:=by rw[←hB,List.length_append,List.length_append]
 have h00:N++(vs.take 0).flatMap kindI=N:=by simp
 refine WC.loop (X:=WrS) (fun s=>[(0, .pointer (some ⟨wb,0,none⟩)),(3, .int .i64 r),(17, .slice VA vs.length vc),(18, .int .i64 vs.length),(19, .int .i64 s.i)]) (fun s=>s.G) (fun s=>[wrB wb s.A s.n s.cap,s.x]) (fun s=>vs.length - s.i) (fun s=>s.i≤vs.length∧G.le s.G∧BVec s.A (N++(vs.take s.i).flatMap kindI) s.cap s.x∧s.n=(N++(vs.take s.i).flatMap kindI).length)
  ⟨0,A1,c1,x1,G',N.length⟩ ⟨Nat.zero_le _,Gh.le_trans hg0 hg1,by rw[h00];exact h1,by dsimp only;rw[h00]⟩ (by exact⟨rfl,rfl,rfl,rfl,rfl,trivial⟩) rfl (List.Sublist.refl _) (fun s hs=>?_)
 obtain⟨k,B,c,o,G2,n⟩:=s
 obtain⟨hk,hg2,hv,hn⟩:=hs
 dsimp only at hk hg2 hv hn
 have x2:=wrapS k (by omega)
 by_cases hlt:k<vs.length
 rotate_left
 ·have e2:decide ((k:Int)<(vs.length:Int))=false:=decide_eq_false (by omega)
  rw[List.take_of_length_le (by omega)]at hv hn
  have hbk:(N++vs.flatMap kindI).length=N.length+vs.length:=by rw[List.length_append,kinds_len]
  subst hn
  refine gom ?_
  refine WL.oo (OW.callK rfl (kind_fn G2 wb B _ c o hv r (by omega)) rfl fun v' G' H' h hg=>?_)
  obtain⟨A3,c3,x3,he,hg3,h3,rfl⟩:=h
  cases he
  have ht:N++vs.flatMap kindI++kindI r=l++headI s vs r:=by rw[headI,←hB];simp only[List.append_assoc]
  rw[ht]at h3⊢
  refine gom ?_
  refine WK.un ?_
  exact QF.p0 (.inr rfl) rfl  (⟨A3,c3,x3,rfl,Gh.le_trans hg2 hg3,h3,rfl⟩)
 have e2:decide ((k:Int)<(vs.length:Int))=true:=decide_eq_true (by omega)
 obtain⟨v,hvk⟩:∃v,vs[k]? =some v:=⟨_,List.getElem?_eq_getElem (by omega)⟩
 have hV2:=hV.mono hg2
 obtain⟨ib,io,ics,rfl,hik,hic⟩:=hV2 k v hvk
 obtain rfl:ics=[.int .i64 v]:=hik
 have x0:(0:Int)≤(k:Int):=by omega
 have x1':(k:Int)<(vs.length:Int):=by omega
 have hfs:=flat_snoc (f:=kindI) hvk
 have hfa:=flat_take (f:=kindI) (l:=vs) k
 have hkk:=kinds_len vs
 have hbk:(N++(vs.take k).flatMap kindI).length=N.length+((vs.take k).flatMap kindI).length:=List.length_append
 generalize hM:N++(vs.take k).flatMap kindI=M at*
 have hnext:N++(vs.take (k+1)).flatMap kindI=M++kindI v:=by rw[hfs,←List.append_assoc,hM]
 subst hn
 refine gom ?_
 refine WL.oo (OW.callK rfl (kind_fn G2 wb B M c o hv v (by omega)) rfl fun v' G' H' h hg=>?_)
 obtain⟨A3,c3,x3,he,hg3,h3,rfl⟩:=h
 cases he
 refine gom ?_
 refine WK.pick [wrB wb A3 (M++kindI v).length c3,x3] ?_
 exact WK.again ⟨k+1,A3,c3,x3,G',(M++kindI v).length⟩ (by dsimp only;omega) ⟨by dsimp only;omega,Gh.le_trans hg2 hg3,by dsimp only;rw[hnext];exact h3,by dsimp only;rw[hnext]⟩ (by exact⟨rfl,rfl,rfl,rfl,rfl,trivial⟩) rfl (List.Sublist.refl _)
set_option maxRecDepth 20000 in
set_option maxHeartbeats 2000000 in
theorem wprocs_fn (G:Gh) (wb:Nat) (A:Option Addr) (l:List Int) (cap:Nat) (x:Own) (hx:BVec A l cap x) (VA:Option Addr) (vs:List Pr) (vc:Nat) (hV:Sl Kd.prc G VA vs) (hvl:vs.length≤1000000000) (hcl:∀p∈vs,p.code.length≤9000000000000) (hl:l.length+(procsI vs).length≤80000000000000):
  Fn Tryz.prog 63 #[.pointer (some ⟨wb,0,none⟩), .slice VA vs.length vc] G [wrB wb A l.length cap,x] (WrP wb l (procsI vs) G):=by
 have hvl':(procsI vs).length=(uI vs.length).length+(vs.flatMap procI).length:=by rw[procsI,List.length_append]
 refine Fn.enter Tryz.func63 rfl rfl fun w0=>?_
 refine gom ?_
 refine WL.oo (OW.callK rfl (uint_fn G wb A l cap x hx (vs.length:Int) (by omega)) rfl fun v' G' H' h hg=>?_)
 obtain⟨A1,c1,x1,he,hg1,h1,rfl⟩:=h
 cases he
 refine gom ?_
 generalize hB:l++uI vs.length=N at*
 have hbN:N.length=l.length+(uI vs.length).length:=by rw[←hB,List.length_append]
 have h00:N++(vs.take 0).flatMap procI=N:=by simp
 refine WC.loop (X:=WrS) (fun s=>[(0, .pointer (some ⟨wb,0,none⟩)),(12, .slice VA vs.length vc),(13, .int .i64 vs.length),(14, .int .i64 s.i)]) (fun s=>s.G) (fun s=>[wrB wb s.A s.n s.cap,s.x]) (fun s=>vs.length - s.i) (fun s=>s.i≤vs.length∧G.le s.G∧BVec s.A (N++(vs.take s.i).flatMap procI) s.cap s.x∧s.n=(N++(vs.take s.i).flatMap procI).length)
  ⟨0,A1,c1,x1,G',N.length⟩ ⟨Nat.zero_le _,hg1,by rw[h00];exact h1,by dsimp only;rw[h00]⟩ (by exact⟨rfl,rfl,rfl,rfl,trivial⟩) rfl (List.Sublist.refl _) (fun s hs=>?_)
 obtain⟨k,B,c,o,G2,n⟩:=s
 obtain⟨hk,hg2,hv,hn⟩:=hs
 dsimp only at hk hg2 hv hn
 have x2:=wrapS k (by omega)
 by_cases hlt:k<vs.length
 rotate_left
 ·have e2:decide ((k:Int)<(vs.length:Int))=false:=decide_eq_false (by omega)
  have ht:N++vs.flatMap procI=l++procsI vs:=by rw[procsI,←hB,List.append_assoc]
  rw[List.take_of_length_le (by omega),ht]at hv hn
  subst hn
  refine gom ?_
  refine WK.un ?_
  exact QF.p0 (.inr rfl) rfl  (⟨B,c,o,rfl,hg2,hv,rfl⟩)
 have e2:decide ((k:Int)<(vs.length:Int))=true:=decide_eq_true (by omega)
 obtain⟨v,hvk⟩:∃v,vs[k]? =some v:=⟨_,List.getElem?_eq_getElem (by omega)⟩
 have hcv:=hcl v (List.mem_of_getElem? hvk)
 have hV2:=hV.mono hg2
 obtain⟨ib,io,ics,rfl,hik,hic⟩:=hV2 k v hvk
 obtain⟨QA,qc,CA,cc,rfl,hQ,hC⟩:=hik
 have x0:(0:Int)≤(k:Int):=by omega
 have x1':(k:Int)<(vs.length:Int):=by omega
 have hfs:=flat_snoc (f:=procI) hvk
 have hfa:=flat_at (f:=procI) hvk
 have hbk:(N++(vs.take k).flatMap procI).length=N.length+((vs.take k).flatMap procI).length:=List.length_append
 have hpi:(procI v).length=(headI v.name v.params v.result).length+1+(uI v.locals).length+(bytesR v.code).1.length:=by simp only[procI,List.length_append];rfl
 generalize hM:N++(vs.take k).flatMap procI=M at*
 have hnext:N++(vs.take (k+1)).flatMap procI=M++procI v:=by rw[hfs,←List.append_assoc,hM]
 subst hn
 refine gom ?_
 refine WL.oo (OW.alloc rfl fun b5=>?_)
 refine gom ?_
 refine WL.oo (OW.callK rfl (whead_fn G2 wb B M c o hv v.name QA v.params qc v.result hQ (by omega)) rfl fun v' G' H' h hg=>?_)
 obtain⟨A3,c3,x3,he,hg3,h3,rfl⟩:=h
 cases he
 obtain⟨G3,rfl⟩:∃G3,G3=G':=⟨_,rfl⟩
 have hb3:(M++headI v.name v.params v.result).length=M.length+(headI v.name v.params v.result).length:=List.length_append
 refine gom ?_
 refine WQ.one kr kr (OW.callK rfl (putBool_fn G3 A3 _ c3 x3 h3 v.exp (by omega)) rfl fun v' G' H' h hg=>?_)
 obtain⟨A4,c4,x4,he,rfl,h4,rfl⟩:=h
 cases he
 have hb4:(M++headI v.name v.params v.result++[boolI v.exp]).length=M.length+(headI v.name v.params v.result).length+1:=by rw[List.length_append,hb3];rfl
 refine gom ?_
 refine WQ.one kr kr (OW.store rfl rfl atA rfl (by rfl) (by rfl) kr (by rfl) ?_ rfl)
 refine gom ?_
 refine WL.oo (OW.callK rfl (uint_fn G3 wb A4 _ c4 x4 h4 v.locals (by omega)) rfl fun v' G' H' h hg=>?_)
 obtain⟨A5,c5,x5,he,hg5,h5,rfl⟩:=h
 cases he
 have hC5:=hC.mono (Gh.le_trans hg3 hg5)
 have hb5:(M++headI v.name v.params v.result++[boolI v.exp]++uI v.locals).length=M.length+(headI v.name v.params v.result).length+1+(uI v.locals).length:=by rw[List.length_append,hb4]
 refine gom ?_
 refine WL.oo (OW.callK rfl (Bytes_fn _ CA v.code cc hC5 hcv) rfl fun v' G' H' h hg=>?_)
 obtain⟨A6,c6,x6,he,rfl,h6,rfl⟩:=h
 cases he
 refine gom ?_
 refine WL.oo (OW.append rfl rfl kr kr h5 atA (h6.rds atA) (u8s_length _) (u8s_one _) (by omega) (by omega) rfl fun A7 c7 x7 hv7=>?_)
 have h7:=BVec.more hv7
 have hen:M++headI v.name v.params v.result++[boolI v.exp]++uI v.locals++(bytesR v.code).1=M++procI v:=by simp only[procI,List.append_assoc]
 have hl7:(M++headI v.name v.params v.result++[boolI v.exp]++uI v.locals).length+(bytesR v.code).1.length=(M++procI v).length:=by rw[←hen,List.length_append (bs:=(bytesR v.code).1)]
 rw[hen]at h7
 rw[hl7]
 refine gom ?_
 refine WK.pick [wrB wb A7 (M++procI v).length c7,x7] ?_
 exact WK.again ⟨k+1,A7,c7,x7,_,(M++procI v).length⟩ (by dsimp only;omega) ⟨by dsimp only;omega,Gh.le_trans hg2 (Gh.le_trans hg3 hg5),by dsimp only;rw[hnext];exact h7,by dsimp only;rw[hnext]⟩ (by exact⟨rfl,rfl,rfl,rfl,trivial⟩) rfl (List.Sublist.refl _)
end
section
open Go.MapKept
section
variable {P:Program} {Q:Exit→Act→World→Prop} {cx:Cx} {L:List (Nat×Value)} {G:Gh} {H:List Own} {K:List (Nat×Value)→Gh→List Own→Prop}
 {d:Option Tmp} {ty:TypeId} {pos:String} {af:Array Edge} {gu:Option (Nat×Bool)}
theorem OW.buildSliceN {t e n by_ len:Nat} {z:Value} {ps:Array (Nat×Operand)} {vs:List (Nat×Value)} {cells:List Value} (hp:evP L ps=some vs) [hu:Und P t (.slice e)] [hi:Inf P e n by_ z] (hlim:leLim (len*n)=true) (hz:z.cells.size=n)
  (hf:fillS (fun i=>some (i*n,n)) (repS len z.cells.toList) vs=some cells) (hd:dOk d cx.N=true)
  (k:∀b,cx.w0.heap.size≤b→K (putL d (.slice (some ⟨b,0,none⟩) len len) L) G (.blk b (.cells cells.toArray e (0,0))::H)):OW P Q ⟨d, .buildSlice t len ps,ty,pos,af,gu⟩ cx L G H K:=by
 refine OW.gives hd fun a w st=>⟨.slice (some ⟨w.heap.size,0,none⟩) len len,w.alloc (.cells cells.toArray e),G, .blk w.heap.size (.cells cells.toArray e (0,0))::H, .inl ?_,st.sat.alloc _,Stp.alloc _,k _ st.stp.size⟩
 have hl:=Nat.le_of_ble_eq_true hlim
 have he:=Sk.evP st.slot hp
 have hl':¬(16777216<len*n):=by omega
 have hf1:=fill_of_fillS _ _ _ _ hf
 rw[←base_repS z.cells n len hz]at hf1
 have hrun:∀PS:Array (Nat×Value),PS.toList=vs→(Instr.buildSlice t len PS).run P w= .ok (.slice (some ⟨w.heap.size,0,none⟩) len len) (w.alloc (.cells cells.toArray e)):=by
  intro PS he
  by_cases h0:len*n=0
  ·rw[h0]at hf1
   simp only[Array.range_zero',List.map_toArray,List.map_nil]at hf1
   simp[Instr.buildSlice,run_underlying hu.h,hi.sizeOf,h0,he,newRow,Array.range_zero',hf1]
  ·simp[Instr.buildSlice,run_underlying hu.h,hi.sizeOf,hi.zeroValue,h0,hl',he,hf1,newRow]
 simp only[execOp,Sem.run_bind,hrun _ he,Result.andThen_ok]
 rfl
theorem OW.convMark {t e b n cap j:Nat} {x:Operand} {c:Array Value} (hx:ev L x=some (.slice (some ⟨b,0,none⟩) n cap)) [hu:Und P t (.slice e)] [he:Und P e (.int .u8)] (hj:At H j (.blk b (.cells c e (0,0)))) (hb:cx.w0.heap.size≤b) (hd:dOk d cx.N=true)
  (k:G.le (G.add b c)→K (putL d (.slice (some ⟨b,0,none⟩) n cap) L) (G.add b c) (H.eraseIdx j)):OW P Q ⟨d, .convert t t x,ty,pos,af,gu⟩ cx L G H K:=by
 intro next hn a w st
 have hh:w.heap[b]? =some (.cells c e (0,0)):=st.sat.hold _ (List.mem_of_getElem? hj.get)
 have hbl:b<w.heap.size:=(Array.getElem?_eq_some_iff.1 hh).1
 have hsh:w.shape? b=some (e,c.size):=by unfold World.shape?;rw[hh]
 have hrun:(execOp a.eval ⟨d, .convert t t x,ty,pos,af,gu⟩).run P w= .ok (.value (.slice (some ⟨b,0,none⟩) n cap)) (w.freeze ⟨b,c.size,none⟩ 1):=by
  simp[execOp,st.eval hx,convert,run_underlying hu.h,run_underlying he.h,markStringish,hsh]
 have hheap:∀b',b'≠b→(w.freeze ⟨b,c.size,none⟩ 1).heap[b']? =w.heap[b']? :=fun b' hne=>by
  unfold World.freeze
  rw[if_neg (by decide)]
  show(w.heap.modify b _)[b']? =_
  rw[Array.getElem?_modify,if_neg (fun e=>hne e.symm)]
 have hat:∃fr,(w.freeze ⟨b,c.size,none⟩ 1).heap[b]? =some (.cells c e fr):=by
  unfold World.freeze
  rw[if_neg (by decide)]
  refine⟨(c.size,c.size+1),?_⟩
  show(w.heap.modify b _)[b]? =_
  rw[Array.getElem?_modify,if_pos rfl,hh]
  rfl
 have hcell:∀b' o,(w.freeze ⟨b,c.size,none⟩ 1).cell? ⟨b',o,none⟩=w.cell? ⟨b',o,none⟩:=fun b' o=>by
  by_cases hbb:b'=b
  ·subst hbb
   obtain⟨fr,h⟩:=hat
   simp only[World.cell?,h,hh]
  ·simp only[World.cell?,hheap b' hbb]
 have hsz:(w.freeze ⟨b,c.size,none⟩ 1).heap.size=w.heap.size:=by
  unfold World.freeze
  rw[if_neg (by decide)]
  exact Array.size_modify
 have hfz:=st.sat.frozen hj
 have hap:=List.pairwise_cons.1 (st.sat.perm (perm_at hj)).apart
 have hsat:Sat (G.add b c) (H.eraseIdx j) (w.freeze ⟨b,c.size,none⟩ 1):=by
  refine⟨fun b' o v e=>by rw[hcell];exact hfz.2.agr b' o v e,fun y hy=>?_,hfz.2.apart,hfz.2.ghost⟩
  have hy0:=hfz.2.hold y hy
  have hne:=hap.1 y hy
  cases y with
  | blk b2 o2=>
   have:b2≠b:=fun e=>hne b 0 rfl e.symm
   show _=_
   rw[hheap b2 this];exact hy0
  | spare b2 lo hi=>
   intro hlt
   obtain⟨c2,T2,h1,h2⟩:=hy0 hlt
   have:b2≠b:=fun e=>hne b lo rfl ⟨e.symm,Nat.le_refl _,hlt⟩
   exact⟨c2,T2,by rw[hheap b2 this];exact h1,h2⟩
 have hstp:Stp cx.S cx.G0 cx.w0 (G.add b c) (H.eraseIdx j) (w.freeze ⟨b,c.size,none⟩ 1):=by
  refine⟨by rw[hsz];exact st.stp.size,fun b' hb'=>?_,Gh.le_trans st.stp.gle hfz.1,fun b' o v e=>?_,fun y hy=>st.stp.own y (List.mem_of_mem_eraseIdx hy),?_⟩
  ·have h:=st.stp.keep b' hb'
   have hne:b'≠b:=by omega
   unfold KeepB at h⊢
   rw[hheap b' hne];exact h
  ·unfold Gh.add at e
   split at e
   ·rename_i hbb;subst hbb;exact .inr (.inr hb)
   ·exact st.stp.gnew b' o v e
  ·have h:=st.stp.weq
   unfold World.freeze
   rw[if_neg (by decide)]
   exact h
 unfold Oper.wp
 rw[hrun]
 exact hn _ _ _ (k hfz.1) _ _ (st.put d _ hd hsat hstp)
end
attribute [local irreducible] Tryz.prog
theorem freshF_fn (G:Gh) (A:Option Addr) (l:List Int) (cap:Nat) (hA:Sl (Kd.int .u8) G A l) (hl:l.length≤100000000000000) (k:Nat) (hk:k≤1000):
  Fn Tryz.prog 151 #[.slice A l.length cap, .int .i64 k] G [] fun e G' H'=>∃A' cap' x',e= .returned (.slice A' l.length cap')∧G=G'∧BVec A' l cap' x'∧H'=[x']:=by
 refine Fn.enter Tryz.func151 rfl rfl fun w0=>?_
 have x2:IntKind.i64.wrap ((l.length:Int)+k)=((l.length+k:Nat):Int):=by rw[wrapI (by omega) (by omega)];rfl
 have hrd:∀H:List Own,Rds G H A (u8s l):=fun H=>by
  obtain⟨cs,h1,h2⟩:=hA.kfl (H:=H) (by decide)
  have:cs=u8s l:=by
   apply List.ext_getElem?
   intro i
   cases hi:l[i]? with
   | none=>
    have:cs.length≤i:=by have:=h2.len;rw[List.getElem?_eq_none_iff]at hi;simp only[Kd.int]at this;omega
    rw[List.getElem?_eq_none this,u8s,List.getElem?_map,hi];rfl
   | some z=>
    have h3:=h2.at_ i z hi
    have h4:(cs.drop (i*1)).take 1=[.int .u8 z]:=h3
    rw[u8s,List.getElem?_map,hi]
    have h5:((cs.drop (i*1)).take 1)[0]? =some (.int .u8 z):=by rw[h4];rfl
    rw[List.getElem?_take,if_pos (by decide),List.getElem?_drop,Nat.mul_one,Nat.add_zero]at h5
    exact h5
  rw[←this];exact h1
 refine gom ?_
 refine WL.oo (OW.makeSlice2 (n:=1) (z:= .int .u8 0) (m:=(l.length:Int)) (c:=((l.length+k:Nat):Int)) rfl rfl rfl (by omega) (by omega) (by omega) (by omega) rfl fun tb o1 ho1=>?_)
 rw[Int.toNat_natCast,Int.toNat_natCast]at ho1⊢
 refine gom ?_
 refine WL.oo (OW.copy rfl rfl kr ho1 .here (hrd _) (u8s_length l) (u8s_one l) (Nat.le_refl _) rfl fun o2 ho2=>?_)
 have h2:BVec (some ⟨tb,0,none⟩) l (l.length+k) o2:=by
  unfold BVec
  rw[List.drop_eq_nil_of_le (by rw[repS_length];exact Nat.le_refl _),List.append_nil]at ho2
  exact ho2
 refine gom ?_
 refine WC.rt ?_
 exact QF.p1 (.inl rfl) rfl (.tmp rfl) (⟨_,_,o2,rfl,rfl,h2,rfl⟩)
theorem putTextF_fn (G:Gh) (A:Option Addr) (l:List Int) (cap:Nat) (hA:Sl (Kd.int .u8) G A l) (SA:Option Addr) (ss:List ByteArray) (sc:Nat) (hS:Sl Kd.str G SA ss) (hsl:ss.length≤1000) (hl:l.length+(strsI ss).length≤100000000000000):
  Fn Tryz.prog 104 #[.slice A l.length cap, .slice SA ss.length sc] G [] fun e G' H'=>∃A' cap' x',e= .returned (.slice A' (l++strsI ss).length cap')∧G=G'∧BVec A' (l++strsI ss) cap' x'∧H'=[x']:=by
 refine Fn.enter Tryz.func104 rfl rfl fun w0=>?_
 refine gom ?_
 refine WL.oo (OW.callK rfl (freshF_fn G A l cap hA (by omega) 16 (by decide)) rfl fun v' G' H' h hg=>?_)
 obtain⟨A1,c1,x1,he,rfl,h1,rfl⟩:=h
 cases he
 refine gom ?_
 refine WL.oo (OW.callK rfl (texts_fn G A1 l c1 x1 h1 SA ss sc hS hsl hl) rfl fun v' G' H' h hg=>?_)
 obtain⟨A2,c2,x2,he,rfl,h2,rfl⟩:=h
 cases he
 refine gom ?_
 refine WC.rt ?_
 exact QF.p1 (.inl rfl) rfl (.tmp rfl) (⟨_,_,x2,rfl,rfl,h2,rfl⟩)
theorem textF_fn (G:Gh) (wb:Nat) (A:Option Addr) (l:List Int) (cap:Nat) (hA:Sl (Kd.int .u8) G A l) (s:ByteArray) (hl:l.length+s.size≤90000000000000):
  Fn Tryz.prog 59 #[.pointer (some ⟨wb,0,none⟩), .string s] G [wrB wb A l.length cap] (WrP wb l (txtI s) G):=by
 refine Fn.enter Tryz.func59 rfl rfl fun w0=>?_
 have hst:strsI [s]=txtI s:=by simp[strsI,txtI]
 have h10:=uintL_len10 (n:=s.size) (by omega)
 have hlt:(txtI s).length≤s.size+10:=by rw[txtI,List.length_append,strI_length];omega
 refine gom ?_
 refine WL.op kr (OW.buildSlice rfl kr kr (by rfl) rfl fun b6=>?_)
 refine WL.freezeK (k:=Kd.str) (A:=some ⟨_,0,none⟩) (T:=9) (cap:=1) (l:=[s]) (by decide) ⟨[.string s],⟨rfl, .inr ⟨_,_,rfl,rfl,Nat.le_refl _,rfl,rfl⟩⟩,KFl.one (k:=Kd.str) rfl⟩ .here fun G1 hg1 hS=>?_
 have hA1:=hA.mono hg1
 refine gom ?_
 refine WL.oo (OW.callK rfl (putTextF_fn G1 A l cap hA1 _ [s] 1 hS (by simp) (by rw[hst];omega)) rfl fun v' G' H' h hg=>?_)
 obtain⟨A1,c1,x1,he,rfl,h1,rfl⟩:=h
 cases he
 rw[hst]at h1⊢
 refine gom ?_
 refine WK.un ?_
 exact QF.p0 (.inr rfl) rfl  (⟨A1,c1,x1,rfl,hg1,h1,rfl⟩)
end
section
open Go.MapKept
attribute [local irreducible] Tryz.prog objAns bytesR
def ndI (n:Nd):List Int:=txtI n.path++headI n.name n.params n.result
def magI:List Int:=[116,79,49]
def objI (o:Ob):List Int:=magI++txtI o.path++valsI o.consts++uI o.needs.length++o.needs.flatMap ndI++procsI o.procs
noncomputable def bytesO (o:Ob):List Int:=if(objAns o).2.2=0 then objI o else []
set_option maxRecDepth 20000 in
set_option maxHeartbeats 2000000 in
theorem objBytes_fn (G:Gh) (hE:Env G) (o:Ob) (CA NA PA:Option Addr) (cc nc pc:Nat) (hO:ORep G o CA NA PA) (hL:OLim o) (hi:∀v∈o.consts, -9223372036854775808≤v.i∧v.i≤9223372036854775807) (hcl:o.consts.length≤1000000000) (hnl:o.needs.length≤1000000000) (hpl:o.procs.length≤1000000000)
  (hpc:∀p∈o.procs,p.code.length≤9000000000000) (hl:(objI o).length≤70000000000000):
  Fn Tryz.prog 27 #[.agg (obC o CA NA PA cc nc pc)] G [] fun e G' H'=>∃A' cap' x',e= .returned (.tuple #[.slice A' (bytesO o).length cap', .int .i64 (objAns o).2.2])∧G.le G'∧BVec A' (bytesO o) cap' x'∧H'=[x']:=by
 refine Fn.enter Tryz.func27 rfl rfl fun w0=>?_
 refine WC.seq ?_
 refine WC.region ?_
 refine WL.oo (OW.box rfl rfl fun b1=>?_)
 refine gom ?_
 refine WL.oo (OW.callK rfl (Object_fn G hE o CA NA PA cc nc pc hO hL) rfl fun v' G' H' h hg=>?_)
 obtain⟨he,hg1,rfl⟩:=h
 cases he
 obtain⟨G1,rfl⟩:∃G1,G1=G':=⟨_,rfl⟩
 refine gom ?_
 refine WL.oo (OW.alloc rfl fun b4=>?_)
 refine gom ?_
 cases herr:decide ((objAns o).2.2=0)with
 | false=>
  have hne:=of_decide_eq_false herr
  have e1:((objAns o).2.2 != 0)=true:=by rw[bne_iff_ne];exact hne
  have e0:((objAns o).2.2==0)=false:=by rw[beq_eq_false_iff_ne];exact hne
  have hb:bytesO o=[]:=by rw[bytesO,if_neg hne]
  rw[hb]
  first | rw[e1] | rw[e0]
  refine gom ?_
  refine WC.nothing ?_
  refine WC.rt ?_
  exact QF.p2 (.inl rfl) rfl (.tmp rfl) (.tmp rfl) (⟨none,0,_,rfl,hg1,BVec.nil,rfl⟩)
 | true=>
 have heq:=of_decide_eq_true herr
 have e1:((objAns o).2.2 != 0)=false:=by rw[heq];rfl
 have hb:bytesO o=objI o:=by rw[bytesO,if_pos heq]
 rw[hb,heq]
 have hol:(objI o).length=3+(txtI o.path).length+(valsI o.consts).length+(uI o.needs.length).length+(o.needs.flatMap ndI).length+(procsI o.procs).length:=by simp only[objI,List.length_append];rfl
 have htx:(txtI o.path).length=(uintL o.path.size).length+o.path.size:=by rw[txtI,List.length_append,strI_length]
 refine gom ?_
 refine WL.oo (OW.buildSliceN (cells:=[.int .u8 116, .int .u8 79, .int .u8 49]) rfl kr kr (by rfl) rfl fun mb hmb=>?_)
 refine WL.oo (OW.convMark rfl .here hmb rfl fun hgm=>?_)
 have hA:Sl (Kd.int .u8) (G1.add mb #[.int .u8 116, .int .u8 79, .int .u8 49]) (some ⟨mb,0,none⟩) magI:=
  KFl.sl (k:=Kd.int .u8) (l:=[116]++[79]++[49]) (by decide) (((KFl.one (cs:=[.int .u8 116]) rfl).append (KFl.one (cs:=[.int .u8 79]) rfl)).append (KFl.one (cs:=[.int .u8 49]) rfl)) (.inr ⟨mb,rfl,fun i v e=>by rw[Nat.zero_add,Gh.add_at];simpa using e⟩)
 generalize hG2:G1.add mb #[.int .u8 116, .int .u8 79, .int .u8 49]=G2 at hA hgm⊢
 refine gom ?_
 refine WL.oo (OW.box rfl rfl fun b21=>?_)
 refine gom ?_
 refine WQ.one kr kr (OW.callK rfl (textF_fn G2 b21 (some ⟨mb,0,none⟩) magI 3 hA o.path (by rw[show magI.length=3 from rfl];omega)) rfl fun v' G' H' h hg=>?_)
 obtain⟨A1,c1,x1,he,hg3,h1,rfl⟩:=h
 cases he
 obtain⟨G3,rfl⟩:∃G3,G3=G':=⟨_,rfl⟩
 have hg13:G1.le G3:=Gh.le_trans hgm hg3
 have hl1:(magI++txtI o.path).length=3+(txtI o.path).length:=List.length_append
 have hO3:=hO.mono (Gh.le_trans hg1 hg13)
 refine gom ?_
 refine WQ.one kr kr (OW.callK rfl (wvalues_fn G3 b21 A1 _ c1 x1 h1 CA o.consts cc hO3.consts hi hcl (by omega)) rfl fun v' G' H' h hg=>?_)
 obtain⟨A2,c2,x2,he,hg4,h2,rfl⟩:=h
 cases he
 obtain⟨G4,rfl⟩:∃G4,G4=G':=⟨_,rfl⟩
 have hl2:(magI++txtI o.path++valsI o.consts).length=3+(txtI o.path).length+(valsI o.consts).length:=by rw[List.length_append,hl1]
 refine gom ?_
 refine WQ.one kr kr (OW.callK rfl (uint_fn G4 b21 A2 _ c2 x2 h2 (o.needs.length:Int) (by omega)) rfl fun v' G' H' h hg=>?_)
 obtain⟨A3,c3,x3,he,hg5,h3,rfl⟩:=h
 cases he
 obtain⟨G5,rfl⟩:∃G5,G5=G':=⟨_,rfl⟩
 have hl3:(magI++txtI o.path++valsI o.consts++uI o.needs.length).length=3+(txtI o.path).length+(valsI o.consts).length+(uI o.needs.length).length:=by rw[List.length_append,hl2]
 refine gom ?_
 generalize hB:magI++txtI o.path++valsI o.consts++uI o.needs.length=N at*
 have hg15:G1.le G5:=Gh.le_trans hg13 (Gh.le_trans hg4 hg5)
 have h00:N++(o.needs.take 0).flatMap ndI=N:=by simp
 refine WC.pick [wrB b21 A3 N.length c3,x3, .blk b1 (.cells (obC o CA NA PA cc nc pc) 38 (0,0))] ?_
 refine WC.loop (X:=WrS) (fun s=>[(1, .pointer (some ⟨b1,0,none⟩)),(6, .pointer (some ⟨b21,0,none⟩)),(42, .slice NA o.needs.length nc),(43, .int .i64 o.needs.length),(44, .int .i64 s.i)]) (fun s=>s.G) (fun s=>[wrB b21 s.A s.n s.cap,s.x, .blk b1 (.cells (obC o CA NA PA cc nc pc) 38 (0,0))]) (fun s=>o.needs.length - s.i) (fun s=>s.i≤o.needs.length∧G1.le s.G∧BVec s.A (N++(o.needs.take s.i).flatMap ndI) s.cap s.x∧s.n=(N++(o.needs.take s.i).flatMap ndI).length)
  ⟨0,A3,c3,x3,G5,N.length⟩ ⟨Nat.zero_le _,hg15,by rw[h00];exact h3,by dsimp only;rw[h00]⟩ (by exact⟨rfl,rfl,rfl,rfl,rfl,trivial⟩) rfl (List.Sublist.refl _) (fun s hs=>?_)
 obtain⟨k,B,c,x,G6,n⟩:=s
 obtain⟨hk,hg6,hv,hn⟩:=hs
 dsimp only at hk hg6 hv hn
 have x2:=wrapS k (by omega)
 by_cases hlt:k<o.needs.length
 rotate_left
 ·have e2:decide ((k:Int)<(o.needs.length:Int))=false:=decide_eq_false (by omega)
  have hbk:(N++o.needs.flatMap ndI).length=N.length+(o.needs.flatMap ndI).length:=List.length_append
  rw[List.take_of_length_le (by omega)]at hv hn
  subst hn
  have hO6:=hO.mono (Gh.le_trans hg1 hg6)
  refine gom ?_
  refine WQ.one kr kr (OW.callK rfl (wprocs_fn G6 b21 B _ c x hv PA o.procs pc hO6.procs hpl hpc (by omega)) rfl fun v' G' H' h hg=>?_)
  obtain⟨A7,c7,x7,he,hg7,h7,rfl⟩:=h
  cases he
  have ht:N++o.needs.flatMap ndI++procsI o.procs=objI o:=by rw[objI,←hB]
  rw[ht]at h7⊢
  refine gom ?_
  refine WC.rt ?_
  exact QF.p2 (.inl rfl) rfl (.tmp rfl) (.tmp rfl) (⟨A7,c7,x7,rfl,Gh.le_trans hg1 (Gh.le_trans hg6 hg7),h7,rfl⟩)
 have e2:decide ((k:Int)<(o.needs.length:Int))=true:=decide_eq_true (by omega)
 obtain⟨v,hvk⟩:∃v,o.needs[k]? =some v:=⟨_,List.getElem?_eq_getElem (by omega)⟩
 have hV2:=(hO.mono (Gh.le_trans hg1 hg6)).needs
 obtain⟨ib,io,ics,rfl,hik,hic⟩:=hV2 k v hvk
 obtain⟨QA,qc,rfl,hQ⟩:=hik
 have x0:(0:Int)≤(k:Int):=by omega
 have x1':(k:Int)<(o.needs.length:Int):=by omega
 have hfs:=flat_snoc (f:=ndI) hvk
 have hfa:=flat_at (f:=ndI) hvk
 have hbk:(N++(o.needs.take k).flatMap ndI).length=N.length+((o.needs.take k).flatMap ndI).length:=List.length_append
 have hpi:(ndI v).length=(txtI v.path).length+(headI v.name v.params v.result).length:=List.length_append
 have htv:(txtI v.path).length=(uintL v.path.size).length+v.path.size:=by rw[txtI,List.length_append,strI_length]
 generalize hM:N++(o.needs.take k).flatMap ndI=M at*
 have hnext:N++(o.needs.take (k+1)).flatMap ndI=M++ndI v:=by rw[hfs,←List.append_assoc,hM]
 subst hn
 refine gom ?_
 refine WL.oo (OW.alloc rfl fun b8=>?_)
 refine gom ?_
 refine WQ.one kr kr (OW.callK rfl (text_fn G6 b21 B M c x hv v.path (by omega)) rfl fun v' G' H' h hg=>?_)
 obtain⟨A7,c7,x7,he,hg7,h7,rfl⟩:=h
 cases he
 obtain⟨G7,rfl⟩:∃G7,G7=G':=⟨_,rfl⟩
 have hl7:(M++txtI v.path).length=M.length+(txtI v.path).length:=List.length_append
 refine gom ?_
 refine WQ.one kr kr (OW.callK rfl (whead_fn G7 b21 A7 _ c7 x7 h7 v.name QA v.params qc v.result (hQ.mono hg7) (by omega)) rfl fun v' G' H' h hg=>?_)
 obtain⟨A8,c8,x8,he,hg8,h8,rfl⟩:=h
 cases he
 have hen:M++txtI v.path++headI v.name v.params v.result=M++ndI v:=by rw[ndI,List.append_assoc]
 rw[hen]at h8⊢
 refine gom ?_
 refine WK.pick [wrB b21 A8 (M++ndI v).length c8,x8, .blk b1 (.cells (obC o CA (some ⟨ib,io,none⟩) PA cc nc pc) 38 (0,0))] ?_
 exact WK.again ⟨k+1,A8,c8,x8,_,(M++ndI v).length⟩ (by dsimp only;omega) ⟨by dsimp only;omega,Gh.le_trans hg6 (Gh.le_trans hg7 hg8),by dsimp only;rw[hnext];exact h8,by dsimp only;rw[hnext]⟩ (by exact⟨rfl,rfl,rfl,rfl,rfl,trivial⟩) rfl (List.Sublist.refl _)
end
section
open Go.MapKept
section
variable {Q:Exit→Act→World→Prop} {cx:Cx} {L:List (Nat×Value)} {G:Gh} {H:List Own} {K:List (Nat×Value)→Gh→List Own→Prop}
 {d:Option Tmp} {ty:TypeId} {pos:String} {af:Array Edge} {gu:Option (Nat×Bool)}
theorem OW.appendB {x y:Operand} {A B:Option Addr} {l m:List Int} {c e:Nat} {o p:Own} {i j:Nat} (hx:ev L x=some (.slice A l.length c)) (hy:ev L y=some (.slice B m.length e))
  (hv:BVec A l c o) (hj:At H j o) (hm:BVec B m e p) (hi:At H i p) (hb:l.length+m.length≤100000000000000) (hd:dOk d cx.N=true)
  (kk:∀A' c' o',BVec A' (l++m) c' o'→K (putL d (.slice A' (l++m).length c') L) G (H.set j o')):
  OW Tryz.prog Q ⟨d, .call { callee:= .builtin .append,args:= #[x,y],argTypes:= #[71,71] },ty,pos,af,gu⟩ cx L G H K:=
 OW.append hx hy kr kr hv hj (hm.rds hi) (u8s_length _) (u8s_one _) (by omega) (by omega) hd fun A' c' o' hv'=>by
  have:=kk A' c' o' (BVec.more hv')
  rw[List.length_append]at this
  exact this
theorem OW.append1B {x y:Operand} {A:Option Addr} {l:List Int} {c e b:Nat} {o:Own} {i j:Nat} {z:Int} {T:TypeId} (hx:ev L x=some (.slice A l.length c)) (hy:ev L y=some (.slice (some ⟨b,0,none⟩) 1 e))
  (hv:BVec A l c o) (hj:At H j o) (hi:At H i (.blk b (.cells #[.int .u8 z] T (0,0)))) (hb:l.length+1≤100000000000000) (hd:dOk d cx.N=true)
  (kk:∀A' c' o',BVec A' (l++[z]) c' o'→K (putL d (.slice A' (l++[z]).length c') L) G (H.set j o')):
  OW Tryz.prog Q ⟨d, .call { callee:= .builtin .append,args:= #[x,y],argTypes:= #[71,71] },ty,pos,af,gu⟩ cx L G H K:=
 OW.append hx hy kr kr hv hj (Rds.blk0 (cs:=[.int .u8 z]) hi rfl) rfl rfl (by omega) (by omega) hd fun A' c' o' hv'=>by
  have:=kk A' c' o' (BVec.snoc hv')
  rw[List.length_append]at this
  exact this
end
attribute [local irreducible] Tryz.prog
theorem BVec.onef {A:Nat} {z:Int} :BVec (some ⟨A,0,none⟩) [z] 1 (.blk A (.cells #[.int .u8 z] 5 (0,0))):=⟨rfl, .inr ⟨_,_,rfl,rfl,Nat.le_refl _,rfl,rfl⟩⟩
theorem rText_fn (G:Gh) (s:ByteArray) (hs:s.size≤90000000000000):
  Fn Tryz.prog 64 #[.string s] G [] fun e G' H'=>∃A' c' x',e= .returned (.slice A' (txtI s).length c')∧G=G'∧BVec A' (txtI s) c' x'∧H'=[x']:=by
 refine Fn.enter Tryz.func64 rfl rfl fun w0=>?_
 have h10:=uintL_len10 (n:=s.size) (by omega)
 have hlt:(txtI s).length=(uintL s.size).length+s.size:=by rw[txtI,List.length_append,strI_length]
 refine gom ?_
 refine WL.pp (Gp.convTo (r:=((s.size:Nat):Int)) rfl (by rw[u64n ⟨by omega,by omega⟩];rfl)) ?_
 refine WL.oo (OW.callK rfl (rUint_fn G s.size (by omega)) rfl fun v' G' H' h hg=>?_)
 obtain⟨A1,c1,x1,he,rfl,h1,rfl⟩:=h
 cases he
 refine gom ?_
 refine WL.oo (OW.appendStr rfl rfl h1 atA (by omega) rfl fun A2 c2 o2 hv2=>?_)
 have h2:=BVec.str hv2
 refine gom ?_
 refine WC.rt ?_
 exact QF.p1 (.inl rfl) rfl (.tmp rfl) (⟨A2,c2,o2,by rw[hlt],rfl,h2,rfl⟩)
theorem rBool_fn (G:Gh) (b:Bool):
  Fn Tryz.prog 111 #[.bool b] G [] fun e G' H'=>∃A' c' x',e= .returned (.slice A' 1 c')∧G=G'∧BVec A' [boolI b] c' x'∧H'=[x']:=by
 refine Fn.enter Tryz.func111 rfl rfl fun w0=>?_
 cases b with
 | true=>
  refine gom ?_
  refine WL.op kr (OW.buildSlice rfl kr kr (by rfl) rfl fun b2=>?_)
  refine gom ?_
  refine WC.rt ?_
  exact QF.p1 (.inl rfl) rfl (.tmp rfl) (⟨_,1,_,rfl,rfl,BVec.onef,rfl⟩)
 | false=>
  refine gom ?_
  refine WL.op kr (OW.buildSlice rfl kr kr (by rfl) rfl fun b3=>?_)
  refine gom ?_
  refine WC.rt ?_
  exact QF.p1 (.inl rfl) rfl (.tmp rfl) (⟨_,1,_,rfl,rfl,BVec.onef,rfl⟩)
end
section
open Go.MapKept
theorem wrapU {m:Int} (h0:0≤m) (h1:m<18446744073709551616):IntKind.u64.wrap m=m:=by simp[IntKind.wrap,IntKind.signed,IntKind.bits];omega
theorem uI_nat (n:Nat) (h:n<18446744073709551616):uI (n:Int)=uintL n:=by unfold uI;rw[wrapU (by omega) (by omega)];simp
section
variable {L:List (Nat×Value)} {d:Option Tmp} {ty:TypeId} {pos:String} {af:Array Edge} {gu:Option (Nat×Bool)} {P:Program}
theorem Gp.mulR {t t':TypeId} {x y:Operand} {k:IntKind} {m n r:Int} (hx:ev L x=some (.int k m)) (hy:ev L y=some (.int k n)) (h:k.wrap (m*n)=r):Gp P L ⟨d, .binOp .mul t x y t',ty,pos,af,gu⟩ (.int k r):=h▸Gp.mul hx hy
end
section
variable {α:Type} {f:α→List Int} {l:List α} {k:Nat} {a:α}
def preL (f:α→List Int) (l:List α) (k:Nat):List Int:=uI l.length++(l.take k).flatMap f
theorem preL_zero:preL f l 0=uI l.length:=by simp[preL]
theorem preL_snoc (h:l[k]? =some a):preL f l (k+1)=preL f l k++f a:=by unfold preL;rw[flat_snoc h,List.append_assoc]
theorem preL_all:preL f l l.length=uI l.length++l.flatMap f:=by unfold preL;rw[List.take_length]
theorem preL_len (h:l[k]? =some a):(preL f l k).length+(f a).length≤10+(l.flatMap f).length:=by
 have h1:=flat_at (f:=f) h
 have h2:=uI_len (l.length:Int)
 unfold preL
 rw[List.length_append]
 omega
theorem preL_le:(preL f l k).length≤10+(l.flatMap f).length:=by
 have h1:=flat_take (f:=f) (l:=l) k
 have h2:=uI_len (l.length:Int)
 unfold preL
 rw[List.length_append]
 omega
end
structure BW where
 i:Nat
 A:Option Addr
 c:Nat
 x:Own
def typI (ps:List Int) (r:Int):List Int:=uI ps.length++ps.flatMap kindI++kindI r
attribute [local irreducible] Tryz.prog bytesR preL
theorem rInt_fn (G:Gh) (n:Int) (hn: -9223372036854775808≤n∧n≤9223372036854775807):
  Fn Tryz.prog 110 #[.int .i64 n] G [] fun e G' H'=>∃A' c' x',e= .returned (.slice A' (uintL (zzN n)).length c')∧G=G'∧BVec A' (uintL (zzN n)) c' x'∧H'=[x']:=by
 refine Fn.enter Tryz.func110 rfl rfl fun w0=>?_
 have hz:=zzN_lt hn
 by_cases h0:0≤n
 ·have e1:decide ((0:Int)≤n)=true:=decide_eq_true h0
  have hzn:((zzN n:Nat):Int)=2*n:=by unfold zzN;rw[if_pos h0];omega
  refine gom ?_
  refine WL.pp (Gp.convTo (r:=n) rfl (wrapU (by omega) (by omega))) ?_
  refine WL.pp (Gp.mulR (r:=((zzN n:Nat):Int)) rfl rfl (by rw[hzn];exact wrapU (by omega) (by omega))) ?_
  refine WL.oo (OW.callK rfl (rUint_fn G (zzN n) hz) rfl fun v' G' H' h hg=>?_)
  obtain⟨A1,c1,x1,he,rfl,h1,rfl⟩:=h
  cases he
  refine gom ?_
  refine WC.rt ?_
  exact QF.p1 (.inl rfl) rfl (.tmp rfl) (⟨A1,c1,x1,rfl,rfl,h1,rfl⟩)
 ·have e1:decide ((0:Int)≤n)=false:=decide_eq_false h0
  have hzn:((zzN n:Nat):Int)= -2*n - 1:=by unfold zzN;rw[if_neg h0];omega
  have w1:IntKind.i64.wrap (n+1)=n+1:=by rw[IntKind.wrap_i64];omega
  have w2:IntKind.u64.wrap (2*(-(n+1))+1)=((zzN n:Nat):Int):=by rw[hzn,wrapU (by omega) (by omega)];omega
  refine gom ?_
  rw[show IntKind.i64.wrap (0 - (n+1))= -(n+1) by rw[IntKind.wrap_i64];omega]
  refine WL.pp (Gp.convTo (r:= -(n+1)) rfl (wrapU (by omega) (by omega))) ?_
  refine WL.pp (Gp.mulR (r:=2*(-(n+1))) rfl rfl (wrapU (by omega) (by omega))) ?_
  refine gom ?_
  refine WL.oo (OW.callK rfl (rUint_fn G (zzN n) hz) rfl fun v' G' H' h hg=>?_)
  obtain⟨A1,c1,x1,he,rfl,h1,rfl⟩:=h
  cases he
  refine gom ?_
  refine WC.rt ?_
  exact QF.p1 (.inl rfl) rfl (.tmp rfl) (⟨A1,c1,x1,rfl,rfl,h1,rfl⟩)
set_option maxHeartbeats 1000000 in
theorem rtypes_fn (G:Gh) (VA:Option Addr) (vs:List Int) (vc:Nat) (hV:Sl (Kd.int .i64) G VA vs) (r:Int) (hl:vs.length≤90000000000000):
  Fn Tryz.prog 67 #[.slice VA vs.length vc, .int .i64 r] G [] fun e G' H'=>∃A' c' x',e= .returned (.slice A' (typI vs r).length c')∧G=G'∧BVec A' (typI vs r) c' x'∧H'=[x']:=by
 refine Fn.enter Tryz.func67 rfl rfl fun w0=>?_
 have hkl:=kinds_len vs
 refine gom ?_
 refine WL.pp (Gp.convTo (r:=((vs.length:Nat):Int)) rfl (wrapU (by omega) (by omega))) ?_
 refine WL.oo (OW.callK rfl (rUint_fn G vs.length (by omega)) rfl fun v' G' H' h hg=>?_)
 obtain⟨A1,c1,x1,he,rfl,h1,rfl⟩:=h
 cases he
 rw[←uI_nat vs.length (by omega),←preL_zero (f:=kindI)]at h1⊢
 refine gom ?_
 refine WC.loop (X:=BW) (fun s=>[(5, .slice s.A (preL kindI vs s.i).length s.c),(0, .slice VA vs.length vc),(1, .int .i64 r),(6, .int .i64 s.i)]) (fun _=>G) (fun s=>[s.x]) (fun s=>vs.length - s.i) (fun s=>s.i≤vs.length∧BVec s.A (preL kindI vs s.i) s.c s.x) ⟨0,A1,c1,x1⟩ ⟨Nat.zero_le _,h1⟩ (by exact⟨rfl,rfl,rfl,rfl,trivial⟩) rfl (List.Sublist.refl _) fun s hs=>?_
 obtain⟨k,B,c,o⟩:=s
 obtain⟨hk,hv⟩:=hs
 dsimp only at hk hv
 have x2:=wrapS k (by omega)
 have hple:=preL_le (f:=kindI) (l:=vs) (k:=k)
 by_cases hlt:k<vs.length
 rotate_left
 ·have e2:decide ((k:Int)<(vs.length:Int))=false:=decide_eq_false (by omega)
  obtain rfl:k=vs.length:=by omega
  have hty:preL kindI vs vs.length++[IntKind.u8.wrap r]=typI vs r:=by rw[preL_all];rfl
  refine gom ?_
  refine WL.pp (Gp.convTo (r:=IntKind.u8.wrap r) rfl rfl) ?_
  refine WL.op kr (OW.buildSlice rfl kr kr (by rfl) rfl fun b28=>?_)
  refine WL.oo (OW.append1B rfl rfl hv atA .here (by dsimp only;omega) rfl fun A2 c2 o2 hv2=>?_)
  rw[hty]at hv2⊢
  refine gom ?_
  refine WC.rt ?_
  exact QF.p1 (.inl rfl) rfl (.tmp rfl) (⟨A2,c2,o2,rfl,rfl,hv2,rfl⟩)
 have e2:decide ((k:Int)<(vs.length:Int))=true:=decide_eq_true (by omega)
 obtain⟨v,hvk⟩:∃v,vs[k]? =some v:=⟨_,List.getElem?_eq_getElem hlt⟩
 obtain⟨ib,io,ics,rfl,hik,hic⟩:=hV k v hvk
 obtain rfl:ics=[.int .i64 v]:=hik
 have x0:(0:Int)≤(k:Int):=by omega
 have x1':(k:Int)<(vs.length:Int):=by omega
 have hen:preL kindI vs (k+1)=preL kindI vs k++[IntKind.u8.wrap v]:=preL_snoc (f:=kindI) hvk
 refine gom ?_
 refine WL.pp (Gp.convTo (r:=IntKind.u8.wrap v) rfl rfl) ?_
 refine WL.op kr (OW.buildSlice rfl kr kr (by rfl) rfl fun b23=>?_)
 refine WL.oo (OW.append1B rfl rfl hv atA .here (by dsimp only;omega) rfl fun A2 c2 o2 hv2=>?_)
 rw[←hen]at hv2⊢
 refine gom ?_
 refine WK.pick [o2] ?_
 exact WK.again ⟨k+1,A2,c2,o2⟩ (by dsimp only;omega) ⟨by dsimp only;omega,hv2⟩ (by exact⟨rfl,rfl,rfl,rfl,trivial⟩) rfl (List.Sublist.refl _)
end
section
open Go.MapKept
attribute [local irreducible] Tryz.prog bytesR preL valI procI
set_option maxRecDepth 20000 in
set_option maxHeartbeats 4000000 in
theorem rvalues_fn (G:Gh) (VA:Option Addr) (vs:List V) (vc:Nat) (hV:Sl Kd.val G VA vs) (hi:∀v∈vs, -9223372036854775808≤v.i∧v.i≤9223372036854775807) (hvl:vs.length≤1000000000) (hl:(valsI vs).length≤70000000000000):
  Fn Tryz.prog 65 #[.slice VA vs.length vc] G [] fun e G' H'=>∃A' c' x',e= .returned (.slice A' (valsI vs).length c')∧G=G'∧BVec A' (valsI vs) c' x'∧H'=[x']:=by
 have hfl:(valsI vs).length=(uI vs.length).length+(vs.flatMap valI).length:=by unfold valsI;rw[List.length_append]
 refine Fn.enter Tryz.func65 rfl rfl fun w0=>?_
 refine gom ?_
 refine WL.pp (Gp.convTo (r:=((vs.length:Nat):Int)) rfl (wrapU (by omega) (by omega))) ?_
 refine WL.oo (OW.callK rfl (rUint_fn G vs.length (by omega)) rfl fun v' G' H' h hg=>?_)
 obtain⟨A1,c1,x1,he,rfl,h1,rfl⟩:=h
 cases he
 rw[←uI_nat vs.length (by omega),←preL_zero (f:=valI)]at h1⊢
 refine gom ?_
 refine WC.loop (X:=BW) (fun s=>[(3, .slice s.A (preL valI vs s.i).length s.c),(0, .slice VA vs.length vc),(4, .int .i64 s.i)]) (fun _=>G) (fun s=>[s.x]) (fun s=>vs.length - s.i) (fun s=>s.i≤vs.length∧BVec s.A (preL valI vs s.i) s.c s.x) ⟨0,A1,c1,x1⟩ ⟨Nat.zero_le _,h1⟩ (by exact⟨rfl,rfl,rfl,trivial⟩) rfl (List.Sublist.refl _) fun s hs=>?_
 obtain⟨k,B,c,o⟩:=s
 obtain⟨hk,hv⟩:=hs
 dsimp only at hk hv
 have x2:=wrapS k (by omega)
 by_cases hlt:k<vs.length
 rotate_left
 ·have e2:decide ((k:Int)<(vs.length:Int))=false:=decide_eq_false (by omega)
  obtain rfl:k=vs.length:=by omega
  dsimp only
  rw[preL_all,show uI (vs.length:Int)++vs.flatMap valI=valsI vs from rfl]at hv⊢
  refine gom ?_
  refine WC.rt ?_
  exact QF.p1 (.inl rfl) rfl (.tmp rfl) (⟨B,c,o,rfl,rfl,hv,rfl⟩)
 have e2:decide ((k:Int)<(vs.length:Int))=true:=decide_eq_true (by omega)
 obtain⟨v,hvk⟩:∃v,vs[k]? =some v:=⟨_,List.getElem?_eq_getElem hlt⟩
 obtain⟨hi1,hi2⟩:=hi v (List.mem_of_getElem? hvk)
 obtain⟨ib,io,ics,rfl,hik,hic⟩:=hV k v hvk
 obtain rfl:ics=[.int .i64 v.t, .int .i64 v.i, .bool v.b, .string v.s]:=hik
 have x0:(0:Int)≤(k:Int):=by omega
 have x1':(k:Int)<(vs.length:Int):=by omega
 have hple:=preL_len (f:=valI) hvk
 have hen:=preL_snoc (f:=valI) hvk
 refine gom ?_
 refine WL.pp (Gp.convTo (r:=IntKind.u8.wrap v.t) rfl rfl) ?_
 refine WL.op kr (OW.buildSlice rfl kr kr (by rfl) rfl fun b22=>?_)
 refine WL.oo (OW.append1B rfl rfl hv atA .here (by dsimp only;omega) rfl fun A2 c2 o2 hv2=>?_)
 by_cases t1:v.t=1
 ·have e3:(v.t==1)=true:=by rw[t1];rfl
  have hvi:valI v=[IntKind.u8.wrap v.t]++uintL (zzN v.i):=by unfold valI;simp[kindI,t1]
  have hvl':(valI v).length=1+(uintL (zzN v.i)).length:=by rw[hvi,List.length_append];rfl
  rw[hvi,←List.append_assoc]at hen
  refine gom ?_
  refine WL.oo (OW.callK rfl (rInt_fn G v.i ⟨hi1,hi2⟩) rfl fun v' G' H' h hg=>?_)
  obtain⟨A3,c3,x3,he,rfl,h3,rfl⟩:=h
  cases he
  refine WL.oo (OW.appendB (m:=uintL (zzN v.i)) rfl rfl hv2 atA h3 atA (by simp only[List.length_append,List.length_cons,List.length_nil]at*;omega) rfl fun A4 c4 o4 hv4=>?_)
  rw[←hen]at hv4⊢
  refine gom ?_
  refine WK.pick [o4] ?_
  exact WK.again ⟨k+1,A4,c4,o4⟩ (by dsimp only;omega) ⟨by dsimp only;omega,hv4⟩ (by exact⟨rfl,rfl,rfl,trivial⟩) rfl (List.Sublist.refl _)
 have f1:(v.t==1)=false:=by simpa using t1
 by_cases t2:v.t=2
 ·have e3:(v.t==2)=true:=by rw[t2];rfl
  have hvi:valI v=[IntKind.u8.wrap v.t]++[boolI v.b]:=by unfold valI;simp[kindI,t2]
  have hvl':(valI v).length=1+([boolI v.b]).length:=by rw[hvi,List.length_append];rfl
  rw[hvi,←List.append_assoc]at hen
  refine gom ?_
  refine WL.oo (OW.callK rfl (rBool_fn G v.b) rfl fun v' G' H' h hg=>?_)
  obtain⟨A3,c3,x3,he,rfl,h3,rfl⟩:=h
  cases he
  refine WL.oo (OW.appendB (m:=[boolI v.b]) rfl rfl hv2 atA h3 atA (by simp only[List.length_append,List.length_cons,List.length_nil]at*;omega) rfl fun A4 c4 o4 hv4=>?_)
  rw[←hen]at hv4⊢
  refine gom ?_
  refine WK.pick [o4] ?_
  exact WK.again ⟨k+1,A4,c4,o4⟩ (by dsimp only;omega) ⟨by dsimp only;omega,hv4⟩ (by exact⟨rfl,rfl,rfl,trivial⟩) rfl (List.Sublist.refl _)
 have f2:(v.t==2)=false:=by simpa using t2
 by_cases t3:v.t=3
 ·have e3:(v.t==3)=true:=by rw[t3];rfl
  have hvi:valI v=[IntKind.u8.wrap v.t]++txtI v.s:=by unfold valI;simp[kindI,t3]
  have hvl':(valI v).length=1+(txtI v.s).length:=by rw[hvi,List.length_append];rfl
  rw[hvi,←List.append_assoc]at hen
  refine gom ?_
  refine WL.oo (OW.callK rfl (rText_fn G v.s (by have:(txtI v.s).length=(uintL v.s.size).length+v.s.size:=(by rw[txtI,List.length_append,strI_length]);omega)) rfl fun v' G' H' h hg=>?_)
  obtain⟨A3,c3,x3,he,rfl,h3,rfl⟩:=h
  cases he
  refine WL.oo (OW.appendB (m:=txtI v.s) rfl rfl hv2 atA h3 atA (by simp only[List.length_append,List.length_cons,List.length_nil]at*;omega) rfl fun A4 c4 o4 hv4=>?_)
  rw[←hen]at hv4⊢
  refine gom ?_
  refine WK.pick [o4] ?_
  exact WK.again ⟨k+1,A4,c4,o4⟩ (by dsimp only;omega) ⟨by dsimp only;omega,hv4⟩ (by exact⟨rfl,rfl,rfl,trivial⟩) rfl (List.Sublist.refl _)
 have f3:(v.t==3)=false:=by simpa using t3
 have hvi:valI v=[IntKind.u8.wrap v.t]:=by unfold valI;simp[kindI,t1,t2,t3]
 rw[hvi]at hen
 rw[←hen]at hv2⊢
 refine gom ?_
 refine WK.pick [o2] ?_
 exact WK.again ⟨k+1,A2,c2,o2⟩ (by dsimp only;omega) ⟨by dsimp only;omega,hv2⟩ (by exact⟨rfl,rfl,rfl,trivial⟩) rfl (List.Sublist.refl _)
set_option maxRecDepth 20000 in
set_option maxHeartbeats 4000000 in
theorem rprocs_fn (G:Gh) (VA:Option Addr) (vs:List Pr) (vc:Nat) (hV:Sl Kd.prc G VA vs) (hvl:vs.length≤1000000000) (hcl:∀p∈vs,p.code.length≤9000000000000) (hl:(procsI vs).length≤70000000000000):
  Fn Tryz.prog 68 #[.slice VA vs.length vc] G [] fun e G' H'=>∃A' c' x',e= .returned (.slice A' (procsI vs).length c')∧G=G'∧BVec A' (procsI vs) c' x'∧H'=[x']:=by
 have hfl:(procsI vs).length=(uI vs.length).length+(vs.flatMap procI).length:=by unfold procsI;rw[List.length_append]
 refine Fn.enter Tryz.func68 rfl rfl fun w0=>?_
 refine gom ?_
 refine WL.pp (Gp.convTo (r:=((vs.length:Nat):Int)) rfl (wrapU (by omega) (by omega))) ?_
 refine WL.oo (OW.callK rfl (rUint_fn G vs.length (by omega)) rfl fun v' G' H' h hg=>?_)
 obtain⟨A1,c1,x1,he,rfl,h1,rfl⟩:=h
 cases he
 rw[←uI_nat vs.length (by omega),←preL_zero (f:=procI)]at h1⊢
 refine gom ?_
 refine WC.loop (X:=BW) (fun s=>[(3, .slice s.A (preL procI vs s.i).length s.c),(0, .slice VA vs.length vc),(4, .int .i64 s.i)]) (fun _=>G) (fun s=>[s.x]) (fun s=>vs.length - s.i) (fun s=>s.i≤vs.length∧BVec s.A (preL procI vs s.i) s.c s.x) ⟨0,A1,c1,x1⟩ ⟨Nat.zero_le _,h1⟩ (by exact⟨rfl,rfl,rfl,trivial⟩) rfl (List.Sublist.refl _) fun s hs=>?_
 obtain⟨k,B,c,o⟩:=s
 obtain⟨hk,hv⟩:=hs
 dsimp only at hk hv
 have x2:=wrapS k (by omega)
 by_cases hlt:k<vs.length
 rotate_left
 ·have e2:decide ((k:Int)<(vs.length:Int))=false:=decide_eq_false (by omega)
  obtain rfl:k=vs.length:=by omega
  dsimp only
  rw[preL_all,show uI (vs.length:Int)++vs.flatMap procI=procsI vs from rfl]at hv⊢
  refine gom ?_
  refine WC.rt ?_
  exact QF.p1 (.inl rfl) rfl (.tmp rfl) (⟨B,c,o,rfl,rfl,hv,rfl⟩)
 have e2:decide ((k:Int)<(vs.length:Int))=true:=decide_eq_true (by omega)
 obtain⟨p,hpk⟩:∃p,vs[k]? =some p:=⟨_,List.getElem?_eq_getElem hlt⟩
 have hpc:=hcl p (List.mem_of_getElem? hpk)
 obtain⟨ib,io,ics,rfl,hik,hic⟩:=hV k p hpk
 obtain⟨QA,qc,IA,ic,rfl,hQ,hI⟩:=hik
 have x0:(0:Int)≤(k:Int):=by omega
 have x1':(k:Int)<(vs.length:Int):=by omega
 have hple:=preL_len (f:=procI) hpk
 have hen:=preL_snoc (f:=procI) hpk
 have hpi:procI p=txtI p.name++typI p.params p.result++[boolI p.exp]++uI p.locals++(bytesR p.code).1:=by unfold procI headI typI;simp only[List.append_assoc]
 have hty:(typI p.params p.result).length=(uI p.params.length).length+p.params.length+1:=by unfold typI;rw[List.length_append,List.length_append,kinds_len];rfl
 have htx:(txtI p.name).length=(uintL p.name.size).length+p.name.size:=by rw[txtI,List.length_append,strI_length]
 have hpl:(procI p).length=(txtI p.name).length+(typI p.params p.result).length+1+(uI p.locals).length+((bytesR p.code).1).length:=by rw[hpi];simp only[List.length_append];rfl
 rw[hpi]at hen
 simp only[←List.append_assoc]at hen
 refine gom ?_
 refine WL.oo (OW.alloc rfl fun b5=>?_)
 refine gom ?_
 refine WL.oo (OW.callK rfl (rText_fn G p.name (by omega)) rfl fun v' G' H' h hg=>?_)
 obtain⟨A2,c2,y2,he,rfl,g2,rfl⟩:=h
 cases he
 refine WL.oo (OW.appendB rfl rfl hv atA g2 atA (by dsimp only;omega) rfl fun A3 c3 o3 h3=>?_)
 refine gom ?_
 refine WL.oo (OW.callK rfl (rtypes_fn G QA p.params qc hQ p.result (by omega)) rfl fun v' G' H' h hg=>?_)
 obtain⟨A4,c4,y4,he,rfl,g4,rfl⟩:=h
 cases he
 refine WL.oo (OW.appendB rfl rfl h3 atA g4 atA (by simp only[List.length_append,List.length_cons,List.length_nil]at*;omega) rfl fun A5 c5 o5 h5=>?_)
 refine gom ?_
 refine WL.oo (OW.callK rfl (rBool_fn G p.exp) rfl fun v' G' H' h hg=>?_)
 obtain⟨A6,c6,y6,he,rfl,g6,rfl⟩:=h
 cases he
 refine WL.oo (OW.appendB (m:=[boolI p.exp]) rfl rfl h5 atA g6 atA (by simp only[List.length_append,List.length_cons,List.length_nil]at*;omega) rfl fun A7 c7 o7 h7=>?_)
 refine gom ?_
 refine WL.pp (Gp.convTo (r:=(((IntKind.u64.wrap p.locals).toNat:Nat):Int)) rfl (u64_wrap _).1) ?_
 refine WL.oo (OW.callK rfl (rUint_fn G (IntKind.u64.wrap p.locals).toNat (u64_wrap _).2) rfl fun v' G' H' h hg=>?_)
 obtain⟨A8,c8,y8,he,rfl,g8,rfl⟩:=h
 cases he
 refine WL.oo (OW.appendB (m:=uI p.locals) rfl rfl h7 atA g8 atA (by simp only[List.length_append,List.length_cons,List.length_nil]at*;omega) rfl fun A9 c9 o9 h9=>?_)
 refine gom ?_
 refine WL.oo (OW.callK rfl (rBytes_fn G IA p.code ic hI hpc) rfl fun v' G' H' h hg=>?_)
 obtain⟨Aa,ca,ya,he,rfl,ga,rfl⟩:=h
 cases he
 refine gom ?_
 refine WL.oo (OW.appendB rfl rfl h9 atA ga atA (by simp only[List.length_append,List.length_cons,List.length_nil]at*;omega) rfl fun Ab cb ob hb=>?_)
 rw[←hen]at hb⊢
 refine gom ?_
 refine WK.pick [ob] ?_
 exact WK.again ⟨k+1,Ab,cb,ob⟩ (by dsimp only;omega) ⟨by dsimp only;omega,hb⟩ (by exact⟨rfl,rfl,rfl,trivial⟩) rfl (List.Sublist.refl _)
end
section
open Go.MapKept
attribute [local irreducible] Tryz.prog
theorem rLetter_fn (G:Gh) (n:Int) (h0:0≤n) (h1:n≤255):Fn Tryz.prog 169 #[.int .u8 n] G [] fun e G' H'=>e= .returned (.bool (letterN n))∧G=G'∧H'=[]:=by
 refine Fn.enter Tryz.func169 rfl rfl fun w0=>?_
 have hrng:(0≤n∧n≤64)∨(65≤n∧n≤90)∨(91≤n∧n≤94)∨(95≤n∧n≤95)∨(96≤n∧n≤96)∨(97≤n∧n≤122)∨(123≤n∧n≤255):=by omega
 rcases hrng with hr | hr | hr | hr | hr | hr | hr
 ·have eq95:(n==(95:Int))=false:=by rw[beq_eq_false_iff_ne];omega
  have ge97:decide ((97:Int)≤n)=false:=decide_eq_false (by omega)
  have le122:decide (n≤(122:Int))=true:=decide_eq_true (by omega)
  have ge65:decide ((65:Int)≤n)=false:=decide_eq_false (by omega)
  have le90:decide (n≤(90:Int))=true:=decide_eq_true (by omega)
  have hv:letterN n=false:=by unfold letterN;simp only[eq95,ge97,le122,ge65,le90];rfl
  rw[hv]
  refine gom ?_
  refine WC.rt ?_
  exact QF.p1 (.inl rfl) rfl (.tmp rfl) (⟨rfl,rfl,rfl⟩)
 ·have eq95:(n==(95:Int))=false:=by rw[beq_eq_false_iff_ne];omega
  have ge97:decide ((97:Int)≤n)=false:=decide_eq_false (by omega)
  have le122:decide (n≤(122:Int))=true:=decide_eq_true (by omega)
  have ge65:decide ((65:Int)≤n)=true:=decide_eq_true (by omega)
  have le90:decide (n≤(90:Int))=true:=decide_eq_true (by omega)
  have hv:letterN n=true:=by unfold letterN;simp only[eq95,ge97,le122,ge65,le90];rfl
  rw[hv]
  refine gom ?_
  refine WC.rt ?_
  exact QF.p1 (.inl rfl) rfl (.tmp rfl) (⟨rfl,rfl,rfl⟩)
 ·have eq95:(n==(95:Int))=false:=by rw[beq_eq_false_iff_ne];omega
  have ge97:decide ((97:Int)≤n)=false:=decide_eq_false (by omega)
  have le122:decide (n≤(122:Int))=true:=decide_eq_true (by omega)
  have ge65:decide ((65:Int)≤n)=true:=decide_eq_true (by omega)
  have le90:decide (n≤(90:Int))=false:=decide_eq_false (by omega)
  have hv:letterN n=false:=by unfold letterN;simp only[eq95,ge97,le122,ge65,le90];rfl
  rw[hv]
  refine gom ?_
  refine WC.rt ?_
  exact QF.p1 (.inl rfl) rfl (.tmp rfl) (⟨rfl,rfl,rfl⟩)
 ·have eq95:(n==(95:Int))=true:=by rw[beq_iff_eq];omega
  have ge97:decide ((97:Int)≤n)=false:=decide_eq_false (by omega)
  have le122:decide (n≤(122:Int))=true:=decide_eq_true (by omega)
  have ge65:decide ((65:Int)≤n)=true:=decide_eq_true (by omega)
  have le90:decide (n≤(90:Int))=false:=decide_eq_false (by omega)
  have hv:letterN n=true:=by unfold letterN;simp only[eq95,ge97,le122,ge65,le90];rfl
  rw[hv]
  refine gom ?_
  refine WC.rt ?_
  exact QF.p1 (.inl rfl) rfl (.tmp rfl) (⟨rfl,rfl,rfl⟩)
 ·have eq95:(n==(95:Int))=false:=by rw[beq_eq_false_iff_ne];omega
  have ge97:decide ((97:Int)≤n)=false:=decide_eq_false (by omega)
  have le122:decide (n≤(122:Int))=true:=decide_eq_true (by omega)
  have ge65:decide ((65:Int)≤n)=true:=decide_eq_true (by omega)
  have le90:decide (n≤(90:Int))=false:=decide_eq_false (by omega)
  have hv:letterN n=false:=by unfold letterN;simp only[eq95,ge97,le122,ge65,le90];rfl
  rw[hv]
  refine gom ?_
  refine WC.rt ?_
  exact QF.p1 (.inl rfl) rfl (.tmp rfl) (⟨rfl,rfl,rfl⟩)
 ·have eq95:(n==(95:Int))=false:=by rw[beq_eq_false_iff_ne];omega
  have ge97:decide ((97:Int)≤n)=true:=decide_eq_true (by omega)
  have le122:decide (n≤(122:Int))=true:=decide_eq_true (by omega)
  have ge65:decide ((65:Int)≤n)=true:=decide_eq_true (by omega)
  have le90:decide (n≤(90:Int))=false:=decide_eq_false (by omega)
  have hv:letterN n=true:=by unfold letterN;simp only[eq95,ge97,le122,ge65,le90];rfl
  rw[hv]
  refine gom ?_
  refine WC.rt ?_
  exact QF.p1 (.inl rfl) rfl (.tmp rfl) (⟨rfl,rfl,rfl⟩)
 ·have eq95:(n==(95:Int))=false:=by rw[beq_eq_false_iff_ne];omega
  have ge97:decide ((97:Int)≤n)=true:=decide_eq_true (by omega)
  have le122:decide (n≤(122:Int))=false:=decide_eq_false (by omega)
  have ge65:decide ((65:Int)≤n)=true:=decide_eq_true (by omega)
  have le90:decide (n≤(90:Int))=false:=decide_eq_false (by omega)
  have hv:letterN n=false:=by unfold letterN;simp only[eq95,ge97,le122,ge65,le90];rfl
  rw[hv]
  refine gom ?_
  refine WC.rt ?_
  exact QF.p1 (.inl rfl) rfl (.tmp rfl) (⟨rfl,rfl,rfl⟩)
theorem rDigit_fn (G:Gh) (n:Int) (h0:0≤n) (h1:n≤255):Fn Tryz.prog 170 #[.int .u8 n] G [] fun e G' H'=>e= .returned (.bool (digitN n))∧G=G'∧H'=[]:=by
 refine Fn.enter Tryz.func170 rfl rfl fun w0=>?_
 have hrng:(0≤n∧n≤47)∨(48≤n∧n≤57)∨(58≤n∧n≤255):=by omega
 rcases hrng with hr | hr | hr
 ·have ge48:decide ((48:Int)≤n)=false:=decide_eq_false (by omega)
  have le57:decide (n≤(57:Int))=true:=decide_eq_true (by omega)
  have hv:digitN n=false:=by unfold digitN;simp only[ge48,le57];rfl
  rw[hv]
  refine gom ?_
  refine WC.rt ?_
  exact QF.p1 (.inl rfl) rfl (.tmp rfl) (⟨rfl,rfl,rfl⟩)
 ·have ge48:decide ((48:Int)≤n)=true:=decide_eq_true (by omega)
  have le57:decide (n≤(57:Int))=true:=decide_eq_true (by omega)
  have hv:digitN n=true:=by unfold digitN;simp only[ge48,le57];rfl
  rw[hv]
  refine gom ?_
  refine WC.rt ?_
  exact QF.p1 (.inl rfl) rfl (.tmp rfl) (⟨rfl,rfl,rfl⟩)
 ·have ge48:decide ((48:Int)≤n)=true:=decide_eq_true (by omega)
  have le57:decide (n≤(57:Int))=false:=decide_eq_false (by omega)
  have hv:digitN n=false:=by unfold digitN;simp only[ge48,le57];rfl
  rw[hv]
  refine gom ?_
  refine WC.rt ?_
  exact QF.p1 (.inl rfl) rfl (.tmp rfl) (⟨rfl,rfl,rfl⟩)
theorem rkeys_fn (G:Gh):Fn Tryz.prog 172 #[] G [] fun e G' H'=>∃b,e= .returned (.slice (some ⟨b,0,none⟩) 16 16)∧G.le G'∧Sl Kd.str G' (some ⟨b,0,none⟩) keysL∧H'=[]:=by
 refine Fn.enter Tryz.func172 rfl rfl fun w0=>?_
 refine gom ?_
 refine WL.op kr (OW.buildSlice rfl kr kr (by rfl) rfl fun b1=>?_)
 refine gom ?_
 refine WC.freezeC (cs:=keysL.map Value.string) .here rfl fun G1 hg1 h1=>?_
 refine WC.rt ?_
 exact QF.p1 (.inl rfl) rfl (.tmp rfl) (⟨b1,rfl,hg1,Cs.strs h1,rfl⟩)
theorem ramong_fn (G:Gh) (A:Option Addr) (l:List ByteArray) (cap:Nat) (s:ByteArray) (hA:Sl Kd.str G A l) (hl:l.length≤100000000000000):
  Fn Tryz.prog 171 #[.slice A l.length cap, .string s] G [] fun e G' H'=>e= .returned (.bool (l.any (fun k=>s==k)))∧G=G'∧H'=[]:=by
 refine Fn.enter Tryz.func171 rfl rfl fun w0=>?_
 refine gom ?_
 refine WC.loop (X:=Nat) (fun i=>[(0, .slice A l.length cap),(1, .string s),(5, .int .i64 (i:Int))]) (fun _=>G) (fun _=>[]) (fun i=>l.length - i) (fun i=>i≤l.length∧∀j y,j<i→l[j]? =some y→(s==y)=false) 0 ⟨Nat.zero_le _,(fun j y h=>absurd h (Nat.not_lt_zero _))⟩ (by exact⟨rfl,rfl,rfl,trivial⟩) rfl (List.Sublist.refl _) fun i hx=>?_
 obtain⟨hi,hall⟩:=hx
 have x2:=wrapS i (by omega)
 by_cases hlt:i<l.length
 rotate_left
 ·have e2:decide ((i:Int)<(l.length:Int))=false:=decide_eq_false (by omega)
  rw[any_none hall (by omega)]
  refine gom ?_
  refine WC.rt ?_
  exact QF.p1 (.inl rfl) rfl (.tmp rfl) (⟨rfl,rfl,rfl⟩)
 have e2:decide ((i:Int)<(l.length:Int))=true:=decide_eq_true (by omega)
 obtain⟨y,hy⟩:∃y,l[i]? =some y:=⟨_,List.getElem?_eq_getElem hlt⟩
 obtain⟨ab,ao,cs,rfl,hk,hcs⟩:=hA i y hy
 obtain rfl:cs=[.string y]:=hk
 have x0:(0:Int)≤i:=by omega
 have x1:(i:Int)<(l.length:Int):=by omega
 have hsym:(y==s)=(s==y):=by rw[bytes_beq,bytes_beq];congr 1;exact propext ⟨Eq.symm,Eq.symm⟩
 cases hq:(s==y)with
 | true=>
  have hv:l.any (fun k=>s==k)=true:=List.any_eq_true.2 ⟨y,List.mem_of_getElem? hy,hq⟩
  rw[hv]
  refine gom ?_
  rw[hsym,hq]
  refine gom ?_
  refine WC.rt ?_
  exact QF.p1 (.inl rfl) rfl (.tmp rfl) (⟨rfl,rfl,rfl⟩)
 | false=>
  refine gom ?_
  rw[hsym,hq]
  refine gom ?_
  exact WK.again (i+1) (by omega) ⟨by omega,any_step hy hall hq⟩ (by exact⟨rfl,rfl,rfl,trivial⟩) rfl (List.Sublist.refl _)
theorem rKey_fn (G:Gh) (s:ByteArray):Fn Tryz.prog 146 #[.string s] G [] fun e G' H'=>e= .returned (.bool (keyR s))∧G.le G'∧H'=[]:=by
 refine Fn.enter Tryz.func146 rfl rfl fun w0=>?_
 refine gom ?_
 refine WL.oo (OW.callK rfl (rkeys_fn G) rfl fun v' G' H' h hg=>?_)
 obtain⟨b,he,hg1,hs,rfl⟩:=h
 cases he
 refine gom ?_
 refine WL.oo (OW.callK rfl (ramong_fn G' _ keysL 16 s hs (by decide)) rfl fun v' G' H' h hg=>?_)
 obtain⟨he,rfl,rfl⟩:=h
 cases he
 refine gom ?_
 refine WC.rt ?_
 exact QF.p1 (.inl rfl) rfl (.tmp rfl) (⟨rfl,hg1,rfl⟩)
def rnameR (s:ByteArray):Bool:=
 match bytesL s with
 | []=>false
 | c::l=>letterN c.toNat&&(decide ((c::l).length≤32)&&(c::l).all (fun c=>wordN c.toNat))
theorem u8le (c:UInt8):((c.toNat:Nat):Int)≤255:=by have:=c.toNat_lt;omega
theorem rname_fn (G:Gh) (s:ByteArray) (hl:s.size≤100000000000000):Fn Tryz.prog 145 #[.string s] G [] fun e G' H'=>e= .returned (.bool (rnameR s))∧G=G'∧H'=[]:=by
 have hbl:=bytesL_length s
 refine Fn.enter Tryz.func145 rfl rfl fun w0=>?_
 cases hb:bytesL s with
 | nil=>
  have h0:s.size=0:=by rw[←hbl,hb];rfl
  have e1:((s.size:Int)==0)=true:=by rw[h0];rfl
  have hv:rnameR s=false:=by unfold rnameR;rw[hb]
  rw[hv]
  refine gom ?_
  refine WC.rt ?_
  exact QF.p1 (.inl rfl) rfl (.tmp rfl) (⟨rfl,rfl,rfl⟩)
 | cons c l=>
 have hsz:s.size=(c::l).length:=by rw[←hbl,hb]
 have hpos:0<s.size:=by rw[hsz];simp
 have e1:((s.size:Int)==0)=false:=by rw[beq_eq_false_iff_ne];omega
 have hv:rnameR s=(letterN c.toNat&&(decide ((c::l).length≤32)&&(c::l).all (fun c=>wordN c.toNat))):=by unfold rnameR;rw[hb]
 rw[hv,←hsz]
 by_cases h32:s.size≤32
 rotate_left
 ·have e2:decide ((32:Int)<(s.size:Int))=true:=decide_eq_true (by omega)
  rw[decide_eq_false h32]
  refine gom ?_
  refine WC.rt ?_
  exact QF.p1 (.inl rfl) rfl (.tmp rfl) (⟨by simp,rfl,rfl⟩)
 have e2:decide ((32:Int)<(s.size:Int))=false:=decide_eq_false (by omega)
 rw[decide_eq_true h32]
 have hc:(bytesL s)[(0:Int).toNat]? =some c:=by rw[hb];rfl
 refine gom ?_
 refine WL.pp (Gp.indexS rfl rfl (by decide) hc) ?_
 refine WL.oo (OW.callK rfl (rLetter_fn G c.toNat (by omega) (u8le c)) rfl fun v' G' H' h hg=>?_)
 obtain⟨he,rfl,rfl⟩:=h
 cases he
 cases hlc:letterN c.toNat with
 | false=>
  refine gom ?_
  refine WC.rt ?_
  exact QF.p1 (.inl rfl) rfl (.tmp rfl) (⟨by simp,rfl,rfl⟩)
 | true=>
 refine gom ?_
 refine WC.loop (X:=Nat) (fun i=>[(0, .string s),(3, .int .i64 (i:Int))]) (fun _=>G) (fun _=>[]) (fun i=>s.size - i) (fun i=>i≤s.size∧∀j y,j<i→(c::l)[j]? =some y→(fun c:UInt8=>wordN c.toNat) y=true) 0 ⟨Nat.zero_le _,(fun j y h=>absurd h (Nat.not_lt_zero _))⟩ (by exact⟨rfl,rfl,trivial⟩) rfl (List.Sublist.refl _) fun i hx=>?_
 obtain⟨hi,hall⟩:=hx
 have x2:=wrapS i (by omega)
 by_cases hlt:i<s.size
 rotate_left
 ·have e3:decide ((i:Int)<(s.size:Int))=false:=decide_eq_false (by omega)
  have ha:=all_of (f:=fun c:UInt8=>wordN c.toNat) hall (by omega)
  rw[ha]
  refine gom ?_
  refine WC.rt ?_
  exact QF.p1 (.inl rfl) rfl (.tmp rfl) (⟨rfl,rfl,rfl⟩)
 have e3:decide ((i:Int)<(s.size:Int))=true:=decide_eq_true (by omega)
 obtain⟨y,hy⟩:∃y,(c::l)[i]? =some y:=⟨_,List.getElem?_eq_getElem (by omega)⟩
 have hy':(bytesL s)[i]? =some y:=by rw[hb];exact hy
 refine gom ?_
 refine WL.pp (Gp.indexS rfl rfl (by omega) hy') ?_
 refine WL.oo (OW.callK rfl (rLetter_fn G y.toNat (by omega) (u8le y)) rfl fun v' G' H' h hg=>?_)
 obtain⟨he,rfl,rfl⟩:=h
 cases he
 cases hl1:letterN y.toNat with
 | true=>
  have hw:(fun c:UInt8=>wordN c.toNat) y=true:=by dsimp only;unfold wordN;rw[hl1];rfl
  refine gom ?_
  exact WK.again (i+1) (by omega) ⟨by omega,all_step (f:=fun c:UInt8=>wordN c.toNat) hy hall hw⟩ (by exact⟨rfl,rfl,trivial⟩) rfl (List.Sublist.refl _)
 | false=>
 refine gom ?_
 refine WL.pp (Gp.indexS rfl rfl (by omega) hy') ?_
 refine WL.oo (OW.callK rfl (rDigit_fn G y.toNat (by omega) (u8le y)) rfl fun v' G' H' h hg=>?_)
 obtain⟨he,rfl,rfl⟩:=h
 cases he
 cases hd1:digitN y.toNat with
 | true=>
  have hw:(fun c:UInt8=>wordN c.toNat) y=true:=by dsimp only;unfold wordN;rw[hl1,hd1];rfl
  refine gom ?_
  exact WK.again (i+1) (by omega) ⟨by omega,all_step (f:=fun c:UInt8=>wordN c.toNat) hy hall hw⟩ (by exact⟨rfl,rfl,trivial⟩) rfl (List.Sublist.refl _)
 | false=>
  have hw:(fun c:UInt8=>wordN c.toNat) y=false:=by dsimp only;unfold wordN;rw[hl1,hd1];rfl
  rw[all_not (f:=fun c:UInt8=>wordN c.toNat) hy hw]
  refine gom ?_
  refine WC.rt ?_
  exact QF.p1 (.inl rfl) rfl (.tmp rfl) (⟨rfl,rfl,rfl⟩)
theorem runL_allH {g:Int→Bool} :∀l:List UInt8,decide (runL g l=l.length)=l.all (fun c=>g c.toNat)
 | []=>rfl
 | c::l=>by
  have ih:=runL_allH (g:=g) l
  have hle:=runL_le g l
  rw[List.all_cons]
  by_cases hg:g c.toNat=true
  ·have hr:runL g (c::l)=1+runL g l:=by simp only[runL,if_pos hg]
   rw[hg,Bool.true_and,←ih]
   by_cases h:runL g l=l.length
   ·rw[decide_eq_true h,decide_eq_true (by rw[hr,List.length_cons];omega)]
   ·rw[decide_eq_false h,decide_eq_false (by rw[hr,List.length_cons];omega)]
  ·have hr:runL g (c::l)=0:=by simp only[runL,if_neg hg]
   rw[show g c.toNat=false by simpa using hg,Bool.false_and]
   exact decide_eq_false (by rw[hr,List.length_cons];omega)
theorem word_eq (s:ByteArray):wordR s=(rnameR s&& !keyR s):=by
 unfold wordR rnameR
 cases bytesL s with
 | nil=>rfl
 | cons c l=>
  dsimp only
  rw[runL_allH]
  cases letterN c.toNat<;>cases (c::l).all (fun c=>wordN c.toNat)<;>cases decide ((c::l).length≤32)<;>rfl
theorem rWord_fn (G:Gh) (s:ByteArray) (hl:s.size≤100000000000000):Fn Tryz.prog 98 #[.string s] G [] fun e G' H'=>e= .returned (.bool (wordR s))∧G.le G'∧H'=[]:=by
 rw[word_eq]
 refine Fn.enter Tryz.func98 rfl rfl fun w0=>?_
 refine gom ?_
 refine WL.oo (OW.callK rfl (rname_fn G s hl) rfl fun v' G' H' h hg=>?_)
 obtain⟨he,rfl,rfl⟩:=h
 cases he
 cases h1:rnameR s with
 | false=>
  refine gom ?_
  refine WC.rt ?_
  exact QF.p1 (.inl rfl) rfl (.tmp rfl) (⟨rfl,Gh.le_refl _,rfl⟩)
 | true=>
 refine gom ?_
 refine WL.oo (OW.callK rfl (rKey_fn G s) rfl fun v' G' H' h hg=>?_)
 obtain⟨he,hg1,rfl⟩:=h
 cases he
 refine gom ?_
 refine WC.rt ?_
 exact QF.p1 (.inl rfl) rfl (.tmp rfl) (⟨rfl,hg1,rfl⟩)
set_option maxHeartbeats 4000000 in
theorem rName4_fn (G:Gh) (s:ByteArray) (hl:s.size≤100000000000000):Fn Tryz.prog 200 #[.string s] G [] fun e G' H'=>e= .returned (.bool (nameR s))∧G=G'∧H'=[]:=by
 have hbl:=bytesL_length s
 refine Fn.enter Tryz.func200 rfl rfl fun w0=>?_
 by_cases h1:s.size<1
 ·have y1:decide ((s.size:Int)<1)=true:=decide_eq_true (by omega)
  have hn:nameR s=false:=by unfold nameR;rw[decide_eq_false (show¬1≤s.size by omega)];rfl
  rw[hn]
  refine gom ?_
  refine WC.rt ?_
  exact QF.p1 (.inl rfl) rfl (.tmp rfl) (⟨rfl,rfl,rfl⟩)
 have y1:decide ((s.size:Int)<1)=false:=decide_eq_false (by omega)
 by_cases h2:64<s.size
 ·have y2:decide ((64:Int)<(s.size:Int))=true:=decide_eq_true (by omega)
  have hn:nameR s=false:=by unfold nameR;rw[decide_eq_false (show¬s.size≤64 by omega)];simp
  rw[hn]
  refine gom ?_
  refine WC.rt ?_
  exact QF.p1 (.inl rfl) rfl (.tmp rfl) (⟨rfl,rfl,rfl⟩)
 have y2:decide ((64:Int)<(s.size:Int))=false:=decide_eq_false (by omega)
 cases h3:(s==⟨#[46]⟩)with
 | true=>
  have hn:nameR s=false:=by unfold nameR;rw[h3];simp
  rw[hn]
  refine gom ?_
  rw[h3]
  refine gom ?_
  refine WC.rt ?_
  exact QF.p1 (.inl rfl) rfl (.tmp rfl) (⟨rfl,rfl,rfl⟩)
 | false=>
 cases h4:(s==⟨#[46,46]⟩)with
 | true=>
  have hn:nameR s=false:=by unfold nameR;rw[h4];simp
  rw[hn]
  refine gom ?_
  rw[h3]
  refine gom ?_
  rw[h4]
  refine gom ?_
  refine WC.rt ?_
  exact QF.p1 (.inl rfl) rfl (.tmp rfl) (⟨rfl,rfl,rfl⟩)
 | false=>
 have hn:nameR s=(bytesL s).all (fun c=>nameC c.toNat):=by unfold nameR;rw[h3,h4,decide_eq_true (show 1≤s.size by omega),decide_eq_true (show s.size≤64 by omega)];rfl
 rw[hn]
 refine gom ?_
 rw[h3]
 refine gom ?_
 rw[h4]
 refine gom ?_
 refine WC.loop (X:=Nat) (fun i=>[(0, .string s),(3, .int .i64 (i:Int))]) (fun _=>G) (fun _=>[]) (fun i=>s.size - i) (fun i=>i≤s.size∧∀j y,j<i→(bytesL s)[j]? =some y→(fun c:UInt8=>nameC c.toNat) y=true) 0 ⟨Nat.zero_le _,(fun j y h=>absurd h (Nat.not_lt_zero _))⟩ (by exact⟨rfl,rfl,trivial⟩) rfl (List.Sublist.refl _) fun i hx=>?_
 obtain⟨hi,hall⟩:=hx
 have x2:=wrapS i (by omega)
 by_cases hlt:i<s.size
 rotate_left
 ·have e3:decide ((i:Int)<(s.size:Int))=false:=decide_eq_false (by omega)
  have ha:=all_of (f:=fun c:UInt8=>nameC c.toNat) hall (by omega)
  rw[ha]
  refine gom ?_
  refine WC.rt ?_
  exact QF.p1 (.inl rfl) rfl (.tmp rfl) (⟨rfl,rfl,rfl⟩)
 have e3:decide ((i:Int)<(s.size:Int))=true:=decide_eq_true (by omega)
 obtain⟨y,hy⟩:∃y,(bytesL s)[i]? =some y:=⟨_,List.getElem?_eq_getElem (by omega)⟩
 have hu:=u8le y
 refine gom ?_
 refine WL.pp (Gp.indexS rfl rfl (by omega) hy) ?_
 obtain⟨m,hm⟩:∃m:Int,m=((y.toNat:Nat):Int):=⟨_,rfl⟩
 rw[←hm]at hu⊢
 have hm0:0≤m:=by omega
 have hrng:(0≤m∧m≤44)∨(45≤m∧m≤45)∨(46≤m∧m≤46)∨(47≤m∧m≤47)∨(48≤m∧m≤57)∨(58≤m∧m≤64)∨(65≤m∧m≤90)∨(91≤m∧m≤94)∨(95≤m∧m≤95)∨(96≤m∧m≤96)∨(97≤m∧m≤122)∨(123≤m∧m≤255):=by omega
 rcases hrng with hr | hr | hr | hr | hr | hr | hr | hr | hr | hr | hr | hr
 ·have ge97:decide ((97:Int)≤m)=false:=decide_eq_false (by omega)
  have le122:decide (m≤(122:Int))=true:=decide_eq_true (by omega)
  have ge65:decide ((65:Int)≤m)=false:=decide_eq_false (by omega)
  have le90:decide (m≤(90:Int))=true:=decide_eq_true (by omega)
  have ge48:decide ((48:Int)≤m)=false:=decide_eq_false (by omega)
  have le57:decide (m≤(57:Int))=true:=decide_eq_true (by omega)
  have eq46:(m==(46:Int))=false:=by rw[beq_eq_false_iff_ne];omega
  have eq95:(m==(95:Int))=false:=by rw[beq_eq_false_iff_ne];omega
  have eq45:(m==(45:Int))=false:=by rw[beq_eq_false_iff_ne];omega
  have hw:(fun c:UInt8=>nameC c.toNat) y=false:=by dsimp only;rw[←hm];unfold nameC;simp only[ge97,le122,ge65,le90,ge48,le57,eq46,eq95,eq45];rfl
  rw[all_not (f:=fun c:UInt8=>nameC c.toNat) hy hw]
  refine gom ?_
  refine WC.rt ?_
  exact QF.p1 (.inl rfl) rfl (.tmp rfl) (⟨rfl,rfl,rfl⟩)
 ·have ge97:decide ((97:Int)≤m)=false:=decide_eq_false (by omega)
  have le122:decide (m≤(122:Int))=true:=decide_eq_true (by omega)
  have ge65:decide ((65:Int)≤m)=false:=decide_eq_false (by omega)
  have le90:decide (m≤(90:Int))=true:=decide_eq_true (by omega)
  have ge48:decide ((48:Int)≤m)=false:=decide_eq_false (by omega)
  have le57:decide (m≤(57:Int))=true:=decide_eq_true (by omega)
  have eq46:(m==(46:Int))=false:=by rw[beq_eq_false_iff_ne];omega
  have eq95:(m==(95:Int))=false:=by rw[beq_eq_false_iff_ne];omega
  have eq45:(m==(45:Int))=true:=by rw[beq_iff_eq];omega
  have hw:(fun c:UInt8=>nameC c.toNat) y=true:=by dsimp only;rw[←hm];unfold nameC;simp only[ge97,le122,ge65,le90,ge48,le57,eq46,eq95,eq45];rfl
  refine gom ?_
  exact WK.again (i+1) (by omega) ⟨by omega,all_step (f:=fun c:UInt8=>nameC c.toNat) hy hall hw⟩ (by exact⟨rfl,rfl,trivial⟩) rfl (List.Sublist.refl _)
 ·have ge97:decide ((97:Int)≤m)=false:=decide_eq_false (by omega)
  have le122:decide (m≤(122:Int))=true:=decide_eq_true (by omega)
  have ge65:decide ((65:Int)≤m)=false:=decide_eq_false (by omega)
  have le90:decide (m≤(90:Int))=true:=decide_eq_true (by omega)
  have ge48:decide ((48:Int)≤m)=false:=decide_eq_false (by omega)
  have le57:decide (m≤(57:Int))=true:=decide_eq_true (by omega)
  have eq46:(m==(46:Int))=true:=by rw[beq_iff_eq];omega
  have eq95:(m==(95:Int))=false:=by rw[beq_eq_false_iff_ne];omega
  have eq45:(m==(45:Int))=false:=by rw[beq_eq_false_iff_ne];omega
  have hw:(fun c:UInt8=>nameC c.toNat) y=true:=by dsimp only;rw[←hm];unfold nameC;simp only[ge97,le122,ge65,le90,ge48,le57,eq46,eq95,eq45];rfl
  refine gom ?_
  exact WK.again (i+1) (by omega) ⟨by omega,all_step (f:=fun c:UInt8=>nameC c.toNat) hy hall hw⟩ (by exact⟨rfl,rfl,trivial⟩) rfl (List.Sublist.refl _)
 ·have ge97:decide ((97:Int)≤m)=false:=decide_eq_false (by omega)
  have le122:decide (m≤(122:Int))=true:=decide_eq_true (by omega)
  have ge65:decide ((65:Int)≤m)=false:=decide_eq_false (by omega)
  have le90:decide (m≤(90:Int))=true:=decide_eq_true (by omega)
  have ge48:decide ((48:Int)≤m)=false:=decide_eq_false (by omega)
  have le57:decide (m≤(57:Int))=true:=decide_eq_true (by omega)
  have eq46:(m==(46:Int))=false:=by rw[beq_eq_false_iff_ne];omega
  have eq95:(m==(95:Int))=false:=by rw[beq_eq_false_iff_ne];omega
  have eq45:(m==(45:Int))=false:=by rw[beq_eq_false_iff_ne];omega
  have hw:(fun c:UInt8=>nameC c.toNat) y=false:=by dsimp only;rw[←hm];unfold nameC;simp only[ge97,le122,ge65,le90,ge48,le57,eq46,eq95,eq45];rfl
  rw[all_not (f:=fun c:UInt8=>nameC c.toNat) hy hw]
  refine gom ?_
  refine WC.rt ?_
  exact QF.p1 (.inl rfl) rfl (.tmp rfl) (⟨rfl,rfl,rfl⟩)
 ·have ge97:decide ((97:Int)≤m)=false:=decide_eq_false (by omega)
  have le122:decide (m≤(122:Int))=true:=decide_eq_true (by omega)
  have ge65:decide ((65:Int)≤m)=false:=decide_eq_false (by omega)
  have le90:decide (m≤(90:Int))=true:=decide_eq_true (by omega)
  have ge48:decide ((48:Int)≤m)=true:=decide_eq_true (by omega)
  have le57:decide (m≤(57:Int))=true:=decide_eq_true (by omega)
  have eq46:(m==(46:Int))=false:=by rw[beq_eq_false_iff_ne];omega
  have eq95:(m==(95:Int))=false:=by rw[beq_eq_false_iff_ne];omega
  have eq45:(m==(45:Int))=false:=by rw[beq_eq_false_iff_ne];omega
  have hw:(fun c:UInt8=>nameC c.toNat) y=true:=by dsimp only;rw[←hm];unfold nameC;simp only[ge97,le122,ge65,le90,ge48,le57,eq46,eq95,eq45];rfl
  refine gom ?_
  exact WK.again (i+1) (by omega) ⟨by omega,all_step (f:=fun c:UInt8=>nameC c.toNat) hy hall hw⟩ (by exact⟨rfl,rfl,trivial⟩) rfl (List.Sublist.refl _)
 ·have ge97:decide ((97:Int)≤m)=false:=decide_eq_false (by omega)
  have le122:decide (m≤(122:Int))=true:=decide_eq_true (by omega)
  have ge65:decide ((65:Int)≤m)=false:=decide_eq_false (by omega)
  have le90:decide (m≤(90:Int))=true:=decide_eq_true (by omega)
  have ge48:decide ((48:Int)≤m)=true:=decide_eq_true (by omega)
  have le57:decide (m≤(57:Int))=false:=decide_eq_false (by omega)
  have eq46:(m==(46:Int))=false:=by rw[beq_eq_false_iff_ne];omega
  have eq95:(m==(95:Int))=false:=by rw[beq_eq_false_iff_ne];omega
  have eq45:(m==(45:Int))=false:=by rw[beq_eq_false_iff_ne];omega
  have hw:(fun c:UInt8=>nameC c.toNat) y=false:=by dsimp only;rw[←hm];unfold nameC;simp only[ge97,le122,ge65,le90,ge48,le57,eq46,eq95,eq45];rfl
  rw[all_not (f:=fun c:UInt8=>nameC c.toNat) hy hw]
  refine gom ?_
  refine WC.rt ?_
  exact QF.p1 (.inl rfl) rfl (.tmp rfl) (⟨rfl,rfl,rfl⟩)
 ·have ge97:decide ((97:Int)≤m)=false:=decide_eq_false (by omega)
  have le122:decide (m≤(122:Int))=true:=decide_eq_true (by omega)
  have ge65:decide ((65:Int)≤m)=true:=decide_eq_true (by omega)
  have le90:decide (m≤(90:Int))=true:=decide_eq_true (by omega)
  have ge48:decide ((48:Int)≤m)=true:=decide_eq_true (by omega)
  have le57:decide (m≤(57:Int))=false:=decide_eq_false (by omega)
  have eq46:(m==(46:Int))=false:=by rw[beq_eq_false_iff_ne];omega
  have eq95:(m==(95:Int))=false:=by rw[beq_eq_false_iff_ne];omega
  have eq45:(m==(45:Int))=false:=by rw[beq_eq_false_iff_ne];omega
  have hw:(fun c:UInt8=>nameC c.toNat) y=true:=by dsimp only;rw[←hm];unfold nameC;simp only[ge97,le122,ge65,le90,ge48,le57,eq46,eq95,eq45];rfl
  refine gom ?_
  exact WK.again (i+1) (by omega) ⟨by omega,all_step (f:=fun c:UInt8=>nameC c.toNat) hy hall hw⟩ (by exact⟨rfl,rfl,trivial⟩) rfl (List.Sublist.refl _)
 ·have ge97:decide ((97:Int)≤m)=false:=decide_eq_false (by omega)
  have le122:decide (m≤(122:Int))=true:=decide_eq_true (by omega)
  have ge65:decide ((65:Int)≤m)=true:=decide_eq_true (by omega)
  have le90:decide (m≤(90:Int))=false:=decide_eq_false (by omega)
  have ge48:decide ((48:Int)≤m)=true:=decide_eq_true (by omega)
  have le57:decide (m≤(57:Int))=false:=decide_eq_false (by omega)
  have eq46:(m==(46:Int))=false:=by rw[beq_eq_false_iff_ne];omega
  have eq95:(m==(95:Int))=false:=by rw[beq_eq_false_iff_ne];omega
  have eq45:(m==(45:Int))=false:=by rw[beq_eq_false_iff_ne];omega
  have hw:(fun c:UInt8=>nameC c.toNat) y=false:=by dsimp only;rw[←hm];unfold nameC;simp only[ge97,le122,ge65,le90,ge48,le57,eq46,eq95,eq45];rfl
  rw[all_not (f:=fun c:UInt8=>nameC c.toNat) hy hw]
  refine gom ?_
  refine WC.rt ?_
  exact QF.p1 (.inl rfl) rfl (.tmp rfl) (⟨rfl,rfl,rfl⟩)
 ·have ge97:decide ((97:Int)≤m)=false:=decide_eq_false (by omega)
  have le122:decide (m≤(122:Int))=true:=decide_eq_true (by omega)
  have ge65:decide ((65:Int)≤m)=true:=decide_eq_true (by omega)
  have le90:decide (m≤(90:Int))=false:=decide_eq_false (by omega)
  have ge48:decide ((48:Int)≤m)=true:=decide_eq_true (by omega)
  have le57:decide (m≤(57:Int))=false:=decide_eq_false (by omega)
  have eq46:(m==(46:Int))=false:=by rw[beq_eq_false_iff_ne];omega
  have eq95:(m==(95:Int))=true:=by rw[beq_iff_eq];omega
  have eq45:(m==(45:Int))=false:=by rw[beq_eq_false_iff_ne];omega
  have hw:(fun c:UInt8=>nameC c.toNat) y=true:=by dsimp only;rw[←hm];unfold nameC;simp only[ge97,le122,ge65,le90,ge48,le57,eq46,eq95,eq45];rfl
  refine gom ?_
  exact WK.again (i+1) (by omega) ⟨by omega,all_step (f:=fun c:UInt8=>nameC c.toNat) hy hall hw⟩ (by exact⟨rfl,rfl,trivial⟩) rfl (List.Sublist.refl _)
 ·have ge97:decide ((97:Int)≤m)=false:=decide_eq_false (by omega)
  have le122:decide (m≤(122:Int))=true:=decide_eq_true (by omega)
  have ge65:decide ((65:Int)≤m)=true:=decide_eq_true (by omega)
  have le90:decide (m≤(90:Int))=false:=decide_eq_false (by omega)
  have ge48:decide ((48:Int)≤m)=true:=decide_eq_true (by omega)
  have le57:decide (m≤(57:Int))=false:=decide_eq_false (by omega)
  have eq46:(m==(46:Int))=false:=by rw[beq_eq_false_iff_ne];omega
  have eq95:(m==(95:Int))=false:=by rw[beq_eq_false_iff_ne];omega
  have eq45:(m==(45:Int))=false:=by rw[beq_eq_false_iff_ne];omega
  have hw:(fun c:UInt8=>nameC c.toNat) y=false:=by dsimp only;rw[←hm];unfold nameC;simp only[ge97,le122,ge65,le90,ge48,le57,eq46,eq95,eq45];rfl
  rw[all_not (f:=fun c:UInt8=>nameC c.toNat) hy hw]
  refine gom ?_
  refine WC.rt ?_
  exact QF.p1 (.inl rfl) rfl (.tmp rfl) (⟨rfl,rfl,rfl⟩)
 ·have ge97:decide ((97:Int)≤m)=true:=decide_eq_true (by omega)
  have le122:decide (m≤(122:Int))=true:=decide_eq_true (by omega)
  have ge65:decide ((65:Int)≤m)=true:=decide_eq_true (by omega)
  have le90:decide (m≤(90:Int))=false:=decide_eq_false (by omega)
  have ge48:decide ((48:Int)≤m)=true:=decide_eq_true (by omega)
  have le57:decide (m≤(57:Int))=false:=decide_eq_false (by omega)
  have eq46:(m==(46:Int))=false:=by rw[beq_eq_false_iff_ne];omega
  have eq95:(m==(95:Int))=false:=by rw[beq_eq_false_iff_ne];omega
  have eq45:(m==(45:Int))=false:=by rw[beq_eq_false_iff_ne];omega
  have hw:(fun c:UInt8=>nameC c.toNat) y=true:=by dsimp only;rw[←hm];unfold nameC;simp only[ge97,le122,ge65,le90,ge48,le57,eq46,eq95,eq45];rfl
  refine gom ?_
  exact WK.again (i+1) (by omega) ⟨by omega,all_step (f:=fun c:UInt8=>nameC c.toNat) hy hall hw⟩ (by exact⟨rfl,rfl,trivial⟩) rfl (List.Sublist.refl _)
 ·have ge97:decide ((97:Int)≤m)=true:=decide_eq_true (by omega)
  have le122:decide (m≤(122:Int))=false:=decide_eq_false (by omega)
  have ge65:decide ((65:Int)≤m)=true:=decide_eq_true (by omega)
  have le90:decide (m≤(90:Int))=false:=decide_eq_false (by omega)
  have ge48:decide ((48:Int)≤m)=true:=decide_eq_true (by omega)
  have le57:decide (m≤(57:Int))=false:=decide_eq_false (by omega)
  have eq46:(m==(46:Int))=false:=by rw[beq_eq_false_iff_ne];omega
  have eq95:(m==(95:Int))=false:=by rw[beq_eq_false_iff_ne];omega
  have eq45:(m==(45:Int))=false:=by rw[beq_eq_false_iff_ne];omega
  have hw:(fun c:UInt8=>nameC c.toNat) y=false:=by dsimp only;rw[←hm];unfold nameC;simp only[ge97,le122,ge65,le90,ge48,le57,eq46,eq95,eq45];rfl
  rw[all_not (f:=fun c:UInt8=>nameC c.toNat) hy hw]
  refine gom ?_
  refine WC.rt ?_
  exact QF.p1 (.inl rfl) rfl (.tmp rfl) (⟨rfl,rfl,rfl⟩)
end
section
open Go.MapKept
abbrev slash:ByteArray:=⟨#[47]⟩
theorem index_at:∀(l:List UInt8) (j:Nat),(∀k c,k<j→l[k]? =some c→c≠47)→l[j]? =some 47→Lib.index l [47]=(j:Int)
 | [],j,_,h=>by simp at h
 | b::l,0,_,h=>by
  have:b=47:=by simpa using h
  subst this
  rw[Lib.index];simp[List.isPrefixOf]
 | b::l,j+1,h1,h2=>by
  have hb:b≠47:=h1 0 b (by omega) rfl
  have hp:([47]:List UInt8).isPrefixOf (b::l)=false:=by simp[List.isPrefixOf,Ne.symm hb]
  have ih:=index_at l j (fun k c hk hc=>h1 (k+1) c (by omega) (by simpa using hc)) (by simpa using h2)
  rw[Lib.index,hp,ih]
  simp
theorem index_no:∀(l:List UInt8),(∀c∈l,c≠47)→Lib.index l [47]= -1
 | [],_=>by simp[Lib.index]
 | b::l,h=>by
  have hb:b≠47:=h b (List.mem_cons_self ..)
  have hp:([47]:List UInt8).isPrefixOf (b::l)=false:=by simp[List.isPrefixOf,Ne.symm hb]
  have ih:=index_no l fun c hc=>h c (List.mem_cons_of_mem _ hc)
  rw[Lib.index,hp,ih];rfl
theorem rest_list (s:ByteArray) (f:Nat):(s.extract f s.size).data.toList=(bytesL s).drop f:=by
 have:(s.extract f s.size).data=s.data.extract f s.size:=by simp
 rw[this]
 unfold bytesL
 rw[Array.toList_extract,List.extract_eq_drop_take',List.drop_take]
 rw[List.take_of_length_le]
 simp
theorem ext_front (s:ByteArray) (f i:Nat) (hf:f≤i) (hi:i≤s.size):(s.extract f s.size).extract 0 (i - f+0)=s.extract f i:=by
 apply ByteArray.ext
 simp only[ByteArray.data_extract]
 rw[Array.extract_extract]
 congr 1
 simp
 omega
theorem ext_back (s:ByteArray) (f i:Nat) (hf:f≤i) (hi:i<s.size):(s.extract f s.size).extract (i - f+1) (s.extract f s.size).size=s.extract (i+1) s.size:=by
 apply ByteArray.ext
 simp only[ByteArray.data_extract,ByteArray.size_extract]
 rw[Array.extract_extract]
 congr 1
 ·omega
 ·simp;omega
def restL (s:ByteArray) (f:Nat):List ByteArray:=Lib.splitB slash 0 (Lib.countB (s.extract f s.size) slash) (s.extract f s.size)
theorem restL_all (s:ByteArray):restL s 0=slashL s:=by
 have:s.extract 0 s.size=s:=by apply ByteArray.ext;simp
 unfold restL slashL
 rw[this]
theorem restL_hit {s:ByteArray} {f i:Nat} (hf:f≤i) (h1:∀k c,f≤k→k<i→(bytesL s)[k]? =some c→c≠47) (h2:(bytesL s)[i]? =some 47):restL s f=s.extract f i::restL s (i+1):=by
 have hi:i<s.size:=by rw[←bytesL_length];exact(List.getElem?_eq_some_iff.1 h2).1
 have hx:Lib.indexB (s.extract f s.size) slash=((i - f:Nat):Int):=by
  show Lib.index (s.extract f s.size).data.toList [47]=_
  rw[rest_list]
  refine index_at _ _ (fun k c hk hc=>?_) ?_
  ·rw[List.getElem?_drop]at hc;exact h1 (f+k) c (by omega) (by omega) hc
  ·rw[List.getElem?_drop,show f+(i - f)=i by omega];exact h2
 have hc:=Lib.countB_hit (s.extract f s.size) slash (i - f) (by decide) hx
 unfold restL
 rw[hc,Nat.add_comm 1,Lib.splitB_hit slash 0 _ _ (i - f) hx,ext_front s f i hf (by omega)]
 have hs:slash.size=1:=rfl
 rw[hs,ext_back s f i hf hi]
theorem restL_end {s:ByteArray} {f:Nat} (h1:∀k c,f≤k→(bytesL s)[k]? =some c→c≠47):restL s f=[s.extract f s.size]:=by
 have hx:Lib.indexB (s.extract f s.size) slash= -1:=by
  show Lib.index (s.extract f s.size).data.toList [47]=_
  rw[rest_list]
  refine index_no _ fun c hc=>?_
  obtain⟨k,hk⟩:=List.getElem?_of_mem hc
  rw[List.getElem?_drop]at hk
  exact h1 (f+k) c (by omega) hk
 unfold restL
 rw[Lib.countB_miss _ _ hx,Lib.splitB_zero]
end
section
open Go.MapKept
section
variable {P:Program} {L:List (Nat×Value)} {d:Option Tmp} {ty:TypeId} {pos:String} {af:Array Edge} {gu:Option (Nat×Bool)}
theorem Gp.sliceS2 {t:TypeId} {x y z:Operand} {s:ByteArray} {k k':IntKind} {i j:Int} (hx:ev L x=some (.string s)) (hy:ev L y=some (.int k i)) (hz:ev L z=some (.int k' j)) [hu:Und P t .string] (h0:0≤i) (h1:i≤j) (h2:j≤s.size):Gp P L ⟨d, .slice t x (some y) (some z) none,ty,pos,af,gu⟩ (.string (s.extract i.toNat j.toNat)):=
 fun a st w=>by
  have h:=run_slice_string_if (P:=P) w t s k k' i j hu.h
  rw[if_pos ⟨by omega,h2⟩,if_pos ⟨h0,h1⟩]at h
  simp[execOp,st.eval hx,st.eval hy,st.eval hz,run_sliceAt_string w t _ _ _ _ hu.h,h]
end
abbrev StVec (A:Option Addr) (l:List ByteArray) (cap:Nat) (x:Own):Prop:=Vec 9 1 A l.length cap (l.map Value.string) x
theorem StVec.nil:StVec none [] 0 (.spare 0 0 0):=⟨rfl, .inl ⟨rfl,rfl,rfl,rfl⟩⟩
theorem StVec.snoc {A:Option Addr} {l:List ByteArray} {cap:Nat} {x:Own} {z:ByteArray} (h:Vec 9 1 A (l.length+1) cap (l.map Value.string++[.string z]) x):StVec A (l++[z]) cap x:=by
 unfold StVec;rw[List.map_append,List.length_append];exact h
theorem StVec.sl {G:Gh} {A:Option Addr} {l:List ByteArray} (hz:l.map Value.string=[]∨∃b,A=some ⟨b,0,none⟩∧Cs G b 0 (l.map Value.string)):Sl Kd.str G A l:=by
 rcases hz with hz | ⟨b,rfl,hc⟩
 ·have:l=[]:=by simpa using hz
  subst this;exact Sl.nil _ _ _
 ·exact Cs.strs hc
theorem restL_len (s:ByteArray):∀(n f:Nat),s.size - f≤n→(restL s f).length≤n+1
 | 0,f,h=>by
  rw[restL_end fun k c hk hc=>by have:=(List.getElem?_eq_some_iff.1 hc).1;rw[bytesL_length]at this;omega]
  simp
 | n+1,f,h=>by
  by_cases hx:∃k,f≤k∧(bytesL s)[k]? =some 47
  ·have hmin:∃k,f≤k∧(bytesL s)[k]? =some 47∧∀j,f≤j→j<k→(bytesL s)[j]? ≠some 47:=by
    obtain⟨k,h1,h2⟩:=hx
    induction k using Nat.strongRecOn with
    | _ k ih=>
     by_cases hj:∃j,f≤j∧j<k∧(bytesL s)[j]? =some 47
     ·obtain⟨j,h3,h4,h5⟩:=hj
      exact ih j h4 h3 h5
     ·exact⟨k,h1,h2,fun j h3 h4 h5=>hj ⟨j,h3,h4,h5⟩⟩
   obtain⟨k,h1,h2,h3⟩:=hmin
   rw[restL_hit h1 (fun j c hj hk hc e=>h3 j hj hk (by rw[hc,e])) h2]
   have hk:=(List.getElem?_eq_some_iff.1 h2).1
   rw[bytesL_length]at hk
   have:=restL_len s n (k+1) (by omega)
   simp;omega
  ·rw[restL_end fun k c hk hc e=>hx ⟨k,hk,by rw[hc,e]⟩]
   simp
def lvalR (v:V):Bool:=
 if v.t=1 then !v.b&&(v.s==⟨#[]⟩)else if v.t=2 then v.i==0&&(v.s==⟨#[]⟩)else if v.t=3 then v.i==0&& !v.b&&decide ((v.s.size:Int)≤4096)else false
theorem lvalR_eq (v:V):lvalR v=valueR v:=by
 obtain⟨t,i,b,s⟩:=v
 unfold lvalR valueR
 dsimp only
 by_cases h1:t=1
 ·subst h1
  rw[if_pos rfl,if_pos rfl,bytes_beq]
  by_cases hs:s=⟨#[]⟩
  ·subst hs;cases b<;>simp<;>decide
  ·rw[decide_eq_false hs];cases b<;>simp[hs]
 rw[if_neg h1,if_neg h1]
 by_cases h2:t=2
 ·subst h2
  rw[if_pos rfl,if_pos rfl,bytes_beq]
  by_cases hs:s=⟨#[]⟩
  ·subst hs
   by_cases hi:i=0<;>simp[hi]<;>decide
  ·rw[decide_eq_false hs];simp[hs]
 rw[if_neg h2,if_neg h2]
 by_cases h3:t=3
 ·subst h3
  rw[if_pos rfl,if_pos rfl]
  by_cases hi:i=0
  ·subst hi;cases b<;>simp
  ·cases b<;>simp[hi]
 ·rw[if_neg h3,if_neg h3];rfl
attribute [local irreducible] Tryz.prog
attribute [local irreducible] restL slashL nameR
set_option maxHeartbeats 2000000 in
theorem rPieces_fn (G:Gh) (s:ByteArray) (hl:s.size≤1000000000000):Fn Tryz.prog 199 #[.string s] G [] fun e G' H'=>∃A cap x,e= .returned (.slice A (slashL s).length cap)∧G=G'∧StVec A (slashL s) cap x∧H'=[x]:=by
 have hbl:=bytesL_length s
 have hrl:=restL_len s s.size 0 (by omega)
 refine Fn.enter Tryz.func199 rfl rfl fun w0=>?_
 refine gom ?_
 refine WC.nothing ?_
 refine WC.loop (X:=Nat×Nat×List ByteArray×Option Addr×Nat×Own) (fun t=>[(0, .string s),(3, .slice t.2.2.2.1 t.2.2.1.length t.2.2.2.2.1),(4, .int .i64 (t.2.1:Int)),(5, .int .i64 (t.1:Int))]) (fun _=>G) (fun t=>[t.2.2.2.2.2]) (fun t=>s.size+1 - t.1)
  (fun t=>t.1≤s.size+1∧t.2.1≤t.1∧StVec t.2.2.2.1 t.2.2.1 t.2.2.2.2.1 t.2.2.2.2.2∧(∀k c,t.2.1≤k→k<t.1→(bytesL s)[k]? =some c→c≠47)∧(t.1≤s.size→slashL s=t.2.2.1++restL s t.2.1)∧(s.size<t.1→slashL s=t.2.2.1)) (0,0,[],none,0, .spare 0 0 0)
  ⟨Nat.zero_le _,Nat.le_refl _,StVec.nil,(fun k c _ h=>absurd h (Nat.not_lt_zero _)),fun _=>(restL_all s).symm,fun h=>absurd h (Nat.not_lt_zero _)⟩ (by exact⟨rfl,rfl,rfl,rfl,trivial⟩) rfl (List.Sublist.refl _) fun t ht=>?_
 obtain⟨i,f,l,B,c,o⟩:=t
 obtain⟨hi,hf,hv,hno,hS1,hS2⟩:=ht
 dsimp only at hi hf hv hno hS1 hS2
 have x2:=wrapS i (by omega)
 by_cases hlt:i≤s.size
 rotate_left
 ·have e2:decide ((i:Int)≤(s.size:Int))=false:=decide_eq_false (by omega)
  rw[hS2 (by omega)]
  refine gom ?_
  refine WC.rt ?_
  exact QF.p1 (.inl rfl) rfl (.tmp rfl) (⟨B,c,o,rfl,rfl,hv,rfl⟩)
 have e2:decide ((i:Int)≤(s.size:Int))=true:=decide_eq_true (by omega)
 have hS:=hS1 hlt
 have hlen:l.length+(restL s f).length≤s.size+1:=by rw[←List.length_append,←hS,←restL_all];exact hrl
 by_cases hend:i=s.size
 ·have e3:((i:Int)==(s.size:Int))=true:=by rw[beq_iff_eq];omega
  have hre:=restL_end (s:=s) (f:=f) (fun k c hk hc=>by
   have hkl:=(List.getElem?_eq_some_iff.1 hc).1
   exact hno k c hk (by omega) hc)
  rw[hre]at hS hlen
  rw[List.length_singleton]at hlen
  refine gom ?_
  have p0:(0:Int)≤(f:Int):=by omega
  have p1:(f:Int)≤(i:Int):=by omega
  have p2:(i:Int)≤(s.size:Int):=by omega
  refine WL.pp (Gp.sliceS2 rfl rfl rfl (by exact p0) (by exact p1) (by exact p2)) ?_
  rw[Int.toNat_natCast,Int.toNat_natCast]
  refine WL.op kr (OW.buildSlice rfl kr kr (by rfl) rfl fun b27=>?_)
  refine WL.oo (OW.append rfl rfl kr kr hv atA (Rds.blk0 (cs:=[.string (s.extract f i)]) .here rfl) rfl rfl (by first | omega | (dsimp only;omega)) (by first | omega | (dsimp only;omega)) rfl fun A3 c3 o3 hv3=>?_)
  have h3:=StVec.snoc hv3
  have hl3:l.length+1=(l++[s.extract f i]).length:=by rw[List.length_append];rfl
  refine gom ?_
  refine WK.pick [o3] ?_
  exact WK.again (i+1,i+1,l++[s.extract f i],A3,c3,o3) (by dsimp only;omega) ⟨by dsimp only;omega,Nat.le_refl _,h3,(fun k c h1 h2=>by dsimp only at h1 h2;omega),fun h=>by dsimp only at h;omega,fun _=>by dsimp only;rw[hS,hend]⟩ (by exact⟨rfl,by show _=some (Value.slice A3 _ c3);rw[←hl3];rfl,rfl,rfl,trivial⟩) rfl (List.Sublist.refl _)
 have e3:((i:Int)==(s.size:Int))=false:=by rw[beq_eq_false_iff_ne];omega
 obtain⟨y,hy⟩:∃y,(bytesL s)[i]? =some y:=⟨_,List.getElem?_eq_getElem (by omega)⟩
 refine gom ?_
 refine WL.pp (Gp.indexS rfl rfl (by omega) hy) ?_
 by_cases h47:y=47
 ·subst h47
  have hrh:=restL_hit (s:=s) hf hno hy
  rw[hrh]at hS hlen
  rw[List.length_cons]at hlen
  refine gom ?_
  have p0:(0:Int)≤(f:Int):=by omega
  have p1:(f:Int)≤(i:Int):=by omega
  have p2:(i:Int)≤(s.size:Int):=by omega
  refine WL.pp (Gp.sliceS2 rfl rfl rfl (by exact p0) (by exact p1) (by exact p2)) ?_
  rw[Int.toNat_natCast,Int.toNat_natCast]
  refine WL.op kr (OW.buildSlice rfl kr kr (by rfl) rfl fun b27=>?_)
  refine WL.oo (OW.append rfl rfl kr kr hv atA (Rds.blk0 (cs:=[.string (s.extract f i)]) .here rfl) rfl rfl (by first | omega | (dsimp only;omega)) (by first | omega | (dsimp only;omega)) rfl fun A3 c3 o3 hv3=>?_)
  have h3:=StVec.snoc hv3
  have hl3:l.length+1=(l++[s.extract f i]).length:=by rw[List.length_append];rfl
  refine gom ?_
  refine WK.pick [o3] ?_
  exact WK.again (i+1,i+1,l++[s.extract f i],A3,c3,o3) (by dsimp only;omega) ⟨by dsimp only;omega,Nat.le_refl _,h3,(fun k c h1 h2=>by dsimp only at h1 h2;omega),fun _=>by dsimp only;rw[hS];simp,fun h=>by dsimp only at h;omega⟩ (by exact⟨rfl,by show _=some (Value.slice A3 _ c3);rw[←hl3];rfl,rfl,rfl,trivial⟩) rfl (List.Sublist.refl _)
 ·have e4:(((y.toNat:Nat):Int)==47)=false:=by
   rw[beq_eq_false_iff_ne]
   intro h
   apply h47
   exact UInt8.toNat_inj.1 (by show y.toNat=47;omega)
  refine gom ?_
  exact WK.again (i+1,f,l,B,c,o) (by dsimp only;omega) ⟨by dsimp only;omega,by dsimp only;omega,hv,(fun k c h1 h2 hc=>by
   dsimp only at h1 h2
   rcases Nat.lt_or_ge k i with h | h
   ·exact hno k c h1 h hc
   ·obtain rfl:k=i:=by omega
    rw[hy]at hc;cases hc;exact h47),fun _=>hS,fun h=>by dsimp only at h;omega⟩ (by exact⟨rfl,rfl,rfl,rfl,trivial⟩) rfl (List.Sublist.refl _)
theorem slash_size (s:ByteArray):∀x∈slashL s,x.size≤s.size:=fun x hx=>by
 unfold slashL at hx
 exact splitB_size _ _ _ x hx
theorem rPath_fn (G:Gh) (s:ByteArray) (hl:s.size≤1000000000000):Fn Tryz.prog 144 #[.string s] G [] fun e G' H'=>e= .returned (.bool (pathR s))∧G.le G'∧H'=[]:=by
 refine Fn.enter Tryz.func144 rfl rfl fun w0=>?_
 have hN:Fn Tryz.prog 168 #[.string s] G [] fun e G' H'=>∃A n cap,e= .returned (.tuple #[.slice A n cap, .bool (pathR s)])∧G.le G'∧H'=[]:=by
  refine Fn.enter Tryz.func168 rfl rfl fun w0=>?_
  cases h1:(s==⟨#[]⟩)with
  | true=>
   have hp:pathR s=true:=by unfold pathR;rw[h1];rfl
   rw[hp]
   refine gom ?_
   rw[h1]
   refine gom ?_
   refine WC.rt ?_
   exact QF.p2 (.inl rfl) rfl (.tmp rfl) (.tmp rfl) (⟨none,0,0,rfl,Gh.le_refl _,rfl⟩)
  | false=>
  have hp:pathR s=(decide ((slashL s).length≤32)&&(slashL s).all nameR):=by unfold pathR;rw[h1];rfl
  refine gom ?_
  rw[h1]
  refine gom ?_
  refine WL.oo (OW.callK rfl (rPieces_fn G s hl) rfl fun v' G' H' h hg=>?_)
  obtain⟨A,cap,x,he,rfl,hv,rfl⟩:=h
  cases he
  refine WL.frozenVec hv atA fun G1 hg1 hz1=>?_
  have hs1:=StVec.sl hz1
  have hrl:(slashL s).length≤s.size+1:=by rw[←restL_all];exact restL_len s s.size 0 (by omega)
  have hsz:=slash_size s
  refine gom ?_
  refine WC.loop (X:=Nat) (fun i=>[(4, .slice A (slashL s).length cap),(5, .int .i64 (i:Int))]) (fun _=>G1) (fun _=>[]) (fun i=>(slashL s).length - i) (fun i=>i≤(slashL s).length∧∀j y,j<i→(slashL s)[j]? =some y→nameR y=true) 0 ⟨Nat.zero_le _,(fun j y h=>absurd h (Nat.not_lt_zero _))⟩ (by exact⟨rfl,rfl,trivial⟩) rfl (List.nil_sublist _) fun i hx=>?_
  obtain⟨hi,hall⟩:=hx
  have x2:=wrapS i (by omega)
  by_cases hlt:i<(slashL s).length
  rotate_left
  ·have e2:decide ((i:Int)<((slashL s).length:Int))=false:=decide_eq_false (by omega)
   have ha:=all_of hall (by omega)
   by_cases h32:(slashL s).length≤32
   ·have e3:decide ((32:Int)<((slashL s).length:Int))=false:=decide_eq_false (by omega)
    rw[hp,ha,decide_eq_true h32]
    refine gom ?_
    refine WC.rt ?_
    exact QF.p2 (.inl rfl) rfl (.tmp rfl) (.tmp rfl) (⟨A,_,cap,rfl,hg1,rfl⟩)
   ·have e3:decide ((32:Int)<((slashL s).length:Int))=true:=decide_eq_true (by omega)
    rw[hp,ha,decide_eq_false h32]
    refine gom ?_
    refine WC.rt ?_
    exact QF.p2 (.inl rfl) rfl (.tmp rfl) (.tmp rfl) (⟨none,0,0,rfl,hg1,rfl⟩)
  have e2:decide ((i:Int)<((slashL s).length:Int))=true:=decide_eq_true (by omega)
  obtain⟨y,hy⟩:∃y,(slashL s)[i]? =some y:=⟨_,List.getElem?_eq_getElem hlt⟩
  obtain⟨ab,ao,cs,rfl,hk,hcs⟩:=hs1 i y hy
  obtain rfl:cs=[.string y]:=hk
  have x0:(0:Int)≤i:=by omega
  have x1:(i:Int)<((slashL s).length:Int):=by omega
  have hys:=hsz y (List.mem_of_getElem? hy)
  refine gom ?_
  refine WL.oo (OW.callK rfl (rName4_fn G1 y (by omega)) rfl fun v' G' H' h hg=>?_)
  obtain⟨he,rfl,rfl⟩:=h
  cases he
  cases hn:nameR y with
  | true=>
   refine gom ?_
   exact WK.again (i+1) (by omega) ⟨by omega,all_step hy hall hn⟩ (by exact⟨rfl,rfl,trivial⟩) rfl (List.nil_sublist _)
  | false=>
   rw[hp,all_not hy hn,Bool.and_false]
   refine gom ?_
   refine WC.rt ?_
   exact QF.p2 (.inl rfl) rfl (.tmp rfl) (.tmp rfl) (⟨none,0,0,rfl,hg1,rfl⟩)
 refine gom ?_
 refine WL.oo (OW.callK rfl (hN) rfl fun v' G' H' h hg=>?_)
 obtain⟨A,n,cap,he,hg1,rfl⟩:=h
 cases he
 refine gom ?_
 refine WC.rt ?_
 exact QF.p1 (.inl rfl) rfl (.tmp rfl) (⟨rfl,hg1,rfl⟩)
theorem rplace_fn (G:Gh) (s:ByteArray) (hl:s.size≤1000000000000):Fn Tryz.prog 96 #[.string s] G [] fun e G' H'=>e= .returned (.bool (fileR s))∧G.le G'∧H'=[]:=by
 refine Fn.enter Tryz.func96 rfl rfl fun w0=>?_
 cases h1:(s==⟨#[]⟩)with
 | true=>
  have hv:fileR s=false:=by unfold fileR;rw[h1];rfl
  rw[hv]
  refine gom ?_
  rw[h1]
  refine gom ?_
  refine WC.rt ?_
  exact QF.p1 (.inl rfl) rfl (.tmp rfl) (⟨rfl,Gh.le_refl _,rfl⟩)
 | false=>
 have hv:fileR s=pathR s:=by unfold fileR;rw[h1];rfl
 rw[hv]
 refine gom ?_
 rw[h1]
 refine gom ?_
 refine WL.oo (OW.callK rfl (rPath_fn G s hl) rfl fun v' G' H' h hg=>?_)
 obtain⟨he,hg1,rfl⟩:=h
 cases he
 refine gom ?_
 refine WC.rt ?_
 exact QF.p1 (.inl rfl) rfl (.tmp rfl) (⟨rfl,hg1,rfl⟩)
theorem rhead_fn (G:Gh) (A:Option Addr) (l:List Int) (cap:Nat) (r:Int) (hA:Sl (Kd.int .i64) G A l) (hl:l.length≤100000000000000):
  Fn Tryz.prog 99 #[.slice A l.length cap, .int .i64 r] G [] fun e G' H'=>e= .returned (.bool (headR l r))∧G=G'∧H'=[]:=by
 refine Fn.enter Tryz.func99 rfl rfl fun w0=>?_
 refine gom ?_
 refine WC.loop (X:=Nat) (fun i=>[(0, .slice A l.length cap),(1, .int .i64 r),(5, .int .i64 i)]) (fun _=>G) (fun _=>[]) (fun i=>l.length - i) (fun i=>i≤l.length∧∀j y,j<i→l[j]? =some y→typedR y=true) 0 ⟨Nat.zero_le _,fun j y h=>by omega⟩ (by exact⟨rfl,rfl,rfl,trivial⟩) rfl (List.Sublist.refl _) fun i hx=>?_
 obtain⟨hi,hall⟩:=hx
 by_cases hlt:i<l.length
 rotate_left
 ·have e2:decide ((i:Int)<(l.length:Int))=false:=decide_eq_false (by omega)
  have ha:=all_of hall (by omega)
  cases h5:decide ((l.length:Int)≤64)with
  | false=>
   refine gom ?_
   refine WC.rt ?_
   exact QF.p1 (.inl rfl) rfl (.tmp rfl) (⟨by rw[headR,ha,h5];rfl,rfl,rfl⟩)
  | true=>
  have hr:(r==0 || typedR r)=(decide (0≤r)&&decide (r≤3)):=by
   unfold typedR
   rw[Bool.eq_iff_iff]
   simp
   omega
  cases h6:decide ((0:Int)≤r)with
  | false=>
   refine gom ?_
   refine WC.rt ?_
   exact QF.p1 (.inl rfl) rfl (.tmp rfl) (⟨by rw[headR,ha,h5,hr,h6];rfl,rfl,rfl⟩)
  | true=>
   refine gom ?_
   refine WC.rt ?_
   exact QF.p1 (.inl rfl) rfl (.tmp rfl) (⟨by rw[headR,ha,h5,hr,h6];rfl,rfl,rfl⟩)
 have e2:decide ((i:Int)<(l.length:Int))=true:=decide_eq_true (by omega)
 obtain⟨v,hv⟩:∃v,l[i]? =some v:=⟨_,List.getElem?_eq_getElem hlt⟩
 obtain⟨b,o,rfl,hcs⟩:=hA.at hv
 have x0:(0:Int)≤(i:Int):=by omega
 have x1:(i:Int)<(l.length:Int):=by omega
 have x2:=wrapS i (by omega)
 by_cases hv1:v<1
 ·have e3:decide (v<1)=true:=decide_eq_true hv1
  have hf:typedR v=false:=by unfold typedR;rw[decide_eq_false (by omega)];rfl
  refine gom ?_
  refine WC.rt ?_
  exact QF.p1 (.inl rfl) rfl (.tmp rfl) (⟨by rw[headR,all_not hv hf];rfl,rfl,rfl⟩)
 have e3:decide (v<1)=false:=decide_eq_false hv1
 by_cases hv3:3<v
 ·have e4:decide ((3:Int)<v)=true:=decide_eq_true hv3
  have hf:typedR v=false:=by unfold typedR;rw[decide_eq_false (show¬v≤3 by omega),Bool.and_false]
  refine gom ?_
  refine WC.rt ?_
  exact QF.p1 (.inl rfl) rfl (.tmp rfl) (⟨by rw[headR,all_not hv hf];rfl,rfl,rfl⟩)
 have e4:decide ((3:Int)<v)=false:=decide_eq_false hv3
 have hf:typedR v=true:=by unfold typedR;rw[decide_eq_true (by omega),decide_eq_true (by omega)];rfl
 refine gom ?_
 exact WK.again (i+1) (by omega) ⟨by omega,all_step hv hall hf⟩ (by exact⟨rfl,rfl,rfl,trivial⟩) rfl (List.nil_sublist _)
set_option maxHeartbeats 1000000 in
theorem rvalue_fn (G:Gh) (v:V):Fn Tryz.prog 97 #[.agg #[.int .i64 v.t, .int .i64 v.i, .bool v.b, .string v.s]] G [] fun e G' H'=>e= .returned (.bool (valueR v))∧G=G'∧H'=[]:=by
 rw[←lvalR_eq]
 refine Fn.enter Tryz.func97 rfl rfl fun w0=>?_
 obtain⟨t,i,b,s⟩:=v
 refine WC.seq ?_
 refine WC.region ?_
 refine WL.oo (OW.box rfl rfl fun b1=>?_)
 unfold lvalR
 dsimp only
 by_cases h1:t=1
 ·subst h1
  rw[if_pos rfl]
  cases b with
  | true=>
   refine gom ?_
   refine WC.rt ?_
   exact QF.p1 (.inl rfl) rfl (.tmp rfl) (⟨rfl,rfl,rfl⟩)
  | false=>
   refine gom ?_
   refine WC.rt ?_
   exact QF.p1 (.inl rfl) rfl (.tmp rfl) (⟨by simp,rfl,rfl⟩)
 have e1:(t==1)=false:=by simpa using h1
 rw[if_neg h1]
 by_cases h2:t=2
 ·subst h2
  rw[if_pos rfl]
  cases hi:(i==0)with
  | true=>
   refine gom ?_
   refine WC.rt ?_
   exact QF.p1 (.inl rfl) rfl (.tmp rfl) (⟨by simp,rfl,rfl⟩)
  | false=>
   refine gom ?_
   refine WC.rt ?_
   exact QF.p1 (.inl rfl) rfl (.tmp rfl) (⟨by simp,rfl,rfl⟩)
 have e2:(t==2)=false:=by simpa using h2
 rw[if_neg h2]
 by_cases h3:t=3
 ·subst h3
  rw[if_pos rfl]
  cases hi:(i==0)with
  | false=>
   refine gom ?_
   refine WC.rt ?_
   exact QF.p1 (.inl rfl) rfl (.tmp rfl) (⟨by simp,rfl,rfl⟩)
  | true=>
  cases b with
  | true=>
   refine gom ?_
   refine WC.rt ?_
   exact QF.p1 (.inl rfl) rfl (.tmp rfl) (⟨by simp,rfl,rfl⟩)
  | false=>
   refine gom ?_
   refine WC.rt ?_
   exact QF.p1 (.inl rfl) rfl (.tmp rfl) (⟨by simp,rfl,rfl⟩)
 have e3:(t==3)=false:=by simpa using h3
 rw[if_neg h3]
 refine gom ?_
 refine WC.rt ?_
 exact QF.p1 (.inl rfl) rfl (.tmp rfl) (⟨rfl,rfl,rfl⟩)
theorem rsame_fn (G:Gh) (A B:Option Addr) (l m:List Int) (ca cb:Nat) (ha:Sl (Kd.int .i64) G A l) (hb:Sl (Kd.int .i64) G B m) (hl:l.length≤100000000000000):
  Fn Tryz.prog 202 #[.slice A l.length ca, .slice B m.length cb] G [] fun e G' H'=>e= .returned (.bool (decide (l=m)))∧G=G'∧H'=[]:=by
 refine Fn.enter Tryz.func202 rfl rfl fun w0=>?_
 by_cases hne:l.length=m.length
 rotate_left
 ·have e1:((l.length:Int) != (m.length:Int))=true:=by rw[bne_iff_ne];omega
  refine gom ?_
  refine WC.rt ?_
  exact QF.p1 (.inl rfl) rfl (.tmp rfl) (⟨by rw[decide_eq_false fun e=>hne (by rw[e])],rfl,rfl⟩)
 have e1:((l.length:Int) != (m.length:Int))=false:=by rw[hne];simp
 refine gom ?_
 refine WC.loop (X:=Nat) (fun i=>[(5, .int .i64 i),(0, .slice A l.length ca),(1, .slice B m.length cb)]) (fun _=>G) (fun _=>[]) (fun i=>l.length - i) (fun i=>i≤l.length∧∀j,j<i→l[j]? =m[j]?) 0 ⟨Nat.zero_le _,fun j h=>by omega⟩ (by exact⟨rfl,rfl,rfl,trivial⟩) rfl (List.Sublist.refl _) fun i hx=>?_
 obtain⟨hi,hall⟩:=hx
 by_cases hlt:i<l.length
 rotate_left
 ·have e2:decide ((i:Int)<(l.length:Int))=false:=decide_eq_false (by omega)
  have he:l=m:=by
   refine List.ext_getElem? fun j=>?_
   rcases Nat.lt_or_ge j i with h | h
   ·exact hall j h
   ·rw[List.getElem?_eq_none (by omega),List.getElem?_eq_none (by omega)]
  refine gom ?_
  refine WC.rt ?_
  exact QF.p1 (.inl rfl) rfl (.tmp rfl) (⟨by rw[decide_eq_true he],rfl,rfl⟩)
 have e2:decide ((i:Int)<(l.length:Int))=true:=decide_eq_true (by omega)
 obtain⟨x,hx⟩:∃x,l[i]? =some x:=⟨_,List.getElem?_eq_getElem hlt⟩
 obtain⟨y,hy⟩:∃y,m[i]? =some y:=⟨_,List.getElem?_eq_getElem (by omega)⟩
 obtain⟨ab,ao,cs1,rfl,hk1,hca⟩:=ha i x hx
 obtain⟨bb,bo,cs2,rfl,hk2,hcb⟩:=hb i y hy
 obtain rfl:cs1=[.int .i64 x]:=hk1
 obtain rfl:cs2=[.int .i64 y]:=hk2
 have x0:(0:Int)≤i:=by omega
 have x2:(i:Int)<(l.length:Int):=by omega
 have x3:(i:Int)<(m.length:Int):=by omega
 have x4:=wrapS i (by omega)
 by_cases hxy:x=y
 ·have e3:(x != y)=false:=by simp[hxy]
  refine gom ?_
  exact WK.again (i+1) (by omega) ⟨by omega,fun j hj=>by
   rcases Nat.lt_or_ge j i with h | h
   ·exact hall j h
   ·obtain rfl:j=i:=by omega
    rw[hx,hy,hxy]⟩ (by exact⟨rfl,rfl,rfl,trivial⟩) rfl (List.Sublist.refl _)
 ·have e3:(x != y)=true:=by rw[bne_iff_ne];exact hxy
  refine gom ?_
  refine WC.rt ?_
  exact QF.p1 (.inl rfl) rfl (.tmp rfl) (⟨by rw[decide_eq_false fun e=>by rw[e,hy]at hx;exact hxy (Option.some.inj hx).symm],rfl,rfl⟩)
end
section
open Go.MapKept
attribute [local irreducible] Tryz.prog
abbrev rsV (s:SS) (VA:Option Addr) (vc:Nat) (SA:Option Addr) (sc:Nat):Value:= .agg #[.bool s.reached, .slice VA s.vars.length vc, .bool s.unlike, .slice SA s.stack.length sc]
abbrev rsC (s:SS) (VA:Option Addr) (vc:Nat) (SA:Option Addr) (sc:Nat):Array Value:= #[.bool s.reached, .slice VA s.vars.length vc, .bool s.unlike, .slice SA s.stack.length sc]
theorem TVec.nil:TVec none [] 0 (.spare 0 0 0):=⟨rfl, .inl ⟨rfl,rfl,rfl,rfl⟩⟩
theorem TVec.snoc {A:Option Addr} {l:List Int} {cap:Nat} {x:Own} {z:Int} (h:Vec 44 1 A (l.length+1) cap (ints l++[.int .i64 z]) x):TVec A (l++[z]) cap x:=by
 unfold TVec IVec;rw[ints_append,List.length_append];exact h
theorem take_snoc {l:List Int} {i:Nat} {z:Int} (h:l[i]? =some z):l.take (i+1)=l.take i++[z]:=by
 rw[List.take_add_one,h];rfl
set_option maxHeartbeats 2000000 in
theorem rjoinRow_fn (G:Gh) (A B:Option Addr) (ca cb:Nat) (l m:List Int) (ha:Sl (Kd.int .i64) G A l) (hb:Sl (Kd.int .i64) G B m) (hl:l.length≤1000000000) (hlm:l.length=m.length):
  Fn Tryz.prog 201 #[.slice A l.length ca, .slice B m.length cb] G [] fun e G' H'=>∃A' cap',e= .returned (.slice A' (joinRow l m).length cap')∧G.le G'∧(joinRow l m).length≤cap'∧Sl (Kd.int .i64) G' A' (joinRow l m)∧H'=[]:=by
 have hjl:=joinRow_length hlm
 refine Fn.enter Tryz.func201 rfl rfl fun w0=>?_
 refine gom ?_
 refine WC.nothing ?_
 refine WC.loop (X:=Nat×List Int×Option Addr×Nat×Own) (fun t=>[(0, .slice A l.length ca),(1, .slice B m.length cb),(5, .slice t.2.2.1 t.2.1.length t.2.2.2.1),(6, .int .i64 (t.1:Int))]) (fun _=>G) (fun t=>[t.2.2.2.2]) (fun t=>l.length - t.1)
  (fun t=>t.1≤l.length∧t.2.1=(joinRow l m).take t.1∧TVec t.2.2.1 t.2.1 t.2.2.2.1 t.2.2.2.2) (0,[],none,0, .spare 0 0 0)
  ⟨Nat.zero_le _,rfl,TVec.nil⟩ (by exact⟨rfl,rfl,rfl,rfl,trivial⟩) rfl (List.Sublist.refl _) fun t ht=>?_
 obtain⟨i,r,C,c,o⟩:=t
 obtain⟨hi,hr,hv⟩:=ht
 dsimp only at hi hr hv
 have x4:=wrapS i (by omega)
 by_cases hlt:i<l.length
 rotate_left
 ·have e2:decide ((i:Int)<(l.length:Int))=false:=decide_eq_false (by omega)
  have hre:r=joinRow l m:=by rw[hr,List.take_of_length_le (by omega)]
  subst hre
  refine gom ?_
  refine WC.frozenVec hv atA fun G2 h2 z2=>?_
  have hs:=IVec.sl z2
  have hcap:=hv.le
  refine WC.rt ?_
  exact QF.p1 (.inl rfl) rfl (.tmp rfl) (⟨C,c,rfl,h2,hcap,hs,rfl⟩)
 have e2:decide ((i:Int)<(l.length:Int))=true:=decide_eq_true (by omega)
 obtain⟨x,hx⟩:∃x,l[i]? =some x:=⟨_,List.getElem?_eq_getElem hlt⟩
 obtain⟨y,hy⟩:∃y,m[i]? =some y:=⟨_,List.getElem?_eq_getElem (by omega)⟩
 obtain⟨ab,ao,rfl,hca⟩:=ha.at hx
 obtain⟨bb,bo,rfl,hcb⟩:=hb.at hy
 have x0:(0:Int)≤i:=by omega
 have x2:(i:Int)<(l.length:Int):=by omega
 have x3:(i:Int)<(m.length:Int):=by omega
 have hjg:=joinRow_get hx hy
 have hrl:r.length=i:=by rw[hr,List.length_take];omega
 by_cases hxy:x=y
 ·have e3:(x==y)=true:=by simpa using hxy
  refine gom ?_
  refine WL.op kr (OW.buildSlice rfl kr kr (by rfl) rfl fun b27=>?_)
  refine WL.oo (OW.append rfl rfl kr kr hv atA (Rds.blk0 (cs:=[.int .i64 x]) .here rfl) rfl rfl (by first | omega | (dsimp only;omega)) (by first | omega | (dsimp only;omega)) rfl fun A3 c3 o3 hv3=>?_)
  have h3:=TVec.snoc hv3
  have hl3:r.length+1=(r++[x]).length:=by rw[List.length_append];rfl
  refine gom ?_
  refine WK.pick [o3] ?_
  exact WK.again (i+1,r++[x],A3,c3,o3) (by dsimp only;omega) ⟨by dsimp only;omega,by dsimp only;rw[take_snoc hjg,joinT,if_pos hxy,hr],h3⟩ (by exact⟨rfl,rfl,by show _=some (Value.slice A3 _ c3);rw[←hl3];rfl,rfl,trivial⟩) rfl (List.Sublist.refl _)
 ·have e3:(x==y)=false:=by simpa using hxy
  refine gom ?_
  refine WL.op kr (OW.buildSlice rfl kr kr (by rfl) rfl fun b30=>?_)
  refine WL.oo (OW.append rfl rfl kr kr hv atA (Rds.blk0 (cs:=[.int .i64 0]) .here rfl) rfl rfl (by first | omega | (dsimp only;omega)) (by first | omega | (dsimp only;omega)) rfl fun A3 c3 o3 hv3=>?_)
  have h3:=TVec.snoc hv3
  have hl3:r.length+1=(r++[0]).length:=by rw[List.length_append];rfl
  refine gom ?_
  refine WK.pick [o3] ?_
  exact WK.again (i+1,r++[0],A3,c3,o3) (by dsimp only;omega) ⟨by dsimp only;omega,by dsimp only;rw[take_snoc hjg,joinT,if_neg hxy,hr],h3⟩ (by exact⟨rfl,rfl,by show _=some (Value.slice A3 _ c3);rw[←hl3];rfl,rfl,trivial⟩) rfl (List.Sublist.refl _)
theorem ralike_fn (G:Gh) (a b:SS) (VA VB:Option Addr) (va vb:Nat) (SA SB:Option Addr) (sa sb:Nat) (ha:SRep G a VA va SA sa) (hb:SRep G b VB vb SB sb) (hv:a.vars.length≤1000000000) (hs:a.stack.length≤1000000000):
  Fn Tryz.prog 176 #[rsV a VA va SA sa,rsV b VB vb SB sb] G [] fun e G' H'=>e= .returned (.bool (decide (a=b)))∧G=G'∧H'=[]:=by
 refine Fn.enter Tryz.func176 rfl rfl fun w0=>?_
 refine WC.seq ?_
 refine WC.region ?_
 refine WL.oo (OW.box rfl rfl fun b1=>?_)
 refine WL.oo (OW.box rfl rfl fun b2=>?_)
 obtain⟨ar,au,avs,ast⟩:=a
 obtain⟨br,bu,bvs,bst⟩:=b
 dsimp only at hv hs
 cases hr:(ar==br)with
 | false=>
  have e1:decide ((⟨ar,au,avs,ast⟩:SS)=⟨br,bu,bvs,bst⟩)=false:=decide_eq_false (by intro e;cases e;simp at hr)
  rw[e1]
  refine gom ?_
  rw[hr]
  refine gom ?_
  refine WC.rt ?_
  exact QF.p1 (.inl rfl) rfl (.tmp rfl) (⟨rfl,rfl,rfl⟩)
 | true=>
 cases hu:(au==bu)with
 | false=>
  have e1:decide ((⟨ar,au,avs,ast⟩:SS)=⟨br,bu,bvs,bst⟩)=false:=decide_eq_false (by intro e;cases e;simp at hu)
  rw[e1]
  refine gom ?_
  rw[hr]
  refine gom ?_
  rw[hu]
  refine gom ?_
  refine WC.rt ?_
  exact QF.p1 (.inl rfl) rfl (.tmp rfl) (⟨rfl,rfl,rfl⟩)
 | true=>
 refine gom ?_
 rw[hr]
 refine gom ?_
 rw[hu]
 refine gom ?_
 refine WL.oo (OW.callK rfl (rsame_fn G VA VB avs bvs va vb ha.vars hb.vars (by omega)) rfl fun v' G' H' h hg=>?_)
 obtain⟨he,rfl,rfl⟩:=h
 cases he
 by_cases hv2:avs=bvs
 rotate_left
 ·have e1:decide ((⟨ar,au,avs,ast⟩:SS)=⟨br,bu,bvs,bst⟩)=false:=decide_eq_false (by intro e;cases e;exact hv2 rfl)
  have e2:decide (avs=bvs)=false:=decide_eq_false hv2
  rw[e1,e2]
  refine gom ?_
  refine WC.rt ?_
  exact QF.p1 (.inl rfl) rfl (.tmp rfl) (⟨rfl,rfl,rfl⟩)
 have e2:decide (avs=bvs)=true:=decide_eq_true hv2
 rw[e2]
 refine gom ?_
 refine WL.oo (OW.callK rfl (rsame_fn G SA SB ast bst sa sb ha.stack hb.stack (by omega)) rfl fun v' G' H' h hg=>?_)
 obtain⟨he,rfl,rfl⟩:=h
 cases he
 have e1:decide ((⟨ar,au,avs,ast⟩:SS)=⟨br,bu,bvs,bst⟩)=decide (ast=bst):=by
  simp only[beq_iff_eq]at hr hu
  subst hr hu hv2
  by_cases h:ast=bst
  ·subst h;simp
  ·rw[decide_eq_false h,decide_eq_false (fun e=>h (by cases e;rfl))]
 rw[e1]
 refine gom ?_
 refine WC.rt ?_
 exact QF.p1 (.inl rfl) rfl (.tmp rfl) (⟨rfl,rfl,rfl⟩)
theorem rjoin_fn (G:Gh) (a b:SS) (VA VB:Option Addr) (va vb:Nat) (SA SB:Option Addr) (sa sb:Nat) (ha:SRep G a VA va SA sa) (hb:SRep G b VB vb SB sb) (hl:a.reached=true→b.reached=true→a.vars.length=b.vars.length) (hv:a.vars.length≤1000000000) (hs:a.stack.length≤1000000000):
  Fn Tryz.prog 175 #[rsV a VA va SA sa,rsV b VB vb SB sb] G [] fun e G' H'=>∃V' v' S' s',e= .returned (rsV (joinS a b) V' v' S' s')∧G.le G'∧SRep G' (joinS a b) V' v' S' s'∧H'=[]:=by
 refine Fn.enter Tryz.func175 rfl rfl fun w0=>?_
 refine WC.seq ?_
 refine WC.region ?_
 refine WL.oo (OW.box rfl rfl fun b1=>?_)
 refine WL.oo (OW.box rfl rfl fun b2=>?_)
 refine WL.oo (OW.alloc rfl fun b3=>?_)
 obtain⟨ar,au,av,ak⟩:=a
 obtain⟨br,bu,bv,bk⟩:=b
 dsimp only at hl hv hs
 cases ar with
 | false=>
  rw[show joinS ⟨false,au,av,ak⟩ ⟨br,bu,bv,bk⟩=⟨br,bu,bv,bk⟩from rfl]
  refine gom ?_
  refine WC.rt ?_
  exact QF.p1 (.inl rfl) rfl (.cell rfl inferInstance inferInstance atA rfl rfl) (⟨VB,vb,SB,sb,rfl,Gh.le_refl _,hb,rfl⟩)
 | true=>
 cases br with
 | false=>
  rw[show joinS ⟨true,au,av,ak⟩ ⟨false,bu,bv,bk⟩=⟨true,au,av,ak⟩from rfl]
  refine gom ?_
  refine WC.rt ?_
  exact QF.p1 (.inl rfl) rfl (.cell rfl inferInstance inferInstance atA rfl rfl) (⟨VA,va,SA,sa,rfl,Gh.le_refl _,ha,rfl⟩)
 | true=>
 have hlen:=hl rfl rfl
 refine gom ?_
 refine WL.oo (OW.callK rfl (rjoinRow_fn G VA VB va vb av bv ha.vars hb.vars hv hlen) rfl fun v' G' H' h hg=>?_)
 obtain⟨A1,cap1,he,hg1,hc1,hs1,rfl⟩:=h
 cases he
 refine WL.pick [.blk b1 (.cells #[.bool true, .slice VA av.length va, .bool au, .slice SA ak.length sa] 220 (0,0)), .blk b2 (.cells #[.bool true, .slice VB bv.length vb, .bool bu, .slice SB bk.length sb] 220 (0,0)), .blk b3 (.cells #[.bool false, .slice none 0 0, .bool false, .slice none 0 0] 220 (0,0))] ?_
 refine gom ?_
 refine WL.oo (OW.alloc rfl fun b6=>?_)
 by_cases hc:au=true∨bu=true∨ak.length≠bk.length
 ·rw [show joinS ⟨true,au,av,ak⟩ ⟨true,bu,bv,bk⟩=⟨true,true,joinRow av bv,[]⟩ by unfold joinS;rw[if_neg (by simp),if_neg (by simp),if_pos hc]]
  cases au with
  | true=>
   refine gom ?_
   refine WC.rt ?_
   exact QF.p1 (.inl rfl) rfl (.cell rfl inferInstance inferInstance atA rfl rfl) (⟨A1,cap1,none,0,rfl,hg1,⟨hc1,Nat.le_refl _,hs1,Sl.nil _ _ _⟩,rfl⟩)
  | false=>
  cases bu with
  | true=>
   refine gom ?_
   refine WC.rt ?_
   exact QF.p1 (.inl rfl) rfl (.cell rfl inferInstance inferInstance atA rfl rfl) (⟨A1,cap1,none,0,rfl,hg1,⟨hc1,Nat.le_refl _,hs1,Sl.nil _ _ _⟩,rfl⟩)
  | false=>
   have hne:((ak.length:Int) != (bk.length:Int))=true:=by
    rw[bne_iff_ne];simp at hc;omega
   refine gom ?_
   refine WC.rt ?_
   exact QF.p1 (.inl rfl) rfl (.cell rfl inferInstance inferInstance atA rfl rfl) (⟨A1,cap1,none,0,rfl,hg1,⟨hc1,Nat.le_refl _,hs1,Sl.nil _ _ _⟩,rfl⟩)
 ·have hua:au=false:=by cases h:au with | false=>rfl | true=>exact absurd (.inl h) hc
  have hub:bu=false:=by cases h:bu with | false=>rfl | true=>exact absurd (.inr (.inl h)) hc
  have hsl:ak.length=bk.length:=by apply Decidable.byContradiction;intro h;exact hc (.inr (.inr h))
  have hne:((ak.length:Int) != (bk.length:Int))=false:=by rw[hsl];simp
  rw[show joinS ⟨true,au,av,ak⟩ ⟨true,bu,bv,bk⟩=⟨true,false,joinRow av bv,joinRow ak bk⟩ by unfold joinS;rw[if_neg (by simp),if_neg (by simp),if_neg hc]]
  subst hua hub
  refine gom ?_
  refine WL.oo (OW.callK rfl (rjoinRow_fn _ SA SB sa sb ak bk (ha.stack.mono hg1) (hb.stack.mono hg1) hs hsl) rfl fun v' G' H' h hg=>?_)
  obtain⟨A2,cap2,he,hg2,hc2,hs2,rfl⟩:=h
  cases he
  refine gom ?_
  refine WC.rt ?_
  exact QF.p1 (.inl rfl) rfl (.cell rfl inferInstance inferInstance atA rfl rfl) (⟨A1,cap1,A2,cap2,rfl,Gh.le_trans hg1 hg2,⟨hc1,hc2,hs1.mono hg2,hs2⟩,rfl⟩)
def onwR (i:Int×Int) (k:Nat):List Int:=if i.1=5 then [i.2]else if i.1=6 then [(k:Int)+1,i.2]else if i.1=9∨i.1=10 then []else [(k:Int)+1]
theorem mem_onwR (i:Int×Int) (k:Nat) (x:Int):x∈onwR i k↔x∈nextR i k:=by
 unfold onwR nextR
 by_cases h5:i.1=5
 ·rw[if_pos h5,if_neg (by omega),if_pos h5]
 by_cases h6:i.1=6
 ·rw[if_neg h5,if_pos h6,if_neg (by omega),if_neg h5,if_pos h6];simp[or_comm]
 by_cases h9:i.1=9∨i.1=10
 ·rw[if_neg h5,if_neg h6,if_pos h9,if_pos h9]
 ·rw[if_neg h5,if_neg h6,if_neg h9,if_neg h9,if_neg h5,if_neg h6]
theorem ronwards_fn (G:Gh) (c n:Int) (k:Nat) (hk:k≤1000000000):
  Fn Tryz.prog 174 #[.agg #[.int .i64 c, .int .i64 n], .int .i64 k] G [] fun e G' H'=>∃A cap,e= .returned (.slice A (onwR (c,n) k).length cap)∧G.le G'∧Sl (Kd.int .i64) G' A (onwR (c,n) k)∧H'=[]:=by
 refine Fn.enter Tryz.func174 rfl rfl fun w0=>?_
 refine WC.seq ?_
 refine WC.region ?_
 refine WL.oo (OW.box rfl rfl fun b1=>?_)
 have x1:=wrapS k (by omega)
 have fin:∀ {b:Nat} {c:Array Value} {l:List Int},c=(ints l).toArray→Sl (Kd.int .i64) (G.add b c) (some ⟨b,0,none⟩) l:=fun {b c l} h=>IVec.sl (.inr ⟨b,rfl,fun j v e=>by
  rw[Nat.zero_add,Gh.add_at,h];simpa using e⟩)
 by_cases h5:c=5
 ·have e1:onwR (c,n) k=[n]:=by unfold onwR;rw[if_pos h5]
  rw[e1];subst h5
  refine gom ?_
  refine WL.op kr (OW.buildSlice rfl kr kr (by rfl) rfl fun b2=>?_)
  refine gom ?_
  refine WC.freeze (j:=0) .here fun hg=>?_
  refine WC.rt ?_
  exact QF.p1 (.inl rfl) rfl (.tmp rfl) (⟨some ⟨b2,0,none⟩,1,rfl,hg,fin rfl,rfl⟩)
 have y5:(c==5)=false:=by simpa using h5
 by_cases h6:c=6
 ·have e1:onwR (c,n) k=[(k:Int)+1,n]:=by unfold onwR;rw[if_neg h5,if_pos h6]
  rw[e1];subst h6
  refine gom ?_
  refine WL.op kr (OW.buildSlice rfl kr kr (by rfl) rfl fun b2=>?_)
  refine gom ?_
  refine WC.freeze (j:=0) .here fun hg=>?_
  refine WC.rt ?_
  exact QF.p1 (.inl rfl) rfl (.tmp rfl) (⟨some ⟨b2,0,none⟩,2,rfl,hg,fin rfl,rfl⟩)
 have y6:(c==6)=false:=by simpa using h6
 by_cases h9:c=9
 ·have e1:onwR (c,n) k=[]:=by unfold onwR;rw[if_neg h5,if_neg h6,if_pos (.inl h9)]
  rw[e1];subst h9
  refine gom ?_
  refine WC.rt ?_
  exact QF.p1 (.inl rfl) rfl (.tmp rfl) (⟨none,0,rfl,Gh.le_refl _,Sl.nil _ _ _,rfl⟩)
 by_cases h10:c=10
 ·have e1:onwR (c,n) k=[]:=by unfold onwR;rw[if_neg h5,if_neg h6,if_pos (.inr h10)]
  rw[e1];subst h10
  refine gom ?_
  refine WC.rt ?_
  exact QF.p1 (.inl rfl) rfl (.tmp rfl) (⟨none,0,rfl,Gh.le_refl _,Sl.nil _ _ _,rfl⟩)
 have y9:(c==9)=false:=by simpa using h9
 have y10:(c==10)=false:=by simpa using h10
 have e1:onwR (c,n) k=[(k:Int)+1]:=by unfold onwR;rw[if_neg h5,if_neg h6,if_neg (by simp[h9,h10])]
 rw[e1]
 refine gom ?_
 refine WL.op kr (OW.buildSlice rfl kr kr (by rfl) rfl fun b2=>?_)
 refine gom ?_
 refine WC.freeze (j:=0) .here fun hg=>?_
 refine WC.rt ?_
 exact QF.p1 (.inl rfl) rfl (.tmp rfl) (⟨some ⟨b2,0,none⟩,1,rfl,hg,fin rfl,rfl⟩)
end
end Go.Proofs.YtcnlkfocbbkdhaaGreatDoor.Gb
