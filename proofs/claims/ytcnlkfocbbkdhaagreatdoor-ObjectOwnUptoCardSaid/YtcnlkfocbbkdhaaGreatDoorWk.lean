/- Layer 22, the document's: Link, walked. What is ours is lent to a call that only reads; a row of procedures whose lists are ours. Layer 22: joined, walked; the lists of the procedures are ours. Layer 22: Link and Missing, walked; all that they answer is ours. What is ours, lent beside more that is ours; Missing, walked: all that it answers is ours. Objects and programs compared, by the program and by the document: walked. ObjectOwn: walked. ObjectOwn: walked. Arguments of a bounded bulk, opened with the sum of all that they hold: lists of objects. -/
import Derived.Test.YtcnlkfocbbkdhaaGreatDoorWj
set_option linter.unusedVariables false
set_option linter.unusedSimpArgs false
set_option linter.unusedSectionVars false
namespace Go.Proofs.YtcnlkfocbbkdhaaGreatDoor.Gb
open Go Go.Proofs
section
open Go.MapKept
theorem nodup_take {l:List Ob} {i:Nat} {o:Ob} (ho:l[i]? =some o) (h:((l.take i).map (·.path)).Nodup) (hn:∀(k:Nat) y,k<i→l[k]? =some y→y.path≠o.path):((l.take (i+1)).map (·.path)).Nodup:=by
 rw[take_snoc' ho,List.map_append,List.nodup_append]
 refine⟨h,by simp,fun a ha b hb=>?_⟩
 obtain⟨y,hy,rfl⟩:=List.mem_map.1 ha
 obtain rfl:b=o.path:=by simpa using hb
 obtain⟨k,hk⟩:=List.getElem?_of_mem hy
 rw[List.getElem?_take]at hk
 split at hk
 ·rename_i hki;exact hn k y hki hk
 ·cases hk
theorem nodup_not {l:List Ob} {i k:Nat} {o y:Ob} (ho:l[i]? =some o) (hk:l[k]? =some y) (hki:k<i) (he:y.path=o.path):¬(l.map (·.path)).Nodup:=fun h=>by
 have h1:(l.map (·.path))[i]? =some o.path:=by rw[List.getElem?_map,ho];rfl
 have h2:(l.map (·.path))[k]? =some o.path:=by rw[List.getElem?_map,hk,←he];rfl
 have:=(List.getElem?_inj (List.getElem?_eq_some_iff.1 h2).1 h).1 (h2.trans h1.symm)
 omega
attribute [local irreducible] Tryz.prog expL metL atL allPr joinP joinT' ptsO sumP sumC objAns metA moveI
abbrev zgB (b:Nat):Own:=pgmB b none none none 0 0 0 0 0 0
set_option maxRecDepth 20000 in
set_option maxHeartbeats 8000000 in
theorem rLink_fn (G:Gh) (A:Option Addr) (cap:Nat) (l:List Ob) (hl:Sl Kd.ob G A l) (hL:LLim l):
  Fn Tryz.prog 16 #[.slice A l.length cap] G [] (LinkP G l):=by
 have hlen:=hL.len
 have hsp:=hL.sumP
 have hsc:=hL.sumC
 refine Fn.enter Tryz.func16 rfl rfl fun w0=>?_
 refine WC.seq ?_
 refine WC.region ?_
 refine WL.oo (OW.alloc rfl fun b2=>?_)
 refine gom ?_
 refine WC.loop (X:=LK) (fun x=>[(0, .slice A l.length cap),(2, .pointer (some ⟨b2,0,none⟩)),(4, .int .i64 x.i)]) (fun x=>x.G) (fun x=>[zgB b2]) (fun x=>l.length - x.i)
  (fun x=>x.i≤l.length∧G.le x.G∧∀(j:Nat) y,j<x.i→l[j]? =some y→(objAns y).2.2=0) ⟨0,G⟩ ⟨Nat.zero_le _,Gh.le_refl _,fun j y h=>absurd h (Nat.not_lt_zero _)⟩ (by exact⟨rfl,rfl,rfl,trivial⟩) rfl (List.Sublist.refl _) fun x hx=>?_
 obtain⟨i,G1⟩:=x
 obtain⟨hi,hg1,hok⟩:=hx
 dsimp only at hi hg1 hok
 have x2:=wrapS i (by omega)
 by_cases hlt:i<l.length
 ·have e2:decide ((i:Int)<(l.length:Int))=true:=decide_eq_true (by omega)
  obtain⟨o,ho⟩:∃o,l[i]? =some o:=⟨_,List.getElem?_eq_getElem (by omega)⟩
  have x0:(0:Int)≤(i:Int):=by omega
  have x1:(i:Int)<(l.length:Int):=by omega
  have hl1:=hl.mono hg1
  obtain⟨ab,ao,cs,rfl,hks,hcs⟩:=hl1 i o ho
  obtain⟨CA,cc,NA,nc,PA,pc,rfl,hO⟩:=hks
  refine gom ?_
  refine WL.oo (OW.callK rfl (rObject_fn G1 o CA NA PA cc nc pc hO (hL.lim o (List.mem_of_getElem? ho))) rfl fun v' G' H' h hg=>?_)
  obtain⟨he,hg2,rfl⟩:=h
  cases he
  obtain⟨G2,rfl⟩:∃G2,G2=G':=⟨_,rfl⟩
  by_cases hz:(objAns o).2.2=0
  rotate_left
  ·have e3:((objAns o).2.2 != 0)=true:=by rw[bne_iff_ne];exact hz
   have he:=errL_at hok ho hz
   have hle:linkE l=(objAns o).2.2:=by unfold linkE;rw[if_pos (by rw[he];exact hz),he]
   refine gom ?_
   refine WL.oo (OW.alloc rfl fun b5=>?_)
   refine gom ?_
   refine WC.rt ?_
   exact QF.p2 (.inl rfl) rfl (.cell rfl inferInstance inferInstance atA rfl rfl) (.tmp rfl) (⟨Gh.le_trans hg1 hg2, .inl ⟨by rw[hle];exact hz,by rw[hle];rfl,rfl⟩⟩)
  have e3:((objAns o).2.2 != 0)=false:=by rw[hz];rfl
  refine gom ?_
  refine WL.oo (OW.alloc rfl fun b5=>?_)
  refine gom ?_
  refine WK.pick [zgB b2] ?_
  exact WK.again ⟨i+1,G2⟩ (by dsimp only;omega) ⟨by show i+1≤_;omega,Gh.le_trans hg1 hg2,fun j y hj hy=>by
   rcases Nat.lt_or_ge j i with h | h
   ·exact hok j y h hy
   ·obtain rfl:j=i:=by dsimp only at hj;omega
    rw[ho]at hy;cases hy;exact hz⟩ (by exact⟨rfl,rfl,rfl,trivial⟩) rfl (List.Sublist.refl _)
 have e2:decide ((i:Int)<(l.length:Int))=false:=decide_eq_false (by omega)
 have hall:∀o∈l,(objAns o).2.2=0:=fun o ho=>by obtain⟨j,hj⟩:=List.mem_iff_getElem?.1 ho;exact hok j o (by have:=(List.getElem?_eq_some_iff.1 hj).1;omega) hj
 have hz:=errL_zero.2 hall
 have hl1:=hl.mono hg1
 refine gom ?_
 refine WC.loop (X:=Nat) (fun i=>[(0, .slice A l.length cap),(2, .pointer (some ⟨b2,0,none⟩)),(7, .int .i64 i)]) (fun _=>G1) (fun _=>[zgB b2]) (fun i=>l.length - i)
  (fun i=>i≤l.length∧((l.take i).map (·.path)).Nodup) 0 ⟨Nat.zero_le _,by simp⟩ (by exact⟨rfl,rfl,rfl,trivial⟩) rfl (List.Sublist.refl _) fun i hx=>?_
 obtain⟨hi,hnd⟩:=hx
 have x2:=wrapS i (by omega)
 by_cases hlt:i<l.length
 ·have e2:decide ((i:Int)<(l.length:Int))=true:=decide_eq_true (by omega)
  obtain⟨o,ho⟩:∃o,l[i]? =some o:=⟨_,List.getElem?_eq_getElem (by omega)⟩
  have x0:(0:Int)≤(i:Int):=by omega
  have x1:(i:Int)<(l.length:Int):=by omega
  obtain⟨ab,ao,cs,rfl,hks,hcs⟩:=hl1 i o ho
  obtain⟨CA,cc,NA,nc,PA,pc,rfl,hO⟩:=hks
  refine gom ?_
  refine WC.loop (X:=Nat) (fun k=>[(0, .slice (some ⟨ab,ao,none⟩) l.length cap),(2, .pointer (some ⟨b2,0,none⟩)),(7, .int .i64 i),(8, .int .i64 k)]) (fun _=>G1) (fun _=>[zgB b2]) (fun k=>i - k)
   (fun k=>k≤i∧∀(j:Nat) y,j<k→l[j]? =some y→y.path≠o.path) 0 ⟨Nat.zero_le _,fun j y h=>absurd h (Nat.not_lt_zero _)⟩ (by exact⟨rfl,rfl,rfl,rfl,trivial⟩) rfl (List.Sublist.refl _) fun k hx=>?_
  obtain⟨hk,hno⟩:=hx
  have y2:=wrapS k (by omega)
  by_cases hkl:k<i
  rotate_left
  ·have e4:decide ((k:Int)<(i:Int))=false:=decide_eq_false (by omega)
   obtain rfl:k=i:=by omega
   refine gom ?_
   exact WK.again (k+1) (by omega) ⟨by omega,nodup_take ho hnd hno⟩ (by exact⟨rfl,rfl,rfl,trivial⟩) rfl (List.Sublist.refl _)
  have e4:decide ((k:Int)<(i:Int))=true:=decide_eq_true (by omega)
  obtain⟨q,hq⟩:∃q,l[k]? =some q:=⟨_,List.getElem?_eq_getElem (by omega)⟩
  have y0:(0:Int)≤(k:Int):=by omega
  have y1:(k:Int)<(l.length:Int):=by omega
  obtain⟨kb,ko,kcs,hkA,hkk,hkc⟩:=hl1 k q hq
  cases hkA
  obtain⟨DA,dc,MA,mc,RA,rc,rfl,hOk⟩:=hkk
  refine go ?_
  refine WC.draw mixed ?_
  refine za.move 0 ?_
  refine za.move 1 ?_
  refine za.ix 2 ?_
  refine za.fa 3 ?_
  refine WA.vv 4 rfl (Gv.loadG1 (i:=0) rfl hkc rfl) ?_
  refine za.move 5 ?_
  refine za.move 6 ?_
  refine za.ix 7 ?_
  refine za.fa 8 ?_
  refine WA.vv 9 rfl (Gv.loadG1 (i:=0) rfl hcs rfl) ?_
  refine za.eq 10 ?_
  refine WA.done kr ?_
  refine WK.un ?_
  cases hpq:(q.path==o.path)with
  | true=>
   have hnn:=nodup_not ho hq hkl (bb_iff.1 hpq)
   have hle:linkE l=222:=by unfold linkE;rw[if_neg (by simpa using hz),if_pos hnn]
   refine gom ?_
   refine WC.rt ?_
   exact QF.p2 (.inl rfl) rfl (.cell rfl inferInstance inferInstance atA rfl rfl) (.tmp rfl) (⟨hg1, .inl ⟨by rw[hle];decide,by rw[hle];rfl,rfl⟩⟩)
  | false=>
  refine gom ?_
  exact WK.again (k+1) (by omega) ⟨by omega,fun j y hj hy=>by
   rcases Nat.lt_or_ge j k with h | h
   ·exact hno j y h hy
   ·obtain rfl:j=k:=by omega
    rw[hq]at hy;cases hy
    exact fun e=>by rw[bb_iff.2 e]at hpq;cases hpq⟩ (by exact⟨rfl,rfl,rfl,rfl,trivial⟩) rfl (List.Sublist.refl _)
 have e2:decide ((i:Int)<(l.length:Int))=false:=decide_eq_false (by omega)
 rw[List.take_of_length_le (by omega)]at hnd
 refine gom ?_
 refine WL.oo (OW.callK rfl (rMissing_fn G1 A cap l hl1 hL) rfl fun v' G' H' h hg=>?_)
 obtain⟨MA,mc,xm,he,rfl,hK,rfl⟩:=h
 cases he
 by_cases hm:missL l=[]
 rotate_left
 ·have e5:decide (0<((missL l).length:Int))=true:=decide_eq_true (by have:=List.length_pos_iff.2 hm;omega)
  have hle:linkE l=221:=linkE_miss.2 ⟨hall,hnd,hm⟩
  refine gom ?_
  refine WC.rt ?_
  exact QF.p2 (.inl rfl) rfl (.cell rfl inferInstance inferInstance atA rfl rfl) (.tmp rfl) (⟨hg1, .inl ⟨by rw[hle];decide,by rw[hle];rfl,rfl⟩⟩)
 have e5:decide (0<((missL l).length:Int))=false:=decide_eq_false (by rw[hm];decide)
 refine gom ?_
 refine WL.oo (OW.callK rfl (rbefore_fn G1 A cap l hl1 hL l.length (Nat.le_refl _)) rfl fun v' G' H' h hg=>?_)
 obtain⟨he,rfl,rfl⟩:=h
 rw[List.take_length]at he
 cases he
 by_cases h2:65536<sumC l
 ·have e7:decide ((65536:Int)<(sumC l:Int))=true:=decide_eq_true (by omega)
  have hle:linkE l=53:=by unfold linkE;rw[if_neg (by simpa using hz),if_neg (by simpa using hnd),if_neg (by simpa using hm),if_pos (.inr h2)]
  refine gom ?_
  refine WC.rt ?_
  exact QF.p2 (.inl rfl) rfl (.cell rfl inferInstance inferInstance atA rfl rfl) (.tmp rfl) (⟨hg1, .inl ⟨by rw[hle];decide,by rw[hle];rfl,rfl⟩⟩)
 have e7:decide ((65536:Int)<(sumC l:Int))=false:=decide_eq_false (by omega)
 by_cases h1:4096<sumP l
 ·have e6:decide ((4096:Int)<(sumP l:Int))=true:=decide_eq_true (by omega)
  have hle:linkE l=53:=by unfold linkE;rw[if_neg (by simpa using hz),if_neg (by simpa using hnd),if_neg (by simpa using hm),if_pos (.inl h1)]
  refine gom ?_
  refine WC.rt ?_
  exact QF.p2 (.inl rfl) rfl (.cell rfl inferInstance inferInstance atA rfl rfl) (.tmp rfl) (⟨hg1, .inl ⟨by rw[hle];decide,by rw[hle];rfl,rfl⟩⟩)
 have e6:decide ((4096:Int)<(sumP l:Int))=false:=decide_eq_false (by omega)
 have hle:linkE l=0:=by unfold linkE;rw[if_neg (by simpa using hz),if_neg (by simpa using hnd),if_neg (by simpa using hm),if_neg (by omega)]
 refine gom ?_
 refine WL.oo (OW.alloc rfl fun b11=>?_)
 refine gom ?_
 refine WC.nothing ?_
 refine WC.nothing ?_
 refine WC.nothing ?_
 refine WC.pick [zgB b2,pgmB b11 none none none 0 0 0 0 0 0, .spare 0 0 0, .spare 0 0 0, .spare 0 0 0] ?_
 refine WC.loop (X:=JL) (fun x=>[(0, .slice A l.length cap),(2, .pointer (some ⟨b2,0,none⟩)),(11, .pointer (some ⟨b11,0,none⟩)),(12, .int .i64 x.i)]) (fun x=>x.G)
  (fun x=>[zgB b2,pgmB b11 x.A1 x.A2 x.A3 ((l.take x.i).flatMap (·.consts)).length (joinP (allPr l) (l.take x.i) 0 0).length (joinT' (l.take x.i) 0).length x.c1 x.c2 x.c3,x.x1,x.x2,x.x3]) (fun x=>l.length - x.i)
  (fun x=>x.i≤l.length∧G1.le x.G∧KVec Kd.val 52 x.G x.A1 x.c1 ((l.take x.i).flatMap (·.consts)) x.x1∧KVec Kd.prc 47 x.G x.A2 x.c2 (joinP (allPr l) (l.take x.i) 0 0) x.x2∧KVec Kd.pnt 54 x.G x.A3 x.c3 (joinT' (l.take x.i) 0) x.x3)
  ⟨0,none,0, .spare 0 0 0,none,0, .spare 0 0 0,none,0, .spare 0 0 0,G1⟩ ⟨Nat.zero_le _,Gh.le_refl _,KVec.nil,by dsimp only;rw[List.take_zero,joinP];exact KVec.nil,by dsimp only;rw[List.take_zero,joinT'];exact KVec.nil⟩ (by exact⟨rfl,rfl,rfl,rfl,trivial⟩) rfl (by dsimp only;rw[List.take_zero,joinP,joinT'];exact List.Sublist.refl _) fun x hx=>?_
 obtain⟨i,A1,c1,x1,A2,c2,x2,A3,c3,x3,G2⟩:=x
 obtain⟨hi,hg2,hk1,hk2,hk3⟩:=hx
 dsimp only at hi hg2 hk1 hk2 hk3
 have z2:=wrapS i (by omega)
 have hg02:=Gh.le_trans hg1 hg2
 by_cases hlt:i<l.length
 rotate_left
 ·have e2:decide ((i:Int)<(l.length:Int))=false:=decide_eq_false (by omega)
  have htl:l.take i=l:=List.take_of_length_le (by omega)
  rw[htl]at hk1 hk2 hk3
  refine gom ?_
  refine WC.rt ?_
  exact QF.p2 (.inl rfl) rfl (.cell rfl inferInstance inferInstance atA rfl rfl) (.tmp rfl) (⟨hg02, .inr ⟨hle,A1,c1,A2,c2,A3,c3,x1,x2,x3,by rw[htl];rfl,hk1,hk2,hk3,rfl⟩⟩)
 have e2:decide ((i:Int)<(l.length:Int))=true:=decide_eq_true (by omega)
 obtain⟨o,ho⟩:∃o,l[i]? =some o:=⟨_,List.getElem?_eq_getElem (by omega)⟩
 have hom:=List.mem_of_getElem? ho
 have x0:(0:Int)≤(i:Int):=by omega
 have x1':(i:Int)<(l.length:Int):=by omega
 have hl2:=hl1.mono hg2
 obtain⟨ab,ao,cs,rfl,hks,hcs⟩:=hl2 i o ho
 obtain⟨CA,cc,NA,nc,PA,pc,rfl,hO⟩:=hks
 have htk:l.take (i+1)=l.take i++[o]:=take_snoc' ho
 have hsn:=sumP_snoc_le ho
 have hcn:=sumC_snoc_le ho
 have hfl:(l.take (i+1)).flatMap (·.consts)=(l.take i).flatMap (·.consts)++o.consts:=by rw[htk,List.flatMap_append];simp
 have hjs:joinP (allPr l) (l.take (i+1)) 0 0=joinP (allPr l) (l.take i) 0 0++o.procs.map (moveP (allPr l) o (sumC (l.take i)) (sumP (l.take i))):=by rw[htk,join_snoc,Nat.zero_add,Nat.zero_add]
 have hts:joinT' (l.take (i+1)) 0=joinT' (l.take i) 0++ptsO o.path o.procs (sumP (l.take i)):=by rw[htk,joinT_snoc,Nat.zero_add]
 have hcl:=consts_len (l.take i)
 have hjl:=join_len (allPr l) (l.take i) 0 0
 have htl:=joinT_len (l.take i) 0
 refine go ?_
 refine WC.draw mixed ?_
 refine za.fa 0 ?_
 refine za.ld 1 ?_
 refine za.move 2 ?_
 refine za.move 3 ?_
 refine za.ix 4 ?_
 refine za.fa 5 ?_
 refine WA.vv 6 rfl (Gv.loadG1 (i:=1) rfl hcs rfl) ?_
 refine WA.oo 7 rfl (OW.appendS (k:=Kd.val) rfl rfl kr rfl hk1 atA hO.consts (by rw[hcl];omega) (by rw[hcl];omega) rfl fun A4 c4 x4 hk4=>?_)
 refine za.fa 8 ?_
 refine za.st 9 ?_
 refine WA.done kr ?_
 refine WK.un ?_
 refine gom ?_
 refine WC.pick [zgB b2,pgmB b11 A4 A2 A3 ((l.take i).flatMap (·.consts)++o.consts).length (joinP (allPr l) (l.take i) 0 0).length (joinT' (l.take i) 0).length c4 c2 c3,x4,x2,x3] ?_
 refine WC.loop (X:=JL) (fun x=>[(0, .slice (some ⟨ab,ao,none⟩) l.length cap),(2, .pointer (some ⟨b2,0,none⟩)),(11, .pointer (some ⟨b11,0,none⟩)),(12, .int .i64 i),(13, .int .i64 x.i)]) (fun x=>x.G)
  (fun x=>[zgB b2,pgmB b11 A4 x.A2 x.A3 ((l.take i).flatMap (·.consts)++o.consts).length (joinP (allPr l) (l.take i) 0 0++(o.procs.take x.i).map (moveP (allPr l) o (sumC (l.take i)) (sumP (l.take i)))).length (joinT' (l.take i) 0++ptsO o.path (o.procs.take x.i) (sumP (l.take i))).length c4 x.c2 x.c3,x4,x.x2,x.x3]) (fun x=>o.procs.length - x.i)
  (fun x=>x.i≤o.procs.length∧G2.le x.G∧KVec Kd.prc 47 x.G x.A2 x.c2 (joinP (allPr l) (l.take i) 0 0++(o.procs.take x.i).map (moveP (allPr l) o (sumC (l.take i)) (sumP (l.take i)))) x.x2∧KVec Kd.pnt 54 x.G x.A3 x.c3 (joinT' (l.take i) 0++ptsO o.path (o.procs.take x.i) (sumP (l.take i))) x.x3)
  ⟨0,none,0, .spare 0 0 0,A2,c2,x2,A3,c3,x3,G2⟩ ⟨Nat.zero_le _,Gh.le_refl _,by dsimp only;rw[List.take_zero,List.map_nil,List.append_nil];exact hk2,by dsimp only;rw[List.take_zero,ptsO,List.append_nil];exact hk3⟩ (by exact⟨rfl,rfl,rfl,rfl,rfl,trivial⟩) rfl (by dsimp only;rw[List.take_zero,ptsO,List.map_nil,List.append_nil,List.append_nil];exact List.Sublist.refl _) fun x hx=>?_
 obtain⟨j,_,_,_,A2,c2,x2,A3,c3,x3,G3⟩:=x
 obtain⟨hj,hg3,hk2,hk3⟩:=hx
 dsimp only at hj hg3 hk2 hk3
 have hcs3:=hcs.mono hg3
 have y2:=wrapS j (by omega)
 by_cases hjlt:j<o.procs.length
 rotate_left
 ·have e4:decide ((j:Int)<(o.procs.length:Int))=false:=decide_eq_false (by omega)
  have htj:o.procs.take j=o.procs:=List.take_of_length_le (by omega)
  rw[htj,←hjs]at hk2
  rw[htj,←hts]at hk3
  refine gom ?_
  refine WK.pick [zgB b2,pgmB b11 A4 A2 A3 ((l.take i).flatMap (·.consts)++o.consts).length (joinP (allPr l) (l.take i) 0 0++(o.procs.take j).map (moveP (allPr l) o (sumC (l.take i)) (sumP (l.take i)))).length (joinT' (l.take i) 0++ptsO o.path (o.procs.take j) (sumP (l.take i))).length c4 c2 c3,x4,x2,x3] ?_
  exact WK.again ⟨i+1,A4,c4,x4,A2,c2,x2,A3,c3,x3,G3⟩ (by dsimp only;omega) ⟨by show i+1≤_;omega,Gh.le_trans hg2 hg3,by dsimp only;rw[hfl];exact hk4.mono hg3,hk2,hk3⟩ (by exact⟨rfl,rfl,rfl,rfl,trivial⟩) rfl (by dsimp only;rw[hfl,hjs,hts,htj];exact List.Sublist.refl _)
 have e4:decide ((j:Int)<(o.procs.length:Int))=true:=decide_eq_true (by omega)
 obtain⟨p,hp⟩:∃p,o.procs[j]? =some p:=⟨_,List.getElem?_eq_getElem hjlt⟩
 have hpm:=List.mem_of_getElem? hp
 have y0:(0:Int)≤(j:Int):=by omega
 have y1:(j:Int)<(o.procs.length:Int):=by omega
 have hO3:=hO.mono hg3
 have hl3:=hl2.mono hg3
 obtain⟨pb,po,cs2,rfl,hks2,hcs2⟩:=hO3.procs j p hp
 obtain⟨QA,qc,IA,ic,rfl,hQ,hI⟩:=hks2
 have hlp1:(joinP (allPr l) (l.take i) 0 0++(o.procs.take j).map (moveP (allPr l) o (sumC (l.take i)) (sumP (l.take i)))).length=sumP (l.take i)+j:=by rw[List.length_append,hjl,List.length_map,List.length_take];omega
 have hxp1:(joinP (allPr l) (l.take i) 0 0++(o.procs.take (j+1)).map (moveP (allPr l) o (sumC (l.take i)) (sumP (l.take i))))=(joinP (allPr l) (l.take i) 0 0++(o.procs.take j).map (moveP (allPr l) o (sumC (l.take i)) (sumP (l.take i))))++[moveP (allPr l) o (sumC (l.take i)) (sumP (l.take i)) p]:=by rw[take_snoc' hp,List.map_append,List.append_assoc];rfl
 have hlq1:(joinT' (l.take i) 0++ptsO o.path (o.procs.take j) (sumP (l.take i))).length≤sumP (l.take i)+j:=by
  have:=pts_len o.path (o.procs.take j) (sumP (l.take i))
  rw[List.length_take]at this
  rw[List.length_append];omega
 refine gom ?_
 refine WL.oo (OW.alloc rfl fun b14=>?_)
 refine gom ?_
 cases hx:p.exp with
 | false=>
  have hxq1:(joinT' (l.take i) 0++ptsO o.path (o.procs.take (j+1)) (sumP (l.take i)))=(joinT' (l.take i) 0++ptsO o.path (o.procs.take j) (sumP (l.take i))):=by rw[take_snoc' hp,pts_snoc,hx,if_neg (by decide),List.append_nil]
  have hmv:=rmoved_fn G3 (some ⟨ab,ao,none⟩) cap l hl3 hL hall hnd hm i o ho p hpm QA qc IA ic hI
  rw[hx]at hmv
  refine go ?_
  refine WC.draw mixed ?_
  refine za.fa 0 ?_
  refine za.move 2 ?_
  refine za.move 3 ?_
  refine za.ld 4 ?_
  refine WA.two (i:=1) (j:=5) kr rfl rfl kr kr (OW.gv (Gv.load1 rfl atA rfl) rfl ?_) (OW.callK rfl hmv rfl fun v' G' H' h hg=>?_)
  ·
   refine WA.oo 5 rfl (OW.callK rfl hmv rfl fun v' G' H' h hg=>?_)
   obtain⟨IB,ib,he,hg4,hIB,rfl⟩:=h
   cases he
   refine WA.one (i:=6) kr rfl kr (OW.buildSlice rfl kr kr (by rfl) rfl fun b133=>?_)
   refine WA.oo 7 rfl (OW.append1 (k:=Kd.prc) (news:=[.string p.name, .bool false, .slice QA p.params.length qc, .int .i64 p.locals, .int .i64 p.result, .slice IB p.code.length ib]) (u:=moveP (allPr l) o (sumC (l.take i)) (sumP (l.take i)) p) rfl rfl kr rfl (hk2.mono hg4) atA .here rfl ⟨QA,qc,IB,ib,by simp[moveP,hx],hQ.mono hg4,hIB⟩ (by rw[hlp1];omega) (by rw[hlp1];omega) rfl fun A6 c6 x6 hk6=>?_)
   refine za.fa 8 ?_
   refine za.st 9 ?_
   refine WA.done kr ?_
   refine WK.un ?_
   refine gom ?_
   refine WK.pick [zgB b2,pgmB b11 A4 A6 A3 ((l.take i).flatMap (·.consts)++o.consts).length ((joinP (allPr l) (l.take i) 0 0++(o.procs.take j).map (moveP (allPr l) o (sumC (l.take i)) (sumP (l.take i))))++[moveP (allPr l) o (sumC (l.take i)) (sumP (l.take i)) p]).length (joinT' (l.take i) 0++ptsO o.path (o.procs.take j) (sumP (l.take i))).length c4 c6 c3,x4,x6,x3] ?_
   exact WK.again (X:=JL) (x:=⟨j,none,0, .spare 0 0 0,A2,c2,x2,A3,c3,x3,G3⟩) (μ:=fun x=>o.procs.length - x.i) ⟨j+1,none,0, .spare 0 0 0,A6,c6,x6,A3,c3,x3,G'⟩ (by dsimp only;omega) ⟨by show j+1≤_;omega,Gh.le_trans hg3 hg4,by dsimp only;rw[hxp1];exact hk6,by dsimp only;rw[hxq1];exact hk3.mono hg4⟩ (by exact⟨rfl,rfl,rfl,rfl,rfl,trivial⟩) rfl (by dsimp only;rw[hxp1,hxq1];exact List.Sublist.refl _)
  ·obtain⟨IB,ib,he,hg4,hIB,rfl⟩:=h
   cases he
   refine za.ld 1 ?_
   refine WA.one (i:=6) kr rfl kr (OW.buildSlice rfl kr kr (by rfl) rfl fun b133=>?_)
   refine WA.oo 7 rfl (OW.append1 (k:=Kd.prc) (news:=[.string p.name, .bool false, .slice QA p.params.length qc, .int .i64 p.locals, .int .i64 p.result, .slice IB p.code.length ib]) (u:=moveP (allPr l) o (sumC (l.take i)) (sumP (l.take i)) p) rfl rfl kr rfl (hk2.mono hg4) atA .here rfl ⟨QA,qc,IB,ib,by simp[moveP,hx],hQ.mono hg4,hIB⟩ (by rw[hlp1];omega) (by rw[hlp1];omega) rfl fun A6 c6 x6 hk6=>?_)
   refine za.fa 8 ?_
   refine za.st 9 ?_
   refine WA.done kr ?_
   refine WK.un ?_
   refine gom ?_
   refine WK.pick [zgB b2,pgmB b11 A4 A6 A3 ((l.take i).flatMap (·.consts)++o.consts).length ((joinP (allPr l) (l.take i) 0 0++(o.procs.take j).map (moveP (allPr l) o (sumC (l.take i)) (sumP (l.take i))))++[moveP (allPr l) o (sumC (l.take i)) (sumP (l.take i)) p]).length (joinT' (l.take i) 0++ptsO o.path (o.procs.take j) (sumP (l.take i))).length c4 c6 c3,x4,x6,x3] ?_
   exact WK.again (X:=JL) (x:=⟨j,none,0, .spare 0 0 0,A2,c2,x2,A3,c3,x3,G3⟩) (μ:=fun x=>o.procs.length - x.i) ⟨j+1,none,0, .spare 0 0 0,A6,c6,x6,A3,c3,x3,G'⟩ (by dsimp only;omega) ⟨by show j+1≤_;omega,Gh.le_trans hg3 hg4,by dsimp only;rw[hxp1];exact hk6,by dsimp only;rw[hxq1];exact hk3.mono hg4⟩ (by exact⟨rfl,rfl,rfl,rfl,rfl,trivial⟩) rfl (by dsimp only;rw[hxp1,hxq1];exact List.Sublist.refl _)
 | true=>
  have hxq1:(joinT' (l.take i) 0++ptsO o.path (o.procs.take (j+1)) (sumP (l.take i)))=(joinT' (l.take i) 0++ptsO o.path (o.procs.take j) (sumP (l.take i)))++[⟨o.path,p.name,((sumP (l.take i)+j:Nat):Int)⟩]:=by rw[take_snoc' hp,pts_snoc,hx,if_pos rfl,List.length_take,←List.append_assoc,show min j o.procs.length=j by omega]
  have hmv:=rmoved_fn G3 (some ⟨ab,ao,none⟩) cap l hl3 hL hall hnd hm i o ho p hpm QA qc IA ic hI
  rw[hx]at hmv
  refine go ?_
  refine WC.draw mixed ?_
  refine za.fa 0 ?_
  refine za.ld 1 ?_
  refine za.move 2 ?_
  refine za.move 3 ?_
  refine za.ix 4 ?_
  refine za.fa 5 ?_
  refine WA.vv 6 rfl (Gv.loadG1 (i:=0) rfl hcs3 rfl) ?_
  refine za.fa 7 ?_
  refine za.ld 8 ?_
  refine za.fa 9 ?_
  refine za.ld 10 ?_
  refine za.len 11 ?_
  refine za.build 12 ?_
  refine WA.one (i:=13) kr rfl kr (OW.buildSlice rfl kr kr (by rfl) rfl fun b124=>?_)
  refine WA.oo 14 rfl (OW.append1 (k:=Kd.pnt) (news:=[.string o.path, .string p.name, .int .i64 ((joinP (allPr l) (l.take i) 0 0++(o.procs.take j).map (moveP (allPr l) o (sumC (l.take i)) (sumP (l.take i)))).length:Int)]) (u:=⟨o.path,p.name,((sumP (l.take i)+j:Nat):Int)⟩) rfl rfl kr rfl hk3 atA .here rfl (by show _=[_,_,_];rw[hlp1]) (by(try dsimp only);omega) (by(try dsimp only);omega) rfl fun A7 c7 x7 hk7=>?_)
  refine za.fa 15 ?_
  refine za.st 16 ?_
  refine WA.done kr ?_
  refine WK.un ?_
  refine go ?_
  refine WC.draw mixed ?_
  refine za.fa 0 ?_
  refine za.move 2 ?_
  refine za.move 3 ?_
  refine za.ld 4 ?_
  refine WA.two (i:=1) (j:=5) kr rfl rfl kr kr (OW.gv (Gv.load1 rfl atA rfl) rfl ?_) (OW.callK rfl hmv rfl fun v' G' H' h hg=>?_)
  ·
   refine WA.oo 5 rfl (OW.callK rfl hmv rfl fun v' G' H' h hg=>?_)
   obtain⟨IB,ib,he,hg4,hIB,rfl⟩:=h
   cases he
   refine WA.one (i:=6) kr rfl kr (OW.buildSlice rfl kr kr (by rfl) rfl fun b133=>?_)
   refine WA.oo 7 rfl (OW.append1 (k:=Kd.prc) (news:=[.string p.name, .bool true, .slice QA p.params.length qc, .int .i64 p.locals, .int .i64 p.result, .slice IB p.code.length ib]) (u:=moveP (allPr l) o (sumC (l.take i)) (sumP (l.take i)) p) rfl rfl kr rfl (hk2.mono hg4) atA .here rfl ⟨QA,qc,IB,ib,by simp[moveP,hx],hQ.mono hg4,hIB⟩ (by rw[hlp1];omega) (by rw[hlp1];omega) rfl fun A6 c6 x6 hk6=>?_)
   refine za.fa 8 ?_
   refine za.st 9 ?_
   refine WA.done kr ?_
   refine WK.un ?_
   refine gom ?_
   refine WK.pick [zgB b2,pgmB b11 A4 A6 A7 ((l.take i).flatMap (·.consts)++o.consts).length ((joinP (allPr l) (l.take i) 0 0++(o.procs.take j).map (moveP (allPr l) o (sumC (l.take i)) (sumP (l.take i))))++[moveP (allPr l) o (sumC (l.take i)) (sumP (l.take i)) p]).length ((joinT' (l.take i) 0++ptsO o.path (o.procs.take j) (sumP (l.take i)))++[(⟨o.path,p.name,((sumP (l.take i)+j:Nat):Int)⟩:Pt)]).length c4 c6 c7,x4,x6,x7] ?_
   exact WK.again (X:=JL) (x:=⟨j,none,0, .spare 0 0 0,A2,c2,x2,A3,c3,x3,G3⟩) (μ:=fun x=>o.procs.length - x.i) ⟨j+1,none,0, .spare 0 0 0,A6,c6,x6,A7,c7,x7,G'⟩ (by dsimp only;omega) ⟨by show j+1≤_;omega,Gh.le_trans hg3 hg4,by dsimp only;rw[hxp1];exact hk6,by dsimp only;rw[hxq1];exact hk7.mono hg4⟩ (by exact⟨rfl,rfl,rfl,rfl,rfl,trivial⟩) rfl (by dsimp only;rw[hxp1,hxq1];exact List.Sublist.refl _)
  ·obtain⟨IB,ib,he,hg4,hIB,rfl⟩:=h
   cases he
   refine za.ld 1 ?_
   refine WA.one (i:=6) kr rfl kr (OW.buildSlice rfl kr kr (by rfl) rfl fun b133=>?_)
   refine WA.oo 7 rfl (OW.append1 (k:=Kd.prc) (news:=[.string p.name, .bool true, .slice QA p.params.length qc, .int .i64 p.locals, .int .i64 p.result, .slice IB p.code.length ib]) (u:=moveP (allPr l) o (sumC (l.take i)) (sumP (l.take i)) p) rfl rfl kr rfl (hk2.mono hg4) atA .here rfl ⟨QA,qc,IB,ib,by simp[moveP,hx],hQ.mono hg4,hIB⟩ (by rw[hlp1];omega) (by rw[hlp1];omega) rfl fun A6 c6 x6 hk6=>?_)
   refine za.fa 8 ?_
   refine za.st 9 ?_
   refine WA.done kr ?_
   refine WK.un ?_
   refine gom ?_
   refine WK.pick [zgB b2,pgmB b11 A4 A6 A7 ((l.take i).flatMap (·.consts)++o.consts).length ((joinP (allPr l) (l.take i) 0 0++(o.procs.take j).map (moveP (allPr l) o (sumC (l.take i)) (sumP (l.take i))))++[moveP (allPr l) o (sumC (l.take i)) (sumP (l.take i)) p]).length ((joinT' (l.take i) 0++ptsO o.path (o.procs.take j) (sumP (l.take i)))++[(⟨o.path,p.name,((sumP (l.take i)+j:Nat):Int)⟩:Pt)]).length c4 c6 c7,x4,x6,x7] ?_
   exact WK.again (X:=JL) (x:=⟨j,none,0, .spare 0 0 0,A2,c2,x2,A3,c3,x3,G3⟩) (μ:=fun x=>o.procs.length - x.i) ⟨j+1,none,0, .spare 0 0 0,A6,c6,x6,A7,c7,x7,G'⟩ (by dsimp only;omega) ⟨by show j+1≤_;omega,Gh.le_trans hg3 hg4,by dsimp only;rw[hxp1];exact hk6,by dsimp only;rw[hxq1];exact hk7.mono hg4⟩ (by exact⟨rfl,rfl,rfl,rfl,rfl,trivial⟩) rfl (by dsimp only;rw[hxp1,hxq1];exact List.Sublist.refl _)
end
section
open Go.MapKept
def Gh.more (G:Gh):Own→Gh
 | .blk b (.cells c _ (0,0))=>G.add b c
 | _=>G
def Gh.moreL (G:Gh):List Own→Gh
 | []=>G
 | x::l=>(G.more x).moreL l
theorem at_of_get:∀ {l:List Own} {j:Nat} {x:Own},l[j]? =some x→At l j x
 | _::_,0,x,h=>by simp at h;subst h;exact .here
 | _::l,j+1,x,h=> .there (at_of_get (by simpa using h))
structure PO where
 QA:Option Addr
 qc:Nat
 xq:Own
 IA:Option Addr
 ic:Nat
 xi:Own
def poC (p:Pr) (t:PO):List Value:=[.string p.name, .bool p.exp, .slice t.QA p.params.length t.qc, .int .i64 p.locals, .int .i64 p.result, .slice t.IA p.code.length t.ic]
def kPO:Kd (Pr×PO) where
 n:=6
 K G t cs:=cs=poC t.1 t.2
 mono _ h:=h
 len h:=by rw[h];rfl
 one h:=by rw[h];rfl
def ownL (l:List (Pr×PO)):List Own:=l.foldl (fun a t=>t.2.xi::t.2.xq::a) []
theorem ownL_snoc (l:List (Pr×PO)) (t:Pr×PO):ownL (l++[t])=t.2.xi::t.2.xq::ownL l:=by unfold ownL;rw[List.foldl_append];rfl
theorem ownL_mem {l:List (Pr×PO)} {t:Pr×PO} :t∈l→t.2.xi∈ownL l∧t.2.xq∈ownL l:=by
 have key:∀(n:Nat) (l:List (Pr×PO)),l.length=n→t∈l→t.2.xi∈ownL l∧t.2.xq∈ownL l:=by
  intro n
  induction n with
  | zero=>intro l hl h;rw[List.eq_nil_of_length_eq_zero hl]at h;cases h
  | succ n ih=>
   intro l hl h
   have hne:l≠ []:=fun e=>by rw[e]at hl;simp at hl
   rw[←List.dropLast_concat_getLast hne]at h⊢
   rw[ownL_snoc]
   rcases List.mem_append.1 h with h | h
   ·have:=ih l.dropLast (by rw[List.length_dropLast];omega) h
    exact⟨List.mem_cons_of_mem _ (List.mem_cons_of_mem _ this.1),List.mem_cons_of_mem _ (List.mem_cons_of_mem _ this.2)⟩
   ·rw[List.mem_singleton.1 h]
    exact⟨List.mem_cons_self,List.mem_cons_of_mem _ List.mem_cons_self⟩
 exact key l.length l rfl
def PoR (G:Gh) (t:Pr×PO):Prop:=Vec 44 1 t.2.QA t.1.params.length t.2.qc (ints t.1.params) t.2.xq∧KVec Kd.ins 50 G t.2.IA t.2.ic t.1.code t.2.xi
theorem PoR.mono {G G':Gh} {t:Pr×PO} (h:PoR G t) (hg:G.le G'):PoR G' t:=⟨h.1,h.2.mono hg⟩
def KP (T:Nat) (G:Gh) (A:Option Addr) (cap:Nat) (l:List Pr) (q:List (Pr×PO)) (x:Own):Prop:=KVec kPO T G A cap q x∧q.map (·.1)=l∧∀t∈q,PoR G t
theorem KP.nil {T:Nat} {G:Gh} :KP T G none 0 [] [] (.spare 0 0 0):=⟨KVec.nil,rfl,fun t h=>by cases h⟩
theorem KP.mono {T:Nat} {G G':Gh} {A:Option Addr} {cap:Nat} {l:List Pr} {q:List (Pr×PO)} {x:Own} (h:KP T G A cap l q x) (hg:G.le G'):KP T G' A cap l q x:=⟨h.1.mono hg,h.2.1,fun t ht=>(h.2.2 t ht).mono hg⟩
theorem KP.len {T:Nat} {G:Gh} {A:Option Addr} {cap:Nat} {l:List Pr} {q:List (Pr×PO)} {x:Own} (h:KP T G A cap l q x):q.length=l.length:=by rw[←h.2.1,List.length_map]
section
variable {P:Program} {Q:Exit→Act→World→Prop} {cx:Cx} {L:List (Nat×Value)} {G:Gh} {H:List Own} {K:List (Nat×Value)→Gh→List Own→Prop} {d:Option Tmp} {ty:TypeId} {pos:String} {af:Array Edge} {gu:Option (Nat×Bool)}
variable {cap j:Nat} {A:Option Addr} {l:List Pr} {q:List (Pr×PO)} {news:List Value} {o:Own}
theorem OW.append1P {t e by_:Nat} {z:Value} {x y:Operand} {b cy i:Nat} {c:Array Value} {T2:TypeId} {u:Pr×PO} (hx:ev L x=some (.slice A l.length cap)) (hy:ev L y=some (.slice (some ⟨b,0,none⟩) 1 cy)) [hu:Und P t (.slice e)] [hi:Inf P e kPO.n by_ z]
  (hz:z.cells.size=kPO.n) (hs0:Nat.blt 0 kPO.n=true) (hv:KP e G A cap l q o) (hj:At H j o) (hi2:At H i (.blk b (.cells c T2 (0,0)))) (hc:c.toList=news) (hk:kPO.K G u news) (hp:PoR G u)
  (hb:(l.length+1)*by_≤140737488355328) (h63:l.length+1≤9223372036854775807) (hd:dOk d cx.N=true)
  (kk:∀A' cap' o',KP e G A' cap' (l++[u.1]) (q++[u]) o'→K (putL d (.slice A' (l++[u.1]).length cap') L) G (H.set j o')):
  OW P Q ⟨d, .call { callee:= .builtin .append,args:= #[x,y],argTypes:= #[t,t] },ty,pos,af,gu⟩ cx L G H K:=by
 have hl:=hv.len
 refine OW.append1 (k:=kPO) (u:=u) (by rw[hl];exact hx) hy hz hs0 hv.1 hj hi2 hc hk (by rw[hl];exact hb) (by rw[hl];exact h63) hd fun A' cap' o' h=>?_
 have:=kk A' cap' o' ⟨h,by rw[List.map_append,hv.2.1];rfl,fun t ht=>by
  rcases List.mem_append.1 ht with ht | ht
  ·exact hv.2.2 t ht
  ·rw[List.mem_singleton.1 ht];exact hp⟩
 rwa [show(q++[u]).length=(l++[u.1]).length by rw[List.length_append,List.length_append,hl];rfl]
end
end
section
open Go.MapKept
attribute [local irreducible] Tryz.prog expL metL atL allPr joinP joinT' ptsO sumP sumC moveI ownL
structure JO where
 i:Nat
 A1:Option Addr
 c1:Nat
 x1:Own
 A2:Option Addr
 c2:Nat
 x2:Own
 A3:Option Addr
 c3:Nat
 x3:Own
 G:Gh
 q:List (Pr×PO)
theorem ownL_nil:ownL []=[]:=by unfold ownL;rfl
set_option maxRecDepth 20000 in
set_option maxHeartbeats 8000000 in
theorem ojoinedO_fn (G:Gh) (A:Option Addr) (cap:Nat) (l:List Ob) (hl:Sl Kd.ob G A l) (hL:LLim l) (hv:∀o∈l,(objAns o).2.2=0):
  Fn Tryz.prog 34 #[.slice A l.length cap] G [] fun e G' H'=>∃CA cc PA pc QA qc x1 x2 x3 q,e= .returned (.agg #[.slice CA (l.flatMap (·.consts)).length cc, .slice PA (joinP (allPr l) l 0 0).length pc, .slice QA (joinT' l 0).length qc])∧G.le G'∧
   KVec Kd.val 52 G' CA cc (l.flatMap (·.consts)) x1∧KP 47 G' PA pc (joinP (allPr l) l 0 0) q x2∧KVec Kd.pnt 54 G' QA qc (joinT' l 0) x3∧H'=x1::x2::x3::ownL q:=by
 have hlen:=hL.len
 have hsp:=hL.sumP
 have hsc:=hL.sumC
 refine Fn.enter Tryz.func34 rfl rfl fun w0=>?_
 refine WC.seq ?_
 refine WC.region ?_
 refine WL.oo (OW.alloc rfl fun b2=>?_)
 refine gom ?_
 refine WL.oo (OW.alloc rfl fun b3=>?_)
 refine gom ?_
 refine WL.oo (OW.makeMap rfl fun bm=>?_)
 refine gom ?_
 refine WC.pick [.blk bm (.map #[] 0),pgmB b2 none none none 0 0 0 0 0 0,pgmB b3 none none none 0 0 0 0 0 0] ?_
 refine WC.loop (X:=JA) (fun x=>[(0, .slice A l.length cap),(2, .pointer (some ⟨b2,0,none⟩)),(3, .pointer (some ⟨b3,0,none⟩)),(4, .map (some bm)),(5, .int .i64 (sumP (l.take x.i):Int)),(20, .slice A l.length cap),(21, .int .i64 l.length),(22, .int .i64 x.i)]) (fun _=>G) (fun x=>[.blk bm (.map x.es x.ck),pgmB b2 none none none 0 0 0 0 0 0,pgmB b3 none none none 0 0 0 0 0 0]) (fun x=>l.length - x.i)
  (fun x=>x.i≤l.length∧MK kyV x.es x.ck x.m∧AtM x.m (allPr (l.take x.i))) ⟨0, #[],0,[]⟩ ⟨Nat.zero_le _,MK.empty,by dsimp only;rw[List.take_zero,show allPr []=[] by unfold allPr;rfl];exact AtM.nil⟩ (by exact⟨rfl,rfl,rfl,rfl,by rw[List.take_zero,show sumP []=0 by unfold sumP;rfl];rfl,rfl,rfl,rfl,trivial⟩) rfl (List.Sublist.refl _) fun x hx=>?_
 obtain⟨i,es,ck,m⟩:=x
 obtain⟨hi,hM,hA⟩:=hx
 dsimp only at hi hM hA
 have x2:=wrapS i (by omega)
 by_cases hlt:i<l.length
 rotate_left
 ·have e2:decide ((i:Int)<(l.length:Int))=false:=decide_eq_false (by omega)
  rw[List.take_of_length_le (by omega)]at hA
  refine gom ?_
  refine WC.nothing ?_
  refine WC.nothing ?_
  refine WC.nothing ?_
  refine WC.pick [.blk bm (.map es ck),pgmB b2 none none none 0 0 0 0 0 0,pgmB b3 none none none 0 0 0 0 0 0, .spare 0 0 0, .spare 0 0 0, .spare 0 0 0] ?_
  have hAM:=hA
  have hMM:=hM
  refine WC.loop (X:=JO) (fun x=>[(2, .pointer (some ⟨b2,0,none⟩)),(3, .pointer (some ⟨b3,0,none⟩)),(4, .map (some bm)),(44, .slice A l.length cap),(45, .int .i64 l.length),(46, .int .i64 x.i)]) (fun x=>x.G)
   (fun x=> .blk bm (.map es ck)::pgmB b2 none none none 0 0 0 0 0 0::pgmB b3 x.A1 x.A2 x.A3 ((l.take x.i).flatMap (·.consts)).length (joinP (allPr l) (l.take x.i) 0 0).length (joinT' (l.take x.i) 0).length x.c1 x.c2 x.c3::x.x1::x.x2::x.x3::ownL x.q) (fun x=>l.length - x.i)
   (fun x=>x.i≤l.length∧G.le x.G∧KVec Kd.val 52 x.G x.A1 x.c1 ((l.take x.i).flatMap (·.consts)) x.x1∧KP 47 x.G x.A2 x.c2 (joinP (allPr l) (l.take x.i) 0 0) x.q x.x2∧KVec Kd.pnt 54 x.G x.A3 x.c3 (joinT' (l.take x.i) 0) x.x3)
   ⟨0,none,0, .spare 0 0 0,none,0, .spare 0 0 0,none,0, .spare 0 0 0,G,[]⟩ ⟨Nat.zero_le _,Gh.le_refl _,KVec.nil,by dsimp only;rw[List.take_zero,joinP];exact KP.nil,by dsimp only;rw[List.take_zero,joinT'];exact KVec.nil⟩ (by exact⟨rfl,rfl,rfl,rfl,rfl,rfl,trivial⟩) rfl (by dsimp only;rw[List.take_zero,joinP,joinT',ownL_nil];exact List.Sublist.refl _) fun x hx=>?_
  obtain⟨i,A1,c1,x1,A2,c2,x2,A3,c3,x3,G1,q⟩:=x
  obtain⟨hi,hg1,hk1,hk2,hk3⟩:=hx
  dsimp only at hi hg1 hk1 hk2 hk3
  have z2:=wrapS i (by omega)
  by_cases hlt:i<l.length
  rotate_left
  ·have e2:decide ((i:Int)<(l.length:Int))=false:=decide_eq_false (by omega)
   have htl:l.take i=l:=List.take_of_length_le (by omega)
   rw[htl]at hk1 hk2 hk3
   refine gom ?_
   refine WC.rt ?_
   exact QF.p1 (.inl rfl) rfl (.cell rfl inferInstance inferInstance atA rfl rfl) (⟨A1,c1,A2,c2,A3,c3,x1,x2,x3,q,by rw[htl];rfl,hg1,hk1,hk2,hk3,rfl⟩)
  have e2:decide ((i:Int)<(l.length:Int))=true:=decide_eq_true (by omega)
  obtain⟨o,ho⟩:∃o,l[i]? =some o:=⟨_,List.getElem?_eq_getElem (by omega)⟩
  have hom:=List.mem_of_getElem? ho
  have x0:(0:Int)≤(i:Int):=by omega
  have x1':(i:Int)<(l.length:Int):=by omega
  have hl1:=hl.mono hg1
  obtain⟨ab,ao,cs,rfl,hks,hcs⟩:=hl1 i o ho
  obtain⟨CA,cc,NA,nc,PA,pc,rfl,hO⟩:=hks
  have htk:l.take (i+1)=l.take i++[o]:=take_snoc' ho
  have hsn:=sumP_snoc_le ho
  have hcn:=sumC_snoc_le ho
  have hfl:(l.take (i+1)).flatMap (·.consts)=(l.take i).flatMap (·.consts)++o.consts:=by rw[htk,List.flatMap_append];simp
  have hjs:joinP (allPr l) (l.take (i+1)) 0 0=joinP (allPr l) (l.take i) 0 0++o.procs.map (moveP (allPr l) o (sumC (l.take i)) (sumP (l.take i))):=by rw[htk,join_snoc,Nat.zero_add,Nat.zero_add]
  have hts:joinT' (l.take (i+1)) 0=joinT' (l.take i) 0++ptsO o.path o.procs (sumP (l.take i)):=by rw[htk,joinT_snoc,Nat.zero_add]
  have hcl:=consts_len (l.take i)
  have hjl:=join_len (allPr l) (l.take i) 0 0
  have htl:=joinT_len (l.take i) 0
  refine gom ?_
  refine WL.oo (OW.alloc rfl fun b11=>?_)
  refine gom ?_
  refine WL.oo (OW.appendS (k:=Kd.val) rfl rfl kr rfl hk1 atA hO.consts (by rw[hcl];omega) (by rw[hcl];omega) rfl fun A4 c4 x4 hk4=>?_)
  refine gom ?_
  refine WC.pick (.blk bm (.map es ck)::pgmB b2 none none none 0 0 0 0 0 0::pgmB b3 A4 A2 A3 ((l.take i).flatMap (·.consts)++o.consts).length (joinP (allPr l) (l.take i) 0 0).length (joinT' (l.take i) 0).length c4 c2 c3:: .blk b11 (.cells #[.string o.path, .slice CA o.consts.length cc, .slice NA o.needs.length nc, .slice PA o.procs.length pc] 38 (0,0))::x4::x2::x3::ownL q) ?_
  refine WC.loop (X:=JO) (fun x=>[(2, .pointer (some ⟨b2,0,none⟩)),(3, .pointer (some ⟨b3,0,none⟩)),(4, .map (some bm)),(11, .pointer (some ⟨b11,0,none⟩)),(12, .int .i64 ((l.take i).flatMap (·.consts)).length),(13, .int .i64 (joinP (allPr l) (l.take i) 0 0).length),(44, .slice (some ⟨ab,ao,none⟩) l.length cap),(45, .int .i64 l.length),(46, .int .i64 i),(63, .slice PA o.procs.length pc),(64, .int .i64 o.procs.length),(65, .int .i64 x.i)]) (fun x=>x.G)
   (fun x=> .blk bm (.map es ck)::pgmB b2 none none none 0 0 0 0 0 0::pgmB b3 A4 x.A2 x.A3 ((l.take i).flatMap (·.consts)++o.consts).length (joinP (allPr l) (l.take i) 0 0++(o.procs.take x.i).map (moveP (allPr l) o (sumC (l.take i)) (sumP (l.take i)))).length (joinT' (l.take i) 0++ptsO o.path (o.procs.take x.i) (sumP (l.take i))).length c4 x.c2 x.c3:: .blk b11 (.cells #[.string o.path, .slice CA o.consts.length cc, .slice NA o.needs.length nc, .slice PA o.procs.length pc] 38 (0,0))::x4::x.x2::x.x3::ownL x.q) (fun x=>o.procs.length - x.i)
   (fun x=>x.i≤o.procs.length∧G1.le x.G∧KP 47 x.G x.A2 x.c2 (joinP (allPr l) (l.take i) 0 0++(o.procs.take x.i).map (moveP (allPr l) o (sumC (l.take i)) (sumP (l.take i)))) x.q x.x2∧KVec Kd.pnt 54 x.G x.A3 x.c3 (joinT' (l.take i) 0++ptsO o.path (o.procs.take x.i) (sumP (l.take i))) x.x3)
   ⟨0,none,0, .spare 0 0 0,A2,c2,x2,A3,c3,x3,G1,q⟩ ⟨Nat.zero_le _,Gh.le_refl _,by dsimp only;rw[List.take_zero,List.map_nil,List.append_nil];exact hk2,by dsimp only;rw[List.take_zero,ptsO,List.append_nil];exact hk3⟩ (by exact⟨rfl,rfl,rfl,rfl,rfl,rfl,rfl,rfl,rfl,rfl,rfl,rfl,trivial⟩) rfl (by dsimp only;rw[List.take_zero,ptsO,List.map_nil,List.append_nil,List.append_nil];exact List.Sublist.refl _) fun x hx=>?_
  obtain⟨j,_,_,_,A2,c2,x2,A3,c3,x3,G2,q⟩:=x
  obtain⟨hj,hg2,hk2,hk3⟩:=hx
  dsimp only at hj hg2 hk2 hk3
  have y2:=wrapS j (by omega)
  by_cases hjlt:j<o.procs.length
  rotate_left
  ·have e4:decide ((j:Int)<(o.procs.length:Int))=false:=decide_eq_false (by omega)
   have htj:o.procs.take j=o.procs:=List.take_of_length_le (by omega)
   rw[htj,←hjs]at hk2
   rw[htj,←hts]at hk3
   refine gom ?_
   refine WK.pick (.blk bm (.map es ck)::pgmB b2 none none none 0 0 0 0 0 0::pgmB b3 A4 A2 A3 ((l.take i).flatMap (·.consts)++o.consts).length (joinP (allPr l) (l.take i) 0 0++(o.procs.take j).map (moveP (allPr l) o (sumC (l.take i)) (sumP (l.take i)))).length (joinT' (l.take i) 0++ptsO o.path (o.procs.take j) (sumP (l.take i))).length c4 c2 c3::x4::x2::x3::ownL q) ?_
   exact WK.again ⟨i+1,A4,c4,x4,A2,c2,x2,A3,c3,x3,G2,q⟩ (by dsimp only;omega) ⟨by show i+1≤_;omega,Gh.le_trans hg1 hg2,by dsimp only;rw[hfl];exact hk4.mono hg2,hk2,hk3⟩ (by exact⟨rfl,rfl,rfl,rfl,rfl,rfl,trivial⟩) rfl (by dsimp only;rw[hfl,hjs,hts,htj];exact List.Sublist.refl _)
  have e4:decide ((j:Int)<(o.procs.length:Int))=true:=decide_eq_true (by omega)
  obtain⟨p,hp⟩:∃p,o.procs[j]? =some p:=⟨_,List.getElem?_eq_getElem hjlt⟩
  have y0:(0:Int)≤(j:Int):=by omega
  have y1:(j:Int)<(o.procs.length:Int):=by omega
  have hO2:=hO.mono hg2
  obtain⟨pb,po,cs2,rfl,hks2,hcs2⟩:=hO2.procs j p hp
  obtain⟨QA,qc,IA,ic,rfl,hQ,hI⟩:=hks2
  have hpl:=hL.pp o hom p (List.mem_of_getElem? hp)
  refine gom ?_
  refine WL.oo (OW.alloc rfl fun b15=>?_)
  refine gom ?_
  refine WL.oo (OW.callK rfl (clone_types G2 [] QA p.params.length qc (ints p.params) hQ.ints (ints_length _) (ints_one _) hQ.none_len (by omega)) rfl fun v' G' H' h hg=>?_)
  obtain⟨QA',qc',xq,he,rfl,rfl,hxq⟩:=h
  cases he
  obtain⟨G3,rfl⟩:∃G3,G3=G2:=⟨_,rfl⟩
  have hg3:=Gh.le_refl G3
  refine WL.pick (.blk b15 (.cells #[.string p.name, .bool p.exp, .slice QA p.params.length qc, .int .i64 p.locals, .int .i64 p.result, .slice IA p.code.length ic] 47 (0,0)):: .blk bm (.map es ck)::pgmB b2 none none none 0 0 0 0 0 0::pgmB b3 A4 A2 A3 ((l.take i).flatMap (·.consts)++o.consts).length (joinP (allPr l) (l.take i) 0 0++(o.procs.take j).map (moveP (allPr l) o (sumC (l.take i)) (sumP (l.take i)))).length (joinT' (l.take i) 0++ptsO o.path (o.procs.take j) (sumP (l.take i))).length c4 c2 c3:: .blk b11 (.cells #[.string o.path, .slice CA o.consts.length cc, .slice NA o.needs.length nc, .slice (some ⟨pb,po,none⟩) o.procs.length pc] 38 (0,0))::x4::x2::x3::xq::ownL q) ?_
  refine gom ?_
  have hI3:=hI.mono hg3
  obtain⟨ics,hir,hik⟩:=Sl.kfl (H:=[]) (by decide) hI3
  refine WL.oo (OW.callK rfl (clone_instrs G3 [] IA p.code.length ic ics hir hik.len hik.one' hI3.none_zero (by omega)) rfl fun v' G' H' h hg=>?_)
  obtain⟨IA',ic',x5,he,rfl,rfl,hx5⟩:=h
  cases he
  have hk5:KVec Kd.ins 50 G3 IA' ic' (mvT (moveI (allPr l) o (sumC (l.take i)) (sumP (l.take i))) p.code 0) x5:=by rw[mvT_zero];exact⟨ics,hx5,hik⟩
  refine WL.pick (x5:: .blk b15 (.cells #[.string p.name, .bool p.exp, .slice QA' p.params.length qc', .int .i64 p.locals, .int .i64 p.result, .slice IA p.code.length ic] 47 (0,0)):: .blk bm (.map es ck)::pgmB b2 none none none 0 0 0 0 0 0::pgmB b3 A4 A2 A3 ((l.take i).flatMap (·.consts)++o.consts).length (joinP (allPr l) (l.take i) 0 0++(o.procs.take j).map (moveP (allPr l) o (sumC (l.take i)) (sumP (l.take i)))).length (joinT' (l.take i) 0++ptsO o.path (o.procs.take j) (sumP (l.take i))).length c4 c2 c3:: .blk b11 (.cells #[.string o.path, .slice CA o.consts.length cc, .slice NA o.needs.length nc, .slice (some ⟨pb,po,none⟩) o.procs.length pc] 38 (0,0))::x4::x2::x3::xq::ownL q) ?_
  refine gom ?_
  refine WC.pick (x5:: .blk b15 (.cells #[.string p.name, .bool p.exp, .slice QA' p.params.length qc', .int .i64 p.locals, .int .i64 p.result, .slice IA' p.code.length ic'] 47 (0,0)):: .blk bm (.map es ck)::pgmB b2 none none none 0 0 0 0 0 0::pgmB b3 A4 A2 A3 ((l.take i).flatMap (·.consts)++o.consts).length (joinP (allPr l) (l.take i) 0 0++(o.procs.take j).map (moveP (allPr l) o (sumC (l.take i)) (sumP (l.take i)))).length (joinT' (l.take i) 0++ptsO o.path (o.procs.take j) (sumP (l.take i))).length c4 c2 c3:: .blk b11 (.cells #[.string o.path, .slice CA o.consts.length cc, .slice NA o.needs.length nc, .slice (some ⟨pb,po,none⟩) o.procs.length pc] 38 (0,0))::x4::x2::x3::xq::ownL q) ?_
  refine WC.loop (X:=Nat×Own) (fun x=>[(2, .pointer (some ⟨b2,0,none⟩)),(3, .pointer (some ⟨b3,0,none⟩)),(4, .map (some bm)),(11, .pointer (some ⟨b11,0,none⟩)),(12, .int .i64 ((l.take i).flatMap (·.consts)).length),(13, .int .i64 (joinP (allPr l) (l.take i) 0 0).length),(15, .pointer (some ⟨b15,0,none⟩)),(44, .slice (some ⟨ab,ao,none⟩) l.length cap),(45, .int .i64 l.length),(46, .int .i64 i),(63, .slice (some ⟨pb,po,none⟩) o.procs.length pc),(64, .int .i64 o.procs.length),(65, .int .i64 j),(79, .int .i64 p.code.length),(80, .int .i64 x.1)]) (fun _=>G3)
   (fun x=>x.2:: .blk b15 (.cells #[.string p.name, .bool p.exp, .slice QA' p.params.length qc', .int .i64 p.locals, .int .i64 p.result, .slice IA' p.code.length ic'] 47 (0,0)):: .blk bm (.map es ck)::pgmB b2 none none none 0 0 0 0 0 0::pgmB b3 A4 A2 A3 ((l.take i).flatMap (·.consts)++o.consts).length (joinP (allPr l) (l.take i) 0 0++(o.procs.take j).map (moveP (allPr l) o (sumC (l.take i)) (sumP (l.take i)))).length (joinT' (l.take i) 0++ptsO o.path (o.procs.take j) (sumP (l.take i))).length c4 c2 c3:: .blk b11 (.cells #[.string o.path, .slice CA o.consts.length cc, .slice NA o.needs.length nc, .slice (some ⟨pb,po,none⟩) o.procs.length pc] 38 (0,0))::x4::x2::x3::xq::ownL q) (fun x=>p.code.length - x.1)
   (fun x=>x.1≤p.code.length∧KVec Kd.ins 50 G3 IA' ic' (mvT (moveI (allPr l) o (sumC (l.take i)) (sumP (l.take i))) p.code x.1) x.2) (0,x5) ⟨Nat.zero_le _,hk5⟩ (by exact⟨rfl,rfl,rfl,rfl,rfl,rfl,rfl,rfl,rfl,rfl,rfl,rfl,rfl,rfl,rfl,trivial⟩) rfl (List.Sublist.refl _) fun x hx=>?_
  obtain⟨k,x5⟩:=x
  obtain⟨hk,hk5⟩:=hx
  dsimp only at hk hk5
  have w2:=wrapS k (by omega)
  by_cases hklt:k<p.code.length
  rotate_left
  ·have e5:decide ((k:Int)<(p.code.length:Int))=false:=decide_eq_false (by omega)
   rw[mvT_all _ (by omega)]at hk5
   obtain⟨G4,rfl⟩:∃G4,G4=G3:=⟨_,rfl⟩
   have hg4:=Gh.le_refl G4
   have hpo:PoR G4 (moveP (allPr l) o (sumC (l.take i)) (sumP (l.take i)) p,⟨QA',qc',xq,IA',ic',x5⟩):=⟨hxq,hk5⟩
   have hg24:=Gh.le_trans hg3 hg4
   have hlp1:(joinP (allPr l) (l.take i) 0 0++(o.procs.take j).map (moveP (allPr l) o (sumC (l.take i)) (sumP (l.take i)))).length=sumP (l.take i)+j:=by rw[List.length_append,hjl,List.length_map,List.length_take];omega
   have hxp1:(joinP (allPr l) (l.take i) 0 0++(o.procs.take (j+1)).map (moveP (allPr l) o (sumC (l.take i)) (sumP (l.take i))))=(joinP (allPr l) (l.take i) 0 0++(o.procs.take j).map (moveP (allPr l) o (sumC (l.take i)) (sumP (l.take i))))++[moveP (allPr l) o (sumC (l.take i)) (sumP (l.take i)) p]:=by rw[take_snoc' hp,List.map_append,List.append_assoc];rfl
   have hlq1:(joinT' (l.take i) 0++ptsO o.path (o.procs.take j) (sumP (l.take i))).length≤sumP (l.take i)+j:=by
    have:=pts_len o.path (o.procs.take j) (sumP (l.take i))
    rw[List.length_take]at this
    rw[List.length_append];omega
   cases hx:p.exp with
   | false=>
    have hxq1:(joinT' (l.take i) 0++ptsO o.path (o.procs.take (j+1)) (sumP (l.take i)))=(joinT' (l.take i) 0++ptsO o.path (o.procs.take j) (sumP (l.take i))):=by rw[take_snoc' hp,pts_snoc,hx,if_neg (by decide),List.append_nil]
    refine gom ?_
    refine WL.op kr (OW.buildSlice rfl kr kr (by rfl) rfl fun b150=>?_)
    refine WL.oo (OW.append1P (news:=[.string p.name, .bool false, .slice QA' p.params.length qc', .int .i64 p.locals, .int .i64 p.result, .slice IA' p.code.length ic']) (u:=(moveP (allPr l) o (sumC (l.take i)) (sumP (l.take i)) p,⟨QA',qc',xq,IA',ic',x5⟩)) rfl rfl kr rfl (hk2.mono hg24) atA .here rfl (by simp[kPO,poC,moveP,hx]) hpo (by rw[hlp1];omega) (by rw[hlp1];omega) rfl fun A6 c6 x6 hk6=>?_)
    refine gom ?_
    refine WK.pick (.blk bm (.map es ck)::pgmB b2 none none none 0 0 0 0 0 0::pgmB b3 A4 A6 A3 ((l.take i).flatMap (·.consts)++o.consts).length ((joinP (allPr l) (l.take i) 0 0++(o.procs.take j).map (moveP (allPr l) o (sumC (l.take i)) (sumP (l.take i))))++[moveP (allPr l) o (sumC (l.take i)) (sumP (l.take i)) p]).length (joinT' (l.take i) 0++ptsO o.path (o.procs.take j) (sumP (l.take i))).length c4 c6 c3:: .blk b11 (.cells #[.string o.path, .slice CA o.consts.length cc, .slice NA o.needs.length nc, .slice (some ⟨pb,po,none⟩) o.procs.length pc] 38 (0,0))::x4::x6::x3::x5::xq::ownL q) ?_
    exact WK.again ⟨j+1,none,0, .spare 0 0 0,A6,c6,x6,A3,c3,x3,G4,q++[_]⟩ (by dsimp only;omega) ⟨by show j+1≤_;omega,Gh.le_trans hg2 hg24,by dsimp only;rw[hxp1];exact hk6,by dsimp only;rw[hxq1];exact hk3.mono hg24⟩ (by exact⟨rfl,rfl,rfl,rfl,rfl,rfl,rfl,rfl,rfl,rfl,rfl,rfl,trivial⟩) rfl (by dsimp only;rw[hxp1,hxq1,ownL_snoc];exact List.Sublist.refl _)
   | true=>
    have hxq1:(joinT' (l.take i) 0++ptsO o.path (o.procs.take (j+1)) (sumP (l.take i)))=(joinT' (l.take i) 0++ptsO o.path (o.procs.take j) (sumP (l.take i)))++[⟨o.path,p.name,((sumP (l.take i)+j:Nat):Int)⟩]:=by rw[take_snoc' hp,pts_snoc,hx,if_pos rfl,List.length_take,←List.append_assoc,show min j o.procs.length=j by omega]
    refine gom ?_
    refine WL.op kr (OW.buildSlice rfl kr kr (by rfl) rfl fun b144=>?_)
    refine WL.oo (OW.append1 (k:=Kd.pnt) (news:=[.string o.path, .string p.name, .int .i64 ((joinP (allPr l) (l.take i) 0 0++(o.procs.take j).map (moveP (allPr l) o (sumC (l.take i)) (sumP (l.take i)))).length:Int)]) (u:=⟨o.path,p.name,((sumP (l.take i)+j:Nat):Int)⟩) rfl rfl kr rfl (hk3.mono hg24) atA .here rfl (by show _=[_,_,_];rw[hlp1]) (by omega) (by omega) rfl fun A7 c7 x7 hk7=>?_)
    refine gom ?_
    refine WL.op kr (OW.buildSlice rfl kr kr (by rfl) rfl fun b150=>?_)
    refine WL.oo (OW.append1P (news:=[.string p.name, .bool true, .slice QA' p.params.length qc', .int .i64 p.locals, .int .i64 p.result, .slice IA' p.code.length ic']) (u:=(moveP (allPr l) o (sumC (l.take i)) (sumP (l.take i)) p,⟨QA',qc',xq,IA',ic',x5⟩)) rfl rfl kr rfl (hk2.mono hg24) atA .here rfl (by simp[kPO,poC,moveP,hx]) hpo (by rw[hlp1];omega) (by rw[hlp1];omega) rfl fun A6 c6 x6 hk6=>?_)
    refine gom ?_
    refine WK.pick (.blk bm (.map es ck)::pgmB b2 none none none 0 0 0 0 0 0::pgmB b3 A4 A6 A7 ((l.take i).flatMap (·.consts)++o.consts).length ((joinP (allPr l) (l.take i) 0 0++(o.procs.take j).map (moveP (allPr l) o (sumC (l.take i)) (sumP (l.take i))))++[moveP (allPr l) o (sumC (l.take i)) (sumP (l.take i)) p]).length ((joinT' (l.take i) 0++ptsO o.path (o.procs.take j) (sumP (l.take i)))++[(⟨o.path,p.name,((sumP (l.take i)+j:Nat):Int)⟩:Pt)]).length c4 c6 c7:: .blk b11 (.cells #[.string o.path, .slice CA o.consts.length cc, .slice NA o.needs.length nc, .slice (some ⟨pb,po,none⟩) o.procs.length pc] 38 (0,0))::x4::x6::x7::x5::xq::ownL q) ?_
    exact WK.again ⟨j+1,none,0, .spare 0 0 0,A6,c6,x6,A7,c7,x7,G4,q++[_]⟩ (by dsimp only;omega) ⟨by show j+1≤_;omega,Gh.le_trans hg2 hg24,by dsimp only;rw[hxp1];exact hk6,by dsimp only;rw[hxq1];exact hk7⟩ (by exact⟨rfl,rfl,rfl,rfl,rfl,rfl,rfl,rfl,rfl,rfl,rfl,rfl,trivial⟩) rfl (by dsimp only;rw[hxp1,hxq1,ownL_snoc];exact List.Sublist.refl _)
  have e5:decide ((k:Int)<(p.code.length:Int))=true:=decide_eq_true (by omega)
  obtain⟨ins,hins⟩:∃ins,p.code[k]? =some ins:=⟨_,List.getElem?_eq_getElem hklt⟩
  have w0':(0:Int)≤(k:Int):=by omega
  have w1':(k:Int)<(p.code.length:Int):=by omega
  have hmv:=mvT_at (moveI (allPr l) o (sumC (l.take i)) (sumP (l.take i))) hins
  have hst:=mvT_step (moveI (allPr l) o (sumC (l.take i)) (sumP (l.take i))) hins
  have hal:aloneR o.wd p ins=0:=(outAt_zero (w:=o.wd) hp (allR_zero (objAns_zero (hv o hom)).2 j (List.getElem?_eq_some_iff.1 hp).1)).2.2.1 k ins hins
  obtain⟨c,n⟩:=ins
  obtain⟨al1,al2,al3⟩:=aloneR_zero hal
  obtain⟨am1,am2,am3⟩:=mayR_le al1
  dsimp only at am1 am2
  obtain⟨cb,cd,rfl,rfl⟩:=hk5.isBlk (by rw[mvT_len];omega)
  have hat:=InsK.at hk5 hmv
  have hidx0:0+((k:Nat):Int).toNat*2+0=k*2:=by simp
  have hidx:0+((k:Nat):Int).toNat*2+1=k*2+1:=by simp
  have hidw:0+((k:Nat):Int).toNat*2=k*2:=by simp
  refine gom ?_
  refine WL.vv (Gv.load1 rfl atA (show cd[0+((k:Nat):Int).toNat*2+0]? =_ by rw[hidx0];exact hat.1)) ?_
  have hcn':sumC (l.take i)≤1048576:=by omega
  by_cases c1':c=1
  ·subst c1'
   have e6:((1:Int)==1)=true:=rfl
   have hmi:(moveI (allPr l) o (sumC (l.take i)) (sumP (l.take i))) (1,n)=(1,n+(((l.take i).flatMap (·.consts)).length:Int)):=by unfold moveI;rw[if_pos rfl,hcl]
   have hw6:IntKind.i64.wrap (n+(((l.take i).flatMap (·.consts)).length:Int))=n+(((l.take i).flatMap (·.consts)).length:Int):=wrapI (by omega) (by omega)
   have hp2:=InsK.put2 (z:=n+(((l.take i).flatMap (·.consts)).length:Int)) hk5 hmv
   have hp3:=hp2.2
   rw[←hmi,hst]at hp3
   refine gom ?_
   refine WL.vv (Gv.load1 rfl atA (show cd[0+((k:Nat):Int).toNat*2+1]? =_ by rw[hidx];exact hat.2)) ?_
   refine gom ?_
   refine WL.oo (OW.store rfl rfl atA rfl (by rfl) (by rfl) (show Nat.ble (0+((k:Nat):Int).toNat*2+1+1) cd.size=true by rw[hidx];exact hp2.1) (by rfl) ?_ rfl)
   refine gom ?_
   rw[hidx]
   refine WK.pick (.blk cb (.cells (splice cd (k*2+1) [.int .i64 (n+(((l.take i).flatMap (·.consts)).length:Int))]) 50 (0,0)):: .blk b15 (.cells #[.string p.name, .bool p.exp, .slice QA' p.params.length qc', .int .i64 p.locals, .int .i64 p.result, .slice (some ⟨cb,0,none⟩) p.code.length ic'] 47 (0,0)):: .blk bm (.map es ck)::pgmB b2 none none none 0 0 0 0 0 0::pgmB b3 A4 A2 A3 ((l.take i).flatMap (·.consts)++o.consts).length (joinP (allPr l) (l.take i) 0 0++(o.procs.take j).map (moveP (allPr l) o (sumC (l.take i)) (sumP (l.take i)))).length (joinT' (l.take i) 0++ptsO o.path (o.procs.take j) (sumP (l.take i))).length c4 c2 c3:: .blk b11 (.cells #[.string o.path, .slice CA o.consts.length cc, .slice NA o.needs.length nc, .slice (some ⟨pb,po,none⟩) o.procs.length pc] 38 (0,0))::x4::x2::x3::xq::ownL q) ?_
   exact WK.again ⟨k+1,_⟩ (by dsimp only;omega) ⟨by show k+1≤_;omega,hp3⟩ (by exact⟨rfl,rfl,rfl,rfl,rfl,rfl,rfl,rfl,rfl,rfl,rfl,rfl,rfl,rfl,rfl,trivial⟩) rfl (List.Sublist.refl _)
  by_cases c7':c=7
  ·subst c7'
   have e6:((7:Int)==1)=false:=rfl
   have e7:((7:Int)==7)=true:=rfl
   have hmi:(moveI (allPr l) o (sumC (l.take i)) (sumP (l.take i))) (7,n)=(7,n+((joinP (allPr l) (l.take i) 0 0).length:Int)):=by unfold moveI;rw[if_neg (by dsimp only;decide),if_pos rfl,hjl]
   have hw6:IntKind.i64.wrap (n+((joinP (allPr l) (l.take i) 0 0).length:Int))=n+((joinP (allPr l) (l.take i) 0 0).length:Int):=wrapI (by omega) (by omega)
   have hp2:=InsK.put2 (z:=n+((joinP (allPr l) (l.take i) 0 0).length:Int)) hk5 hmv
   have hp3:=hp2.2
   rw[←hmi,hst]at hp3
   refine gom ?_
   refine WL.vv (Gv.load1 rfl atA (show cd[0+((k:Nat):Int).toNat*2+1]? =_ by rw[hidx];exact hat.2)) ?_
   refine gom ?_
   refine WL.oo (OW.store rfl rfl atA rfl (by rfl) (by rfl) (show Nat.ble (0+((k:Nat):Int).toNat*2+1+1) cd.size=true by rw[hidx];exact hp2.1) (by rfl) ?_ rfl)
   refine gom ?_
   rw[hidx]
   refine WK.pick (.blk cb (.cells (splice cd (k*2+1) [.int .i64 (n+((joinP (allPr l) (l.take i) 0 0).length:Int))]) 50 (0,0)):: .blk b15 (.cells #[.string p.name, .bool p.exp, .slice QA' p.params.length qc', .int .i64 p.locals, .int .i64 p.result, .slice (some ⟨cb,0,none⟩) p.code.length ic'] 47 (0,0)):: .blk bm (.map es ck)::pgmB b2 none none none 0 0 0 0 0 0::pgmB b3 A4 A2 A3 ((l.take i).flatMap (·.consts)++o.consts).length (joinP (allPr l) (l.take i) 0 0++(o.procs.take j).map (moveP (allPr l) o (sumC (l.take i)) (sumP (l.take i)))).length (joinT' (l.take i) 0++ptsO o.path (o.procs.take j) (sumP (l.take i))).length c4 c2 c3:: .blk b11 (.cells #[.string o.path, .slice CA o.consts.length cc, .slice NA o.needs.length nc, .slice (some ⟨pb,po,none⟩) o.procs.length pc] 38 (0,0))::x4::x2::x3::xq::ownL q) ?_
   exact WK.again ⟨k+1,_⟩ (by dsimp only;omega) ⟨by show k+1≤_;omega,hp3⟩ (by exact⟨rfl,rfl,rfl,rfl,rfl,rfl,rfl,rfl,rfl,rfl,rfl,rfl,rfl,rfl,rfl,trivial⟩) rfl (List.Sublist.refl _)
  by_cases c8':c=8
  ·subst c8'
   have e6:((8:Int)==1)=false:=rfl
   have e7:((8:Int)==7)=false:=rfl
   have e8:((8:Int)==8)=true:=rfl
   have hn8:n<(o.needs.length:Int):=by simpa [Ob.wd]using al3
   obtain⟨nd,hnd⟩:∃nd,o.needs[n.toNat]? =some nd:=⟨_,List.getElem?_eq_getElem (by omega)⟩
   have hO3:=hO2.mono hg3
   obtain⟨nb,no,cs3,rfl,hks3,hcs3⟩:=hO3.needs n.toNat nd hnd
   obtain⟨NQ,nqc,rfl,hNQ⟩:=hks3
   have hmi:(moveI (allPr l) o (sumC (l.take i)) (sumP (l.take i))) (8,n)=(7,atL (allPr l) (nd.path,nd.name)):=by unfold moveI;rw[if_neg (by dsimp only;decide),if_neg (by dsimp only;decide),if_pos rfl,hnd]
   have hp2:=InsK.put (y:=(7,atL (allPr l) (nd.path,nd.name))) hk5 hmv
   have hp3:KVec Kd.ins 50 G3 (some ⟨cb,0,none⟩) ic' (mvT (moveI (allPr l) o (sumC (l.take i)) (sumP (l.take i))) p.code (k+1)) (.blk cb (.cells (splice cd (k*2) [.int .i64 7, .int .i64 (atL (allPr l) (nd.path,nd.name))]) 50 (0,0))):=by
    rw[←hst,hmi];exact hp2.2.2
   refine gom ?_
   refine WQ.tv (Gv.load1 rfl atA (show cd[0+((k:Nat):Int).toNat*2+1]? =_ by rw[hidx];exact hat.2)) kr kr rfl ?_
   refine gom ?_
   refine WQ.one kr kr (OW.alloc rfl fun b18=>?_)
   refine WQ.one kr kr (OW.store rfl rfl atA rfl (by rfl) (by rfl) kr (by rfl) ?_ rfl)
   refine gom ?_
   refine WL.vv (Gv.lookupK (emb:=kyV) (key:=(nd.path,nd.name)) (kt:=140) (z:= .int .i64 0) rfl rfl atA hMM (hAM _)) ?_
   refine gom ?_
   refine WL.oo (OW.store rfl rfl atA rfl (by rfl) (by rfl) (show Nat.ble (0+((k:Nat):Int).toNat*2+2) cd.size=true by rw[hidw];exact hp2.2.1) (by rfl) ?_ rfl)
   refine gom ?_
   rw[hidw]
   refine WK.pick (.blk cb (.cells (splice cd (k*2) [.int .i64 7, .int .i64 (atL (allPr l) (nd.path,nd.name))]) 50 (0,0)):: .blk b15 (.cells #[.string p.name, .bool p.exp, .slice QA' p.params.length qc', .int .i64 p.locals, .int .i64 p.result, .slice (some ⟨cb,0,none⟩) p.code.length ic'] 47 (0,0)):: .blk bm (.map es ck)::pgmB b2 none none none 0 0 0 0 0 0::pgmB b3 A4 A2 A3 ((l.take i).flatMap (·.consts)++o.consts).length (joinP (allPr l) (l.take i) 0 0++(o.procs.take j).map (moveP (allPr l) o (sumC (l.take i)) (sumP (l.take i)))).length (joinT' (l.take i) 0++ptsO o.path (o.procs.take j) (sumP (l.take i))).length c4 c2 c3:: .blk b11 (.cells #[.string o.path, .slice CA o.consts.length cc, .slice (some ⟨nb,no,none⟩) o.needs.length nc, .slice (some ⟨pb,po,none⟩) o.procs.length pc] 38 (0,0))::x4::x2::x3::xq::ownL q) ?_
   exact WK.again ⟨k+1,_⟩ (by dsimp only;omega) ⟨by show k+1≤_;omega,hp3⟩ (by exact⟨rfl,rfl,rfl,rfl,rfl,rfl,rfl,rfl,rfl,rfl,rfl,rfl,rfl,rfl,rfl,trivial⟩) rfl (List.Sublist.refl _)
  have e6:(c==1)=false:=by simpa using c1'
  have e7:(c==7)=false:=by simpa using c7'
  have e8:(c==8)=false:=by simpa using c8'
  have hsame:(moveI (allPr l) o (sumC (l.take i)) (sumP (l.take i))) (c,n)=(c,n):=by unfold moveI;rw[if_neg c1',if_neg c7',if_neg c8']
  rw[mvT_same _ hins hsame]at hk5
  refine gom ?_
  refine WK.pick (.blk cb (.cells cd 50 (0,0)):: .blk b15 (.cells #[.string p.name, .bool p.exp, .slice QA' p.params.length qc', .int .i64 p.locals, .int .i64 p.result, .slice (some ⟨cb,0,none⟩) p.code.length ic'] 47 (0,0)):: .blk bm (.map es ck)::pgmB b2 none none none 0 0 0 0 0 0::pgmB b3 A4 A2 A3 ((l.take i).flatMap (·.consts)++o.consts).length (joinP (allPr l) (l.take i) 0 0++(o.procs.take j).map (moveP (allPr l) o (sumC (l.take i)) (sumP (l.take i)))).length (joinT' (l.take i) 0++ptsO o.path (o.procs.take j) (sumP (l.take i))).length c4 c2 c3:: .blk b11 (.cells #[.string o.path, .slice CA o.consts.length cc, .slice NA o.needs.length nc, .slice (some ⟨pb,po,none⟩) o.procs.length pc] 38 (0,0))::x4::x2::x3::xq::ownL q) ?_
  exact WK.again ⟨k+1,_⟩ (by dsimp only;omega) ⟨by show k+1≤_;omega,hk5⟩ (by exact⟨rfl,rfl,rfl,rfl,rfl,rfl,rfl,rfl,rfl,rfl,rfl,rfl,rfl,rfl,rfl,trivial⟩) rfl (List.Sublist.refl _)
 have e2:decide ((i:Int)<(l.length:Int))=true:=decide_eq_true (by omega)
 obtain⟨o,ho⟩:∃o,l[i]? =some o:=⟨_,List.getElem?_eq_getElem (by omega)⟩
 have x0:(0:Int)≤(i:Int):=by omega
 have x1:(i:Int)<(l.length:Int):=by omega
 obtain⟨ab,ao,cs,rfl,hks,hcs⟩:=hl i o ho
 obtain⟨CA,cc,NA,nc,PA,pc,rfl,hO⟩:=hks
 have htk:l.take (i+1)=l.take i++[o]:=take_snoc' ho
 have hsum:sumP (l.take (i+1))=sumP (l.take i)+o.procs.length:=by rw[htk];unfold sumP;simp
 have hsn:=sumP_snoc_le ho
 refine gom ?_
 refine WL.oo (OW.alloc rfl fun b7=>?_)
 refine gom ?_
 refine WC.pick [.blk b7 (.cells #[.string o.path, .slice CA o.consts.length cc, .slice NA o.needs.length nc, .slice PA o.procs.length pc] 38 (0,0)), .blk bm (.map es ck),pgmB b2 none none none 0 0 0 0 0 0,pgmB b3 none none none 0 0 0 0 0 0] ?_
 refine WC.loop (X:=JA) (fun x=>[(0, .slice (some ⟨ab,ao,none⟩) l.length cap),(2, .pointer (some ⟨b2,0,none⟩)),(3, .pointer (some ⟨b3,0,none⟩)),(4, .map (some bm)),(5, .int .i64 ((sumP (l.take i)+x.i:Nat):Int)),(7, .pointer (some ⟨b7,0,none⟩)),(20, .slice (some ⟨ab,ao,none⟩) l.length cap),(21, .int .i64 l.length),(22, .int .i64 i),(27, .slice PA o.procs.length pc),(28, .int .i64 o.procs.length),(29, .int .i64 x.i)]) (fun _=>G)
  (fun x=>[.blk b7 (.cells #[.string o.path, .slice CA o.consts.length cc, .slice NA o.needs.length nc, .slice PA o.procs.length pc] 38 (0,0)), .blk bm (.map x.es x.ck),pgmB b2 none none none 0 0 0 0 0 0,pgmB b3 none none none 0 0 0 0 0 0]) (fun x=>o.procs.length - x.i)
  (fun x=>x.i≤o.procs.length∧MK kyV x.es x.ck x.m∧AtM x.m (allPr (l.take i)++(o.procs.take x.i).map fun p=>(o.path,p))) ⟨0,es,ck,m⟩ ⟨Nat.zero_le _,hM,by dsimp only;rw[List.take_zero,List.map_nil,List.append_nil];exact hA⟩ (by exact⟨rfl,rfl,rfl,rfl,rfl,rfl,rfl,rfl,rfl,rfl,rfl,rfl,trivial⟩) rfl (List.Sublist.refl _) fun x hx=>?_
 obtain⟨j,es,ck,m⟩:=x
 obtain⟨hj,hM,hA⟩:=hx
 dsimp only at hj hM hA
 have y2:=wrapS j (by omega)
 by_cases hjl:j<o.procs.length
 rotate_left
 ·have e4:decide ((j:Int)<(o.procs.length:Int))=false:=decide_eq_false (by omega)
  obtain rfl:j=o.procs.length:=by omega
  refine gom ?_
  refine WK.pick [.blk bm (.map es ck),pgmB b2 none none none 0 0 0 0 0 0,pgmB b3 none none none 0 0 0 0 0 0] ?_
  exact WK.again ⟨i+1,es,ck,m⟩ (by dsimp only;omega) ⟨by show i+1≤_;omega,hM,by dsimp only;rw[htk,all_snoc];rw[List.take_length]at hA;exact hA⟩ (by exact⟨rfl,rfl,rfl,rfl,by rw[hsum];rfl,rfl,rfl,rfl,trivial⟩) rfl (List.Sublist.refl _)
 have e4:decide ((j:Int)<(o.procs.length:Int))=true:=decide_eq_true (by omega)
 obtain⟨p,hp⟩:∃p,o.procs[j]? =some p:=⟨_,List.getElem?_eq_getElem hjl⟩
 have y0:(0:Int)≤(j:Int):=by omega
 have y1:(j:Int)<(o.procs.length:Int):=by omega
 obtain⟨pb,po,cs2,rfl,hks2,hcs2⟩:=hO.procs j p hp
 obtain⟨QA,qc,IA,ic,rfl,hQ,hI⟩:=hks2
 have hlenA:(allPr (l.take i)++(o.procs.take j).map fun p=>(o.path,p)).length=sumP (l.take i)+j:=by rw[List.length_append,all_len,List.length_map,List.length_take];omega
 have hA1:=hA.snoc o.path p
 rw[hlenA,List.append_assoc]at hA1
 have hw3:IntKind.i64.wrap (((sumP (l.take i)+j:Nat):Int)+1)=((sumP (l.take i)+(j+1):Nat):Int):=wrapS _ (by omega)
 refine gom ?_
 refine WL.oo (OW.alloc rfl fun b9=>?_)
 refine gom ?_
 refine WL.oo (OW.mapSetK (emb:=kyV) (key:=(o.path,p.name)) (kt:=140) rfl rfl rfl atA hM rfl fun es2 ck2 hM2=>?_)
 refine gom ?_
 refine WK.pick [.blk b7 (.cells #[.string o.path, .slice CA o.consts.length cc, .slice NA o.needs.length nc, .slice (some ⟨pb,po,none⟩) o.procs.length pc] 38 (0,0)), .blk bm (.map es2 ck2),pgmB b2 none none none 0 0 0 0 0 0,pgmB b3 none none none 0 0 0 0 0 0] ?_
 exact WK.again ⟨j+1,es2,ck2,_⟩ (by dsimp only;omega) ⟨by show j+1≤_;omega,hM2,by dsimp only;rw[take_snoc' hp,List.map_append];exact hA1⟩ (by exact⟨rfl,rfl,rfl,rfl,rfl,rfl,rfl,rfl,rfl,rfl,rfl,rfl,trivial⟩) rfl (List.Sublist.refl _)
end
section
open Go.MapKept
attribute [local irreducible] Tryz.prog expL metL atL allPr joinP joinT' ptsO sumP sumC objAns ownL
def LinkPO (G:Gh) (l:List Ob) (e:Ending) (G':Gh) (H':List Own):Prop:=
 G.le G'∧((linkE l≠0∧e= .returned (.tuple #[.agg #[.slice none 0 0, .slice none 0 0, .slice none 0 0], .int .i64 (linkE l)])∧H'=[])∨
  (linkE l=0∧∃CA cc PA pc QA qc x1 x2 x3 q,e= .returned (.tuple #[.agg #[.slice CA (l.flatMap (·.consts)).length cc, .slice PA (joinP (allPr l) l 0 0).length pc, .slice QA (joinT' l 0).length qc], .int .i64 0])∧
   KVec Kd.val 52 G' CA cc (l.flatMap (·.consts)) x1∧KP 47 G' PA pc (joinP (allPr l) l 0 0) q x2∧KVec Kd.pnt 54 G' QA qc (joinT' l 0) x3∧H'=x1::x2::x3::ownL q))
set_option maxRecDepth 20000 in
set_option maxHeartbeats 4000000 in
theorem LinkO_fn (G:Gh) (hE:Env G) (A:Option Addr) (cap:Nat) (l:List Ob) (hl:Sl Kd.ob G A l) (hL:LLim l):
  Fn Tryz.prog 12 #[.slice A l.length cap] G [] (LinkPO G l):=by
 have hlen:=hL.len
 have hsp:=hL.sumP
 have hsc:=hL.sumC
 refine Fn.enter Tryz.func12 rfl rfl fun w0=>?_
 refine WC.seq ?_
 refine WC.region ?_
 refine WL.oo (OW.alloc rfl fun b2=>?_)
 refine gom ?_
 refine WL.oo (OW.makeMap rfl fun bm=>?_)
 refine gom ?_
 refine WC.loop (X:=LK) (fun x=>[(0, .slice A l.length cap),(2, .pointer (some ⟨b2,0,none⟩)),(4, .map (some bm)),(5, .int .i64 (sumP (l.take x.i):Int)),(6, .int .i64 (sumC (l.take x.i):Int)),(14, .slice A l.length cap),(15, .int .i64 l.length),(16, .int .i64 x.i)]) (fun x=>x.G) (fun x=>[.blk bm (.map #[] 0),pgmB b2 none none none 0 0 0 0 0 0]) (fun x=>l.length - x.i)
  (fun x=>x.i≤l.length∧G.le x.G∧∀(j:Nat) y,j<x.i→l[j]? =some y→(objAns y).2.2=0) ⟨0,G⟩ ⟨Nat.zero_le _,Gh.le_refl _,fun j y h=>absurd h (Nat.not_lt_zero _)⟩ (by exact⟨rfl,rfl,rfl,by rw[List.take_zero,show sumP []=0 by unfold sumP;rfl];rfl,by rw[List.take_zero,show sumC []=0 by unfold sumC;rfl];rfl,rfl,rfl,rfl,trivial⟩) rfl (List.Sublist.refl _) fun x hx=>?_
 obtain⟨i,G1⟩:=x
 obtain⟨hi,hg1,hok⟩:=hx
 dsimp only at hi hg1 hok
 have x2:=wrapS i (by omega)
 by_cases hlt:i<l.length
 rotate_left
 ·have e2:decide ((i:Int)<(l.length:Int))=false:=decide_eq_false (by omega)
  have hil:i=l.length:=by omega
  have hall:∀o∈l,(objAns o).2.2=0:=fun o ho=>by obtain⟨j,hj⟩:=List.mem_iff_getElem?.1 ho;exact hok j o (by have:=(List.getElem?_eq_some_iff.1 hj).1;omega) hj
  have hz:=errL_zero.2 hall
  refine gom ?_
  rw[List.take_of_length_le (show l.length≤i by omega)]
  refine WC.loop (X:=LP) (fun x=>[(0, .slice A l.length cap),(2, .pointer (some ⟨b2,0,none⟩)),(4, .map (some bm)),(5, .int .i64 (sumP l:Int)),(6, .int .i64 (sumC l:Int)),(40, .slice A l.length cap),(41, .int .i64 l.length),(42, .int .i64 x.i)]) (fun _=>G1) (fun x=>[.blk bm (.map x.pes x.pck),pgmB b2 none none none 0 0 0 0 0 0]) (fun x=>l.length - x.i)
   (fun x=>x.i≤l.length∧MRel Value.string .string x.pes x.pck x.pm∧CntM x.pm ((l.take x.i).map (·.path))∧((l.take x.i).map (·.path)).Nodup) ⟨0, #[],0,[]⟩ ⟨Nat.zero_le _,MRel.empty,CntM.nil,by simp⟩ (by exact⟨rfl,rfl,rfl,rfl,rfl,rfl,rfl,rfl,trivial⟩) rfl (List.Sublist.refl _) fun x hx=>?_
  obtain⟨i,pes,pck,pm⟩:=x
  obtain⟨hi,hP,hN,hnd⟩:=hx
  dsimp only at hi hP hN hnd
  have x2:=wrapS i (by omega)
  by_cases hlt:i<l.length
  rotate_left
  ·have e2:decide ((i:Int)<(l.length:Int))=false:=decide_eq_false (by omega)
   rw[List.take_of_length_le (by omega)]at hnd
   refine gom ?_
   refine WL.oo (OW.callK rfl (Missing_fn G1 A cap l (hl.mono hg1) hL) rfl fun v' G' H' h hg=>?_)
   obtain⟨MA,mc,xm,he,hg2,hK,rfl⟩:=h
   cases he
   have hmu:IntKind.i64.wrap 0=0:=rfl
   by_cases hm:missL l=[]
   rotate_left
   ·have e5:decide (0<((missL l).length:Int))=true:=decide_eq_true (by have:=List.length_pos_iff.2 hm;omega)
    have hle:linkE l=221:=linkE_miss.2 ⟨hall,hnd,hm⟩
    refine gom ?_
    refine WC.rt ?_
    exact QF.p2 (.inl rfl) rfl (.cell rfl inferInstance inferInstance atA rfl rfl) (.tmp rfl) (⟨Gh.le_trans hg1 hg2, .inl ⟨by rw[hle];decide,by rw[hle];rfl,rfl⟩⟩)
   have e5:decide (0<((missL l).length:Int))=false:=decide_eq_false (by rw[hm];decide)
   by_cases h1:4096<sumP l
   ·have e6:decide ((4096:Int)<(sumP l:Int))=true:=decide_eq_true (by omega)
    have hle:linkE l=53:=by unfold linkE;rw[if_neg (by simpa using hz),if_neg (by simpa using hnd),if_neg (by simpa using hm),if_pos (.inl h1)]
    refine gom ?_
    refine WC.rt ?_
    exact QF.p2 (.inl rfl) rfl (.cell rfl inferInstance inferInstance atA rfl rfl) (.tmp rfl) (⟨Gh.le_trans hg1 hg2, .inl ⟨by rw[hle];decide,by rw[hle];rfl,rfl⟩⟩)
   have e6:decide ((4096:Int)<(sumP l:Int))=false:=decide_eq_false (by omega)
   by_cases h2:65536<sumC l
   ·have e7:decide ((65536:Int)<(sumC l:Int))=true:=decide_eq_true (by omega)
    have hle:linkE l=53:=by unfold linkE;rw[if_neg (by simpa using hz),if_neg (by simpa using hnd),if_neg (by simpa using hm),if_pos (.inr h2)]
    refine gom ?_
    refine WC.rt ?_
    exact QF.p2 (.inl rfl) rfl (.cell rfl inferInstance inferInstance atA rfl rfl) (.tmp rfl) (⟨Gh.le_trans hg1 hg2, .inl ⟨by rw[hle];decide,by rw[hle];rfl,rfl⟩⟩)
   have e7:decide ((65536:Int)<(sumC l:Int))=false:=decide_eq_false (by omega)
   have hle:linkE l=0:=by unfold linkE;rw[if_neg (by simpa using hz),if_neg (by simpa using hnd),if_neg (by simpa using hm),if_neg (by omega)]
   refine gom ?_
   refine WL.pick [pgmB b2 none none none 0 0 0 0 0 0] ?_
   refine WL.oo (OW.callK rfl (ojoinedO_fn _ A cap l (hl.mono (Gh.le_trans hg1 hg2)) hL hall) rfl fun v' G' H' h hg=>?_)
   obtain⟨CA,cc,PA,pc,QA,qc,y1,y2,y3,q,he,hg3,k1,k2,k3,rfl⟩:=h
   cases he
   refine WL.pick (pgmB b2 none none none 0 0 0 0 0 0::y1::y2::y3::ownL q) ?_
   refine gom ?_
   refine WC.rt ?_
   exact QF.p2 (.inl rfl) rfl (.cell rfl inferInstance inferInstance atA rfl rfl) (.tmp rfl) (⟨Gh.le_trans hg1 (Gh.le_trans hg2 hg3), .inr ⟨hle,CA,cc,PA,pc,QA,qc,y1,y2,y3,q,rfl,k1,k2,k3,rfl⟩⟩)
  have e2:decide ((i:Int)<(l.length:Int))=true:=decide_eq_true (by omega)
  obtain⟨o,ho⟩:∃o,l[i]? =some o:=⟨_,List.getElem?_eq_getElem (by omega)⟩
  have x0:(0:Int)≤(i:Int):=by omega
  have x1:(i:Int)<(l.length:Int):=by omega
  have hl1:=hl.mono hg1
  obtain⟨ab,ao,cs,rfl,hks,hcs⟩:=hl1 i o ho
  obtain⟨CA,cc,NA,nc,PA,pc,rfl,hO⟩:=hks
  have hmap:(l.take (i+1)).map (·.path)=(l.take i).map (·.path)++[o.path]:=by rw[take_snoc' ho,List.map_append];rfl
  obtain⟨N,hNe⟩:∃N,N=cntS ((l.take i).map (·.path)) o.path:=⟨_,rfl⟩
  have hNl:N≤1048576:=by have:=cntS_le ((l.take i).map (·.path)) o.path;rw[←hNe]at this;simp at this;omega
  have hNv:=hN o.path
  rw[←hNe]at hNv
  have hw:=wrapS N (by omega)
  have hN1:=hN.snoc o.path
  rw[←hNe,←hmap]at hN1
  refine gom ?_
  refine WL.oo (OW.alloc rfl fun b12=>?_)
  refine gom ?_
  refine WL.vv (Gv.lookup (emb:=Value.string) (z:= .int .i64 0) rfl rfl atA hP hNv) ?_
  refine gom ?_
  refine WL.oo (OW.mapSet (emb:=Value.string) rfl rfl rfl atA hP rfl fun pes1 pck1 hP1=>?_)
  refine gom ?_
  refine WL.vv (Gv.lookup (emb:=Value.string) (z:= .int .i64 0) (v:= .int .i64 ((N+1:Nat):Int)) rfl rfl atA hP1 (by rw[getA_setA];rfl)) ?_
  by_cases hin:o.path∈(l.take i).map (·.path)
  ·have hN0:N≠0:=fun e=>by rw[e]at hNe;exact cntS_zero.1 hNe.symm hin
   have e3:decide ((1:Int)<((N+1:Nat):Int))=true:=decide_eq_true (by omega)
   have hnn:¬(l.map (·.path)).Nodup:=fun h=>by
    have h1:((l.take (i+1)).map (·.path)).Nodup:=h.sublist ((List.take_sublist _ _).map _)
    rw[hmap,List.nodup_append]at h1
    exact h1.2.2 _ hin _ (by simp) rfl
   have hle:linkE l=222:=by unfold linkE;rw[if_neg (by simpa using hz),if_pos hnn]
   refine gom ?_
   refine WC.rt ?_
   exact QF.p2 (.inl rfl) rfl (.cell rfl inferInstance inferInstance atA rfl rfl) (.tmp rfl) (⟨hg1, .inl ⟨by rw[hle];decide,by rw[hle];rfl,rfl⟩⟩)
  have hN0:N=0:=by rw[hNe];exact cntS_zero.2 hin
  have e3:decide ((1:Int)<((N+1:Nat):Int))=false:=decide_eq_false (by omega)
  have hnd1:((l.take (i+1)).map (·.path)).Nodup:=by
   rw[hmap,List.nodup_append]
   refine⟨hnd,by simp,fun a ha b hb e=>?_⟩
   obtain rfl:b=o.path:=by simpa using hb
   exact hin (e▸ha)
  refine gom ?_
  refine WK.pick [.blk bm (.map pes1 pck1),pgmB b2 none none none 0 0 0 0 0 0] ?_
  exact WK.again ⟨i+1,pes1,pck1,_⟩ (by dsimp only;omega) ⟨by show i+1≤_;omega,hP1,hN1,hnd1⟩ (by exact⟨rfl,rfl,rfl,rfl,rfl,rfl,rfl,rfl,trivial⟩) rfl (List.Sublist.refl _)
 have e2:decide ((i:Int)<(l.length:Int))=true:=decide_eq_true (by omega)
 obtain⟨o,ho⟩:∃o,l[i]? =some o:=⟨_,List.getElem?_eq_getElem (by omega)⟩
 have hom:=List.mem_of_getElem? ho
 have x0:(0:Int)≤(i:Int):=by omega
 have x1:(i:Int)<(l.length:Int):=by omega
 have hl1:=hl.mono hg1
 obtain⟨ab,ao,cs,rfl,hks,hcs⟩:=hl1 i o ho
 obtain⟨CA,cc,NA,nc,PA,pc,rfl,hO⟩:=hks
 have s1:=sumP_snoc ho
 have s2:=sumC_snoc ho
 have s3:=sumP_take_le l (i+1)
 have s4:=sumC_take_le l (i+1)
 have w1:IntKind.i64.wrap ((sumP (l.take i):Int)+(o.procs.length:Int))=(sumP (l.take (i+1)):Int):=by rw[wrapI (by omega) (by omega)];omega
 have w2:IntKind.i64.wrap ((sumC (l.take i):Int)+(o.consts.length:Int))=(sumC (l.take (i+1)):Int):=by rw[wrapI (by omega) (by omega)];omega
 refine gom ?_
 refine WL.oo (OW.alloc rfl fun b8=>?_)
 refine gom ?_
 refine WL.oo (OW.callK rfl (Object_fn G1 (hE.mono hg1) o CA NA PA cc nc pc hO (hL.lim o hom)) rfl fun v' G' H' h hg=>?_)
 obtain⟨he,hg2,rfl⟩:=h
 cases he
 refine gom ?_
 refine WL.oo (OW.alloc rfl fun b9=>?_)
 by_cases hz:(objAns o).2.2=0
 rotate_left
 ·have e3:((objAns o).2.2 != 0)=true:=by simpa using hz
  have hle:linkE l=(objAns o).2.2:=by unfold linkE;rw[errL_at hok ho hz,if_pos hz]
  refine gom ?_
  refine WC.rt ?_
  exact QF.p2 (.inl rfl) rfl (.cell rfl inferInstance inferInstance atA rfl rfl) (.tmp rfl) (⟨Gh.le_trans hg1 hg2, .inl ⟨by rw[hle];exact hz,by rw[hle];rfl,rfl⟩⟩)
 have e3:((objAns o).2.2 != 0)=false:=by simpa using hz
 refine gom ?_
 refine WK.pick [.blk bm (.map #[] 0),pgmB b2 none none none 0 0 0 0 0 0] ?_
 exact WK.again ⟨i+1,_⟩ (by dsimp only;omega) ⟨by show i+1≤_;omega,Gh.le_trans hg1 hg2,fun j y hj hy=>by
  rcases Nat.lt_or_ge j i with h | h
  ·exact hok j y h hy
  ·obtain rfl:j=i:=by dsimp only at hj;omega
   rw[ho]at hy;cases hy;exact hz⟩ (by exact⟨rfl,rfl,rfl,rfl,rfl,rfl,rfl,rfl,trivial⟩) rfl (List.Sublist.refl _)
structure NO where
 QA:Option Addr
 qc:Nat
 xq:Own
def kNO:Kd (Nd×NO) where
 n:=4
 K G t cs:=cs=[.string t.1.path, .string t.1.name, .slice t.2.QA t.1.params.length t.2.qc, .int .i64 t.1.result]
 mono _ h:=h
 len h:=by rw[h];rfl
 one h:=by rw[h];rfl
def ownN (l:List (Nd×NO)):List Own:=l.foldl (fun a t=>t.2.xq::a) []
theorem ownN_snoc (l:List (Nd×NO)) (t:Nd×NO):ownN (l++[t])=t.2.xq::ownN l:=by unfold ownN;rw[List.foldl_append];rfl
theorem ownN_nil:ownN []=[]:=by unfold ownN;rfl
end
section
open Go.MapKept
theorem Sat.moreT {w:World} :∀ {Xs:List Own} {G:Gh} {H:List Own},Sat G (Xs++H) w→Sat (G.moreL Xs) H w∧G.le (G.moreL Xs)
 | [],G,H,h=>⟨h,Gh.le_refl _⟩
 | x::l,G,H,h=>by
  have key:Sat (G.more x) (l++H) w∧G.le (G.more x):=by
   unfold Gh.more
   split
   ·rename_i b c T
    have:=h.frozen (j:=0) .here
    exact⟨this.2,this.1⟩
   ·exact⟨h.sub (List.sublist_cons_self _ _),Gh.le_refl _⟩
  have ih:=Sat.moreT key.1
  exact⟨ih.1,Gh.le_trans key.2 ih.2⟩
theorem Fn.borrow2 {P:Program} {f:FuncId} {vs:Array Value} {G:Gh} {Xs H:List Own} {R:Ending→Gh→List Own→Prop} {Q:Ending→Prop} (h:Fn P f vs (G.moreL Xs) H R) (hr:∀e G' H',R e G' H'→Q e∧H'=H):
  Fn P f vs G (Xs++H) (fun e G' H'=>Q e∧G=G'∧H'=Xs++H):=fun w hs hx=>by
 obtain⟨hs1,hle⟩:=hs.moreT
 refine(h w hs1 fun p hp=>⟨(hx p hp).1,fun o ⟨x,hxx,hc⟩=>(hx p hp).2 o ⟨x,List.mem_append_right _ hxx,hc⟩⟩).mono fun e w' ⟨G',H',r,s,st⟩=>⟨G,Xs++H,⟨(hr _ _ _ r).1,rfl,rfl⟩,?_,?_⟩
 ·obtain⟨_,rfl⟩:=hr _ _ _ r
  refine⟨fun b o v e=>s.agr b o v (st.gle b o v (hle b o v e)),fun x hxm=>?_,hs.apart,hs.ghost⟩
  rcases List.mem_append.1 hxm with hxm' | hxm'
  ·have h1:=hs.hold x hxm
   have hap:=(List.pairwise_append.1 hs.apart).2.2 x hxm'
   cases x with
   | blk b ob=>
    have hb:b<w.heap.size:=(Array.getElem?_eq_some_iff.1 (show w.heap[b]? =some ob from h1)).1
    exact((st.keep b hb).1 fun o ⟨y,hy,hc⟩=>hap y hy b o rfl hc).trans h1
   | spare b lo hi=>
    intro hlt
    obtain⟨c,T,h2,h3⟩:=h1 hlt
    have hb:b<w.heap.size:=(Array.getElem?_eq_some_iff.1 h2).1
    obtain⟨c',h4,h5,_⟩:=(st.keep b hb).2 c T (0,0) h2
    exact⟨c',T,h4,by omega⟩
  ·exact s.hold x hxm'
 ·exact⟨st.size,fun b hb=>(st.keep b hb).mono fun o ⟨x,hxx,hc⟩=>⟨x,List.mem_append_right _ hxx,hc⟩,Gh.le_refl _,fun b o v h=> .inl h,fun x hxm b o hc=> .inl ⟨x,hxm,hc⟩,st.weq⟩
theorem WL.aparts {P:Program} {ops:Array Oper} {Q:Exit→Act→World→Prop} {rest:List Oper} {cx:Cx} {L:List (Nat×Value)} {G:Gh} {H:List Own} (h:H.Pairwise Own.apart→WL P ops Q rest cx L G H):WL P ops Q rest cx L G H:=fun a w st=>h st.sat.apart a w st
theorem WL.perm {P:Program} {ops:Array Oper} {Q:Exit→Act→World→Prop} {rest:List Oper} {cx:Cx} {L:List (Nat×Value)} {G:Gh} {H H':List Own} (p:H.Perm H') (h:WL P ops Q rest cx L G H'):WL P ops Q rest cx L G H:=fun a w st=>h a w (st.perm p)
theorem Pk.lend {A B F:List Own} :Pk (A++(B++F)) (A++B) F:=by rw[←List.append_assoc];exact Pk.app
theorem perm_back {A B F:List Own} :((A++B)++F).Perm ((B++F)++A):=by rw[List.append_assoc];exact List.perm_append_comm
theorem more_other {G:Gh} {x:Own} {b:Nat} (h:∀ob,x≠ .blk b ob) (o:Nat):G.more x b o=G b o:=by
 unfold Gh.more
 split
 ·rename_i b' c T
  unfold Gh.add
  split
  ·rename_i hb;subst hb;exact absurd rfl (h _)
  ·rfl
 ·rfl
theorem moreL_other:∀ {Xs:List Own} {G:Gh} {b:Nat},(∀x∈Xs,∀ob,x≠ .blk b ob)→∀o,G.moreL Xs b o=G b o
 | [],G,b,_,o=>rfl
 | x::l,G,b,h,o=>by
  show(G.more x).moreL l b o=_
  rw[moreL_other (fun y hy=>h y (List.mem_cons_of_mem _ hy)) o,more_other (h x List.mem_cons_self) o]
theorem moreL_get:∀ {Xs:List Own} {G:Gh} {b:Nat} {c:Array Value} {T:TypeId},Xs.Pairwise Own.apart→ .blk b (.cells c T (0,0))∈Xs→∀o,G.moreL Xs b o=c[o]?
 | x::l,G,b,c,T,hp,hm,o=>by
  obtain⟨h1,h2⟩:=List.pairwise_cons.1 hp
  show(G.more x).moreL l b o=_
  rcases List.mem_cons.1 hm with e | hm
  ·subst e
   rw[moreL_other (fun y hy ob e=>h1 y hy b 0 rfl (by rw[e];rfl)) o]
   show(G.add b c) b o=_
   unfold Gh.add
   rw[if_pos rfl]
  ·exact moreL_get h2 hm o
theorem Vec.lent {T sz n cap:Nat} {A:Option Addr} {cs:List Value} {x:Own} {G:Gh} {Xs:List Own} (h:Vec T sz A n cap cs x) (hp:Xs.Pairwise Own.apart) (hm:x∈Xs):cs=[]∨∃b,A=some ⟨b,0,none⟩∧Cs (G.moreL Xs) b 0 cs:=by
 obtain⟨hl,⟨h1,h2,h3,h4⟩ | ⟨b,c,rfl,rfl,h1,h2,rfl⟩⟩:=h
 ·left
  rw[h2,Nat.zero_mul]at hl
  exact List.eq_nil_of_length_eq_zero hl
 ·refine .inr ⟨b,rfl,fun i v e=>?_⟩
  rw[Nat.zero_add,moreL_get hp hm]
  rw[List.getElem?_take]at e
  split at e
  ·simpa using e
  ·cases e
theorem KVec.lent {α:Type} {k:Kd α} {T cap:Nat} {A:Option Addr} {l:List α} {x:Own} {G:Gh} {Xs:List Own} (hn:0<k.n) (h:KVec k T G A cap l x) (hp:Xs.Pairwise Own.apart) (hm:x∈Xs) (hg:G.le (G.moreL Xs)):Sl k (G.moreL Xs) A l:=by
 obtain⟨cs,h1,h2⟩:=h
 exact(h2.mono hg).sl hn (h1.lent hp hm)
theorem WL.lends {P:Program} {ops:Array Oper} {Q:Exit→Act→World→Prop} {rest:List Oper} {cx:Cx} {L:List (Nat×Value)} {G:Gh} {Xs H:List Own} (h:G.le (G.moreL Xs)→WL P ops Q rest cx L G (Xs++H)):WL P ops Q rest cx L G (Xs++H):=fun a w st=>h st.sat.moreT.2 a w st
def KN (T:Nat) (G:Gh) (A:Option Addr) (cap:Nat) (l:List Nd) (q:List (Nd×NO)) (x:Own):Prop:=KVec kNO T G A cap q x∧q.map (·.1)=l∧∀t∈q,Vec 44 1 t.2.QA t.1.params.length t.2.qc (ints t.1.params) t.2.xq
theorem KN.nil {T:Nat} {G:Gh} :KN T G none 0 [] [] (.spare 0 0 0):=⟨KVec.nil,rfl,fun t h=>by cases h⟩
theorem KN.len {T:Nat} {G:Gh} {A:Option Addr} {cap:Nat} {l:List Nd} {q:List (Nd×NO)} {x:Own} (h:KN T G A cap l q x):q.length=l.length:=by rw[←h.2.1,List.length_map]
theorem ownN_mem {l:List (Nd×NO)} {t:Nd×NO} :t∈l→t.2.xq∈ownN l:=by
 have key:∀(n:Nat) (l:List (Nd×NO)),l.length=n→t∈l→t.2.xq∈ownN l:=by
  intro n
  induction n with
  | zero=>intro l hl h;rw[List.eq_nil_of_length_eq_zero hl]at h;cases h
  | succ n ih=>
   intro l hl h
   have hne:l≠ []:=fun e=>by rw[e]at hl;simp at hl
   rw[←List.dropLast_concat_getLast hne]at h⊢
   rw[ownN_snoc]
   rcases List.mem_append.1 h with h | h
   ·exact List.mem_cons_of_mem _ (ih l.dropLast (by rw[List.length_dropLast];omega) h)
   ·rw[List.mem_singleton.1 h];exact List.mem_cons_self
 exact key l.length l rfl
theorem KN.rds {T:Nat} {G:Gh} {A:Option Addr} {cap:Nat} {l:List Nd} {q:List (Nd×NO)} {x:Own} {H Xs:List Own} {j:Nat} (h:KN T G A cap l q x) (hj:At H j x) (hp:Xs.Pairwise Own.apart) (hm:∀y∈ownN q,y∈Xs):∃cs,Rds (G.moreL Xs) H A cs∧KFl Kd.ned (G.moreL Xs) l cs:=by
 obtain⟨⟨cs,h1,h2⟩,h3,h4⟩:=h
 refine⟨cs,h1.rds hj,?_⟩
 have hlen:q.length=l.length:=by rw[←h3,List.length_map]
 refine⟨by rw[h2.len,hlen];rfl,fun i n hn=>?_⟩
 rw[←h3,List.getElem?_map]at hn
 cases ht:q[i]? with
 | none=>rw[ht]at hn;cases hn
 | some t=>
  rw[ht]at hn
  cases hn
  have hc:=h2.at_ i t ht
  have hmt:=List.mem_of_getElem? ht
  exact⟨t.2.QA,t.2.qc,hc,IVec.sl ((h4 t hmt).lent hp (hm _ (ownN_mem hmt)))⟩
section
variable {P:Program} {Q:Exit→Act→World→Prop} {cx:Cx} {L:List (Nat×Value)} {G:Gh} {H:List Own} {K:List (Nat×Value)→Gh→List Own→Prop} {d:Option Tmp} {ty:TypeId} {pos:String} {af:Array Edge} {gu:Option (Nat×Bool)}
variable {cap j:Nat} {A:Option Addr} {l:List Nd} {q:List (Nd×NO)} {news:List Value} {o:Own}
theorem OW.append1N {t e by_:Nat} {z:Value} {x y:Operand} {b cy i:Nat} {c:Array Value} {T2:TypeId} {u:Nd×NO} (hx:ev L x=some (.slice A l.length cap)) (hy:ev L y=some (.slice (some ⟨b,0,none⟩) 1 cy)) [hu:Und P t (.slice e)] [hi:Inf P e kNO.n by_ z]
  (hz:z.cells.size=kNO.n) (hs0:Nat.blt 0 kNO.n=true) (hv:KN e G A cap l q o) (hj:At H j o) (hi2:At H i (.blk b (.cells c T2 (0,0)))) (hc:c.toList=news) (hk:kNO.K G u news) (hp:Vec 44 1 u.2.QA u.1.params.length u.2.qc (ints u.1.params) u.2.xq)
  (hb:(l.length+1)*by_≤140737488355328) (h63:l.length+1≤9223372036854775807) (hd:dOk d cx.N=true)
  (kk:∀A' cap' o',KN e G A' cap' (l++[u.1]) (q++[u]) o'→K (putL d (.slice A' (l++[u.1]).length cap') L) G (H.set j o')):
  OW P Q ⟨d, .call { callee:= .builtin .append,args:= #[x,y],argTypes:= #[t,t] },ty,pos,af,gu⟩ cx L G H K:=by
 have hl:=hv.len
 refine OW.append1 (k:=kNO) (u:=u) (by rw[hl];exact hx) hy hz hs0 hv.1 hj hi2 hc hk (by rw[hl];exact hb) (by rw[hl];exact h63) hd fun A' cap' o' h=>?_
 have:=kk A' cap' o' ⟨h,by rw[List.map_append,hv.2.1];rfl,fun t ht=>by
  rcases List.mem_append.1 ht with ht | ht
  ·exact hv.2.2 t ht
  ·rw[List.mem_singleton.1 ht];exact hp⟩
 rwa [show(q++[u]).length=(l++[u.1]).length by rw[List.length_append,List.length_append,hl];rfl]
end
structure MO where
 i:Nat
 A:Option Addr
 cap:Nat
 acc:List Nd
 x:Own
 G:Gh
 q:List (Nd×NO)
attribute [local irreducible] Tryz.prog expL metL sumP ownN
set_option maxRecDepth 20000 in
set_option maxHeartbeats 4000000 in
theorem MissingO_fn (G:Gh) (A:Option Addr) (cap:Nat) (l:List Ob) (hl:Sl Kd.ob G A l) (hL:LLim l):
  Fn Tryz.prog 13 #[.slice A l.length cap] G [] fun e G' H'=>∃MA mc x q,e= .returned (.slice MA (missL l).length mc)∧G.le G'∧KN 56 G' MA mc (missL l) q x∧H'=x::ownN q:=by
 have hlen:=hL.len
 refine Fn.enter Tryz.func13 rfl rfl fun w0=>?_
 refine gom ?_
 refine WL.oo (OW.callK rfl (exported_fn G A cap l hl hL.len hL.sumP) rfl fun v' G' H' h hg=>?_)
 obtain⟨mb,es,ck,m,he,hg0,hM,hE,rfl⟩:=h
 cases he
 obtain⟨G1,rfl⟩:∃G1,G1=G':=⟨_,rfl⟩
 refine gom ?_
 refine WC.nothing ?_
 refine WC.loop (X:=MO) (fun x=>[(3, .map (some mb)),(4, .slice x.A x.acc.length x.cap),(12, .slice A l.length cap),(13, .int .i64 l.length),(14, .int .i64 x.i)]) (fun x=>x.G) (fun x=>x.x:: .blk mb (.map es ck)::ownN x.q) (fun x=>l.length - x.i)
  (fun x=>x.i≤l.length∧G1.le x.G∧KN 56 x.G x.A x.cap x.acc x.q x.x∧x.acc=((l.take x.i).flatMap (·.needs)).foldl (missStep l) []) ⟨0,none,0,[], .spare 0 0 0,G1,[]⟩ ⟨Nat.zero_le _,Gh.le_refl _,KN.nil,rfl⟩ (by exact⟨rfl,rfl,rfl,rfl,rfl,trivial⟩) rfl (by dsimp only;rw[ownN_nil];exact List.Sublist.refl _) fun x hx=>?_
 obtain⟨i,B,cb,acc,xo,G2,q⟩:=x
 obtain⟨hi,hg2,hK,hacc⟩:=hx
 dsimp only at hi hg2 hK hacc
 have x2:=wrapS i (by omega)
 by_cases hlt:i<l.length
 rotate_left
 ·have e2:decide ((i:Int)<(l.length:Int))=false:=decide_eq_false (by omega)
  have hm:acc=missL l:=by rw[hacc,List.take_of_length_le (by omega)];rfl
  subst hm
  refine gom ?_
  refine WC.rt ?_
  refine WK.pick (xo::ownN q) ?_
  exact QF.p1 (.inl rfl) rfl (.tmp rfl) (⟨B,cb,xo,q,rfl,Gh.le_trans hg0 hg2,hK,rfl⟩)
 have e2:decide ((i:Int)<(l.length:Int))=true:=decide_eq_true (by omega)
 obtain⟨o,ho⟩:∃o,l[i]? =some o:=⟨_,List.getElem?_eq_getElem (by omega)⟩
 have hom:=List.mem_of_getElem? ho
 have x0:(0:Int)≤(i:Int):=by omega
 have x1:(i:Int)<(l.length:Int):=by omega
 have hl2:=hl.mono (Gh.le_trans hg0 hg2)
 obtain⟨ab,ao,cs,rfl,hks,hcs⟩:=hl2 i o ho
 obtain⟨CA,cc,NA,nc,PA,pc,rfl,hO⟩:=hks
 have hfl:(l.take (i+1)).flatMap (·.needs)=(l.take i).flatMap (·.needs)++o.needs:=by rw[take_snoc' ho,List.flatMap_append];simp
 have hsn:=sumN_take ho
 have hsl:=hL.sumN
 refine gom ?_
 refine WL.oo (OW.alloc rfl fun b6=>?_)
 refine gom ?_
 refine WC.pick (xo:: .blk mb (.map es ck)::ownN q) ?_
 refine WC.loop (X:=MO) (fun x=>[(3, .map (some mb)),(4, .slice x.A x.acc.length x.cap),(12, .slice (some ⟨ab,ao,none⟩) l.length cap),(13, .int .i64 l.length),(14, .int .i64 i),(19, .slice NA o.needs.length nc),(20, .int .i64 o.needs.length),(21, .int .i64 x.i)]) (fun x=>x.G) (fun x=>x.x:: .blk mb (.map es ck)::ownN x.q) (fun x=>o.needs.length - x.i)
  (fun x=>x.i≤o.needs.length∧G2.le x.G∧KN 56 x.G x.A x.cap x.acc x.q x.x∧x.acc=((l.take i).flatMap (·.needs)++o.needs.take x.i).foldl (missStep l) []) ⟨0,B,cb,acc,xo,G2,q⟩ ⟨Nat.zero_le _,Gh.le_refl _,hK,by dsimp only;rw[List.take_zero,List.append_nil];exact hacc⟩ (by exact⟨rfl,rfl,rfl,rfl,rfl,rfl,rfl,rfl,trivial⟩) rfl (List.Sublist.refl _) fun x hx=>?_
 obtain⟨j,B,cb,acc,xo,G3,q⟩:=x
 obtain⟨hj,hg3,hK,hacc⟩:=hx
 dsimp only at hj hg3 hK hacc
 have y2:=wrapS j (by omega)
 by_cases hjl:j<o.needs.length
 rotate_left
 ·have e4:decide ((j:Int)<(o.needs.length:Int))=false:=decide_eq_false (by omega)
  have htj:o.needs.take j=o.needs:=List.take_of_length_le (by omega)
  refine gom ?_
  refine WK.pick (xo:: .blk mb (.map es ck)::ownN q) ?_
  exact WK.again ⟨i+1,B,cb,acc,xo,G3,q⟩ (by dsimp only;omega) ⟨by show i+1≤_;omega,Gh.le_trans hg2 hg3,hK,by dsimp only;rw[hacc,hfl,htj]⟩ (by exact⟨rfl,rfl,rfl,rfl,rfl,trivial⟩) rfl (List.Sublist.refl _)
 have e4:decide ((j:Int)<(o.needs.length:Int))=true:=decide_eq_true (by omega)
 obtain⟨n,hn⟩:∃n,o.needs[j]? =some n:=⟨_,List.getElem?_eq_getElem hjl⟩
 have hnm:=List.mem_of_getElem? hn
 have y0:(0:Int)≤(j:Int):=by omega
 have y1:(j:Int)<(o.needs.length:Int):=by omega
 have hO3:=hO.mono hg3
 obtain⟨nb,no,cs2,rfl,hks2,hcs2⟩:=hO3.needs j n hn
 obtain⟨QA,qc,rfl,hQ⟩:=hks2
 have hqn:(o.needs.take (j+1))=o.needs.take j++[n]:=take_snoc' hn
 have hstep:((l.take i).flatMap (·.needs)++o.needs.take (j+1)).foldl (missStep l) []=missStep l acc n:=by rw[hqn,←List.append_assoc,List.foldl_append,←hacc];rfl
 have hal:acc.length≤1048576:=by
  have:=foldl_len l ((l.take i).flatMap (·.needs)++o.needs.take j) []
  rw[←hacc,List.length_append,List.length_take,List.length_nil]at this
  omega
 have hap:∀x∈acc,x.params.length≤1000000000:=fun x hx=>by
  rw[hacc]at hx
  rcases foldl_mem l _ _ x hx with h | h
  ·cases h
  ·rcases List.mem_append.1 h with h | h
   ·obtain⟨o',ho',hx'⟩:=List.mem_flatMap.1 h
    have:=hL.np o' (List.mem_of_mem_take ho') x hx';omega
   ·have:=hL.np o hom x (List.mem_of_mem_take h);omega
 have hnp:=hL.np o hom n hnm
 refine gom ?_
 refine WL.oo (OW.alloc rfl fun b8=>?_)
 refine gom ?_
 refine WL.pp (Gp.makeFunc rfl rfl) ?_
 refine WL.pick (xo:: .blk b8 (.cells (ndC n QA qc) 56 (0,0)):: .blk mb (.map es ck)::ownN q) ?_
 refine WL.perm (List.perm_append_comm (l₁:=[xo, .blk b8 (.cells (ndC n QA qc) 56 (0,0)), .blk mb (.map es ck)]) (l₂:=ownN q)) ?_
 refine WL.aparts fun hap2=>?_
 have hpw:(ownN q).Pairwise Own.apart:=(List.pairwise_append.1 hap2).1
 obtain⟨cs0,hr0,hk0⟩:=hK.rds (H:=[xo, .blk b8 (.cells (ndC n QA qc) 56 (0,0))]) (Xs:=ownN q) .here hpw (fun y hy=>hy)
 refine WL.lends fun hle=>?_
 have hQm:=hQ.mono hle
 refine WL.oo (OW.callK rfl (Fn.borrow2 (Xs:=ownN q) (Q:=fun e=>e= .returned (.bool (acc.any (fun x=>sameN x n)))) (hasN_fn (G3.moreL (ownN q)) B cb acc [xo, .blk b8 (.cells (ndC n QA qc) 56 (0,0))] cs0 hr0 hk0 (by omega) 37 #[.pointer (some ⟨b8,0,none⟩)] (fun x=>sameN x n) (fun x cs hx hk=>miss1_fn (G3.moreL (ownN q)) _ b8 1 n QA qc hQm (.there .here) x cs hk (hap x hx))) (fun e G' H' h=>⟨h.1,h.2.2⟩)) rfl (fun v' G' H' h hg=>?_) (hp:=Pk.lend (B:=[xo, .blk b8 (.cells (ndC n QA qc) 56 (0,0))]) (F:=[.blk mb (.map es ck)])))
 obtain⟨he,rfl,rfl⟩:=h
 cases he
 refine WL.perm perm_back ?_
 show WL _ _ _ _ _ _ _ (xo:: .blk b8 (.cells (ndC n QA qc) 56 (0,0)):: .blk mb (.map es ck)::ownN q)
 refine gom ?_
 have hg03:=Gh.le_trans hg2 hg3
 have hE3:ExpM G3 l m:=fun k=>by obtain⟨a,b,h1,h2⟩:=hE k;exact⟨a,b,h1,h2.mono hg03⟩
 refine WL.oo (OW.callK rfl (met_fn G3 mb es ck m hM l hE3 (expL_len hL) (fun o ho p hp=>by have:=(hL.pp o ho p hp).1;omega) n QA qc hQ) rfl fun v' G' H' h hg=>?_)
 obtain⟨he,rfl,rfl⟩:=h
 cases he
 refine WL.pick (xo:: .blk b8 (.cells (ndC n QA qc) 56 (0,0)):: .blk mb (.map es ck)::ownN q) ?_
 have hno:∀(h:(metL l n || acc.any (fun x=>sameN x n))=true),missStep l acc n=acc:=fun h=>by unfold missStep;rw[if_pos h]
 cases hmet:metL l n with
 | true=>
  have hst:=hno (by rw[hmet];rfl)
  refine gom ?_
  refine WK.pick (xo:: .blk mb (.map es ck)::ownN q) ?_
  exact WK.again ⟨j+1,B,cb,acc,xo,G3,q⟩ (by dsimp only;omega) ⟨by show j+1≤_;omega,hg3,hK,by dsimp only;rw[hstep,hst]⟩ (by exact⟨rfl,rfl,rfl,rfl,rfl,rfl,rfl,rfl,trivial⟩) rfl (List.Sublist.refl _)
 | false=>
 cases hany:acc.any (fun x=>sameN x n)with
 | true=>
  have hst:=hno (by rw[hmet,hany];rfl)
  refine gom ?_
  refine WK.pick (xo:: .blk mb (.map es ck)::ownN q) ?_
  exact WK.again ⟨j+1,B,cb,acc,xo,G3,q⟩ (by dsimp only;omega) ⟨by show j+1≤_;omega,hg3,hK,by dsimp only;rw[hstep,hst]⟩ (by exact⟨rfl,rfl,rfl,rfl,rfl,rfl,rfl,rfl,trivial⟩) rfl (List.Sublist.refl _)
 | false=>
 have hst:missStep l acc n=acc++[n]:=by unfold missStep;rw[hmet,hany];rfl
 refine gom ?_
 refine WL.oo (OW.callK rfl (clone_types G3 [] QA n.params.length qc (ints n.params) hQ.ints (ints_length _) (ints_one _) hQ.none_len (by omega)) rfl fun v' G' H' h hg=>?_)
 obtain⟨A4,cap4,x4,he,rfl,rfl,hx4⟩:=h
 cases he
 refine WL.pick (.blk b8 (.cells (ndC n QA qc) 56 (0,0))::xo:: .blk mb (.map es ck)::x4::ownN q) ?_
 refine gom ?_
 refine WL.op kr (OW.buildSlice rfl kr kr (by rfl) rfl fun b42=>?_)
 refine WL.oo (OW.append1N (u:=(n,⟨A4,cap4,x4⟩)) rfl rfl kr rfl hK atA .here rfl rfl hx4 (by dsimp only;omega) (by dsimp only;omega) rfl fun A5 c5 o5 hv5=>?_)
 refine gom ?_
 refine WK.pick (o5:: .blk mb (.map es ck)::x4::ownN q) ?_
 exact WK.again ⟨j+1,A5,c5,acc++[n],o5,G3,q++[(n,⟨A4,cap4,x4⟩)]⟩ (by dsimp only;omega) ⟨by show j+1≤_;omega,hg3,hv5,by dsimp only;rw[hstep,hst]⟩ (by exact⟨rfl,rfl,rfl,rfl,rfl,rfl,rfl,rfl,trivial⟩) rfl (by dsimp only;rw[ownN_snoc];exact List.Sublist.refl _)
end
section
open Go.MapKept
attribute [local irreducible] Tryz.prog sameN sameP eqL
structure SLim (o:Ob):Prop where
 cl:o.consts.length≤100000000000000
 nl:o.needs.length≤100000000000000
 pl:o.procs.length≤100000000000000
 nd:∀q∈o.needs,q.params.length≤100000000000000
 pr:∀q∈o.procs,q.params.length≤100000000000000∧q.code.length≤100000000000000
def sameG (c d:List V) (p q:List Pr) (t u:List Pt):Bool:=decide (c=d)&&(eqL sameP p q&&eqL dPt t u)
theorem dPt_refl (x:Pt):dPt x x=true:=by unfold dPt;simp
theorem sameG_refl (c:List V) (p:List Pr) (t:List Pt):sameG c c p p t t=true:=by unfold sameG;rw[eqL_refl sameP_refl,eqL_refl dPt_refl];simp
set_option maxHeartbeats 1000000 in
theorem rSamePg_fn (G:Gh) (c d:List V) (p q:List Pr) (t u:List Pt) (CA PA TA DA QA UA:Option Addr) (cc pc tc dc qc uc:Nat) (hC:Sl Kd.val G CA c) (hD:Sl Kd.val G DA d) (hP:Sl Kd.prc G PA p) (hQ:Sl Kd.prc G QA q) (hT:Sl Kd.pnt G TA t) (hU:Sl Kd.pnt G UA u) (hcl:c.length≤100000000000000) (hpl:p.length≤100000000000000) (htl:t.length≤100000000000000) (hpr:∀x∈p,x.params.length≤100000000000000∧x.code.length≤100000000000000):
  Fn Tryz.prog 17 #[.agg #[.slice CA c.length cc, .slice PA p.length pc, .slice TA t.length tc], .agg #[.slice DA d.length dc, .slice QA q.length qc, .slice UA u.length uc]] G [] fun e G' H'=>e= .returned (.bool (sameG c d p q t u))∧G=G'∧H'=[]:=by
 have heq:=eqV_eq c d
 refine Fn.enter Tryz.func17 rfl rfl fun w0=>?_
 refine WC.seq ?_
 refine WC.region ?_
 refine WL.oo (OW.box rfl rfl fun b2=>?_)
 refine WL.oo (OW.box rfl rfl fun b3=>?_)
 refine gom ?_
 refine WL.oo (OW.callK rfl (rsameV_fn G CA DA c d cc dc hC hD hcl) rfl fun v' G' H' h hg=>?_)
 obtain⟨he,rfl,rfl⟩:=h
 cases he
 cases h2:eqL dV c d with
 | false=>
  rw[show sameG c d p q t u=false by unfold sameG;rw[←heq,h2];rfl]
  refine gom ?_
  refine WC.rt ?_
  exact QF.p1 (.inl rfl) rfl (.tmp rfl) (⟨rfl,rfl,rfl⟩)
 | true=>
 refine gom ?_
 refine WL.oo (OW.callK rfl (rsameP_fn G PA QA p q pc qc hP hQ hpl hpr) rfl fun v' G' H' h hg=>?_)
 obtain⟨he,rfl,rfl⟩:=h
 cases he
 cases h3:eqL sameP p q with
 | false=>
  rw[show sameG c d p q t u=false by unfold sameG;rw[←heq,h2,h3];rfl]
  refine gom ?_
  refine WC.rt ?_
  exact QF.p1 (.inl rfl) rfl (.tmp rfl) (⟨rfl,rfl,rfl⟩)
 | true=>
 rw[show sameG c d p q t u=eqL dPt t u by unfold sameG;rw[←heq,h2,h3];rfl]
 by_cases hne:t.length=u.length
 rotate_left
 ·have e1:((t.length:Int) != (u.length:Int))=true:=by rw[bne_iff_ne];omega
  rw[eqL_len hne]
  refine gom ?_
  refine WC.rt ?_
  exact QF.p1 (.inl rfl) rfl (.tmp rfl) (⟨rfl,rfl,rfl⟩)
 have e1:((t.length:Int) != (u.length:Int))=false:=by rw[hne];simp
 refine gom ?_
 refine WC.loop (X:=Nat) (fun i=>[(2, .pointer (some ⟨b2,0,none⟩)),(3, .pointer (some ⟨b3,0,none⟩)),(5, .int .i64 i)]) (fun _=>G) (fun _=>[.blk b3 (.cells #[.slice DA d.length dc, .slice QA q.length qc, .slice UA u.length uc] 27 (0,0)), .blk b2 (.cells #[.slice CA c.length cc, .slice PA p.length pc, .slice TA t.length tc] 27 (0,0))]) (fun i=>t.length - i) (fun i=>i≤t.length∧∀(j:Nat) x y,j<i→t[j]? =some x→u[j]? =some y→dPt x y=true) 0 ⟨Nat.zero_le _,fun j x y h=>absurd h (Nat.not_lt_zero _)⟩ (by exact⟨rfl,rfl,rfl,trivial⟩) rfl (List.Sublist.refl _) fun i hx=>?_
 obtain⟨hi,hall⟩:=hx
 by_cases hlt:i<t.length
 rotate_left
 ·have e2:decide ((i:Int)<(t.length:Int))=false:=decide_eq_false (by omega)
  rw[eqL_true hne fun j x y hj=>hall j x y (by omega)]
  refine gom ?_
  refine WC.rt ?_
  exact QF.p1 (.inl rfl) rfl (.tmp rfl) (⟨rfl,rfl,rfl⟩)
 have e2:decide ((i:Int)<(t.length:Int))=true:=decide_eq_true (by omega)
 obtain⟨x,hx⟩:∃x,t[i]? =some x:=⟨_,List.getElem?_eq_getElem hlt⟩
 obtain⟨y,hy⟩:∃y,u[i]? =some y:=⟨_,List.getElem?_eq_getElem (by omega)⟩
 obtain⟨ab,ao,cs1,rfl,hk1,hca⟩:=hT i x hx
 obtain⟨bb,bo,cs2,rfl,hk2,hcb⟩:=hU i y hy
 obtain rfl:cs1=[.string x.path, .string x.name, .int .i64 x.proc]:=hk1
 obtain rfl:cs2=[.string y.path, .string y.name, .int .i64 y.proc]:=hk2
 have x0:(0:Int)≤i:=by omega
 have x2:(i:Int)<(t.length:Int):=by omega
 have x3:(i:Int)<(u.length:Int):=by omega
 have x4:=wrapS i (by omega)
 cases hf:dPt x y with
 | true=>
  have e3:(!decide ((x.path,x.name,x.proc)=(y.path,y.name,y.proc)))=false:=by rw[show decide ((x.path,x.name,x.proc)=(y.path,y.name,y.proc))=true from hf];rfl
  refine gom ?_
  refine WQ.tp (Gp.nePnt rfl rfl) kr kr rfl ?_
  rw[e3]
  refine gom ?_
  exact WK.again (i+1) (by omega) ⟨by omega,eq_step hall hx hy hf⟩ (by exact⟨rfl,rfl,rfl,trivial⟩) rfl (List.Sublist.refl _)
 | false=>
  have e3:(!decide ((x.path,x.name,x.proc)=(y.path,y.name,y.proc)))=true:=by rw[show decide ((x.path,x.name,x.proc)=(y.path,y.name,y.proc))=false from hf];rfl
  rw[eqL_false hx hy hf]
  refine gom ?_
  refine WQ.tp (Gp.nePnt rfl rfl) kr kr rfl ?_
  rw[e3]
  refine gom ?_
  refine WC.rt ?_
  exact QF.p1 (.inl rfl) rfl (.tmp rfl) (⟨rfl,rfl,rfl⟩)
end
section
open Go.MapKept
attribute [local irreducible] Tryz.prog linkE allPr joinP joinT' ownL ownN missL sumP sumC objAns
theorem linkZ_of {f:FuncId} {G:Gh} {l:List Ob} {vs:Array Value} (h:Fn Tryz.prog f vs G [] (LinkP G l)):
  Fn Tryz.prog f vs G [] fun e G' H'=>∃CA cc PA pc QA qc,e= .returned (.tuple #[.agg #[.slice CA (csZ l).length cc, .slice PA (prZ l).length pc, .slice QA (ptZ l).length qc], .int .i64 (linkE l)])∧G.le G'∧
   Sl Kd.val G' CA (csZ l)∧Sl Kd.prc G' PA (prZ l)∧Sl Kd.pnt G' QA (ptZ l)∧H'=[]:=by
 by_cases hz:linkE l=0
 rotate_left
 ·refine Fn.mono h fun e G' H' h=>?_
  obtain⟨hg,⟨_,he,rfl⟩ | ⟨hz',_⟩⟩:=h
  ·rw[csZ,prZ,ptZ,if_neg hz,if_neg hz,if_neg hz]
   exact⟨none,0,none,0,none,0,he,hg,Sl.nil _ _ _,Sl.nil _ _ _,Sl.nil _ _ _,rfl⟩
  ·exact absurd hz' hz
 rw[csZ,prZ,ptZ,if_pos hz,if_pos hz,if_pos hz,hz]
 refine Fn.freezeK (k:=Kd.pnt) (R:=fun e G' H'=>∃CA cc PA pc QA qc x3,e= .returned (.tuple #[.agg #[.slice CA (l.flatMap (·.consts)).length cc, .slice PA (joinP (allPr l) l 0 0).length pc, .slice QA (joinT' l 0).length qc], .int .i64 0])∧G.le G'∧
   Sl Kd.val G' CA (l.flatMap (·.consts))∧Sl Kd.prc G' PA (joinP (allPr l) l 0 0)∧KVec Kd.pnt 54 G' QA qc (joinT' l 0) x3∧H'=[x3]) (by decide) ?_ fun e G' H' h=>?_
 rotate_left
 ·obtain⟨CA,cc,PA,pc,QA,qc,x3,he,hg,h1,h2,h3,rfl⟩:=h
  exact⟨_,_,_,_,x3,0,h3, .here,fun G'' hg' h3'=>⟨CA,cc,PA,pc,QA,qc,he,Gh.le_trans hg hg',h1.mono hg',h2.mono hg',h3',rfl⟩⟩
 refine Fn.freezeK (k:=Kd.prc) (R:=fun e G' H'=>∃CA cc PA pc QA qc x2 x3,e= .returned (.tuple #[.agg #[.slice CA (l.flatMap (·.consts)).length cc, .slice PA (joinP (allPr l) l 0 0).length pc, .slice QA (joinT' l 0).length qc], .int .i64 0])∧G.le G'∧
   Sl Kd.val G' CA (l.flatMap (·.consts))∧KVec Kd.prc 47 G' PA pc (joinP (allPr l) l 0 0) x2∧KVec Kd.pnt 54 G' QA qc (joinT' l 0) x3∧H'=[x2,x3]) (by decide) ?_ fun e G' H' h=>?_
 rotate_left
 ·obtain⟨CA,cc,PA,pc,QA,qc,x2,x3,he,hg,h1,h2,h3,rfl⟩:=h
  exact⟨_,_,_,_,x2,0,h2, .here,fun G'' hg' h2'=>⟨CA,cc,PA,pc,QA,qc,x3,he,Gh.le_trans hg hg',h1.mono hg',h2',h3.mono hg',rfl⟩⟩
 refine Fn.freezeK (k:=Kd.val) (by decide) h fun e G' H' h=>?_
 obtain⟨hg,⟨hz',_⟩ | ⟨_,CA,cc,PA,pc,QA,qc,x1,x2,x3,he,h1,h2,h3,rfl⟩⟩:=h
 ·exact absurd hz hz'
 exact⟨_,_,_,_,x1,0,h1, .here,fun G'' hg' h1'=>⟨CA,cc,PA,pc,QA,qc,x2,x3,he,Gh.le_trans hg hg',h1',h2.mono hg',h3.mono hg',rfl⟩⟩
theorem Sat.spare0 {G:Gh} {H:List Own} {w:World} (h:Sat G H w):Sat G (.spare 0 0 0::H) w:=
 ⟨h.agr,fun x hx=>by
  rcases List.mem_cons.1 hx with rfl | hx
  ·exact fun hlt=>absurd hlt (by decide)
  ·exact h.hold x hx,List.pairwise_cons.2 ⟨fun y _ b o hc=>absurd hc.2.2 (by have:=hc.2.1;omega),h.apart⟩,fun x hx b o hc=>by
  rcases List.mem_cons.1 hx with rfl | hx
  ·exact absurd hc.2.2 (by have:=hc.2.1;omega)
  ·exact h.ghost x hx b o hc⟩
theorem Stp.spare0 {S:Nat→Nat→Prop} {G0 G:Gh} {w0 w:World} {H:List Own} (h:Stp S G0 w0 G H w):Stp S G0 w0 G (.spare 0 0 0::H) w:=
 ⟨h.size,h.keep,h.gle,h.gnew,fun x hx b o hc=>by
  rcases List.mem_cons.1 hx with rfl | hx
  ·exact absurd hc.2.2 (by have:=hc.2.1;omega)
  ·exact h.own x hx b o hc,h.weq⟩
theorem Fn.nothing {P:Program} {f:FuncId} {vs:Array Value} {G:Gh} {H:List Own} {R R':Ending→Gh→List Own→Prop} (h:Fn P f vs G H R) (hr:∀e G' H',R e G' H'→R' e G' H'∨R' e G' (.spare 0 0 0:: .spare 0 0 0:: .spare 0 0 0::H')):Fn P f vs G H R':=
 fun w hs hx=>(h w hs hx).mono fun e w' ⟨G',H',r,s,st⟩=>by
  rcases hr _ _ _ r with r | r
  ·exact⟨G',H',r,s,st⟩
  ·exact⟨G',_,r,s.spare0.spare0.spare0,st.spare0.spare0.spare0⟩
theorem linkOZ_fn (G:Gh) (hE:Env G) (A:Option Addr) (cap:Nat) (l:List Ob) (hl:Sl Kd.ob G A l) (hL:LLim l):
  Fn Tryz.prog 12 #[.slice A l.length cap] G [] fun e G' H'=>∃CA cc PA pc QA qc x1 x2 x3 q,e= .returned (.tuple #[.agg #[.slice CA (csZ l).length cc, .slice PA (prZ l).length pc, .slice QA (ptZ l).length qc], .int .i64 (linkE l)])∧G.le G'∧
   KVec Kd.val 52 G' CA cc (csZ l) x1∧KP 47 G' PA pc (prZ l) q x2∧KVec Kd.pnt 54 G' QA qc (ptZ l) x3∧H'=x1::x2::x3::ownL q:=by
 refine Fn.nothing (LinkO_fn G hE A cap l hl hL) fun e G' H' h=>?_
 obtain⟨hg,⟨hz,he,rfl⟩ | ⟨hz,CA,cc,PA,pc,QA,qc,x1,x2,x3,q,he,h1,h2,h3,rfl⟩⟩:=h
 ·right
  rw[csZ,prZ,ptZ,if_neg hz,if_neg hz,if_neg hz]
  exact⟨none,0,none,0,none,0,_,_,_,[],he,hg,KVec.nil,KP.nil,KVec.nil,by rw[ownL_nil]⟩
 ·left
  rw[csZ,prZ,ptZ,if_pos hz,if_pos hz,if_pos hz,hz]
  exact⟨CA,cc,PA,pc,QA,qc,x1,x2,x3,q,he,hg,h1,h2,h3,rfl⟩
theorem KP.lent {T cap:Nat} {A:Option Addr} {l:List Pr} {q:List (Pr×PO)} {x:Own} {G:Gh} {Xs:List Own} (h:KP T G A cap l q x) (hp:Xs.Pairwise Own.apart) (hm:x∈Xs) (hq:∀y∈ownL q,y∈Xs) (hg:G.le (G.moreL Xs)):Sl Kd.prc (G.moreL Xs) A l:=by
 obtain⟨h1,h2,h3⟩:=h
 have hS:=h1.lent (by decide) hp hm hg
 intro i p hi
 rw[←h2,List.getElem?_map]at hi
 cases ht:q[i]? with
 | none=>rw[ht]at hi;cases hi
 | some t=>
  rw[ht]at hi
  cases hi
  have hmt:=List.mem_of_getElem? ht
  obtain⟨b,o,cs,e1,e2,e3⟩:=hS i t ht
  have hpo:=h3 t hmt
  exact⟨b,o,cs,e1,⟨t.2.QA,t.2.qc,t.2.IA,t.2.ic,e2,IVec.sl (hpo.1.lent hp (hq _ (ownL_mem hmt).2)),hpo.2.lent (by decide) hp (hq _ (ownL_mem hmt).1) hg⟩,e3⟩
def Shp (x y:Own):Prop:=match x with
 | .blk b (.cells c T fr)=>∃c',y= .blk b (.cells c' T fr)∧c'.size=c.size
 | _=>y=x
def Shps (X Z:List Own):Prop:=X.length=Z.length∧∀(j:Nat) x y,X[j]? =some x→Z[j]? =some y→Shp x y
theorem Shp.refl (x:Own):Shp x x:=by
 unfold Shp
 split
 ·exact⟨_,rfl,rfl⟩
 ·rfl
theorem Shps.refl (X:List Own):Shps X X:=⟨rfl,fun j x y h h'=>by rw[h]at h';cases h';exact Shp.refl x⟩
theorem Shps.at_ {X Z:List Own} (h:Shps X Z) {b:Nat} {c:Array Value} {T:TypeId} (hm: .blk b (.cells c T (0,0))∈X):∃(j:Nat) (c':Array Value),Z[j]? =some (.blk b (.cells c' T (0,0)))∧c'.size=c.size∧X[j]? =some (.blk b (.cells c T (0,0))):=by
 obtain⟨j,hj⟩:=List.getElem?_of_mem hm
 have hjl:=(List.getElem?_eq_some_iff.1 hj).1
 have hz:Z[j]? =some (Z[j]'(by rw[←h.1];exact hjl)):=List.getElem?_eq_getElem _
 obtain⟨c',e1,e2⟩:=h.2 j _ _ hj hz
 exact⟨j,c',by rw[hz,e1],e2,hj⟩
theorem Shps.set {X Z:List Own} (h:Shps X Z) {j b:Nat} {c c':Array Value} {T:TypeId} (hx:X[j]? =some (.blk b (.cells c T (0,0)))) (hc:c'.size=c.size):Shps X (Z.set j (.blk b (.cells c' T (0,0)))):=by
 refine⟨by rw[List.length_set];exact h.1,fun i x y hi hy=>?_⟩
 rw[List.getElem?_set]at hy
 split at hy
 ·rename_i hij
  subst hij
  rw[hx]at hi
  cases hi
  split at hy
  ·cases hy;exact⟨c',rfl,hc⟩
  ·cases hy
 ·exact h.2 i x y hi hy
section
variable {P:Program} {Q:Exit→Act→World→Prop} {cx:Cx} {L:List (Nat×Value)} {G:Gh} {K:List (Nat×Value)→Gh→List Own→Prop} {d:Option Tmp} {ty:TypeId} {pos:String} {af:Array Edge} {gu:Option (Nat×Bool)}
theorem OW.storeZ {u v':Own} {X Z:List Own} {t n by_:Nat} {z:Value} {x y:Operand} {b o:Nat} {c:Array Value} {t':TypeId} {v:Value} {cs:List Value} (hZ:Shps X Z) (hm: .blk b (.cells c t' (0,0))∈X) (hx:ev L x=some (.pointer (some ⟨b,o,none⟩))) (hy:ev L y=some v) [hi:Inf P t n by_ z]
  (hv:v.cells.toList=cs) (hl:cs.length=n) (h1:cs.all (·.oneCell')=true) (hf:o+n≤c.size)
  (k:∀Z',Shps X Z'→K (putL d undef L) G (u::v'::Z')) (hd:dOk d cx.N=true):OW P Q ⟨d, .store t x y,ty,pos,af,gu⟩ cx L G (u::v'::Z) K:=by
 obtain⟨j,c',e1,e2,e3⟩:=hZ.at_ hm
 refine OW.store (j:=j+2) hx hy (.there (.there (at_of_get e1))) hv hl h1 (Nat.ble_eq_true_of_le (by rw[e2];exact hf)) rfl ?_ hd
 exact k _ (hZ.set e3 (by rw[size_splice (by rw[hl,e2];exact hf),e2]))
end
theorem Vec.blk {T sz n cap:Nat} {A:Option Addr} {cs:List Value} {x:Own} (h:Vec T sz A n cap cs x) (h0:0<n):∃b c,A=some ⟨b,0,none⟩∧x= .blk b (.cells c T (0,0))∧n*sz≤c.size:=by
 obtain⟨hl,⟨h1,h2,h3,h4⟩ | ⟨b,c,h1,h2,h3,h4,_⟩⟩:=h
 ·omega
 ·exact⟨b,c,h1,h2,by rw[h4];exact Nat.mul_le_mul_right _ h3⟩
theorem KVec.blk {α:Type} {k:Kd α} {T cap:Nat} {G:Gh} {A:Option Addr} {l:List α} {x:Own} (h:KVec k T G A cap l x) (h0:0<l.length):∃b c,A=some ⟨b,0,none⟩∧x= .blk b (.cells c T (0,0))∧l.length*k.n≤c.size:=let ⟨_,h1,_⟩:=h;h1.blk h0
end
section
open Go.MapKept
theorem GLim.zero':GLim [] [] []:=⟨by decide,by decide,by decide,fun q h=>(by cases h),fun q h=>(by cases h)⟩
theorem glimZ {l:List Ob} (hL:LLim l):GLim (csZ l) (prZ l) (ptZ l):=by
 by_cases hz:linkE l=0
 ·rw[csZ,prZ,ptZ,if_pos hz,if_pos hz,if_pos hz];exact glim_link hL
 ·rw[csZ,prZ,ptZ,if_neg hz,if_neg hz,if_neg hz];exact GLim.zero'
theorem miss_len {l:List Ob} (hL:LLim l):(missL l).length≤1048576∧∀n∈missL l,n.params.length≤1048576:=by
 have key:∀m:List Ob,(m.flatMap (·.needs)).length=(m.map (·.needs.length)).sum:=fun m=>by
  induction m with
  | nil=>rfl
  | cons a r ih=>rw[List.flatMap_cons,List.length_append,ih,List.map_cons,List.sum_cons]
 have h1:=foldl_len l (l.flatMap (·.needs)) []
 have h2:=hL.sumN
 rw[key,List.length_nil]at h1
 refine⟨by unfold missL;omega,fun n hn=>?_⟩
 rcases foldl_mem l _ _ n hn with h | h
 ·cases h
 ·obtain⟨o,ho,hx⟩:=List.mem_flatMap.1 h
  exact hL.np o ho n hx
attribute [local irreducible] Tryz.prog linkE csZ prZ ptZ missL ownL ownN sumP sumC objAns
structure RS where
 r:Nat
 G:Gh
set_option maxRecDepth 20000 in
set_option maxHeartbeats 8000000 in
theorem lawOwn_fn (G:Gh) (hE:Env G) (A:Option Addr) (cap:Nat) (l:List Ob) (hl:Sl Kd.ob G A l) (hL:LLim l):
  Fn Tryz.prog 4 #[.slice A l.length cap] G [] fun e G' H'=>e= .returned (.bool true)∧G.le G'∧H'=[]:=by
 have hGL:=glimZ hL
 obtain⟨hml,hmp⟩:=miss_len hL
 refine Fn.enter Tryz.func4 rfl rfl fun w0=>?_
 refine gom ?_
 refine WL.oo (OW.callK rfl (linkZ_of (rLink_fn G A cap l hl hL)) rfl fun v' G' H' h hg=>?_)
 obtain⟨WA,wc,WP,wp,WT,wt,he,hg1,hWC,hWP,hWT,rfl⟩:=h
 cases he
 obtain⟨G1,rfl⟩:∃G1,G1=G':=⟨_,rfl⟩
 refine gom ?_
 refine WL.oo (OW.alloc rfl fun b3=>?_)
 refine gom ?_
 refine WC.loop (X:=RS) (fun x=>[(0, .slice A l.length cap),(3, .pointer (some ⟨b3,0,none⟩)),(5, .int .i64 x.r)]) (fun x=>x.G) (fun _=>[pgmB b3 WA WP WT (csZ l).length (prZ l).length (ptZ l).length wc wp wt]) (fun x=>2 - x.r) (fun x=>x.r≤2∧G1.le x.G) ⟨0,G1⟩ ⟨Nat.zero_le _,Gh.le_refl _⟩ (by exact⟨rfl,rfl,rfl,trivial⟩) rfl (List.Sublist.refl _) fun x hx=>?_
 obtain⟨r,G2⟩:=x
 obtain⟨hr,hg2⟩:=hx
 dsimp only at hr hg2
 have x2:=wrapS r (by omega)
 have hg02:=Gh.le_trans hg1 hg2
 by_cases hlt:r<2
 rotate_left
 ·have e2:decide ((r:Int)<2)=false:=decide_eq_false (by omega)
  refine gom ?_
  refine WL.oo (OW.callK rfl (linkZ_of (rLink_fn G2 A cap l (hl.mono hg02) hL)) rfl fun v' G' H' h hg=>?_)
  obtain⟨VA,vc,VP,vp,VT,vt,he,hg3,hVC,hVP,hVT,rfl⟩:=h
  cases he
  obtain⟨G3,rfl⟩:∃G3,G3=G':=⟨_,rfl⟩
  have hg13:=Gh.le_trans hg2 hg3
  have hg03:=Gh.le_trans hg1 hg13
  refine gom ?_
  refine WL.oo (OW.alloc rfl fun b16=>?_)
  refine gom ?_
  refine WL.oo (OW.callK rfl (rSamePg_fn G3 (csZ l) (csZ l) (prZ l) (prZ l) (ptZ l) (ptZ l) VA VP VT WA WP WT vc vp vt wc wp wt hVC (hWC.mono hg13) hVP (hWP.mono hg13) hVT (hWT.mono hg13) hGL.cl hGL.pl hGL.tl (fun q hq=>⟨(hGL.pr q hq).1,(hGL.pr q hq).2.1⟩)) rfl fun v' G' H' h hg=>?_)
  obtain⟨he,rfl,rfl⟩:=h
  rw[sameG_refl]at he
  cases he
  refine gom ?_
  refine WL.oo (OW.callK rfl (awakeL G3 (hE.mono hg03)) rfl fun v' G' H' h hg=>?_)
  obtain⟨he,hg4,rfl⟩:=h
  cases he
  refine gom ?_
  refine WC.rt ?_
  exact QF.p1 (.inl rfl) rfl (.tmp rfl) (⟨rfl,Gh.le_trans hg03 hg4,rfl⟩)
 have e2:decide ((r:Int)<2)=true:=decide_eq_true (by omega)
 refine gom ?_
 refine WL.oo (OW.callK rfl (linkOZ_fn G2 (hE.mono hg02) A cap l (hl.mono hg02) hL) rfl fun v' G' H' h hg=>?_)
 obtain⟨CA,cc,PA,pc,QA,qc,x1,xp,x3,q,he,hg3,hk1,hk2,hk3,rfl⟩:=h
 cases he
 obtain⟨G3,rfl⟩:∃G3,G3=G':=⟨_,rfl⟩
 have hg13:=Gh.le_trans hg2 hg3
 refine WL.pick (pgmB b3 WA WP WT (csZ l).length (prZ l).length (ptZ l).length wc wp wt::x1::xp::x3::ownL q) ?_
 refine gom ?_
 refine WL.oo (OW.alloc rfl fun b6=>?_)
 refine WL.pick (pgmB b3 WA WP WT (csZ l).length (prZ l).length (ptZ l).length wc wp wt::zgB b6::x1::xp::x3::ownL q) ?_
 refine gom ?_
 refine WL.perm (List.perm_append_comm (l₁:=[pgmB b3 WA WP WT (csZ l).length (prZ l).length (ptZ l).length wc wp wt,pgmB b6 CA PA QA (csZ l).length (prZ l).length (ptZ l).length cc pc qc]) (l₂:=x1::xp::x3::ownL q)) ?_
 refine WL.aparts fun hap=>?_
 have hpw:=(List.pairwise_append.1 hap).1
 refine WL.lends fun hle=>?_
 have hm1:x1∈x1::xp::x3::ownL q:=List.mem_cons_self
 have hm2:xp∈x1::xp::x3::ownL q:=List.mem_cons_of_mem _ List.mem_cons_self
 have hm3:x3∈x1::xp::x3::ownL q:=List.mem_cons_of_mem _ (List.mem_cons_of_mem _ List.mem_cons_self)
 have hmq:∀y∈ownL q,y∈x1::xp::x3::ownL q:=fun y hy=>List.mem_cons_of_mem _ (List.mem_cons_of_mem _ (List.mem_cons_of_mem _ hy))
 have hl1:=hk1.lent (by decide) hpw hm1 hle
 have hl2:=hk2.lent hpw hm2 hmq hle
 have hl3:=hk3.lent (by decide) hpw hm3 hle
 have hg1m:=Gh.le_trans hg13 hle
 refine WL.oo (OW.callK rfl (Fn.borrow2 (Xs:=x1::xp::x3::ownL q) (H:=[]) (Q:=fun e=>e= .returned (.bool true)) (rSamePg_fn (G3.moreL (x1::xp::x3::ownL q)) (csZ l) (csZ l) (prZ l) (prZ l) (ptZ l) (ptZ l) CA PA QA WA WP WT cc pc qc wc wp wt hl1 (hWC.mono hg1m) hl2 (hWP.mono hg1m) hl3 (hWT.mono hg1m) hGL.cl hGL.pl hGL.tl (fun q hq=>⟨(hGL.pr q hq).1,(hGL.pr q hq).2.1⟩)) (fun e G' H' h=>⟨by rw[h.1,sameG_refl],h.2.2⟩)) rfl (fun v' G' H' h hg=>?_) (hp:=Pk.lend (B:=[]) (F:=[pgmB b3 WA WP WT (csZ l).length (prZ l).length (ptZ l).length wc wp wt,pgmB b6 CA PA QA (csZ l).length (prZ l).length (ptZ l).length cc pc qc])))
 obtain⟨he,rfl,rfl⟩:=h
 cases he
 refine WL.perm perm_back ?_
 show WL _ _ _ _ _ _ _ (pgmB b3 WA WP WT (csZ l).length (prZ l).length (ptZ l).length wc wp wt::pgmB b6 CA PA QA (csZ l).length (prZ l).length (ptZ l).length cc pc qc::x1::xp::x3::ownL q)
 refine WL.freezeK (k:=kPO) (by decide) hk2.1 (.there (.there (.there .here))) fun G4 hg4 hS=>?_
 have hg14:=Gh.le_trans hg13 hg4
 have hg04:=Gh.le_trans hg1 hg14
 have hql:=hk2.len
 obtain⟨X0,hX0⟩:∃X0,X0=x1::x3::ownL q:=⟨_,rfl⟩
 have hx1:x1∈X0:=by rw[hX0];exact List.mem_cons_self
 have hx3:x3∈X0:=by rw[hX0];exact List.mem_cons_of_mem _ List.mem_cons_self
 have hxq:∀y∈ownL q,y∈X0:=fun y hy=>by rw[hX0];exact List.mem_cons_of_mem _ (List.mem_cons_of_mem _ hy)
 show WL _ _ _ _ _ _ _ (pgmB b3 WA WP WT (csZ l).length (prZ l).length (ptZ l).length wc wp wt::pgmB b6 CA PA QA (csZ l).length (prZ l).length (ptZ l).length cc pc qc::(x1::x3::ownL q))
 rw[←hX0]
 clear hap hpw hle hm1 hm2 hm3 hmq hl1 hl2 hl3 hg1m
 have hpl:=hGL.pl
 refine gom ?_
 refine WC.loop (X:=Nat×List Own) (fun x=>[(0, .slice A l.length cap),(3, .pointer (some ⟨b3,0,none⟩)),(5, .int .i64 r),(6, .pointer (some ⟨b6,0,none⟩)),(8, .int .i64 x.1)]) (fun _=>G4) (fun x=>pgmB b3 WA WP WT (csZ l).length (prZ l).length (ptZ l).length wc wp wt::pgmB b6 CA PA QA (csZ l).length (prZ l).length (ptZ l).length cc pc qc::x.2) (fun x=>(prZ l).length - x.1) (fun x=>x.1≤(prZ l).length∧Shps X0 x.2) (0,X0) ⟨Nat.zero_le _,Shps.refl _⟩ (by exact⟨rfl,rfl,rfl,rfl,rfl,trivial⟩) rfl (List.Sublist.refl _) fun x hx=>?_
 obtain⟨i,Z⟩:=x
 obtain⟨hi,hZ⟩:=hx
 dsimp only at hi hZ
 have y2:=wrapS i (by omega)
 by_cases hil:i<(prZ l).length
 ·have e3:decide ((i:Int)<((prZ l).length:Int))=true:=decide_eq_true (by omega)
  obtain⟨t,ht⟩:∃t,q[i]? =some t:=⟨_,List.getElem?_eq_getElem (by omega)⟩
  have y0:(0:Int)≤(i:Int):=by omega
  have y1:(i:Int)<((prZ l).length:Int):=by omega
  obtain⟨pb,po,pcs,rfl,hks,hcs0⟩:=hS i t ht
  have htm:=List.mem_of_getElem? ht
  obtain⟨hpo1,hpo2⟩:=hk2.2.2 t htm
  obtain⟨hmi,hmq⟩:=ownL_mem htm
  have hbd:=hGL.pr t.1 (by rw[←hk2.2.1];exact List.mem_map.2 ⟨t,htm,rfl⟩)
  have hmi2:=hxq _ hmi
  have hmq2:=hxq _ hmq
  clear hmi hmq
  obtain⟨p,⟨SA,sc,xq,IA,ic,xi⟩⟩:=t
  dsimp only at hpo1 hpo2 hmi2 hmq2 hbd
  have hcs:Cs G4 pb (po+i*kPO.n) [.string p.name, .bool p.exp, .slice SA p.params.length sc, .int .i64 p.locals, .int .i64 p.result, .slice IA p.code.length ic]:=by rw[show pcs=_ from hks]at hcs0;exact hcs0
  obtain⟨hb1,hb2,_⟩:=hbd
  refine gom ?_
  refine WC.loop (X:=Nat×List Own) (fun x=>[(0, .slice A l.length cap),(3, .pointer (some ⟨b3,0,none⟩)),(5, .int .i64 r),(6, .pointer (some ⟨b6,0,none⟩)),(8, .int .i64 i),(9, .int .i64 x.1)]) (fun _=>G4) (fun x=>pgmB b3 WA WP WT (csZ l).length (prZ l).length (ptZ l).length wc wp wt::pgmB b6 CA (some ⟨pb,po,none⟩) QA (csZ l).length (prZ l).length (ptZ l).length cc pc qc::x.2) (fun x=>p.code.length - x.1) (fun x=>x.1≤p.code.length∧Shps X0 x.2) (0,Z) ⟨Nat.zero_le _,hZ⟩ (by exact⟨rfl,rfl,rfl,rfl,rfl,rfl,trivial⟩) rfl (List.Sublist.refl _) fun x hx=>?_
  obtain⟨k,Z⟩:=x
  obtain⟨hk,hZ⟩:=hx
  dsimp only at hk hZ
  have z2:=wrapS k (by omega)
  by_cases hkl:k<p.code.length
  ·have e4:decide ((k:Int)<(p.code.length:Int))=true:=decide_eq_true (by omega)
   have z0:(0:Int)≤(k:Int):=by omega
   have z1:(k:Int)<(p.code.length:Int):=by omega
   obtain⟨cb,c,rfl,rfl,hsz⟩:=hpo2.blk (by omega)
   have hsz:p.code.length*2≤c.size:=hsz
   refine gom ?_
   refine WL.oo (OW.storeZ (c:=c) (n:=2) (cs:=[.int .i64 99, .int .i64 0]) hZ hmi2 rfl rfl rfl rfl rfl (by rw[Int.toNat_natCast];omega) (fun Z' hZ'=>?_) rfl)
   refine gom ?_
   exact WK.again (k+1,Z') (by dsimp only;omega) ⟨by show k+1≤_;omega,hZ'⟩ (by exact⟨rfl,rfl,rfl,rfl,rfl,rfl,trivial⟩) rfl (List.Sublist.refl _)
  have e4:decide ((k:Int)<(p.code.length:Int))=false:=decide_eq_false (by omega)
  refine gom ?_
  refine WC.loop (X:=Nat×List Own) (fun x=>[(0, .slice A l.length cap),(3, .pointer (some ⟨b3,0,none⟩)),(5, .int .i64 r),(6, .pointer (some ⟨b6,0,none⟩)),(8, .int .i64 i),(10, .int .i64 x.1)]) (fun _=>G4) (fun x=>pgmB b3 WA WP WT (csZ l).length (prZ l).length (ptZ l).length wc wp wt::pgmB b6 CA (some ⟨pb,po,none⟩) QA (csZ l).length (prZ l).length (ptZ l).length cc pc qc::x.2) (fun x=>p.params.length - x.1) (fun x=>x.1≤p.params.length∧Shps X0 x.2) (0,Z) ⟨Nat.zero_le _,hZ⟩ (by exact⟨rfl,rfl,rfl,rfl,rfl,rfl,trivial⟩) rfl (List.Sublist.refl _) fun x hx=>?_
  obtain⟨k,Z⟩:=x
  obtain⟨hk,hZ⟩:=hx
  dsimp only at hk hZ
  have z2:=wrapS k (by omega)
  by_cases hkl:k<p.params.length
  ·have e5:decide ((k:Int)<(p.params.length:Int))=true:=decide_eq_true (by omega)
   have z0:(0:Int)≤(k:Int):=by omega
   have z1:(k:Int)<(p.params.length:Int):=by omega
   obtain⟨cb,c,rfl,rfl,hsz⟩:=hpo1.blk (by omega)
   refine gom ?_
   refine WL.oo (OW.storeZ (c:=c) (n:=1) (cs:=[.int .i64 77]) hZ hmq2 rfl rfl rfl rfl rfl (by rw[Int.toNat_natCast];omega) (fun Z' hZ'=>?_) rfl)
   refine gom ?_
   exact WK.again (k+1,Z') (by dsimp only;omega) ⟨by show k+1≤_;omega,hZ'⟩ (by exact⟨rfl,rfl,rfl,rfl,rfl,rfl,trivial⟩) rfl (List.Sublist.refl _)
  have e5:decide ((k:Int)<(p.params.length:Int))=false:=decide_eq_false (by omega)
  refine gom ?_
  exact WK.again (i+1,Z) (by dsimp only;omega) ⟨by show i+1≤_;omega,hZ⟩ (by exact⟨rfl,rfl,rfl,rfl,rfl,trivial⟩) rfl (List.Sublist.refl _)
 have e3:decide ((i:Int)<((prZ l).length:Int))=false:=decide_eq_false (by omega)
 have hcl:=hGL.cl
 have htl:=hGL.tl
 refine gom ?_
 refine WC.loop (X:=Nat×List Own) (fun x=>[(0, .slice A l.length cap),(3, .pointer (some ⟨b3,0,none⟩)),(5, .int .i64 r),(6, .pointer (some ⟨b6,0,none⟩)),(11, .int .i64 x.1)]) (fun _=>G4) (fun x=>pgmB b3 WA WP WT (csZ l).length (prZ l).length (ptZ l).length wc wp wt::pgmB b6 CA PA QA (csZ l).length (prZ l).length (ptZ l).length cc pc qc::x.2) (fun x=>(csZ l).length - x.1) (fun x=>x.1≤(csZ l).length∧Shps X0 x.2) (0,Z) ⟨Nat.zero_le _,hZ⟩ (by exact⟨rfl,rfl,rfl,rfl,rfl,trivial⟩) rfl (List.Sublist.refl _) fun x hx=>?_
 obtain⟨k,Z⟩:=x
 obtain⟨hk,hZ⟩:=hx
 dsimp only at hk hZ
 have z2:=wrapS k (by omega)
 by_cases hkl:k<(csZ l).length
 ·have e5:decide ((k:Int)<((csZ l).length:Int))=true:=decide_eq_true (by omega)
  have z0:(0:Int)≤(k:Int):=by omega
  have z1:(k:Int)<((csZ l).length:Int):=by omega
  obtain⟨cb,c,hca,hcx,hsz⟩:=hk1.blk (by omega)
  have hsz:(csZ l).length*4≤c.size:=hsz
  have hx1':=hx1
  rw[hcx]at hx1'
  subst hca
  refine gom ?_
  refine WL.oo (OW.storeZ (c:=c) (n:=4) (cs:=[.int .i64 0, .int .i64 0, .bool false, .string ⟨#[]⟩]) hZ hx1' rfl rfl rfl rfl rfl (by rw[Int.toNat_natCast];omega) (fun Z' hZ'=>?_) rfl)
  refine gom ?_
  exact WK.again (k+1,Z') (by dsimp only;omega) ⟨by show k+1≤_;omega,hZ'⟩ (by exact⟨rfl,rfl,rfl,rfl,rfl,trivial⟩) rfl (List.Sublist.refl _)
 have e5:decide ((k:Int)<((csZ l).length:Int))=false:=decide_eq_false (by omega)
 refine gom ?_
 refine WC.loop (X:=Nat×List Own) (fun x=>[(0, .slice A l.length cap),(3, .pointer (some ⟨b3,0,none⟩)),(5, .int .i64 r),(6, .pointer (some ⟨b6,0,none⟩)),(12, .int .i64 x.1)]) (fun _=>G4) (fun x=>pgmB b3 WA WP WT (csZ l).length (prZ l).length (ptZ l).length wc wp wt::pgmB b6 CA PA QA (csZ l).length (prZ l).length (ptZ l).length cc pc qc::x.2) (fun x=>(ptZ l).length - x.1) (fun x=>x.1≤(ptZ l).length∧Shps X0 x.2) (0,Z) ⟨Nat.zero_le _,hZ⟩ (by exact⟨rfl,rfl,rfl,rfl,rfl,trivial⟩) rfl (List.Sublist.refl _) fun x hx=>?_
 obtain⟨k,Z⟩:=x
 obtain⟨hk,hZ⟩:=hx
 dsimp only at hk hZ
 have z2:=wrapS k (by omega)
 by_cases hkl:k<(ptZ l).length
 ·have e6:decide ((k:Int)<((ptZ l).length:Int))=true:=decide_eq_true (by omega)
  have z0:(0:Int)≤(k:Int):=by omega
  have z1:(k:Int)<((ptZ l).length:Int):=by omega
  obtain⟨cb,c,hca,hcx,hsz⟩:=hk3.blk (by omega)
  have hsz:(ptZ l).length*3≤c.size:=hsz
  have hx3':=hx3
  rw[hcx]at hx3'
  subst hca
  refine gom ?_
  refine WL.oo (OW.storeZ (c:=c) (n:=1) (cs:=[.int .i64 (-7)]) hZ hx3' rfl rfl rfl rfl rfl (by rw[Int.toNat_natCast];omega) (fun Z' hZ'=>?_) rfl)
  refine gom ?_
  exact WK.again (k+1,Z') (by dsimp only;omega) ⟨by show k+1≤_;omega,hZ'⟩ (by exact⟨rfl,rfl,rfl,rfl,rfl,trivial⟩) rfl (List.Sublist.refl _)
 have e6:decide ((k:Int)<((ptZ l).length:Int))=false:=decide_eq_false (by omega)
 refine gom ?_
 refine WL.oo (OW.callK rfl (MissingO_fn G4 A cap l (hl.mono hg04) hL) rfl fun v' G' H' h hg=>?_)
 obtain⟨MA,mc,xm,qm,he,hg5,hkm,rfl⟩:=h
 cases he
 obtain⟨G5,rfl⟩:∃G5,G5=G':=⟨_,rfl⟩
 refine WL.pick (pgmB b3 WA WP WT (csZ l).length (prZ l).length (ptZ l).length wc wp wt::pgmB b6 CA PA QA (csZ l).length (prZ l).length (ptZ l).length cc pc qc::xm::ownN qm) ?_
 refine WL.freezeK (k:=kNO) (by decide) hkm.1 (.there (.there .here)) fun G6 hg6 hM=>?_
 have hg26:=Gh.le_trans hg14 (Gh.le_trans hg5 hg6)
 have hqm:=hkm.len
 show WL _ _ _ _ _ _ _ (pgmB b3 WA WP WT (csZ l).length (prZ l).length (ptZ l).length wc wp wt::pgmB b6 CA PA QA (csZ l).length (prZ l).length (ptZ l).length cc pc qc::ownN qm)
 refine gom ?_
 refine WC.loop (X:=Nat×List Own) (fun x=>[(0, .slice A l.length cap),(3, .pointer (some ⟨b3,0,none⟩)),(5, .int .i64 r),(13, .slice MA (missL l).length mc),(14, .int .i64 x.1)]) (fun _=>G6) (fun x=>pgmB b3 WA WP WT (csZ l).length (prZ l).length (ptZ l).length wc wp wt::pgmB b6 CA PA QA (csZ l).length (prZ l).length (ptZ l).length cc pc qc::x.2) (fun x=>(missL l).length - x.1) (fun x=>x.1≤(missL l).length∧Shps (ownN qm) x.2) (0,ownN qm) ⟨Nat.zero_le _,Shps.refl _⟩ (by exact⟨rfl,rfl,rfl,rfl,rfl,trivial⟩) rfl (List.Sublist.refl _) fun x hx=>?_
 obtain⟨i,Z⟩:=x
 obtain⟨hi,hZ⟩:=hx
 dsimp only at hi hZ
 have y2:=wrapS i (by omega)
 by_cases hil:i<(missL l).length
 rotate_left
 ·have e7:decide ((i:Int)<((missL l).length:Int))=false:=decide_eq_false (by omega)
  refine gom ?_
  exact WK.again ⟨r+1,G6⟩ (by dsimp only;omega) ⟨by show r+1≤_;omega,hg26⟩ (by exact⟨rfl,rfl,rfl,trivial⟩) rfl (List.Sublist.cons_cons _ (List.nil_sublist _))
 have e7:decide ((i:Int)<((missL l).length:Int))=true:=decide_eq_true (by omega)
 obtain⟨t,ht⟩:∃t,qm[i]? =some t:=⟨_,List.getElem?_eq_getElem (by omega)⟩
 have y0:(0:Int)≤(i:Int):=by omega
 have y1:(i:Int)<((missL l).length:Int):=by omega
 obtain⟨pb,po,pcs,rfl,hks,hcs0⟩:=hM i t ht
 have htm:=List.mem_of_getElem? ht
 have hpo1:=hkm.2.2 t htm
 have hmq:=ownN_mem htm
 have hb1:=hmp t.1 (by rw[←hkm.2.1];exact List.mem_map.2 ⟨t,htm,rfl⟩)
 obtain⟨n,⟨SA,sc,xq⟩⟩:=t
 dsimp only at hpo1 hmq hb1
 have hcs:Cs G6 pb (po+i*kNO.n) [.string n.path, .string n.name, .slice SA n.params.length sc, .int .i64 n.result]:=by rw[show pcs=_ from hks]at hcs0;exact hcs0
 refine gom ?_
 refine WC.loop (X:=Nat×List Own) (fun x=>[(0, .slice A l.length cap),(3, .pointer (some ⟨b3,0,none⟩)),(5, .int .i64 r),(13, .slice (some ⟨pb,po,none⟩) (missL l).length mc),(14, .int .i64 i),(15, .int .i64 x.1)]) (fun _=>G6) (fun x=>pgmB b3 WA WP WT (csZ l).length (prZ l).length (ptZ l).length wc wp wt::pgmB b6 CA PA QA (csZ l).length (prZ l).length (ptZ l).length cc pc qc::x.2) (fun x=>n.params.length - x.1) (fun x=>x.1≤n.params.length∧Shps (ownN qm) x.2) (0,Z) ⟨Nat.zero_le _,hZ⟩ (by exact⟨rfl,rfl,rfl,rfl,rfl,rfl,trivial⟩) rfl (List.Sublist.refl _) fun x hx=>?_
 obtain⟨k,Z⟩:=x
 obtain⟨hk,hZ⟩:=hx
 dsimp only at hk hZ
 have z2:=wrapS k (by omega)
 by_cases hkl:k<n.params.length
 ·have e8:decide ((k:Int)<(n.params.length:Int))=true:=decide_eq_true (by omega)
  have z0:(0:Int)≤(k:Int):=by omega
  have z1:(k:Int)<(n.params.length:Int):=by omega
  obtain⟨cb,c,rfl,rfl,hsz⟩:=hpo1.blk (by omega)
  refine gom ?_
  refine WL.oo (OW.storeZ (c:=c) (n:=1) (cs:=[.int .i64 78]) hZ hmq rfl rfl rfl rfl rfl (by rw[Int.toNat_natCast];omega) (fun Z' hZ'=>?_) rfl)
  refine gom ?_
  exact WK.again (k+1,Z') (by dsimp only;omega) ⟨by show k+1≤_;omega,hZ'⟩ (by exact⟨rfl,rfl,rfl,rfl,rfl,rfl,trivial⟩) rfl (List.Sublist.refl _)
 have e8:decide ((k:Int)<(n.params.length:Int))=false:=decide_eq_false (by omega)
 refine gom ?_
 exact WK.again (i+1,Z) (by dsimp only;omega) ⟨by show i+1≤_;omega,hZ⟩ (by exact⟨rfl,rfl,rfl,rfl,rfl,trivial⟩) rfl (List.Sublist.refl _)
end
section
open Go.RowKit Go.ChangeShapes Go.WideShapes Go.MapKept
theorem bulk_app {H:Type} (a b:List (DataW H)):Rows.uptoBulkAll (a++b)=Rows.uptoBulkAll a+Rows.uptoBulkAll b:=by
 induction a with
 | nil=>simp[Rows.uptoBulkAll]
 | cons x r ih=>simp only[List.cons_append,Rows.uptoBulkAll];omega
theorem bulk_take {H:Type} {l:List (DataW H)} {i:Nat} {d:DataW H} (h:l[i]? =some d):Rows.uptoBulkAll (l.take (i+1))=Rows.uptoBulkAll (l.take i)+Rows.uptoBulk d:=by
 rw[take_snoc' h,bulk_app];simp[Rows.uptoBulkAll]
theorem bulk_take_le {H:Type} (l:List (DataW H)) (i:Nat):Rows.uptoBulkAll (l.take i)≤Rows.uptoBulkAll l:=by
 have h:=bulk_app (l.take i) (l.drop i)
 rw[List.take_append_drop]at h
 omega
theorem sum_mem {α:Type} {m:α→Nat} {l:List α} {x:α} (h:x∈l):m x≤(l.map m).sum:=by
 induction l with
 | nil=>cases h
 | cons y r ih=>
  simp only[List.map_cons,List.sum_cons]
  rcases List.mem_cons.1 h with rfl | h
  ·omega
  ·have:=ih h;omega
theorem sum_len {α:Type} {m:α→Nat} (l:List α) (h:∀x∈l,1≤m x):l.length≤(l.map m).sum:=by
 induction l with
 | nil=>simp
 | cons y r ih=>
  have h1:=h y List.mem_cons_self
  have h2:=ih fun x hx=>h x (List.mem_cons_of_mem _ hx)
  simp only[List.map_cons,List.sum_cons,List.length_cons]
  omega
theorem sum_le {α:Type} {f m:α→Nat} (l:List α) (h:∀x∈l,f x≤m x):(l.map f).sum≤(l.map m).sum:=by
 induction l with
 | nil=>simp
 | cons y r ih=>
  have h1:=h y List.mem_cons_self
  have h2:=ih fun x hx=>h x (List.mem_cons_of_mem _ hx)
  simp only[List.map_cons,List.sum_cons]
  omega
section
variable {H:Type} (enc:TypeId×Value→H) (P:Program) (w:World)
def OpensW (t:TypeId) {α:Type} (k:Kd α) (m:α→Nat) (B:α→Prop):Prop:=
 ∀fuel cs d ps,DataW.trod enc P w 0 (fun _=>true) true fuel t cs=some (d,ps)→Rows.uptoBulk d≤1048576→∃a,k.K (Gw w) a cs∧m a≤Rows.uptoBulk d∧B a
theorem OpensW.int {t:TypeId} {i:IntKind} (ht:P.underlying t=some (.int i)):OpensW enc P w t (Kd.int i) (fun _=>1) (fun n=>(Lit.int i n).wf=true):=
 fun fuel cs d ps e _=>let ⟨n,h1,_,h3⟩:=DataW.trod_int ht e;⟨n,h1,bulk_one d,h3⟩
theorem OpensW.bool {t:TypeId} (ht:P.underlying t=some .bool):OpensW enc P w t Kd.bool (fun _=>1) (fun _=>True):=
 fun fuel cs d ps e _=>let ⟨n,h1,_⟩:=DataW.trod_bool ht e;⟨n,h1,bulk_one d,trivial⟩
theorem OpensW.str {t:TypeId} (ht:P.underlying t=some .string):OpensW enc P w t Kd.str (fun s=>s.size+1) (fun _=>True):=
 fun fuel cs d ps e hw=>by
  obtain⟨s,h1,h2,h3⟩:=DataW.trod_string ht e
  obtain⟨rfl,rfl⟩:=Prod.mk.inj h2
  refine⟨s,h1,?_,trivial⟩
  simp only[Rows.uptoBulk,Array.length_toList]
  exact Nat.le_refl _
theorem OpensW.slice {t e:TypeId} {α:Type} {k:Kd α} {m:α→Nat} {B:α→Prop} (ht:P.underlying t=some (.slice e)) (hc:P.cellsOf e=k.n) (h0:0<k.n) (h:OpensW enc P w e k m B):
  OpensW enc P w t (Kd.slice k) (fun xs=>(xs.map m).sum+1) (fun xs=>∀x∈xs,B x):=by
 intro fuel cs d ps hd hw
 rcases DataW.trod_slice ht hd with⟨rfl,_⟩ | ⟨a,len,cap,elems,rest,n,_,rfl,hx,_,hl,_,hlen,hel,_,_⟩
 ·exact⟨[],⟨none,0,rfl,Nat.le_refl _,Sl.nil _ _ _⟩,by simpa using bulk_one d,by simp⟩
 ·obtain ⟨rfl,rfl⟩:=Prod.mk.inj hx
  simp only[Rows.uptoBulk]at hw
  have hwe:∀(j:Nat) (d':DataW H),(elems.map (·.1))[j]? =some d'→Rows.uptoBulk d'≤1048576:=fun j d' hj=>by
   have:=bulk_part (List.mem_of_getElem? hj);omega
  have one:∀i,i<len→∃y cs' d',w.cells? 0 (a.add (i*P.cellsOf e)) (P.cellsOf e)=some cs'∧k.K (Gw w) y cs'∧(elems.map (·.1))[i]? =some d'∧m y≤Rows.uptoBulk d'∧B y:=by
   intro i hi
   have hi':=hel i hi
   have he:i<elems.length:=by omega
   cases hcs:w.cells? 0 (a.add (i*P.cellsOf e)) (P.cellsOf e)with
   | none=>
    rw[hcs,List.getElem?_eq_getElem he]at hi'
    cases hi'
   | some cs'=>
    rw[hcs,List.getElem?_eq_getElem he]at hi'
    simp only[Option.bind_some]at hi'
    have hd':(elems.map (·.1))[i]? =some (elems[i]).1:=by rw[List.getElem?_map,List.getElem?_eq_getElem he];rfl
    obtain⟨y,h1,h2,h3⟩:=h n cs' _ _ hi' (hwe i _ hd')
    exact⟨y,cs',_,rfl,h1,hd',h2,h3⟩
  have all:∀q,q≤len→∃xs:List α,xs.length=q∧(∀x∈xs,B x)∧(xs.map m).sum≤Rows.uptoBulkAll ((elems.map (·.1)).take q)∧∀i x,xs[i]? =some x→∃cs',w.cells? 0 (a.add (i*P.cellsOf e)) (P.cellsOf e)=some cs'∧k.K (Gw w) x cs':=by
   intro q
   induction q with
   | zero=>exact fun _=>⟨[],rfl,by simp,by simp,by simp⟩
   | succ q ih=>
    intro hm
    obtain⟨xs,e1,e2,e4,e3⟩:=ih (by omega)
    obtain⟨y,cs',d',h1,h2,h3,h4,h5⟩:=one q (by omega)
    refine⟨xs++[y],by simp[e1],fun x hx=>?_,?_,fun i x hx=>?_⟩
    ·rcases List.mem_append.1 hx with hx | hx
     ·exact e2 x hx
     ·simp at hx;subst hx;exact h5
    ·rw[bulk_take h3,List.map_append,List.sum_append]
     simp only[List.map_cons,List.map_nil,List.sum_cons,List.sum_nil]
     omega
    ·rcases Nat.lt_or_ge i xs.length with hi | hi
     ·rw[List.getElem?_append_left hi]at hx;exact e3 i x hx
     ·have:i=q:=by have:=(List.getElem?_eq_some_iff.1 hx).1;simp at this;omega
      subst this
      rw[List.getElem?_append_right hi]at hx
      simp[e1]at hx
      subst hx
      exact⟨cs',h1,h2⟩
  obtain⟨xs,e1,e2,e4,e3⟩:=all len (Nat.le_refl _)
  have h5:=bulk_take_le (elems.map (·.1)) len
  refine⟨xs,⟨some a,cap,by rw[e1],by omega,fun i x hx=>?_⟩,by simp only[Rows.uptoBulk];omega,e2⟩
  have hi:=(List.getElem?_eq_some_iff.1 hx).1
  obtain⟨cs0,h10,h20⟩:=e3 0 _ (List.getElem?_eq_getElem (by omega:0<xs.length))
  obtain⟨h30,h40⟩:=cells_get w h10
  have hsp:=cell_plain w (h40 0 _ (List.getElem?_eq_getElem (by rw[h30,hc];exact h0)))
  obtain⟨cs',h1,h2⟩:=e3 i x hx
  obtain⟨h3,h4⟩:=cells_get w h1
  obtain⟨ab,ao,asp⟩:=a
  obtain rfl:asp=none:=by simpa [Addr.add]using hsp
  refine⟨ab,ao,cs',rfl,h2,fun j v e=>?_⟩
  have h5:=h4 j v e
  rw[hc]at h5
  have e5:((⟨ab,ao,none⟩:Addr).add (i*k.n)).add j=⟨ab,ao+i*k.n+j,none⟩:=by
   unfold Addr.add
   split<;>split<;>simp_all
  rw[e5]at h5
  exact h5
theorem field_openW {t:TypeId} {fs:Array Field} {fuel:Nat} {cs:List Value} {d:DataW H} {ps:List MemPlace} (ht:P.underlying t=some (.struct fs)) (hd:DataW.trod enc P w 0 (fun _=>true) true fuel t cs=some (d,ps)) (hw:Rows.uptoBulk d≤1048576):
  cs.length=P.cellsOf t∧∃ds:List (DataW H),ds.length=fs.size∧Rows.uptoBulk d=Rows.uptoBulkAll ds+1∧∀(i:Nat) (f:Field),fs[i]? =some f→∀ {t' o n:Nat},f.type=t'→f.offset=o→P.cellsOf t'=n→∀ {α:Type} {k:Kd α} {m:α→Nat} {B:α→Prop},OpensW enc P w t' k m B→∃a,k.K (Gw w) a ((cs.drop o).take n)∧(∀x,ds[i]? =some x→m a≤Rows.uptoBulk x)∧B a:=by
 obtain⟨xs,n,_,hx,hl,hn,hf⟩:=DataW.trod_struct ht hd
 obtain⟨rfl,rfl⟩:=Prod.mk.inj hx
 refine⟨hl,xs.map (·.1),by rw[List.length_map,hn],by simp only[Rows.uptoBulk],fun i f hi t' o n' e1 e2 e3 α k m B hO=>?_⟩
 subst e1 e2 e3
 have h1:=hf i f hi
 have hilt:i<xs.length:=by rw[hn];exact(Array.getElem?_eq_some_iff.1 hi).1
 rw[List.getElem?_eq_getElem hilt]at h1
 have hd':(xs.map (·.1))[i]? =some (xs[i]).1:=by rw[List.getElem?_map,List.getElem?_eq_getElem hilt];rfl
 simp only[Rows.uptoBulk]at hw
 obtain⟨y,h2,h3,h4⟩:=hO n _ _ _ h1 (Nat.le_trans (bulk_part (List.mem_of_getElem? hd')) (by omega))
 exact⟨y,h2,fun x hx=>by rw[hd']at hx;cases hx;exact h3,h4⟩
theorem open_sliceW {t e:TypeId} {α:Type} {k:Kd α} {m:α→Nat} {B:α→Prop} (ht:P.underlying t=some (.slice e)) (hc:P.cellsOf e=k.n) (h0:0<k.n) (h:OpensW enc P w e k m B)
  {v:Value} {d:DataW H} {ps:List MemPlace} {base:Nat} (hval:Value.okWide P w .any base t v) (hd:DataW.Trod enc P w 0 (fun _=>true) true t v d ps) (hw:Rows.uptoBulk d≤1048576):
  ∃(A:Option Addr) (cap:Nat) (xs:List α),v= .slice A xs.length cap∧xs.length≤cap∧Sl k (Gw w) A xs∧(xs.map m).sum≤1048576∧∀x∈xs,B x:=by
 obtain⟨A,len,cap,rfl⟩:=okWide_slice ht hval
 obtain⟨fuel,hd⟩:=hd
 obtain⟨xs,⟨A',cap',h1,hle,h2⟩,h3,h4⟩:=OpensW.slice enc P w ht hc h0 h fuel _ d ps hd hw
 have e1:[Value.slice A len cap]=[Value.slice A' xs.length cap']:=h1
 cases e1
 have h5:(xs.map m).sum+1≤Rows.uptoBulk d:=h3
 exact⟨_,_,xs,rfl,hle,h2,by omega,h4⟩
end
def mV (v:V):Nat:=v.s.size+1
def mNd (n:Nd):Nat:=n.path.size+n.name.size+n.params.length+1
def mPr (p:Pr):Nat:=p.name.size+p.params.length+p.code.length+1
def mOb (o:Ob):Nat:=o.path.size+(o.consts.map mV).sum+(o.needs.map mNd).sum+(o.procs.map mPr).sum+1
def i64 (z:Int):Prop:=(Lit.int .i64 z).wf=true
structure OInt (o:Ob):Prop where
 cs:∀v∈o.consts,i64 v.t∧i64 v.i
 nd:∀n∈o.needs,i64 n.result∧∀t∈n.params,i64 t
 pr:∀p∈o.procs,i64 p.locals∧i64 p.result∧(∀t∈p.params,i64 t)∧∀i∈p.code,i64 i.1∧i64 i.2
theorem olim_of {o:Ob} (h:mOb o≤1048576):OLim o:=by
 have h':=h
 unfold mOb at h'
 have a1:=sum_len (m:=mV) o.consts fun x _=>by unfold mV;omega
 have a2:=sum_len (m:=mNd) o.needs fun x _=>by unfold mNd;omega
 have a3:=sum_len (m:=mPr) o.procs fun x _=>by unfold mPr;omega
 refine⟨by omega,by omega,by omega,by omega,fun q hq=>?_,fun q hq=>?_⟩
 ·have:q.path.size+q.name.size+q.params.length+1≤(o.needs.map mNd).sum:=sum_mem (m:=mNd) hq
  omega
 ·have:q.name.size+q.params.length+q.code.length+1≤(o.procs.map mPr).sum:=sum_mem (m:=mPr) hq
  omega
theorem llim_of {l:List Ob} (h:(l.map mOb).sum≤1048576):LLim l:=by
 have hm:∀o∈l,mOb o≤1048576:=fun o ho=>Nat.le_trans (sum_mem (m:=mOb) ho) h
 have a0:=sum_len (m:=mOb) l fun x _=>by unfold mOb;omega
 have b1:sumC l=(l.map fun o=>o.consts.length).sum:=rfl
 have a1:(l.map fun o=>o.consts.length).sum≤(l.map mOb).sum:=sum_le l fun o _=>by
  have a1:=sum_len (m:=mV) o.consts fun x _=>by unfold mV;omega
  unfold mOb;omega
 have a2:(l.map (·.needs.length)).sum≤(l.map mOb).sum:=sum_le l fun o _=>by
  have a2:=sum_len (m:=mNd) o.needs fun x _=>by unfold mNd;omega
  unfold mOb;omega
 have b3:sumP l=(l.map fun o=>o.procs.length).sum:=rfl
 have a3:(l.map fun o=>o.procs.length).sum≤(l.map mOb).sum:=sum_le l fun o _=>by
  have a3:=sum_len (m:=mPr) o.procs fun x _=>by unfold mPr;omega
  unfold mOb;omega
 refine⟨by omega,by omega,by omega,by omega,fun o ho=>olim_of (hm o ho),fun o ho p hp=>?_,fun o ho n hn=>?_⟩
 ·have h1:=hm o ho
  have h2:p.name.size+p.params.length+p.code.length+1≤(o.procs.map mPr).sum:=sum_mem (m:=mPr) hp
  unfold mOb at h1
  omega
 ·have h1:=hm o ho
  have h2:n.path.size+n.name.size+n.params.length+1≤(o.needs.map mNd).sum:=sum_mem (m:=mNd) hn
  unfold mOb at h1
  omega
section
attribute [local irreducible] Tryz.prog
variable {H:Type} (enc:TypeId×Value→H) (w:World)
theorem sum_ones {α:Type} (l:List α):(l.map fun _=>1).sum=l.length:=by
 induction l with
 | nil=>rfl
 | cons x r ih=>simp only[List.map_cons,List.sum_cons,List.length_cons,ih];omega
theorem OpensW.value:OpensW enc Tryz.prog w 52 Kd.val mV (fun v=>i64 v.t∧i64 v.i):=by
 intro fuel cs d ps hd hw
 obtain⟨hl,ds,hds,hb,hf⟩:=field_openW enc Tryz.prog w Tryz.underlying52 hd hw
 obtain⟨c0,c1,c2,c3,rfl⟩:=elist4 (hl.trans ecellsV)
 obtain⟨d0,d1,d2,d3,rfl⟩:=elist4 hds
 obtain⟨t,h0,_,b0⟩:=hf 0 _ rfl rfl rfl ecells_typ (OpensW.int enc Tryz.prog w Tryz.underlying44)
 obtain⟨i,h1,_,b1⟩:=hf 1 _ rfl rfl rfl ecells_i64 (OpensW.int enc Tryz.prog w Tryz.underlying2)
 obtain⟨b,h2,_⟩:=hf 2 _ rfl rfl rfl ecells_bool (OpensW.bool enc Tryz.prog w Tryz.underlying4)
 obtain⟨s,h3,m3,_⟩:=hf 3 _ rfl rfl rfl ecells_str (OpensW.str enc Tryz.prog w Tryz.underlying9)
 have m3:=m3 _ rfl
 have e0:[c0]=[Value.int .i64 t]:=h0
 have e1:[c1]=[Value.int .i64 i]:=h1
 have e2:[c2]=[Value.bool b]:=h2
 have e3:[c3]=[Value.string s]:=h3
 cases e0;cases e1;cases e2;cases e3
 simp only[Rows.uptoBulkAll]at hb
 exact⟨⟨t,i,b,s⟩,rfl,by unfold mV;dsimp only;omega,b0,b1⟩
theorem OpensW.instr:OpensW enc Tryz.prog w 50 Kd.ins (fun _=>1) (fun i=>i64 i.1∧i64 i.2):=by
 intro fuel cs d ps hd hw
 obtain⟨hl,ds,hds,hb,hf⟩:=field_openW enc Tryz.prog w Tryz.underlying50 hd hw
 obtain⟨c0,c1,rfl⟩:=elist2 (hl.trans ecellsI)
 obtain⟨c,h0,_,b0⟩:=hf 0 _ rfl rfl rfl ecells_cod (OpensW.int enc Tryz.prog w Tryz.underlying48)
 obtain⟨n,h1,_,b1⟩:=hf 1 _ rfl rfl rfl ecells_int (OpensW.int enc Tryz.prog w Tryz.underlying3)
 have e0:[c0]=[Value.int .i64 c]:=h0
 have e1:[c1]=[Value.int .i64 n]:=h1
 cases e0;cases e1
 exact⟨(c,n),rfl,bulk_one d,b0,b1⟩
theorem OpensW.types:OpensW enc Tryz.prog w 43 (Kd.slice (Kd.int .i64)) (fun xs=>(xs.map fun _=>1).sum+1) (fun xs=>∀t∈xs,i64 t):=
 OpensW.slice enc Tryz.prog w Tryz.underlying43 (k:=Kd.int .i64) ecells_typ (by decide) (OpensW.int enc Tryz.prog w Tryz.underlying44)
theorem OpensW.proc:OpensW enc Tryz.prog w 47 Kd.prc mPr (fun p=>i64 p.locals∧i64 p.result∧(∀t∈p.params,i64 t)∧∀i∈p.code,i64 i.1∧i64 i.2):=by
 intro fuel cs d ps hd hw
 obtain⟨hl,ds,hds,hb,hf⟩:=field_openW enc Tryz.prog w Tryz.underlying47 hd hw
 obtain⟨c0,c1,c2,c3,c4,c5,rfl⟩:=elist6 (hl.trans ecellsP)
 obtain⟨d0,d1,d2,d3,d4,d5,rfl⟩:=elist6 hds
 obtain⟨nm,h0,m0,_⟩:=hf 0 _ rfl rfl rfl ecells_str (OpensW.str enc Tryz.prog w Tryz.underlying9)
 obtain⟨ex,h1,_⟩:=hf 1 _ rfl rfl rfl ecells_bool (OpensW.bool enc Tryz.prog w Tryz.underlying4)
 obtain⟨pr,h2,m2,bp⟩:=hf 2 _ rfl rfl rfl ecells_lt (OpensW.types enc w)
 obtain⟨lo,h3,_,bl⟩:=hf 3 _ rfl rfl rfl ecells_int (OpensW.int enc Tryz.prog w Tryz.underlying3)
 obtain⟨re,h4,_,br⟩:=hf 4 _ rfl rfl rfl ecells_typ (OpensW.int enc Tryz.prog w Tryz.underlying44)
 obtain⟨co,h5,m5,bc⟩:=hf 5 _ rfl rfl rfl ecells_li (OpensW.slice enc Tryz.prog w Tryz.underlying45 (k:=Kd.ins) ecellsI (by decide) (OpensW.instr enc w))
 have m0:=m0 _ rfl
 have m2:=m2 _ rfl
 have m5:=m5 _ rfl
 rw[sum_ones]at m2 m5
 obtain⟨PA,pc,h2',_,hPA⟩:=h2
 obtain⟨CA,cc,h5',_,hCA⟩:=h5
 have e0:[c0]=[Value.string nm]:=h0
 have e1:[c1]=[Value.bool ex]:=h1
 have e2:[c2]=[Value.slice PA pr.length pc]:=h2'
 have e3:[c3]=[Value.int .i64 lo]:=h3
 have e4:[c4]=[Value.int .i64 re]:=h4
 have e5:[c5]=[Value.slice CA co.length cc]:=h5'
 cases e0;cases e1;cases e2;cases e3;cases e4;cases e5
 simp only[Rows.uptoBulkAll]at hb
 exact⟨⟨nm,ex,pr,lo,re,co⟩,⟨PA,pc,CA,cc,rfl,hPA,hCA⟩,by unfold mPr;dsimp only;omega,bl,br,bp,bc⟩
theorem OpensW.need:OpensW enc Tryz.prog w 56 Kd.ned mNd (fun n=>i64 n.result∧∀t∈n.params,i64 t):=by
 intro fuel cs d ps hd hw
 obtain⟨hl,ds,hds,hb,hf⟩:=field_openW enc Tryz.prog w Tryz.underlying56 hd hw
 obtain⟨c0,c1,c2,c3,rfl⟩:=elist4 (hl.trans ecellsN)
 obtain⟨d0,d1,d2,d3,rfl⟩:=elist4 hds
 obtain⟨pt,h0,m0,_⟩:=hf 0 _ rfl rfl rfl ecells_str (OpensW.str enc Tryz.prog w Tryz.underlying9)
 obtain⟨nm,h1,m1,_⟩:=hf 1 _ rfl rfl rfl ecells_str (OpensW.str enc Tryz.prog w Tryz.underlying9)
 obtain⟨pr,h2,m2,bp⟩:=hf 2 _ rfl rfl rfl ecells_lt (OpensW.types enc w)
 obtain⟨re,h3,_,br⟩:=hf 3 _ rfl rfl rfl ecells_typ (OpensW.int enc Tryz.prog w Tryz.underlying44)
 have m0:=m0 _ rfl
 have m1:=m1 _ rfl
 have m2:=m2 _ rfl
 rw[sum_ones]at m2
 obtain⟨PA,pc,h2',_,hPA⟩:=h2
 have e0:[c0]=[Value.string pt]:=h0
 have e1:[c1]=[Value.string nm]:=h1
 have e2:[c2]=[Value.slice PA pr.length pc]:=h2'
 have e3:[c3]=[Value.int .i64 re]:=h3
 cases e0;cases e1;cases e2;cases e3
 simp only[Rows.uptoBulkAll]at hb
 exact⟨⟨pt,nm,pr,re⟩,⟨PA,pc,rfl,hPA⟩,by unfold mNd;dsimp only;omega,br,bp⟩
theorem OpensW.object:OpensW enc Tryz.prog w 38 Kd.ob mOb OInt:=by
 intro fuel cs d ps hd hw
 obtain⟨hl,ds,hds,hb,hf⟩:=field_openW enc Tryz.prog w Tryz.underlying38 hd hw
 obtain⟨c0,c1,c2,c3,rfl⟩:=elist4 (hl.trans ecellsO)
 obtain⟨d0,d1,d2,d3,rfl⟩:=elist4 hds
 obtain⟨pt,h0,m0,_⟩:=hf 0 _ rfl rfl rfl ecells_str (OpensW.str enc Tryz.prog w Tryz.underlying9)
 obtain⟨co,h1,m1,bc⟩:=hf 1 _ rfl rfl rfl ecells_lv (OpensW.slice enc Tryz.prog w Tryz.underlying23 (k:=Kd.val) ecellsV (by decide) (OpensW.value enc w))
 obtain⟨ne,h2,m2,bn⟩:=hf 2 _ rfl rfl rfl ecells_ln (OpensW.slice enc Tryz.prog w Tryz.underlying31 (k:=Kd.ned) ecellsN (by decide) (OpensW.need enc w))
 obtain⟨pr,h3,m3,bp⟩:=hf 3 _ rfl rfl rfl ecells_lp (OpensW.slice enc Tryz.prog w Tryz.underlying24 (k:=Kd.prc) ecellsP (by decide) (OpensW.proc enc w))
 have m0:=m0 _ rfl
 have m1:=m1 _ rfl
 have m2:=m2 _ rfl
 have m3:=m3 _ rfl
 obtain⟨CA,cc,h1',_,hCA⟩:=h1
 obtain⟨NA,nc,h2',_,hNA⟩:=h2
 obtain⟨PA,pc,h3',_,hPA⟩:=h3
 have e0:[c0]=[Value.string pt]:=h0
 have e1:[c1]=[Value.slice CA co.length cc]:=h1'
 have e2:[c2]=[Value.slice NA ne.length nc]:=h2'
 have e3:[c3]=[Value.slice PA pr.length pc]:=h3'
 cases e0;cases e1;cases e2;cases e3
 simp only[Rows.uptoBulkAll]at hb
 exact⟨⟨pt,co,ne,pr⟩,⟨CA,cc,NA,nc,PA,pc,rfl,hCA,hNA,hPA⟩,by unfold mOb;dsimp only;omega,bc,bn,bp⟩
theorem open_objsU {v:Value} {d:DataW H} {ps:List MemPlace} {base:Nat} (hval:Value.okWide Tryz.prog w .any base 22 v) (hd:DataW.Trod enc Tryz.prog w 0 (fun _=>true) true 22 v d ps) (hw:Rows.uptoBulk d≤1048576):
  ∃(l:List Ob) (A:Option Addr) (c:Nat),v= .slice A l.length c∧l.length≤c∧Sl Kd.ob (Gw w) A l∧LLim l∧∀o∈l,OInt o:=by
 obtain⟨A,c,l,h1,h2,h3,h4,h5⟩:=open_sliceW enc Tryz.prog w Tryz.underlying22 (k:=Kd.ob) ecellsO (by decide) (OpensW.object enc w) hval hd hw
 exact⟨l,A,c,h1,h2,h3,llim_of h4,h5⟩
end
end
end Go.Proofs.YtcnlkfocbbkdhaaGreatDoor.Gb
