/- Values of a type are taken; two are compared. Two values are compared by their order. A program and a machine in memory; frames are entered, copied, found. A frame is entered. A procedure is called. A frame is left. Two values are held against one another; too few for an operation; what an instruction without a number comes to. Instructions without a number: dropped, left, printed. Instructions without a number: held against one another, turned, joined. -/
import Derived.Test.YtcnlkfocbbkdhaaGreatDoorUg
set_option linter.unusedVariables false
set_option linter.unusedSimpArgs false
set_option linter.unusedSectionVars false
namespace Go.Proofs.YtcnlkfocbbkdhaaGreatDoor.Gb
open Go Go.Proofs
section
attribute [local irreducible] Tryz.prog
theorem vflat_elem:∀(l:List V) (i:Nat) (v:V),l[i]? =some v→((vflat l).drop (i*4)).take 4=vcells v
 | [],i,v,h=>by simp at h
 | u::l,0,v,h=>by simp at h;subst h;simp[vflat,vcells]
 | u::l,i+1,v,h=>by
  have ih:=vflat_elem l i v (by simpa using h)
  have e:vflat (u::l)=vcells u++vflat l:=by simp[vflat]
  rw[e,List.drop_append,List.drop_eq_nil_of_le (by simp[vcells];omega),List.nil_append]
  rw[show(i+1)*4 - (vcells u).length=i*4 by simp[vcells];omega]
  exact ih
theorem take_drop_of_take {α:Type} (c l:List α) (n i k:Nat) (h:c.take n=l) (hk:i+k≤n):(c.drop i).take k=(l.drop i).take k:=by
 subst h
 apply List.ext_getElem?
 intro j
 simp only[List.getElem?_take,List.getElem?_drop]
 by_cases hj:j<k
 ·simp[hj,show i+j<n by omega]
 ·simp[hj]
theorem VVec.elem {A:Option Addr} {cap:Nat} {l:List V} {b:Nat} {c:Array Value} {i:Nat} {v:V} (hl:c.toList.take (l.length*4)=vflat l) (hi:l[i]? =some v):(c.toList.drop (0+((i:Nat):Int).toNat*4)).take 4=vcells v:=by
 have hlt:i<l.length:=(List.getElem?_eq_some_iff.1 hi).1
 rw[Int.toNat_natCast,Nat.zero_add,take_drop_of_take _ _ _ _ _ hl (by omega)]
 exact vflat_elem l i v hi
theorem typed_fnQ (G:Gh) (mv:Value) (b:Nat) (A:Option Addr) (cap:Nat) (p a:Int) (B:Option Addr) (m cm:Nat) (l1 l2:List V) (x:Own) (t:Int) (hv:VVec A cap (l1++l2) x) (hb:l1.length+l2.length≤1000000000):
  Fn Tryz.prog 196 #[mv, .pointer (some ⟨b,0,none⟩), .int .i64 l2.length, .int .i64 t] G [frB b A (l1++l2).length cap p a B m cm,x]
   fun e G' H'=>G=G'∧((∃A' cap' x',e= .returned (.slice A' l2.length cap')∧(∀v∈l2,v.t=t)∧H'=[x',frB b A l1.length cap p a B m cm,x]∧VVec A' cap' l2 x'∧VVec A cap l1 x)∨(e=halted 6∧(∃v∈l2,v.t≠t)∧Left b H')):=by
 refine Fn.enter Tryz.func196 rfl rfl fun w0=>?_
 refine WC.seq ?_
 refine WC.region ?_
 refine zw.assign ?_
 refine WL.nil ?_
 refine WK.un ?_
 refine WC.seq ?_
 refine WC.region ?_
 refine zw.move ?_
 refine zw.move ?_
 refine zw.move ?_
 refine WL.oo (OW.callR rfl (perm_all _) (take_ok G mv b A cap p a B m cm l1 l2 x hv hb) rfl (by rintro e G' H' ⟨_,_,_,h,_⟩;exact⟨_,h⟩) fun v' G' H' h hg=>?_)
 obtain⟨A',cap',x',he,rfl,rfl,hv1,hv2⟩:=h
 cases he
 refine zw.assign ?_
 refine WL.nil ?_
 refine WK.un ?_
 refine WC.seq ?_
 refine WC.seq ?_
 refine WC.region ?_
 refine zw.move ?_
 refine zw.len ?_
 refine zw.move ?_
 refine WL.nil ?_
 refine WK.un ?_
 refine WC.block ?_  -- 0
 refine WC.loop (X:=Nat) (fun i=>[(18, .int .i64 (i:Int)),(17, .int .i64 l2.length),(16, .slice A' l2.length cap'),(9, .slice A' l2.length cap'),(3, .int .i64 t)]) (fun _=>G) (fun _=>[x',frB b A l1.length cap p a B m cm,x]) (fun i=>l2.length - i) (fun i=>i≤l2.length∧∀j u,j<i→l2[j]? =some u→u.t=t) 0 ⟨Nat.zero_le _,fun j u h=>by omega⟩ (by exact⟨rfl,rfl,rfl,rfl,rfl,trivial⟩) rfl (List.Sublist.refl _) fun i hx=>?_
 obtain⟨hi,hall⟩:=hx
 refine WC.seq ?_
 refine WC.region ?_
 refine zw.lt ?_
 refine WL.nil ?_
 refine WK.un ?_
 refine WC.seq ?_
 refine WC.cond rfl (fun hc2=>?_) (fun hc2=>?_)
 ·-- yes
  have hlt:i<l2.length:=by have h:=hc2;simp at h;omega
  obtain⟨v,hvi⟩:∃v,l2[i]? =some v:=⟨_,List.getElem?_eq_getElem hlt⟩
  refine WC.skip ?_
  refine WK.un ?_
  refine WC.seq ?_
  refine WC.block ?_  -- 1
  refine WC.seq ?_
  refine WC.region ?_
  obtain⟨hl,⟨h1,h2,h3,h4⟩ | ⟨b',c,rfl,rfl,h1,h2,h3⟩⟩:=hv1
  ·omega
  refine zw.ix ?_
  refine WL.vv (Gv.loadN rfl .here (VVec.elem (A:=none) (cap:=0) (b:=0) h3 hvi) rfl) ?_
  refine WL.oo (OW.alloc rfl fun b3=>?_)
  refine zw.st ?_
  refine WL.nil ?_
  refine WK.un ?_
  refine WC.region ?_
  refine zw.fa ?_
  refine zw.ld ?_
  refine zw.move ?_
  refine zw.eq ?_
  by_cases ht:v.t=t
  ·rw [show(v.t==t)=true by simpa using ht]
   refine WL.oo (OW.callR rfl (Hf:=[]) (List.Perm.refl _) (need_ok G) rfl (by rintro e G' H' ⟨h,_⟩;exact⟨_,h⟩) fun v' G' H' h hg=>?_)
   obtain⟨he,rfl,rfl⟩:=h
   cases he
   refine WL.nil ?_
   refine WK.un ?_
   refine WC.region ?_
   refine zw.add ?_
   refine zw.move ?_
   refine WL.nil ?_
   refine WK.un ?_
   exact WK.again (i+1) (by omega) ⟨by omega,fun j u hj hu=>by
    rcases Nat.lt_or_ge j i with h | h
    ·exact hall j u h hu
    ·obtain rfl:j=i:=by omega
     rw[hvi]at hu;cases hu;exact ht⟩ (by refine⟨?_,rfl,rfl,rfl,rfl,trivial⟩;show some _=some _;rw[wrap_small (by omega) (by omega)];rfl) rfl (by exact .cons _ (List.Sublist.refl _))
  ·rw[show(v.t==t)=false by simpa using ht]
   refine WL.oo (OW.call rfl (Hf:=[]) (List.Perm.refl _) (need_no G) rfl (fun v G' H' h _=>by cases h.1) (fun ch G' H' h _=>?_) (fun G' H' h=>by cases h.1))
   obtain⟨he,rfl,rfl⟩:=h
   cases he
   refine WK.un ?_
   exact QF.panic (H':=[frB b A l1.length cap p a B m cm]) (by exact .cons _ (.cons _ (.cons_cons _ (List.nil_sublist _)))) ⟨rfl, .inr ⟨rfl,⟨v,List.mem_of_getElem? hvi,ht⟩,Left.of ..⟩⟩
 ·-- no
  have hge:i=l2.length:=by have h:=hc2;simp at h;omega
  refine WC.exit ?_
  refine WK.un ?_
  refine WC.seq ?_
  refine WC.region ?_
  refine zw.move ?_
  refine zw.assign ?_
  refine WL.nil ?_
  refine WK.un ?_
  refine WC.ret ?_
  (refine WK.un ?_)
  exact QF.ret1 (.inl rfl) rfl (.tmp rfl) (List.Sublist.refl _) ⟨rfl, .inl ⟨A',cap',x',rfl,fun v hvm=>by obtain⟨j,hj,rfl⟩:=List.getElem_of_mem hvm;exact hall j _ (by omega) (List.getElem?_eq_getElem hj),rfl,hv1,hv2⟩⟩
end
section
attribute [local irreducible] Tryz.prog
def ordN (u v:V):Int:=if cmpI u.i v.i=0 then cmpS u.s v.s else cmpI u.i v.i
def ordS (c:Int) (u v:V):Bool:=if c=14 then decide (ordN u v<0)else if c=15 then decide (ordN u v≤0)else if c=16 then decide (0<ordN u v)else decide (0≤ordN u v)
def ordOK (u v:V):Prop:=u.t=v.t∧(u.t=1∨u.t=3)
theorem two_at {c:Array Value} {l:List Value} {n j:Nat} {w:Value} (h:c.toList.take n=l) (hw:l[j]? =some w):c[j]? =some w:=by
 subst h
 rw[List.getElem?_take]at hw
 split at hw
 ·rw[←Array.getElem?_toList];exact hw
 ·cases hw
theorem two_lo {c:Array Value} {u v:V} {n j:Nat} {w:Value} (h:c.toList.take n=vflat [u,v]) (hw:(vcells u)[j]? =some w):c[0+(0:Int).toNat*4+j]? =some w:=by
 have hj:j<(vcells u).length:=(List.getElem?_eq_some_iff.1 hw).1
 have e:(0+(0:Int).toNat*4+j)=j:=by simp
 rw[e]
 refine two_at h ?_
 show(vcells u++(vcells v++[]))[j]? =_
 rw[List.getElem?_append_left hj];exact hw
theorem two_hi {c:Array Value} {u v:V} {n j:Nat} {w:Value} (h:c.toList.take n=vflat [u,v]) (hw:(vcells v)[j]? =some w):c[0+(1:Int).toNat*4+j]? =some w:=by
 have hj:j<(vcells v).length:=(List.getElem?_eq_some_iff.1 hw).1
 have e:(0+(1:Int).toNat*4+j)=4+j:=by simp
 rw[e]
 refine two_at h ?_
 show(vcells u++(vcells v++[]))[4+j]? =_
 rw[List.getElem?_append_right (by show 4≤4+j;omega)]
 show(vcells v++[])[4+j - 4]? =_
 rw[Nat.add_sub_cancel_left,List.append_nil];exact hw
theorem ordered_fn (G:Gh) (mv:Value) (b:Nat) (A:Option Addr) (cap:Nat) (p a:Int) (B:Option Addr) (m cm:Nat) (l1:List V) (u v:V) (x:Own) (c:Int) (hv:VVec A cap (l1++[u,v]) x) (hb:l1.length+2≤1000000000):
  Fn Tryz.prog 216 #[mv, .pointer (some ⟨b,0,none⟩), .int .i64 c] G [frB b A (l1++[u,v]).length cap p a B m cm,x]
   fun e G' H'=>G=G'∧((e= .returned (.bool (ordS c u v))∧ordOK u v∧H'=[frB b A l1.length cap p a B m cm,x]∧VVec A cap l1 x)∨(e=halted 6∧¬ordOK u v∧Left b H')):=by
 refine Fn.enter Tryz.func216 rfl rfl fun w0=>?_
 refine WC.seq ?_
 refine WC.region ?_
 refine zw.assign ?_
 refine WL.nil ?_
 refine WK.un ?_
 refine WC.seq ?_
 refine WC.region ?_
 refine zw.move ?_
 refine zw.move ?_
 refine WL.oo (OW.callR rfl (perm_all _) (take_ok G mv b A cap p a B m cm l1 [u,v] x hv hb) rfl (by rintro e G' H' ⟨_,_,_,h,_⟩;exact⟨_,h⟩) fun v' G' H' h hg=>?_)
 obtain⟨A',cap',x',he,rfl,rfl,hv1,hv2⟩:=h
 cases he
 refine zw.assign ?_
 refine WL.nil ?_
 refine WK.un ?_
 obtain⟨hl,⟨h1,h2,h3,h4⟩ | ⟨b',c',rfl,rfl,h1,h2,h3⟩⟩:=hv1
 ·simp at h2
 have hc0:∀(j:Nat) (w:Value),(vcells u)[j]? =some w→c'[0+(0:Int).toNat*4+j]? =some w:=fun j w hw=>two_lo h3 hw
 have hc1:∀(j:Nat) (w:Value),(vcells v)[j]? =some w→c'[0+(1:Int).toNat*4+j]? =some w:=fun j w hw=>two_hi h3 hw
 refine WC.join (X:=Unit) (fun _=>[(7, .slice (some ⟨b',0,none⟩) 2 cap'),(2, .int .i64 c)]) (fun _=>G) (fun _=>[.blk b' (.cells c' 52 (0,0)),frB b A l1.length cap p a B m cm,x]) (fun _=>ordOK u v) ?_ fun _ hok=>?_
 ·refine WC.draw mixed ?_
  refine za.move 0 ?_
  refine za.ix 1 ?_
  refine za.fa 2 ?_
  refine WA.vv 3 rfl (Gv.load1 rfl .here (hc0 0 _ rfl)) ?_
  refine za.move 4 ?_
  refine za.ix 5 ?_
  refine za.fa 6 ?_
  refine WA.vv 7 rfl (Gv.load1 rfl .here (hc1 0 _ rfl)) ?_
  refine za.eq 8 ?_
  refine za.move 9 ?_
  by_cases e1:u.t=v.t
  ·rw [show(u.t==v.t)=true by simpa using e1]
   refine za.move 10 ?_
   refine za.ix 11 ?_
   refine za.fa 12 ?_
   refine WA.vv 13 rfl (Gv.load1 rfl .here (hc0 0 _ rfl)) ?_
   refine za.eq 14 ?_
   refine za.move 15 ?_
   by_cases e2:u.t=1
   ·rw[show(u.t==1)=true by simpa using e2]
    refine za.skip 16 ?_
    refine za.skip 17 ?_
    refine za.skip 18 ?_
    refine za.skip 19 ?_
    refine za.skip 20 ?_
    refine za.pick 21 ?_
    refine za.pick 22 ?_
    refine WA.oo 23 rfl (OW.callR rfl (Hf:=[]) (List.Perm.refl _) (need_ok G) rfl (by rintro e G' H' ⟨h,_⟩;exact⟨_,h⟩) fun v' G' H' h hg=>?_)
    obtain⟨he,rfl,rfl⟩:=h
    cases he
    refine WA.done kr ?_
    refine WK.un ?_
    exact WK.meet () ⟨e1, .inl e2⟩ (by exact⟨rfl,rfl,trivial⟩) rfl (List.Sublist.refl _)
   ·rw[show(u.t==1)=false by simpa using e2]
    refine za.move 16 ?_
    refine za.ix 17 ?_
    refine za.fa 18 ?_
    refine WA.vv 19 rfl (Gv.load1 rfl .here (hc0 0 _ rfl)) ?_
    refine za.eq 20 ?_
    refine za.pick 21 ?_
    refine za.pick 22 ?_
    by_cases e3:u.t=3
    ·rw[show(u.t==3)=true by simpa using e3]
     refine WA.oo 23 rfl (OW.callR rfl (Hf:=[]) (List.Perm.refl _) (need_ok G) rfl (by rintro e G' H' ⟨h,_⟩;exact⟨_,h⟩) fun v' G' H' h hg=>?_)
     obtain⟨he,rfl,rfl⟩:=h
     cases he
     refine WA.done kr ?_
     refine WK.un ?_
     exact WK.meet () ⟨e1, .inr e3⟩ (by exact⟨rfl,rfl,trivial⟩) rfl (List.Sublist.refl _)
    ·rw[show(u.t==3)=false by simpa using e3]
     refine WA.oo 23 rfl (OW.call rfl (Hf:=[]) (List.Perm.refl _) (need_no G) rfl (fun v G' H' h _=>by cases h.1) (fun ch G' H' h _=>?_) (fun G' H' h=>by cases h.1))
     obtain⟨he,rfl,rfl⟩:=h
     cases he
     refine WK.un ?_
     exact QF.panic (H':=[frB b A l1.length cap p a B m cm]) (by exact .cons _ (.cons_cons _ (List.nil_sublist _))) ⟨rfl, .inr ⟨rfl,fun h=>h.2.elim e2 e3,Left.of ..⟩⟩
  ·rw[show(u.t==v.t)=false by simpa using e1]
   refine za.skip 10 ?_
   refine za.skip 11 ?_
   refine za.skip 12 ?_
   refine za.skip 13 ?_
   refine za.skip 14 ?_
   refine za.skip 15 ?_
   refine za.skip 16 ?_
   refine za.skip 17 ?_
   refine za.skip 18 ?_
   refine za.skip 19 ?_
   refine za.skip 20 ?_
   refine za.skip 21 ?_
   refine za.pick 22 ?_
   refine WA.oo 23 rfl (OW.call rfl (Hf:=[]) (List.Perm.refl _) (need_no G) rfl (fun v G' H' h _=>by cases h.1) (fun ch G' H' h _=>?_) (fun G' H' h=>by cases h.1))
   obtain⟨he,rfl,rfl⟩:=h
   cases he
   refine WK.un ?_
   exact QF.panic (H':=[frB b A l1.length cap p a B m cm]) (by exact .cons _ (.cons_cons _ (List.nil_sublist _))) ⟨rfl, .inr ⟨rfl,fun h=>e1 h.1,Left.of ..⟩⟩
 refine WC.seq ?_
 refine WC.drawB mixed ?_
 refine zb.move 0 ?_
 refine zb.ix 1 ?_
 refine zb.fa 2 ?_
 refine WB.vv 3 rfl (Gv.load1 rfl .here (hc0 1 _ rfl)) ?_
 refine zb.move 4 ?_
 refine zb.ix 5 ?_
 refine zb.fa 6 ?_
 refine WB.vv 7 rfl (Gv.load1 rfl .here (hc1 1 _ rfl)) ?_
 refine zb.move 9 ?_
 refine zb.ix 10 ?_
 refine zb.fa 11 ?_
 refine WB.vv 12 rfl (Gv.load1 rfl .here (hc0 3 _ rfl)) ?_
 refine zb.move 13 ?_
 refine zb.ix 14 ?_
 refine zb.fa 15 ?_
 refine WB.vv 16 rfl (Gv.load1 rfl .here (hc1 3 _ rfl)) ?_
 refine WB.oo 8 rfl (OW.callR rfl (Hf:=[]) (List.Perm.refl _) (compareI_fn G _ _) rfl (by rintro e G' H' ⟨h,_⟩;exact⟨_,h⟩) fun v' G' H' h hg=>?_)
 obtain⟨he,rfl,rfl⟩:=h
 cases he
 refine⟨fun w hw=>hw.leSub (Gh.le_refl _) (List.Sublist.refl _),?_⟩
 refine WB.oo 17 rfl (OW.callR rfl (Hf:=[]) (List.Perm.refl _) (compareS_fn G _ _) rfl (by rintro e G' H' ⟨h,_⟩;exact⟨_,h⟩) fun v' G' H' h hg=>?_)
 obtain⟨he,rfl,rfl⟩:=h
 cases he
 refine⟨fun w hw=>hw.leSub (Gh.le_refl _) (List.Sublist.refl _),?_⟩
 refine WB.one (i:=18) kr rfl kr (OW.buildSlice rfl kr kr (by rfl) rfl fun b3=>?_)
 refine⟨fun w hw=>hw.leSub (Gh.le_refl _) (List.sublist_cons_self _ _),?_⟩
 refine WB.oo 19 rfl (OW.callR rfl (perm_at .here) (or_fn G b3 _ _) rfl (by rintro e G' H' ⟨h,_⟩;exact⟨_,h⟩) fun v' G' H' h hg=>?_)
 obtain⟨he,rfl,rfl⟩:=h
 cases he
 refine⟨fun w hw=>hw.leSub (Gh.le_refl _) (List.Sublist.refl _),?_⟩
 refine zb.assign 20 ?_
 refine WB.done kr ?_
 refine WK.un ?_
 refine WC.seq ?_
 refine WC.seq ?_
 refine WC.region ?_
 refine zw.move ?_
 refine WL.nil ?_
 refine WK.un ?_
 refine WC.block ?_  -- 0
 refine WC.seq ?_
 refine WC.region ?_
 refine zw.eq ?_
 refine zw.assign ?_
 refine WL.nil ?_
 refine WK.un ?_
 refine WC.cond rfl (fun hc2=>?_) (fun hc2=>?_)
 ·-- yes
  refine WC.seq ?_
  refine WC.region ?_
  refine zw.move ?_
  refine zw.lt ?_
  refine zw.assign ?_
  refine WL.nil ?_
  refine WK.un ?_
  refine WC.ret ?_
  (refine WK.un ?_)
  exact QF.ret1 (.inl rfl) rfl (.tmp rfl) (by exact .cons _ (List.Sublist.refl _)) ⟨rfl, .inl ⟨by rw[ordS,if_pos (show c=14 by simpa using hc2)];rfl,hok,rfl,hv2⟩⟩
 ·-- no
  have h14:¬c=14:=by simpa using hc2
  refine WC.seq ?_
  refine WC.region ?_
  refine zw.eq ?_
  refine zw.assign ?_
  refine WL.nil ?_
  refine WK.un ?_
  refine WC.cond rfl (fun hc2=>?_) (fun hc2=>?_)
  ·-- yes
   refine WC.seq ?_
   refine WC.region ?_
   refine zw.move ?_
   refine zw.le ?_
   refine zw.assign ?_
   refine WL.nil ?_
   refine WK.un ?_
   refine WC.ret ?_
   (refine WK.un ?_)
   exact QF.ret1 (.inl rfl) rfl (.tmp rfl) (by exact .cons _ (List.Sublist.refl _)) ⟨rfl, .inl ⟨by rw[ordS,if_neg h14,if_pos (show c=15 by simpa using hc2)];rfl,hok,rfl,hv2⟩⟩
  ·-- no
   have h15:¬c=15:=by simpa using hc2
   refine WC.seq ?_
   refine WC.region ?_
   refine zw.eq ?_
   refine zw.assign ?_
   refine WL.nil ?_
   refine WK.un ?_
   refine WC.cond rfl (fun hc2=>?_) (fun hc2=>?_)
   ·-- yes
    refine WC.seq ?_
    refine WC.region ?_
    refine zw.move ?_
    refine zw.gt ?_
    refine zw.assign ?_
    refine WL.nil ?_
    refine WK.un ?_
    refine WC.ret ?_
    (refine WK.un ?_)
    exact QF.ret1 (.inl rfl) rfl (.tmp rfl) (by exact .cons _ (List.Sublist.refl _)) ⟨rfl, .inl ⟨by rw[ordS,if_neg h14,if_neg h15,if_pos (show c=16 by simpa using hc2)];rfl,hok,rfl,hv2⟩⟩
   ·-- no
    have h16:¬c=16:=by simpa using hc2
    refine WC.skip ?_
    refine WK.un ?_
    refine WC.seq ?_
    refine WC.region ?_
    refine zw.move ?_
    refine zw.ge ?_
    refine zw.assign ?_
    refine WL.nil ?_
    refine WK.un ?_
    refine WC.ret ?_
    (refine WK.un ?_)
    exact QF.ret1 (.inl rfl) rfl (.tmp rfl) (by exact .cons _ (List.Sublist.refl _)) ⟨rfl, .inl ⟨by rw[ordS,if_neg h14,if_neg h15,if_neg h16];rfl,hok,rfl,hv2⟩⟩
end
section
attribute [local irreducible] Tryz.prog
structure Pg where
 consts:List V
 procs:List Pr
abbrev mcC (c1 c2 c3:Value) (FA:Option Addr) (n cap:Nat) (en:Int) (v:V) (OA:Option Addr) (on ocap:Nat) (st:Int) (ed:Bool):Array Value:=
 #[c1,c2,c3, .slice FA n cap, .int .i64 en, .int .i64 v.t, .int .i64 v.i, .bool v.b, .string v.s, .slice OA on ocap, .int .i64 st, .bool ed]
abbrev mcB (mb:Nat) (c1 c2 c3:Value) (FA:Option Addr) (n cap:Nat) (en:Int) (v:V) (OA:Option Addr) (on ocap:Nat) (st:Int) (ed:Bool):Own:= .blk mb (.cells (mcC c1 c2 c3 FA n cap en v OA on ocap st ed) 160 (0,0))
def ptrs (bs:List Nat):List Value:=bs.map fun b=> .pointer (some ⟨b,0,none⟩)
abbrev PVec (A:Option Addr) (cap:Nat) (bs:List Nat) (x:Own):Prop:=Vec 241 1 A bs.length cap (ptrs bs) x
def sizedP (p:Pr):Bool:=decide ((p.params.length:Int)≤p.locals)&&decide (p.locals≤64)
theorem sized_fn (G:Gh) (nm:ByteArray) (ex:Bool) (PA:Option Addr) (n pc:Nat) (lo re:Int) (cv:Value):
  Fn Tryz.prog 137 #[.agg #[.string nm, .bool ex, .slice PA n pc, .int .i64 lo, .int .i64 re,cv]] G [] fun e G' H'=>e= .returned (.bool (decide ((n:Int)≤lo)&&decide (lo≤64)))∧G=G'∧H'=[]:=by
 refine Fn.enter Tryz.func137 rfl rfl fun w0=>?_
 refine WC.seq ?_
 refine WC.region ?_
 refine WL.oo (OW.box rfl rfl fun b1=>?_)
 refine zw.assign ?_
 refine WL.nil ?_
 refine WK.un ?_
 refine WC.seq ?_
 refine WC.region ?_
 refine zw.fa ?_
 refine zw.ld ?_
 refine zw.fa ?_
 refine zw.ld ?_
 refine zw.len ?_
 refine zw.ge ?_
 refine zw.move ?_
 generalize hb:decide ((n:Int)≤lo)=b
 cases b
 all_goals (first | refine WL.p (Gp.fieldAddr rfl) (by rfl) rfl ?_ | refine WL.skip (by rfl) rfl ?_)
 all_goals (first | (first | (refine WL.v (Gv.load1 rfl atA (by first | rfl | assumption)) (by rfl) rfl ?_) | (refine WL.v (Gv.loadN rfl atA (by rfl) (by rfl)) (by rfl) rfl ?_) | (refine WL.v (Gv.loadG1 rfl (by assumption) rfl) (by rfl) rfl ?_) | (refine WL.v (Gv.loadG0 rfl (by assumption) rfl) (by rfl) rfl ?_) | (refine WL.v (Gv.loadGN rfl (by assumption) rfl) (by rfl) rfl ?_)) | refine WL.skip (by rfl) rfl ?_)
 all_goals (first | (first | refine WL.p (Gp.leI rfl rfl) (by rfl) rfl ?_ | refine WL.p (Gp.leS rfl rfl) (by rfl) rfl ?_) | refine WL.skip (by rfl) rfl ?_)
 all_goals (first | (first | refine WL.p (Gp.pickT rfl rfl) (by rfl) rfl ?_ | refine WL.p (Gp.pickF rfl rfl) (by rfl) rfl ?_) | refine WL.skip (by rfl) rfl ?_)
 all_goals (first | refine WL.p (Gp.assign rfl) (by rfl) rfl ?_ | refine WL.skip (by rfl) rfl ?_)
 all_goals refine WL.nil ?_
 all_goals (refine WK.un ?_)
 all_goals refine WC.ret ?_
 all_goals (refine WK.un ?_)
 all_goals exact QF.ret1 (.inl rfl) rfl (.tmp rfl) (List.nil_sublist _) ⟨by simp,rfl,rfl⟩
theorem top_fn (G:Gh) (mb:Nat) (c1 c2 c3:Value) (FA:Option Addr) (cap:Nat) (en:Int) (v:V) (OA:Option Addr) (on ocap:Nat) (st:Int) (ed:Bool) (bs:List Nat) (b:Nat) (x:Own)
  (hv:PVec FA cap (bs++[b]) x) (hb:bs.length≤1000000000):
  Fn Tryz.prog 164 #[.pointer (some ⟨mb,0,none⟩)] G [mcB mb c1 c2 c3 FA (bs++[b]).length cap en v OA on ocap st ed,x]
   fun e G' H'=>e= .returned (.pointer (some ⟨b,0,none⟩))∧G=G'∧H'=[mcB mb c1 c2 c3 FA (bs++[b]).length cap en v OA on ocap st ed,x]:=by
 have hlen:(bs++[b]).length=bs.length+1:=by simp
 have hz:IntKind.i64.wrap (((bs++[b]).length:Int) - 1)=(bs.length:Int):=by rw[hlen,wrap_small (by omega) (by omega)];omega
 obtain⟨hl,⟨h1,h2,h3,h4⟩ | ⟨b',c',rfl,rfl,h1,h2,h3⟩⟩:=id hv
 ·simp at h2
 refine Fn.enter Tryz.func164 rfl rfl fun w0=>?_
 refine WC.seq ?_
 refine WC.region ?_
 refine zw.assign ?_
 refine WL.nil ?_
 refine WK.un ?_
 refine WC.seq ?_
 refine WC.draw mixed ?_
 refine za.move 0 ?_
 refine za.nil 1 ?_
 refine za.fa 2 ?_
 refine za.move 4 ?_
 refine za.nil 5 ?_
 refine za.fa 6 ?_
 refine za.ld 7 ?_
 refine za.len 8 ?_
 refine WA.pp 9 rfl (Gp.sub' rfl rfl hz) ?_
 refine za.ld 3 ?_
 refine za.ix 10 ?_
 refine WA.vv 11 rfl (Gv.load1 rfl (.there .here) (by have h:=congrArg (fun l=>l[bs.length]?) h3;simp[ptrs,hlen]at h;simpa using h)) ?_
 refine za.assign 12 ?_
 refine WA.done kr ?_
 refine WK.un ?_
 refine WC.ret ?_
 (refine WK.un ?_)
 exact QF.ret1 (.inl rfl) rfl (.tmp rfl) (List.Sublist.refl _) ⟨rfl,rfl,rfl⟩
theorem copied_fnQ (G:Gh) (b:Nat) (A:Option Addr) (cap:Nat) (p a:Int) (B:Option Addr) (cm:Nat) (l m:List V) (x y:Own) (hx:VVec A cap l x) (hy:VVec B cm m y) (hl:l.length≤1000000000) (hm:m.length≤1000000000):
  Fn Tryz.prog 165 #[.pointer (some ⟨b,0,none⟩)] G [frB b A l.length cap p a B m.length cm,x,y]
   fun e G' H'=>∃A' cap' B' cm' x' y',e= .returned (.agg (frC A' l.length cap' p a B' m.length cm'))∧G=G'∧H'=[x',y',frB b A l.length cap p a B m.length cm,x,y]∧VVec A' cap' l x'∧VVec B' cm' m y':=by
 have none_zero:∀ {A:Option Addr} {cap:Nat} {l:List V} {x:Own},VVec A cap l x→A=none→l.length=0:=by
  rintro A cap l x ⟨_,⟨_,h,_⟩ | ⟨b,c,h,_⟩⟩ hA
  ·exact h
  ·rw[h]at hA;cases hA
 refine Fn.enter Tryz.func165 rfl rfl fun w0=>?_
 refine WC.seq ?_
 refine WC.region ?_
 refine WL.oo (OW.alloc rfl fun b2=>?_)
 refine WL.nil ?_
 refine WK.un ?_
 refine WC.seq ?_
 refine WC.region ?_
 refine zw.move ?_
 refine zw.nil ?_
 refine zw.ld ?_
 refine WL.oo (OW.alloc rfl fun b3=>?_)
 refine zw.st ?_
 refine WL.nil ?_
 refine WK.un ?_
 refine WC.seq ?_
 refine WC.region ?_
 refine zw.move ?_
 refine zw.nil ?_
 refine zw.fa ?_
 refine zw.fa ?_
 refine zw.ld ?_
 refine WL.oo (OW.callK rfl (clone_vals G [frB b A l.length cap p a B m.length cm,x] A l.length cap (vflat l) (hx.rds (.there .here)) (vflat_length l) (vflat_one l) (none_zero hx) (by omega)) rfl fun v' G' H' h hg=>?_)
 obtain⟨A',cap',x',he,rfl,rfl,hx'⟩:=h
 cases he
 refine zw.fa ?_
 refine zw.fa ?_
 refine zw.st ?_
 refine WL.nil ?_
 refine WK.un ?_
 refine WC.seq ?_
 refine WC.region ?_
 refine zw.move ?_
 refine zw.nil ?_
 refine zw.fa ?_
 refine zw.ld ?_
 refine WL.oo (OW.callK rfl (clone_vals G [frB b A l.length cap p a B m.length cm,y] B m.length cm (vflat m) (hy.rds (.there .here)) (vflat_length m) (vflat_one m) (none_zero hy) (by omega)) rfl fun v' G' H' h hg=>?_)
 obtain⟨B',cm',y',he,rfl,rfl,hy'⟩:=h
 cases he
 refine zw.fa ?_
 refine zw.st ?_
 refine WL.nil ?_
 refine WK.un ?_
 refine WC.seq ?_
 refine WC.region ?_
 refine zw.ld ?_
 refine zw.st ?_
 refine WL.nil ?_
 refine WK.un ?_
 refine WC.rt ?_
 exact QF.p1 (.inl rfl) rfl (.cell rfl inferInstance inferInstance atA rfl rfl) (⟨A',cap',B',cm',x',y',rfl,rfl,rfl,hx',hy'⟩)
end
section
attribute [local irreducible] Tryz.prog
def V0:V:=⟨0,0,false,⟨#[]⟩⟩
theorem repS_V0:∀n,repS n (vcells V0)=vflat (List.replicate n V0)
 | 0=>rfl
 | n+1=>by rw[repS,repS_V0 n,List.replicate_succ];simp[vflat]
def padded (args:List V) (lo:Int):List V:=args++List.replicate (lo.toNat - args.length) V0
theorem padded_length {args:List V} {lo:Int} (h:(args.length:Int)≤lo):(padded args lo).length=lo.toNat:=by simp[padded];omega
theorem enter_fn (G:Gh) (mb:Nat) (c1 c3:Value) (PA:Option Addr) (pn pc:Nat) (procs:List Pr) (FA:Option Addr) (cap:Nat) (en:Int) (v:V) (OA:Option Addr) (on ocap:Nat) (st:Int) (ed:Bool) (bs:List Nat) (x:Own)
  (i:Nat) (p:Pr) (hp:procs[i]? =some p) (hpn:pn=procs.length) (hG:Sl Kd.prc G PA procs) (hv:PVec FA cap bs x) (hb:bs.length≤1000000000)
  (AA:Option Addr) (ac:Nat) (args:List V) (Ha:List Own) (hr:Rds G Ha AA (vflat args)) (hla:(args.length:Int)≤p.locals) (hlo:p.locals≤64):
  Fn Tryz.prog 140 #[.pointer (some ⟨mb,0,none⟩), .int .i64 i, .slice AA args.length ac] G (mcB mb c1 (.slice PA pn pc) c3 FA bs.length cap en v OA on ocap st ed::x::Ha)
   fun e G' H'=>∃FA' cap' b VA x' y,e= .returned (.tuple #[])∧G=G'∧H'=mcB mb c1 (.slice PA pn pc) c3 FA' (bs++[b]).length cap' en v OA on ocap st ed::x'::frB b none 0 0 i 0 VA (padded args p.locals).length (padded args p.locals).length:: .spare 0 0 0::y::Ha∧PVec FA' cap' (bs++[b]) x'∧VVec VA (padded args p.locals).length (padded args p.locals) y:=by
 have hi:i<procs.length:=(List.getElem?_eq_some_iff.1 hp).1
 obtain⟨pb,po,cs,rfl,⟨QA,qc,CA,cc,rfl,_,_⟩,hcs⟩:=hG i p hp
 have hpl:=padded_length hla
 rw[hpl]
 refine Fn.enter Tryz.func140 rfl rfl fun w0=>?_
 refine WC.seq ?_
 refine WC.region ?_
 refine zw.move ?_
 refine zw.move ?_
 refine zw.nil ?_
 refine zw.fa ?_
 refine zw.fa ?_
 refine zw.ld ?_
 refine zw.move ?_
 refine zw.ix ?_
 refine zw.fa ?_
 refine WL.vv (Gv.loadG1 rfl hcs rfl) ?_
 refine WL.oo (OW.makeSlice rfl rfl (by rfl) (by omega) (by omega) (by omega) rfl fun vb y hy=>?_)
 refine zw.build ?_
 refine WL.oo (OW.box rfl rfl fun b4=>?_)
 refine zw.assign ?_
 refine WL.nil ?_
 refine WK.un ?_
 rw[show repS p.locals.toNat (Value.cells (.agg #[.int .i64 0, .int .i64 0, .bool false, .string ⟨#[]⟩])).toList=vflat (List.replicate p.locals.toNat V0)from repS_V0 _]at hy
 refine WC.seq ?_
 refine WC.region ?_
 refine zw.move ?_
 refine zw.nil ?_
 refine zw.fa ?_
 refine zw.ld ?_
 refine zw.move ?_
 refine WL.oo (OW.copy rfl rfl rfl hy (.there .here) ((hr.sub (by exact .cons _ (.cons _ (.cons _ (.cons _ (List.Sublist.refl _))))))) (vflat_length args) (vflat_one args) (by omega) rfl fun y' hy'=>?_)
 refine WL.nil ?_
 refine WK.un ?_
 have e1:vflat args++(vflat (List.replicate p.locals.toNat V0)).drop (args.length*4)=vflat (padded args p.locals):=by
  rw[padded,vflat_append]
  congr 1
  have h2:List.replicate p.locals.toNat V0=List.replicate args.length V0++List.replicate (p.locals.toNat - args.length) V0:=by rw[List.replicate_append_replicate];congr 1;omega
  rw[h2,vflat_append,show args.length*4=(vflat (List.replicate args.length V0)).length by rw[vflat_length];simp,List.drop_left]
 rw[e1]at hy'
 refine WC.region ?_
 refine zw.move ?_
 refine zw.move ?_
 refine zw.nil ?_
 refine zw.fa ?_
 refine zw.ld ?_
 refine zw.move ?_
 refine WL.op kr (OW.buildSlice rfl kr kr (by rfl) rfl fun b5=>?_)
 refine WL.oo (OW.append rfl rfl kr kr hv atA (Rds.blk0 (cs:=ptrs [b4]) .here rfl) rfl rfl (by omega) (by omega) rfl fun FA' cap' x' hx'=>?_)
 refine zw.nil ?_
 refine zw.fa ?_
 refine zw.st ?_
 refine WL.nil ?_
 refine WK.un ?_
 refine WK.nothing ?_
 have e2:(bs++[b4]).length=bs.length+1:=by simp
 have e3:ptrs (bs++[b4])=ptrs bs++ptrs [b4]:=by simp[ptrs]
 refine WK.un ?_
 exact QF.p0 (.inr rfl) rfl  (⟨FA',cap',b4,some ⟨vb,0,none⟩,x',y',rfl,rfl,by rw[e2],by unfold PVec;rw[e2,e3];exact hx',by unfold VVec;rw[hpl];exact hy'⟩)
end
section
attribute [local irreducible] Tryz.prog
def tys (l:List V):List Int:=l.map (·.t)
def callR (procs:List Pr) (l:List V) (n:Int) (depth:Nat):Except Int (Pr×List V×List V):=
 if n<0 then .error 6 else
 match procs[n.toNat]? with
 | none=> .error 6
 | some q=>
  if sizedP q=false then .error 6
  else if l.length<q.params.length then .error 6
  else if tys (l.drop (l.length - q.params.length))≠q.params then .error 6
  else if q.result≠0∧128≤l.length - q.params.length then .error 6
  else if 64≤depth then .error 4
  else .ok (q,l.take (l.length - q.params.length),l.drop (l.length - q.params.length))
theorem cut_list {α:Type} (l:List α) (k:Nat) (h:k≤l.length):∃l1 l2,l=l1++l2∧l2.length=k∧l.take (l.length - k)=l1∧l.drop (l.length - k)=l2:=
 ⟨_,_,(List.take_append_drop (l.length - k) l).symm,by simp;omega,rfl,rfl⟩
theorem call_fn (G:Gh) (mb:Nat) (c1 c3:Value) (PA:Option Addr) (pc:Nat) (procs:List Pr) (FA:Option Addr) (fcap:Nat) (en:Int) (v:V) (OA:Option Addr) (on ocap:Nat) (st:Int) (ed:Bool) (bs:List Nat) (fx:Own)
  (hG:Sl Kd.prc G PA procs) (hfv:PVec FA fcap bs fx) (hbs:bs.length≤1000000000)
  (b:Nat) (A:Option Addr) (cap:Nat) (p a:Int) (B:Option Addr) (m cm:Nat) (l:List V) (x:Own) (hv:VVec A cap l x) (hl:l.length≤1000000) (n:Int):
  Fn Tryz.prog 197 #[.pointer (some ⟨mb,0,none⟩), .pointer (some ⟨b,0,none⟩), .int .i64 n] G [mcB mb c1 (.slice PA procs.length pc) c3 FA bs.length fcap en v OA on ocap st ed,fx,frB b A l.length cap p a B m cm,x]
   fun e G' H'=>G=G'∧match callR procs l n bs.length with
    | .error k=>e=halted k∧∃H1,Left b H1∧H'=mcB mb c1 (.slice PA procs.length pc) c3 FA bs.length fcap en v OA on ocap st ed::fx::H1
    | .ok (q,r,args)=>∃FA' fcap' b' VA x' y,e= .returned (.tuple #[])∧H'=[mcB mb c1 (.slice PA procs.length pc) c3 FA' (bs++[b']).length fcap' en v OA on ocap st ed,x',frB b A r.length cap p a B m cm,x,frB b' none 0 0 n 0 VA (padded args q.locals).length (padded args q.locals).length, .spare 0 0 0,y]∧
      PVec FA' fcap' (bs++[b']) x'∧VVec VA (padded args q.locals).length (padded args q.locals) y∧VVec A cap r x:=by
 refine Fn.enter Tryz.func197 rfl rfl fun w0=>?_
 refine WC.seq ?_
 refine WC.region ?_
 refine zw.move ?_
 refine zw.ge ?_
 refine zw.move ?_
 by_cases hn0:n<0
 ·rw[show decide ((0:Int)≤n)=false by simpa using hn0]
  refine zw.skip ?_
  refine zw.skip ?_
  refine zw.skip ?_
  refine zw.skip ?_
  refine zw.skip ?_
  refine zw.skip ?_
  refine zw.skip ?_
  refine zw.skip ?_
  refine zw.pick ?_
  refine zw.move ?_
  refine zw.skip ?_
  refine zw.skip ?_
  refine zw.skip ?_
  refine zw.skip ?_
  refine zw.skip ?_
  refine zw.skip ?_
  refine zw.skip ?_
  refine zw.skip ?_
  refine zw.skip ?_
  refine zw.pick ?_
  refine WL.oo (OW.call rfl (Hf:=[]) (List.Perm.refl _) (need_no _) rfl (fun v G' H' h _=>by cases h.1) (fun ch G' H' h _=>?_) (fun G' H' h=>by cases h.1))
  obtain⟨he,rfl,rfl⟩:=h
  cases he
  refine WK.un ?_
  exact QF.panicP (⟨rfl,by rw[callR,if_pos hn0];exact⟨rfl,_,Left.of b A l.length cap p a B m cm,rfl⟩⟩)
 obtain⟨i,rfl⟩:=Int.eq_ofNat_of_zero_le (Int.not_lt.1 hn0)
 rw[show decide ((0:Int)≤(i:Int))=true by simp]
 refine zw.move ?_
 refine zw.move ?_
 refine zw.nil ?_
 refine zw.fa ?_
 refine zw.fa ?_
 refine zw.ld ?_
 refine zw.len ?_
 refine zw.lt ?_
 by_cases hn1:i<procs.length
 rotate_left
 ·rw[show decide ((i:Int)<(procs.length:Int))=false by simp;omega]
  refine zw.pick ?_
  refine zw.move ?_
  refine zw.skip ?_
  refine zw.skip ?_
  refine zw.skip ?_
  refine zw.skip ?_
  refine zw.skip ?_
  refine zw.skip ?_
  refine zw.skip ?_
  refine zw.skip ?_
  refine zw.skip ?_
  refine zw.pick ?_
  refine WL.oo (OW.call rfl (Hf:=[]) (List.Perm.refl _) (need_no _) rfl (fun v G' H' h _=>by cases h.1) (fun ch G' H' h _=>?_) (fun G' H' h=>by cases h.1))
  obtain⟨he,rfl,rfl⟩:=h
  cases he
  refine WK.un ?_
  exact QF.panicP (⟨rfl,by rw[callR,if_neg hn0,Int.toNat_natCast,List.getElem?_eq_none (by omega)];exact⟨rfl,_,Left.of b A l.length cap p a B m cm,rfl⟩⟩)
 rw[show decide ((i:Int)<(procs.length:Int))=true by simp;omega]
 obtain⟨q,hq⟩:∃q,procs[i]? =some q:=⟨_,List.getElem?_eq_getElem hn1⟩
 obtain⟨pb,po,cs,rfl,⟨QA,qc,CA,cc,rfl,hQ,hC⟩,hcs⟩:=hG i q hq
 have hcR:callR procs l (i:Int) bs.length=if sizedP q=false then .error 6 else if l.length<q.params.length then .error 6 else if tys (l.drop (l.length - q.params.length))≠q.params then .error 6 else if q.result≠0∧128≤l.length - q.params.length then .error 6 else if 64≤bs.length then .error 4 else .ok (q,l.take (l.length - q.params.length),l.drop (l.length - q.params.length)):=by
  rw[callR,if_neg hn0,Int.toNat_natCast,hq]
 rw[hcR]
 refine zw.pick ?_
 refine zw.move ?_
 refine zw.move ?_
 refine zw.nil ?_
 refine zw.fa ?_
 refine zw.fa ?_
 refine zw.ld ?_
 refine zw.move ?_
 refine zw.ix ?_
 refine WL.vv (Gv.loadGN rfl hcs rfl) ?_
 refine WL.oo (OW.callR rfl (Hf:=[]) (List.Perm.refl _) (sized_fn G q.name q.exp QA q.params.length qc q.locals q.result (.slice CA q.code.length cc)) rfl (by rintro e G' H' ⟨h,_⟩;exact⟨_,h⟩) fun v' G' H' h hg=>?_)
 obtain⟨he,rfl,rfl⟩:=h
 cases he
 refine zw.pick ?_
 by_cases hs:sizedP q=false
 ·rw[show(decide ((q.params.length:Int)≤q.locals)&&decide (q.locals≤64))=false from hs]
  refine WL.oo (OW.call rfl (Hf:=[]) (List.Perm.refl _) (need_no _) rfl (fun v G' H' h _=>by cases h.1) (fun ch G' H' h _=>?_) (fun G' H' h=>by cases h.1))
  obtain⟨he,rfl,rfl⟩:=h
  cases he
  refine WK.un ?_
  exact QF.panicP (⟨rfl,by rw[if_pos hs];exact⟨rfl,_,Left.of b A l.length cap p a B m cm,rfl⟩⟩)
 rw[show(decide ((q.params.length:Int)≤q.locals)&&decide (q.locals≤64))=true by have h:=hs;unfold sizedP at h;simpa using h]
 rw[if_neg hs]
 have hs':(q.params.length:Int)≤q.locals∧q.locals≤64:=by have h:=hs;unfold sizedP at h;simpa using h
 refine WL.oo (OW.callR rfl (Hf:=[]) (List.Perm.refl _) (need_ok G) rfl (by rintro e G' H' ⟨h,_⟩;exact⟨_,h⟩) fun v' G' H' h hg=>?_)
 obtain⟨he,rfl,rfl⟩:=h
 cases he
 refine WL.nil ?_
 refine WK.un ?_
 refine WC.seq ?_
 refine WC.region ?_
 refine zw.move ?_
 refine zw.nil ?_
 refine zw.fa ?_
 refine zw.fa ?_
 refine zw.ld ?_
 refine zw.move ?_
 refine zw.ix ?_
 refine WL.vv (Gv.loadGN rfl hcs rfl) ?_
 refine WL.oo (OW.alloc rfl fun b1=>?_)
 refine zw.st ?_
 refine WL.nil ?_
 refine WK.un ?_
 refine WC.seq ?_
 refine WC.region ?_
 refine zw.move ?_
 refine zw.move ?_
 refine zw.fa ?_
 refine zw.ld ?_
 refine zw.len ?_
 by_cases hk:l.length<q.params.length
 ·rw[if_pos hk]
  refine WL.oo (OW.call rfl (Pk.perm pkA) (take_no G _ b A l.length cap p a B m cm q.params.length (by omega)) rfl (fun v' G' H' h hg=>by cases h.1) (fun ch G' H' h hg=>?_) (fun G' H' h=>by repeat (first | (cases h.1;done) | (cases h;done) | (obtain⟨_,h⟩:=h) | (rcases h with h | h))))
  obtain⟨he,rfl,c,hc,rfl⟩:=h
  cases he
  refine WK.un ?_
  exact QF.panicP ⟨rfl,rfl,_,⟨c,hc,rfl⟩,rfl⟩ pkA
 rw[if_neg hk]
 obtain⟨l1,l2,rfl,hl2,ht,hd⟩:=cut_list l q.params.length (by omega)
 rw[ht,hd]
 have hl1:(l1++l2).length - q.params.length=l1.length:=by rw[←hl2];simp
 rw[hl1]
 rw[←hl2]
 refine WL.oo (OW.callK rfl (take_ok G _ b A cap p a B m cm l1 l2 x hv (by simp at hl;omega)) rfl fun v' G' H' h hg=>?_)
 obtain⟨A',cap',x',he,rfl,rfl,hv1,hv2⟩:=h
 cases he
 refine zw.assign ?_
 refine WL.nil ?_
 refine WK.un ?_
 refine WC.seq ?_
 refine WC.seq ?_
 refine WC.region ?_
 refine zw.move ?_
 refine zw.len ?_
 refine zw.move ?_
 refine WL.nil ?_
 refine WK.un ?_
 refine WC.block ?_  -- 0
 refine WC.pk (H':=[x',frB b A l1.length cap p a B m cm,x, .blk b1 (.cells #[.string q.name, .bool q.exp, .slice QA l2.length qc, .int .i64 q.locals, .int .i64 q.result, .slice CA q.code.length cc] 47 (0,0)),mcB mb c1 (.slice (some ⟨pb,po,none⟩) procs.length pc) c3 FA bs.length fcap en v OA on ocap st ed,fx]) pkA ?_
 refine WC.loop (X:=Nat) (fun j=>[(50, .int .i64 j),(49, .int .i64 l2.length),(48, .slice A' l2.length cap'),(7, .slice A' l2.length cap'),(6, .pointer (some ⟨b1,0,none⟩)),(0, .pointer (some ⟨mb,0,none⟩)),(1, .pointer (some ⟨b,0,none⟩)),(2, .int .i64 i)]) (fun j=>G) (fun j=>[x',frB b A l1.length cap p a B m cm,x, .blk b1 (.cells #[.string q.name, .bool q.exp, .slice QA l2.length qc, .int .i64 q.locals, .int .i64 q.result, .slice CA q.code.length cc] 47 (0,0)),mcB mb c1 (.slice (some ⟨pb,po,none⟩) procs.length pc) c3 FA bs.length fcap en v OA on ocap st ed,fx]) (fun j=>l2.length - j) (fun j=>j≤l2.length∧∀k (u:V) t,k<j→l2[k]? =some u→q.params[k]? =some t→u.t=t) 0 ⟨by omega,fun k u t h=>by omega⟩ (by exact⟨rfl,rfl,rfl,rfl,rfl,rfl,rfl,rfl,trivial⟩) rfl (List.Sublist.refl _) fun j hx=>?_
 obtain⟨hj,hall⟩:=hx
 refine WC.seq ?_
 refine WC.region ?_
 refine zw.lt ?_
 refine WL.nil ?_
 refine WK.un ?_
 refine WC.seq ?_
 refine WC.cond rfl (fun hc2=>?_) (fun hc2=>?_)
 ·-- yes
  have hlt:j<l2.length:=by have h:=hc2;simp at h;omega
  obtain⟨u,hu⟩:∃u,l2[j]? =some u:=⟨_,List.getElem?_eq_getElem hlt⟩
  obtain⟨t,ht⟩:∃t,q.params[j]? =some t:=⟨_,List.getElem?_eq_getElem (by omega)⟩
  obtain⟨qb,qo,cs,rfl,hK,hcsq⟩:=hQ j t ht
  obtain rfl:cs=[.int .i64 t]:=hK
  obtain⟨hlv,⟨h1,h2,h3,h4⟩ | ⟨b',c,rfl,rfl,h1,h2,h3⟩⟩:=hv1
  ·omega
  refine WC.skip ?_
  refine WK.un ?_
  refine WC.seq ?_
  refine WC.block ?_  -- 1
  refine WC.seq ?_
  refine WC.region ?_
  refine zw.move ?_
  refine zw.ix ?_
  refine WL.vv (Gv.loadN rfl .here (VVec.elem (A:=none) (cap:=0) (b:=0) h3 hu) rfl) ?_
  refine WL.oo (OW.alloc rfl fun b3=>?_)
  refine zw.assign ?_
  refine zw.st ?_
  refine WL.nil ?_
  refine WK.un ?_
  refine WC.draw mixed ?_
  refine za.fa 0 ?_
  refine za.ld 1 ?_
  refine za.fa 2 ?_
  refine za.ld 3 ?_
  refine za.move 4 ?_
  refine za.ix 5 ?_
  refine WA.vv 6 rfl (Gv.loadG0 rfl hcsq rfl) ?_
  refine za.eq 7 ?_
  by_cases htt:u.t=t
  ·rw [show(u.t==t)=true by simpa using htt]
   refine WA.oo 8 rfl (OW.callR rfl (Hf:=[]) (List.Perm.refl _) (need_ok G) rfl (by rintro e G' H' ⟨h,_⟩;exact⟨_,h⟩) fun v' G' H' h hg=>?_)
   obtain⟨he,rfl,rfl⟩:=h
   cases he
   refine WA.done kr ?_
   refine WK.un ?_
   refine WC.region ?_
   refine zw.add ?_
   refine zw.move ?_
   refine WL.nil ?_
   refine WK.un ?_
   exact WK.again (j+1) (by omega) ⟨by omega,fun k u' t' hk hu' ht'=>by
    rcases Nat.lt_or_ge k j with h | h
    ·exact hall k u' t' h hu' ht'
    ·obtain rfl:k=j:=by omega
     rw[hu]at hu';rw[ht]at ht';cases hu';cases ht';exact htt⟩ (by refine⟨?_,rfl,rfl,rfl,rfl,rfl,rfl,rfl,trivial⟩;show some _=some _;rw[wrap_small (by omega) (by simp at hl;omega)];rfl) rfl (by exact .cons _ (List.Sublist.refl _))
  ·rw[show(u.t==t)=false by simpa using htt]
   have hne:tys l2≠q.params:=fun h=>htt (by
    have h1:=congrArg (fun l=>l[j]?) h
    simp only[tys,List.getElem?_map,hu,ht,Option.map_some,Option.some.injEq]at h1
    exact h1)
   rw[if_pos hne]
   refine WA.oo 8 rfl (OW.call rfl (Hf:=[]) (List.Perm.refl _) (need_no _) rfl (fun v G' H' h _=>by cases h.1) (fun ch G' H' h _=>?_) (fun G' H' h=>by cases h.1))
   obtain⟨he,rfl,rfl⟩:=h
   cases he
   refine WK.un ?_
   exact QF.panicP (⟨rfl,rfl,_,Left.of b A l1.length cap p a B m cm,rfl⟩)
 ·-- no
  have hge:j=l2.length:=by have h:=hc2;simp at h;omega
  have heq:tys l2=q.params:=by
   apply List.ext_getElem?
   intro k
   rcases Nat.lt_or_ge k l2.length with hk' | hk'
   ·obtain⟨u,hu⟩:∃u,l2[k]? =some u:=⟨_,List.getElem?_eq_getElem hk'⟩
    obtain⟨t,ht⟩:∃t,q.params[k]? =some t:=⟨_,List.getElem?_eq_getElem (by omega)⟩
    rw[tys,List.getElem?_map,hu,ht,Option.map_some,hall k u t (by omega) hu ht]
   ·rw[List.getElem?_eq_none (by simpa [tys]using hk'),List.getElem?_eq_none (by omega)]
  rw[if_neg (show¬tys l2≠q.params from fun h=>h heq)]
  refine WC.exit ?_
  refine WK.un ?_
  refine WC.join (X:=Unit) (fun _=>[(7, .slice A' l2.length cap'),(0, .pointer (some ⟨mb,0,none⟩)),(1, .pointer (some ⟨b,0,none⟩)),(2, .int .i64 i)]) (fun _=>G) (fun _=>[x',frB b A l1.length cap p a B m cm,x,mcB mb c1 (.slice (some ⟨pb,po,none⟩) procs.length pc) c3 FA bs.length fcap en v OA on ocap st ed,fx]) (fun _=>¬(q.result≠0∧128≤l1.length)) ?_ fun _ hok=>?_
  ·refine WC.seq ?_
   refine WC.region ?_
   refine zw.fa ?_
   refine zw.ld ?_
   refine zw.ne ?_
   refine WL.nil ?_
   refine WK.un ?_
   refine WC.cond rfl (fun hc4=>?_) (fun hc4=>?_)
   ·-- yes
    have hr0:q.result≠0:=by simpa using hc4
    refine WC.region ?_
    refine zw.move ?_
    refine zw.nil ?_
    refine zw.fa ?_
    refine WL.oo (OW.callK rfl (high_fn G b A l1.length cap p a B m cm) rfl fun v' G' H' h hg=>?_)
    obtain⟨he,rfl,rfl⟩:=h
    cases he
    refine zw.lt ?_
    by_cases h128:128≤l1.length
    ·rw[show decide ((l1.length:Int)<128)=false by simp;omega]
     rw[if_pos ⟨hr0,h128⟩]
     refine WL.oo (OW.call rfl (Hf:=[]) (List.Perm.refl _) (need_no _) rfl (fun v G' H' h _=>by cases h.1) (fun ch G' H' h _=>?_) (fun G' H' h=>by cases h.1))
     obtain⟨he,rfl,rfl⟩:=h
     cases he
     refine WK.un ?_
     exact QF.panicP (⟨rfl,rfl,_,Left.of b A l1.length cap p a B m cm,rfl⟩)
    ·rw[show decide ((l1.length:Int)<128)=true by simp;omega]
     refine WL.oo (OW.callR rfl (Hf:=[]) (List.Perm.refl _) (need_ok G) rfl (by rintro e G' H' ⟨h,_⟩;exact⟨_,h⟩) fun v' G' H' h hg=>?_)
     obtain⟨he,rfl,rfl⟩:=h
     cases he
     refine WL.nil ?_
     refine WK.un ?_
     refine WK.pk (H':=[x',frB b A l1.length cap p a B m cm,x,mcB mb c1 (.slice (some ⟨pb,po,none⟩) procs.length pc) c3 FA bs.length fcap en v OA on ocap st ed,fx]) pkA ?_
     exact WK.meet () (fun h=>h128 h.2) (by exact⟨rfl,rfl,rfl,rfl,trivial⟩) rfl (List.Sublist.refl _)
   ·-- no
    have hr0:q.result=0:=by simpa using hc4
    refine WC.skip ?_
    refine WK.un ?_
    refine WK.pk (H':=[x',frB b A l1.length cap p a B m cm,x,mcB mb c1 (.slice (some ⟨pb,po,none⟩) procs.length pc) c3 FA bs.length fcap en v OA on ocap st ed,fx]) pkA ?_
    exact WK.meet () (fun h=>h.1 hr0) (by exact⟨rfl,rfl,rfl,rfl,trivial⟩) rfl (List.Sublist.refl _)
  rw[if_neg hok]
  refine WC.seq ?_
  refine WC.seq ?_
  refine WC.region ?_
  refine zw.move ?_
  refine zw.nil ?_
  refine zw.fa ?_
  refine zw.ld ?_
  refine zw.len ?_
  refine zw.ge ?_
  refine WL.nil ?_
  refine WK.un ?_
  refine WC.cond rfl (fun hc5=>?_) (fun hc5=>?_)
  ·-- yes
   have h64:64≤bs.length:=by have h:=hc5;simp at h;omega
   refine WC.region ?_
   refine zw.build ?_
   refine zw.iface ?_
   rw[if_pos h64]
   refine WL.oo (OW.panic rfl ?_)
   refine WK.un ?_
   exact QF.panicP ⟨rfl,rfl,_,Left.of b A l1.length cap p a B m cm,rfl⟩ pkA
  ·-- no
   have h64:¬64≤bs.length:=by have h:=hc5;simp at h;omega
   rw[if_neg h64]
   refine WC.skip ?_
   refine WK.un ?_
   refine WC.region ?_
   refine zw.move ?_
   refine zw.move ?_
   refine zw.move ?_
   refine WL.oo (OW.callK rfl (enter_fn G mb c1 c3 (some ⟨pb,po,none⟩) procs.length pc procs FA fcap en v OA on ocap st ed bs fx i q hq rfl hG hfv hbs A' cap' l2 [x'] (hv1.rds .here) (by omega) hs'.2) rfl fun v' G' H' h hg=>?_)
   obtain⟨FA',fcap',b',VA,x'',y,he,rfl,rfl,hx2,hy2⟩:=h
   cases he
   refine WL.nil ?_
   refine WK.un ?_
   exact QF.p0 (.inr rfl) rfl  (⟨rfl,FA',fcap',b',VA,x'',y,rfl,rfl,hx2,hy2,hv2⟩)
end
section
attribute [local irreducible] Tryz.prog
def lastV (v:V) (l:List V):V:=l.getLastD v
theorem lastV_take (v:V) (l:List V) (j:Nat) (u:V) (h:l[j]? =some u):lastV v (l.take (j+1))=u:=by
 rw[List.take_add_one,h];simp[lastV]
theorem PVec.cut1 {FA:Option Addr} {cap:Nat} {bs:List Nat} {b:Nat} {x:Own} (h:PVec FA cap (bs++[b]) x):PVec FA cap bs x:=by
 have e:(ptrs (bs++[b])).take (bs.length*1)=ptrs bs:=by simp[ptrs]
 have:=Vec.cut (m:=bs.length) h (by simp)
 rw[e]at this
 exact this
theorem leave_end (G:Gh) (mb:Nat) (c1 c2 c3:Value) (FA:Option Addr) (fcap:Nat) (en:Int) (v:V) (OA:Option Addr) (on ocap:Nat) (st:Int) (ed:Bool) (b:Nat) (fx:Own) (hfv:PVec FA fcap [b] fx)
  (LA:Option Addr) (lc:Nat) (l:List V) (Ha:List Own) (hr:Rds G Ha LA (vflat l)) (hll:l.length≤1000000):
  Fn Tryz.prog 213 #[.pointer (some ⟨mb,0,none⟩), .slice LA l.length lc] G (mcB mb c1 c2 c3 FA 1 fcap en v OA on ocap st ed::fx::Ha)
   fun e G' H'=>e= .returned (.tuple #[])∧G=G'∧H'=mcB mb c1 c2 c3 FA 0 fcap 1 (lastV v l) OA on ocap st true::fx::Ha∧PVec FA fcap [] fx:=by
 have hcap:=hfv.le
 have hcut:=PVec.cut1 (bs:=[]) hfv
 refine Fn.enter Tryz.func213 rfl rfl fun w0=>?_
 refine WC.seq ?_
 refine WC.draw mixed ?_
 refine za.move 0 ?_
 refine za.move 1 ?_
 refine za.nil 2 ?_
 refine za.fa 3 ?_
 refine za.move 5 ?_
 refine za.nil 6 ?_
 refine za.fa 7 ?_
 refine za.ld 8 ?_
 refine za.len 9 ?_
 refine za.sub 10 ?_
 refine za.ld 4 ?_
 rw[show IntKind.i64.wrap (((1:Nat):Int) - 1)=0 by decide]
 refine WA.pp 11 rfl (Gp.sliceTo rfl rfl (by omega) (by omega)) ?_
 refine za.nil 12 ?_
 refine za.fa 13 ?_
 refine za.st 14 ?_
 refine WA.done kr ?_
 refine WK.un ?_
 refine WC.seq ?_
 refine WC.seq ?_
 refine WC.region ?_
 refine zw.move ?_
 refine zw.nil ?_
 refine zw.fa ?_
 refine zw.ld ?_
 refine zw.len ?_
 refine zw.eq ?_
 refine WL.nil ?_
 refine WK.un ?_
 refine WC.cond_true rfl ?_
 refine WC.seq ?_
 refine WC.region ?_
 refine zw.move ?_
 refine zw.move ?_
 refine zw.nil ?_
 refine zw.fa ?_
 refine zw.st ?_
 refine zw.nil ?_
 refine zw.fa ?_
 refine zw.fa ?_
 refine zw.st ?_
 refine WL.nil ?_
 refine WK.un ?_
 refine WC.seq ?_
 refine WC.seq ?_
 refine WC.region ?_
 refine zw.move ?_
 refine zw.len ?_
 refine zw.move ?_
 refine WL.nil ?_
 refine WK.un ?_
 refine WC.block ?_  -- 0
 refine WC.pk (H':=mcB mb c1 c2 c3 FA 0 fcap 1 v OA on ocap st true::fx::Ha) pkA ?_
 refine WC.loop (X:=Nat) (fun j=>[(37, .int .i64 j),(36, .int .i64 l.length),(35, .slice LA l.length lc),(0, .pointer (some ⟨mb,0,none⟩))]) (fun j=>G) (fun j=>mcB mb c1 c2 c3 FA 0 fcap 1 (lastV v (l.take j)) OA on ocap st true::fx::Ha) (fun j=>l.length - j) (fun j=>j≤l.length) 0 (by omega) (by exact⟨rfl,rfl,rfl,rfl,trivial⟩) rfl (List.Sublist.refl _) fun j hj=>?_
 refine WC.seq ?_
 refine WC.region ?_
 refine zw.lt ?_
 refine WL.nil ?_
 refine WK.un ?_
 refine WC.seq ?_
 refine WC.cond rfl (fun hc8=>?_) (fun hc8=>?_)
 ·-- yes
  have hlt:j<l.length:=by have h:=hc8;simp at h;omega
  obtain⟨u,hu⟩:∃u,l[j]? =some u:=⟨_,List.getElem?_eq_getElem hlt⟩
  rcases hr with h0 | ⟨lb,lo,rfl,hread⟩
  ·have h:=congrArg List.length h0
   rw[vflat_length]at h;simp only[List.length_nil]at h;omega
  refine WC.skip ?_
  refine WK.un ?_
  refine WC.seq ?_
  refine WC.block ?_  -- 1
  refine WC.seq ?_
  refine WC.region ?_
  refine zw.ix ?_
  refine WL.vv (Gv.loadRN rfl hread (by repeat (first | exact List.Sublist.refl _ | exact List.nil_sublist _ | apply List.Sublist.cons)) (vflat_elem l j u hu) rfl) ?_
  refine WL.oo (OW.alloc rfl fun b9=>?_)
  refine zw.st ?_
  refine WL.nil ?_
  refine WK.un ?_
  refine WC.region ?_
  refine zw.move ?_
  refine zw.ld ?_
  refine zw.nil ?_
  refine zw.fa ?_
  refine zw.fa ?_
  refine zw.st ?_
  refine WL.nil ?_
  refine WK.un ?_
  refine WC.region ?_
  refine zw.add ?_
  refine zw.move ?_
  refine WL.nil ?_
  refine WK.un ?_
  refine WK.pk (H':=mcB mb c1 c2 c3 FA 0 fcap 1 u OA on ocap st true::fx::Ha) pkA ?_
  exact WK.again (j+1) (by omega) (show j+1≤l.length by omega) (by refine⟨?_,rfl,rfl,rfl,trivial⟩;show some _=some _;rw[wrap_small (by omega) (by omega)];rfl) rfl (by show List.Sublist (mcB mb c1 c2 c3 FA 0 fcap 1 (lastV v (l.take (j+1))) OA on ocap st true::_) _;rw[lastV_take v l j u hu];exact List.Sublist.refl _)
 ·-- no
  have hge:j=l.length:=by have h:=hc8;simp at h;omega
  subst hge
  rw[List.take_length]
  refine WC.exit ?_
  refine WK.un ?_
  refine WC.rt ?_
  exact QF.p0 (.inl rfl) rfl  (⟨rfl,rfl,rfl,hcut⟩)
theorem leave_go (G:Gh) (mb:Nat) (c1 c2 c3:Value) (FA:Option Addr) (fcap:Nat) (en:Int) (v:V) (OA:Option Addr) (on ocap:Nat) (st:Int) (ed:Bool) (bs:List Nat) (b0 b:Nat) (fx:Own) (hfv:PVec FA fcap (bs++[b0]++[b]) fx) (hbs:bs.length≤1000000)
  (A:Option Addr) (cap:Nat) (p a:Int) (B:Option Addr) (m cm:Nat) (l0:List V) (x:Own) (hv:VVec A cap l0 x)
  (LA:Option Addr) (lc:Nat) (l:List V) (Ha:List Own) (hr:Rds G Ha LA (vflat l)) (hll:l0.length+l.length≤1000000):
  Fn Tryz.prog 213 #[.pointer (some ⟨mb,0,none⟩), .slice LA l.length lc] G (mcB mb c1 c2 c3 FA (bs++[b0]++[b]).length fcap en v OA on ocap st ed::fx::frB b0 A l0.length cap p a B m cm::x::Ha)
   fun e G' H'=>∃A' cap' x',e= .returned (.tuple #[])∧G=G'∧H'=mcB mb c1 c2 c3 FA (bs++[b0]).length fcap en v OA on ocap st ed::fx::frB b0 A' (l0++l).length cap' p a B m cm::x'::Ha∧PVec FA fcap (bs++[b0]) fx∧VVec A' cap' (l0++l) x':=by
 have hcap:=hfv.le
 have hcut:=PVec.cut1 hfv
 have e0:(bs++[b0]++[b]).length=bs.length+2:=by simp
 have e1:(bs++[b0]).length=bs.length+1:=by simp
 rw[e0]at hcap
 refine Fn.enter Tryz.func213 rfl rfl fun w0=>?_
 refine WC.seq ?_
 refine WC.draw mixed ?_
 refine za.move 0 ?_
 refine za.move 1 ?_
 refine za.nil 2 ?_
 refine za.fa 3 ?_
 refine za.move 5 ?_
 refine za.nil 6 ?_
 refine za.fa 7 ?_
 refine za.ld 8 ?_
 refine za.len 9 ?_
 refine za.sub 10 ?_
 refine za.ld 4 ?_
 rw[show IntKind.i64.wrap (((bs++[b0]++[b]).length:Int) - 1)=((bs++[b0]).length:Int) by rw[e0,e1,wrap_small (by omega) (by omega)];omega]
 refine WA.pp 11 rfl (Gp.sliceTo rfl rfl (by omega) (by omega)) ?_
 rw[Int.toNat_natCast]
 refine za.nil 12 ?_
 refine za.fa 13 ?_
 refine za.st 14 ?_
 refine WA.done kr ?_
 refine WK.un ?_
 refine WC.seq ?_
 refine WC.seq ?_
 refine WC.region ?_
 refine zw.move ?_
 refine zw.nil ?_
 refine zw.fa ?_
 refine zw.ld ?_
 refine zw.len ?_
 refine zw.eq ?_
 refine WL.nil ?_
 refine WK.un ?_
 rw[show((((bs++[b0]).length:Nat):Int)==0)=false by rw[e1];simp;omega]
 refine WC.cond_false rfl ?_
 refine WC.skip ?_
 refine WK.un ?_
 refine WC.seq ?_
 refine WC.region ?_
 refine zw.move ?_
 refine zw.len ?_
 refine zw.move ?_
 refine WL.nil ?_
 refine WK.un ?_
 refine WC.block ?_  -- 2
 refine WC.pk (H':=mcB mb c1 c2 c3 FA (bs++[b0]).length fcap en v OA on ocap st ed::fx::frB b0 A l0.length cap p a B m cm::x::Ha) pkA ?_
 refine WC.loop (X:=Nat×Option Addr×Nat×Own) (fun j=>[(49, .int .i64 j.1),(48, .int .i64 l.length),(47, .slice LA l.length lc),(0, .pointer (some ⟨mb,0,none⟩))]) (fun j=>G) (fun j=>mcB mb c1 c2 c3 FA (bs++[b0]).length fcap en v OA on ocap st ed::fx::frB b0 j.2.1 (l0++l.take j.1).length j.2.2.1 p a B m cm::j.2.2.2::Ha) (fun j=>l.length - j.1) (fun j=>j.1≤l.length∧VVec j.2.1 j.2.2.1 (l0++l.take j.1) j.2.2.2) (0,A,cap,x) ⟨by simp,by simpa using hv⟩ (by exact⟨rfl,rfl,rfl,rfl,trivial⟩) rfl (by show List.Sublist (_::_::frB b0 A (l0++l.take 0).length cap p a B m cm::_) _;rw[List.take_zero,List.append_nil];exact List.Sublist.refl _) fun j hj=>?_
 obtain⟨j,A1,cap1,x1⟩:=j
 obtain⟨hj,hv1⟩:=hj
 simp only at hj hv1
 refine WC.seq ?_
 refine WC.region ?_
 refine zw.lt ?_
 refine WL.nil ?_
 refine WK.un ?_
 refine WC.seq ?_
 refine WC.cond rfl (fun hc8=>?_) (fun hc8=>?_)
 ·-- yes
  have hlt:j<l.length:=by have h:=hc8;simp at h;omega
  obtain⟨u,hu⟩:∃u,l[j]? =some u:=⟨_,List.getElem?_eq_getElem hlt⟩
  have e2:l0++l.take (j+1)=(l0++l.take j)++[u]:=by rw[List.take_add_one,hu];simp
  have e3:(l0++l.take (j+1)).length=(l0++l.take j).length+1:=by rw[e2,List.length_append (bs:=[u])];rfl
  have e4:vflat (l0++l.take (j+1))=vflat (l0++l.take j)++vcells u:=by rw[e2,vflat_append];simp[vflat]
  rcases hr with h0 | ⟨lb,lo,rfl,hread⟩
  ·have h:=congrArg List.length h0
   rw[vflat_length]at h;simp only[List.length_nil]at h;omega
  refine WC.skip ?_
  refine WK.un ?_
  refine WC.seq ?_
  refine WC.block ?_  -- 3
  refine WC.seq ?_
  refine WC.region ?_
  refine zw.ix ?_
  refine WL.vv (Gv.loadRN rfl hread (by repeat (first | exact List.Sublist.refl _ | exact List.nil_sublist _ | apply List.Sublist.cons)) (vflat_elem l j u hu) rfl) ?_
  refine WL.oo (OW.alloc rfl fun b11=>?_)
  refine zw.st ?_
  refine WL.nil ?_
  refine WK.un ?_
  refine WC.drawS (Hs:=[.blk b11 (.cells (vcells u).toArray 52 (0,0))]) mixed pkA ?_
  refine zb.move 0 ?_
  refine WB.vv 4 rfl (Gv.loadN rfl .here rfl rfl) ?_
  refine WB.oo 1 rfl (OW.callK rfl (top_fn G mb c1 c2 c3 FA fcap en v OA on ocap st ed bs b0 fx hcut (by omega)) rfl fun v' G' H' h hg=>?_)
  obtain⟨he,rfl,rfl⟩:=h
  cases he
  refine⟨fun w hw=>hw.pk pkA,?_⟩
  refine zb.nil 2 ?_
  refine zb.fa 3 ?_
  refine WB.oo 5 rfl (OW.callK rfl (push_fn G b0 A1 (l0++l.take j).length cap1 p a B m cm (vflat (l0++l.take j)) x1 u hv1 (by simp;omega)) rfl fun v' G' H' h hg=>?_)
  obtain⟨A2,cap2,x2,he,rfl,rfl,hv2⟩:=h
  cases he
  refine⟨fun w hw=>hw.pk pkA,?_⟩
  refine WB.done kr ?_
  refine WK.un ?_
  refine WC.region ?_
  refine zw.add ?_
  refine zw.move ?_
  refine WL.nil ?_
  refine WK.un ?_
  refine WK.pk (H':=mcB mb c1 c2 c3 FA (bs++[b0]).length fcap en v OA on ocap st ed::fx::frB b0 A2 ((l0++l.take j).length+1) cap2 p a B m cm::x2::Ha) pkA ?_
  exact WK.again (j+1,A2,cap2,x2) (show l.length - (j+1)<l.length - j by omega) ⟨show j+1≤l.length by omega,by show VVec A2 cap2 (l0++l.take (j+1)) x2;unfold VVec;rw[e3,e4];exact hv2⟩ (by refine⟨?_,rfl,rfl,rfl,trivial⟩;show some _=some _;rw[wrap_small (by omega) (by omega)];rfl) rfl (by show List.Sublist (_::_::frB b0 A2 (l0++l.take (j+1)).length cap2 p a B m cm::_) _;rw[e3];exact List.Sublist.refl _)
 ·-- no
  have hge:j=l.length:=by have h:=hc8;simp at h;omega
  subst hge
  refine WC.exit ?_
  refine WK.un ?_
  rw[List.take_length]at hv1
  refine WK.pk (H':=mcB mb c1 c2 c3 FA (bs++[b0]).length fcap en v OA on ocap st ed::fx::frB b0 A1 (l0++l.take l.length).length cap1 p a B m cm::x1::Ha) pkA ?_
  rw[List.take_length]
  refine WK.un ?_
  exact QF.p0 (.inr rfl) rfl  (⟨A1,cap1,x1,rfl,rfl,rfl,hcut,hv1⟩)
end
section
section
variable {L:List (Nat×Value)} {d:Option Tmp} {ty:TypeId} {pos:String} {af:Array Edge} {gu:Option (Nat×Bool)}
end
attribute [local irreducible] Tryz.prog
theorem typed_no (G:Gh) (mv:Value) (b:Nat) (A:Option Addr) (n cap:Nat) (p a:Int) (B:Option Addr) (m cm:Nat) (k t:Int) (hb:(n:Int)<k):
  Fn Tryz.prog 196 #[mv, .pointer (some ⟨b,0,none⟩), .int .i64 k, .int .i64 t] G [frB b A n cap p a B m cm]
   fun e G' H'=>e=halted 6∧G=G'∧Left b H':=by
 refine Fn.enter Tryz.func196 rfl rfl fun w0=>?_
 refine WC.seq ?_
 refine WC.region ?_
 refine zw.assign ?_
 refine WL.nil ?_
 refine WK.un ?_
 refine WC.seq ?_
 refine WC.region ?_
 refine zw.move ?_
 refine zw.move ?_
 refine zw.move ?_
 refine WL.oo (OW.call rfl (Pk.perm pkA) (take_no G mv b A n cap p a B m cm k hb) rfl (fun v' G' H' h hg=>by cases h.1) (fun ch G' H' h hg=>?_) (fun G' H' h=>by repeat (first | (cases h.1;done) | (cases h;done) | (obtain⟨_,h⟩:=h) | (rcases h with h | h))))
 obtain⟨he,rfl,c,hc,rfl⟩:=h
 cases he
 refine WK.un ?_
 exact QF.panicP ⟨rfl,rfl,c,hc,rfl⟩ pkA
theorem ordered_no (G:Gh) (mv:Value) (b:Nat) (A:Option Addr) (n cap:Nat) (p a:Int) (B:Option Addr) (m cm:Nat) (c:Int) (hb:n<2):
  Fn Tryz.prog 216 #[mv, .pointer (some ⟨b,0,none⟩), .int .i64 c] G [frB b A n cap p a B m cm]
   fun e G' H'=>e=halted 6∧G=G'∧Left b H':=by
 refine Fn.enter Tryz.func216 rfl rfl fun w0=>?_
 refine WC.seq ?_
 refine WC.region ?_
 refine zw.assign ?_
 refine WL.nil ?_
 refine WK.un ?_
 refine WC.seq ?_
 refine WC.region ?_
 refine zw.move ?_
 refine zw.move ?_
 refine WL.oo (OW.call rfl (Pk.perm pkA) (take_no G mv b A n cap p a B m cm 2 (by omega)) rfl (fun v' G' H' h hg=>by cases h.1) (fun ch G' H' h hg=>?_) (fun G' H' h=>by repeat (first | (cases h.1;done) | (cases h;done) | (obtain⟨_,h⟩:=h) | (rcases h with h | h))))
 obtain⟨he,rfl,c,hc,rfl⟩:=h
 cases he
 refine WK.un ?_
 exact QF.panicP ⟨rfl,rfl,c,hc,rfl⟩ pkA
theorem WK.swap {K:Act→World→Prop} {cx:Cx} {L:List (Nat×Value)} {G:Gh} {H F:List Own} (h:WK K cx L G (F++H)):WK K cx L G (H++F):=fun a w st=>h a w (st.perm List.perm_append_comm)
theorem VVec.snoc {A:Option Addr} {cap:Nat} {l:List V} {v:V} {x:Own} (h:Vec 52 4 A (l.length+1) cap (vflat l++vcells v) x):VVec A cap (l++[v]) x:=by
 have e1:vflat (l++[v])=vflat l++vcells v:=by rw[vflat_append];simp[vflat]
 have e2:(l++[v]).length=l.length+1:=by simp
 unfold VVec;rw[e1,e2];exact h
theorem pushV_fn (G:Gh) (b:Nat) (A:Option Addr) (cap:Nat) (p a:Int) (B:Option Addr) (m cm:Nat) (l:List V) (x:Own) (v:V) (hv:VVec A cap l x) (hb:l.length≤1000000000):
  Fn Tryz.prog 211 #[.pointer (some ⟨b,0,none⟩), .agg #[.int .i64 v.t, .int .i64 v.i, .bool v.b, .string v.s]] G [frB b A l.length cap p a B m cm,x]
   fun e G' H'=>∃A' cap' x',e= .returned (.tuple #[])∧G=G'∧H'=[frB b A' (l++[v]).length cap' p a B m cm,x']∧VVec A' cap' (l++[v]) x':=
 (push_fn G b A l.length cap p a B m cm (vflat l) x v hv hb).mono fun e G' H' ⟨A',cap',x',h1,h2,h3,h4⟩=>⟨A',cap',x',h1,h2,by rw[h3,List.length_append];rfl,VVec.snoc h4⟩
def pop1 (l:List V):Option (List V×V):=match l.reverse with
 | []=>none
 | v::r=>some (r.reverse,v)
def pop2 (l:List V):Option (List V×V×V):=match l.reverse with
 | v::u::r=>some (r.reverse,u,v)
 | _=>none
theorem pop1_snoc (r:List V) (v:V):pop1 (r++[v])=some (r,v):=by simp[pop1]
theorem pop2_snoc (r:List V) (u v:V):pop2 (r++[u,v])=some (r,u,v):=by simp[pop2]
theorem pop1_none {l:List V} (h:l.length<1):pop1 l=none:=by
 have:l=[]:=List.eq_nil_of_length_eq_zero (by omega)
 subst this;rfl
theorem pop2_none {l:List V} (h:l.length<2):pop2 l=none:=by
 match l,h with
 | [],_=>rfl
 | [v],_=>rfl
theorem one_or {l:List V} :l.length<1∨∃r v,l=r++[v]:=by
 rcases Nat.lt_or_ge l.length 1 with h | h
 ·exact .inl h
 ·obtain⟨l1,l2,rfl,h2,_,_⟩:=cut_list l 1 h
  match l2,h2 with
  | [v],_=>exact .inr ⟨l1,v,rfl⟩
theorem two_or {l:List V} :l.length<2∨∃r u v,l=r++[u,v]:=by
 rcases Nat.lt_or_ge l.length 2 with h | h
 ·exact .inl h
 ·obtain⟨l1,l2,rfl,h2,_,_⟩:=cut_list l 2 h
  match l2,h2 with
  | [u,v],_=>exact .inr ⟨l1,u,v,rfl⟩
instance (u v:V):Decidable (ordOK u v):=by unfold ordOK;infer_instance
inductive PR where
 | halt (n:Int)
 | set (l:List V)
 | print (l:List V) (v:V)
 | leave (l:List V) (g:List V)
def truthV (b:Bool):V:=⟨2,0,b,⟨#[]⟩⟩
def numV (n:Int):V:=⟨1,n,false,⟨#[]⟩⟩
def textV (s:ByteArray):V:=⟨3,0,false,s⟩
def ty1 (l:List V) (t:Int):Option (List V×V):=match pop1 l with
 | none=>none
 | some (r,v)=>if v.t=t then some (r,v)else none
def ty2 (l:List V) (t:Int):Option (List V×V×V):=match pop2 l with
 | none=>none
 | some (r,u,v)=>if u.t=t∧v.t=t then some (r,u,v)else none
def on1 (l:List V) (t:Int) (f:List V→V→PR):PR:=match ty1 l t with
 | none=> .halt 6
 | some (r,v)=>f r v
def on2 (l:List V) (t:Int) (f:List V→V→V→PR):PR:=match ty2 l t with
 | none=> .halt 6
 | some (r,u,v)=>f r u v
theorem pop1_some {l r:List V} {v:V} (h:pop1 l=some (r,v)):l=r++[v]:=by
 rcases@one_or l with h1 | ⟨r',v',rfl⟩
 ·rw[pop1_none h1]at h;cases h
 ·rw[pop1_snoc]at h;cases h;rfl
theorem pop2_some {l r:List V} {u v:V} (h:pop2 l=some (r,u,v)):l=r++[u,v]:=by
 rcases@two_or l with h1 | ⟨r',u',v',rfl⟩
 ·rw[pop2_none h1]at h;cases h
 ·rw[pop2_snoc]at h;cases h;rfl
theorem pop1_len {l:List V} (h:pop1 l=none):l.length<1:=by
 rcases@one_or l with h1 | ⟨r',v',rfl⟩
 ·exact h1
 ·rw[pop1_snoc]at h;cases h
theorem pop2_len {l:List V} (h:pop2 l=none):l.length<2:=by
 rcases@two_or l with h1 | ⟨r',u',v',rfl⟩
 ·exact h1
 ·rw[pop2_snoc]at h;cases h
theorem ty1_some {l r:List V} {t:Int} {v:V} (h:ty1 l t=some (r,v)):l=r++[v]∧v.t=t:=by
 unfold ty1 at h
 split at h
 ·cases h
 ·rename_i r' v' hp
  split at h
  ·cases h;exact⟨pop1_some hp, ‹_›⟩
  ·cases h
theorem ty2_some {l r:List V} {t:Int} {u v:V} (h:ty2 l t=some (r,u,v)):l=r++[u,v]∧u.t=t∧v.t=t:=by
 unfold ty2 at h
 split at h
 ·cases h
 ·rename_i r' u' v' hp
  split at h
  ·cases h;exact⟨pop2_some hp, ‹_›⟩
  ·cases h
theorem ty1_none {l:List V} {t:Int} (h:ty1 l t=none):l.length<1∨∃r v,l=r++[v]∧v.t≠t:=by
 rcases@one_or l with h1 | ⟨r',v',rfl⟩
 ·exact .inl h1
 ·refine .inr ⟨r',v',rfl,fun hv=>?_⟩
  rw[ty1,pop1_snoc]at h;simp[hv]at h
theorem ty2_none {l:List V} {t:Int} (h:ty2 l t=none):l.length<2∨∃r u v,l=r++[u,v]∧¬(u.t=t∧v.t=t):=by
 rcases@two_or l with h1 | ⟨r',u',v',rfl⟩
 ·exact .inl h1
 ·refine .inr ⟨r',u',v',rfl,fun hv=>?_⟩
  rw[ty2,pop2_snoc]at h;simp[hv]at h
theorem Ex.sub {H H':List Own} {w:World} (h:Ex (covs H) w) (hs:∀x∈H',x∈H):Ex (covs H') w:=fun q hq=>⟨(h q hq).1,fun o ⟨x,hx,hc⟩=>(h q hq).2 o ⟨x,hs x hx,hc⟩⟩
theorem Fn.pk {P:Program} {f:FuncId} {vs:Array Value} {G:Gh} {H H' F:List Own} {R:Ending→Gh→List Own→Prop} (h:Fn P f vs G H' R) (p:Pk H H' F):Fn P f vs G H fun e G' H1=>∃H2,R e G' H2∧H1=H2++F:=by
 intro w hs hx
 have hs':=hs.perm p.perm
 refine(h w (hs'.sub (List.sublist_append_left _ _)) (hx.sub fun y hy=>p.perm.mem_iff.2 (List.mem_append_left _ hy))).mono fun e w' ⟨G',H2,r,s,st⟩=>⟨G',H2++F,⟨H2,r,rfl⟩,hs'.frame s st,?_⟩
 have:=st.frame (F:=F)
 exact⟨this.size,fun b hb=>(this.keep b hb).mono fun o ⟨x,hx,hc⟩=>⟨x,p.perm.mem_iff.2 hx,hc⟩,this.gle,fun b o v e=>(this.gnew b o v e).imp_right fun h=>h.imp_left fun⟨x,hx,hc⟩=>⟨x,p.perm.mem_iff.2 hx,hc⟩,fun x hx b o hc=>(this.own x hx b o hc).imp_left fun⟨y,hy,hc⟩=>⟨y,p.perm.mem_iff.2 hy,hc⟩,this.weq⟩
theorem Fn.drop {P:Program} {f:FuncId} {vs:Array Value} {G:Gh} {H:List Own} {R R':Ending→Gh→List Own→Prop} (h:Fn P f vs G H R) (hr:∀e G' H',R e G' H'→∃H2,H2.Sublist H'∧R' e G' H2):Fn P f vs G H R':=
 fun w hs hx=>(h w hs hx).mono fun e w' ⟨G',H',r,s,st⟩=>by
  obtain⟨H2,h1,h2⟩:=hr _ _ _ r
  exact⟨G',H2,h2,s.sub h1,⟨st.size,st.keep,st.gle,st.gnew,fun x hx=>st.own x (h1.subset hx),st.weq⟩⟩
section
variable (G:Gh) (mv:Value) (b:Nat) (A:Option Addr) (cap:Nat) (p a:Int) (B:Option Addr) (m cm:Nat) (x:Own)
theorem take1_ok (r:List V) (v:V) (hv:VVec A cap (r++[v]) x) (hb:(r++[v]).length≤1000000):
  Fn Tryz.prog 195 #[mv, .pointer (some ⟨b,0,none⟩), .int .i64 1] G [frB b A (r++[v]).length cap p a B m cm,x]
   fun e G' H'=>∃A' cap' x',e= .returned (.slice A' 1 cap')∧G=G'∧H'=[x',frB b A r.length cap p a B m cm,x]∧VVec A' cap' [v] x'∧VVec A cap r x:=
 take_ok G mv b A cap p a B m cm r [v] x hv (by simp at hb⊢;omega)
theorem take2_ok (r:List V) (u v:V) (hv:VVec A cap (r++[u,v]) x) (hb:(r++[u,v]).length≤1000000):
  Fn Tryz.prog 195 #[mv, .pointer (some ⟨b,0,none⟩), .int .i64 2] G [frB b A (r++[u,v]).length cap p a B m cm,x]
   fun e G' H'=>∃A' cap' x',e= .returned (.slice A' 2 cap')∧G=G'∧H'=[x',frB b A r.length cap p a B m cm,x]∧VVec A' cap' [u,v] x'∧VVec A cap r x:=
 take_ok G mv b A cap p a B m cm r [u,v] x hv (by simp at hb⊢;omega)
theorem typed1_ok (r:List V) (v:V) (t:Int) (ht:v.t=t) (hv:VVec A cap (r++[v]) x) (hb:(r++[v]).length≤1000000):
  Fn Tryz.prog 196 #[mv, .pointer (some ⟨b,0,none⟩), .int .i64 1, .int .i64 t] G [frB b A (r++[v]).length cap p a B m cm,x]
   fun e G' H'=>∃A' cap' x',e= .returned (.slice A' 1 cap')∧G=G'∧H'=[x',frB b A r.length cap p a B m cm,x]∧VVec A' cap' [v] x'∧VVec A cap r x:=
 (typed_fnQ G mv b A cap p a B m cm r [v] x t hv (by simp at hb⊢;omega)).mono fun e G' H' ⟨h1,h2⟩=>by
  rcases h2 with⟨A',cap',x',h3,_,h5,h6,h7⟩ | ⟨_,⟨u,hu,hne⟩,_⟩
  ·exact⟨A',cap',x',h3,h1,h5,h6,h7⟩
  ·rw[List.mem_singleton]at hu;subst hu;exact absurd ht hne
theorem typed2_ok (r:List V) (u v:V) (t:Int) (hu:u.t=t) (ht:v.t=t) (hv:VVec A cap (r++[u,v]) x) (hb:(r++[u,v]).length≤1000000):
  Fn Tryz.prog 196 #[mv, .pointer (some ⟨b,0,none⟩), .int .i64 2, .int .i64 t] G [frB b A (r++[u,v]).length cap p a B m cm,x]
   fun e G' H'=>∃A' cap' x',e= .returned (.slice A' 2 cap')∧G=G'∧H'=[x',frB b A r.length cap p a B m cm,x]∧VVec A' cap' [u,v] x'∧VVec A cap r x:=
 (typed_fnQ G mv b A cap p a B m cm r [u,v] x t hv (by simp at hb⊢;omega)).mono fun e G' H' ⟨h1,h2⟩=>by
  rcases h2 with⟨A',cap',x',h3,_,h5,h6,h7⟩ | ⟨_,⟨y,hy,hne⟩,_⟩
  ·exact⟨A',cap',x',h3,h1,h5,h6,h7⟩
  ·simp only[List.mem_cons,List.not_mem_nil,or_false]at hy
   rcases hy with rfl | rfl
   ·exact absurd hu hne
   ·exact absurd ht hne
theorem typed1_no (l:List V) (t:Int) (hn:ty1 l t=none) (hv:VVec A cap l x) (hb:l.length≤1000000):
  Fn Tryz.prog 196 #[mv, .pointer (some ⟨b,0,none⟩), .int .i64 1, .int .i64 t] G [frB b A l.length cap p a B m cm,x]
   fun e G' H'=>e=halted 6∧G=G'∧Left b H':=by
 rcases ty1_none hn with h | ⟨r,v,rfl,hne⟩
 ·refine((typed_no G mv b A l.length cap p a B m cm 1 t (by omega)).pk (F:=[x]) (.cons .here .nil)).drop fun e G' H' ⟨H2,⟨h1,h2,h3⟩,h4⟩=>⟨H2,by rw[h4];exact List.sublist_append_left _ _,h1,h2,h3⟩
 ·refine(typed_fnQ G mv b A cap p a B m cm r [v] x t hv (by simp at hb⊢;omega)).mono fun e G' H' ⟨h1,h2⟩=>?_
  rcases h2 with⟨A',cap',x',h3,h4,_⟩ | ⟨h3,_,h4⟩
  ·exact absurd (h4 v (by simp)) hne
  ·exact⟨h3,h1,h4⟩
theorem typed2_no (l:List V) (t:Int) (hn:ty2 l t=none) (hv:VVec A cap l x) (hb:l.length≤1000000):
  Fn Tryz.prog 196 #[mv, .pointer (some ⟨b,0,none⟩), .int .i64 2, .int .i64 t] G [frB b A l.length cap p a B m cm,x]
   fun e G' H'=>e=halted 6∧G=G'∧Left b H':=by
 rcases ty2_none hn with h | ⟨r,u,v,rfl,hne⟩
 ·refine((typed_no G mv b A l.length cap p a B m cm 2 t (by omega)).pk (F:=[x]) (.cons .here .nil)).drop fun e G' H' ⟨H2,⟨h1,h2,h3⟩,h4⟩=>⟨H2,by rw[h4];exact List.sublist_append_left _ _,h1,h2,h3⟩
 ·refine(typed_fnQ G mv b A cap p a B m cm r [u,v] x t hv (by simp at hb⊢;omega)).mono fun e G' H' ⟨h1,h2⟩=>?_
  rcases h2 with⟨A',cap',x',h3,h4,_⟩ | ⟨h3,_,h4⟩
  ·exact absurd ⟨h4 u (by simp),h4 v (by simp)⟩ hne
  ·exact⟨h3,h1,h4⟩
theorem ordered_ok (r:List V) (u v:V) (c:Int) (hk:ordOK u v) (hv:VVec A cap (r++[u,v]) x) (hb:(r++[u,v]).length≤1000000):
  Fn Tryz.prog 216 #[mv, .pointer (some ⟨b,0,none⟩), .int .i64 c] G [frB b A (r++[u,v]).length cap p a B m cm,x]
   fun e G' H'=>e= .returned (.bool (ordS c u v))∧G=G'∧H'=[frB b A r.length cap p a B m cm,x]∧VVec A cap r x:=by
 refine(ordered_fn G mv b A cap p a B m cm r u v x c hv (by simp at hb;omega)).mono fun e G' H' ⟨h1,h2⟩=>?_
 rcases h2 with⟨h3,_,h5,h6⟩ | ⟨_,h,_⟩
 ·exact⟨h3,h1,h5,h6⟩
 ·exact absurd hk h
theorem ordered_bad (l:List V) (c:Int) (hn:∀r u v,l=r++[u,v]→¬ordOK u v) (hv:VVec A cap l x) (hb:l.length≤1000000):
  Fn Tryz.prog 216 #[mv, .pointer (some ⟨b,0,none⟩), .int .i64 c] G [frB b A l.length cap p a B m cm,x]
   fun e G' H'=>e=halted 6∧G=G'∧Left b H':=by
 rcases@two_or l with h | ⟨r,u,v,rfl⟩
 ·exact((ordered_no G mv b A l.length cap p a B m cm c h).pk (F:=[x]) (.cons .here .nil)).drop fun e G' H' ⟨H2,⟨h1,h2,h3⟩,h4⟩=>⟨H2,by rw[h4];exact List.sublist_append_left _ _,h1,h2,h3⟩
 ·refine(ordered_fn G mv b A cap p a B m cm r u v x c hv (by simp at hb;omega)).mono fun e G' H' ⟨h1,h2⟩=>?_
  rcases h2 with⟨_,h,_⟩ | ⟨h3,_,h4⟩
  ·exact absurd h (hn r u v rfl)
  ·exact⟨h3,h1,h4⟩
end
def onA (l:List V) (f:List V→V→PR):PR:=match pop1 l with
 | none=> .halt 6
 | some (r,v)=>f r v
def onB (l:List V) (f:List V→V→V→PR):PR:=match pop2 l with
 | none=> .halt 6
 | some (r,u,v)=>f r u v
def recR (c:Int) (r:List V) (u v:V):PR:=match reckonS c u.i v.i with
 | none=> .halt 2
 | some n=> .set (r++[numV n])
def plainR (res:Int) (l:List V) (c:Int) (outn:Nat):PR:=
 if c=4 then onA l fun r _=> .set r
 else if c=9 then if res=0 then .leave l []else .halt 6
 else if c=10 then if res=0 then .halt 6 else on1 l res fun r v=> .leave r [v]
 else if c=11 then onA l fun r v=>if 4096≤outn then .halt 7 else .print r v
 else if c=12 then onB l fun r u v=>if u.t=v.t then .set (r++[truthV (decide (u=v))])else .halt 6
 else if c=13 then onB l fun r u v=>if u.t=v.t then .set (r++[truthV (!decide (u=v))])else .halt 6
 else if c=25 then on1 l 2 fun r v=> .set (r++[truthV (!v.b)])
 else if c=26 then on1 l 3 fun r v=> .set (r++[numV v.s.size])
 else if c=20 then on2 l 3 fun r u v=>if 4096<u.s.size+v.s.size then .halt 3 else .set (r++[textV (u.s++v.s)])
 else if c=14∨c=15∨c=16∨c=17 then onB l fun r u v=>if ordOK u v then .set (r++[truthV (ordS c u v)])else .halt 6
 else if c=24 then on1 l 1 fun r v=> .set (r++[numV (IntKind.i64.wrap (0 - v.i))])
 else if c=18∨c=19∨c=21∨c=22∨c=23 then on2 l 1 (recR c)
 else .halt 6
end
section
attribute [local irreducible] Tryz.prog
def Lv (G:Gh) (mb:Nat) (M fx:Own) (Hx:List Own) (RL:List V→List Own→Prop):Prop:=
 (Fn Tryz.prog 213 #[.pointer (some ⟨mb,0,none⟩), .slice none 0 0] G (M::fx::Hx) fun e G' H'=>e= .returned (.tuple #[])∧G=G'∧RL [] H')∧
 ∀A' cap' y v,VVec A' cap' [v] y→Fn Tryz.prog 213 #[.pointer (some ⟨mb,0,none⟩), .slice A' 1 cap'] G (y::M::fx::Hx) fun e G' H'=>e= .returned (.tuple #[])∧G=G'∧RL [v] H'
def PlR (G:Gh) (mb:Nat) (c1 c2 c3:Value) (FA:Option Addr) (fn fcap:Nat) (en:Int) (w:V) (OA:Option Addr) (ocap:Nat) (st:Int) (ed:Bool) (out:List V) (ox fx:Own) (Hx:List Own) (RL:List V→List Own→Prop)
  (b:Nat) (A:Option Addr) (cap:Nat) (p a:Int) (B:Option Addr) (m cm:Nat) (x:Own) (r:PR):Ending→Gh→List Own→Prop:=fun e G' H'=>G=G'∧match r with
 | .halt k=>e=halted k∧∃y,Left b [y]∧H'=mcB mb c1 c2 c3 FA fn fcap en w OA out.length ocap st ed::ox::y::fx::Hx
 | .set r=>∃A' cap' x',e= .returned (.tuple #[])∧VVec A' cap' r x'∧H'=mcB mb c1 c2 c3 FA fn fcap en w OA out.length ocap st ed::ox::frB b A' r.length cap' p a B m cm::x'::fx::Hx
 | .print r v=>∃OA' ocap' ox',e= .returned (.tuple #[])∧VVec OA' ocap' (out++[v]) ox'∧VVec A cap r x∧H'=mcB mb c1 c2 c3 FA fn fcap en w OA' (out++[v]).length ocap' st ed::ox'::frB b A r.length cap p a B m cm::x::fx::Hx
 | .leave r g=>∃H1,e= .returned (.tuple #[])∧VVec A cap r x∧RL g H1∧H'=ox::frB b A r.length cap p a B m cm::x::H1
section
variable (G:Gh) (mb:Nat) (c1 c2 c3:Value) (FA:Option Addr) (fn fcap:Nat) (en:Int) (w:V) (OA:Option Addr) (ocap:Nat) (st:Int) (ed:Bool) (out:List V) (ox fx:Own) (Hx:List Own) (RL:List V→List Own→Prop)
  (b:Nat) (A:Option Addr) (cap:Nat) (p a:Int) (B:Option Addr) (m cm:Nat) (x:Own) (l:List V) (nm:ByteArray) (ex:Bool) (qv cv:Value) (lo res:Int)
theorem plain_drop (hv:VVec A cap l x) (hl:l.length≤1000000):Fn Tryz.prog 198 #[.pointer (some ⟨mb,0,none⟩), .pointer (some ⟨b,0,none⟩), .agg #[.string nm, .bool ex,qv, .int .i64 lo, .int .i64 res,cv], .int .i64 4] G
  (mcB mb c1 c2 c3 FA fn fcap en w OA out.length ocap st ed::ox::frB b A l.length cap p a B m cm::x::fx::Hx) (PlR G mb c1 c2 c3 FA fn fcap en w OA ocap st ed out ox fx Hx RL b A cap p a B m cm x (plainR res l 4 out.length)):=by
 refine Fn.enter Tryz.func198 rfl rfl fun w0=>?_
 refine WC.seq ?_
 refine WC.region ?_
 refine WL.oo (OW.box rfl rfl fun b1=>?_)
 refine WL.nil ?_
 refine WK.un ?_
 refine WC.seq ?_
 refine WC.region ?_
 refine zw.move ?_
 refine WL.nil ?_
 refine WK.un ?_
 repeat (first | refine WC.seq ?_ | refine WC.block ?_ | (refine WC.region ?_;refine WL.p (Gp.eqI rfl rfl) kr rfl ?_;refine WL.p (Gp.assign rfl) kr rfl ?_;refine WL.nil ?_;refine WK.un ?_) | refine WC.cond_true rfl ?_ | refine WC.cond_false rfl ?_ | (refine WC.skip ?_;refine WK.un ?_) | (refine WC.exit ?_;refine WK.un ?_))
 refine WC.region ?_
 refine zw.move ?_
 refine zw.move ?_
 rcases@one_or l with h1 | ⟨r,v,rfl⟩
 ·
  refine WL.oo (OW.call rfl (Pk.perm pkA) (take_no G _ b A l.length cap p a B m cm 1 (by omega)) rfl (fun v' G' H' h hg=>by cases h.1) (fun ch G' H' h hg=>?_) (fun G' H' h=>by repeat (first | (cases h.1;done) | (cases h;done) | (obtain⟨_,h⟩:=h) | (rcases h with h | h))))
  obtain⟨he,rfl,c,hc,rfl⟩:=h
  cases he
  refine WK.un ?_
  exact QF.panicP ⟨rfl,by rw[show plainR res l 4 out.length= .halt 6 by rw[plainR,if_pos rfl,onA,pop1_none h1]];exact⟨rfl,_,⟨c,hc,rfl⟩,rfl⟩⟩ pkA
 ·
  refine WL.oo (OW.callK rfl (take_ok G _ b A cap p a B m cm r [v] x hv (by simp at hl⊢;omega)) rfl fun v' G' H' h hg=>?_)
  obtain⟨A',cap',x',he,rfl,rfl,hv1,hv2⟩:=h
  cases he
  refine WL.nil ?_
  refine WK.un ?_
  refine WC.exit ?_
  refine WK.un ?_
  refine WK.un ?_
  exact QF.p0 (.inr rfl) rfl  (⟨rfl,by rw[show plainR res (r++[v]) 4 out.length= .set r by rw[plainR,if_pos rfl,onA,pop1_snoc]];exact⟨A,cap,x,rfl,hv2,rfl⟩⟩)
theorem plain_return (hv:VVec A cap l x) (hl:l.length≤1000000) (hL:Lv G mb (mcB mb c1 c2 c3 FA fn fcap en w OA out.length ocap st ed) fx Hx RL):Fn Tryz.prog 198 #[.pointer (some ⟨mb,0,none⟩), .pointer (some ⟨b,0,none⟩), .agg #[.string nm, .bool ex,qv, .int .i64 lo, .int .i64 res,cv], .int .i64 9] G
  (mcB mb c1 c2 c3 FA fn fcap en w OA out.length ocap st ed::ox::frB b A l.length cap p a B m cm::x::fx::Hx) (PlR G mb c1 c2 c3 FA fn fcap en w OA ocap st ed out ox fx Hx RL b A cap p a B m cm x (plainR res l 9 out.length)):=by
 refine Fn.enter Tryz.func198 rfl rfl fun w0=>?_
 refine WC.seq ?_
 refine WC.region ?_
 refine WL.oo (OW.box rfl rfl fun b1=>?_)
 refine WL.nil ?_
 refine WK.un ?_
 refine WC.seq ?_
 refine WC.region ?_
 refine zw.move ?_
 refine WL.nil ?_
 refine WK.un ?_
 repeat (first | refine WC.seq ?_ | refine WC.block ?_ | (refine WC.region ?_;refine WL.p (Gp.eqI rfl rfl) kr rfl ?_;refine WL.p (Gp.assign rfl) kr rfl ?_;refine WL.nil ?_;refine WK.un ?_) | refine WC.cond_true rfl ?_ | refine WC.cond_false rfl ?_ | (refine WC.skip ?_;refine WK.un ?_) | (refine WC.exit ?_;refine WK.un ?_))
 refine WC.region ?_
 refine zw.fa ?_
 refine zw.ld ?_
 refine zw.eq ?_
 by_cases hr:res=0
 ·rw[show(res==0)=true by simpa using hr]
  refine WL.oo (OW.callR rfl (Hf:=[]) (List.Perm.refl _) (need_ok G) rfl (by rintro e G' H' ⟨h,_⟩;exact⟨_,h⟩) fun v' G' H' h hg=>?_)
  obtain⟨he,rfl,rfl⟩:=h
  cases he
  refine WL.nil ?_
  refine WK.un ?_
  refine WC.region ?_
  refine zw.move ?_
  refine WL.oo (OW.callK rfl (hL.1) rfl fun v' G' H' h hg=>?_)
  obtain⟨he,rfl,hR⟩:=h
  cases he
  refine WL.nil ?_
  refine WK.un ?_
  refine WC.exit ?_
  refine WK.un ?_
  refine WK.un ?_
  refine WK.swap ?_
  exact QF.p0 (.inr rfl) rfl ⟨rfl,by rw[show plainR res l 9 out.length= .leave l [] by rw[plainR,if_neg (by decide),if_pos rfl,if_pos hr]];exact⟨H',rfl,hv,hR,rfl⟩⟩ pkA
 ·rw[show(res==0)=false by simpa using hr]
  refine WL.oo (OW.call rfl (Hf:=[]) (List.Perm.refl _) (need_no _) rfl (fun v G' H' h _=>by cases h.1) (fun ch G' H' h _=>?_) (fun G' H' h=>by cases h.1))
  obtain⟨he,rfl,rfl⟩:=h
  cases he
  refine WK.un ?_
  exact QF.panicP (⟨rfl,by rw[show plainR res l 9 out.length= .halt 6 by rw[plainR,if_neg (by decide),if_pos rfl,if_neg hr]];exact⟨rfl,_,Left.of b A l.length cap p a B m cm,rfl⟩⟩)
theorem plain_give (hv:VVec A cap l x) (hl:l.length≤1000000) (hL:Lv G mb (mcB mb c1 c2 c3 FA fn fcap en w OA out.length ocap st ed) fx Hx RL):Fn Tryz.prog 198 #[.pointer (some ⟨mb,0,none⟩), .pointer (some ⟨b,0,none⟩), .agg #[.string nm, .bool ex,qv, .int .i64 lo, .int .i64 res,cv], .int .i64 10] G
  (mcB mb c1 c2 c3 FA fn fcap en w OA out.length ocap st ed::ox::frB b A l.length cap p a B m cm::x::fx::Hx) (PlR G mb c1 c2 c3 FA fn fcap en w OA ocap st ed out ox fx Hx RL b A cap p a B m cm x (plainR res l 10 out.length)):=by
 refine Fn.enter Tryz.func198 rfl rfl fun w0=>?_
 rw[show plainR res l 10 out.length=if res=0 then .halt 6 else on1 l res fun r v=> .leave r [v] by simp[plainR]]
 refine WC.seq ?_
 refine WC.region ?_
 refine WL.oo (OW.box rfl rfl fun b1=>?_)
 refine WL.nil ?_
 refine WK.un ?_
 refine WC.seq ?_
 refine WC.region ?_
 refine zw.move ?_
 refine WL.nil ?_
 refine WK.un ?_
 repeat (first | refine WC.seq ?_ | refine WC.block ?_ | (refine WC.region ?_;refine WL.p (Gp.eqI rfl rfl) kr rfl ?_;refine WL.p (Gp.assign rfl) kr rfl ?_;refine WL.nil ?_;refine WK.un ?_) | refine WC.cond_true rfl ?_ | refine WC.cond_false rfl ?_ | (refine WC.skip ?_;refine WK.un ?_) | (refine WC.exit ?_;refine WK.un ?_))
 refine WC.region ?_
 refine zw.fa ?_
 refine zw.ld ?_
 refine zw.ne ?_
 by_cases hr:res=0
 ·rw[show(res != 0)=false by simpa using hr,if_pos hr]
  refine WL.oo (OW.call rfl (Hf:=[]) (List.Perm.refl _) (need_no _) rfl (fun v G' H' h _=>by cases h.1) (fun ch G' H' h _=>?_) (fun G' H' h=>by cases h.1))
  obtain⟨he,rfl,rfl⟩:=h
  cases he
  refine WK.un ?_
  exact QF.panicP (⟨rfl,rfl,_,Left.of b A l.length cap p a B m cm,rfl⟩)
 rw[show(res != 0)=true by simpa using hr,if_neg hr]
 refine WL.oo (OW.callR rfl (Hf:=[]) (List.Perm.refl _) (need_ok G) rfl (by rintro e G' H' ⟨h,_⟩;exact⟨_,h⟩) fun v' G' H' h hg=>?_)
 obtain⟨he,rfl,rfl⟩:=h
 cases he
 refine WL.nil ?_
 refine WK.un ?_
 refine WC.region ?_
 refine zw.move ?_
 refine zw.move ?_
 refine zw.move ?_
 refine zw.fa ?_
 refine zw.ld ?_
 cases ht:ty1 l res with
 | none=>
  rw[show on1 l res _= .halt 6 by rw[on1,ht]]
  refine WL.oo (OW.call rfl (Pk.perm pkA) (typed1_no G _ b A cap p a B m cm x l res ht hv hl) rfl (fun v' G' H' h hg=>by cases h.1) (fun ch G' H' h hg=>?_) (fun G' H' h=>by repeat (first | (cases h.1;done) | (cases h;done) | (obtain⟨_,h⟩:=h) | (rcases h with h | h))))
  obtain⟨he,rfl,c,hc,rfl⟩:=h
  cases he
  refine WK.un ?_
  exact QF.panicP ⟨rfl,rfl,_,⟨c,hc,rfl⟩,rfl⟩
 | some rv=>
  obtain⟨r,v⟩:=rv
  rw[show on1 l res _= .leave r [v] by rw[on1,ht]]
  obtain⟨rfl,hvt⟩:=ty1_some ht
  refine WL.oo (OW.callK rfl (typed1_ok G _ b A cap p a B m cm x r v res hvt hv hl) rfl fun v' G' H' h hg=>?_)
  obtain⟨A',cap',x',he,rfl,rfl,hv1,hv2⟩:=h
  cases he
  refine WL.oo (OW.callK rfl (hL.2 A' cap' x' v hv1) rfl fun v' G' H' h hg=>?_)
  obtain⟨he,rfl,hR⟩:=h
  cases he
  refine WL.nil ?_
  refine WK.un ?_
  refine WC.exit ?_
  refine WK.un ?_
  refine WK.un ?_
  refine WK.swap ?_
  exact QF.p0 (.inr rfl) rfl ⟨rfl,H',rfl,hv2,hR,rfl⟩ pkA
theorem plain_print (hv:VVec A cap l x) (hl:l.length≤1000000) (ho:VVec OA ocap out ox):Fn Tryz.prog 198 #[.pointer (some ⟨mb,0,none⟩), .pointer (some ⟨b,0,none⟩), .agg #[.string nm, .bool ex,qv, .int .i64 lo, .int .i64 res,cv], .int .i64 11] G
  (mcB mb c1 c2 c3 FA fn fcap en w OA out.length ocap st ed::ox::frB b A l.length cap p a B m cm::x::fx::Hx) (PlR G mb c1 c2 c3 FA fn fcap en w OA ocap st ed out ox fx Hx RL b A cap p a B m cm x (plainR res l 11 out.length)):=by
 refine Fn.enter Tryz.func198 rfl rfl fun w0=>?_
 rw[show plainR res l 11 out.length=onA l fun r v=>if 4096≤out.length then .halt 7 else .print r v by simp[plainR]]
 refine WC.seq ?_
 refine WC.region ?_
 refine WL.oo (OW.box rfl rfl fun b1=>?_)
 refine WL.nil ?_
 refine WK.un ?_
 refine WC.seq ?_
 refine WC.region ?_
 refine zw.move ?_
 refine WL.nil ?_
 refine WK.un ?_
 repeat (first | refine WC.seq ?_ | refine WC.block ?_ | (refine WC.region ?_;refine WL.p (Gp.eqI rfl rfl) kr rfl ?_;refine WL.p (Gp.assign rfl) kr rfl ?_;refine WL.nil ?_;refine WK.un ?_) | refine WC.cond_true rfl ?_ | refine WC.cond_false rfl ?_ | (refine WC.skip ?_;refine WK.un ?_) | (refine WC.exit ?_;refine WK.un ?_))
 refine WC.region ?_
 refine zw.move ?_
 refine zw.move ?_
 cases ht:pop1 l with
 | none=>
  have h1:=pop1_len ht
  rw[show onA l _= .halt 6 by rw[onA,ht]]
  refine WL.oo (OW.call rfl (Pk.perm pkA) (((take_no G _ b A l.length cap p a B m cm 1 (by omega)).pk (F:=[x]) (.cons .here .nil)).drop fun e G' H' ⟨H2,⟨h1,h2,h3⟩,h4⟩=>⟨H2,by rw[h4];exact List.sublist_append_left _ _,(⟨h1,h2,h3⟩:e=halted 6∧G=G'∧Left b H2)⟩) rfl (fun v' G' H' h hg=>by cases h.1) (fun ch G' H' h hg=>?_) (fun G' H' h=>by repeat (first | (cases h.1;done) | (cases h;done) | (obtain⟨_,h⟩:=h) | (rcases h with h | h))))
  obtain⟨he,rfl,c,hc,rfl⟩:=h
  cases he
  refine WK.un ?_
  exact QF.panicP ⟨rfl,rfl,_,⟨c,hc,rfl⟩,rfl⟩
 | some rv=>
  obtain⟨r,v⟩:=rv
  rw[show onA l _=(if 4096≤out.length then .halt 7 else .print r v) by rw[onA,ht]]
  obtain rfl:=pop1_some ht
  refine WL.oo (OW.callK rfl (take1_ok G _ b A cap p a B m cm x r v hv hl) rfl fun v' G' H' h hg=>?_)
  obtain⟨A',cap',x',he,rfl,rfl,hv1,hv2⟩:=h
  cases he
  obtain⟨hlv,⟨h1,h2,h3,h4⟩ | ⟨b',c,rfl,rfl,h1,h2,h3⟩⟩:=hv1
  ·simp at h2
  refine zw.ix ?_
  refine WL.vv (Gv.loadN rfl .here (VVec.elem (A:=none) (cap:=0) (b:=0) (i:=0) (v:=v) h3 rfl) rfl) ?_
  refine WL.oo (OW.alloc rfl fun b2=>?_)
  refine zw.st ?_
  refine WL.nil ?_
  refine WK.un ?_
  refine WC.seq ?_
  refine WC.seq ?_
  refine WC.region ?_
  refine zw.move ?_
  refine zw.nil ?_
  refine zw.fa ?_
  refine zw.fa ?_
  refine zw.ld ?_
  refine zw.len ?_
  refine zw.ge ?_
  refine WL.nil ?_
  refine WK.un ?_
  refine WC.cond rfl (fun hc=>?_) (fun hc=>?_)
  ·have h4:4096≤out.length:=by have h:=hc;simp at h;omega
   rw[if_pos h4]
   refine WC.region ?_
   refine zw.build ?_
   refine zw.iface ?_
   refine WL.oo (OW.panic rfl ?_)
   refine WK.un ?_
   exact QF.panicP ⟨rfl,rfl,_,Left.of b A r.length cap p a B m cm,rfl⟩ pkA
  ·have h4:¬4096≤out.length:=by have h:=hc;simp at h;omega
   rw[if_neg h4]
   refine WC.skip ?_
   refine WK.un ?_
   refine WC.draw mixed ?_
   refine za.move 0 ?_
   refine za.move 1 ?_
   refine za.nil 2 ?_
   refine za.fa 3 ?_
   refine za.fa 4 ?_
   refine za.ld 5 ?_
   refine za.ld 6 ?_
   refine WA.one (i:=7) kr rfl kr (OW.buildSlice rfl kr kr (by rfl) rfl fun b3=>?_)
   refine WA.oo 8 rfl (OW.append rfl rfl kr kr ho atA (Rds.blk0 (cs:=vcells v) .here rfl) rfl rfl (by omega) (by omega) rfl fun OA' ocap' ox' ho'=>?_)
   refine za.nil 9 ?_
   refine za.fa 10 ?_
   refine za.fa 11 ?_
   refine za.st 12 ?_
   refine WA.done kr ?_
   refine WK.un ?_
   refine WC.exit ?_
   refine WK.un ?_
   have e0:(out++[v]).length=out.length+1:=by simp
   exact QF.p0 (.inr rfl) rfl ⟨rfl,OA',ocap',ox',rfl,VVec.snoc ho',hv2,by rw[e0]⟩ pkA
end
end
section
attribute [local irreducible] Tryz.prog
theorem one_lo {c:Array Value} {v:V} {n j:Nat} {w:Value} (h:c.toList.take n=vflat [v]) (hw:(vcells v)[j]? =some w):c[0+(0:Int).toNat*4+j]? =some w:=by
 have hj:j<(vcells v).length:=(List.getElem?_eq_some_iff.1 hw).1
 have e:(0+(0:Int).toNat*4+j)=j:=by simp
 rw[e]
 refine two_at h ?_
 show(vcells v++[])[j]? =_
 rw[List.append_nil];exact hw
theorem two_val0 {c:Array Value} {u v:V} (h:c.toList.take ([u,v].length*4)=vflat [u,v]):(c.toList.drop (0+(0:Int).toNat*4)).take 4=vcells u:=VVec.elem (A:=none) (cap:=0) (b:=0) (i:=0) (v:=u) h rfl
theorem two_val1 {c:Array Value} {u v:V} (h:c.toList.take ([u,v].length*4)=vflat [u,v]):(c.toList.drop (0+(1:Int).toNat*4)).take 4=vcells v:=VVec.elem (A:=none) (cap:=0) (b:=0) (i:=1) (v:=v) h rfl
section
variable (G:Gh) (mb:Nat) (c1 c2 c3:Value) (FA:Option Addr) (fn fcap:Nat) (en:Int) (w:V) (OA:Option Addr) (ocap:Nat) (st:Int) (ed:Bool) (out:List V) (ox fx:Own) (Hx:List Own) (RL:List V→List Own→Prop)
  (b:Nat) (A:Option Addr) (cap:Nat) (p a:Int) (B:Option Addr) (m cm:Nat) (x:Own) (l:List V) (nm:ByteArray) (ex:Bool) (qv cv:Value) (lo res:Int)
theorem plain_not (hv:VVec A cap l x) (hl:l.length≤1000000):Fn Tryz.prog 198 #[.pointer (some ⟨mb,0,none⟩), .pointer (some ⟨b,0,none⟩), .agg #[.string nm, .bool ex,qv, .int .i64 lo, .int .i64 res,cv], .int .i64 25] G
  (mcB mb c1 c2 c3 FA fn fcap en w OA out.length ocap st ed::ox::frB b A l.length cap p a B m cm::x::fx::Hx) (PlR G mb c1 c2 c3 FA fn fcap en w OA ocap st ed out ox fx Hx RL b A cap p a B m cm x (plainR res l 25 out.length)):=by
 refine Fn.enter Tryz.func198 rfl rfl fun w0=>?_
 rw[show plainR res l 25 out.length=on1 l 2 fun r v=> .set (r++[truthV (!v.b)]) by simp[plainR]]
 refine WC.seq ?_
 refine WC.region ?_
 refine WL.oo (OW.box rfl rfl fun b1=>?_)
 refine WL.nil ?_
 refine WK.un ?_
 refine WC.seq ?_
 refine WC.region ?_
 refine zw.move ?_
 refine WL.nil ?_
 refine WK.un ?_
 repeat (first | refine WC.seq ?_ | refine WC.block ?_ | (refine WC.region ?_;refine WL.p (Gp.eqI rfl rfl) kr rfl ?_;refine WL.p (Gp.assign rfl) kr rfl ?_;refine WL.nil ?_;refine WK.un ?_) | refine WC.cond_true rfl ?_ | refine WC.cond_false rfl ?_ | (refine WC.skip ?_;refine WK.un ?_) | (refine WC.exit ?_;refine WK.un ?_))
 refine WC.draw mixed ?_
 refine za.move 0 ?_
 refine za.nil 1 ?_
 refine za.fa 2 ?_
 refine za.move 3 ?_
 refine za.move 4 ?_
 cases ht:ty1 l 2 with
 | none=>
  rw[show on1 l 2 _= .halt 6 by rw[on1,ht]]
  refine WA.oo 5 rfl (OW.call rfl (Pk.perm pkA) (typed1_no G _ b A cap p a B m cm x l 2 ht hv hl) rfl (fun v' G' H' h hg=>by cases h.1) (fun ch G' H' h hg=>?_) (fun G' H' h=>by repeat (first | (cases h.1;done) | (cases h;done) | (obtain⟨_,h⟩:=h) | (rcases h with h | h))))
  obtain⟨he,rfl,c,hc,rfl⟩:=h
  cases he
  refine WK.un ?_
  exact QF.panicP ⟨rfl,rfl,_,⟨c,hc,rfl⟩,rfl⟩
 | some rv=>
  obtain⟨r,v⟩:=rv
  obtain⟨rfl,hvt⟩:=ty1_some ht
  rw[show on1 (r++[v]) 2 _= .set (r++[truthV (!v.b)]) by rw[on1,ht]]
  refine WA.oo 5 rfl (OW.callK rfl (typed1_ok G _ b A cap p a B m cm x r v 2 hvt hv hl) rfl fun v' G' H' h hg=>?_)
  obtain⟨A',cap',x',he,rfl,rfl,hv1,hv2⟩:=h
  cases he
  obtain⟨hlv,⟨h1,h2,h3,h4⟩ | ⟨b',c',rfl,rfl,h1,h2,h3⟩⟩:=hv1
  ·simp at h2
  have hc0:∀(j:Nat) (w:Value),(vcells v)[j]? =some w→c'[0+(0:Int).toNat*4+j]? =some w:=fun j w hw=>one_lo h3 hw
  refine za.ix 6 ?_
  refine za.fa 7 ?_
  refine WA.vv 8 rfl (Gv.load1 rfl .here (hc0 2 _ rfl)) ?_
  refine za.not 9 ?_
  refine WA.oo 10 rfl (OW.callR rfl (Hf:=[]) (List.Perm.refl _) (truth_fn G (!v.b)) rfl (by rintro e G' H' ⟨h,_⟩;exact⟨_,h⟩) fun v' G' H' h hg=>?_)
  obtain⟨he,rfl,rfl⟩:=h
  cases he
  refine WA.oo 11 rfl (OW.callK rfl (pushV_fn G b A cap p a B m cm r x (truthV (!v.b)) hv2 (by simp at hl;omega)) rfl fun v' G' H' h hg=>?_)
  obtain⟨A2,cap2,x2,he,rfl,rfl,hv3⟩:=h
  cases he
  refine WA.done kr ?_
  refine WK.un ?_
  refine WC.exit ?_
  refine WK.un ?_
  exact QF.p0 (.inr rfl) rfl ⟨rfl,A2,cap2,x2,rfl,hv3,rfl⟩ pkA
theorem plain_len (hv:VVec A cap l x) (hl:l.length≤1000000):Fn Tryz.prog 198 #[.pointer (some ⟨mb,0,none⟩), .pointer (some ⟨b,0,none⟩), .agg #[.string nm, .bool ex,qv, .int .i64 lo, .int .i64 res,cv], .int .i64 26] G
  (mcB mb c1 c2 c3 FA fn fcap en w OA out.length ocap st ed::ox::frB b A l.length cap p a B m cm::x::fx::Hx) (PlR G mb c1 c2 c3 FA fn fcap en w OA ocap st ed out ox fx Hx RL b A cap p a B m cm x (plainR res l 26 out.length)):=by
 refine Fn.enter Tryz.func198 rfl rfl fun w0=>?_
 rw[show plainR res l 26 out.length=on1 l 3 fun r v=> .set (r++[numV v.s.size]) by simp[plainR]]
 refine WC.seq ?_
 refine WC.region ?_
 refine WL.oo (OW.box rfl rfl fun b1=>?_)
 refine WL.nil ?_
 refine WK.un ?_
 refine WC.seq ?_
 refine WC.region ?_
 refine zw.move ?_
 refine WL.nil ?_
 refine WK.un ?_
 repeat (first | refine WC.seq ?_ | refine WC.block ?_ | (refine WC.region ?_;refine WL.p (Gp.eqI rfl rfl) kr rfl ?_;refine WL.p (Gp.assign rfl) kr rfl ?_;refine WL.nil ?_;refine WK.un ?_) | refine WC.cond_true rfl ?_ | refine WC.cond_false rfl ?_ | (refine WC.skip ?_;refine WK.un ?_) | (refine WC.exit ?_;refine WK.un ?_))
 refine WC.draw mixed ?_
 refine za.move 0 ?_
 refine za.nil 1 ?_
 refine za.fa 2 ?_
 refine za.move 3 ?_
 refine za.move 4 ?_
 cases ht:ty1 l 3 with
 | none=>
  rw[show on1 l 3 _= .halt 6 by rw[on1,ht]]
  refine WA.oo 5 rfl (OW.call rfl (Pk.perm pkA) (typed1_no G _ b A cap p a B m cm x l 3 ht hv hl) rfl (fun v' G' H' h hg=>by cases h.1) (fun ch G' H' h hg=>?_) (fun G' H' h=>by repeat (first | (cases h.1;done) | (cases h;done) | (obtain⟨_,h⟩:=h) | (rcases h with h | h))))
  obtain⟨he,rfl,c,hc,rfl⟩:=h
  cases he
  refine WK.un ?_
  exact QF.panicP ⟨rfl,rfl,_,⟨c,hc,rfl⟩,rfl⟩
 | some rv=>
  obtain⟨r,v⟩:=rv
  obtain⟨rfl,hvt⟩:=ty1_some ht
  rw[show on1 (r++[v]) 3 _= .set (r++[numV v.s.size]) by rw[on1,ht]]
  refine WA.oo 5 rfl (OW.callK rfl (typed1_ok G _ b A cap p a B m cm x r v 3 hvt hv hl) rfl fun v' G' H' h hg=>?_)
  obtain⟨A',cap',x',he,rfl,rfl,hv1,hv2⟩:=h
  cases he
  obtain⟨hlv,⟨h1,h2,h3,h4⟩ | ⟨b',c',rfl,rfl,h1,h2,h3⟩⟩:=hv1
  ·simp at h2
  have hc0:∀(j:Nat) (w:Value),(vcells v)[j]? =some w→c'[0+(0:Int).toNat*4+j]? =some w:=fun j w hw=>one_lo h3 hw
  refine za.ix 6 ?_
  refine za.fa 7 ?_
  refine WA.vv 8 rfl (Gv.load1 rfl .here (hc0 3 _ rfl)) ?_
  refine za.len 9 ?_
  refine WA.oo 10 rfl (OW.callR rfl (Hf:=[]) (List.Perm.refl _) (number_fnQ G v.s.size) rfl (by rintro e G' H' ⟨h,_⟩;exact⟨_,h⟩) fun v' G' H' h hg=>?_)
  obtain⟨he,rfl,rfl⟩:=h
  cases he
  refine WA.oo 11 rfl (OW.callK rfl (pushV_fn G b A cap p a B m cm r x (numV v.s.size) hv2 (by simp at hl;omega)) rfl fun v' G' H' h hg=>?_)
  obtain⟨A2,cap2,x2,he,rfl,rfl,hv3⟩:=h
  cases he
  refine WA.done kr ?_
  refine WK.un ?_
  refine WC.exit ?_
  refine WK.un ?_
  exact QF.p0 (.inr rfl) rfl ⟨rfl,A2,cap2,x2,rfl,hv3,rfl⟩ pkA
theorem plain_neg (hv:VVec A cap l x) (hl:l.length≤1000000):Fn Tryz.prog 198 #[.pointer (some ⟨mb,0,none⟩), .pointer (some ⟨b,0,none⟩), .agg #[.string nm, .bool ex,qv, .int .i64 lo, .int .i64 res,cv], .int .i64 24] G
  (mcB mb c1 c2 c3 FA fn fcap en w OA out.length ocap st ed::ox::frB b A l.length cap p a B m cm::x::fx::Hx) (PlR G mb c1 c2 c3 FA fn fcap en w OA ocap st ed out ox fx Hx RL b A cap p a B m cm x (plainR res l 24 out.length)):=by
 refine Fn.enter Tryz.func198 rfl rfl fun w0=>?_
 rw[show plainR res l 24 out.length=on1 l 1 fun r v=> .set (r++[numV (IntKind.i64.wrap (0 - v.i))]) by simp[plainR]]
 refine WC.seq ?_
 refine WC.region ?_
 refine WL.oo (OW.box rfl rfl fun b1=>?_)
 refine WL.nil ?_
 refine WK.un ?_
 refine WC.seq ?_
 refine WC.region ?_
 refine zw.move ?_
 refine WL.nil ?_
 refine WK.un ?_
 repeat (first | refine WC.seq ?_ | refine WC.block ?_ | (refine WC.region ?_;refine WL.p (Gp.eqI rfl rfl) kr rfl ?_;refine WL.p (Gp.assign rfl) kr rfl ?_;refine WL.nil ?_;refine WK.un ?_) | refine WC.cond_true rfl ?_ | refine WC.cond_false rfl ?_ | (refine WC.skip ?_;refine WK.un ?_) | (refine WC.exit ?_;refine WK.un ?_))
 refine WC.draw mixed ?_
 refine za.move 0 ?_
 refine za.nil 1 ?_
 refine za.fa 2 ?_
 refine za.move 3 ?_
 refine za.move 4 ?_
 cases ht:ty1 l 1 with
 | none=>
  rw[show on1 l 1 _= .halt 6 by rw[on1,ht]]
  refine WA.oo 5 rfl (OW.call rfl (Pk.perm pkA) (typed1_no G _ b A cap p a B m cm x l 1 ht hv hl) rfl (fun v' G' H' h hg=>by cases h.1) (fun ch G' H' h hg=>?_) (fun G' H' h=>by repeat (first | (cases h.1;done) | (cases h;done) | (obtain⟨_,h⟩:=h) | (rcases h with h | h))))
  obtain⟨he,rfl,c,hc,rfl⟩:=h
  cases he
  refine WK.un ?_
  exact QF.panicP ⟨rfl,rfl,_,⟨c,hc,rfl⟩,rfl⟩
 | some rv=>
  obtain⟨r,v⟩:=rv
  obtain⟨rfl,hvt⟩:=ty1_some ht
  rw[show on1 (r++[v]) 1 _= .set (r++[numV (IntKind.i64.wrap (0 - v.i))]) by rw[on1,ht]]
  refine WA.oo 5 rfl (OW.callK rfl (typed1_ok G _ b A cap p a B m cm x r v 1 hvt hv hl) rfl fun v' G' H' h hg=>?_)
  obtain⟨A',cap',x',he,rfl,rfl,hv1,hv2⟩:=h
  cases he
  obtain⟨hlv,⟨h1,h2,h3,h4⟩ | ⟨b',c',rfl,rfl,h1,h2,h3⟩⟩:=hv1
  ·simp at h2
  have hc0:∀(j:Nat) (w:Value),(vcells v)[j]? =some w→c'[0+(0:Int).toNat*4+j]? =some w:=fun j w hw=>one_lo h3 hw
  refine za.ix 6 ?_
  refine za.fa 7 ?_
  refine WA.vv 8 rfl (Gv.load1 rfl .here (hc0 1 _ rfl)) ?_
  refine za.neg 9 ?_
  refine WA.oo 10 rfl (OW.callR rfl (Hf:=[]) (List.Perm.refl _) (number_fnQ G (IntKind.i64.wrap (0 - v.i))) rfl (by rintro e G' H' ⟨h,_⟩;exact⟨_,h⟩) fun v' G' H' h hg=>?_)
  obtain⟨he,rfl,rfl⟩:=h
  cases he
  refine WA.oo 11 rfl (OW.callK rfl (pushV_fn G b A cap p a B m cm r x (numV (IntKind.i64.wrap (0 - v.i))) hv2 (by simp at hl;omega)) rfl fun v' G' H' h hg=>?_)
  obtain⟨A2,cap2,x2,he,rfl,rfl,hv3⟩:=h
  cases he
  refine WA.done kr ?_
  refine WK.un ?_
  refine WC.exit ?_
  refine WK.un ?_
  exact QF.p0 (.inr rfl) rfl ⟨rfl,A2,cap2,x2,rfl,hv3,rfl⟩ pkA
theorem plain_eq (hv:VVec A cap l x) (hl:l.length≤1000000):Fn Tryz.prog 198 #[.pointer (some ⟨mb,0,none⟩), .pointer (some ⟨b,0,none⟩), .agg #[.string nm, .bool ex,qv, .int .i64 lo, .int .i64 res,cv], .int .i64 12] G
  (mcB mb c1 c2 c3 FA fn fcap en w OA out.length ocap st ed::ox::frB b A l.length cap p a B m cm::x::fx::Hx) (PlR G mb c1 c2 c3 FA fn fcap en w OA ocap st ed out ox fx Hx RL b A cap p a B m cm x (plainR res l 12 out.length)):=by
 refine Fn.enter Tryz.func198 rfl rfl fun w0=>?_
 rw[show plainR res l 12 out.length=onB l fun r u v=>if u.t=v.t then .set (r++[truthV (decide (u=v))])else .halt 6 by simp[plainR]]
 refine WC.seq ?_
 refine WC.region ?_
 refine WL.oo (OW.box rfl rfl fun b1=>?_)
 refine WL.nil ?_
 refine WK.un ?_
 refine WC.seq ?_
 refine WC.region ?_
 refine zw.move ?_
 refine WL.nil ?_
 refine WK.un ?_
 repeat (first | refine WC.seq ?_ | refine WC.block ?_ | (refine WC.region ?_;refine WL.p (Gp.eqI rfl rfl) kr rfl ?_;refine WL.p (Gp.assign rfl) kr rfl ?_;refine WL.nil ?_;refine WK.un ?_) | refine WC.cond_true rfl ?_ | refine WC.cond_false rfl ?_ | (refine WC.skip ?_;refine WK.un ?_) | (refine WC.exit ?_;refine WK.un ?_))
 refine WC.region ?_
 refine zw.move ?_
 refine zw.move ?_
 cases ht:pop2 l with
 | none=>
  have h1:=pop2_len ht
  rw[show onB l _= .halt 6 by rw[onB,ht]]
  refine WL.oo (OW.call rfl (Pk.perm pkA) (((take_no G _ b A l.length cap p a B m cm 2 (by omega)).pk (F:=[x]) (.cons .here .nil)).drop fun e G' H' ⟨H2,⟨h1,h2,h3⟩,h4⟩=>⟨H2,by rw[h4];exact List.sublist_append_left _ _,(⟨h1,h2,h3⟩:e=halted 6∧G=G'∧Left b H2)⟩) rfl (fun v' G' H' h hg=>by cases h.1) (fun ch G' H' h hg=>?_) (fun G' H' h=>by repeat (first | (cases h.1;done) | (cases h;done) | (obtain⟨_,h⟩:=h) | (rcases h with h | h))))
  obtain⟨he,rfl,c,hc,rfl⟩:=h
  cases he
  refine WK.un ?_
  exact QF.panicP ⟨rfl,rfl,_,⟨c,hc,rfl⟩,rfl⟩
 | some rv=>
  obtain⟨r,u,v⟩:=rv
  rw[show onB l _=(if u.t=v.t then .set (r++[truthV (decide (u=v))])else .halt 6) by rw[onB,ht]]
  obtain rfl:=pop2_some ht
  refine WL.oo (OW.callK rfl (take2_ok G _ b A cap p a B m cm x r u v hv hl) rfl fun v' G' H' h hg=>?_)
  obtain⟨A',cap',x',he,rfl,rfl,hv1,hv2⟩:=h
  cases he
  obtain⟨hlv,⟨h1,h2,h3,h4⟩ | ⟨b',c',rfl,rfl,h1,h2,h3⟩⟩:=hv1
  ·simp at h2
  have hc0:∀(j:Nat) (w:Value),(vcells u)[j]? =some w→c'[0+(0:Int).toNat*4+j]? =some w:=fun j w hw=>two_lo h3 hw
  have hc1:∀(j:Nat) (w:Value),(vcells v)[j]? =some w→c'[0+(1:Int).toNat*4+j]? =some w:=fun j w hw=>two_hi h3 hw
  refine zw.assign ?_
  refine WL.nil ?_
  refine WK.un ?_
  refine WC.seq ?_
  refine WC.draw mixed ?_
  refine za.move 0 ?_
  refine za.ix 1 ?_
  refine za.fa 2 ?_
  refine WA.vv 3 rfl (Gv.load1 rfl .here (hc0 0 _ rfl)) ?_
  refine za.move 4 ?_
  refine za.ix 5 ?_
  refine za.fa 6 ?_
  refine WA.vv 7 rfl (Gv.load1 rfl .here (hc1 0 _ rfl)) ?_
  refine za.eq 8 ?_
  by_cases e1:u.t=v.t
  rotate_left
  ·rw[show(u.t==v.t)=false by simpa using e1,if_neg e1]
   refine WA.oo 9 rfl (OW.call rfl (Hf:=[]) (List.Perm.refl _) (need_no _) rfl (fun v G' H' h _=>by cases h.1) (fun ch G' H' h _=>?_) (fun G' H' h=>by cases h.1))
   obtain⟨he,rfl,rfl⟩:=h
   cases he
   refine WK.un ?_
   exact QF.panicP (⟨rfl,rfl,_,Left.of b A r.length cap p a B m cm,rfl⟩)
  rw[show(u.t==v.t)=true by simpa using e1,if_pos e1]
  refine WA.oo 9 rfl (OW.callR rfl (Hf:=[]) (List.Perm.refl _) (need_ok G) rfl (by rintro e G' H' ⟨h,_⟩;exact⟨_,h⟩) fun v' G' H' h hg=>?_)
  obtain⟨he,rfl,rfl⟩:=h
  cases he
  refine WA.done kr ?_
  refine WK.un ?_
  refine WC.draw mixed ?_
  refine za.move 0 ?_
  refine za.nil 1 ?_
  refine za.fa 2 ?_
  refine za.move 3 ?_
  refine za.ix 4 ?_
  refine za.move 6 ?_
  refine za.ix 7 ?_
  refine za.move 10 ?_
  refine za.eq 11 ?_
  refine WA.vv 5 rfl (Gv.loadN rfl .here (two_val0 h3) rfl) ?_
  refine WA.vv 8 rfl (Gv.loadN rfl .here (two_val1 h3) rfl) ?_
  refine WA.pp 9 rfl (Gp.eqV (u:=u) (v:=v) rfl rfl) ?_
  refine WA.pp 12 rfl (Gp.eqB rfl rfl) ?_
  rw[show(decide (u=v)==((12:Int)==12))=(decide (u=v)) by cases decide (u=v)<;>rfl]
  refine WA.oo 13 rfl (OW.callR rfl (Hf:=[]) (List.Perm.refl _) (truth_fn G (decide (u=v))) rfl (by rintro e G' H' ⟨h,_⟩;exact⟨_,h⟩) fun v' G' H' h hg=>?_)
  obtain⟨he,rfl,rfl⟩:=h
  cases he
  refine WA.oo 14 rfl (OW.callK rfl (pushV_fn G b A cap p a B m cm r x (truthV (decide (u=v))) hv2 (by simp at hl;omega)) rfl fun v' G' H' h hg=>?_)
  obtain⟨A2,cap2,x2,he,rfl,rfl,hv3⟩:=h
  cases he
  refine WA.done kr ?_
  refine WK.un ?_
  refine WC.exit ?_
  refine WK.un ?_
  exact QF.p0 (.inr rfl) rfl ⟨rfl,A2,cap2,x2,rfl,hv3,rfl⟩ pkA
theorem plain_ne (hv:VVec A cap l x) (hl:l.length≤1000000):Fn Tryz.prog 198 #[.pointer (some ⟨mb,0,none⟩), .pointer (some ⟨b,0,none⟩), .agg #[.string nm, .bool ex,qv, .int .i64 lo, .int .i64 res,cv], .int .i64 13] G
  (mcB mb c1 c2 c3 FA fn fcap en w OA out.length ocap st ed::ox::frB b A l.length cap p a B m cm::x::fx::Hx) (PlR G mb c1 c2 c3 FA fn fcap en w OA ocap st ed out ox fx Hx RL b A cap p a B m cm x (plainR res l 13 out.length)):=by
 refine Fn.enter Tryz.func198 rfl rfl fun w0=>?_
 rw[show plainR res l 13 out.length=onB l fun r u v=>if u.t=v.t then .set (r++[truthV (!decide (u=v))])else .halt 6 by simp[plainR]]
 refine WC.seq ?_
 refine WC.region ?_
 refine WL.oo (OW.box rfl rfl fun b1=>?_)
 refine WL.nil ?_
 refine WK.un ?_
 refine WC.seq ?_
 refine WC.region ?_
 refine zw.move ?_
 refine WL.nil ?_
 refine WK.un ?_
 repeat (first | refine WC.seq ?_ | refine WC.block ?_ | (refine WC.region ?_;refine WL.p (Gp.eqI rfl rfl) kr rfl ?_;refine WL.p (Gp.assign rfl) kr rfl ?_;refine WL.nil ?_;refine WK.un ?_) | refine WC.cond_true rfl ?_ | refine WC.cond_false rfl ?_ | (refine WC.skip ?_;refine WK.un ?_) | (refine WC.exit ?_;refine WK.un ?_))
 refine WC.region ?_
 refine zw.move ?_
 refine zw.move ?_
 cases ht:pop2 l with
 | none=>
  have h1:=pop2_len ht
  rw[show onB l _= .halt 6 by rw[onB,ht]]
  refine WL.oo (OW.call rfl (Pk.perm pkA) (((take_no G _ b A l.length cap p a B m cm 2 (by omega)).pk (F:=[x]) (.cons .here .nil)).drop fun e G' H' ⟨H2,⟨h1,h2,h3⟩,h4⟩=>⟨H2,by rw[h4];exact List.sublist_append_left _ _,(⟨h1,h2,h3⟩:e=halted 6∧G=G'∧Left b H2)⟩) rfl (fun v' G' H' h hg=>by cases h.1) (fun ch G' H' h hg=>?_) (fun G' H' h=>by repeat (first | (cases h.1;done) | (cases h;done) | (obtain⟨_,h⟩:=h) | (rcases h with h | h))))
  obtain⟨he,rfl,c,hc,rfl⟩:=h
  cases he
  refine WK.un ?_
  exact QF.panicP ⟨rfl,rfl,_,⟨c,hc,rfl⟩,rfl⟩
 | some rv=>
  obtain⟨r,u,v⟩:=rv
  rw[show onB l _=(if u.t=v.t then .set (r++[truthV (!decide (u=v))])else .halt 6) by rw[onB,ht]]
  obtain rfl:=pop2_some ht
  refine WL.oo (OW.callK rfl (take2_ok G _ b A cap p a B m cm x r u v hv hl) rfl fun v' G' H' h hg=>?_)
  obtain⟨A',cap',x',he,rfl,rfl,hv1,hv2⟩:=h
  cases he
  obtain⟨hlv,⟨h1,h2,h3,h4⟩ | ⟨b',c',rfl,rfl,h1,h2,h3⟩⟩:=hv1
  ·simp at h2
  have hc0:∀(j:Nat) (w:Value),(vcells u)[j]? =some w→c'[0+(0:Int).toNat*4+j]? =some w:=fun j w hw=>two_lo h3 hw
  have hc1:∀(j:Nat) (w:Value),(vcells v)[j]? =some w→c'[0+(1:Int).toNat*4+j]? =some w:=fun j w hw=>two_hi h3 hw
  refine zw.assign ?_
  refine WL.nil ?_
  refine WK.un ?_
  refine WC.seq ?_
  refine WC.draw mixed ?_
  refine za.move 0 ?_
  refine za.ix 1 ?_
  refine za.fa 2 ?_
  refine WA.vv 3 rfl (Gv.load1 rfl .here (hc0 0 _ rfl)) ?_
  refine za.move 4 ?_
  refine za.ix 5 ?_
  refine za.fa 6 ?_
  refine WA.vv 7 rfl (Gv.load1 rfl .here (hc1 0 _ rfl)) ?_
  refine za.eq 8 ?_
  by_cases e1:u.t=v.t
  rotate_left
  ·rw[show(u.t==v.t)=false by simpa using e1,if_neg e1]
   refine WA.oo 9 rfl (OW.call rfl (Hf:=[]) (List.Perm.refl _) (need_no _) rfl (fun v G' H' h _=>by cases h.1) (fun ch G' H' h _=>?_) (fun G' H' h=>by cases h.1))
   obtain⟨he,rfl,rfl⟩:=h
   cases he
   refine WK.un ?_
   exact QF.panicP (⟨rfl,rfl,_,Left.of b A r.length cap p a B m cm,rfl⟩)
  rw[show(u.t==v.t)=true by simpa using e1,if_pos e1]
  refine WA.oo 9 rfl (OW.callR rfl (Hf:=[]) (List.Perm.refl _) (need_ok G) rfl (by rintro e G' H' ⟨h,_⟩;exact⟨_,h⟩) fun v' G' H' h hg=>?_)
  obtain⟨he,rfl,rfl⟩:=h
  cases he
  refine WA.done kr ?_
  refine WK.un ?_
  refine WC.draw mixed ?_
  refine za.move 0 ?_
  refine za.nil 1 ?_
  refine za.fa 2 ?_
  refine za.move 3 ?_
  refine za.ix 4 ?_
  refine za.move 6 ?_
  refine za.ix 7 ?_
  refine za.move 10 ?_
  refine za.eq 11 ?_
  refine WA.vv 5 rfl (Gv.loadN rfl .here (two_val0 h3) rfl) ?_
  refine WA.vv 8 rfl (Gv.loadN rfl .here (two_val1 h3) rfl) ?_
  refine WA.pp 9 rfl (Gp.eqV (u:=u) (v:=v) rfl rfl) ?_
  refine WA.pp 12 rfl (Gp.eqB rfl rfl) ?_
  rw[show(decide (u=v)==((13:Int)==12))=(!decide (u=v)) by cases decide (u=v)<;>rfl]
  refine WA.oo 13 rfl (OW.callR rfl (Hf:=[]) (List.Perm.refl _) (truth_fn G (!decide (u=v))) rfl (by rintro e G' H' ⟨h,_⟩;exact⟨_,h⟩) fun v' G' H' h hg=>?_)
  obtain⟨he,rfl,rfl⟩:=h
  cases he
  refine WA.oo 14 rfl (OW.callK rfl (pushV_fn G b A cap p a B m cm r x (truthV (!decide (u=v))) hv2 (by simp at hl;omega)) rfl fun v' G' H' h hg=>?_)
  obtain⟨A2,cap2,x2,he,rfl,rfl,hv3⟩:=h
  cases he
  refine WA.done kr ?_
  refine WK.un ?_
  refine WC.exit ?_
  refine WK.un ?_
  exact QF.p0 (.inr rfl) rfl ⟨rfl,A2,cap2,x2,rfl,hv3,rfl⟩ pkA
theorem plain_join (hv:VVec A cap l x) (hl:l.length≤1000000) (hz:∀v∈l,v.s.size≤400000000000):Fn Tryz.prog 198 #[.pointer (some ⟨mb,0,none⟩), .pointer (some ⟨b,0,none⟩), .agg #[.string nm, .bool ex,qv, .int .i64 lo, .int .i64 res,cv], .int .i64 20] G
  (mcB mb c1 c2 c3 FA fn fcap en w OA out.length ocap st ed::ox::frB b A l.length cap p a B m cm::x::fx::Hx) (PlR G mb c1 c2 c3 FA fn fcap en w OA ocap st ed out ox fx Hx RL b A cap p a B m cm x (plainR res l 20 out.length)):=by
 refine Fn.enter Tryz.func198 rfl rfl fun w0=>?_
 rw[show plainR res l 20 out.length=on2 l 3 fun r u v=>if 4096<u.s.size+v.s.size then .halt 3 else .set (r++[textV (u.s++v.s)]) by simp[plainR]]
 refine WC.seq ?_
 refine WC.region ?_
 refine WL.oo (OW.box rfl rfl fun b1=>?_)
 refine WL.nil ?_
 refine WK.un ?_
 refine WC.seq ?_
 refine WC.region ?_
 refine zw.move ?_
 refine WL.nil ?_
 refine WK.un ?_
 repeat (first | refine WC.seq ?_ | refine WC.block ?_ | (refine WC.region ?_;refine WL.p (Gp.eqI rfl rfl) kr rfl ?_;refine WL.p (Gp.assign rfl) kr rfl ?_;refine WL.nil ?_;refine WK.un ?_) | refine WC.cond_true rfl ?_ | refine WC.cond_false rfl ?_ | (refine WC.skip ?_;refine WK.un ?_) | (refine WC.exit ?_;refine WK.un ?_))
 refine WC.region ?_
 refine zw.move ?_
 refine zw.move ?_
 cases ht:ty2 l 3 with
 | none=>
  rw[show on2 l 3 _= .halt 6 by rw[on2,ht]]
  refine WL.oo (OW.call rfl (Pk.perm pkA) (typed2_no G _ b A cap p a B m cm x l 3 ht hv hl) rfl (fun v' G' H' h hg=>by cases h.1) (fun ch G' H' h hg=>?_) (fun G' H' h=>by repeat (first | (cases h.1;done) | (cases h;done) | (obtain⟨_,h⟩:=h) | (rcases h with h | h))))
  obtain⟨he,rfl,c,hc,rfl⟩:=h
  cases he
  refine WK.un ?_
  exact QF.panicP ⟨rfl,rfl,_,⟨c,hc,rfl⟩,rfl⟩
 | some rv=>
  obtain⟨r,u,v⟩:=rv
  rw[show on2 l 3 _=(if 4096<u.s.size+v.s.size then .halt 3 else .set (r++[textV (u.s++v.s)])) by rw[on2,ht]]
  obtain⟨rfl,hut,hvt⟩:=ty2_some ht
  have hzu:=hz u (by simp)
  have hzv:=hz v (by simp)
  refine WL.oo (OW.callK rfl (typed2_ok G _ b A cap p a B m cm x r u v 3 hut hvt hv hl) rfl fun v' G' H' h hg=>?_)
  obtain⟨A',cap',x',he,rfl,rfl,hv1,hv2⟩:=h
  cases he
  obtain⟨hlv,⟨h1,h2,h3,h4⟩ | ⟨b',c',rfl,rfl,h1,h2,h3⟩⟩:=hv1
  ·simp at h2
  have hc0:∀(j:Nat) (w:Value),(vcells u)[j]? =some w→c'[0+(0:Int).toNat*4+j]? =some w:=fun j w hw=>two_lo h3 hw
  have hc1:∀(j:Nat) (w:Value),(vcells v)[j]? =some w→c'[0+(1:Int).toNat*4+j]? =some w:=fun j w hw=>two_hi h3 hw
  refine zw.assign ?_
  refine WL.nil ?_
  refine WK.un ?_
  refine WC.seq ?_
  refine WC.seq ?_
  refine WC.draw mixed ?_
  refine za.move 0 ?_
  refine za.ix 1 ?_
  refine za.fa 2 ?_
  refine WA.vv 3 rfl (Gv.load1 rfl .here (hc0 3 _ rfl)) ?_
  refine za.len 4 ?_
  refine za.move 5 ?_
  refine za.ix 6 ?_
  refine za.fa 7 ?_
  refine WA.vv 8 rfl (Gv.load1 rfl .here (hc1 3 _ rfl)) ?_
  refine za.len 9 ?_
  refine za.add 10 ?_
  rw[show IntKind.i64.wrap ((u.s.size:Int)+(v.s.size:Int))=((u.s.size+v.s.size:Nat):Int) by rw[wrap_small (by omega) (by omega)];omega]
  refine za.gt 11 ?_
  refine WA.done kr ?_
  refine WK.un ?_
  refine WC.cond rfl (fun hc=>?_) (fun hc=>?_)
  ·have h4:4096<u.s.size+v.s.size:=by have h:=hc;simp at h;omega
   rw[if_pos h4]
   refine WC.region ?_
   refine zw.build ?_
   refine zw.iface ?_
   refine WL.oo (OW.panic rfl ?_)
   refine WK.un ?_
   exact QF.panicP ⟨rfl,rfl,_,Left.of b A r.length cap p a B m cm,rfl⟩ pkA
  ·have h4:¬4096<u.s.size+v.s.size:=by have h:=hc;simp at h;omega
   rw[if_neg h4]
   refine WC.skip ?_
   refine WK.un ?_
   refine WC.draw mixed ?_
   refine za.move 0 ?_
   refine za.nil 1 ?_
   refine za.fa 2 ?_
   refine za.move 3 ?_
   refine za.ix 4 ?_
   refine za.fa 5 ?_
   refine WA.vv 6 rfl (Gv.load1 rfl .here (hc0 3 _ rfl)) ?_
   refine za.move 7 ?_
   refine za.ix 8 ?_
   refine za.fa 9 ?_
   refine WA.vv 10 rfl (Gv.load1 rfl .here (hc1 3 _ rfl)) ?_
   refine WA.pp 11 rfl (Gp.addS rfl rfl (by omega)) ?_
   refine za.build 12 ?_
   refine WA.oo 13 rfl (OW.callK rfl (pushV_fn G b A cap p a B m cm r x (textV (u.s++v.s)) hv2 (by simp at hl;omega)) rfl fun v' G' H' h hg=>?_)
   obtain⟨A2,cap2,x2,he,rfl,rfl,hv3⟩:=h
   cases he
   refine WA.done kr ?_
   refine WK.un ?_
   refine WC.exit ?_
   refine WK.un ?_
   exact QF.p0 (.inr rfl) rfl ⟨rfl,A2,cap2,x2,rfl,hv3,rfl⟩ pkA
theorem plain_ord14 (hv:VVec A cap l x) (hl:l.length≤1000000):Fn Tryz.prog 198 #[.pointer (some ⟨mb,0,none⟩), .pointer (some ⟨b,0,none⟩), .agg #[.string nm, .bool ex,qv, .int .i64 lo, .int .i64 res,cv], .int .i64 14] G
  (mcB mb c1 c2 c3 FA fn fcap en w OA out.length ocap st ed::ox::frB b A l.length cap p a B m cm::x::fx::Hx) (PlR G mb c1 c2 c3 FA fn fcap en w OA ocap st ed out ox fx Hx RL b A cap p a B m cm x (plainR res l 14 out.length)):=by
 refine Fn.enter Tryz.func198 rfl rfl fun w0=>?_
 rw[show plainR res l 14 out.length=onB l fun r u v=>if ordOK u v then .set (r++[truthV (ordS 14 u v)])else .halt 6 by simp[plainR]]
 refine WC.seq ?_
 refine WC.region ?_
 refine WL.oo (OW.box rfl rfl fun b1=>?_)
 refine WL.nil ?_
 refine WK.un ?_
 refine WC.seq ?_
 refine WC.region ?_
 refine zw.move ?_
 refine WL.nil ?_
 refine WK.un ?_
 repeat (first | refine WC.seq ?_ | refine WC.block ?_ | (refine WC.region ?_;refine WL.p (Gp.eqI rfl rfl) kr rfl ?_;refine WL.p (Gp.assign rfl) kr rfl ?_;refine WL.nil ?_;refine WK.un ?_) | refine WC.cond_true rfl ?_ | refine WC.cond_false rfl ?_ | (refine WC.skip ?_;refine WK.un ?_) | (refine WC.exit ?_;refine WK.un ?_))
 refine WC.draw mixed ?_
 refine za.move 0 ?_
 refine za.nil 1 ?_
 refine za.fa 2 ?_
 refine za.move 3 ?_
 refine za.move 4 ?_
 refine za.move 5 ?_
 cases ht:pop2 l with
 | none=>
  have h1:=pop2_len ht
  rw[show onB l _= .halt 6 by rw[onB,ht]]
  refine WA.oo 6 rfl (OW.call rfl (Pk.perm pkA) (ordered_bad G _ b A cap p a B m cm x l 14 (fun r u v e=>by have h5:=congrArg List.length e;simp only[List.length_append,List.length_cons,List.length_nil]at h5;omega) hv hl) rfl (fun v' G' H' h hg=>by cases h.1) (fun ch G' H' h hg=>?_) (fun G' H' h=>by repeat (first | (cases h.1;done) | (cases h;done) | (obtain⟨_,h⟩:=h) | (rcases h with h | h))))
  obtain⟨he,rfl,c,hc,rfl⟩:=h
  cases he
  refine WK.un ?_
  exact QF.panicP ⟨rfl,rfl,_,⟨c,hc,rfl⟩,rfl⟩
 | some rv=>
  obtain⟨r,u,v⟩:=rv
  rw[show onB l _=(if ordOK u v then .set (r++[truthV (ordS 14 u v)])else .halt 6) by rw[onB,ht]]
  obtain rfl:=pop2_some ht
  by_cases hk:ordOK u v
  rotate_left
  ·rw[if_neg hk]
   refine WA.oo 6 rfl (OW.call rfl (Pk.perm pkA) (ordered_bad G _ b A cap p a B m cm x (r++[u,v]) 14 (fun r' u' v' e=>by rw[pop2_snoc]at ht;have:=pop2_snoc r' u' v';rw[←e,pop2_snoc]at this;cases this;exact hk) hv hl) rfl (fun v' G' H' h hg=>by cases h.1) (fun ch G' H' h hg=>?_) (fun G' H' h=>by repeat (first | (cases h.1;done) | (cases h;done) | (obtain⟨_,h⟩:=h) | (rcases h with h | h))))
   obtain⟨he,rfl,c,hc,rfl⟩:=h
   cases he
   refine WK.un ?_
   exact QF.panicP ⟨rfl,rfl,_,⟨c,hc,rfl⟩,rfl⟩
  rw[if_pos hk]
  refine WA.oo 6 rfl (OW.callK rfl (ordered_ok G _ b A cap p a B m cm x r u v 14 hk hv hl) rfl fun v' G' H' h hg=>?_)
  obtain⟨he,rfl,rfl,hv2⟩:=h
  cases he
  refine WA.oo 7 rfl (OW.callR rfl (Hf:=[]) (List.Perm.refl _) (truth_fn G (ordS 14 u v)) rfl (by rintro e G' H' ⟨h,_⟩;exact⟨_,h⟩) fun v' G' H' h hg=>?_)
  obtain⟨he,rfl,rfl⟩:=h
  cases he
  refine WA.oo 8 rfl (OW.callK rfl (pushV_fn G b A cap p a B m cm r x (truthV (ordS 14 u v)) hv2 (by simp at hl;omega)) rfl fun v' G' H' h hg=>?_)
  obtain⟨A2,cap2,x2,he,rfl,rfl,hv3⟩:=h
  cases he
  refine WA.done kr ?_
  refine WK.un ?_
  refine WC.exit ?_
  refine WK.un ?_
  exact QF.p0 (.inr rfl) rfl ⟨rfl,A2,cap2,x2,rfl,hv3,rfl⟩ pkA
theorem plain_ord15 (hv:VVec A cap l x) (hl:l.length≤1000000):Fn Tryz.prog 198 #[.pointer (some ⟨mb,0,none⟩), .pointer (some ⟨b,0,none⟩), .agg #[.string nm, .bool ex,qv, .int .i64 lo, .int .i64 res,cv], .int .i64 15] G
  (mcB mb c1 c2 c3 FA fn fcap en w OA out.length ocap st ed::ox::frB b A l.length cap p a B m cm::x::fx::Hx) (PlR G mb c1 c2 c3 FA fn fcap en w OA ocap st ed out ox fx Hx RL b A cap p a B m cm x (plainR res l 15 out.length)):=by
 refine Fn.enter Tryz.func198 rfl rfl fun w0=>?_
 rw[show plainR res l 15 out.length=onB l fun r u v=>if ordOK u v then .set (r++[truthV (ordS 15 u v)])else .halt 6 by simp[plainR]]
 refine WC.seq ?_
 refine WC.region ?_
 refine WL.oo (OW.box rfl rfl fun b1=>?_)
 refine WL.nil ?_
 refine WK.un ?_
 refine WC.seq ?_
 refine WC.region ?_
 refine zw.move ?_
 refine WL.nil ?_
 refine WK.un ?_
 repeat (first | refine WC.seq ?_ | refine WC.block ?_ | (refine WC.region ?_;refine WL.p (Gp.eqI rfl rfl) kr rfl ?_;refine WL.p (Gp.assign rfl) kr rfl ?_;refine WL.nil ?_;refine WK.un ?_) | refine WC.cond_true rfl ?_ | refine WC.cond_false rfl ?_ | (refine WC.skip ?_;refine WK.un ?_) | (refine WC.exit ?_;refine WK.un ?_))
 refine WC.draw mixed ?_
 refine za.move 0 ?_
 refine za.nil 1 ?_
 refine za.fa 2 ?_
 refine za.move 3 ?_
 refine za.move 4 ?_
 refine za.move 5 ?_
 cases ht:pop2 l with
 | none=>
  have h1:=pop2_len ht
  rw[show onB l _= .halt 6 by rw[onB,ht]]
  refine WA.oo 6 rfl (OW.call rfl (Pk.perm pkA) (ordered_bad G _ b A cap p a B m cm x l 15 (fun r u v e=>by have h5:=congrArg List.length e;simp only[List.length_append,List.length_cons,List.length_nil]at h5;omega) hv hl) rfl (fun v' G' H' h hg=>by cases h.1) (fun ch G' H' h hg=>?_) (fun G' H' h=>by repeat (first | (cases h.1;done) | (cases h;done) | (obtain⟨_,h⟩:=h) | (rcases h with h | h))))
  obtain⟨he,rfl,c,hc,rfl⟩:=h
  cases he
  refine WK.un ?_
  exact QF.panicP ⟨rfl,rfl,_,⟨c,hc,rfl⟩,rfl⟩
 | some rv=>
  obtain⟨r,u,v⟩:=rv
  rw[show onB l _=(if ordOK u v then .set (r++[truthV (ordS 15 u v)])else .halt 6) by rw[onB,ht]]
  obtain rfl:=pop2_some ht
  by_cases hk:ordOK u v
  rotate_left
  ·rw[if_neg hk]
   refine WA.oo 6 rfl (OW.call rfl (Pk.perm pkA) (ordered_bad G _ b A cap p a B m cm x (r++[u,v]) 15 (fun r' u' v' e=>by rw[pop2_snoc]at ht;have:=pop2_snoc r' u' v';rw[←e,pop2_snoc]at this;cases this;exact hk) hv hl) rfl (fun v' G' H' h hg=>by cases h.1) (fun ch G' H' h hg=>?_) (fun G' H' h=>by repeat (first | (cases h.1;done) | (cases h;done) | (obtain⟨_,h⟩:=h) | (rcases h with h | h))))
   obtain⟨he,rfl,c,hc,rfl⟩:=h
   cases he
   refine WK.un ?_
   exact QF.panicP ⟨rfl,rfl,_,⟨c,hc,rfl⟩,rfl⟩
  rw[if_pos hk]
  refine WA.oo 6 rfl (OW.callK rfl (ordered_ok G _ b A cap p a B m cm x r u v 15 hk hv hl) rfl fun v' G' H' h hg=>?_)
  obtain⟨he,rfl,rfl,hv2⟩:=h
  cases he
  refine WA.oo 7 rfl (OW.callR rfl (Hf:=[]) (List.Perm.refl _) (truth_fn G (ordS 15 u v)) rfl (by rintro e G' H' ⟨h,_⟩;exact⟨_,h⟩) fun v' G' H' h hg=>?_)
  obtain⟨he,rfl,rfl⟩:=h
  cases he
  refine WA.oo 8 rfl (OW.callK rfl (pushV_fn G b A cap p a B m cm r x (truthV (ordS 15 u v)) hv2 (by simp at hl;omega)) rfl fun v' G' H' h hg=>?_)
  obtain⟨A2,cap2,x2,he,rfl,rfl,hv3⟩:=h
  cases he
  refine WA.done kr ?_
  refine WK.un ?_
  refine WC.exit ?_
  refine WK.un ?_
  exact QF.p0 (.inr rfl) rfl ⟨rfl,A2,cap2,x2,rfl,hv3,rfl⟩ pkA
theorem plain_ord16 (hv:VVec A cap l x) (hl:l.length≤1000000):Fn Tryz.prog 198 #[.pointer (some ⟨mb,0,none⟩), .pointer (some ⟨b,0,none⟩), .agg #[.string nm, .bool ex,qv, .int .i64 lo, .int .i64 res,cv], .int .i64 16] G
  (mcB mb c1 c2 c3 FA fn fcap en w OA out.length ocap st ed::ox::frB b A l.length cap p a B m cm::x::fx::Hx) (PlR G mb c1 c2 c3 FA fn fcap en w OA ocap st ed out ox fx Hx RL b A cap p a B m cm x (plainR res l 16 out.length)):=by
 refine Fn.enter Tryz.func198 rfl rfl fun w0=>?_
 rw[show plainR res l 16 out.length=onB l fun r u v=>if ordOK u v then .set (r++[truthV (ordS 16 u v)])else .halt 6 by simp[plainR]]
 refine WC.seq ?_
 refine WC.region ?_
 refine WL.oo (OW.box rfl rfl fun b1=>?_)
 refine WL.nil ?_
 refine WK.un ?_
 refine WC.seq ?_
 refine WC.region ?_
 refine zw.move ?_
 refine WL.nil ?_
 refine WK.un ?_
 repeat (first | refine WC.seq ?_ | refine WC.block ?_ | (refine WC.region ?_;refine WL.p (Gp.eqI rfl rfl) kr rfl ?_;refine WL.p (Gp.assign rfl) kr rfl ?_;refine WL.nil ?_;refine WK.un ?_) | refine WC.cond_true rfl ?_ | refine WC.cond_false rfl ?_ | (refine WC.skip ?_;refine WK.un ?_) | (refine WC.exit ?_;refine WK.un ?_))
 refine WC.draw mixed ?_
 refine za.move 0 ?_
 refine za.nil 1 ?_
 refine za.fa 2 ?_
 refine za.move 3 ?_
 refine za.move 4 ?_
 refine za.move 5 ?_
 cases ht:pop2 l with
 | none=>
  have h1:=pop2_len ht
  rw[show onB l _= .halt 6 by rw[onB,ht]]
  refine WA.oo 6 rfl (OW.call rfl (Pk.perm pkA) (ordered_bad G _ b A cap p a B m cm x l 16 (fun r u v e=>by have h5:=congrArg List.length e;simp only[List.length_append,List.length_cons,List.length_nil]at h5;omega) hv hl) rfl (fun v' G' H' h hg=>by cases h.1) (fun ch G' H' h hg=>?_) (fun G' H' h=>by repeat (first | (cases h.1;done) | (cases h;done) | (obtain⟨_,h⟩:=h) | (rcases h with h | h))))
  obtain⟨he,rfl,c,hc,rfl⟩:=h
  cases he
  refine WK.un ?_
  exact QF.panicP ⟨rfl,rfl,_,⟨c,hc,rfl⟩,rfl⟩
 | some rv=>
  obtain⟨r,u,v⟩:=rv
  rw[show onB l _=(if ordOK u v then .set (r++[truthV (ordS 16 u v)])else .halt 6) by rw[onB,ht]]
  obtain rfl:=pop2_some ht
  by_cases hk:ordOK u v
  rotate_left
  ·rw[if_neg hk]
   refine WA.oo 6 rfl (OW.call rfl (Pk.perm pkA) (ordered_bad G _ b A cap p a B m cm x (r++[u,v]) 16 (fun r' u' v' e=>by rw[pop2_snoc]at ht;have:=pop2_snoc r' u' v';rw[←e,pop2_snoc]at this;cases this;exact hk) hv hl) rfl (fun v' G' H' h hg=>by cases h.1) (fun ch G' H' h hg=>?_) (fun G' H' h=>by repeat (first | (cases h.1;done) | (cases h;done) | (obtain⟨_,h⟩:=h) | (rcases h with h | h))))
   obtain⟨he,rfl,c,hc,rfl⟩:=h
   cases he
   refine WK.un ?_
   exact QF.panicP ⟨rfl,rfl,_,⟨c,hc,rfl⟩,rfl⟩
  rw[if_pos hk]
  refine WA.oo 6 rfl (OW.callK rfl (ordered_ok G _ b A cap p a B m cm x r u v 16 hk hv hl) rfl fun v' G' H' h hg=>?_)
  obtain⟨he,rfl,rfl,hv2⟩:=h
  cases he
  refine WA.oo 7 rfl (OW.callR rfl (Hf:=[]) (List.Perm.refl _) (truth_fn G (ordS 16 u v)) rfl (by rintro e G' H' ⟨h,_⟩;exact⟨_,h⟩) fun v' G' H' h hg=>?_)
  obtain⟨he,rfl,rfl⟩:=h
  cases he
  refine WA.oo 8 rfl (OW.callK rfl (pushV_fn G b A cap p a B m cm r x (truthV (ordS 16 u v)) hv2 (by simp at hl;omega)) rfl fun v' G' H' h hg=>?_)
  obtain⟨A2,cap2,x2,he,rfl,rfl,hv3⟩:=h
  cases he
  refine WA.done kr ?_
  refine WK.un ?_
  refine WC.exit ?_
  refine WK.un ?_
  exact QF.p0 (.inr rfl) rfl ⟨rfl,A2,cap2,x2,rfl,hv3,rfl⟩ pkA
theorem plain_ord17 (hv:VVec A cap l x) (hl:l.length≤1000000):Fn Tryz.prog 198 #[.pointer (some ⟨mb,0,none⟩), .pointer (some ⟨b,0,none⟩), .agg #[.string nm, .bool ex,qv, .int .i64 lo, .int .i64 res,cv], .int .i64 17] G
  (mcB mb c1 c2 c3 FA fn fcap en w OA out.length ocap st ed::ox::frB b A l.length cap p a B m cm::x::fx::Hx) (PlR G mb c1 c2 c3 FA fn fcap en w OA ocap st ed out ox fx Hx RL b A cap p a B m cm x (plainR res l 17 out.length)):=by
 refine Fn.enter Tryz.func198 rfl rfl fun w0=>?_
 rw[show plainR res l 17 out.length=onB l fun r u v=>if ordOK u v then .set (r++[truthV (ordS 17 u v)])else .halt 6 by simp[plainR]]
 refine WC.seq ?_
 refine WC.region ?_
 refine WL.oo (OW.box rfl rfl fun b1=>?_)
 refine WL.nil ?_
 refine WK.un ?_
 refine WC.seq ?_
 refine WC.region ?_
 refine zw.move ?_
 refine WL.nil ?_
 refine WK.un ?_
 repeat (first | refine WC.seq ?_ | refine WC.block ?_ | (refine WC.region ?_;refine WL.p (Gp.eqI rfl rfl) kr rfl ?_;refine WL.p (Gp.assign rfl) kr rfl ?_;refine WL.nil ?_;refine WK.un ?_) | refine WC.cond_true rfl ?_ | refine WC.cond_false rfl ?_ | (refine WC.skip ?_;refine WK.un ?_) | (refine WC.exit ?_;refine WK.un ?_))
 refine WC.draw mixed ?_
 refine za.move 0 ?_
 refine za.nil 1 ?_
 refine za.fa 2 ?_
 refine za.move 3 ?_
 refine za.move 4 ?_
 refine za.move 5 ?_
 cases ht:pop2 l with
 | none=>
  have h1:=pop2_len ht
  rw[show onB l _= .halt 6 by rw[onB,ht]]
  refine WA.oo 6 rfl (OW.call rfl (Pk.perm pkA) (ordered_bad G _ b A cap p a B m cm x l 17 (fun r u v e=>by have h5:=congrArg List.length e;simp only[List.length_append,List.length_cons,List.length_nil]at h5;omega) hv hl) rfl (fun v' G' H' h hg=>by cases h.1) (fun ch G' H' h hg=>?_) (fun G' H' h=>by repeat (first | (cases h.1;done) | (cases h;done) | (obtain⟨_,h⟩:=h) | (rcases h with h | h))))
  obtain⟨he,rfl,c,hc,rfl⟩:=h
  cases he
  refine WK.un ?_
  exact QF.panicP ⟨rfl,rfl,_,⟨c,hc,rfl⟩,rfl⟩
 | some rv=>
  obtain⟨r,u,v⟩:=rv
  rw[show onB l _=(if ordOK u v then .set (r++[truthV (ordS 17 u v)])else .halt 6) by rw[onB,ht]]
  obtain rfl:=pop2_some ht
  by_cases hk:ordOK u v
  rotate_left
  ·rw[if_neg hk]
   refine WA.oo 6 rfl (OW.call rfl (Pk.perm pkA) (ordered_bad G _ b A cap p a B m cm x (r++[u,v]) 17 (fun r' u' v' e=>by rw[pop2_snoc]at ht;have:=pop2_snoc r' u' v';rw[←e,pop2_snoc]at this;cases this;exact hk) hv hl) rfl (fun v' G' H' h hg=>by cases h.1) (fun ch G' H' h hg=>?_) (fun G' H' h=>by repeat (first | (cases h.1;done) | (cases h;done) | (obtain⟨_,h⟩:=h) | (rcases h with h | h))))
   obtain⟨he,rfl,c,hc,rfl⟩:=h
   cases he
   refine WK.un ?_
   exact QF.panicP ⟨rfl,rfl,_,⟨c,hc,rfl⟩,rfl⟩
  rw[if_pos hk]
  refine WA.oo 6 rfl (OW.callK rfl (ordered_ok G _ b A cap p a B m cm x r u v 17 hk hv hl) rfl fun v' G' H' h hg=>?_)
  obtain⟨he,rfl,rfl,hv2⟩:=h
  cases he
  refine WA.oo 7 rfl (OW.callR rfl (Hf:=[]) (List.Perm.refl _) (truth_fn G (ordS 17 u v)) rfl (by rintro e G' H' ⟨h,_⟩;exact⟨_,h⟩) fun v' G' H' h hg=>?_)
  obtain⟨he,rfl,rfl⟩:=h
  cases he
  refine WA.oo 8 rfl (OW.callK rfl (pushV_fn G b A cap p a B m cm r x (truthV (ordS 17 u v)) hv2 (by simp at hl;omega)) rfl fun v' G' H' h hg=>?_)
  obtain⟨A2,cap2,x2,he,rfl,rfl,hv3⟩:=h
  cases he
  refine WA.done kr ?_
  refine WK.un ?_
  refine WC.exit ?_
  refine WK.un ?_
  exact QF.p0 (.inr rfl) rfl ⟨rfl,A2,cap2,x2,rfl,hv3,rfl⟩ pkA
theorem plain_rec18 (hv:VVec A cap l x) (hl:l.length≤1000000):Fn Tryz.prog 198 #[.pointer (some ⟨mb,0,none⟩), .pointer (some ⟨b,0,none⟩), .agg #[.string nm, .bool ex,qv, .int .i64 lo, .int .i64 res,cv], .int .i64 18] G
  (mcB mb c1 c2 c3 FA fn fcap en w OA out.length ocap st ed::ox::frB b A l.length cap p a B m cm::x::fx::Hx) (PlR G mb c1 c2 c3 FA fn fcap en w OA ocap st ed out ox fx Hx RL b A cap p a B m cm x (plainR res l 18 out.length)):=by
 refine Fn.enter Tryz.func198 rfl rfl fun w0=>?_
 rw[show plainR res l 18 out.length=on2 l 1 (recR 18) by simp[plainR]]
 refine WC.seq ?_
 refine WC.region ?_
 refine WL.oo (OW.box rfl rfl fun b1=>?_)
 refine WL.nil ?_
 refine WK.un ?_
 refine WC.seq ?_
 refine WC.region ?_
 refine zw.move ?_
 refine WL.nil ?_
 refine WK.un ?_
 repeat (first | refine WC.seq ?_ | refine WC.block ?_ | (refine WC.region ?_;refine WL.p (Gp.eqI rfl rfl) kr rfl ?_;refine WL.p (Gp.assign rfl) kr rfl ?_;refine WL.nil ?_;refine WK.un ?_) | refine WC.cond_true rfl ?_ | refine WC.cond_false rfl ?_ | (refine WC.skip ?_;refine WK.un ?_) | (refine WC.exit ?_;refine WK.un ?_))
 refine WC.region ?_
 refine zw.move ?_
 refine zw.move ?_
 cases ht:ty2 l 1 with
 | none=>
  rw[show on2 l 1 _= .halt 6 by rw[on2,ht]]
  refine WL.oo (OW.call rfl (Pk.perm pkA) (typed2_no G _ b A cap p a B m cm x l 1 ht hv hl) rfl (fun v' G' H' h hg=>by cases h.1) (fun ch G' H' h hg=>?_) (fun G' H' h=>by repeat (first | (cases h.1;done) | (cases h;done) | (obtain⟨_,h⟩:=h) | (rcases h with h | h))))
  obtain⟨he,rfl,c,hc,rfl⟩:=h
  cases he
  refine WK.un ?_
  exact QF.panicP ⟨rfl,rfl,_,⟨c,hc,rfl⟩,rfl⟩
 | some rv=>
  obtain⟨r,u,v⟩:=rv
  rw[show on2 l 1 _=recR 18 r u v by rw[on2,ht]]
  obtain⟨rfl,hut,hvt⟩:=ty2_some ht
  refine WL.oo (OW.callK rfl (typed2_ok G _ b A cap p a B m cm x r u v 1 hut hvt hv hl) rfl fun v' G' H' h hg=>?_)
  obtain⟨A',cap',x',he,rfl,rfl,hv1,hv2⟩:=h
  cases he
  obtain⟨hlv,⟨h1,h2,h3,h4⟩ | ⟨b',c',rfl,rfl,h1,h2,h3⟩⟩:=hv1
  ·simp at h2
  have hc0:∀(j:Nat) (w:Value),(vcells u)[j]? =some w→c'[0+(0:Int).toNat*4+j]? =some w:=fun j w hw=>two_lo h3 hw
  have hc1:∀(j:Nat) (w:Value),(vcells v)[j]? =some w→c'[0+(1:Int).toNat*4+j]? =some w:=fun j w hw=>two_hi h3 hw
  refine zw.assign ?_
  refine WL.nil ?_
  refine WK.un ?_
  refine WC.draw mixed ?_
  refine za.move 0 ?_
  refine za.nil 1 ?_
  refine za.fa 2 ?_
  refine za.move 3 ?_
  refine za.move 4 ?_
  refine za.ix 5 ?_
  refine za.fa 6 ?_
  refine WA.vv 7 rfl (Gv.load1 rfl .here (hc0 1 _ rfl)) ?_
  refine za.move 8 ?_
  refine za.ix 9 ?_
  refine za.fa 10 ?_
  refine WA.vv 11 rfl (Gv.load1 rfl .here (hc1 1 _ rfl)) ?_
  cases hq:reckonS 18 u.i v.i with
  | none=>
   rw[show recR 18 r u v= .halt 2 by rw[recR,hq]]
   refine WA.oo 12 rfl (OW.call rfl (Hf:=[]) (List.Perm.refl _) ((reckon_fn G 18 u.i v.i).mono fun e G' H' h=>(by rw[hq]at h;exact h:e=halted 2∧G=G'∧H'=[])) rfl (fun v G' H' h _=>by cases h.1) (fun ch G' H' h _=>?_) (fun G' H' h=>by cases h.1))
   obtain⟨he,rfl,rfl⟩:=h
   cases he
   refine WK.un ?_
   exact QF.panicP ⟨rfl,rfl,_,Left.of b A r.length cap p a B m cm,rfl⟩ pkA
  | some n=>
   rw[show recR 18 r u v= .set (r++[numV n]) by rw[recR,hq]]
   refine WA.oo 12 rfl (OW.callR rfl (Hf:=[]) (List.Perm.refl _) ((reckon_fn G 18 u.i v.i).mono fun e G' H' h=>(by rw[hq]at h;exact h:e= .returned (.int .i64 n)∧G=G'∧H'=[])) rfl (by rintro e G' H' ⟨h,_⟩;exact⟨_,h⟩) fun v' G' H' h hg=>?_)
   obtain⟨he,rfl,rfl⟩:=h
   cases he
   refine WA.oo 13 rfl (OW.callR rfl (Hf:=[]) (List.Perm.refl _) (number_fnQ G n) rfl (by rintro e G' H' ⟨h,_⟩;exact⟨_,h⟩) fun v' G' H' h hg=>?_)
   obtain⟨he,rfl,rfl⟩:=h
   cases he
   refine WA.oo 14 rfl (OW.callK rfl (pushV_fn G b A cap p a B m cm r x (numV n) hv2 (by simp at hl;omega)) rfl fun v' G' H' h hg=>?_)
   obtain⟨A2,cap2,x2,he,rfl,rfl,hv3⟩:=h
   cases he
   refine WA.done kr ?_
   refine WK.un ?_
   refine WC.exit ?_
   refine WK.un ?_
   exact QF.p0 (.inr rfl) rfl ⟨rfl,A2,cap2,x2,rfl,hv3,rfl⟩ pkA
theorem plain_rec19 (hv:VVec A cap l x) (hl:l.length≤1000000):Fn Tryz.prog 198 #[.pointer (some ⟨mb,0,none⟩), .pointer (some ⟨b,0,none⟩), .agg #[.string nm, .bool ex,qv, .int .i64 lo, .int .i64 res,cv], .int .i64 19] G
  (mcB mb c1 c2 c3 FA fn fcap en w OA out.length ocap st ed::ox::frB b A l.length cap p a B m cm::x::fx::Hx) (PlR G mb c1 c2 c3 FA fn fcap en w OA ocap st ed out ox fx Hx RL b A cap p a B m cm x (plainR res l 19 out.length)):=by
 refine Fn.enter Tryz.func198 rfl rfl fun w0=>?_
 rw[show plainR res l 19 out.length=on2 l 1 (recR 19) by simp[plainR]]
 refine WC.seq ?_
 refine WC.region ?_
 refine WL.oo (OW.box rfl rfl fun b1=>?_)
 refine WL.nil ?_
 refine WK.un ?_
 refine WC.seq ?_
 refine WC.region ?_
 refine zw.move ?_
 refine WL.nil ?_
 refine WK.un ?_
 repeat (first | refine WC.seq ?_ | refine WC.block ?_ | (refine WC.region ?_;refine WL.p (Gp.eqI rfl rfl) kr rfl ?_;refine WL.p (Gp.assign rfl) kr rfl ?_;refine WL.nil ?_;refine WK.un ?_) | refine WC.cond_true rfl ?_ | refine WC.cond_false rfl ?_ | (refine WC.skip ?_;refine WK.un ?_) | (refine WC.exit ?_;refine WK.un ?_))
 refine WC.region ?_
 refine zw.move ?_
 refine zw.move ?_
 cases ht:ty2 l 1 with
 | none=>
  rw[show on2 l 1 _= .halt 6 by rw[on2,ht]]
  refine WL.oo (OW.call rfl (Pk.perm pkA) (typed2_no G _ b A cap p a B m cm x l 1 ht hv hl) rfl (fun v' G' H' h hg=>by cases h.1) (fun ch G' H' h hg=>?_) (fun G' H' h=>by repeat (first | (cases h.1;done) | (cases h;done) | (obtain⟨_,h⟩:=h) | (rcases h with h | h))))
  obtain⟨he,rfl,c,hc,rfl⟩:=h
  cases he
  refine WK.un ?_
  exact QF.panicP ⟨rfl,rfl,_,⟨c,hc,rfl⟩,rfl⟩
 | some rv=>
  obtain⟨r,u,v⟩:=rv
  rw[show on2 l 1 _=recR 19 r u v by rw[on2,ht]]
  obtain⟨rfl,hut,hvt⟩:=ty2_some ht
  refine WL.oo (OW.callK rfl (typed2_ok G _ b A cap p a B m cm x r u v 1 hut hvt hv hl) rfl fun v' G' H' h hg=>?_)
  obtain⟨A',cap',x',he,rfl,rfl,hv1,hv2⟩:=h
  cases he
  obtain⟨hlv,⟨h1,h2,h3,h4⟩ | ⟨b',c',rfl,rfl,h1,h2,h3⟩⟩:=hv1
  ·simp at h2
  have hc0:∀(j:Nat) (w:Value),(vcells u)[j]? =some w→c'[0+(0:Int).toNat*4+j]? =some w:=fun j w hw=>two_lo h3 hw
  have hc1:∀(j:Nat) (w:Value),(vcells v)[j]? =some w→c'[0+(1:Int).toNat*4+j]? =some w:=fun j w hw=>two_hi h3 hw
  refine zw.assign ?_
  refine WL.nil ?_
  refine WK.un ?_
  refine WC.draw mixed ?_
  refine za.move 0 ?_
  refine za.nil 1 ?_
  refine za.fa 2 ?_
  refine za.move 3 ?_
  refine za.move 4 ?_
  refine za.ix 5 ?_
  refine za.fa 6 ?_
  refine WA.vv 7 rfl (Gv.load1 rfl .here (hc0 1 _ rfl)) ?_
  refine za.move 8 ?_
  refine za.ix 9 ?_
  refine za.fa 10 ?_
  refine WA.vv 11 rfl (Gv.load1 rfl .here (hc1 1 _ rfl)) ?_
  cases hq:reckonS 19 u.i v.i with
  | none=>
   rw[show recR 19 r u v= .halt 2 by rw[recR,hq]]
   refine WA.oo 12 rfl (OW.call rfl (Hf:=[]) (List.Perm.refl _) ((reckon_fn G 19 u.i v.i).mono fun e G' H' h=>(by rw[hq]at h;exact h:e=halted 2∧G=G'∧H'=[])) rfl (fun v G' H' h _=>by cases h.1) (fun ch G' H' h _=>?_) (fun G' H' h=>by cases h.1))
   obtain⟨he,rfl,rfl⟩:=h
   cases he
   refine WK.un ?_
   exact QF.panicP ⟨rfl,rfl,_,Left.of b A r.length cap p a B m cm,rfl⟩ pkA
  | some n=>
   rw[show recR 19 r u v= .set (r++[numV n]) by rw[recR,hq]]
   refine WA.oo 12 rfl (OW.callR rfl (Hf:=[]) (List.Perm.refl _) ((reckon_fn G 19 u.i v.i).mono fun e G' H' h=>(by rw[hq]at h;exact h:e= .returned (.int .i64 n)∧G=G'∧H'=[])) rfl (by rintro e G' H' ⟨h,_⟩;exact⟨_,h⟩) fun v' G' H' h hg=>?_)
   obtain⟨he,rfl,rfl⟩:=h
   cases he
   refine WA.oo 13 rfl (OW.callR rfl (Hf:=[]) (List.Perm.refl _) (number_fnQ G n) rfl (by rintro e G' H' ⟨h,_⟩;exact⟨_,h⟩) fun v' G' H' h hg=>?_)
   obtain⟨he,rfl,rfl⟩:=h
   cases he
   refine WA.oo 14 rfl (OW.callK rfl (pushV_fn G b A cap p a B m cm r x (numV n) hv2 (by simp at hl;omega)) rfl fun v' G' H' h hg=>?_)
   obtain⟨A2,cap2,x2,he,rfl,rfl,hv3⟩:=h
   cases he
   refine WA.done kr ?_
   refine WK.un ?_
   refine WC.exit ?_
   refine WK.un ?_
   exact QF.p0 (.inr rfl) rfl ⟨rfl,A2,cap2,x2,rfl,hv3,rfl⟩ pkA
theorem plain_rec21 (hv:VVec A cap l x) (hl:l.length≤1000000):Fn Tryz.prog 198 #[.pointer (some ⟨mb,0,none⟩), .pointer (some ⟨b,0,none⟩), .agg #[.string nm, .bool ex,qv, .int .i64 lo, .int .i64 res,cv], .int .i64 21] G
  (mcB mb c1 c2 c3 FA fn fcap en w OA out.length ocap st ed::ox::frB b A l.length cap p a B m cm::x::fx::Hx) (PlR G mb c1 c2 c3 FA fn fcap en w OA ocap st ed out ox fx Hx RL b A cap p a B m cm x (plainR res l 21 out.length)):=by
 refine Fn.enter Tryz.func198 rfl rfl fun w0=>?_
 rw[show plainR res l 21 out.length=on2 l 1 (recR 21) by simp[plainR]]
 refine WC.seq ?_
 refine WC.region ?_
 refine WL.oo (OW.box rfl rfl fun b1=>?_)
 refine WL.nil ?_
 refine WK.un ?_
 refine WC.seq ?_
 refine WC.region ?_
 refine zw.move ?_
 refine WL.nil ?_
 refine WK.un ?_
 repeat (first | refine WC.seq ?_ | refine WC.block ?_ | (refine WC.region ?_;refine WL.p (Gp.eqI rfl rfl) kr rfl ?_;refine WL.p (Gp.assign rfl) kr rfl ?_;refine WL.nil ?_;refine WK.un ?_) | refine WC.cond_true rfl ?_ | refine WC.cond_false rfl ?_ | (refine WC.skip ?_;refine WK.un ?_) | (refine WC.exit ?_;refine WK.un ?_))
 refine WC.region ?_
 refine zw.move ?_
 refine zw.move ?_
 cases ht:ty2 l 1 with
 | none=>
  rw[show on2 l 1 _= .halt 6 by rw[on2,ht]]
  refine WL.oo (OW.call rfl (Pk.perm pkA) (typed2_no G _ b A cap p a B m cm x l 1 ht hv hl) rfl (fun v' G' H' h hg=>by cases h.1) (fun ch G' H' h hg=>?_) (fun G' H' h=>by repeat (first | (cases h.1;done) | (cases h;done) | (obtain⟨_,h⟩:=h) | (rcases h with h | h))))
  obtain⟨he,rfl,c,hc,rfl⟩:=h
  cases he
  refine WK.un ?_
  exact QF.panicP ⟨rfl,rfl,_,⟨c,hc,rfl⟩,rfl⟩
 | some rv=>
  obtain⟨r,u,v⟩:=rv
  rw[show on2 l 1 _=recR 21 r u v by rw[on2,ht]]
  obtain⟨rfl,hut,hvt⟩:=ty2_some ht
  refine WL.oo (OW.callK rfl (typed2_ok G _ b A cap p a B m cm x r u v 1 hut hvt hv hl) rfl fun v' G' H' h hg=>?_)
  obtain⟨A',cap',x',he,rfl,rfl,hv1,hv2⟩:=h
  cases he
  obtain⟨hlv,⟨h1,h2,h3,h4⟩ | ⟨b',c',rfl,rfl,h1,h2,h3⟩⟩:=hv1
  ·simp at h2
  have hc0:∀(j:Nat) (w:Value),(vcells u)[j]? =some w→c'[0+(0:Int).toNat*4+j]? =some w:=fun j w hw=>two_lo h3 hw
  have hc1:∀(j:Nat) (w:Value),(vcells v)[j]? =some w→c'[0+(1:Int).toNat*4+j]? =some w:=fun j w hw=>two_hi h3 hw
  refine zw.assign ?_
  refine WL.nil ?_
  refine WK.un ?_
  refine WC.draw mixed ?_
  refine za.move 0 ?_
  refine za.nil 1 ?_
  refine za.fa 2 ?_
  refine za.move 3 ?_
  refine za.move 4 ?_
  refine za.ix 5 ?_
  refine za.fa 6 ?_
  refine WA.vv 7 rfl (Gv.load1 rfl .here (hc0 1 _ rfl)) ?_
  refine za.move 8 ?_
  refine za.ix 9 ?_
  refine za.fa 10 ?_
  refine WA.vv 11 rfl (Gv.load1 rfl .here (hc1 1 _ rfl)) ?_
  cases hq:reckonS 21 u.i v.i with
  | none=>
   rw[show recR 21 r u v= .halt 2 by rw[recR,hq]]
   refine WA.oo 12 rfl (OW.call rfl (Hf:=[]) (List.Perm.refl _) ((reckon_fn G 21 u.i v.i).mono fun e G' H' h=>(by rw[hq]at h;exact h:e=halted 2∧G=G'∧H'=[])) rfl (fun v G' H' h _=>by cases h.1) (fun ch G' H' h _=>?_) (fun G' H' h=>by cases h.1))
   obtain⟨he,rfl,rfl⟩:=h
   cases he
   refine WK.un ?_
   exact QF.panicP ⟨rfl,rfl,_,Left.of b A r.length cap p a B m cm,rfl⟩ pkA
  | some n=>
   rw[show recR 21 r u v= .set (r++[numV n]) by rw[recR,hq]]
   refine WA.oo 12 rfl (OW.callR rfl (Hf:=[]) (List.Perm.refl _) ((reckon_fn G 21 u.i v.i).mono fun e G' H' h=>(by rw[hq]at h;exact h:e= .returned (.int .i64 n)∧G=G'∧H'=[])) rfl (by rintro e G' H' ⟨h,_⟩;exact⟨_,h⟩) fun v' G' H' h hg=>?_)
   obtain⟨he,rfl,rfl⟩:=h
   cases he
   refine WA.oo 13 rfl (OW.callR rfl (Hf:=[]) (List.Perm.refl _) (number_fnQ G n) rfl (by rintro e G' H' ⟨h,_⟩;exact⟨_,h⟩) fun v' G' H' h hg=>?_)
   obtain⟨he,rfl,rfl⟩:=h
   cases he
   refine WA.oo 14 rfl (OW.callK rfl (pushV_fn G b A cap p a B m cm r x (numV n) hv2 (by simp at hl;omega)) rfl fun v' G' H' h hg=>?_)
   obtain⟨A2,cap2,x2,he,rfl,rfl,hv3⟩:=h
   cases he
   refine WA.done kr ?_
   refine WK.un ?_
   refine WC.exit ?_
   refine WK.un ?_
   exact QF.p0 (.inr rfl) rfl ⟨rfl,A2,cap2,x2,rfl,hv3,rfl⟩ pkA
theorem plain_rec22 (hv:VVec A cap l x) (hl:l.length≤1000000):Fn Tryz.prog 198 #[.pointer (some ⟨mb,0,none⟩), .pointer (some ⟨b,0,none⟩), .agg #[.string nm, .bool ex,qv, .int .i64 lo, .int .i64 res,cv], .int .i64 22] G
  (mcB mb c1 c2 c3 FA fn fcap en w OA out.length ocap st ed::ox::frB b A l.length cap p a B m cm::x::fx::Hx) (PlR G mb c1 c2 c3 FA fn fcap en w OA ocap st ed out ox fx Hx RL b A cap p a B m cm x (plainR res l 22 out.length)):=by
 refine Fn.enter Tryz.func198 rfl rfl fun w0=>?_
 rw[show plainR res l 22 out.length=on2 l 1 (recR 22) by simp[plainR]]
 refine WC.seq ?_
 refine WC.region ?_
 refine WL.oo (OW.box rfl rfl fun b1=>?_)
 refine WL.nil ?_
 refine WK.un ?_
 refine WC.seq ?_
 refine WC.region ?_
 refine zw.move ?_
 refine WL.nil ?_
 refine WK.un ?_
 repeat (first | refine WC.seq ?_ | refine WC.block ?_ | (refine WC.region ?_;refine WL.p (Gp.eqI rfl rfl) kr rfl ?_;refine WL.p (Gp.assign rfl) kr rfl ?_;refine WL.nil ?_;refine WK.un ?_) | refine WC.cond_true rfl ?_ | refine WC.cond_false rfl ?_ | (refine WC.skip ?_;refine WK.un ?_) | (refine WC.exit ?_;refine WK.un ?_))
 refine WC.region ?_
 refine zw.move ?_
 refine zw.move ?_
 cases ht:ty2 l 1 with
 | none=>
  rw[show on2 l 1 _= .halt 6 by rw[on2,ht]]
  refine WL.oo (OW.call rfl (Pk.perm pkA) (typed2_no G _ b A cap p a B m cm x l 1 ht hv hl) rfl (fun v' G' H' h hg=>by cases h.1) (fun ch G' H' h hg=>?_) (fun G' H' h=>by repeat (first | (cases h.1;done) | (cases h;done) | (obtain⟨_,h⟩:=h) | (rcases h with h | h))))
  obtain⟨he,rfl,c,hc,rfl⟩:=h
  cases he
  refine WK.un ?_
  exact QF.panicP ⟨rfl,rfl,_,⟨c,hc,rfl⟩,rfl⟩
 | some rv=>
  obtain⟨r,u,v⟩:=rv
  rw[show on2 l 1 _=recR 22 r u v by rw[on2,ht]]
  obtain⟨rfl,hut,hvt⟩:=ty2_some ht
  refine WL.oo (OW.callK rfl (typed2_ok G _ b A cap p a B m cm x r u v 1 hut hvt hv hl) rfl fun v' G' H' h hg=>?_)
  obtain⟨A',cap',x',he,rfl,rfl,hv1,hv2⟩:=h
  cases he
  obtain⟨hlv,⟨h1,h2,h3,h4⟩ | ⟨b',c',rfl,rfl,h1,h2,h3⟩⟩:=hv1
  ·simp at h2
  have hc0:∀(j:Nat) (w:Value),(vcells u)[j]? =some w→c'[0+(0:Int).toNat*4+j]? =some w:=fun j w hw=>two_lo h3 hw
  have hc1:∀(j:Nat) (w:Value),(vcells v)[j]? =some w→c'[0+(1:Int).toNat*4+j]? =some w:=fun j w hw=>two_hi h3 hw
  refine zw.assign ?_
  refine WL.nil ?_
  refine WK.un ?_
  refine WC.draw mixed ?_
  refine za.move 0 ?_
  refine za.nil 1 ?_
  refine za.fa 2 ?_
  refine za.move 3 ?_
  refine za.move 4 ?_
  refine za.ix 5 ?_
  refine za.fa 6 ?_
  refine WA.vv 7 rfl (Gv.load1 rfl .here (hc0 1 _ rfl)) ?_
  refine za.move 8 ?_
  refine za.ix 9 ?_
  refine za.fa 10 ?_
  refine WA.vv 11 rfl (Gv.load1 rfl .here (hc1 1 _ rfl)) ?_
  cases hq:reckonS 22 u.i v.i with
  | none=>
   rw[show recR 22 r u v= .halt 2 by rw[recR,hq]]
   refine WA.oo 12 rfl (OW.call rfl (Hf:=[]) (List.Perm.refl _) ((reckon_fn G 22 u.i v.i).mono fun e G' H' h=>(by rw[hq]at h;exact h:e=halted 2∧G=G'∧H'=[])) rfl (fun v G' H' h _=>by cases h.1) (fun ch G' H' h _=>?_) (fun G' H' h=>by cases h.1))
   obtain⟨he,rfl,rfl⟩:=h
   cases he
   refine WK.un ?_
   exact QF.panicP ⟨rfl,rfl,_,Left.of b A r.length cap p a B m cm,rfl⟩ pkA
  | some n=>
   rw[show recR 22 r u v= .set (r++[numV n]) by rw[recR,hq]]
   refine WA.oo 12 rfl (OW.callR rfl (Hf:=[]) (List.Perm.refl _) ((reckon_fn G 22 u.i v.i).mono fun e G' H' h=>(by rw[hq]at h;exact h:e= .returned (.int .i64 n)∧G=G'∧H'=[])) rfl (by rintro e G' H' ⟨h,_⟩;exact⟨_,h⟩) fun v' G' H' h hg=>?_)
   obtain⟨he,rfl,rfl⟩:=h
   cases he
   refine WA.oo 13 rfl (OW.callR rfl (Hf:=[]) (List.Perm.refl _) (number_fnQ G n) rfl (by rintro e G' H' ⟨h,_⟩;exact⟨_,h⟩) fun v' G' H' h hg=>?_)
   obtain⟨he,rfl,rfl⟩:=h
   cases he
   refine WA.oo 14 rfl (OW.callK rfl (pushV_fn G b A cap p a B m cm r x (numV n) hv2 (by simp at hl;omega)) rfl fun v' G' H' h hg=>?_)
   obtain⟨A2,cap2,x2,he,rfl,rfl,hv3⟩:=h
   cases he
   refine WA.done kr ?_
   refine WK.un ?_
   refine WC.exit ?_
   refine WK.un ?_
   exact QF.p0 (.inr rfl) rfl ⟨rfl,A2,cap2,x2,rfl,hv3,rfl⟩ pkA
theorem plain_rec23 (hv:VVec A cap l x) (hl:l.length≤1000000):Fn Tryz.prog 198 #[.pointer (some ⟨mb,0,none⟩), .pointer (some ⟨b,0,none⟩), .agg #[.string nm, .bool ex,qv, .int .i64 lo, .int .i64 res,cv], .int .i64 23] G
  (mcB mb c1 c2 c3 FA fn fcap en w OA out.length ocap st ed::ox::frB b A l.length cap p a B m cm::x::fx::Hx) (PlR G mb c1 c2 c3 FA fn fcap en w OA ocap st ed out ox fx Hx RL b A cap p a B m cm x (plainR res l 23 out.length)):=by
 refine Fn.enter Tryz.func198 rfl rfl fun w0=>?_
 rw[show plainR res l 23 out.length=on2 l 1 (recR 23) by simp[plainR]]
 refine WC.seq ?_
 refine WC.region ?_
 refine WL.oo (OW.box rfl rfl fun b1=>?_)
 refine WL.nil ?_
 refine WK.un ?_
 refine WC.seq ?_
 refine WC.region ?_
 refine zw.move ?_
 refine WL.nil ?_
 refine WK.un ?_
 repeat (first | refine WC.seq ?_ | refine WC.block ?_ | (refine WC.region ?_;refine WL.p (Gp.eqI rfl rfl) kr rfl ?_;refine WL.p (Gp.assign rfl) kr rfl ?_;refine WL.nil ?_;refine WK.un ?_) | refine WC.cond_true rfl ?_ | refine WC.cond_false rfl ?_ | (refine WC.skip ?_;refine WK.un ?_) | (refine WC.exit ?_;refine WK.un ?_))
 refine WC.region ?_
 refine zw.move ?_
 refine zw.move ?_
 cases ht:ty2 l 1 with
 | none=>
  rw[show on2 l 1 _= .halt 6 by rw[on2,ht]]
  refine WL.oo (OW.call rfl (Pk.perm pkA) (typed2_no G _ b A cap p a B m cm x l 1 ht hv hl) rfl (fun v' G' H' h hg=>by cases h.1) (fun ch G' H' h hg=>?_) (fun G' H' h=>by repeat (first | (cases h.1;done) | (cases h;done) | (obtain⟨_,h⟩:=h) | (rcases h with h | h))))
  obtain⟨he,rfl,c,hc,rfl⟩:=h
  cases he
  refine WK.un ?_
  exact QF.panicP ⟨rfl,rfl,_,⟨c,hc,rfl⟩,rfl⟩
 | some rv=>
  obtain⟨r,u,v⟩:=rv
  rw[show on2 l 1 _=recR 23 r u v by rw[on2,ht]]
  obtain⟨rfl,hut,hvt⟩:=ty2_some ht
  refine WL.oo (OW.callK rfl (typed2_ok G _ b A cap p a B m cm x r u v 1 hut hvt hv hl) rfl fun v' G' H' h hg=>?_)
  obtain⟨A',cap',x',he,rfl,rfl,hv1,hv2⟩:=h
  cases he
  obtain⟨hlv,⟨h1,h2,h3,h4⟩ | ⟨b',c',rfl,rfl,h1,h2,h3⟩⟩:=hv1
  ·simp at h2
  have hc0:∀(j:Nat) (w:Value),(vcells u)[j]? =some w→c'[0+(0:Int).toNat*4+j]? =some w:=fun j w hw=>two_lo h3 hw
  have hc1:∀(j:Nat) (w:Value),(vcells v)[j]? =some w→c'[0+(1:Int).toNat*4+j]? =some w:=fun j w hw=>two_hi h3 hw
  refine zw.assign ?_
  refine WL.nil ?_
  refine WK.un ?_
  refine WC.draw mixed ?_
  refine za.move 0 ?_
  refine za.nil 1 ?_
  refine za.fa 2 ?_
  refine za.move 3 ?_
  refine za.move 4 ?_
  refine za.ix 5 ?_
  refine za.fa 6 ?_
  refine WA.vv 7 rfl (Gv.load1 rfl .here (hc0 1 _ rfl)) ?_
  refine za.move 8 ?_
  refine za.ix 9 ?_
  refine za.fa 10 ?_
  refine WA.vv 11 rfl (Gv.load1 rfl .here (hc1 1 _ rfl)) ?_
  cases hq:reckonS 23 u.i v.i with
  | none=>
   rw[show recR 23 r u v= .halt 2 by rw[recR,hq]]
   refine WA.oo 12 rfl (OW.call rfl (Hf:=[]) (List.Perm.refl _) ((reckon_fn G 23 u.i v.i).mono fun e G' H' h=>(by rw[hq]at h;exact h:e=halted 2∧G=G'∧H'=[])) rfl (fun v G' H' h _=>by cases h.1) (fun ch G' H' h _=>?_) (fun G' H' h=>by cases h.1))
   obtain⟨he,rfl,rfl⟩:=h
   cases he
   refine WK.un ?_
   exact QF.panicP ⟨rfl,rfl,_,Left.of b A r.length cap p a B m cm,rfl⟩ pkA
  | some n=>
   rw[show recR 23 r u v= .set (r++[numV n]) by rw[recR,hq]]
   refine WA.oo 12 rfl (OW.callR rfl (Hf:=[]) (List.Perm.refl _) ((reckon_fn G 23 u.i v.i).mono fun e G' H' h=>(by rw[hq]at h;exact h:e= .returned (.int .i64 n)∧G=G'∧H'=[])) rfl (by rintro e G' H' ⟨h,_⟩;exact⟨_,h⟩) fun v' G' H' h hg=>?_)
   obtain⟨he,rfl,rfl⟩:=h
   cases he
   refine WA.oo 13 rfl (OW.callR rfl (Hf:=[]) (List.Perm.refl _) (number_fnQ G n) rfl (by rintro e G' H' ⟨h,_⟩;exact⟨_,h⟩) fun v' G' H' h hg=>?_)
   obtain⟨he,rfl,rfl⟩:=h
   cases he
   refine WA.oo 14 rfl (OW.callK rfl (pushV_fn G b A cap p a B m cm r x (numV n) hv2 (by simp at hl;omega)) rfl fun v' G' H' h hg=>?_)
   obtain⟨A2,cap2,x2,he,rfl,rfl,hv3⟩:=h
   cases he
   refine WA.done kr ?_
   refine WK.un ?_
   refine WC.exit ?_
   refine WK.un ?_
   exact QF.p0 (.inr rfl) rfl ⟨rfl,A2,cap2,x2,rfl,hv3,rfl⟩ pkA
end
end
end Go.Proofs.YtcnlkfocbbkdhaaGreatDoor.Gb
