/- What is taken from the stack, and laid there. Values of a type are taken; two are compared. Two values are compared by their order. A program and a machine in memory; frames are entered, copied, found. A frame is entered. A procedure is called. A frame is left. Two values are held against one another; too few for an operation; what an instruction without a number comes to. Instructions without a number: dropped, left, printed. Any instruction without a number. An instruction is carried out, 1: constants, variables. An instruction is carried out, 2. An instruction is carried out, whichever it is. A step: what was put off, and the step itself. A step. A machine: what it is, in memory, and what a step makes of it. What holds of a machine at each step. Many steps; what a machine tells. -/
import Derived.Test.YtcnlkfocbbkdhaaGreatDoorVg
set_option linter.unusedVariables false
set_option linter.unusedSimpArgs false
set_option linter.unusedSectionVars false
namespace Go.Proofs.YtcnlkfocbbkdhaaGreatDoor.Gb
open Go Go.Proofs
section
attribute [local irreducible] Tryz.prog
abbrev frB (b:Nat) (A:Option Addr) (n cap:Nat) (p a:Int) (B:Option Addr) (m cm:Nat):Own:= .blk b (.cells (frC A n cap p a B m cm) 245 (0,0))
abbrev VVec (A:Option Addr) (cap:Nat) (l:List V) (x:Own):Prop:=Vec 52 4 A l.length cap (vflat l) x
def Left (b:Nat) (H:List Own):Prop:=∃c:Array Value,c.size=4∧H=[.blk b (.cells c 245 (0,0))]
theorem Left.of (b:Nat) (A:Option Addr) (n cap:Nat) (p a:Int) (B:Option Addr) (m cm:Nat):Left b [frB b A n cap p a B m cm]:=⟨_,rfl,rfl⟩
theorem lay_ok (G:Gh) (mv:Value) (b:Nat) (A:Option Addr) (cap:Nat) (p a:Int) (B:Option Addr) (m cm:Nat) (l:List V) (x:Own) (v:V) (hv:VVec A cap l x) (hb:l.length<128):
  Fn Tryz.prog 194 #[mv, .pointer (some ⟨b,0,none⟩), .agg #[.int .i64 v.t, .int .i64 v.i, .bool v.b, .string v.s]] G [frB b A l.length cap p a B m cm,x]
   fun e G' H'=>∃A' cap' x',e= .returned (.tuple #[])∧G=G'∧H'=[frB b A' (l++[v]).length cap' p a B m cm,x']∧VVec A' cap' (l++[v]) x':=by
 refine Fn.enter Tryz.func194 rfl rfl fun w0=>?_
 refine WC.seq ?_
 refine WC.region ?_
 refine WL.oo (OW.box rfl rfl fun b1=>?_)
 refine WL.nil ?_
 refine WK.un ?_
 refine WC.seq ?_
 refine WC.region ?_
 refine zw.move ?_
 refine zw.nil ?_
 refine zw.fa ?_
 refine WL.oo (OW.callR rfl (perm_at (.there .here)) (high_fn G _ _ _ _ _ _ _ _ _) rfl (by rintro e G' H' ⟨h,_⟩;exact⟨_,h⟩) fun v' G' H' h hg=>?_)
 obtain⟨he,rfl,rfl⟩:=h
 cases he
 refine zw.lt ?_
 rw[show decide ((l.length:Int)<128)=true by simp;omega]
 refine WL.oo (OW.callR rfl (Hf:=[]) (List.Perm.refl _) (need_ok G) rfl (by rintro e G' H' ⟨h,_⟩;exact⟨_,h⟩) fun v' G' H' h hg=>?_)
 obtain⟨he,rfl,rfl⟩:=h
 cases he
 refine WL.nil ?_
 refine WK.un ?_
 refine WC.draw mixed ?_
 refine za.move 0 ?_
 refine za.nil 1 ?_
 refine za.fa 2 ?_
 refine za.ld 3 ?_
 refine WA.oo 4 rfl (OW.callR rfl (Hf:=[frB b A l.length cap p a B m cm,x]) (F:=[.blk b1 _]) (List.Perm.cons _ (List.Perm.swap _ _ _)) (push_fn G b A l.length cap p a B m cm (vflat l) x v hv (by omega)) rfl (by rintro e G' H' ⟨_,_,_,h,_⟩;exact⟨_,h⟩) fun v' G' H' h hg=>?_)
 obtain⟨A',cap',x',he,rfl,rfl,hv'⟩:=h
 cases he
 refine WA.done kr ?_
 refine WK.un ?_
 exact QF.ret0 (.inr rfl) rfl (H':=[frB b A' (l.length+1) cap' p a B m cm,x']) (by exact .cons_cons _ (.cons_cons _ (List.nil_sublist _))) ⟨A',cap',x',rfl,rfl,by simp,by
  have e1:vflat (l++[v])=vflat l++vcells v:=by rw[vflat_append];simp[vflat]
  have e2:(l++[v]).length=l.length+1:=by simp
  unfold VVec;rw[e1,e2];exact hv'⟩
theorem lay_no (G:Gh) (mv:Value) (b:Nat) (A:Option Addr) (n cap:Nat) (p a:Int) (B:Option Addr) (m cm:Nat) (vv:Value) (hb:128≤n):
  Fn Tryz.prog 194 #[mv, .pointer (some ⟨b,0,none⟩),vv] G [frB b A n cap p a B m cm]
   fun e G' H'=>e=halted 6∧G=G'∧Left b H':=by
 refine Fn.enter Tryz.func194 rfl rfl fun w0=>?_
 refine WC.seq ?_
 refine WC.region ?_
 refine WL.oo (OW.box rfl rfl fun b1=>?_)
 refine WL.nil ?_
 refine WK.un ?_
 refine WC.seq ?_
 refine WC.region ?_
 refine zw.move ?_
 refine zw.nil ?_
 refine zw.fa ?_
 refine WL.oo (OW.callR rfl (perm_at (.there .here)) (high_fn G _ _ _ _ _ _ _ _ _) rfl (by rintro e G' H' ⟨h,_⟩;exact⟨_,h⟩) fun v' G' H' h hg=>?_)
 obtain⟨he,rfl,rfl⟩:=h
 cases he
 refine zw.lt ?_
 rw[show decide ((n:Int)<128)=false by simp;omega]
 refine WL.oo (OW.call rfl (Hf:=[]) (List.Perm.refl _) (need_no G) rfl (fun v G' H' h _=>by cases h.1) (fun ch G' H' h _=>?_) (fun G' H' h=>by cases h.1))
 obtain⟨he,rfl,rfl⟩:=h
 cases he
 refine WK.un ?_
 exact QF.panic (H':=[frB b A n cap p a B m cm]) (by exact .cons_cons _ (List.nil_sublist _)) ⟨rfl,rfl,Left.of ..⟩
theorem take_ok (G:Gh) (mv:Value) (b:Nat) (A:Option Addr) (cap:Nat) (p a:Int) (B:Option Addr) (m cm:Nat) (l1 l2:List V) (x:Own) (hv:VVec A cap (l1++l2) x) (hb:l1.length+l2.length≤1000000000):
  Fn Tryz.prog 195 #[mv, .pointer (some ⟨b,0,none⟩), .int .i64 l2.length] G [frB b A (l1++l2).length cap p a B m cm,x]
   fun e G' H'=>∃A' cap' x',e= .returned (.slice A' l2.length cap')∧G=G'∧H'=[x',frB b A l1.length cap p a B m cm,x]∧VVec A' cap' l2 x'∧VVec A cap l1 x:=by
 have e0:(l1++l2).length=l1.length+l2.length:=List.length_append
 rw[e0]
 unfold VVec at hv
 rw[e0]at hv
 refine Fn.enter Tryz.func195 rfl rfl fun w0=>?_
 refine WC.seq ?_
 refine WC.region ?_
 refine zw.assign ?_
 refine WL.nil ?_
 refine WK.un ?_
 refine WC.seq ?_
 refine WC.region ?_
 refine zw.move ?_
 refine zw.nil ?_
 refine zw.fa ?_
 refine WL.oo (OW.callR rfl (perm_at .here) (high_fn G _ _ _ _ _ _ _ _ _) rfl (by rintro e G' H' ⟨h,_⟩;exact⟨_,h⟩) fun v' G' H' h hg=>?_)
 obtain⟨he,rfl,rfl⟩:=h
 cases he
 refine zw.move ?_
 refine zw.ge ?_
 rw[show decide ((l2.length:Int)≤((l1.length+l2.length:Nat):Int))=true by simp;omega]
 refine WL.oo (OW.callR rfl (Hf:=[]) (List.Perm.refl _) (need_ok G) rfl (by rintro e G' H' ⟨h,_⟩;exact⟨_,h⟩) fun v' G' H' h hg=>?_)
 obtain⟨he,rfl,rfl⟩:=h
 cases he
 refine WL.nil ?_
 refine WK.un ?_
 refine WC.seq ?_
 refine WC.region ?_
 refine zw.move ?_
 refine zw.nil ?_
 refine zw.fa ?_
 refine zw.move ?_
 refine WL.oo (OW.callR rfl (perm_all _) (pop_fn G b A cap p a B m cm l1 l2 x hv hb) rfl (by rintro e G' H' ⟨_,_,_,h,_⟩;exact⟨_,h⟩) fun v' G' H' h hg=>?_)
 obtain⟨A',cap',x',he,rfl,rfl,hv1,hv2⟩:=h
 cases he
 refine zw.assign ?_
 refine WL.nil ?_
 refine WK.un ?_
 refine WC.ret ?_
 (refine WK.un ?_)
 exact QF.ret1 (.inl rfl) rfl (.tmp rfl) (List.Sublist.refl _) ⟨A',cap',x',rfl,rfl,rfl,hv1,hv2⟩
theorem take_no (G:Gh) (mv:Value) (b:Nat) (A:Option Addr) (n cap:Nat) (p a:Int) (B:Option Addr) (m cm:Nat) (k:Int) (hb:(n:Int)<k):
  Fn Tryz.prog 195 #[mv, .pointer (some ⟨b,0,none⟩), .int .i64 k] G [frB b A n cap p a B m cm]
   fun e G' H'=>e=halted 6∧G=G'∧Left b H':=by
 refine Fn.enter Tryz.func195 rfl rfl fun w0=>?_
 refine WC.seq ?_
 refine WC.region ?_
 refine zw.assign ?_
 refine WL.nil ?_
 refine WK.un ?_
 refine WC.seq ?_
 refine WC.region ?_
 refine zw.move ?_
 refine zw.nil ?_
 refine zw.fa ?_
 refine WL.oo (OW.callR rfl (perm_at .here) (high_fn G _ _ _ _ _ _ _ _ _) rfl (by rintro e G' H' ⟨h,_⟩;exact⟨_,h⟩) fun v' G' H' h hg=>?_)
 obtain⟨he,rfl,rfl⟩:=h
 cases he
 refine zw.move ?_
 refine zw.ge ?_
 rw[show decide (k≤(n:Int))=false by simp;omega]
 refine WL.oo (OW.call rfl (Hf:=[]) (List.Perm.refl _) (need_no G) rfl (fun v G' H' h _=>by cases h.1) (fun ch G' H' h _=>?_) (fun G' H' h=>by cases h.1))
 obtain⟨he,rfl,rfl⟩:=h
 cases he
 refine WK.un ?_
 exact QF.panic (H':=[frB b A n cap p a B m cm]) (List.Sublist.refl _) ⟨rfl,rfl,Left.of ..⟩
end
section
attribute [local irreducible] Tryz.prog
theorem vflat_elem:∀(l:List V) (i:Nat) (v:V),l[i]? =some v→((vflat l).drop (i*4)).take 4=vcells v
 | [],i,v,h=>by simp at h
 | u::l,0,v,h=>by simp at h;subst h;simp[vflat,vcells]
 | u::l,i+1,v,h=>by
  have ih:=vflat_elem l i v (by simpa using h)
  have e:vflat (u::l)=vcells u++vflat l:=by simp[vflat]
  rw[e,List.drop_append,List.drop_eq_nil_of_le (by simp[vcells];omega),List.nil_append]
  rw[show(i+1)*4 - (vcells u).length=i*4 by simp[vcells];omega]
  exact ih
theorem take_drop_of_take {α:Type} (c l:List α) (n i k:Nat) (h:c.take n=l) (hk:i+k≤n):(c.drop i).take k=(l.drop i).take k:=by
 subst h
 apply List.ext_getElem?
 intro j
 simp only[List.getElem?_take,List.getElem?_drop]
 by_cases hj:j<k
 ·simp[hj,show i+j<n by omega]
 ·simp[hj]
theorem VVec.elem {A:Option Addr} {cap:Nat} {l:List V} {b:Nat} {c:Array Value} {i:Nat} {v:V} (hl:c.toList.take (l.length*4)=vflat l) (hi:l[i]? =some v):(c.toList.drop (0+((i:Nat):Int).toNat*4)).take 4=vcells v:=by
 have hlt:i<l.length:=(List.getElem?_eq_some_iff.1 hi).1
 rw[Int.toNat_natCast,Nat.zero_add,take_drop_of_take _ _ _ _ _ hl (by omega)]
 exact vflat_elem l i v hi
theorem typed_fnQ (G:Gh) (mv:Value) (b:Nat) (A:Option Addr) (cap:Nat) (p a:Int) (B:Option Addr) (m cm:Nat) (l1 l2:List V) (x:Own) (t:Int) (hv:VVec A cap (l1++l2) x) (hb:l1.length+l2.length≤1000000000):
  Fn Tryz.prog 196 #[mv, .pointer (some ⟨b,0,none⟩), .int .i64 l2.length, .int .i64 t] G [frB b A (l1++l2).length cap p a B m cm,x]
   fun e G' H'=>G=G'∧((∃A' cap' x',e= .returned (.slice A' l2.length cap')∧(∀v∈l2,v.t=t)∧H'=[x',frB b A l1.length cap p a B m cm,x]∧VVec A' cap' l2 x'∧VVec A cap l1 x)∨(e=halted 6∧(∃v∈l2,v.t≠t)∧Left b H')):=by
 refine Fn.enter Tryz.func196 rfl rfl fun w0=>?_
 refine WC.seq ?_
 refine WC.region ?_
 refine zw.assign ?_
 refine WL.nil ?_
 refine WK.un ?_
 refine WC.seq ?_
 refine WC.region ?_
 refine zw.move ?_
 refine zw.move ?_
 refine zw.move ?_
 refine WL.oo (OW.callR rfl (perm_all _) (take_ok G mv b A cap p a B m cm l1 l2 x hv hb) rfl (by rintro e G' H' ⟨_,_,_,h,_⟩;exact⟨_,h⟩) fun v' G' H' h hg=>?_)
 obtain⟨A',cap',x',he,rfl,rfl,hv1,hv2⟩:=h
 cases he
 refine zw.assign ?_
 refine WL.nil ?_
 refine WK.un ?_
 refine WC.seq ?_
 refine WC.seq ?_
 refine WC.region ?_
 refine zw.move ?_
 refine zw.len ?_
 refine zw.move ?_
 refine WL.nil ?_
 refine WK.un ?_
 refine WC.block ?_  -- 0
 refine WC.loop (X:=Nat) (fun i=>[(18, .int .i64 (i:Int)),(17, .int .i64 l2.length),(16, .slice A' l2.length cap'),(9, .slice A' l2.length cap'),(3, .int .i64 t)]) (fun _=>G) (fun _=>[x',frB b A l1.length cap p a B m cm,x]) (fun i=>l2.length - i) (fun i=>i≤l2.length∧∀j u,j<i→l2[j]? =some u→u.t=t) 0 ⟨Nat.zero_le _,fun j u h=>by omega⟩ (by exact⟨rfl,rfl,rfl,rfl,rfl,trivial⟩) rfl (List.Sublist.refl _) fun i hx=>?_
 obtain⟨hi,hall⟩:=hx
 refine WC.seq ?_
 refine WC.region ?_
 refine zw.lt ?_
 refine WL.nil ?_
 refine WK.un ?_
 refine WC.seq ?_
 refine WC.cond rfl (fun hc2=>?_) (fun hc2=>?_)
 ·-- yes
  have hlt:i<l2.length:=by have h:=hc2;simp at h;omega
  obtain⟨v,hvi⟩:∃v,l2[i]? =some v:=⟨_,List.getElem?_eq_getElem hlt⟩
  refine WC.skip ?_
  refine WK.un ?_
  refine WC.seq ?_
  refine WC.block ?_  -- 1
  refine WC.seq ?_
  refine WC.region ?_
  obtain⟨hl,⟨h1,h2,h3,h4⟩ | ⟨b',c,rfl,rfl,h1,h2,h3⟩⟩:=hv1
  ·omega
  refine zw.ix ?_
  refine WL.vv (Gv.loadN rfl .here (VVec.elem (A:=none) (cap:=0) (b:=0) h3 hvi) rfl) ?_
  refine WL.oo (OW.alloc rfl fun b3=>?_)
  refine zw.st ?_
  refine WL.nil ?_
  refine WK.un ?_
  refine WC.region ?_
  refine zw.fa ?_
  refine zw.ld ?_
  refine zw.move ?_
  refine zw.eq ?_
  by_cases ht:v.t=t
  ·rw [show(v.t==t)=true by simpa using ht]
   refine WL.oo (OW.callR rfl (Hf:=[]) (List.Perm.refl _) (need_ok G) rfl (by rintro e G' H' ⟨h,_⟩;exact⟨_,h⟩) fun v' G' H' h hg=>?_)
   obtain⟨he,rfl,rfl⟩:=h
   cases he
   refine WL.nil ?_
   refine WK.un ?_
   refine WC.region ?_
   refine zw.add ?_
   refine zw.move ?_
   refine WL.nil ?_
   refine WK.un ?_
   exact WK.again (i+1) (by omega) ⟨by omega,fun j u hj hu=>by
    rcases Nat.lt_or_ge j i with h | h
    ·exact hall j u h hu
    ·obtain rfl:j=i:=by omega
     rw[hvi]at hu;cases hu;exact ht⟩ (by refine⟨?_,rfl,rfl,rfl,rfl,trivial⟩;show some _=some _;rw[wrap_small (by omega) (by omega)];rfl) rfl (by exact .cons _ (List.Sublist.refl _))
  ·rw[show(v.t==t)=false by simpa using ht]
   refine WL.oo (OW.call rfl (Hf:=[]) (List.Perm.refl _) (need_no G) rfl (fun v G' H' h _=>by cases h.1) (fun ch G' H' h _=>?_) (fun G' H' h=>by cases h.1))
   obtain⟨he,rfl,rfl⟩:=h
   cases he
   refine WK.un ?_
   exact QF.panic (H':=[frB b A l1.length cap p a B m cm]) (by exact .cons _ (.cons _ (.cons_cons _ (List.nil_sublist _)))) ⟨rfl, .inr ⟨rfl,⟨v,List.mem_of_getElem? hvi,ht⟩,Left.of ..⟩⟩
 ·-- no
  have hge:i=l2.length:=by have h:=hc2;simp at h;omega
  refine WC.exit ?_
  refine WK.un ?_
  refine WC.seq ?_
  refine WC.region ?_
  refine zw.move ?_
  refine zw.assign ?_
  refine WL.nil ?_
  refine WK.un ?_
  refine WC.ret ?_
  (refine WK.un ?_)
  exact QF.ret1 (.inl rfl) rfl (.tmp rfl) (List.Sublist.refl _) ⟨rfl, .inl ⟨A',cap',x',rfl,fun v hvm=>by obtain⟨j,hj,rfl⟩:=List.getElem_of_mem hvm;exact hall j _ (by omega) (List.getElem?_eq_getElem hj),rfl,hv1,hv2⟩⟩
end
section
attribute [local irreducible] Tryz.prog
def ordN (u v:V):Int:=if cmpI u.i v.i=0 then cmpS u.s v.s else cmpI u.i v.i
def ordS (c:Int) (u v:V):Bool:=if c=14 then decide (ordN u v<0)else if c=15 then decide (ordN u v≤0)else if c=16 then decide (0<ordN u v)else decide (0≤ordN u v)
def ordOK (u v:V):Prop:=u.t=v.t∧(u.t=1∨u.t=3)
end
section
attribute [local irreducible] Tryz.prog
structure Pg where
 consts:List V
 procs:List Pr
abbrev mcC (c1 c2 c3:Value) (FA:Option Addr) (n cap:Nat) (en:Int) (v:V) (OA:Option Addr) (on ocap:Nat) (st:Int) (ed:Bool):Array Value:=
 #[c1,c2,c3, .slice FA n cap, .int .i64 en, .int .i64 v.t, .int .i64 v.i, .bool v.b, .string v.s, .slice OA on ocap, .int .i64 st, .bool ed]
abbrev mcB (mb:Nat) (c1 c2 c3:Value) (FA:Option Addr) (n cap:Nat) (en:Int) (v:V) (OA:Option Addr) (on ocap:Nat) (st:Int) (ed:Bool):Own:= .blk mb (.cells (mcC c1 c2 c3 FA n cap en v OA on ocap st ed) 160 (0,0))
def ptrs (bs:List Nat):List Value:=bs.map fun b=> .pointer (some ⟨b,0,none⟩)
abbrev PVec (A:Option Addr) (cap:Nat) (bs:List Nat) (x:Own):Prop:=Vec 241 1 A bs.length cap (ptrs bs) x
def sizedP (p:Pr):Bool:=decide ((p.params.length:Int)≤p.locals)&&decide (p.locals≤64)
theorem sized_fn (G:Gh) (nm:ByteArray) (ex:Bool) (PA:Option Addr) (n pc:Nat) (lo re:Int) (cv:Value):
  Fn Tryz.prog 137 #[.agg #[.string nm, .bool ex, .slice PA n pc, .int .i64 lo, .int .i64 re,cv]] G [] fun e G' H'=>e= .returned (.bool (decide ((n:Int)≤lo)&&decide (lo≤64)))∧G=G'∧H'=[]:=by
 refine Fn.enter Tryz.func137 rfl rfl fun w0=>?_
 refine WC.seq ?_
 refine WC.region ?_
 refine WL.oo (OW.box rfl rfl fun b1=>?_)
 refine zw.assign ?_
 refine WL.nil ?_
 refine WK.un ?_
 refine WC.seq ?_
 refine WC.region ?_
 refine zw.fa ?_
 refine zw.ld ?_
 refine zw.fa ?_
 refine zw.ld ?_
 refine zw.len ?_
 refine zw.ge ?_
 refine zw.move ?_
 generalize hb:decide ((n:Int)≤lo)=b
 cases b
 all_goals (first | refine WL.p (Gp.fieldAddr rfl) (by rfl) rfl ?_ | refine WL.skip (by rfl) rfl ?_)
 all_goals (first | (first | (refine WL.v (Gv.load1 rfl atA (by first | rfl | assumption)) (by rfl) rfl ?_) | (refine WL.v (Gv.loadN rfl atA (by rfl) (by rfl)) (by rfl) rfl ?_) | (refine WL.v (Gv.loadG1 rfl (by assumption) rfl) (by rfl) rfl ?_) | (refine WL.v (Gv.loadG0 rfl (by assumption) rfl) (by rfl) rfl ?_) | (refine WL.v (Gv.loadGN rfl (by assumption) rfl) (by rfl) rfl ?_)) | refine WL.skip (by rfl) rfl ?_)
 all_goals (first | (first | refine WL.p (Gp.leI rfl rfl) (by rfl) rfl ?_ | refine WL.p (Gp.leS rfl rfl) (by rfl) rfl ?_) | refine WL.skip (by rfl) rfl ?_)
 all_goals (first | (first | refine WL.p (Gp.pickT rfl rfl) (by rfl) rfl ?_ | refine WL.p (Gp.pickF rfl rfl) (by rfl) rfl ?_) | refine WL.skip (by rfl) rfl ?_)
 all_goals (first | refine WL.p (Gp.assign rfl) (by rfl) rfl ?_ | refine WL.skip (by rfl) rfl ?_)
 all_goals refine WL.nil ?_
 all_goals (refine WK.un ?_)
 all_goals refine WC.ret ?_
 all_goals (refine WK.un ?_)
 all_goals exact QF.ret1 (.inl rfl) rfl (.tmp rfl) (List.nil_sublist _) ⟨by simp,rfl,rfl⟩
theorem top_fn (G:Gh) (mb:Nat) (c1 c2 c3:Value) (FA:Option Addr) (cap:Nat) (en:Int) (v:V) (OA:Option Addr) (on ocap:Nat) (st:Int) (ed:Bool) (bs:List Nat) (b:Nat) (x:Own)
  (hv:PVec FA cap (bs++[b]) x) (hb:bs.length≤1000000000):
  Fn Tryz.prog 164 #[.pointer (some ⟨mb,0,none⟩)] G [mcB mb c1 c2 c3 FA (bs++[b]).length cap en v OA on ocap st ed,x]
   fun e G' H'=>e= .returned (.pointer (some ⟨b,0,none⟩))∧G=G'∧H'=[mcB mb c1 c2 c3 FA (bs++[b]).length cap en v OA on ocap st ed,x]:=by
 have hlen:(bs++[b]).length=bs.length+1:=by simp
 have hz:IntKind.i64.wrap (((bs++[b]).length:Int) - 1)=(bs.length:Int):=by rw[hlen,wrap_small (by omega) (by omega)];omega
 obtain⟨hl,⟨h1,h2,h3,h4⟩ | ⟨b',c',rfl,rfl,h1,h2,h3⟩⟩:=id hv
 ·simp at h2
 refine Fn.enter Tryz.func164 rfl rfl fun w0=>?_
 refine WC.seq ?_
 refine WC.region ?_
 refine zw.assign ?_
 refine WL.nil ?_
 refine WK.un ?_
 refine WC.seq ?_
 refine WC.draw mixed ?_
 refine za.move 0 ?_
 refine za.nil 1 ?_
 refine za.fa 2 ?_
 refine za.move 4 ?_
 refine za.nil 5 ?_
 refine za.fa 6 ?_
 refine za.ld 7 ?_
 refine za.len 8 ?_
 refine WA.pp 9 rfl (Gp.sub' rfl rfl hz) ?_
 refine za.ld 3 ?_
 refine za.ix 10 ?_
 refine WA.vv 11 rfl (Gv.load1 rfl (.there .here) (by have h:=congrArg (fun l=>l[bs.length]?) h3;simp[ptrs,hlen]at h;simpa using h)) ?_
 refine za.assign 12 ?_
 refine WA.done kr ?_
 refine WK.un ?_
 refine WC.ret ?_
 (refine WK.un ?_)
 exact QF.ret1 (.inl rfl) rfl (.tmp rfl) (List.Sublist.refl _) ⟨rfl,rfl,rfl⟩
theorem copied_fnQ (G:Gh) (b:Nat) (A:Option Addr) (cap:Nat) (p a:Int) (B:Option Addr) (cm:Nat) (l m:List V) (x y:Own) (hx:VVec A cap l x) (hy:VVec B cm m y) (hl:l.length≤1000000000) (hm:m.length≤1000000000):
  Fn Tryz.prog 165 #[.pointer (some ⟨b,0,none⟩)] G [frB b A l.length cap p a B m.length cm,x,y]
   fun e G' H'=>∃A' cap' B' cm' x' y',e= .returned (.agg (frC A' l.length cap' p a B' m.length cm'))∧G=G'∧H'=[x',y',frB b A l.length cap p a B m.length cm,x,y]∧VVec A' cap' l x'∧VVec B' cm' m y':=by
 have none_zero:∀ {A:Option Addr} {cap:Nat} {l:List V} {x:Own},VVec A cap l x→A=none→l.length=0:=by
  rintro A cap l x ⟨_,⟨_,h,_⟩ | ⟨b,c,h,_⟩⟩ hA
  ·exact h
  ·rw[h]at hA;cases hA
 refine Fn.enter Tryz.func165 rfl rfl fun w0=>?_
 refine WC.seq ?_
 refine WC.region ?_
 refine WL.oo (OW.alloc rfl fun b2=>?_)
 refine WL.nil ?_
 refine WK.un ?_
 refine WC.seq ?_
 refine WC.region ?_
 refine zw.move ?_
 refine zw.nil ?_
 refine zw.ld ?_
 refine WL.oo (OW.alloc rfl fun b3=>?_)
 refine zw.st ?_
 refine WL.nil ?_
 refine WK.un ?_
 refine WC.seq ?_
 refine WC.region ?_
 refine zw.move ?_
 refine zw.nil ?_
 refine zw.fa ?_
 refine zw.fa ?_
 refine zw.ld ?_
 refine WL.oo (OW.callK rfl (clone_vals G [frB b A l.length cap p a B m.length cm,x] A l.length cap (vflat l) (hx.rds (.there .here)) (vflat_length l) (vflat_one l) (none_zero hx) (by omega)) rfl fun v' G' H' h hg=>?_)
 obtain⟨A',cap',x',he,rfl,rfl,hx'⟩:=h
 cases he
 refine zw.fa ?_
 refine zw.fa ?_
 refine zw.st ?_
 refine WL.nil ?_
 refine WK.un ?_
 refine WC.seq ?_
 refine WC.region ?_
 refine zw.move ?_
 refine zw.nil ?_
 refine zw.fa ?_
 refine zw.ld ?_
 refine WL.oo (OW.callK rfl (clone_vals G [frB b A l.length cap p a B m.length cm,y] B m.length cm (vflat m) (hy.rds (.there .here)) (vflat_length m) (vflat_one m) (none_zero hy) (by omega)) rfl fun v' G' H' h hg=>?_)
 obtain⟨B',cm',y',he,rfl,rfl,hy'⟩:=h
 cases he
 refine zw.fa ?_
 refine zw.st ?_
 refine WL.nil ?_
 refine WK.un ?_
 refine WC.seq ?_
 refine WC.region ?_
 refine zw.ld ?_
 refine zw.st ?_
 refine WL.nil ?_
 refine WK.un ?_
 refine WC.rt ?_
 exact QF.p1 (.inl rfl) rfl (.cell rfl inferInstance inferInstance atA rfl rfl) (⟨A',cap',B',cm',x',y',rfl,rfl,rfl,hx',hy'⟩)
end
section
attribute [local irreducible] Tryz.prog
def V0:V:=⟨0,0,false,⟨#[]⟩⟩
theorem repS_V0:∀n,repS n (vcells V0)=vflat (List.replicate n V0)
 | 0=>rfl
 | n+1=>by rw[repS,repS_V0 n,List.replicate_succ];simp[vflat]
def padded (args:List V) (lo:Int):List V:=args++List.replicate (lo.toNat - args.length) V0
theorem padded_length {args:List V} {lo:Int} (h:(args.length:Int)≤lo):(padded args lo).length=lo.toNat:=by simp[padded];omega
theorem enter_fn (G:Gh) (mb:Nat) (c1 c3:Value) (PA:Option Addr) (pn pc:Nat) (procs:List Pr) (FA:Option Addr) (cap:Nat) (en:Int) (v:V) (OA:Option Addr) (on ocap:Nat) (st:Int) (ed:Bool) (bs:List Nat) (x:Own)
  (i:Nat) (p:Pr) (hp:procs[i]? =some p) (hpn:pn=procs.length) (hG:Sl Kd.prc G PA procs) (hv:PVec FA cap bs x) (hb:bs.length≤1000000000)
  (AA:Option Addr) (ac:Nat) (args:List V) (Ha:List Own) (hr:Rds G Ha AA (vflat args)) (hla:(args.length:Int)≤p.locals) (hlo:p.locals≤64):
  Fn Tryz.prog 140 #[.pointer (some ⟨mb,0,none⟩), .int .i64 i, .slice AA args.length ac] G (mcB mb c1 (.slice PA pn pc) c3 FA bs.length cap en v OA on ocap st ed::x::Ha)
   fun e G' H'=>∃FA' cap' b VA x' y,e= .returned (.tuple #[])∧G=G'∧H'=mcB mb c1 (.slice PA pn pc) c3 FA' (bs++[b]).length cap' en v OA on ocap st ed::x'::frB b none 0 0 i 0 VA (padded args p.locals).length (padded args p.locals).length:: .spare 0 0 0::y::Ha∧PVec FA' cap' (bs++[b]) x'∧VVec VA (padded args p.locals).length (padded args p.locals) y:=by
 have hi:i<procs.length:=(List.getElem?_eq_some_iff.1 hp).1
 obtain⟨pb,po,cs,rfl,⟨QA,qc,CA,cc,rfl,_,_⟩,hcs⟩:=hG i p hp
 have hpl:=padded_length hla
 rw[hpl]
 refine Fn.enter Tryz.func140 rfl rfl fun w0=>?_
 refine WC.seq ?_
 refine WC.region ?_
 refine zw.move ?_
 refine zw.move ?_
 refine zw.nil ?_
 refine zw.fa ?_
 refine zw.fa ?_
 refine zw.ld ?_
 refine zw.move ?_
 refine zw.ix ?_
 refine zw.fa ?_
 refine WL.vv (Gv.loadG1 rfl hcs rfl) ?_
 refine WL.oo (OW.makeSlice rfl rfl (by rfl) (by omega) (by omega) (by omega) rfl fun vb y hy=>?_)
 refine zw.build ?_
 refine WL.oo (OW.box rfl rfl fun b4=>?_)
 refine zw.assign ?_
 refine WL.nil ?_
 refine WK.un ?_
 rw[show repS p.locals.toNat (Value.cells (.agg #[.int .i64 0, .int .i64 0, .bool false, .string ⟨#[]⟩])).toList=vflat (List.replicate p.locals.toNat V0)from repS_V0 _]at hy
 refine WC.seq ?_
 refine WC.region ?_
 refine zw.move ?_
 refine zw.nil ?_
 refine zw.fa ?_
 refine zw.ld ?_
 refine zw.move ?_
 refine WL.oo (OW.copy rfl rfl rfl hy (.there .here) ((hr.sub (by exact .cons _ (.cons _ (.cons _ (.cons _ (List.Sublist.refl _))))))) (vflat_length args) (vflat_one args) (by omega) rfl fun y' hy'=>?_)
 refine WL.nil ?_
 refine WK.un ?_
 have e1:vflat args++(vflat (List.replicate p.locals.toNat V0)).drop (args.length*4)=vflat (padded args p.locals):=by
  rw[padded,vflat_append]
  congr 1
  have h2:List.replicate p.locals.toNat V0=List.replicate args.length V0++List.replicate (p.locals.toNat - args.length) V0:=by rw[List.replicate_append_replicate];congr 1;omega
  rw[h2,vflat_append,show args.length*4=(vflat (List.replicate args.length V0)).length by rw[vflat_length];simp,List.drop_left]
 rw[e1]at hy'
 refine WC.region ?_
 refine zw.move ?_
 refine zw.move ?_
 refine zw.nil ?_
 refine zw.fa ?_
 refine zw.ld ?_
 refine zw.move ?_
 refine WL.op kr (OW.buildSlice rfl kr kr (by rfl) rfl fun b5=>?_)
 refine WL.oo (OW.append rfl rfl kr kr hv atA (Rds.blk0 (cs:=ptrs [b4]) .here rfl) rfl rfl (by omega) (by omega) rfl fun FA' cap' x' hx'=>?_)
 refine zw.nil ?_
 refine zw.fa ?_
 refine zw.st ?_
 refine WL.nil ?_
 refine WK.un ?_
 refine WK.nothing ?_
 have e2:(bs++[b4]).length=bs.length+1:=by simp
 have e3:ptrs (bs++[b4])=ptrs bs++ptrs [b4]:=by simp[ptrs]
 refine WK.un ?_
 exact QF.p0 (.inr rfl) rfl  (⟨FA',cap',b4,some ⟨vb,0,none⟩,x',y',rfl,rfl,by rw[e2],by unfold PVec;rw[e2,e3];exact hx',by unfold VVec;rw[hpl];exact hy'⟩)
end
section
attribute [local irreducible] Tryz.prog
def tys (l:List V):List Int:=l.map (·.t)
def callR (procs:List Pr) (l:List V) (n:Int) (depth:Nat):Except Int (Pr×List V×List V):=
 if n<0 then .error 6 else
 match procs[n.toNat]? with
 | none=> .error 6
 | some q=>
  if sizedP q=false then .error 6
  else if l.length<q.params.length then .error 6
  else if tys (l.drop (l.length - q.params.length))≠q.params then .error 6
  else if q.result≠0∧128≤l.length - q.params.length then .error 6
  else if 64≤depth then .error 4
  else .ok (q,l.take (l.length - q.params.length),l.drop (l.length - q.params.length))
theorem cut_list {α:Type} (l:List α) (k:Nat) (h:k≤l.length):∃l1 l2,l=l1++l2∧l2.length=k∧l.take (l.length - k)=l1∧l.drop (l.length - k)=l2:=
 ⟨_,_,(List.take_append_drop (l.length - k) l).symm,by simp;omega,rfl,rfl⟩
theorem call_fn (G:Gh) (mb:Nat) (c1 c3:Value) (PA:Option Addr) (pc:Nat) (procs:List Pr) (FA:Option Addr) (fcap:Nat) (en:Int) (v:V) (OA:Option Addr) (on ocap:Nat) (st:Int) (ed:Bool) (bs:List Nat) (fx:Own)
  (hG:Sl Kd.prc G PA procs) (hfv:PVec FA fcap bs fx) (hbs:bs.length≤1000000000)
  (b:Nat) (A:Option Addr) (cap:Nat) (p a:Int) (B:Option Addr) (m cm:Nat) (l:List V) (x:Own) (hv:VVec A cap l x) (hl:l.length≤1000000) (n:Int):
  Fn Tryz.prog 197 #[.pointer (some ⟨mb,0,none⟩), .pointer (some ⟨b,0,none⟩), .int .i64 n] G [mcB mb c1 (.slice PA procs.length pc) c3 FA bs.length fcap en v OA on ocap st ed,fx,frB b A l.length cap p a B m cm,x]
   fun e G' H'=>G=G'∧match callR procs l n bs.length with
    | .error k=>e=halted k∧∃H1,Left b H1∧H'=mcB mb c1 (.slice PA procs.length pc) c3 FA bs.length fcap en v OA on ocap st ed::fx::H1
    | .ok (q,r,args)=>∃FA' fcap' b' VA x' y,e= .returned (.tuple #[])∧H'=[mcB mb c1 (.slice PA procs.length pc) c3 FA' (bs++[b']).length fcap' en v OA on ocap st ed,x',frB b A r.length cap p a B m cm,x,frB b' none 0 0 n 0 VA (padded args q.locals).length (padded args q.locals).length, .spare 0 0 0,y]∧
      PVec FA' fcap' (bs++[b']) x'∧VVec VA (padded args q.locals).length (padded args q.locals) y∧VVec A cap r x:=by
 refine Fn.enter Tryz.func197 rfl rfl fun w0=>?_
 refine WC.seq ?_
 refine WC.region ?_
 refine zw.move ?_
 refine zw.ge ?_
 refine zw.move ?_
 by_cases hn0:n<0
 ·rw[show decide ((0:Int)≤n)=false by simpa using hn0]
  refine zw.skip ?_
  refine zw.skip ?_
  refine zw.skip ?_
  refine zw.skip ?_
  refine zw.skip ?_
  refine zw.skip ?_
  refine zw.skip ?_
  refine zw.skip ?_
  refine zw.pick ?_
  refine zw.move ?_
  refine zw.skip ?_
  refine zw.skip ?_
  refine zw.skip ?_
  refine zw.skip ?_
  refine zw.skip ?_
  refine zw.skip ?_
  refine zw.skip ?_
  refine zw.skip ?_
  refine zw.skip ?_
  refine zw.pick ?_
  refine WL.oo (OW.call rfl (Hf:=[]) (List.Perm.refl _) (need_no _) rfl (fun v G' H' h _=>by cases h.1) (fun ch G' H' h _=>?_) (fun G' H' h=>by cases h.1))
  obtain⟨he,rfl,rfl⟩:=h
  cases he
  refine WK.un ?_
  exact QF.panicP (⟨rfl,by rw[callR,if_pos hn0];exact⟨rfl,_,Left.of b A l.length cap p a B m cm,rfl⟩⟩)
 obtain⟨i,rfl⟩:=Int.eq_ofNat_of_zero_le (Int.not_lt.1 hn0)
 rw[show decide ((0:Int)≤(i:Int))=true by simp]
 refine zw.move ?_
 refine zw.move ?_
 refine zw.nil ?_
 refine zw.fa ?_
 refine zw.fa ?_
 refine zw.ld ?_
 refine zw.len ?_
 refine zw.lt ?_
 by_cases hn1:i<procs.length
 rotate_left
 ·rw[show decide ((i:Int)<(procs.length:Int))=false by simp;omega]
  refine zw.pick ?_
  refine zw.move ?_
  refine zw.skip ?_
  refine zw.skip ?_
  refine zw.skip ?_
  refine zw.skip ?_
  refine zw.skip ?_
  refine zw.skip ?_
  refine zw.skip ?_
  refine zw.skip ?_
  refine zw.skip ?_
  refine zw.pick ?_
  refine WL.oo (OW.call rfl (Hf:=[]) (List.Perm.refl _) (need_no _) rfl (fun v G' H' h _=>by cases h.1) (fun ch G' H' h _=>?_) (fun G' H' h=>by cases h.1))
  obtain⟨he,rfl,rfl⟩:=h
  cases he
  refine WK.un ?_
  exact QF.panicP (⟨rfl,by rw[callR,if_neg hn0,Int.toNat_natCast,List.getElem?_eq_none (by omega)];exact⟨rfl,_,Left.of b A l.length cap p a B m cm,rfl⟩⟩)
 rw[show decide ((i:Int)<(procs.length:Int))=true by simp;omega]
 obtain⟨q,hq⟩:∃q,procs[i]? =some q:=⟨_,List.getElem?_eq_getElem hn1⟩
 obtain⟨pb,po,cs,rfl,⟨QA,qc,CA,cc,rfl,hQ,hC⟩,hcs⟩:=hG i q hq
 have hcR:callR procs l (i:Int) bs.length=if sizedP q=false then .error 6 else if l.length<q.params.length then .error 6 else if tys (l.drop (l.length - q.params.length))≠q.params then .error 6 else if q.result≠0∧128≤l.length - q.params.length then .error 6 else if 64≤bs.length then .error 4 else .ok (q,l.take (l.length - q.params.length),l.drop (l.length - q.params.length)):=by
  rw[callR,if_neg hn0,Int.toNat_natCast,hq]
 rw[hcR]
 refine zw.pick ?_
 refine zw.move ?_
 refine zw.move ?_
 refine zw.nil ?_
 refine zw.fa ?_
 refine zw.fa ?_
 refine zw.ld ?_
 refine zw.move ?_
 refine zw.ix ?_
 refine WL.vv (Gv.loadGN rfl hcs rfl) ?_
 refine WL.oo (OW.callR rfl (Hf:=[]) (List.Perm.refl _) (sized_fn G q.name q.exp QA q.params.length qc q.locals q.result (.slice CA q.code.length cc)) rfl (by rintro e G' H' ⟨h,_⟩;exact⟨_,h⟩) fun v' G' H' h hg=>?_)
 obtain⟨he,rfl,rfl⟩:=h
 cases he
 refine zw.pick ?_
 by_cases hs:sizedP q=false
 ·rw[show(decide ((q.params.length:Int)≤q.locals)&&decide (q.locals≤64))=false from hs]
  refine WL.oo (OW.call rfl (Hf:=[]) (List.Perm.refl _) (need_no _) rfl (fun v G' H' h _=>by cases h.1) (fun ch G' H' h _=>?_) (fun G' H' h=>by cases h.1))
  obtain⟨he,rfl,rfl⟩:=h
  cases he
  refine WK.un ?_
  exact QF.panicP (⟨rfl,by rw[if_pos hs];exact⟨rfl,_,Left.of b A l.length cap p a B m cm,rfl⟩⟩)
 rw[show(decide ((q.params.length:Int)≤q.locals)&&decide (q.locals≤64))=true by have h:=hs;unfold sizedP at h;simpa using h]
 rw[if_neg hs]
 have hs':(q.params.length:Int)≤q.locals∧q.locals≤64:=by have h:=hs;unfold sizedP at h;simpa using h
 refine WL.oo (OW.callR rfl (Hf:=[]) (List.Perm.refl _) (need_ok G) rfl (by rintro e G' H' ⟨h,_⟩;exact⟨_,h⟩) fun v' G' H' h hg=>?_)
 obtain⟨he,rfl,rfl⟩:=h
 cases he
 refine WL.nil ?_
 refine WK.un ?_
 refine WC.seq ?_
 refine WC.region ?_
 refine zw.move ?_
 refine zw.nil ?_
 refine zw.fa ?_
 refine zw.fa ?_
 refine zw.ld ?_
 refine zw.move ?_
 refine zw.ix ?_
 refine WL.vv (Gv.loadGN rfl hcs rfl) ?_
 refine WL.oo (OW.alloc rfl fun b1=>?_)
 refine zw.st ?_
 refine WL.nil ?_
 refine WK.un ?_
 refine WC.seq ?_
 refine WC.region ?_
 refine zw.move ?_
 refine zw.move ?_
 refine zw.fa ?_
 refine zw.ld ?_
 refine zw.len ?_
 by_cases hk:l.length<q.params.length
 ·rw[if_pos hk]
  refine WL.oo (OW.call rfl (Pk.perm pkA) (take_no G _ b A l.length cap p a B m cm q.params.length (by omega)) rfl (fun v' G' H' h hg=>by cases h.1) (fun ch G' H' h hg=>?_) (fun G' H' h=>by repeat (first | (cases h.1;done) | (cases h;done) | (obtain⟨_,h⟩:=h) | (rcases h with h | h))))
  obtain⟨he,rfl,c,hc,rfl⟩:=h
  cases he
  refine WK.un ?_
  exact QF.panicP ⟨rfl,rfl,_,⟨c,hc,rfl⟩,rfl⟩ pkA
 rw[if_neg hk]
 obtain⟨l1,l2,rfl,hl2,ht,hd⟩:=cut_list l q.params.length (by omega)
 rw[ht,hd]
 have hl1:(l1++l2).length - q.params.length=l1.length:=by rw[←hl2];simp
 rw[hl1]
 rw[←hl2]
 refine WL.oo (OW.callK rfl (take_ok G _ b A cap p a B m cm l1 l2 x hv (by simp at hl;omega)) rfl fun v' G' H' h hg=>?_)
 obtain⟨A',cap',x',he,rfl,rfl,hv1,hv2⟩:=h
 cases he
 refine zw.assign ?_
 refine WL.nil ?_
 refine WK.un ?_
 refine WC.seq ?_
 refine WC.seq ?_
 refine WC.region ?_
 refine zw.move ?_
 refine zw.len ?_
 refine zw.move ?_
 refine WL.nil ?_
 refine WK.un ?_
 refine WC.block ?_  -- 0
 refine WC.pk (H':=[x',frB b A l1.length cap p a B m cm,x, .blk b1 (.cells #[.string q.name, .bool q.exp, .slice QA l2.length qc, .int .i64 q.locals, .int .i64 q.result, .slice CA q.code.length cc] 47 (0,0)),mcB mb c1 (.slice (some ⟨pb,po,none⟩) procs.length pc) c3 FA bs.length fcap en v OA on ocap st ed,fx]) pkA ?_
 refine WC.loop (X:=Nat) (fun j=>[(50, .int .i64 j),(49, .int .i64 l2.length),(48, .slice A' l2.length cap'),(7, .slice A' l2.length cap'),(6, .pointer (some ⟨b1,0,none⟩)),(0, .pointer (some ⟨mb,0,none⟩)),(1, .pointer (some ⟨b,0,none⟩)),(2, .int .i64 i)]) (fun j=>G) (fun j=>[x',frB b A l1.length cap p a B m cm,x, .blk b1 (.cells #[.string q.name, .bool q.exp, .slice QA l2.length qc, .int .i64 q.locals, .int .i64 q.result, .slice CA q.code.length cc] 47 (0,0)),mcB mb c1 (.slice (some ⟨pb,po,none⟩) procs.length pc) c3 FA bs.length fcap en v OA on ocap st ed,fx]) (fun j=>l2.length - j) (fun j=>j≤l2.length∧∀k (u:V) t,k<j→l2[k]? =some u→q.params[k]? =some t→u.t=t) 0 ⟨by omega,fun k u t h=>by omega⟩ (by exact⟨rfl,rfl,rfl,rfl,rfl,rfl,rfl,rfl,trivial⟩) rfl (List.Sublist.refl _) fun j hx=>?_
 obtain⟨hj,hall⟩:=hx
 refine WC.seq ?_
 refine WC.region ?_
 refine zw.lt ?_
 refine WL.nil ?_
 refine WK.un ?_
 refine WC.seq ?_
 refine WC.cond rfl (fun hc2=>?_) (fun hc2=>?_)
 ·-- yes
  have hlt:j<l2.length:=by have h:=hc2;simp at h;omega
  obtain⟨u,hu⟩:∃u,l2[j]? =some u:=⟨_,List.getElem?_eq_getElem hlt⟩
  obtain⟨t,ht⟩:∃t,q.params[j]? =some t:=⟨_,List.getElem?_eq_getElem (by omega)⟩
  obtain⟨qb,qo,cs,rfl,hK,hcsq⟩:=hQ j t ht
  obtain rfl:cs=[.int .i64 t]:=hK
  obtain⟨hlv,⟨h1,h2,h3,h4⟩ | ⟨b',c,rfl,rfl,h1,h2,h3⟩⟩:=hv1
  ·omega
  refine WC.skip ?_
  refine WK.un ?_
  refine WC.seq ?_
  refine WC.block ?_  -- 1
  refine WC.seq ?_
  refine WC.region ?_
  refine zw.move ?_
  refine zw.ix ?_
  refine WL.vv (Gv.loadN rfl .here (VVec.elem (A:=none) (cap:=0) (b:=0) h3 hu) rfl) ?_
  refine WL.oo (OW.alloc rfl fun b3=>?_)
  refine zw.assign ?_
  refine zw.st ?_
  refine WL.nil ?_
  refine WK.un ?_
  refine WC.draw mixed ?_
  refine za.fa 0 ?_
  refine za.ld 1 ?_
  refine za.fa 2 ?_
  refine za.ld 3 ?_
  refine za.move 4 ?_
  refine za.ix 5 ?_
  refine WA.vv 6 rfl (Gv.loadG0 rfl hcsq rfl) ?_
  refine za.eq 7 ?_
  by_cases htt:u.t=t
  ·rw [show(u.t==t)=true by simpa using htt]
   refine WA.oo 8 rfl (OW.callR rfl (Hf:=[]) (List.Perm.refl _) (need_ok G) rfl (by rintro e G' H' ⟨h,_⟩;exact⟨_,h⟩) fun v' G' H' h hg=>?_)
   obtain⟨he,rfl,rfl⟩:=h
   cases he
   refine WA.done kr ?_
   refine WK.un ?_
   refine WC.region ?_
   refine zw.add ?_
   refine zw.move ?_
   refine WL.nil ?_
   refine WK.un ?_
   exact WK.again (j+1) (by omega) ⟨by omega,fun k u' t' hk hu' ht'=>by
    rcases Nat.lt_or_ge k j with h | h
    ·exact hall k u' t' h hu' ht'
    ·obtain rfl:k=j:=by omega
     rw[hu]at hu';rw[ht]at ht';cases hu';cases ht';exact htt⟩ (by refine⟨?_,rfl,rfl,rfl,rfl,rfl,rfl,rfl,trivial⟩;show some _=some _;rw[wrap_small (by omega) (by simp at hl;omega)];rfl) rfl (by exact .cons _ (List.Sublist.refl _))
  ·rw[show(u.t==t)=false by simpa using htt]
   have hne:tys l2≠q.params:=fun h=>htt (by
    have h1:=congrArg (fun l=>l[j]?) h
    simp only[tys,List.getElem?_map,hu,ht,Option.map_some,Option.some.injEq]at h1
    exact h1)
   rw[if_pos hne]
   refine WA.oo 8 rfl (OW.call rfl (Hf:=[]) (List.Perm.refl _) (need_no _) rfl (fun v G' H' h _=>by cases h.1) (fun ch G' H' h _=>?_) (fun G' H' h=>by cases h.1))
   obtain⟨he,rfl,rfl⟩:=h
   cases he
   refine WK.un ?_
   exact QF.panicP (⟨rfl,rfl,_,Left.of b A l1.length cap p a B m cm,rfl⟩)
 ·-- no
  have hge:j=l2.length:=by have h:=hc2;simp at h;omega
  have heq:tys l2=q.params:=by
   apply List.ext_getElem?
   intro k
   rcases Nat.lt_or_ge k l2.length with hk' | hk'
   ·obtain⟨u,hu⟩:∃u,l2[k]? =some u:=⟨_,List.getElem?_eq_getElem hk'⟩
    obtain⟨t,ht⟩:∃t,q.params[k]? =some t:=⟨_,List.getElem?_eq_getElem (by omega)⟩
    rw[tys,List.getElem?_map,hu,ht,Option.map_some,hall k u t (by omega) hu ht]
   ·rw[List.getElem?_eq_none (by simpa [tys]using hk'),List.getElem?_eq_none (by omega)]
  rw[if_neg (show¬tys l2≠q.params from fun h=>h heq)]
  refine WC.exit ?_
  refine WK.un ?_
  refine WC.join (X:=Unit) (fun _=>[(7, .slice A' l2.length cap'),(0, .pointer (some ⟨mb,0,none⟩)),(1, .pointer (some ⟨b,0,none⟩)),(2, .int .i64 i)]) (fun _=>G) (fun _=>[x',frB b A l1.length cap p a B m cm,x,mcB mb c1 (.slice (some ⟨pb,po,none⟩) procs.length pc) c3 FA bs.length fcap en v OA on ocap st ed,fx]) (fun _=>¬(q.result≠0∧128≤l1.length)) ?_ fun _ hok=>?_
  ·refine WC.seq ?_
   refine WC.region ?_
   refine zw.fa ?_
   refine zw.ld ?_
   refine zw.ne ?_
   refine WL.nil ?_
   refine WK.un ?_
   refine WC.cond rfl (fun hc4=>?_) (fun hc4=>?_)
   ·-- yes
    have hr0:q.result≠0:=by simpa using hc4
    refine WC.region ?_
    refine zw.move ?_
    refine zw.nil ?_
    refine zw.fa ?_
    refine WL.oo (OW.callK rfl (high_fn G b A l1.length cap p a B m cm) rfl fun v' G' H' h hg=>?_)
    obtain⟨he,rfl,rfl⟩:=h
    cases he
    refine zw.lt ?_
    by_cases h128:128≤l1.length
    ·rw[show decide ((l1.length:Int)<128)=false by simp;omega]
     rw[if_pos ⟨hr0,h128⟩]
     refine WL.oo (OW.call rfl (Hf:=[]) (List.Perm.refl _) (need_no _) rfl (fun v G' H' h _=>by cases h.1) (fun ch G' H' h _=>?_) (fun G' H' h=>by cases h.1))
     obtain⟨he,rfl,rfl⟩:=h
     cases he
     refine WK.un ?_
     exact QF.panicP (⟨rfl,rfl,_,Left.of b A l1.length cap p a B m cm,rfl⟩)
    ·rw[show decide ((l1.length:Int)<128)=true by simp;omega]
     refine WL.oo (OW.callR rfl (Hf:=[]) (List.Perm.refl _) (need_ok G) rfl (by rintro e G' H' ⟨h,_⟩;exact⟨_,h⟩) fun v' G' H' h hg=>?_)
     obtain⟨he,rfl,rfl⟩:=h
     cases he
     refine WL.nil ?_
     refine WK.un ?_
     refine WK.pk (H':=[x',frB b A l1.length cap p a B m cm,x,mcB mb c1 (.slice (some ⟨pb,po,none⟩) procs.length pc) c3 FA bs.length fcap en v OA on ocap st ed,fx]) pkA ?_
     exact WK.meet () (fun h=>h128 h.2) (by exact⟨rfl,rfl,rfl,rfl,trivial⟩) rfl (List.Sublist.refl _)
   ·-- no
    have hr0:q.result=0:=by simpa using hc4
    refine WC.skip ?_
    refine WK.un ?_
    refine WK.pk (H':=[x',frB b A l1.length cap p a B m cm,x,mcB mb c1 (.slice (some ⟨pb,po,none⟩) procs.length pc) c3 FA bs.length fcap en v OA on ocap st ed,fx]) pkA ?_
    exact WK.meet () (fun h=>h.1 hr0) (by exact⟨rfl,rfl,rfl,rfl,trivial⟩) rfl (List.Sublist.refl _)
  rw[if_neg hok]
  refine WC.seq ?_
  refine WC.seq ?_
  refine WC.region ?_
  refine zw.move ?_
  refine zw.nil ?_
  refine zw.fa ?_
  refine zw.ld ?_
  refine zw.len ?_
  refine zw.ge ?_
  refine WL.nil ?_
  refine WK.un ?_
  refine WC.cond rfl (fun hc5=>?_) (fun hc5=>?_)
  ·-- yes
   have h64:64≤bs.length:=by have h:=hc5;simp at h;omega
   refine WC.region ?_
   refine zw.build ?_
   refine zw.iface ?_
   rw[if_pos h64]
   refine WL.oo (OW.panic rfl ?_)
   refine WK.un ?_
   exact QF.panicP ⟨rfl,rfl,_,Left.of b A l1.length cap p a B m cm,rfl⟩ pkA
  ·-- no
   have h64:¬64≤bs.length:=by have h:=hc5;simp at h;omega
   rw[if_neg h64]
   refine WC.skip ?_
   refine WK.un ?_
   refine WC.region ?_
   refine zw.move ?_
   refine zw.move ?_
   refine zw.move ?_
   refine WL.oo (OW.callK rfl (enter_fn G mb c1 c3 (some ⟨pb,po,none⟩) procs.length pc procs FA fcap en v OA on ocap st ed bs fx i q hq rfl hG hfv hbs A' cap' l2 [x'] (hv1.rds .here) (by omega) hs'.2) rfl fun v' G' H' h hg=>?_)
   obtain⟨FA',fcap',b',VA,x'',y,he,rfl,rfl,hx2,hy2⟩:=h
   cases he
   refine WL.nil ?_
   refine WK.un ?_
   exact QF.p0 (.inr rfl) rfl  (⟨rfl,FA',fcap',b',VA,x'',y,rfl,rfl,hx2,hy2,hv2⟩)
end
section
attribute [local irreducible] Tryz.prog
def lastV (v:V) (l:List V):V:=l.getLastD v
theorem lastV_take (v:V) (l:List V) (j:Nat) (u:V) (h:l[j]? =some u):lastV v (l.take (j+1))=u:=by
 rw[List.take_add_one,h];simp[lastV]
theorem PVec.cut1 {FA:Option Addr} {cap:Nat} {bs:List Nat} {b:Nat} {x:Own} (h:PVec FA cap (bs++[b]) x):PVec FA cap bs x:=by
 have e:(ptrs (bs++[b])).take (bs.length*1)=ptrs bs:=by simp[ptrs]
 have:=Vec.cut (m:=bs.length) h (by simp)
 rw[e]at this
 exact this
theorem leave_end (G:Gh) (mb:Nat) (c1 c2 c3:Value) (FA:Option Addr) (fcap:Nat) (en:Int) (v:V) (OA:Option Addr) (on ocap:Nat) (st:Int) (ed:Bool) (b:Nat) (fx:Own) (hfv:PVec FA fcap [b] fx)
  (LA:Option Addr) (lc:Nat) (l:List V) (Ha:List Own) (hr:Rds G Ha LA (vflat l)) (hll:l.length≤1000000):
  Fn Tryz.prog 213 #[.pointer (some ⟨mb,0,none⟩), .slice LA l.length lc] G (mcB mb c1 c2 c3 FA 1 fcap en v OA on ocap st ed::fx::Ha)
   fun e G' H'=>e= .returned (.tuple #[])∧G=G'∧H'=mcB mb c1 c2 c3 FA 0 fcap 1 (lastV v l) OA on ocap st true::fx::Ha∧PVec FA fcap [] fx:=by
 have hcap:=hfv.le
 have hcut:=PVec.cut1 (bs:=[]) hfv
 refine Fn.enter Tryz.func213 rfl rfl fun w0=>?_
 refine WC.seq ?_
 refine WC.draw mixed ?_
 refine za.move 0 ?_
 refine za.move 1 ?_
 refine za.nil 2 ?_
 refine za.fa 3 ?_
 refine za.move 5 ?_
 refine za.nil 6 ?_
 refine za.fa 7 ?_
 refine za.ld 8 ?_
 refine za.len 9 ?_
 refine za.sub 10 ?_
 refine za.ld 4 ?_
 rw[show IntKind.i64.wrap (((1:Nat):Int) - 1)=0 by decide]
 refine WA.pp 11 rfl (Gp.sliceTo rfl rfl (by omega) (by omega)) ?_
 refine za.nil 12 ?_
 refine za.fa 13 ?_
 refine za.st 14 ?_
 refine WA.done kr ?_
 refine WK.un ?_
 refine WC.seq ?_
 refine WC.seq ?_
 refine WC.region ?_
 refine zw.move ?_
 refine zw.nil ?_
 refine zw.fa ?_
 refine zw.ld ?_
 refine zw.len ?_
 refine zw.eq ?_
 refine WL.nil ?_
 refine WK.un ?_
 refine WC.cond_true rfl ?_
 refine WC.seq ?_
 refine WC.region ?_
 refine zw.move ?_
 refine zw.move ?_
 refine zw.nil ?_
 refine zw.fa ?_
 refine zw.st ?_
 refine zw.nil ?_
 refine zw.fa ?_
 refine zw.fa ?_
 refine zw.st ?_
 refine WL.nil ?_
 refine WK.un ?_
 refine WC.seq ?_
 refine WC.seq ?_
 refine WC.region ?_
 refine zw.move ?_
 refine zw.len ?_
 refine zw.move ?_
 refine WL.nil ?_
 refine WK.un ?_
 refine WC.block ?_  -- 0
 refine WC.pk (H':=mcB mb c1 c2 c3 FA 0 fcap 1 v OA on ocap st true::fx::Ha) pkA ?_
 refine WC.loop (X:=Nat) (fun j=>[(37, .int .i64 j),(36, .int .i64 l.length),(35, .slice LA l.length lc),(0, .pointer (some ⟨mb,0,none⟩))]) (fun j=>G) (fun j=>mcB mb c1 c2 c3 FA 0 fcap 1 (lastV v (l.take j)) OA on ocap st true::fx::Ha) (fun j=>l.length - j) (fun j=>j≤l.length) 0 (by omega) (by exact⟨rfl,rfl,rfl,rfl,trivial⟩) rfl (List.Sublist.refl _) fun j hj=>?_
 refine WC.seq ?_
 refine WC.region ?_
 refine zw.lt ?_
 refine WL.nil ?_
 refine WK.un ?_
 refine WC.seq ?_
 refine WC.cond rfl (fun hc8=>?_) (fun hc8=>?_)
 ·-- yes
  have hlt:j<l.length:=by have h:=hc8;simp at h;omega
  obtain⟨u,hu⟩:∃u,l[j]? =some u:=⟨_,List.getElem?_eq_getElem hlt⟩
  rcases hr with h0 | ⟨lb,lo,rfl,hread⟩
  ·have h:=congrArg List.length h0
   rw[vflat_length]at h;simp only[List.length_nil]at h;omega
  refine WC.skip ?_
  refine WK.un ?_
  refine WC.seq ?_
  refine WC.block ?_  -- 1
  refine WC.seq ?_
  refine WC.region ?_
  refine zw.ix ?_
  refine WL.vv (Gv.loadRN rfl hread (by repeat (first | exact List.Sublist.refl _ | exact List.nil_sublist _ | apply List.Sublist.cons)) (vflat_elem l j u hu) rfl) ?_
  refine WL.oo (OW.alloc rfl fun b9=>?_)
  refine zw.st ?_
  refine WL.nil ?_
  refine WK.un ?_
  refine WC.region ?_
  refine zw.move ?_
  refine zw.ld ?_
  refine zw.nil ?_
  refine zw.fa ?_
  refine zw.fa ?_
  refine zw.st ?_
  refine WL.nil ?_
  refine WK.un ?_
  refine WC.region ?_
  refine zw.add ?_
  refine zw.move ?_
  refine WL.nil ?_
  refine WK.un ?_
  refine WK.pk (H':=mcB mb c1 c2 c3 FA 0 fcap 1 u OA on ocap st true::fx::Ha) pkA ?_
  exact WK.again (j+1) (by omega) (show j+1≤l.length by omega) (by refine⟨?_,rfl,rfl,rfl,trivial⟩;show some _=some _;rw[wrap_small (by omega) (by omega)];rfl) rfl (by show List.Sublist (mcB mb c1 c2 c3 FA 0 fcap 1 (lastV v (l.take (j+1))) OA on ocap st true::_) _;rw[lastV_take v l j u hu];exact List.Sublist.refl _)
 ·-- no
  have hge:j=l.length:=by have h:=hc8;simp at h;omega
  subst hge
  rw[List.take_length]
  refine WC.exit ?_
  refine WK.un ?_
  refine WC.rt ?_
  exact QF.p0 (.inl rfl) rfl  (⟨rfl,rfl,rfl,hcut⟩)
theorem leave_go (G:Gh) (mb:Nat) (c1 c2 c3:Value) (FA:Option Addr) (fcap:Nat) (en:Int) (v:V) (OA:Option Addr) (on ocap:Nat) (st:Int) (ed:Bool) (bs:List Nat) (b0 b:Nat) (fx:Own) (hfv:PVec FA fcap (bs++[b0]++[b]) fx) (hbs:bs.length≤1000000)
  (A:Option Addr) (cap:Nat) (p a:Int) (B:Option Addr) (m cm:Nat) (l0:List V) (x:Own) (hv:VVec A cap l0 x)
  (LA:Option Addr) (lc:Nat) (l:List V) (Ha:List Own) (hr:Rds G Ha LA (vflat l)) (hll:l0.length+l.length≤1000000):
  Fn Tryz.prog 213 #[.pointer (some ⟨mb,0,none⟩), .slice LA l.length lc] G (mcB mb c1 c2 c3 FA (bs++[b0]++[b]).length fcap en v OA on ocap st ed::fx::frB b0 A l0.length cap p a B m cm::x::Ha)
   fun e G' H'=>∃A' cap' x',e= .returned (.tuple #[])∧G=G'∧H'=mcB mb c1 c2 c3 FA (bs++[b0]).length fcap en v OA on ocap st ed::fx::frB b0 A' (l0++l).length cap' p a B m cm::x'::Ha∧PVec FA fcap (bs++[b0]) fx∧VVec A' cap' (l0++l) x':=by
 have hcap:=hfv.le
 have hcut:=PVec.cut1 hfv
 have e0:(bs++[b0]++[b]).length=bs.length+2:=by simp
 have e1:(bs++[b0]).length=bs.length+1:=by simp
 rw[e0]at hcap
 refine Fn.enter Tryz.func213 rfl rfl fun w0=>?_
 refine WC.seq ?_
 refine WC.draw mixed ?_
 refine za.move 0 ?_
 refine za.move 1 ?_
 refine za.nil 2 ?_
 refine za.fa 3 ?_
 refine za.move 5 ?_
 refine za.nil 6 ?_
 refine za.fa 7 ?_
 refine za.ld 8 ?_
 refine za.len 9 ?_
 refine za.sub 10 ?_
 refine za.ld 4 ?_
 rw[show IntKind.i64.wrap (((bs++[b0]++[b]).length:Int) - 1)=((bs++[b0]).length:Int) by rw[e0,e1,wrap_small (by omega) (by omega)];omega]
 refine WA.pp 11 rfl (Gp.sliceTo rfl rfl (by omega) (by omega)) ?_
 rw[Int.toNat_natCast]
 refine za.nil 12 ?_
 refine za.fa 13 ?_
 refine za.st 14 ?_
 refine WA.done kr ?_
 refine WK.un ?_
 refine WC.seq ?_
 refine WC.seq ?_
 refine WC.region ?_
 refine zw.move ?_
 refine zw.nil ?_
 refine zw.fa ?_
 refine zw.ld ?_
 refine zw.len ?_
 refine zw.eq ?_
 refine WL.nil ?_
 refine WK.un ?_
 rw[show((((bs++[b0]).length:Nat):Int)==0)=false by rw[e1];simp;omega]
 refine WC.cond_false rfl ?_
 refine WC.skip ?_
 refine WK.un ?_
 refine WC.seq ?_
 refine WC.region ?_
 refine zw.move ?_
 refine zw.len ?_
 refine zw.move ?_
 refine WL.nil ?_
 refine WK.un ?_
 refine WC.block ?_  -- 2
 refine WC.pk (H':=mcB mb c1 c2 c3 FA (bs++[b0]).length fcap en v OA on ocap st ed::fx::frB b0 A l0.length cap p a B m cm::x::Ha) pkA ?_
 refine WC.loop (X:=Nat×Option Addr×Nat×Own) (fun j=>[(49, .int .i64 j.1),(48, .int .i64 l.length),(47, .slice LA l.length lc),(0, .pointer (some ⟨mb,0,none⟩))]) (fun j=>G) (fun j=>mcB mb c1 c2 c3 FA (bs++[b0]).length fcap en v OA on ocap st ed::fx::frB b0 j.2.1 (l0++l.take j.1).length j.2.2.1 p a B m cm::j.2.2.2::Ha) (fun j=>l.length - j.1) (fun j=>j.1≤l.length∧VVec j.2.1 j.2.2.1 (l0++l.take j.1) j.2.2.2) (0,A,cap,x) ⟨by simp,by simpa using hv⟩ (by exact⟨rfl,rfl,rfl,rfl,trivial⟩) rfl (by show List.Sublist (_::_::frB b0 A (l0++l.take 0).length cap p a B m cm::_) _;rw[List.take_zero,List.append_nil];exact List.Sublist.refl _) fun j hj=>?_
 obtain⟨j,A1,cap1,x1⟩:=j
 obtain⟨hj,hv1⟩:=hj
 simp only at hj hv1
 refine WC.seq ?_
 refine WC.region ?_
 refine zw.lt ?_
 refine WL.nil ?_
 refine WK.un ?_
 refine WC.seq ?_
 refine WC.cond rfl (fun hc8=>?_) (fun hc8=>?_)
 ·-- yes
  have hlt:j<l.length:=by have h:=hc8;simp at h;omega
  obtain⟨u,hu⟩:∃u,l[j]? =some u:=⟨_,List.getElem?_eq_getElem hlt⟩
  have e2:l0++l.take (j+1)=(l0++l.take j)++[u]:=by rw[List.take_add_one,hu];simp
  have e3:(l0++l.take (j+1)).length=(l0++l.take j).length+1:=by rw[e2,List.length_append (bs:=[u])];rfl
  have e4:vflat (l0++l.take (j+1))=vflat (l0++l.take j)++vcells u:=by rw[e2,vflat_append];simp[vflat]
  rcases hr with h0 | ⟨lb,lo,rfl,hread⟩
  ·have h:=congrArg List.length h0
   rw[vflat_length]at h;simp only[List.length_nil]at h;omega
  refine WC.skip ?_
  refine WK.un ?_
  refine WC.seq ?_
  refine WC.block ?_  -- 3
  refine WC.seq ?_
  refine WC.region ?_
  refine zw.ix ?_
  refine WL.vv (Gv.loadRN rfl hread (by repeat (first | exact List.Sublist.refl _ | exact List.nil_sublist _ | apply List.Sublist.cons)) (vflat_elem l j u hu) rfl) ?_
  refine WL.oo (OW.alloc rfl fun b11=>?_)
  refine zw.st ?_
  refine WL.nil ?_
  refine WK.un ?_
  refine WC.drawS (Hs:=[.blk b11 (.cells (vcells u).toArray 52 (0,0))]) mixed pkA ?_
  refine zb.move 0 ?_
  refine WB.vv 4 rfl (Gv.loadN rfl .here rfl rfl) ?_
  refine WB.oo 1 rfl (OW.callK rfl (top_fn G mb c1 c2 c3 FA fcap en v OA on ocap st ed bs b0 fx hcut (by omega)) rfl fun v' G' H' h hg=>?_)
  obtain⟨he,rfl,rfl⟩:=h
  cases he
  refine⟨fun w hw=>hw.pk pkA,?_⟩
  refine zb.nil 2 ?_
  refine zb.fa 3 ?_
  refine WB.oo 5 rfl (OW.callK rfl (push_fn G b0 A1 (l0++l.take j).length cap1 p a B m cm (vflat (l0++l.take j)) x1 u hv1 (by simp;omega)) rfl fun v' G' H' h hg=>?_)
  obtain⟨A2,cap2,x2,he,rfl,rfl,hv2⟩:=h
  cases he
  refine⟨fun w hw=>hw.pk pkA,?_⟩
  refine WB.done kr ?_
  refine WK.un ?_
  refine WC.region ?_
  refine zw.add ?_
  refine zw.move ?_
  refine WL.nil ?_
  refine WK.un ?_
  refine WK.pk (H':=mcB mb c1 c2 c3 FA (bs++[b0]).length fcap en v OA on ocap st ed::fx::frB b0 A2 ((l0++l.take j).length+1) cap2 p a B m cm::x2::Ha) pkA ?_
  exact WK.again (j+1,A2,cap2,x2) (show l.length - (j+1)<l.length - j by omega) ⟨show j+1≤l.length by omega,by show VVec A2 cap2 (l0++l.take (j+1)) x2;unfold VVec;rw[e3,e4];exact hv2⟩ (by refine⟨?_,rfl,rfl,rfl,trivial⟩;show some _=some _;rw[wrap_small (by omega) (by omega)];rfl) rfl (by show List.Sublist (_::_::frB b0 A2 (l0++l.take (j+1)).length cap2 p a B m cm::_) _;rw[e3];exact List.Sublist.refl _)
 ·-- no
  have hge:j=l.length:=by have h:=hc8;simp at h;omega
  subst hge
  refine WC.exit ?_
  refine WK.un ?_
  rw[List.take_length]at hv1
  refine WK.pk (H':=mcB mb c1 c2 c3 FA (bs++[b0]).length fcap en v OA on ocap st ed::fx::frB b0 A1 (l0++l.take l.length).length cap1 p a B m cm::x1::Ha) pkA ?_
  rw[List.take_length]
  refine WK.un ?_
  exact QF.p0 (.inr rfl) rfl  (⟨A1,cap1,x1,rfl,rfl,rfl,hcut,hv1⟩)
end
section
section
variable {L:List (Nat×Value)} {d:Option Tmp} {ty:TypeId} {pos:String} {af:Array Edge} {gu:Option (Nat×Bool)}
end
attribute [local irreducible] Tryz.prog
theorem typed_no (G:Gh) (mv:Value) (b:Nat) (A:Option Addr) (n cap:Nat) (p a:Int) (B:Option Addr) (m cm:Nat) (k t:Int) (hb:(n:Int)<k):
  Fn Tryz.prog 196 #[mv, .pointer (some ⟨b,0,none⟩), .int .i64 k, .int .i64 t] G [frB b A n cap p a B m cm]
   fun e G' H'=>e=halted 6∧G=G'∧Left b H':=by
 refine Fn.enter Tryz.func196 rfl rfl fun w0=>?_
 refine WC.seq ?_
 refine WC.region ?_
 refine zw.assign ?_
 refine WL.nil ?_
 refine WK.un ?_
 refine WC.seq ?_
 refine WC.region ?_
 refine zw.move ?_
 refine zw.move ?_
 refine zw.move ?_
 refine WL.oo (OW.call rfl (Pk.perm pkA) (take_no G mv b A n cap p a B m cm k hb) rfl (fun v' G' H' h hg=>by cases h.1) (fun ch G' H' h hg=>?_) (fun G' H' h=>by repeat (first | (cases h.1;done) | (cases h;done) | (obtain⟨_,h⟩:=h) | (rcases h with h | h))))
 obtain⟨he,rfl,c,hc,rfl⟩:=h
 cases he
 refine WK.un ?_
 exact QF.panicP ⟨rfl,rfl,c,hc,rfl⟩ pkA
theorem WK.swap {K:Act→World→Prop} {cx:Cx} {L:List (Nat×Value)} {G:Gh} {H F:List Own} (h:WK K cx L G (F++H)):WK K cx L G (H++F):=fun a w st=>h a w (st.perm List.perm_append_comm)
def pop1 (l:List V):Option (List V×V):=match l.reverse with
 | []=>none
 | v::r=>some (r.reverse,v)
def pop2 (l:List V):Option (List V×V×V):=match l.reverse with
 | v::u::r=>some (r.reverse,u,v)
 | _=>none
theorem pop1_snoc (r:List V) (v:V):pop1 (r++[v])=some (r,v):=by simp[pop1]
theorem pop2_snoc (r:List V) (u v:V):pop2 (r++[u,v])=some (r,u,v):=by simp[pop2]
theorem pop1_none {l:List V} (h:l.length<1):pop1 l=none:=by
 have:l=[]:=List.eq_nil_of_length_eq_zero (by omega)
 subst this;rfl
theorem pop2_none {l:List V} (h:l.length<2):pop2 l=none:=by
 match l,h with
 | [],_=>rfl
 | [v],_=>rfl
theorem one_or {l:List V} :l.length<1∨∃r v,l=r++[v]:=by
 rcases Nat.lt_or_ge l.length 1 with h | h
 ·exact .inl h
 ·obtain⟨l1,l2,rfl,h2,_,_⟩:=cut_list l 1 h
  match l2,h2 with
  | [v],_=>exact .inr ⟨l1,v,rfl⟩
theorem two_or {l:List V} :l.length<2∨∃r u v,l=r++[u,v]:=by
 rcases Nat.lt_or_ge l.length 2 with h | h
 ·exact .inl h
 ·obtain⟨l1,l2,rfl,h2,_,_⟩:=cut_list l 2 h
  match l2,h2 with
  | [u,v],_=>exact .inr ⟨l1,u,v,rfl⟩
instance (u v:V):Decidable (ordOK u v):=by unfold ordOK;infer_instance
inductive PR where
 | halt (n:Int)
 | set (l:List V)
 | print (l:List V) (v:V)
 | leave (l:List V) (g:List V)
def truthV (b:Bool):V:=⟨2,0,b,⟨#[]⟩⟩
def numV (n:Int):V:=⟨1,n,false,⟨#[]⟩⟩
def textV (s:ByteArray):V:=⟨3,0,false,s⟩
def ty1 (l:List V) (t:Int):Option (List V×V):=match pop1 l with
 | none=>none
 | some (r,v)=>if v.t=t then some (r,v)else none
def ty2 (l:List V) (t:Int):Option (List V×V×V):=match pop2 l with
 | none=>none
 | some (r,u,v)=>if u.t=t∧v.t=t then some (r,u,v)else none
def on1 (l:List V) (t:Int) (f:List V→V→PR):PR:=match ty1 l t with
 | none=> .halt 6
 | some (r,v)=>f r v
def on2 (l:List V) (t:Int) (f:List V→V→V→PR):PR:=match ty2 l t with
 | none=> .halt 6
 | some (r,u,v)=>f r u v
theorem pop1_some {l r:List V} {v:V} (h:pop1 l=some (r,v)):l=r++[v]:=by
 rcases@one_or l with h1 | ⟨r',v',rfl⟩
 ·rw[pop1_none h1]at h;cases h
 ·rw[pop1_snoc]at h;cases h;rfl
theorem pop2_some {l r:List V} {u v:V} (h:pop2 l=some (r,u,v)):l=r++[u,v]:=by
 rcases@two_or l with h1 | ⟨r',u',v',rfl⟩
 ·rw[pop2_none h1]at h;cases h
 ·rw[pop2_snoc]at h;cases h;rfl
theorem ty1_some {l r:List V} {t:Int} {v:V} (h:ty1 l t=some (r,v)):l=r++[v]∧v.t=t:=by
 unfold ty1 at h
 split at h
 ·cases h
 ·rename_i r' v' hp
  split at h
  ·cases h;exact⟨pop1_some hp, ‹_›⟩
  ·cases h
theorem ty2_some {l r:List V} {t:Int} {u v:V} (h:ty2 l t=some (r,u,v)):l=r++[u,v]∧u.t=t∧v.t=t:=by
 unfold ty2 at h
 split at h
 ·cases h
 ·rename_i r' u' v' hp
  split at h
  ·cases h;exact⟨pop2_some hp, ‹_›⟩
  ·cases h
theorem ty1_none {l:List V} {t:Int} (h:ty1 l t=none):l.length<1∨∃r v,l=r++[v]∧v.t≠t:=by
 rcases@one_or l with h1 | ⟨r',v',rfl⟩
 ·exact .inl h1
 ·refine .inr ⟨r',v',rfl,fun hv=>?_⟩
  rw[ty1,pop1_snoc]at h;simp[hv]at h
theorem Ex.sub {H H':List Own} {w:World} (h:Ex (covs H) w) (hs:∀x∈H',x∈H):Ex (covs H') w:=fun q hq=>⟨(h q hq).1,fun o ⟨x,hx,hc⟩=>(h q hq).2 o ⟨x,hs x hx,hc⟩⟩
theorem Fn.pk {P:Program} {f:FuncId} {vs:Array Value} {G:Gh} {H H' F:List Own} {R:Ending→Gh→List Own→Prop} (h:Fn P f vs G H' R) (p:Pk H H' F):Fn P f vs G H fun e G' H1=>∃H2,R e G' H2∧H1=H2++F:=by
 intro w hs hx
 have hs':=hs.perm p.perm
 refine(h w (hs'.sub (List.sublist_append_left _ _)) (hx.sub fun y hy=>p.perm.mem_iff.2 (List.mem_append_left _ hy))).mono fun e w' ⟨G',H2,r,s,st⟩=>⟨G',H2++F,⟨H2,r,rfl⟩,hs'.frame s st,?_⟩
 have:=st.frame (F:=F)
 exact⟨this.size,fun b hb=>(this.keep b hb).mono fun o ⟨x,hx,hc⟩=>⟨x,p.perm.mem_iff.2 hx,hc⟩,this.gle,fun b o v e=>(this.gnew b o v e).imp_right fun h=>h.imp_left fun⟨x,hx,hc⟩=>⟨x,p.perm.mem_iff.2 hx,hc⟩,fun x hx b o hc=>(this.own x hx b o hc).imp_left fun⟨y,hy,hc⟩=>⟨y,p.perm.mem_iff.2 hy,hc⟩,this.weq⟩
theorem Fn.drop {P:Program} {f:FuncId} {vs:Array Value} {G:Gh} {H:List Own} {R R':Ending→Gh→List Own→Prop} (h:Fn P f vs G H R) (hr:∀e G' H',R e G' H'→∃H2,H2.Sublist H'∧R' e G' H2):Fn P f vs G H R':=
 fun w hs hx=>(h w hs hx).mono fun e w' ⟨G',H',r,s,st⟩=>by
  obtain⟨H2,h1,h2⟩:=hr _ _ _ r
  exact⟨G',H2,h2,s.sub h1,⟨st.size,st.keep,st.gle,st.gnew,fun x hx=>st.own x (h1.subset hx),st.weq⟩⟩
section
variable (G:Gh) (mv:Value) (b:Nat) (A:Option Addr) (cap:Nat) (p a:Int) (B:Option Addr) (m cm:Nat) (x:Own)
theorem typed1_ok (r:List V) (v:V) (t:Int) (ht:v.t=t) (hv:VVec A cap (r++[v]) x) (hb:(r++[v]).length≤1000000):
  Fn Tryz.prog 196 #[mv, .pointer (some ⟨b,0,none⟩), .int .i64 1, .int .i64 t] G [frB b A (r++[v]).length cap p a B m cm,x]
   fun e G' H'=>∃A' cap' x',e= .returned (.slice A' 1 cap')∧G=G'∧H'=[x',frB b A r.length cap p a B m cm,x]∧VVec A' cap' [v] x'∧VVec A cap r x:=
 (typed_fnQ G mv b A cap p a B m cm r [v] x t hv (by simp at hb⊢;omega)).mono fun e G' H' ⟨h1,h2⟩=>by
  rcases h2 with⟨A',cap',x',h3,_,h5,h6,h7⟩ | ⟨_,⟨u,hu,hne⟩,_⟩
  ·exact⟨A',cap',x',h3,h1,h5,h6,h7⟩
  ·rw[List.mem_singleton]at hu;subst hu;exact absurd ht hne
theorem typed1_no (l:List V) (t:Int) (hn:ty1 l t=none) (hv:VVec A cap l x) (hb:l.length≤1000000):
  Fn Tryz.prog 196 #[mv, .pointer (some ⟨b,0,none⟩), .int .i64 1, .int .i64 t] G [frB b A l.length cap p a B m cm,x]
   fun e G' H'=>e=halted 6∧G=G'∧Left b H':=by
 rcases ty1_none hn with h | ⟨r,v,rfl,hne⟩
 ·refine((typed_no G mv b A l.length cap p a B m cm 1 t (by omega)).pk (F:=[x]) (.cons .here .nil)).drop fun e G' H' ⟨H2,⟨h1,h2,h3⟩,h4⟩=>⟨H2,by rw[h4];exact List.sublist_append_left _ _,h1,h2,h3⟩
 ·refine(typed_fnQ G mv b A cap p a B m cm r [v] x t hv (by simp at hb⊢;omega)).mono fun e G' H' ⟨h1,h2⟩=>?_
  rcases h2 with⟨A',cap',x',h3,h4,_⟩ | ⟨h3,_,h4⟩
  ·exact absurd (h4 v (by simp)) hne
  ·exact⟨h3,h1,h4⟩
end
def onA (l:List V) (f:List V→V→PR):PR:=match pop1 l with
 | none=> .halt 6
 | some (r,v)=>f r v
def onB (l:List V) (f:List V→V→V→PR):PR:=match pop2 l with
 | none=> .halt 6
 | some (r,u,v)=>f r u v
def recR (c:Int) (r:List V) (u v:V):PR:=match reckonS c u.i v.i with
 | none=> .halt 2
 | some n=> .set (r++[numV n])
def plainR (res:Int) (l:List V) (c:Int) (outn:Nat):PR:=
 if c=4 then onA l fun r _=> .set r
 else if c=9 then if res=0 then .leave l []else .halt 6
 else if c=10 then if res=0 then .halt 6 else on1 l res fun r v=> .leave r [v]
 else if c=11 then onA l fun r v=>if 4096≤outn then .halt 7 else .print r v
 else if c=12 then onB l fun r u v=>if u.t=v.t then .set (r++[truthV (decide (u=v))])else .halt 6
 else if c=13 then onB l fun r u v=>if u.t=v.t then .set (r++[truthV (!decide (u=v))])else .halt 6
 else if c=25 then on1 l 2 fun r v=> .set (r++[truthV (!v.b)])
 else if c=26 then on1 l 3 fun r v=> .set (r++[numV v.s.size])
 else if c=20 then on2 l 3 fun r u v=>if 4096<u.s.size+v.s.size then .halt 3 else .set (r++[textV (u.s++v.s)])
 else if c=14∨c=15∨c=16∨c=17 then onB l fun r u v=>if ordOK u v then .set (r++[truthV (ordS c u v)])else .halt 6
 else if c=24 then on1 l 1 fun r v=> .set (r++[numV (IntKind.i64.wrap (0 - v.i))])
 else if c=18∨c=19∨c=21∨c=22∨c=23 then on2 l 1 (recR c)
 else .halt 6
end
section
attribute [local irreducible] Tryz.prog
def Lv (G:Gh) (mb:Nat) (M fx:Own) (Hx:List Own) (RL:List V→List Own→Prop):Prop:=
 (Fn Tryz.prog 213 #[.pointer (some ⟨mb,0,none⟩), .slice none 0 0] G (M::fx::Hx) fun e G' H'=>e= .returned (.tuple #[])∧G=G'∧RL [] H')∧
 ∀A' cap' y v,VVec A' cap' [v] y→Fn Tryz.prog 213 #[.pointer (some ⟨mb,0,none⟩), .slice A' 1 cap'] G (y::M::fx::Hx) fun e G' H'=>e= .returned (.tuple #[])∧G=G'∧RL [v] H'
def PlR (G:Gh) (mb:Nat) (c1 c2 c3:Value) (FA:Option Addr) (fn fcap:Nat) (en:Int) (w:V) (OA:Option Addr) (ocap:Nat) (st:Int) (ed:Bool) (out:List V) (ox fx:Own) (Hx:List Own) (RL:List V→List Own→Prop)
  (b:Nat) (A:Option Addr) (cap:Nat) (p a:Int) (B:Option Addr) (m cm:Nat) (x:Own) (r:PR):Ending→Gh→List Own→Prop:=fun e G' H'=>G=G'∧match r with
 | .halt k=>e=halted k∧∃y,Left b [y]∧H'=mcB mb c1 c2 c3 FA fn fcap en w OA out.length ocap st ed::ox::y::fx::Hx
 | .set r=>∃A' cap' x',e= .returned (.tuple #[])∧VVec A' cap' r x'∧H'=mcB mb c1 c2 c3 FA fn fcap en w OA out.length ocap st ed::ox::frB b A' r.length cap' p a B m cm::x'::fx::Hx
 | .print r v=>∃OA' ocap' ox',e= .returned (.tuple #[])∧VVec OA' ocap' (out++[v]) ox'∧VVec A cap r x∧H'=mcB mb c1 c2 c3 FA fn fcap en w OA' (out++[v]).length ocap' st ed::ox'::frB b A r.length cap p a B m cm::x::fx::Hx
 | .leave r g=>∃H1,e= .returned (.tuple #[])∧VVec A cap r x∧RL g H1∧H'=ox::frB b A r.length cap p a B m cm::x::H1
section
variable (G:Gh) (mb:Nat) (c1 c2 c3:Value) (FA:Option Addr) (fn fcap:Nat) (en:Int) (w:V) (OA:Option Addr) (ocap:Nat) (st:Int) (ed:Bool) (out:List V) (ox fx:Own) (Hx:List Own) (RL:List V→List Own→Prop)
  (b:Nat) (A:Option Addr) (cap:Nat) (p a:Int) (B:Option Addr) (m cm:Nat) (x:Own) (l:List V) (nm:ByteArray) (ex:Bool) (qv cv:Value) (lo res:Int)
theorem plain_give (hv:VVec A cap l x) (hl:l.length≤1000000) (hL:Lv G mb (mcB mb c1 c2 c3 FA fn fcap en w OA out.length ocap st ed) fx Hx RL):Fn Tryz.prog 198 #[.pointer (some ⟨mb,0,none⟩), .pointer (some ⟨b,0,none⟩), .agg #[.string nm, .bool ex,qv, .int .i64 lo, .int .i64 res,cv], .int .i64 10] G
  (mcB mb c1 c2 c3 FA fn fcap en w OA out.length ocap st ed::ox::frB b A l.length cap p a B m cm::x::fx::Hx) (PlR G mb c1 c2 c3 FA fn fcap en w OA ocap st ed out ox fx Hx RL b A cap p a B m cm x (plainR res l 10 out.length)):=by
 refine Fn.enter Tryz.func198 rfl rfl fun w0=>?_
 rw[show plainR res l 10 out.length=if res=0 then .halt 6 else on1 l res fun r v=> .leave r [v] by simp[plainR]]
 refine WC.seq ?_
 refine WC.region ?_
 refine WL.oo (OW.box rfl rfl fun b1=>?_)
 refine WL.nil ?_
 refine WK.un ?_
 refine WC.seq ?_
 refine WC.region ?_
 refine zw.move ?_
 refine WL.nil ?_
 refine WK.un ?_
 repeat (first | refine WC.seq ?_ | refine WC.block ?_ | (refine WC.region ?_;refine WL.p (Gp.eqI rfl rfl) kr rfl ?_;refine WL.p (Gp.assign rfl) kr rfl ?_;refine WL.nil ?_;refine WK.un ?_) | refine WC.cond_true rfl ?_ | refine WC.cond_false rfl ?_ | (refine WC.skip ?_;refine WK.un ?_) | (refine WC.exit ?_;refine WK.un ?_))
 refine WC.region ?_
 refine zw.fa ?_
 refine zw.ld ?_
 refine zw.ne ?_
 by_cases hr:res=0
 ·rw[show(res != 0)=false by simpa using hr,if_pos hr]
  refine WL.oo (OW.call rfl (Hf:=[]) (List.Perm.refl _) (need_no _) rfl (fun v G' H' h _=>by cases h.1) (fun ch G' H' h _=>?_) (fun G' H' h=>by cases h.1))
  obtain⟨he,rfl,rfl⟩:=h
  cases he
  refine WK.un ?_
  exact QF.panicP (⟨rfl,rfl,_,Left.of b A l.length cap p a B m cm,rfl⟩)
 rw[show(res != 0)=true by simpa using hr,if_neg hr]
 refine WL.oo (OW.callR rfl (Hf:=[]) (List.Perm.refl _) (need_ok G) rfl (by rintro e G' H' ⟨h,_⟩;exact⟨_,h⟩) fun v' G' H' h hg=>?_)
 obtain⟨he,rfl,rfl⟩:=h
 cases he
 refine WL.nil ?_
 refine WK.un ?_
 refine WC.region ?_
 refine zw.move ?_
 refine zw.move ?_
 refine zw.move ?_
 refine zw.fa ?_
 refine zw.ld ?_
 cases ht:ty1 l res with
 | none=>
  rw[show on1 l res _= .halt 6 by rw[on1,ht]]
  refine WL.oo (OW.call rfl (Pk.perm pkA) (typed1_no G _ b A cap p a B m cm x l res ht hv hl) rfl (fun v' G' H' h hg=>by cases h.1) (fun ch G' H' h hg=>?_) (fun G' H' h=>by repeat (first | (cases h.1;done) | (cases h;done) | (obtain⟨_,h⟩:=h) | (rcases h with h | h))))
  obtain⟨he,rfl,c,hc,rfl⟩:=h
  cases he
  refine WK.un ?_
  exact QF.panicP ⟨rfl,rfl,_,⟨c,hc,rfl⟩,rfl⟩
 | some rv=>
  obtain⟨r,v⟩:=rv
  rw[show on1 l res _= .leave r [v] by rw[on1,ht]]
  obtain⟨rfl,hvt⟩:=ty1_some ht
  refine WL.oo (OW.callK rfl (typed1_ok G _ b A cap p a B m cm x r v res hvt hv hl) rfl fun v' G' H' h hg=>?_)
  obtain⟨A',cap',x',he,rfl,rfl,hv1,hv2⟩:=h
  cases he
  refine WL.oo (OW.callK rfl (hL.2 A' cap' x' v hv1) rfl fun v' G' H' h hg=>?_)
  obtain⟨he,rfl,hR⟩:=h
  cases he
  refine WL.nil ?_
  refine WK.un ?_
  refine WC.exit ?_
  refine WK.un ?_
  refine WK.un ?_
  refine WK.swap ?_
  exact QF.p0 (.inr rfl) rfl ⟨rfl,H',rfl,hv2,hR,rfl⟩ pkA
end
end
section
attribute [local irreducible] Tryz.prog
section
variable (G:Gh) (mb:Nat) (c1 c2 c3:Value) (FA:Option Addr) (fn fcap:Nat) (en:Int) (w:V) (OA:Option Addr) (ocap:Nat) (st:Int) (ed:Bool) (out:List V) (ox fx:Own) (Hx:List Own) (RL:List V→List Own→Prop)
  (b:Nat) (A:Option Addr) (cap:Nat) (p a:Int) (B:Option Addr) (m cm:Nat) (x:Own) (l:List V) (nm:ByteArray) (ex:Bool) (qv cv:Value) (lo res:Int)
theorem plain_fn (c:Int) (hc:c=10) (hv:VVec A cap l x) (hl:l.length≤1000000) (hz:∀v∈l,v.s.size≤400000000000) (ho:VVec OA ocap out ox) (hL:Lv G mb (mcB mb c1 c2 c3 FA fn fcap en w OA out.length ocap st ed) fx Hx RL):
  Fn Tryz.prog 198 #[.pointer (some ⟨mb,0,none⟩), .pointer (some ⟨b,0,none⟩), .agg #[.string nm, .bool ex,qv, .int .i64 lo, .int .i64 res,cv], .int .i64 c] G
  (mcB mb c1 c2 c3 FA fn fcap en w OA out.length ocap st ed::ox::frB b A l.length cap p a B m cm::x::fx::Hx) (PlR G mb c1 c2 c3 FA fn fcap en w OA ocap st ed out ox fx Hx RL b A cap p a B m cm x (plainR res l c out.length)):=by
 subst hc
 exact plain_give G mb c1 c2 c3 FA fn fcap en w OA ocap st ed out ox fx Hx RL b A cap p a B m cm x l nm ex qv cv lo res hv hl hL
end
end
section
attribute [local irreducible] Tryz.prog
def OpS (l:List (Int×Int)):Prop:=∀i∈l,i.1=1∨i.1=7∨i.1=10
inductive DR where
 | halt (n:Int)
 | go (l:List V) (k:Nat) (vars:List V)
 | print (l:List V) (v:V)
 | call (q:Pr) (r args:List V) (n:Int)
 | leave (l g:List V)
def layRQ (l:List V) (k:Nat) (vars:List V) (v:V):DR:=if 128≤l.length then .halt 6 else .go (l++[v]) (k+1) vars
def constR (consts:List V) (l:List V) (k:Nat) (vars:List V) (n:Int):DR:=if n<0 then .halt 6 else match consts[n.toNat]? with
 | none=> .halt 6
 | some v=>if vOK v=true then layRQ l k vars v else .halt 6
def loadR (l:List V) (k:Nat) (vars:List V) (n:Int):DR:=if n<0 then .halt 6 else match vars[n.toNat]? with
 | none=> .halt 6
 | some v=>if v.t=0 then .halt 6 else layRQ l k vars v
def storeR (l:List V) (k:Nat) (vars:List V) (n:Int):DR:=if n<0∨vars.length≤n.toNat then .halt 6 else match pop1 l with
 | none=> .halt 6
 | some (r,v)=> .go r (k+1) (vars.set n.toNat v)
def jumpR (cl:Nat) (l:List V) (vars:List V) (n:Int):DR:=if n<0∨cl≤n.toNat then .halt 6 else .go l n.toNat vars
def unlessR (cl:Nat) (l:List V) (k:Nat) (vars:List V) (n:Int):DR:=if n<0∨cl≤n.toNat then .halt 6 else match ty1 l 2 with
 | none=> .halt 6
 | some (r,v)=> .go r (if v.b then k+1 else n.toNat) vars
def callD (procs:List Pr) (l:List V) (n:Int) (depth:Nat):DR:=match callR procs l n depth with
 | .error e=> .halt e
 | .ok (q,r,a)=> .call q r a n
def plainD (res:Int) (l:List V) (k:Nat) (vars:List V) (c:Int) (outn:Nat):DR:=match plainR res l c outn with
 | .halt m=> .halt m
 | .set r=> .go r (k+1) vars
 | .print r v=> .print r v
 | .leave r g=> .leave r g
def doR (pg:Pg) (pr:Pr) (l:List V) (k:Nat) (vars:List V) (depth outn:Nat):DR:=match pr.code[k]? with
 | none=> .halt 6
 | some (c,n)=>
  if c=1 then constR pg.consts l k vars n
  else if c=2 then loadR l k vars n
  else if c=3 then storeR l k vars n
  else if c=5 then jumpR pr.code.length l vars n
  else if c=6 then unlessR pr.code.length l k vars n
  else if c=7 then callD pg.procs l n depth
  else if n≠0 then .halt 6
  else plainD pr.result l k vars c outn
def DoR (G:Gh) (mb:Nat) (c1 c2 c3:Value) (FA:Option Addr) (fcap:Nat) (en:Int) (w:V) (OA:Option Addr) (ocap:Nat) (st:Int) (ed:Bool) (out:List V) (ox fx:Own) (Hx:List Own) (RL:List V→List Own→Prop)
  (b:Nat) (A:Option Addr) (cap pi:Nat) (B:Option Addr) (vars:List V) (cm:Nat) (x y:Own) (bs:List Nat) (k1:Nat) (r:DR):Ending→Gh→List Own→Prop:=fun e G' H'=>G=G'∧match r with
 | .halt n=>e=halted n∧∃z,Left b [z]∧H'=mcB mb c1 c2 c3 FA bs.length fcap en w OA out.length ocap st ed::ox::z::fx::Hx
 | .go l' k' vars'=>∃A' cap' x' y',e= .returned (.tuple #[])∧VVec A' cap' l' x'∧VVec B cm vars' y'∧H'=mcB mb c1 c2 c3 FA bs.length fcap en w OA out.length ocap st ed::ox::frB b A' l'.length cap' pi k' B vars'.length cm::x'::y'::fx::Hx
 | .print l' v=>∃OA' ocap' ox',e= .returned (.tuple #[])∧VVec OA' ocap' (out++[v]) ox'∧VVec A cap l' x∧H'=mcB mb c1 c2 c3 FA bs.length fcap en w OA' (out++[v]).length ocap' st ed::ox'::frB b A l'.length cap pi k1 B vars.length cm::x::y::fx::Hx
 | .call q l' args n=>∃FA' fcap' b' VA fx' yv,e= .returned (.tuple #[])∧PVec FA' fcap' (bs++[b']) fx'∧VVec VA (padded args q.locals).length (padded args q.locals) yv∧VVec A cap l' x∧
   H'=mcB mb c1 c2 c3 FA' (bs++[b']).length fcap' en w OA out.length ocap st ed::ox::frB b A l'.length cap pi k1 B vars.length cm::x::y::fx'::frB b' none 0 0 n 0 VA (padded args q.locals).length (padded args q.locals).length:: .spare 0 0 0::yv::Hx
 | .leave l' g=>∃H1,e= .returned (.tuple #[])∧RL g H1∧H'=ox::H1
section
variable (G:Gh) (pg:Pg) (CA PA:Option Addr) (cc pc:Nat) (hC:Sl Kd.val G CA pg.consts) (hP:Sl Kd.prc G PA pg.procs)
  (mb:Nat) (c3:Value) (FA:Option Addr) (fcap:Nat) (en:Int) (w:V) (OA:Option Addr) (ocap:Nat) (st:Int) (ed:Bool) (out:List V) (ox fx:Own) (Hx:List Own) (RL:List V→List Own→Prop)
  (b:Nat) (A:Option Addr) (cap pi:Nat) (pr:Pr) (hpr:pg.procs[pi]? =some pr) (B:Option Addr) (vars:List V) (cm:Nat) (x y:Own) (bs:List Nat) (l:List V) (k:Nat) (hkb:k≤100000000000000∧OpS pr.code)
include hC hP hpr hkb
theorem do_const (n:Int) (hi:pr.code[k]? =some (1,n)) (hv:VVec A cap l x) (hl:l.length≤1000000) (hy:VVec B cm vars y):Fn Tryz.prog 167 #[.pointer (some ⟨mb,0,none⟩), .pointer (some ⟨b,0,none⟩)] G
  (mcB mb (.slice CA pg.consts.length cc) (.slice PA pg.procs.length pc) c3 FA bs.length fcap en w OA out.length ocap st ed::ox::frB b A l.length cap pi k B vars.length cm::x::y::fx::Hx)
  (DoR G mb (.slice CA pg.consts.length cc) (.slice PA pg.procs.length pc) c3 FA fcap en w OA ocap st ed out ox fx Hx RL b A cap pi B vars cm x y bs (k+1) (doR pg pr l k vars bs.length out.length)):=by
 rw[show doR pg pr l k vars bs.length out.length=constR pg.consts l k vars n by simp[doR,hi]]
 obtain⟨pb,po,cs,hPA,⟨QA,qc,IA,ic,rfl,hQ,hI⟩,hcs⟩:=hP pi pr hpr
 obtain⟨ib,io,cs2,rfl,hK,hcs2⟩:=hI k (1,n) hi
 obtain rfl:cs2=[.int .i64 1, .int .i64 n]:=hK
 have hk:k<pr.code.length:=(List.getElem?_eq_some_iff.1 hi).1
 have hpl:pi<pg.procs.length:=(List.getElem?_eq_some_iff.1 hpr).1
 subst hPA
 refine Fn.enter Tryz.func167 rfl rfl fun w0=>?_
 refine WC.seq ?_
 refine WC.draw mixed ?_
 refine za.move 0 ?_
 refine za.nil 1 ?_
 refine za.fa 2 ?_
 refine za.fa 3 ?_
 refine za.ld 4 ?_
 refine za.move 5 ?_
 refine za.nil 6 ?_
 refine za.fa 7 ?_
 refine za.ld 8 ?_
 refine za.ix 9 ?_
 refine WA.vv 10 rfl (Gv.loadGN rfl hcs rfl) ?_
 refine WA.oo 11 rfl (OW.alloc rfl fun b1=>?_)
 refine za.st 12 ?_
 refine WA.done kr ?_
 refine WK.un ?_
 refine WC.seq ?_
 refine WC.draw mixed ?_
 refine za.move 0 ?_
 refine za.nil 1 ?_
 refine za.fa 2 ?_
 refine za.ld 3 ?_
 refine WA.pp 4 rfl (Gp.geI' rfl rfl (show decide ((0:Int)≤(k:Int))=true by simp)) ?_
 refine za.move 5 ?_
 refine za.move 6 ?_
 refine za.nil 7 ?_
 refine za.fa 8 ?_
 refine za.ld 9 ?_
 refine za.fa 10 ?_
 refine za.ld 11 ?_
 refine za.len 12 ?_
 refine WA.pp 13 rfl (Gp.ltI' rfl rfl (show decide ((k:Int)<(pr.code.length:Int))=true by simp;omega)) ?_
 refine za.pick 14 ?_
 refine WA.oo 15 rfl (OW.callR rfl (Hf:=[]) (List.Perm.refl _) (need_ok G) rfl (by rintro e G' H' ⟨h,_⟩;exact⟨_,h⟩) fun v' G' H' h hg=>?_)
 obtain⟨he,rfl,rfl⟩:=h
 cases he
 refine WA.done kr ?_
 refine WK.un ?_
 refine WC.seq ?_
 refine WC.draw mixed ?_
 refine za.fa 0 ?_
 refine za.ld 1 ?_
 refine za.move 2 ?_
 refine za.nil 3 ?_
 refine za.fa 4 ?_
 refine za.ld 5 ?_
 refine za.ix 6 ?_
 refine WA.vv 7 rfl (Gv.loadGN rfl hcs2 rfl) ?_
 refine WA.oo 8 rfl (OW.alloc rfl fun b2=>?_)
 refine za.st 9 ?_
 refine WA.done kr ?_
 refine WK.un ?_
 refine WC.seq ?_
 refine WC.region ?_
 refine zw.move ?_
 refine zw.nil ?_
 refine zw.fa ?_
 refine zw.ld ?_
 refine WL.pp (Gp.add' rfl rfl (show IntKind.i64.wrap ((k:Int)+1)=((k+1:Nat):Int) by rw[wrap_small (by omega) (by omega)];omega)) ?_
 refine zw.nil ?_
 refine zw.fa ?_
 refine zw.st ?_
 refine WL.nil ?_
 refine WK.un ?_
 refine WC.seq ?_
 refine WC.region ?_
 refine zw.fa ?_
 refine zw.ld ?_
 refine WL.nil ?_
 refine WK.un ?_
 refine WC.pk (H':= .blk b2 (.cells #[.int .i64 1, .int .i64 n] 50 (0,0)):: .blk b1 (.cells #[.string pr.name, .bool pr.exp, .slice QA pr.params.length qc, .int .i64 pr.locals, .int .i64 pr.result, .slice (some ⟨ib,io,none⟩) pr.code.length ic] 47 (0,0))::mcB mb (.slice CA pg.consts.length cc) (.slice (some ⟨pb,po,none⟩) pg.procs.length pc) c3 FA bs.length fcap en w OA out.length ocap st ed::ox::frB b A l.length cap pi (k+1:Nat) B vars.length cm::x::y::fx::Hx) pkA ?_
 repeat (first | refine WC.seq ?_ | refine WC.block ?_ | (refine WC.region ?_;refine WL.p (Gp.eqI rfl rfl) kr rfl ?_;refine WL.p (Gp.assign rfl) kr rfl ?_;refine WL.nil ?_;refine WK.un ?_) | refine WC.cond_true rfl ?_ | refine WC.cond_false rfl ?_ | (refine WC.skip ?_;refine WK.un ?_) | (refine WC.exit ?_;refine WK.un ?_))
 refine WC.draw mixed ?_
 refine za.fa 0 ?_
 refine za.ld 1 ?_
 by_cases hn0:n<0
 ·rw[show constR pg.consts l k vars n= .halt 6 by rw[constR,if_pos hn0]]
  refine WA.pp 2 rfl (Gp.geI' rfl rfl (show decide ((0:Int)≤n)=false by simpa using hn0)) ?_
  refine za.move 3 ?_
  refine za.skip 4 ?_
  refine za.skip 5 ?_
  refine za.skip 6 ?_
  refine za.skip 7 ?_
  refine za.skip 8 ?_
  refine za.skip 9 ?_
  refine za.skip 10 ?_
  refine za.skip 11 ?_
  refine za.skip 12 ?_
  refine za.pick 13 ?_
  refine za.move 14 ?_
  refine za.skip 15 ?_
  refine za.skip 16 ?_
  refine za.skip 17 ?_
  refine za.skip 18 ?_
  refine za.skip 19 ?_
  refine za.skip 20 ?_
  refine za.skip 21 ?_
  refine za.skip 22 ?_
  refine za.skip 23 ?_
  refine za.skip 24 ?_
  refine za.pick 25 ?_
  refine WA.oo 26 rfl (OW.call rfl (Hf:=[]) (List.Perm.refl _) (need_no _) rfl (fun v G' H' h _=>by cases h.1) (fun ch G' H' h _=>?_) (fun G' H' h=>by cases h.1))
  obtain⟨he,rfl,rfl⟩:=h
  cases he
  refine WK.un ?_
  exact QF.panicP (⟨rfl,rfl,_,Left.of b A l.length cap pi (k+1:Nat) B vars.length cm,rfl⟩)
 obtain⟨i,rfl⟩:=Int.eq_ofNat_of_zero_le (Int.not_lt.1 hn0)
 refine WA.pp 2 rfl (Gp.geI' rfl rfl (show decide ((0:Int)≤(i:Int))=true by simp)) ?_
 refine za.move 3 ?_
 refine za.fa 4 ?_
 refine za.ld 5 ?_
 refine za.move 6 ?_
 refine za.nil 7 ?_
 refine za.fa 8 ?_
 refine za.fa 9 ?_
 refine za.ld 10 ?_
 refine za.len 11 ?_
 cases hc:pg.consts[i]? with
 | none=>
  rw[show constR pg.consts l k vars (i:Int)= .halt 6 by rw[constR,if_neg hn0,Int.toNat_natCast,hc]]
  refine WA.pp 12 rfl (Gp.ltI' rfl rfl (show decide ((i:Int)<(pg.consts.length:Int))=false by have:=List.getElem?_eq_none_iff.1 hc;simp;omega)) ?_
  refine za.pick 13 ?_
  refine za.move 14 ?_
  refine za.skip 15 ?_
  refine za.skip 16 ?_
  refine za.skip 17 ?_
  refine za.skip 18 ?_
  refine za.skip 19 ?_
  refine za.skip 20 ?_
  refine za.skip 21 ?_
  refine za.skip 22 ?_
  refine za.skip 23 ?_
  refine za.skip 24 ?_
  refine za.pick 25 ?_
  refine WA.oo 26 rfl (OW.call rfl (Hf:=[]) (List.Perm.refl _) (need_no _) rfl (fun v G' H' h _=>by cases h.1) (fun ch G' H' h _=>?_) (fun G' H' h=>by cases h.1))
  obtain⟨he,rfl,rfl⟩:=h
  cases he
  refine WK.un ?_
  exact QF.panicP (⟨rfl,rfl,_,Left.of b A l.length cap pi (k+1:Nat) B vars.length cm,rfl⟩)
 | some v=>
 obtain⟨cb,co,cs3,rfl,hK3,hcs3⟩:=hC i v hc
 obtain rfl:cs3=vcells v:=hK3
 have hic:i<pg.consts.length:=(List.getElem?_eq_some_iff.1 hc).1
 refine WA.pp 12 rfl (Gp.ltI' rfl rfl (show decide ((i:Int)<(pg.consts.length:Int))=true by simp;omega)) ?_
 refine za.pick 13 ?_
 refine za.move 14 ?_
 refine za.move 15 ?_
 refine za.nil 16 ?_
 refine za.fa 17 ?_
 refine za.fa 18 ?_
 refine za.ld 19 ?_
 refine za.fa 20 ?_
 refine za.ld 21 ?_
 refine za.ix 22 ?_
 refine WA.vv 23 rfl (Gv.loadGN rfl hcs3 rfl) ?_
 refine WA.oo 24 rfl (OW.callR rfl (Hf:=[]) (List.Perm.refl _) (value_fnQ G v) rfl (by rintro e G' H' ⟨h,_⟩;exact⟨_,h⟩) fun v' G' H' h hg=>?_)
 obtain⟨he,rfl,rfl⟩:=h
 cases he
 refine za.pick 25 ?_
 by_cases hok:vOK v=true
 rotate_left
 ·rw[show constR pg.consts l k vars (i:Int)= .halt 6 by rw[constR,if_neg hn0,Int.toNat_natCast,hc];exact if_neg hok]
  rw[show vOK v=false by simpa using hok]
  refine WA.oo 26 rfl (OW.call rfl (Hf:=[]) (List.Perm.refl _) (need_no _) rfl (fun v G' H' h _=>by cases h.1) (fun ch G' H' h _=>?_) (fun G' H' h=>by cases h.1))
  obtain⟨he,rfl,rfl⟩:=h
  cases he
  refine WK.un ?_
  exact QF.panicP (⟨rfl,rfl,_,Left.of b A l.length cap pi (k+1:Nat) B vars.length cm,rfl⟩)
 rw[show constR pg.consts l k vars (i:Int)=layRQ l k vars v by rw[constR,if_neg hn0,Int.toNat_natCast,hc];exact if_pos hok]
 rw[hok]
 refine WA.oo 26 rfl (OW.callR rfl (Hf:=[]) (List.Perm.refl _) (need_ok G) rfl (by rintro e G' H' ⟨h,_⟩;exact⟨_,h⟩) fun v' G' H' h hg=>?_)
 obtain⟨he,rfl,rfl⟩:=h
 cases he
 refine WA.done kr ?_
 refine WK.un ?_
 refine WC.draw mixed ?_
 refine za.move 0 ?_
 refine za.move 1 ?_
 refine za.move 2 ?_
 refine za.nil 3 ?_
 refine za.fa 4 ?_
 refine za.fa 5 ?_
 refine za.ld 6 ?_
 refine za.fa 7 ?_
 refine za.ld 8 ?_
 refine za.ix 9 ?_
 refine WA.vv 10 rfl (Gv.loadGN rfl hcs3 rfl) ?_
 by_cases hf:128≤l.length
 ·rw[show layRQ l k vars v= .halt 6 by rw[layRQ,if_pos hf]]
  refine WA.oo 11 rfl (OW.call rfl (Pk.perm pkA) (lay_no G _ b A l.length cap pi (k+1:Nat) B vars.length cm _ hf) rfl (fun v' G' H' h hg=>by cases h.1) (fun ch G' H' h hg=>?_) (fun G' H' h=>by repeat (first | (cases h.1;done) | (cases h;done) | (obtain⟨_,h⟩:=h) | (rcases h with h | h))))
  obtain⟨he,rfl,c,hc,rfl⟩:=h
  cases he
  refine WK.un ?_
  exact QF.panicP ⟨rfl,rfl,_,⟨c,hc,rfl⟩,rfl⟩
 rw[show layRQ l k vars v= .go (l++[v]) (k+1) vars by rw[layRQ,if_neg hf]]
 refine WA.oo 11 rfl (OW.callK rfl (lay_ok G _ b A cap pi (k+1:Nat) B vars.length cm l x v hv (by omega)) rfl fun v' G' H' h hg=>?_)
 obtain⟨A',cap',x',he,rfl,rfl,hv'⟩:=h
 cases he
 refine WA.done kr ?_
 refine WK.un ?_
 exact QF.p0 (.inr rfl) rfl ⟨rfl,A',cap',x',y,rfl,hv',hy,rfl⟩ pkA
end
end
section
attribute [local irreducible] Tryz.prog
section
variable (G:Gh) (pg:Pg) (CA PA:Option Addr) (cc pc:Nat) (hC:Sl Kd.val G CA pg.consts) (hP:Sl Kd.prc G PA pg.procs)
  (mb:Nat) (c3:Value) (FA:Option Addr) (fcap:Nat) (en:Int) (w:V) (OA:Option Addr) (ocap:Nat) (st:Int) (ed:Bool) (out:List V) (ox fx:Own) (Hx:List Own) (RL:List V→List Own→Prop)
  (b:Nat) (A:Option Addr) (cap pi:Nat) (pr:Pr) (hpr:pg.procs[pi]? =some pr) (B:Option Addr) (vars:List V) (cm:Nat) (x y:Own) (bs:List Nat) (l:List V) (k:Nat) (hkb:k≤100000000000000∧OpS pr.code)
include hC hP hpr hkb
theorem do_call (n:Int) (hi:pr.code[k]? =some (7,n)) (hv:VVec A cap l x) (hl:l.length≤1000000) (hfv:PVec FA fcap bs fx) (hbs:bs.length≤1000000000):Fn Tryz.prog 167 #[.pointer (some ⟨mb,0,none⟩), .pointer (some ⟨b,0,none⟩)] G
  (mcB mb (.slice CA pg.consts.length cc) (.slice PA pg.procs.length pc) c3 FA bs.length fcap en w OA out.length ocap st ed::ox::frB b A l.length cap pi k B vars.length cm::x::y::fx::Hx)
  (DoR G mb (.slice CA pg.consts.length cc) (.slice PA pg.procs.length pc) c3 FA fcap en w OA ocap st ed out ox fx Hx RL b A cap pi B vars cm x y bs (k+1) (doR pg pr l k vars bs.length out.length)):=by
 rw[show doR pg pr l k vars bs.length out.length=callD pg.procs l n bs.length by simp[doR,hi]]
 obtain⟨pb,po,cs,hPA,⟨QA,qc,IA,ic,rfl,hQ,hI⟩,hcs⟩:=hP pi pr hpr
 obtain⟨ib,io,cs2,rfl,hK,hcs2⟩:=hI k (7,n) hi
 obtain rfl:cs2=[.int .i64 7, .int .i64 n]:=hK
 have hk:k<pr.code.length:=(List.getElem?_eq_some_iff.1 hi).1
 have hpl:pi<pg.procs.length:=(List.getElem?_eq_some_iff.1 hpr).1
 subst hPA
 refine Fn.enter Tryz.func167 rfl rfl fun w0=>?_
 refine WC.seq ?_
 refine WC.draw mixed ?_
 refine za.move 0 ?_
 refine za.nil 1 ?_
 refine za.fa 2 ?_
 refine za.fa 3 ?_
 refine za.ld 4 ?_
 refine za.move 5 ?_
 refine za.nil 6 ?_
 refine za.fa 7 ?_
 refine za.ld 8 ?_
 refine za.ix 9 ?_
 refine WA.vv 10 rfl (Gv.loadGN rfl hcs rfl) ?_
 refine WA.oo 11 rfl (OW.alloc rfl fun b1=>?_)
 refine za.st 12 ?_
 refine WA.done kr ?_
 refine WK.un ?_
 refine WC.seq ?_
 refine WC.draw mixed ?_
 refine za.move 0 ?_
 refine za.nil 1 ?_
 refine za.fa 2 ?_
 refine za.ld 3 ?_
 refine WA.pp 4 rfl (Gp.geI' rfl rfl (show decide ((0:Int)≤(k:Int))=true by simp)) ?_
 refine za.move 5 ?_
 refine za.move 6 ?_
 refine za.nil 7 ?_
 refine za.fa 8 ?_
 refine za.ld 9 ?_
 refine za.fa 10 ?_
 refine za.ld 11 ?_
 refine za.len 12 ?_
 refine WA.pp 13 rfl (Gp.ltI' rfl rfl (show decide ((k:Int)<(pr.code.length:Int))=true by simp;omega)) ?_
 refine za.pick 14 ?_
 refine WA.oo 15 rfl (OW.callR rfl (Hf:=[]) (List.Perm.refl _) (need_ok G) rfl (by rintro e G' H' ⟨h,_⟩;exact⟨_,h⟩) fun v' G' H' h hg=>?_)
 obtain⟨he,rfl,rfl⟩:=h
 cases he
 refine WA.done kr ?_
 refine WK.un ?_
 refine WC.seq ?_
 refine WC.draw mixed ?_
 refine za.fa 0 ?_
 refine za.ld 1 ?_
 refine za.move 2 ?_
 refine za.nil 3 ?_
 refine za.fa 4 ?_
 refine za.ld 5 ?_
 refine za.ix 6 ?_
 refine WA.vv 7 rfl (Gv.loadGN rfl hcs2 rfl) ?_
 refine WA.oo 8 rfl (OW.alloc rfl fun b2=>?_)
 refine za.st 9 ?_
 refine WA.done kr ?_
 refine WK.un ?_
 refine WC.seq ?_
 refine WC.region ?_
 refine zw.move ?_
 refine zw.nil ?_
 refine zw.fa ?_
 refine zw.ld ?_
 refine WL.pp (Gp.add' rfl rfl (show IntKind.i64.wrap ((k:Int)+1)=((k+1:Nat):Int) by rw[wrap_small (by omega) (by omega)];omega)) ?_
 refine zw.nil ?_
 refine zw.fa ?_
 refine zw.st ?_
 refine WL.nil ?_
 refine WK.un ?_
 refine WC.seq ?_
 refine WC.region ?_
 refine zw.fa ?_
 refine zw.ld ?_
 refine WL.nil ?_
 refine WK.un ?_
 refine WC.pk (H':= .blk b2 (.cells #[.int .i64 7, .int .i64 n] 50 (0,0)):: .blk b1 (.cells #[.string pr.name, .bool pr.exp, .slice QA pr.params.length qc, .int .i64 pr.locals, .int .i64 pr.result, .slice (some ⟨ib,io,none⟩) pr.code.length ic] 47 (0,0))::mcB mb (.slice CA pg.consts.length cc) (.slice (some ⟨pb,po,none⟩) pg.procs.length pc) c3 FA bs.length fcap en w OA out.length ocap st ed::ox::frB b A l.length cap pi (k+1:Nat) B vars.length cm::x::y::fx::Hx) pkA ?_
 repeat (first | refine WC.seq ?_ | refine WC.block ?_ | (refine WC.region ?_;refine WL.p (Gp.eqI rfl rfl) kr rfl ?_;refine WL.p (Gp.assign rfl) kr rfl ?_;refine WL.nil ?_;refine WK.un ?_) | refine WC.cond_true rfl ?_ | refine WC.cond_false rfl ?_ | (refine WC.skip ?_;refine WK.un ?_) | (refine WC.exit ?_;refine WK.un ?_))
 refine WC.region ?_
 refine zw.move ?_
 refine zw.move ?_
 refine zw.fa ?_
 refine zw.ld ?_
 cases hq:callR pg.procs l n bs.length with
 | error e=>
  rw[show callD pg.procs l n bs.length= .halt e by rw[callD,hq]]
  refine WL.oo (OW.call rfl (Pk.perm pkA) ((call_fn G mb (.slice CA pg.consts.length cc) c3 (some ⟨pb,po,none⟩) pc pg.procs FA fcap en w OA out.length ocap st ed bs fx hP hfv hbs b A cap pi (k+1:Nat) B vars.length cm l x hv hl n).mono fun e' G' H' h=>(by rw[hq]at h;exact h:G=G'∧e'=halted e∧∃H1,Left b H1∧H'=mcB mb (.slice CA pg.consts.length cc) (.slice (some ⟨pb,po,none⟩) pg.procs.length pc) c3 FA bs.length fcap en w OA out.length ocap st ed::fx::H1)) rfl (fun v' G' H' h hg=>by cases h.2.1) (fun ch G' H' h hg=>?_) (fun G' H' h=>by cases h.2.1))
  obtain⟨rfl,he,H1,⟨c,hc,rfl⟩,rfl⟩:=h
  cases he
  refine WK.un ?_
  exact QF.panicP ⟨rfl,rfl,_,⟨c,hc,rfl⟩,rfl⟩ pkA
 | ok t=>
  obtain⟨q,r,args⟩:=t
  rw[show callD pg.procs l n bs.length= .call q r args n by rw[callD,hq]]
  refine WL.oo (OW.callR rfl (Pk.perm pkA) ((call_fn G mb (.slice CA pg.consts.length cc) c3 (some ⟨pb,po,none⟩) pc pg.procs FA fcap en w OA out.length ocap st ed bs fx hP hfv hbs b A cap pi (k+1:Nat) B vars.length cm l x hv hl n).mono fun e' G' H' h=>(by rw[hq]at h;exact h)) rfl (by rintro e G' H' ⟨_,_,_,_,_,_,_,h,_⟩;exact⟨_,h⟩) fun v' G' H' h hg=>?_)
  obtain⟨rfl,FA',fcap',b',VA,x',yv,he,rfl,hx2,hy2,hv2⟩:=h
  cases he
  refine WL.nil ?_
  refine WK.un ?_
  exact QF.p0 (.inr rfl) rfl ⟨rfl,FA',fcap',b',VA,x',yv,rfl,hx2,hy2,hv2,rfl⟩ pkA
end
end
section
attribute [local irreducible] Tryz.prog
section
variable (G:Gh) (pg:Pg) (CA PA:Option Addr) (cc pc:Nat) (hC:Sl Kd.val G CA pg.consts) (hP:Sl Kd.prc G PA pg.procs)
  (mb:Nat) (c3:Value) (FA:Option Addr) (fcap:Nat) (en:Int) (w:V) (OA:Option Addr) (ocap:Nat) (st:Int) (ed:Bool) (out:List V) (ox fx:Own) (Hx:List Own) (RL:List V→List Own→Prop)
  (b:Nat) (A:Option Addr) (cap pi:Nat) (pr:Pr) (hpr:pg.procs[pi]? =some pr) (B:Option Addr) (vars:List V) (cm:Nat) (x y:Own) (bs:List Nat) (l:List V) (k:Nat) (hkb:k≤100000000000000∧OpS pr.code)
include hC hP hpr hkb
theorem do_plain (c:Int) (hc:¬(c=1∨c=2∨c=3∨c=5∨c=6∨c=7)) (n:Int) (hi:pr.code[k]? =some (c,n)) (hv:VVec A cap l x) (hl:l.length≤1000000) (hy:VVec B cm vars y) (hz:∀v∈l,v.s.size≤400000000000) (ho:VVec OA ocap out ox) (hL:Lv G mb (mcB mb (.slice CA pg.consts.length cc) (.slice PA pg.procs.length pc) c3 FA bs.length fcap en w OA out.length ocap st ed) fx Hx RL):Fn Tryz.prog 167 #[.pointer (some ⟨mb,0,none⟩), .pointer (some ⟨b,0,none⟩)] G
  (mcB mb (.slice CA pg.consts.length cc) (.slice PA pg.procs.length pc) c3 FA bs.length fcap en w OA out.length ocap st ed::ox::frB b A l.length cap pi k B vars.length cm::x::y::fx::Hx)
  (DoR G mb (.slice CA pg.consts.length cc) (.slice PA pg.procs.length pc) c3 FA fcap en w OA ocap st ed out ox fx Hx RL b A cap pi B vars cm x y bs (k+1) (doR pg pr l k vars bs.length out.length)):=by
 have hc10:c=10:=by
  rcases hkb.2 _ (List.mem_of_getElem? hi)with h | h | h
  ·exact absurd (.inl h) hc
  ·exact absurd (.inr (.inr (.inr (.inr (.inr h))))) hc
  ·exact h
 simp only[not_or]at hc
 obtain⟨h1,h2,h3,h5,h6,h7⟩:=hc
 rw[show doR pg pr l k vars bs.length out.length=(if n≠0 then .halt 6 else plainD pr.result l k vars c out.length) by simp[doR,hi,h1,h2,h3,h5,h6,h7]]
 obtain⟨pb,po,cs,hPA,⟨QA,qc,IA,ic,rfl,hQ,hI⟩,hcs⟩:=hP pi pr hpr
 obtain⟨ib,io,cs2,rfl,hK,hcs2⟩:=hI k (c,n) hi
 obtain rfl:cs2=[.int .i64 c, .int .i64 n]:=hK
 have hk:k<pr.code.length:=(List.getElem?_eq_some_iff.1 hi).1
 have hpl:pi<pg.procs.length:=(List.getElem?_eq_some_iff.1 hpr).1
 subst hPA
 refine Fn.enter Tryz.func167 rfl rfl fun w0=>?_
 refine WC.seq ?_
 refine WC.draw mixed ?_
 refine za.move 0 ?_
 refine za.nil 1 ?_
 refine za.fa 2 ?_
 refine za.fa 3 ?_
 refine za.ld 4 ?_
 refine za.move 5 ?_
 refine za.nil 6 ?_
 refine za.fa 7 ?_
 refine za.ld 8 ?_
 refine za.ix 9 ?_
 refine WA.vv 10 rfl (Gv.loadGN rfl hcs rfl) ?_
 refine WA.oo 11 rfl (OW.alloc rfl fun b1=>?_)
 refine za.st 12 ?_
 refine WA.done kr ?_
 refine WK.un ?_
 refine WC.seq ?_
 refine WC.draw mixed ?_
 refine za.move 0 ?_
 refine za.nil 1 ?_
 refine za.fa 2 ?_
 refine za.ld 3 ?_
 refine WA.pp 4 rfl (Gp.geI' rfl rfl (show decide ((0:Int)≤(k:Int))=true by simp)) ?_
 refine za.move 5 ?_
 refine za.move 6 ?_
 refine za.nil 7 ?_
 refine za.fa 8 ?_
 refine za.ld 9 ?_
 refine za.fa 10 ?_
 refine za.ld 11 ?_
 refine za.len 12 ?_
 refine WA.pp 13 rfl (Gp.ltI' rfl rfl (show decide ((k:Int)<(pr.code.length:Int))=true by simp;omega)) ?_
 refine za.pick 14 ?_
 refine WA.oo 15 rfl (OW.callR rfl (Hf:=[]) (List.Perm.refl _) (need_ok G) rfl (by rintro e G' H' ⟨h,_⟩;exact⟨_,h⟩) fun v' G' H' h hg=>?_)
 obtain⟨he,rfl,rfl⟩:=h
 cases he
 refine WA.done kr ?_
 refine WK.un ?_
 refine WC.seq ?_
 refine WC.draw mixed ?_
 refine za.fa 0 ?_
 refine za.ld 1 ?_
 refine za.move 2 ?_
 refine za.nil 3 ?_
 refine za.fa 4 ?_
 refine za.ld 5 ?_
 refine za.ix 6 ?_
 refine WA.vv 7 rfl (Gv.loadGN rfl hcs2 rfl) ?_
 refine WA.oo 8 rfl (OW.alloc rfl fun b2=>?_)
 refine za.st 9 ?_
 refine WA.done kr ?_
 refine WK.un ?_
 refine WC.seq ?_
 refine WC.region ?_
 refine zw.move ?_
 refine zw.nil ?_
 refine zw.fa ?_
 refine zw.ld ?_
 refine WL.pp (Gp.add' rfl rfl (show IntKind.i64.wrap ((k:Int)+1)=((k+1:Nat):Int) by rw[wrap_small (by omega) (by omega)];omega)) ?_
 refine zw.nil ?_
 refine zw.fa ?_
 refine zw.st ?_
 refine WL.nil ?_
 refine WK.un ?_
 refine WC.seq ?_
 refine WC.region ?_
 refine zw.fa ?_
 refine zw.ld ?_
 refine WL.nil ?_
 refine WK.un ?_
 refine WC.pk (H':= .blk b2 (.cells #[.int .i64 c, .int .i64 n] 50 (0,0)):: .blk b1 (.cells #[.string pr.name, .bool pr.exp, .slice QA pr.params.length qc, .int .i64 pr.locals, .int .i64 pr.result, .slice (some ⟨ib,io,none⟩) pr.code.length ic] 47 (0,0))::mcB mb (.slice CA pg.consts.length cc) (.slice (some ⟨pb,po,none⟩) pg.procs.length pc) c3 FA bs.length fcap en w OA out.length ocap st ed::ox::frB b A l.length cap pi (k+1:Nat) B vars.length cm::x::y::fx::Hx) pkA ?_
 repeat (first | refine WC.seq ?_ | refine WC.block ?_ | (refine WC.skip ?_;refine WK.un ?_) | (refine WC.exit ?_;refine WK.un ?_))
 refine WC.region ?_
 refine zw.eq ?_
 refine zw.assign ?_
 refine WL.nil ?_
 refine WK.un ?_
 refine WC.cond rfl (fun hc=>absurd (by simpa using hc) h1) (fun _=>?_)
 repeat (first | refine WC.seq ?_ | refine WC.block ?_ | (refine WC.skip ?_;refine WK.un ?_) | (refine WC.exit ?_;refine WK.un ?_))
 refine WC.region ?_
 refine zw.eq ?_
 refine zw.assign ?_
 refine WL.nil ?_
 refine WK.un ?_
 refine WC.cond rfl (fun hc=>absurd (by simpa using hc) h2) (fun _=>?_)
 repeat (first | refine WC.seq ?_ | refine WC.block ?_ | (refine WC.skip ?_;refine WK.un ?_) | (refine WC.exit ?_;refine WK.un ?_))
 refine WC.region ?_
 refine zw.eq ?_
 refine zw.assign ?_
 refine WL.nil ?_
 refine WK.un ?_
 refine WC.cond rfl (fun hc=>absurd (by simpa using hc) h3) (fun _=>?_)
 repeat (first | refine WC.seq ?_ | refine WC.block ?_ | (refine WC.skip ?_;refine WK.un ?_) | (refine WC.exit ?_;refine WK.un ?_))
 refine WC.region ?_
 refine zw.eq ?_
 refine zw.assign ?_
 refine WL.nil ?_
 refine WK.un ?_
 refine WC.cond rfl (fun hc=>absurd (by simpa using hc) h5) (fun _=>?_)
 repeat (first | refine WC.seq ?_ | refine WC.block ?_ | (refine WC.skip ?_;refine WK.un ?_) | (refine WC.exit ?_;refine WK.un ?_))
 refine WC.region ?_
 refine zw.eq ?_
 refine zw.assign ?_
 refine WL.nil ?_
 refine WK.un ?_
 refine WC.cond rfl (fun hc=>absurd (by simpa using hc) h6) (fun _=>?_)
 repeat (first | refine WC.seq ?_ | refine WC.block ?_ | (refine WC.skip ?_;refine WK.un ?_) | (refine WC.exit ?_;refine WK.un ?_))
 refine WC.region ?_
 refine zw.eq ?_
 refine zw.assign ?_
 refine WL.nil ?_
 refine WK.un ?_
 refine WC.cond rfl (fun hc=>absurd (by simpa using hc) h7) (fun _=>?_)
 repeat (first | refine WC.seq ?_ | refine WC.block ?_ | (refine WC.skip ?_;refine WK.un ?_) | (refine WC.exit ?_;refine WK.un ?_))
 refine WC.region ?_
 refine zw.fa ?_
 refine zw.ld ?_
 by_cases hn:n≠0
 ·rw[if_pos hn]
  refine WL.pp (Gp.eqI' rfl rfl (show(n==0)=false by simpa using hn)) ?_
  refine WL.oo (OW.call rfl (Hf:=[]) (List.Perm.refl _) (need_no _) rfl (fun v G' H' h _=>by cases h.1) (fun ch G' H' h _=>?_) (fun G' H' h=>by cases h.1))
  obtain⟨he,rfl,rfl⟩:=h
  cases he
  refine WK.un ?_
  exact QF.panicP (⟨rfl,rfl,_,Left.of b A l.length cap pi (k+1:Nat) B vars.length cm,rfl⟩)
 rw[if_neg hn]
 refine WL.pp (Gp.eqI' rfl rfl (show(n==0)=true by simpa using hn)) ?_
 refine WL.oo (OW.callR rfl (Hf:=[]) (List.Perm.refl _) (need_ok G) rfl (by rintro e G' H' ⟨h,_⟩;exact⟨_,h⟩) fun v' G' H' h hg=>?_)
 obtain⟨he,rfl,rfl⟩:=h
 cases he
 refine WL.nil ?_
 refine WK.un ?_
 refine WC.region ?_
 refine zw.move ?_
 refine zw.move ?_
 refine zw.ld ?_
 refine zw.fa ?_
 refine zw.ld ?_
 have hpf:=plain_fn G mb (.slice CA pg.consts.length cc) (.slice (some ⟨pb,po,none⟩) pg.procs.length pc) c3 FA bs.length fcap en w OA ocap st ed out ox fx Hx RL b A cap pi (k+1:Nat) B vars.length cm x l pr.name pr.exp (.slice QA pr.params.length qc) (.slice (some ⟨ib,io,none⟩) pr.code.length ic) pr.locals pr.result c hc10 hv hl hz ho hL
 cases hq:plainR pr.result l c out.length with
 | halt e=>
  rw[hq]at hpf
  rw[show plainD pr.result l k vars c out.length= .halt e by rw[plainD,hq]]
  refine WL.oo (OW.call rfl (Pk.perm pkA) hpf rfl (fun v' G' H' h hg=>by cases h.2.1) (fun ch G' H' h hg=>?_) (fun G' H' h=>by cases h.2.1))
  obtain⟨rfl,he,z,⟨c',hc',hz'⟩,rfl⟩:=h
  cases he
  cases hz'
  refine WK.un ?_
  refine WK.swap ?_
  exact QF.panicP ⟨rfl,rfl,_,⟨c',hc',rfl⟩,rfl⟩ pkA
 | set r=>
  rw[hq]at hpf
  rw[show plainD pr.result l k vars c out.length= .go r (k+1) vars by rw[plainD,hq]]
  refine WL.oo (OW.callR rfl (Pk.perm pkA) hpf rfl (by rintro e G' H' ⟨_,_,_,_,h,_⟩;exact⟨_,h⟩) fun v' G' H' h hg=>?_)
  obtain⟨rfl,A',cap',x',he,hv',rfl⟩:=h
  cases he
  refine WL.nil ?_
  refine WK.un ?_
  refine WK.swap ?_
  exact QF.p0 (.inr rfl) rfl ⟨rfl,A',cap',x',y,rfl,hv',hy,rfl⟩ pkA
 | print r v=>
  rw[hq]at hpf
  rw[show plainD pr.result l k vars c out.length= .print r v by rw[plainD,hq]]
  refine WL.oo (OW.callR rfl (Pk.perm pkA) hpf rfl (by rintro e G' H' ⟨_,_,_,_,h,_⟩;exact⟨_,h⟩) fun v' G' H' h hg=>?_)
  obtain⟨rfl,OA',ocap',ox',he,ho',hv',rfl⟩:=h
  cases he
  refine WL.nil ?_
  refine WK.un ?_
  refine WK.swap ?_
  exact QF.p0 (.inr rfl) rfl ⟨rfl,OA',ocap',ox',rfl,ho',hv',rfl⟩ pkA
 | leave r g=>
  rw[hq]at hpf
  rw[show plainD pr.result l k vars c out.length= .leave r g by rw[plainD,hq]]
  refine WL.oo (OW.callR rfl (Pk.perm pkA) hpf rfl (by rintro e G' H' ⟨_,_,h,_⟩;exact⟨_,h⟩) fun v' G' H' h hg=>?_)
  obtain⟨rfl,H1,he,hv',hR,rfl⟩:=h
  cases he
  refine WL.nil ?_
  refine WK.un ?_
  refine WK.swap ?_
  exact QF.p0 (.inr rfl) rfl ⟨rfl,H1,rfl,hR,rfl⟩ pkA
theorem do_none (hi:pr.code[k]? =none) (hv:VVec A cap l x) (hl:l.length≤1000000):Fn Tryz.prog 167 #[.pointer (some ⟨mb,0,none⟩), .pointer (some ⟨b,0,none⟩)] G
  (mcB mb (.slice CA pg.consts.length cc) (.slice PA pg.procs.length pc) c3 FA bs.length fcap en w OA out.length ocap st ed::ox::frB b A l.length cap pi k B vars.length cm::x::y::fx::Hx)
  (DoR G mb (.slice CA pg.consts.length cc) (.slice PA pg.procs.length pc) c3 FA fcap en w OA ocap st ed out ox fx Hx RL b A cap pi B vars cm x y bs (k+1) (doR pg pr l k vars bs.length out.length)):=by
 rw[show doR pg pr l k vars bs.length out.length=DR.halt 6 by simp[doR,hi]]
 obtain⟨pb,po,cs,hPA,⟨QA,qc,IA,ic,rfl,hQ,hI⟩,hcs⟩:=hP pi pr hpr
 have hpl:pi<pg.procs.length:=(List.getElem?_eq_some_iff.1 hpr).1
 subst hPA
 refine Fn.enter Tryz.func167 rfl rfl fun w0=>?_
 refine WC.seq ?_
 refine WC.draw mixed ?_
 refine za.move 0 ?_
 refine za.nil 1 ?_
 refine za.fa 2 ?_
 refine za.fa 3 ?_
 refine za.ld 4 ?_
 refine za.move 5 ?_
 refine za.nil 6 ?_
 refine za.fa 7 ?_
 refine za.ld 8 ?_
 refine za.ix 9 ?_
 refine WA.vv 10 rfl (Gv.loadGN rfl hcs rfl) ?_
 refine WA.oo 11 rfl (OW.alloc rfl fun b1=>?_)
 refine za.st 12 ?_
 refine WA.done kr ?_
 refine WK.un ?_
 refine WC.seq ?_
 refine WC.draw mixed ?_
 refine za.move 0 ?_
 refine za.nil 1 ?_
 refine za.fa 2 ?_
 refine za.ld 3 ?_
 refine WA.pp 4 rfl (Gp.geI' rfl rfl (show decide ((0:Int)≤(k:Int))=true by simp)) ?_
 refine za.move 5 ?_
 refine za.move 6 ?_
 refine za.nil 7 ?_
 refine za.fa 8 ?_
 refine za.ld 9 ?_
 refine za.fa 10 ?_
 refine za.ld 11 ?_
 refine za.len 12 ?_
 refine WA.pp 13 rfl (Gp.ltI' rfl rfl (show decide ((k:Int)<(pr.code.length:Int))=false by have:=List.getElem?_eq_none_iff.1 hi;simp;omega)) ?_
 refine za.pick 14 ?_
 refine WA.oo 15 rfl (OW.call rfl (Hf:=[]) (List.Perm.refl _) (need_no _) rfl (fun v G' H' h _=>by cases h.1) (fun ch G' H' h _=>?_) (fun G' H' h=>by cases h.1))
 obtain⟨he,rfl,rfl⟩:=h
 cases he
 refine WK.un ?_
 exact QF.panicP (⟨rfl,rfl,_,Left.of b A l.length cap pi k B vars.length cm,rfl⟩)
theorem do_fn (hv:VVec A cap l x) (hl:l.length≤1000000) (hy:VVec B cm vars y) (hz:∀v∈l,v.s.size≤400000000000) (ho:VVec OA ocap out ox) (hfv:PVec FA fcap bs fx) (hbs:bs.length≤1000000000) (hL:Lv G mb (mcB mb (.slice CA pg.consts.length cc) (.slice PA pg.procs.length pc) c3 FA bs.length fcap en w OA out.length ocap st ed) fx Hx RL):Fn Tryz.prog 167 #[.pointer (some ⟨mb,0,none⟩), .pointer (some ⟨b,0,none⟩)] G
  (mcB mb (.slice CA pg.consts.length cc) (.slice PA pg.procs.length pc) c3 FA bs.length fcap en w OA out.length ocap st ed::ox::frB b A l.length cap pi k B vars.length cm::x::y::fx::Hx)
  (DoR G mb (.slice CA pg.consts.length cc) (.slice PA pg.procs.length pc) c3 FA fcap en w OA ocap st ed out ox fx Hx RL b A cap pi B vars cm x y bs (k+1) (doR pg pr l k vars bs.length out.length)):=by
 cases hi:pr.code[k]? with
 | none=>exact do_none G pg CA PA cc pc hC hP mb c3 FA fcap en w OA ocap st ed out ox fx Hx RL b A cap pi pr hpr B vars cm x y bs l k hkb hi hv hl
 | some p=>
  obtain⟨c,n⟩:=p
  by_cases hc:c=1∨c=2∨c=3∨c=5∨c=6∨c=7
  ·rcases hc with rfl | rfl | rfl | rfl | rfl | rfl
   ·exact do_const G pg CA PA cc pc hC hP mb c3 FA fcap en w OA ocap st ed out ox fx Hx RL b A cap pi pr hpr B vars cm x y bs l k hkb n hi hv hl hy
   ·exact absurd (hkb.2 _ (List.mem_of_getElem? hi)) (by dsimp only;decide)
   ·exact absurd (hkb.2 _ (List.mem_of_getElem? hi)) (by dsimp only;decide)
   ·exact absurd (hkb.2 _ (List.mem_of_getElem? hi)) (by dsimp only;decide)
   ·exact absurd (hkb.2 _ (List.mem_of_getElem? hi)) (by dsimp only;decide)
   ·exact do_call G pg CA PA cc pc hC hP mb c3 FA fcap en w OA ocap st ed out ox fx Hx RL b A cap pi pr hpr B vars cm x y bs l k hkb n hi hv hl hfv hbs
  ·exact do_plain G pg CA PA cc pc hC hP mb c3 FA fcap en w OA ocap st ed out ox fx Hx RL b A cap pi pr hpr B vars cm x y bs l k hkb c hc n hi hv hl hy hz ho hL
end
end
section
attribute [local irreducible] Tryz.prog
theorem iface20:Tryz.prog.underlying 20=some (.interface (Tryz.prog.methodsAt 20)):=by kernel_rfl
theorem step1_quiet (G:Gh) (kb mx:Nat):FnD Tryz.prog 166 #[.pointer (some ⟨kb,0,none⟩), .pointer (some ⟨mx,0,none⟩)] .returning G [] .returning fun e G' H'=>e= .returned (.tuple #[])∧G=G'∧H'=[]:=by
 refine FnD.recover (vs:=[.pointer (some ⟨kb,0,none⟩), .pointer (some ⟨mx,0,none⟩)]) (v:= .nilIface) Tryz.func166 rfl rfl rfl rfl (.inl ⟨rfl,rfl,rfl⟩) fun w0=>?_
 refine WC.seq ?_
 refine WC.region ?_
 refine zw.move ?_
 refine WL.pp (Gp.assertNil rfl Tryz.underlying251) ?_
 refine zw.move ?_
 refine zw.ext ?_
 refine zw.ext ?_
 refine WL.oo (OW.alloc rfl fun b1=>?_)
 refine zw.st ?_
 refine zw.assign ?_
 refine WL.nil ?_
 refine WK.un ?_
 refine WC.seq ?_
 refine WC.seq ?_
 refine WC.region ?_
 refine zw.move ?_
 refine WL.pp (Gp.neNilNil rfl iface20) ?_
 refine zw.move ?_
 refine zw.skip ?_
 refine zw.skip ?_
 refine zw.pick ?_
 refine WL.nil ?_
 refine WK.un ?_
 refine WC.cond_false rfl ?_
 refine WC.skip ?_
 refine WK.un ?_
 refine WC.seq ?_
 refine WC.region ?_
 refine zw.move ?_
 refine WL.nil ?_
 refine WK.un ?_
 refine WC.cond_false rfl ?_
 refine WC.skip ?_
 refine WK.un ?_
 exact QF.p0 (.inr rfl) rfl ⟨rfl,rfl,rfl⟩ pkA
theorem step1_halts (G:Gh) (kb mx mb b:Nat) (c:Array Value) (hc:c.size=4) (A:Option Addr) (n cap:Nat) (p a:Int) (B:Option Addr) (m cm:Nat) (c1 c2 c3:Value) (FA:Option Addr) (fn fcap:Nat) (en:Int) (w:V) (OA:Option Addr) (on ocap:Nat) (st:Int) (ed:Bool) (k:Int):
  FnD Tryz.prog 166 #[.pointer (some ⟨kb,0,none⟩), .pointer (some ⟨mx,0,none⟩)] (.panicking [{ v:= .iface 251 (.agg #[.int .i64 k]),recovered:=false }]) G
   [.blk kb (.cells #[.pointer (some ⟨b,0,none⟩), .slice A n cap, .int .i64 p, .int .i64 a, .slice B m cm] 249 (0,0)), .blk mx (.cells #[.pointer (some ⟨mb,0,none⟩)] 154 (0,0)), .blk b (.cells c 245 (0,0)),mcB mb c1 c2 c3 FA fn fcap en w OA on ocap st ed]
   (.panicking [{ v:= .iface 251 (.agg #[.int .i64 k]),recovered:=true }]) fun e G' H'=>e= .returned (.tuple #[])∧G=G'∧H'=[frB b A n cap p a B m cm,mcB mb c1 c2 c3 FA fn fcap k w OA on ocap st true]:=by
 obtain⟨x0,x1,x2,x3,rfl⟩:∃x0 x1 x2 x3,c= #[x0,x1,x2,x3]:=by
  obtain⟨l⟩:=c
  match l,hc with
  | [x0,x1,x2,x3],_=>exact⟨x0,x1,x2,x3,rfl⟩
 refine FnD.recover (vs:=[.pointer (some ⟨kb,0,none⟩), .pointer (some ⟨mx,0,none⟩)]) (v:= .iface 251 (.agg #[.int .i64 k])) Tryz.func166 rfl rfl rfl rfl (.inr ⟨[],rfl,rfl⟩) fun w0=>?_
 refine WC.seq ?_
 refine WC.region ?_
 refine zw.move ?_
 refine WL.pp (Gp.assertIs rfl Tryz.underlying251) ?_
 refine zw.move ?_
 refine zw.ext ?_
 refine zw.ext ?_
 refine WL.oo (OW.alloc rfl fun b1=>?_)
 refine zw.st ?_
 refine zw.assign ?_
 refine WL.nil ?_
 refine WK.un ?_
 refine WC.seq ?_
 refine WC.seq ?_
 refine WC.region ?_
 refine zw.move ?_
 refine WL.pp (Gp.neHeldNil rfl iface20) ?_
 refine zw.move ?_
 refine zw.move ?_
 refine zw.not ?_
 refine zw.pick ?_
 refine WL.nil ?_
 refine WK.un ?_
 refine WC.cond_false rfl ?_
 refine WC.skip ?_
 refine WK.un ?_
 refine WC.seq ?_
 refine WC.region ?_
 refine zw.move ?_
 refine WL.nil ?_
 refine WK.un ?_
 refine WC.cond_true rfl ?_
 refine WC.seq ?_
 refine WC.region ?_
 refine zw.fa ?_
 refine zw.ld ?_
 refine zw.fa ?_
 refine WL.vv (Gv.loadN rfl atA rfl rfl) ?_
 refine zw.nil ?_
 refine WL.oo (OW.store (n:=4) (c':=frC A n cap p a B m cm) rfl rfl atA rfl rfl rfl rfl rfl ?_ rfl)
 refine WL.nil ?_
 refine WK.un ?_
 refine WC.drawS (Hs:=[.blk b1 (.cells #[.int .i64 k] 251 (0,0)), .blk mx (.cells #[.pointer (some ⟨mb,0,none⟩)] 154 (0,0))]) mixed pkA ?_
 refine WB.vv 0 rfl (Gv.load1 rfl atA rfl) ?_
 refine WB.vv 1 rfl (Gv.load1 rfl atA rfl) ?_
 refine zb.fa 2 ?_
 refine zb.nil 4 ?_
 refine zb.fa 5 ?_
 refine WB.vv 3 rfl (Gv.load1 rfl atA rfl) ?_
 refine zb.st 6 ?_
 refine⟨fun w hw=>hw.pk pkA,?_⟩
 refine zb.nil 7 ?_
 refine zb.fa 8 ?_
 refine zb.fa 9 ?_
 refine zb.st 10 ?_
 refine⟨fun w hw=>hw.pk pkA,?_⟩
 refine WB.done kr ?_
 refine WK.un ?_
 exact QF.p0 (.inr rfl) rfl ⟨rfl,rfl,rfl⟩ pkA
end
section
attribute [local irreducible] Tryz.prog
def StR (G:Gh) (mb:Nat) (c1 c2 c3:Value) (FA:Option Addr) (fcap:Nat) (en:Int) (w:V) (OA:Option Addr) (ocap:Nat) (st:Int) (ed:Bool) (out:List V) (ox fx:Own) (Hx:List Own) (RL:List V→List Own→Prop)
  (b:Nat) (A:Option Addr) (cap pi:Nat) (B:Option Addr) (vars:List V) (cm:Nat) (x y:Own) (bs:List Nat) (l:List V) (k:Nat) (r:DR):Ending→Gh→List Own→Prop:=fun e G' H'=>match r with
 | .halt n=>G=G'∧∃A2 cap2 B2 cm2 x2 y2,e= .returned (.tuple #[])∧VVec A2 cap2 l x2∧VVec B2 cm2 vars y2∧H'=mcB mb c1 c2 c3 FA bs.length fcap n w OA out.length ocap st true::ox::frB b A2 l.length cap2 pi k B2 vars.length cm2::x2::y2::fx::Hx
 | r=>DoR G mb c1 c2 c3 FA fcap en w OA ocap st ed out ox fx Hx RL b A cap pi B vars cm x y bs (k+1) r e G' H'
section
variable (G:Gh) (pg:Pg) (CA PA:Option Addr) (cc pc:Nat) (hC:Sl Kd.val G CA pg.consts) (hP:Sl Kd.prc G PA pg.procs)
  (mb:Nat) (c3:Value) (FA:Option Addr) (fcap:Nat) (en:Int) (w:V) (OA:Option Addr) (ocap:Nat) (st:Nat) (ed:Bool) (out:List V) (ox fx:Own) (Hx:List Own) (RL:List V→List Own→Prop)
  (b:Nat) (A:Option Addr) (cap pi:Nat) (pr:Pr) (hpr:pg.procs[pi]? =some pr) (B:Option Addr) (vars:List V) (cm:Nat) (x y:Own) (bs:List Nat) (l:List V) (k:Nat) (hkb:k≤100000000000000∧OpS pr.code)
include hC hP hpr hkb in
theorem step_fn (hst:st≤100000000000000) (hv:VVec A cap l x) (hl:l.length≤1000000) (hy:VVec B cm vars y) (hml:vars.length≤1000000) (hz:∀v∈l,v.s.size≤400000000000) (ho:VVec OA ocap out ox) (hfv:PVec FA fcap (bs++[b]) fx) (hbs:bs.length≤1000000)
  (hL:Lv G mb (mcB mb (.slice CA pg.consts.length cc) (.slice PA pg.procs.length pc) c3 FA (bs++[b]).length fcap en w OA out.length ocap (st+1:Nat) ed) fx Hx RL):Fn Tryz.prog 142 #[.pointer (some ⟨mb,0,none⟩)] G
  (mcB mb (.slice CA pg.consts.length cc) (.slice PA pg.procs.length pc) c3 FA (bs++[b]).length fcap en w OA out.length ocap st ed::ox::frB b A l.length cap pi k B vars.length cm::x::y::fx::Hx)
  (StR G mb (.slice CA pg.consts.length cc) (.slice PA pg.procs.length pc) c3 FA fcap en w OA ocap (st+1:Nat) ed out ox fx Hx RL b A cap pi B vars cm x y (bs++[b]) l k (doR pg pr l k vars (bs++[b]).length out.length)):=by
 refine Fn.unpk ?_
 refine Fn.enterD Tryz.func142 rfl rfl fun w0=>?_
 refine WC.seq ?_
 refine WC.region ?_
 refine WL.oo (OW.box rfl rfl fun b1=>?_)
 refine WL.nil ?_
 refine WK.un ?_
 refine WC.seq ?_
 refine WC.region ?_
 refine zw.ld ?_
 refine WL.oo (OW.callK rfl (top_fn G mb (.slice CA pg.consts.length cc) (.slice PA pg.procs.length pc) c3 FA fcap en w OA out.length ocap st ed bs b fx hfv (by omega)) rfl fun v' G' H' h hg=>?_)
 obtain⟨he,rfl,rfl⟩:=h
 cases he
 refine zw.assign ?_
 refine WL.nil ?_
 refine WK.un ?_
 refine WC.seq ?_
 refine WC.region ?_
 refine zw.move ?_
 refine zw.move ?_
 refine WL.oo (OW.callK rfl (copied_fnQ G b A cap pi k B cm l vars x y hv hy (by omega) (by omega)) rfl fun v' G' H' h hg=>?_)
 obtain⟨A2,cap2,B2,cm2,x2,y2,he,rfl,rfl,hx2,hy2⟩:=h
 cases he
 refine zw.build ?_
 refine WL.oo (OW.alloc rfl fun b2=>?_)
 refine zw.st ?_
 refine WL.nil ?_
 refine WK.un ?_
 refine WC.seq ?_
 refine WC.region ?_
 refine zw.ld ?_
 refine zw.nil ?_
 refine zw.fa ?_
 refine zw.fa ?_
 refine zw.ld ?_
 refine WL.pp (Gp.add' rfl rfl (show IntKind.i64.wrap ((st:Int)+1)=((st+1:Nat):Int) by rw[wrap_small (by omega) (by omega)];omega)) ?_
 refine zw.nil ?_
 refine zw.fa ?_
 refine zw.fa ?_
 refine zw.st ?_
 refine WL.nil ?_
 refine WK.un ?_
 refine WC.seq ?_
 refine WC.region ?_
 refine WL.pp (Gp.makeFunc rfl rfl) ?_
 refine WL.defer rfl kr rfl ?_
 refine WL.nil ?_
 refine WK.un ?_
 refine WC.pk (H':= .blk b1 (.cells #[.pointer (some ⟨mb,0,none⟩)] 154 (0,0)):: .blk b2 (.cells #[.pointer (some ⟨b,0,none⟩), .slice A2 l.length cap2, .int .i64 pi, .int .i64 k, .slice B2 vars.length cm2] 249 (0,0))::x2::y2::mcB mb (.slice CA pg.consts.length cc) (.slice PA pg.procs.length pc) c3 FA (bs++[b]).length fcap en w OA out.length ocap (st+1:Nat) ed::ox::frB b A l.length cap pi k B vars.length cm::x::y::fx::Hx) pkA ?_
 refine WC.region ?_
 refine zw.ld ?_
 refine zw.move ?_
 have hdo:=do_fn G pg CA PA cc pc hC hP mb c3 FA fcap en w OA ocap (st+1:Nat) ed out ox fx Hx RL b A cap pi pr hpr B vars cm x y (bs++[b]) l k hkb hv hl hy hz ho hfv (by simp;omega) hL
 cases hq:doR pg pr l k vars (bs++[b]).length out.length with
 | halt e=>
  rw[hq]at hdo
  refine WL.oo (OW.call rfl (Pk.perm pkA) hdo rfl (fun v' G' H' h hg=>by cases h.2.1) (fun ch G' H' h hg=>?_) (fun G' H' h=>by cases h.2.1))
  obtain⟨rfl,he,z,⟨c,hc,hz'⟩,rfl⟩:=h
  cases he
  cases hz'
  refine WK.un ?_
  refine WK.swap ?_
  refine QD.caught (Pk.perm pkA) (step1_halts G b2 b1 mb b c hc A2 l.length cap2 pi k B2 vars.length cm2 (.slice CA pg.consts.length cc) (.slice PA pg.procs.length pc) c3 FA (bs++[b]).length fcap en w OA out.length ocap (st+1:Nat) ed e) (fun v' G' H' h hg=>?_) (fun ch G' H' h=>by cases h.1) (fun G' H' h=>by cases h.1)
  obtain⟨he,rfl,rfl⟩:=h
  exact⟨.tuple #[],ResRun.zero rfl,_,_,pkA,rfl,A2,cap2,B2,cm2,x2,y2,rfl,hx2,hy2,rfl⟩
 | go l' k' vars'=>
  rw[hq]at hdo
  refine WL.oo (OW.callR rfl (Pk.perm pkA) hdo rfl (by rintro e G' H' ⟨_,_,_,_,_,h,_⟩;exact⟨_,h⟩) fun v' G' H' h hg=>?_)
  obtain⟨rfl,A',cap',x',y',he,hv',hy',rfl⟩:=h
  cases he
  refine WL.nil ?_
  refine WK.un ?_
  refine WK.swap ?_
  refine QD.leave (Hf:=[]) (.inr rfl) (List.Perm.refl _) (step1_quiet G b2 b1) (fun v' G' H' h hg=>?_) (fun ch G' H' h=>by cases h.1) (fun G' H' h=>by cases h.1)
  obtain⟨he,rfl,rfl⟩:=h
  exact⟨.tuple #[],ResRun.zero rfl,_,_,pkA,rfl,A',cap',x',y',rfl,hv',hy',rfl⟩
 | print l' v=>
  rw[hq]at hdo
  refine WL.oo (OW.callR rfl (Pk.perm pkA) hdo rfl (by rintro e G' H' ⟨_,_,_,_,h,_⟩;exact⟨_,h⟩) fun v' G' H' h hg=>?_)
  obtain⟨rfl,OA',ocap',ox',he,ho',hv',rfl⟩:=h
  cases he
  refine WL.nil ?_
  refine WK.un ?_
  refine WK.swap ?_
  refine QD.leave (Hf:=[]) (.inr rfl) (List.Perm.refl _) (step1_quiet G b2 b1) (fun v' G' H' h hg=>?_) (fun ch G' H' h=>by cases h.1) (fun G' H' h=>by cases h.1)
  obtain⟨he,rfl,rfl⟩:=h
  exact⟨.tuple #[],ResRun.zero rfl,_,_,pkA,rfl,OA',ocap',ox',rfl,ho',hv',rfl⟩
 | call q l' args n=>
  rw[hq]at hdo
  refine WL.oo (OW.callR rfl (Pk.perm pkA) hdo rfl (by rintro e G' H' ⟨_,_,_,_,_,_,_,h,_⟩;exact⟨_,h⟩) fun v' G' H' h hg=>?_)
  obtain⟨rfl,FA',fcap',b',VA,fx',yv,he,hf',hyv,hv',rfl⟩:=h
  cases he
  refine WL.nil ?_
  refine WK.un ?_
  refine WK.swap ?_
  refine QD.leave (Hf:=[]) (.inr rfl) (List.Perm.refl _) (step1_quiet G b2 b1) (fun v' G' H' h hg=>?_) (fun ch G' H' h=>by cases h.1) (fun G' H' h=>by cases h.1)
  obtain⟨he,rfl,rfl⟩:=h
  exact⟨.tuple #[],ResRun.zero rfl,_,_,pkA,rfl,FA',fcap',b',VA,fx',yv,rfl,hf',hyv,hv',rfl⟩
 | leave l' g=>
  rw[hq]at hdo
  refine WL.oo (OW.callR rfl (Pk.perm pkA) hdo rfl (by rintro e G' H' ⟨_,_,h,_⟩;exact⟨_,h⟩) fun v' G' H' h hg=>?_)
  obtain⟨rfl,H1,he,hR,rfl⟩:=h
  cases he
  refine WL.nil ?_
  refine WK.un ?_
  refine WK.swap ?_
  refine QD.leave (Hf:=[]) (.inr rfl) (List.Perm.refl _) (step1_quiet G b2 b1) (fun v' G' H' h hg=>?_) (fun ch G' H' h=>by cases h.1) (fun G' H' h=>by cases h.1)
  obtain⟨he,rfl,rfl⟩:=h
  exact⟨.tuple #[],ResRun.zero rfl,_,_,pkA,rfl,H1,rfl,hR,rfl⟩
end
end
section
attribute [local irreducible] Tryz.prog
structure Fr where
 proc:Nat
 pc:Nat
 stack:List V
 vars:List V
structure Mc where
 frames:List Fr
 out:List V
 steps:Nat
 en:Int
 val:V
 ended:Bool
def stepM (pg:Pg) (s:Mc):Mc:=match s.frames with
 | []=>s
 | f::fs=>match pg.procs[f.proc]? with
  | none=>s
  | some pr=>match doR pg pr f.stack f.pc f.vars (fs.length+1) s.out.length with
   | .halt n=> { s with steps:=s.steps+1,en:=n,ended:=true }
   | .go l k vars=> { s with steps:=s.steps+1,frames:=⟨f.proc,k,l,vars⟩::fs }
   | .print l v=> { s with steps:=s.steps+1,out:=s.out++[v],frames:=⟨f.proc,f.pc+1,l,f.vars⟩::fs }
   | .call q r args n=> { s with steps:=s.steps+1,frames:=⟨n.toNat,0,[],padded args q.locals⟩::⟨f.proc,f.pc+1,r,f.vars⟩::fs }
   | .leave r g=>match fs with
    | []=> { s with steps:=s.steps+1,frames:=[],en:=1,val:=lastV s.val g,ended:=true }
    | f0::fs'=> { s with steps:=s.steps+1,frames:=⟨f0.proc,f0.pc,f0.stack++g,f0.vars⟩::fs' }
inductive FRepQ:List Fr→List Nat→List Own→Prop where
 | nil:FRepQ [] [] []
 | cons {f:Fr} {fs:List Fr} {b:Nat} {bs:List Nat} {H:List Own} {A B:Option Addr} {cap cm:Nat} {x y:Own} (hx:VVec A cap f.stack x) (hy:VVec B cm f.vars y) (h:FRepQ fs bs H):
   FRepQ (f::fs) (b::bs) (frB b A f.stack.length cap f.proc f.pc B f.vars.length cm::x::y::H)
theorem FRepQ.len {fs:List Fr} {bs:List Nat} {H:List Own} (h:FRepQ fs bs H):bs.length=fs.length:=by
 induction h with
 | nil=>rfl
 | cons _ _ _ ih=>simp[ih]
def MRep (CA PA:Option Addr) (cc pc cn pn:Nat) (c3:Value) (mb:Nat) (s:Mc) (H:List Own):Prop:=
 ∃FA fcap OA ocap ox fx bs Hf,FRepQ s.frames bs Hf∧PVec FA fcap bs.reverse fx∧VVec OA ocap s.out ox∧
  H=mcB mb (.slice CA cn cc) (.slice PA pn pc) c3 FA bs.reverse.length fcap s.en s.val OA s.out.length ocap s.steps s.ended::ox::fx::Hf
structure Bd (pg:Pg) (s:Mc):Prop where
 procs:∀f∈s.frames,∃pr,pg.procs[f.proc]? =some pr∧f.pc≤pr.code.length
 code:∀pr∈pg.procs,pr.code.length≤90000000000000∧OpS pr.code
 frames:s.frames.length≤64
 stack:∀f∈s.frames,f.stack.length≤900000∧f.vars.length≤1000000∧∀v∈f.stack,v.s.size≤400000000000
 steps:s.steps≤100000000000000
theorem callR_ok {procs:List Pr} {l r a:List V} {n:Int} {d:Nat} {q:Pr} (h:callR procs l n d= .ok (q,r,a)):0≤n∧procs[n.toNat]? =some q∧sizedP q=true∧l=r++a∧a.length=q.params.length∧d<64∧tys a=q.params∧(q.result≠0→r.length<128):=by
 unfold callR at h
 split at h
 ·cases h
 ·rename_i hn
  split at h
  ·cases h
  ·rename_i q' hq
   split at h
   ·cases h
   ·rename_i hs
    split at h
    ·cases h
    ·rename_i hl
     split at h
     ·cases h
     ·rename_i ht
      split at h
      ·cases h
      ·rename_i hr
       split at h
       ·cases h
       ·rename_i hd
        cases h
        have ht':=Classical.not_not.1 ht
        refine⟨by omega,hq,by simpa using hs,(List.take_append_drop _ _).symm,by simp;omega,by omega,ht',fun hne=>?_⟩
        have:=not_and.1 hr hne
        simp;omega
theorem doR_call {pg:Pg} {pr q:Pr} {l r a vars:List V} {k d o:Nat} {n:Int} (h:doR pg pr l k vars d o= .call q r a n):callR pg.procs l n d= .ok (q,r,a):=by
 unfold doR at h
 split at h
 ·cases h
 ·rename_i c n' hc
  have hcd:∀ {m:Int},callD pg.procs l m d= .call q r a n→callR pg.procs l n d= .ok (q,r,a):=by
   intro m h
   unfold callD at h
   split at h
   ·cases h
   ·rename_i q' r' a' he;cases h;exact he
  have hlay:∀v,layRQ l k vars v≠ .call q r a n:=by intro v h;unfold layRQ at h;split at h<;>cases h
  have hpl:∀c',plainD pr.result l k vars c' o≠ .call q r a n:=by intro c' h;unfold plainD at h;split at h<;>cases h
  split at h
  ·unfold constR at h;split at h; · cases h
   split at h; · cases h
   split at h
   ·exact absurd h (hlay _)
   ·cases h
  split at h
  ·unfold loadR at h;split at h; · cases h
   split at h; · cases h
   split at h
   ·cases h
   ·exact absurd h (hlay _)
  split at h
  ·unfold storeR at h;split at h; · cases h
   split at h<;>cases h
  split at h
  ·unfold jumpR at h;split at h<;>cases h
  split at h
  ·unfold unlessR at h;split at h; · cases h
   split at h<;>cases h
  split at h
  ·exact hcd h
  split at h
  ·cases h
  ·exact absurd h (hpl _)
theorem Fn.reorder {P:Program} {f:FuncId} {vs:Array Value} {G:Gh} {H H':List Own} {R:Ending→Gh→List Own→Prop} (h:Fn P f vs G H' R) (p:Pk H H' []):Fn P f vs G H R:=
 (h.pk p).mono fun e G' H1 ⟨H2,r,e1⟩=>by rw[e1,List.append_nil];exact r
section
variable (G:Gh) (pg:Pg) (CA PA:Option Addr) (cc pc:Nat) (hC:Sl Kd.val G CA pg.consts) (hP:Sl Kd.prc G PA pg.procs) (mb:Nat) (c3:Value)
include hC hP
theorem stepM_fn (s:Mc) (H:List Own) (hR:MRep CA PA cc pc pg.consts.length pg.procs.length c3 mb s H) (hB:Bd pg s) (hne:s.frames≠ []):
  Fn Tryz.prog 142 #[.pointer (some ⟨mb,0,none⟩)] G H fun e G' H'=>e= .returned (.tuple #[])∧G=G'∧MRep CA PA cc pc pg.consts.length pg.procs.length c3 mb (stepM pg s) H':=by
 obtain⟨FA,fcap,OA,ocap,ox,fx,bs,Hf,hF,hfv,ho,rfl⟩:=hR
 obtain⟨frames,out,steps,en,val,ended⟩:=s
 have hlen:=hF.len
 cases hF with
 | nil=>exact absurd rfl hne
 | @cons f fs b bs H A B cap cm x y hx hy h=>
 obtain⟨proc,pcv,stack,vars⟩:=f
 simp only at hx hy hfv ho hlen
 obtain⟨pr,hpr,hpc⟩:=hB.procs _ (List.mem_cons_self)
 obtain⟨hsl,hvl,hsz⟩:=hB.stack _ (List.mem_cons_self)
 have hcode:=hB.code pr (List.mem_of_getElem? hpr)
 have hfr:=hB.frames
 have hst:=hB.steps
 simp only at hpr hpc hsl hvl hsz hcode hfr hst
 rw[List.reverse_cons]at hfv⊢
 have hbl:bs.reverse.length≤1000000:=by simp at hlen hfr⊢;omega
 have hdep:(bs.reverse++[b]).length=fs.length+1:=by simp at hlen⊢;omega
 have key:∀RL:List V→List Own→Prop,Lv G mb (mcB mb (.slice CA pg.consts.length cc) (.slice PA pg.procs.length pc) c3 FA (bs.reverse++[b]).length fcap en val OA out.length ocap (steps+1:Nat) ended) fx H RL→
   (∀l' g H1,doR pg pr stack pcv vars (fs.length+1) out.length= .leave l' g→RL g H1→∃H2 F,Pk (ox::H1) H2 F∧MRep CA PA cc pc pg.consts.length pg.procs.length c3 mb (stepM pg ⟨⟨proc,pcv,stack,vars⟩::fs,out,steps,en,val,ended⟩) H2)→
   Fn Tryz.prog 142 #[.pointer (some ⟨mb,0,none⟩)] G (mcB mb (.slice CA pg.consts.length cc) (.slice PA pg.procs.length pc) c3 FA (bs.reverse++[b]).length fcap en val OA out.length ocap steps ended::ox::fx::frB b A stack.length cap proc pcv B vars.length cm::x::y::H)
    fun e G' H'=>e= .returned (.tuple #[])∧G=G'∧MRep CA PA cc pc pg.consts.length pg.procs.length c3 mb (stepM pg ⟨⟨proc,pcv,stack,vars⟩::fs,out,steps,en,val,ended⟩) H':=by
  intro RL hL hleave
  refine Fn.unpk (Fn.reorder ((step_fn G pg CA PA cc pc hC hP mb c3 FA fcap en val OA ocap steps ended out ox fx H RL b A cap proc pr hpr B vars cm x y bs.reverse stack pcv ⟨by omega,hcode.2⟩ hst hx (by omega) hy hvl hsz ho hfv hbl hL).mono fun e G' H' hS=>?_) pkA)
  rw[hdep]at hS
  simp only[stepM,hpr]
  cases hq:doR pg pr stack pcv vars (fs.length+1) out.length with
  | halt n=>
   rw[hq]at hS
   obtain⟨rfl,A2,cap2,B2,cm2,x2,y2,he,h1,h2,rfl⟩:=hS
   exact⟨mcB mb (.slice CA pg.consts.length cc) (.slice PA pg.procs.length pc) c3 FA (bs.reverse++[b]).length fcap n val OA out.length ocap (steps+1:Nat) true::ox::fx::frB b A2 stack.length cap2 proc pcv B2 vars.length cm2::x2::y2::H,[],pkA,he,rfl,FA,fcap,OA,ocap,ox,fx,b::bs,_, .cons h1 h2 h,by rw[List.reverse_cons];exact hfv,ho,by rw[List.reverse_cons]⟩
  | go l k vs=>
   rw[hq]at hS
   obtain⟨rfl,A2,cap2,x2,y2,he,h1,h2,rfl⟩:=hS
   exact⟨mcB mb (.slice CA pg.consts.length cc) (.slice PA pg.procs.length pc) c3 FA (bs.reverse++[b]).length fcap en val OA out.length ocap (steps+1:Nat) ended::ox::fx::frB b A2 l.length cap2 proc k B vs.length cm::x2::y2::H,[],pkA,he,rfl,FA,fcap,OA,ocap,ox,fx,b::bs,_, .cons h1 h2 h,by rw[List.reverse_cons];exact hfv,ho,by rw[List.reverse_cons]⟩
  | print l v=>
   rw[hq]at hS
   obtain⟨rfl,OA2,ocap2,ox2,he,h1,h2,rfl⟩:=hS
   exact⟨mcB mb (.slice CA pg.consts.length cc) (.slice PA pg.procs.length pc) c3 FA (bs.reverse++[b]).length fcap en val OA2 (out++[v]).length ocap2 (steps+1:Nat) ended::ox2::fx::frB b A l.length cap proc (pcv+1:Nat) B vars.length cm::x::y::H,[],pkA,he,rfl,FA,fcap,OA2,ocap2,ox2,fx,b::bs,_, .cons h2 hy h,by rw[List.reverse_cons];exact hfv,h1,by rw[List.reverse_cons]⟩
  | call q r args n=>
   have hn:=(callR_ok (doR_call hq)).1
   rw[hq]at hS
   obtain⟨rfl,FA2,fcap2,b2,VA,fx2,yv,he,h1,h2,h3,rfl⟩:=hS
   obtain⟨m,rfl⟩:=Int.eq_ofNat_of_zero_le hn
   exact⟨mcB mb (.slice CA pg.consts.length cc) (.slice PA pg.procs.length pc) c3 FA2 (bs.reverse++[b]++[b2]).length fcap2 en val OA out.length ocap (steps+1:Nat) ended::ox::fx2::frB b2 none ([]:List V).length 0 m (0:Nat) VA (padded args q.locals).length (padded args q.locals).length:: .spare 0 0 0::yv::frB b A r.length cap proc (pcv+1:Nat) B vars.length cm::x::y::H,[],pkA,he,rfl,FA2,fcap2,OA,ocap,ox,fx2,b2::b::bs,_, .cons ⟨by simp[vflat], .inl ⟨rfl,rfl,rfl,rfl⟩⟩ h2 (.cons h3 hy h),by rw[List.reverse_cons,List.reverse_cons];exact h1,ho,by rw[List.reverse_cons,List.reverse_cons];rfl⟩
  | leave l g=>
   have hl:=hleave l g
   rw[hq]at hS
   obtain⟨rfl,H1,he,hR,rfl⟩:=hS
   obtain⟨H2,F,h1,h2⟩:=hl H1 hq hR
   simp only[stepM,hpr,hq]at h2
   exact⟨H2,F,h1,he,rfl,h2⟩
 cases h with
 | nil=>
  refine key (fun g H1=>H1=[mcB mb (.slice CA pg.consts.length cc) (.slice PA pg.procs.length pc) c3 FA 0 fcap 1 (lastV val g) OA out.length ocap (steps+1:Nat) true,fx]∧PVec FA fcap [] fx) ⟨?_,fun A' cap' y' v hv'=>?_⟩ fun l' g H1 hq hR=>?_
  ·exact(leave_end G mb (.slice CA pg.consts.length cc) (.slice PA pg.procs.length pc) c3 FA fcap en val OA out.length ocap (steps+1:Nat) ended b fx hfv none 0 [] [] (Rds.nil _ _ _) (by simp)).mono fun e G' H' ⟨h1,h2,h3,h4⟩=>⟨h1,h2,h3,h4⟩
  ·refine Fn.unpk (Fn.reorder ((leave_end G mb (.slice CA pg.consts.length cc) (.slice PA pg.procs.length pc) c3 FA fcap en val OA out.length ocap (steps+1:Nat) ended b fx hfv A' cap' [v] [y'] (hv'.rds .here) (by simp)).mono fun e G' H' hh=>?_) pkA)
   obtain⟨h1,h2,h3,h4⟩:=hh
   subst h3
   exact⟨_,_, .cons .here (.cons .here .nil),h1,h2,rfl,h4⟩
  ·obtain⟨rfl,h1⟩:=hR
   refine⟨mcB mb (.slice CA pg.consts.length cc) (.slice PA pg.procs.length pc) c3 FA 0 fcap 1 (lastV val g) OA out.length ocap (steps+1:Nat) true::ox::fx::[],[],pkA,?_⟩
   simp only[stepM,hpr,hq]
   exact⟨FA,fcap,OA,ocap,ox,fx,[],[], .nil,h1,ho,rfl⟩
 | @cons f0 fs' b0 bs0 H0 A0 B0 cap0 cm0 x0 y0 hx0 hy0 h0=>
  obtain⟨hsl0,_,_⟩:=hB.stack f0 (by simp)
  rw[List.reverse_cons]at hfv
  have hb0:bs0.reverse.length≤1000000:=by simp at hbl⊢;omega
  rw[List.reverse_cons]at key⊢
  refine key (fun g H1=>∃A' cap' x',H1=mcB mb (.slice CA pg.consts.length cc) (.slice PA pg.procs.length pc) c3 FA (bs0.reverse++[b0]).length fcap en val OA out.length ocap (steps+1:Nat) ended::fx::frB b0 A' (f0.stack++g).length cap' f0.proc f0.pc B0 f0.vars.length cm0::x'::y0::H0∧PVec FA fcap (bs0.reverse++[b0]) fx∧VVec A' cap' (f0.stack++g) x') ⟨?_,fun A' cap' y' v hv'=>?_⟩ fun l' g H1 hq hR=>?_
  ·exact(leave_go G mb (.slice CA pg.consts.length cc) (.slice PA pg.procs.length pc) c3 FA fcap en val OA out.length ocap (steps+1:Nat) ended bs0.reverse b0 b fx hfv hb0 A0 cap0 f0.proc f0.pc B0 f0.vars.length cm0 f0.stack x0 hx0 none 0 [] (y0::H0) (Rds.nil _ _ _) (by simp;omega)).mono fun e G' H' ⟨A',cap',x',h1,h2,h3,h4,h5⟩=>⟨h1,h2,A',cap',x',h3,h4,h5⟩
  ·refine Fn.unpk (Fn.reorder ((leave_go G mb (.slice CA pg.consts.length cc) (.slice PA pg.procs.length pc) c3 FA fcap en val OA out.length ocap (steps+1:Nat) ended bs0.reverse b0 b fx hfv hb0 A0 cap0 f0.proc f0.pc B0 f0.vars.length cm0 f0.stack x0 hx0 A' cap' [v] (y'::y0::H0) (hv'.rds .here) (by simp;omega)).mono fun e G' H' hh=>?_) pkA)
   obtain⟨A2,cap2,x2,h1,h2,h3,h4,h5⟩:=hh
   subst h3
   exact⟨mcB mb (.slice CA pg.consts.length cc) (.slice PA pg.procs.length pc) c3 FA (bs0.reverse++[b0]).length fcap en val OA out.length ocap (steps+1:Nat) ended::fx::frB b0 A2 (f0.stack++[v]).length cap2 f0.proc f0.pc B0 f0.vars.length cm0::x2::y0::H0,[y'],pkA,h1,h2,A2,cap2,x2,rfl,h4,h5⟩
  ·obtain⟨A2,cap2,x2,rfl,h1,h2⟩:=hR
   refine⟨mcB mb (.slice CA pg.consts.length cc) (.slice PA pg.procs.length pc) c3 FA (bs0.reverse++[b0]).length fcap en val OA out.length ocap (steps+1:Nat) ended::ox::fx::frB b0 A2 (f0.stack++g).length cap2 f0.proc f0.pc B0 f0.vars.length cm0::x2::y0::H0,[],pkA,?_⟩
   simp only[stepM,hpr,hq]
   exact⟨FA,fcap,OA,ocap,ox,fx,b0::bs0,_, .cons h2 hy0 h0,by rw[List.reverse_cons];exact h1,ho,by rw[List.reverse_cons]⟩
end
end
section
attribute [local irreducible] Tryz.prog
def AllOK (l:List V):Prop:=∀v∈l,vOK v=true
def VarsOK (l:List V):Prop:=∀v∈l,vOK v=true∨v=V0
theorem AllOK.snoc {l:List V} {v:V} (h:AllOK l) (hv:vOK v=true):AllOK (l++[v]):=by
 intro u hu
 rcases List.mem_append.1 hu with hu | hu
 ·exact h u hu
 ·rw[List.mem_singleton]at hu;subst hu;exact hv
theorem AllOK.left {l r:List V} (h:AllOK (l++r)):AllOK l:=fun v hv=>h v (List.mem_append_left _ hv)
theorem AllOK.right {l r:List V} (h:AllOK (l++r)):AllOK r:=fun v hv=>h v (List.mem_append_right _ hv)
theorem vOK_truth (b:Bool):vOK (truthV b)=true:=by simp[vOK,truthV,bytes_beq]
theorem vOK_num (n:Int):vOK (numV n)=true:=by simp[vOK,numV,bytes_beq]
theorem vOK_text {s:ByteArray} (h:s.size≤4096):vOK (textV s)=true:=by
 unfold vOK
 rw[if_neg (show¬(textV s).t=1 from(by decide:¬(3:Int)=1)),if_neg (show¬(textV s).t=2 from(by decide:¬(3:Int)=2)),if_pos (show(textV s).t=3 from rfl)]
 show((0:Int)==0&& !false&&decide ((s.size:Int)≤4096))=true
 simp;omega
theorem vOK_size {v:V} (h:vOK v=true):v.s.size≤4096:=by
 unfold vOK at h
 split at h
 ·simp[bytes_beq]at h;rw[h.2];decide
 ·split at h
  ·simp[bytes_beq]at h;rw[h.2];decide
  ·split at h
   ·simp at h;omega
   ·cases h
theorem size_append (a b:ByteArray):(a++b).size=a.size+b.size:=ByteArray.size_append
def DOk (pg:Pg) (pr:Pr) (l:List V) (k:Nat) (vars:List V) (depth outn:Nat):DR→Prop
 | .halt _=>True
 | .go l' k' vars'=>l'.length≤128∧AllOK l'∧k'≤pr.code.length∧vars'.length=vars.length∧VarsOK vars'
 | .print l' v=>l'.length≤128∧AllOK l'∧vOK v=true∧outn<4096∧k+1≤pr.code.length
 | .call q r args n=>callR pg.procs l n depth= .ok (q,r,args)∧k+1≤pr.code.length
 | .leave r g=>g=[]∨∃v,g=[v]∧vOK v=true∧pr.result≠0
def POkQ (res:Int) (outn:Nat):PR→Prop
 | .halt _=>True
 | .set l=>l.length≤128∧AllOK l
 | .print l v=>l.length≤128∧AllOK l∧vOK v=true∧outn<4096
 | .leave l g=>g=[]∨∃v,g=[v]∧vOK v=true∧res≠0
section
variable {pg:Pg} {pr:Pr} {l vars:List V} {k depth outn:Nat} (hl:l.length≤128) (ha:AllOK l) (hv:VarsOK vars)
theorem POkQ.ite {res:Int} {o:Nat} {p:Prop} [Decidable p] {a b:PR} (h1:p→POkQ res o a) (h2:¬p→POkQ res o b):POkQ res o (if p then a else b):=by
 split
 ·exact h1 ‹_›
 ·exact h2 ‹_›
theorem DOk.ite {p:Prop} [Decidable p] {a b:DR} (h1:p→DOk pg pr l k vars depth outn a) (h2:¬p→DOk pg pr l k vars depth outn b):DOk pg pr l k vars depth outn (if p then a else b):=by
 split
 ·exact h1 ‹_›
 ·exact h2 ‹_›
include hl ha in
theorem onA_ok {res:Int} {f:List V→V→PR} (hf:∀r v,l=r++[v]→POkQ res outn (f r v)):POkQ res outn (onA l f):=by
 unfold onA
 split
 ·trivial
 ·rename_i r v h;exact hf r v (pop1_some h)
include hl ha in
theorem onB_ok {res:Int} {f:List V→V→V→PR} (hf:∀r u v,l=r++[u,v]→POkQ res outn (f r u v)):POkQ res outn (onB l f):=by
 unfold onB
 split
 ·trivial
 ·rename_i r u v h;exact hf r u v (pop2_some h)
include hl ha in
theorem on1_ok {res t:Int} {f:List V→V→PR} (hf:∀r v,l=r++[v]→v.t=t→POkQ res outn (f r v)):POkQ res outn (on1 l t f):=by
 unfold on1
 split
 ·trivial
 ·rename_i r v h;exact hf r v (ty1_some h).1 (ty1_some h).2
include hl ha in
theorem on2_ok {res t:Int} {f:List V→V→V→PR} (hf:∀r u v,l=r++[u,v]→POkQ res outn (f r u v)):POkQ res outn (on2 l t f):=by
 unfold on2
 split
 ·trivial
 ·rename_i r u v h;exact hf r u v (ty2_some h).1
include hl ha in
theorem plainR_ok (res c:Int):POkQ res outn (plainR res l c outn):=by
 have h1:∀r v,l=r++[v]→∀u,vOK u=true→POkQ res outn (.set (r++[u])):=by
  intro r v e u hu
  subst e
  simp at hl
  exact⟨by simp;omega,ha.left.snoc hu⟩
 have h2:∀r v v',l=r++[v,v']→∀u,vOK u=true→POkQ res outn (.set (r++[u])):=by
  intro r v v' e u hu
  subst e
  simp at hl
  exact⟨by simp;omega,ha.left.snoc hu⟩
 unfold plainR
 refine POkQ.ite (fun _=>?_) (fun _=>?_)
 ·exact onA_ok hl ha fun r v e=>by subst e;simp at hl;exact⟨by omega,ha.left⟩
 refine POkQ.ite (fun _=>?_) (fun _=>?_)
 ·split
  ·exact .inl rfl
  ·trivial
 refine POkQ.ite (fun _=>?_) (fun _=>?_)
 ·split
  ·trivial
  ·rename_i hr
   exact on1_ok hl ha fun r v e _=>by subst e;exact .inr ⟨v,rfl,ha.right v (by simp),hr⟩
 refine POkQ.ite (fun _=>?_) (fun _=>?_)
 ·exact onA_ok hl ha fun r v e=>by
   subst e;simp at hl
   split
   ·trivial
   ·exact⟨by omega,ha.left,ha.right v (by simp),by omega⟩
 refine POkQ.ite (fun _=>?_) (fun _=>?_)
 ·exact onB_ok hl ha fun r u v e=>by
   split
   ·exact h2 r u v e _ (vOK_truth _)
   ·trivial
 refine POkQ.ite (fun _=>?_) (fun _=>?_)
 ·exact onB_ok hl ha fun r u v e=>by
   split
   ·exact h2 r u v e _ (vOK_truth _)
   ·trivial
 refine POkQ.ite (fun _=>?_) (fun _=>?_)
 ·exact on1_ok hl ha fun r v e _=>h1 r v e _ (vOK_truth _)
 refine POkQ.ite (fun _=>?_) (fun _=>?_)
 ·exact on1_ok hl ha fun r v e _=>h1 r v e _ (vOK_num _)
 refine POkQ.ite (fun _=>?_) (fun _=>?_)
 ·exact on2_ok hl ha fun r u v e=>by
   split
   ·trivial
   ·exact h2 r u v e _ (vOK_text (by rw[size_append];omega))
 refine POkQ.ite (fun _=>?_) (fun _=>?_)
 ·exact onB_ok hl ha fun r u v e=>by
   split
   ·exact h2 r u v e _ (vOK_truth _)
   ·trivial
 refine POkQ.ite (fun _=>?_) (fun _=>?_)
 ·exact on1_ok hl ha fun r v e _=>h1 r v e _ (vOK_num _)
 refine POkQ.ite (fun _=>?_) (fun _=>?_)
 ·exact on2_ok hl ha fun r u v e=>by
   unfold recR
   split
   ·trivial
   ·exact h2 r u v e _ (vOK_num _)
 ·trivial
include hl ha hv in
theorem doR_ok:DOk pg pr l k vars depth outn (doR pg pr l k vars depth outn):=by
 have hlay:∀v,vOK v=true→k+1≤pr.code.length→DOk pg pr l k vars depth outn (layRQ l k vars v):=by
  intro v h1 h2
  unfold layRQ
  split
  ·trivial
  ·exact⟨by simp;omega,ha.snoc h1,h2,rfl,hv⟩
 unfold doR
 split
 ·trivial
 ·rename_i c n hc
  have hk:k+1≤pr.code.length:=(List.getElem?_eq_some_iff.1 hc).1
  refine DOk.ite (fun _=>?_) (fun _=>?_)
  ·unfold constR;split; · trivial
   split; · trivial
   split
   ·exact hlay _ ‹_› hk
   ·trivial
  refine DOk.ite (fun _=>?_) (fun _=>?_)
  ·unfold loadR;split; · trivial
   split; · trivial
   rename_i v hg
   split
   ·trivial
   ·rename_i ht
    rcases hv v (List.mem_of_getElem? hg)with h | h
    ·exact hlay _ h hk
    ·subst h;exact absurd rfl ht
  refine DOk.ite (fun _=>?_) (fun _=>?_)
  ·unfold storeR;split; · trivial
   split; · trivial
   rename_i r v hp
   obtain rfl:=pop1_some hp
   simp at hl
   refine⟨by omega,ha.left,hk,by simp,fun u hu=>?_⟩
   rcases List.mem_or_eq_of_mem_set hu with h | h
   ·exact hv u h
   ·subst h;exact .inl (ha.right _ (by simp))
  refine DOk.ite (fun _=>?_) (fun _=>?_)
  ·unfold jumpR;split; · trivial
   ·exact⟨hl,ha,by omega,rfl,hv⟩
  refine DOk.ite (fun _=>?_) (fun _=>?_)
  ·unfold unlessR;split; · trivial
   split; · trivial
   rename_i r v ht
   obtain⟨rfl,_⟩:=ty1_some ht
   simp at hl
   refine⟨by omega,ha.left,?_,rfl,hv⟩
   split
   ·exact hk
   ·omega
  refine DOk.ite (fun _=>?_) (fun _=>?_)
  ·unfold callD
   split
   ·trivial
   ·exact⟨‹_›,hk⟩
  refine DOk.ite (fun _=>?_) (fun _=>?_)
  ·trivial
  ·unfold plainD
   have hp:=plainR_ok (outn:=outn) hl ha pr.result c
   split
   ·trivial
   ·rename_i e;rw[e]at hp;exact⟨hp.1,hp.2,hk,rfl,hv⟩
   ·rename_i e;rw[e]at hp;exact⟨hp.1,hp.2.1,hp.2.2.1,hp.2.2.2,hk⟩
   ·rename_i e;rw[e]at hp;exact hp
end
def Chn (pg:Pg):List Fr→Prop
 | []=>True
 | [_]=>True
 | f::g::r=>(∀pr,pg.procs[f.proc]? =some pr→pr.result≠0→g.stack.length<128)∧Chn pg (g::r)
structure Inv (pg:Pg) (s:Mc):Prop where
 procs:∀f∈s.frames,∃pr,pg.procs[f.proc]? =some pr∧f.pc≤pr.code.length
 frames:s.frames.length≤64
 stack:∀f∈s.frames,f.stack.length≤128∧f.vars.length≤64∧AllOK f.stack∧VarsOK f.vars
 chain:Chn pg s.frames
 out:s.out.length≤4096∧AllOK s.out
theorem Inv.step {pg:Pg} {s:Mc} (h:Inv pg s):Inv pg (stepM pg s):=by
 obtain⟨frames,out,steps,en,val,ended⟩:=s
 obtain⟨h1,h2,h3,h4,h5⟩:=h
 simp only at h1 h2 h3 h4 h5
 unfold stepM
 cases frames with
 | nil=>exact⟨h1,h2,h3,h4,h5⟩
 | cons f fs=>
  obtain⟨pr,hpr,hpc⟩:=h1 f (by simp)
  obtain⟨hs1,hs2,hs3,hs4⟩:=h3 f (by simp)
  simp only[hpr]
  have hd:=doR_ok (pg:=pg) (pr:=pr) (k:=f.pc) (depth:=fs.length+1) (outn:=out.length) hs1 hs3 hs4
  have hrest:∀g∈fs,(∃pr,pg.procs[g.proc]? =some pr∧g.pc≤pr.code.length)∧g.stack.length≤128∧g.vars.length≤64∧AllOK g.stack∧VarsOK g.vars:=fun g hg=>⟨h1 g (by simp[hg]),h3 g (by simp[hg])⟩
  have hch:∀f':Fr,f'.proc=f.proc→Chn pg (f'::fs):=by
   intro f' e
   cases fs with
   | nil=>trivial
   | cons g r=>exact⟨by rw[e];exact h4.1,h4.2⟩
  have hone:∀f':Fr,f'.proc=f.proc→f'.pc≤pr.code.length→f'.stack.length≤128→f'.vars.length≤64→AllOK f'.stack→VarsOK f'.vars→
    (∀g∈f'::fs,∃pr,pg.procs[g.proc]? =some pr∧g.pc≤pr.code.length)∧(∀g∈f'::fs,g.stack.length≤128∧g.vars.length≤64∧AllOK g.stack∧VarsOK g.vars):=by
   intro f' e1 e2 e3 e4 e5 e6
   refine⟨fun g hg=>?_,fun g hg=>?_⟩
   ·rcases List.mem_cons.1 hg with rfl | hg
    ·exact⟨pr,by rw[e1];exact hpr,e2⟩
    ·exact(hrest g hg).1
   ·rcases List.mem_cons.1 hg with rfl | hg
    ·exact⟨e3,e4,e5,e6⟩
    ·exact(hrest g hg).2
  cases hq:doR pg pr f.stack f.pc f.vars (fs.length+1) out.length with
  | halt n=>exact⟨h1,h2,h3,h4,h5⟩
  | go l k vs=>
   rw[hq]at hd
   obtain⟨d1,d2,d3,d4,d5⟩:=hd
   obtain⟨a1,a2⟩:=hone ⟨f.proc,k,l,vs⟩ rfl d3 d1 (by simp only[d4];exact hs2) d2 d5
   exact⟨a1,h2,a2,hch _ rfl,h5⟩
  | print l v=>
   rw[hq]at hd
   obtain⟨d1,d2,d3,d4,d5⟩:=hd
   obtain⟨a1,a2⟩:=hone ⟨f.proc,f.pc+1,l,f.vars⟩ rfl d5 d1 hs2 d2 hs4
   exact⟨a1,h2,a2,hch _ rfl,by simp;omega,h5.2.snoc d3⟩
  | call q r args n=>
   rw[hq]at hd
   obtain⟨c0,d5⟩:=hd
   obtain⟨c1,c2,c3,c4,c5,c6,c7,c8⟩:=callR_ok c0
   have hsz:(q.params.length:Int)≤q.locals∧q.locals≤64:=by unfold sizedP at c3;simpa using c3
   have hr:r.length≤128∧AllOK r:=by rw[c4]at hs1 hs3;simp at hs1;exact⟨by omega,hs3.left⟩
   obtain⟨a1,a2⟩:=hone ⟨f.proc,f.pc+1,r,f.vars⟩ rfl d5 hr.1 hs2 hr.2 hs4
   have hpl:(padded args q.locals).length≤64:=by rw[padded_length (by omega)];omega
   refine⟨fun g hg=>?_,by simp at h2⊢;omega,fun g hg=>?_,⟨fun pr' hp' hres=>?_,hch _ rfl⟩,h5⟩
   ·rcases List.mem_cons.1 hg with rfl | hg
    ·exact⟨q,c2,by simp⟩
    ·exact a1 g hg
   ·rcases List.mem_cons.1 hg with rfl | hg
    ·refine⟨by simp,hpl,fun v hv=>by simp at hv,fun v hv=>?_⟩
     rcases List.mem_append.1 hv with hv | hv
     ·rw[c4]at hs3;exact .inl (hs3.right v hv)
     ·exact .inr (List.eq_of_mem_replicate hv)
    ·exact a2 g hg
   ·rw[c2]at hp';cases hp';exact c8 hres
  | leave r g=>
   rw[hq]at hd
   cases fs with
   | nil=>exact⟨fun g hg=>by simp at hg,by simp,fun g hg=>by simp at hg,trivial,h5⟩
   | cons f0 fs'=>
    obtain⟨⟨pr0,hpr0,hpc0⟩,b1,b2,b3,b4⟩:=hrest f0 (by simp)
    have hst:(f0.stack++g).length≤128∧AllOK (f0.stack++g):=by
     rcases hd with rfl | ⟨v,rfl,hv,hne⟩
     ·simpa using⟨b1,b3⟩
     ·have:=h4.1 pr hpr hne
      exact⟨by simp;omega,b3.snoc hv⟩
    refine⟨fun x hx=>?_,by simp at h2⊢;omega,fun x hx=>?_,?_,h5⟩
    ·rcases List.mem_cons.1 hx with rfl | hx
     ·exact⟨pr0,hpr0,hpc0⟩
     ·exact(hrest x (by simp[hx])).1
    ·rcases List.mem_cons.1 hx with rfl | hx
     ·exact⟨hst.1,b2,hst.2,b4⟩
     ·exact(hrest x (by simp[hx])).2
    ·cases fs' with
     | nil=>trivial
     | cons g2 r2=>exact⟨h4.2.1,h4.2.2⟩
theorem Inv.bd {pg:Pg} {s:Mc} (h:Inv pg s) (hc:∀pr∈pg.procs,pr.code.length≤90000000000000∧OpS pr.code) (hs:s.steps≤100000000000000):Bd pg s:=
 ⟨h.procs,hc,h.frames,fun f hf=>by
  obtain⟨h1,h2,h3,h4⟩:=h.stack f hf
  exact⟨by omega,by omega,fun v hv=>by have:=vOK_size (h3 v hv);omega⟩,hs⟩
end
section
attribute [local irreducible] Tryz.prog
def madeB (s:Mc):Bool:=decide (0<s.frames.length) || s.ended
theorem ptrM:Tryz.prog.underlying 154=some (.pointer (Tryz.prog.pointee 154)):=by kernel_rfl
section
variable (G:Gh) (CA PA:Option Addr) (cc pc cn pn:Nat) (c3:Value) (mb:Nat)
theorem made_fn (s:Mc) (H:List Own) (hR:MRep CA PA cc pc cn pn c3 mb s H):
  Fn Tryz.prog 141 #[.pointer (some ⟨mb,0,none⟩)] G H fun e G' H'=>e= .returned (.bool (madeB s))∧G=G'∧H'=H:=by
 obtain⟨FA,fcap,OA,ocap,ox,fx,bs,Hf,hF,hfv,ho,rfl⟩:=hR
 have hlen:=hF.len
 have hl2:bs.reverse.length=s.frames.length:=by simp[hlen]
 rw[hl2]
 refine Fn.enter Tryz.func141 rfl rfl fun w0=>?_
 refine WC.seq ?_
 refine WC.region ?_
 refine zw.assign ?_
 refine WL.nil ?_
 refine WK.un ?_
 refine WC.seq ?_
 refine WC.region ?_
 refine zw.move ?_
 refine WL.pp (Gp.nePtrNil rfl ptrM) ?_
 refine zw.move ?_
 refine zw.move ?_
 refine zw.nil ?_
 refine zw.fa ?_
 refine zw.ld ?_
 refine zw.len ?_
 by_cases hf:0<s.frames.length
 ·
  refine WL.pp (Gp.gtI' rfl rfl (show decide ((0:Int)<(s.frames.length:Int))=true from decide_eq_true (by omega))) ?_
  refine zw.move ?_
  refine zw.skip ?_
  refine zw.skip ?_
  refine zw.skip ?_
  refine zw.skip ?_
  refine zw.pick ?_
  refine zw.pick ?_
  refine zw.assign ?_
  refine WL.nil ?_
  refine WK.un ?_
  refine WC.rt ?_
  exact QF.p1 (.inl rfl) rfl (.tmp rfl) (⟨by simp[madeB,hf],rfl,rfl⟩)
 ·
  refine WL.pp (Gp.gtI' rfl rfl (show decide ((0:Int)<(s.frames.length:Int))=false from decide_eq_false (by omega))) ?_
  refine zw.move ?_
  refine zw.move ?_
  refine zw.nil ?_
  refine zw.fa ?_
  refine zw.ld ?_
  refine zw.pick ?_
  refine zw.pick ?_
  refine zw.assign ?_
  refine WL.nil ?_
  refine WK.un ?_
  refine WC.rt ?_
  exact QF.p1 (.inl rfl) rfl (.tmp rfl) (⟨by simp[madeB,hf],rfl,rfl⟩)
end
end
end Go.Proofs.YtcnlkfocbbkdhaaGreatDoor.Gb
