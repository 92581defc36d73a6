/- Calls that are put off, what recovers, function values, interfaces. Taking things of ours out of a list, in any order. Single steps of a walk, each as a rule with a default proof. What is known of the types and functions of this seat, as the rules of the small logic ask for it. Two that may come in either order; single cells of what is ours. Steps of a walk taken one behind the other, as far as they are plain. Maps: laws for those that are ours; ranges over them. Operations on maps that are ours; make, copy, min and max. -/
import Derived.Test.YtcnlkfocbbkdhaaGreatDoorWa
import Derived.Test.YtcnlkfocbbkdhaaGreatDoorProg
import Derived.MapKept
import Derived.Maps.RangeRun
import Derived.Carry
import Derived.Laws.Small
import Derived.Laws.MakeOwn
import Derived.Laws.CopyRow
set_option linter.unusedVariables false
set_option linter.unusedSimpArgs false
set_option linter.unusedSectionVars false
namespace Go.Proofs.YtcnlkfocbbkdhaaGreatDoor.Gb
open Go Go.Proofs
section
open Go
section
variable {P:Program} {Q:Exit→Act→World→Prop} {cx:Cx} {L:List (Nat×Value)} {G:Gh} {H:List Own} {K:List (Nat×Value)→Gh→List Own→Prop} {ops:Array Oper} {rest:List Oper}
 {d:Option Tmp} {ty:TypeId} {pos:String} {af:Array Edge} {gu:Option (Nat×Bool)}
theorem Sk.evs {a:Act} (st:Sk L a) {xs:Array Operand} {vs:List Value} (h:Gb.evs L xs=some vs):xs.map a.eval=vs.toArray:=by
 have key:∀(l:List Operand) (vs:List Value),evl L l=some vs→l.map a.eval=vs:=by
  intro l
  induction l with
  | nil=>intro vs h;simp only[evl,Option.some.injEq]at h;subst h;rfl
  | cons x l ih=>
   intro vs h
   simp only[evl]at h
   cases hx:ev L x with
   | none=>simp[hx]at h
   | some v=>
    cases hl:evl L l with
    | none=>simp[hx,hl]at h
    | some us=>
     simp only[hx,hl,Option.some.injEq]at h
     subst h
     simp[st.eval hx,ih us hl]
 apply Array.ext'
 simp[key xs.toList vs h]
theorem Gp.makeFunc {fn:Go.Fn} {xs ys:Array Operand} {us vs:List Value} (hx:evs L xs=some us) (hy:evs L ys=some vs):Gp P L ⟨d, .makeFunc fn xs ys,ty,pos,af,gu⟩ (.func fn us.toArray vs.toArray):=
 fun a st w=>by
  have e1:=Sk.evs st hx
  have e2:=Sk.evs st hy
  simp only[execOp,e1,e2]
  rfl
theorem OW.callV {g:Operand} {f:Nat} {cap:Array Value} {xs:Array Operand} {ats:Array TypeId} {vs:List Value} {Hf F:List Own} {R:Ending→Gh→List Own→Prop} (hg:ev L g=some (.func (.func f) #[] cap)) (hx:Gb.evs L xs=some vs) [hb:Body P f] (hp:H.Perm (Hf++F))
  (hf:Fn P f (vs.toArray++cap) G Hf R) (hd:dOk d cx.N=true)
  (k:∀v G' H',R (.returned v) G' H'→G.le G'→K (putL d v L) G' (H'++F))
  (kp:∀ch G' H',R (.panicked ch) G' H'→G.le G'→WK (Q (.panic ch)) cx L G' (H'++F))
  (ko:∀G' H',¬R .outgrown G' H'):OW P Q ⟨d, .call { callee:= .value g,args:=xs,argTypes:=ats },ty,pos,af,gu⟩ cx L G H K:=by
 intro next hn a w st
 have st':=st.perm hp
 have hrun:(execOp a.eval ⟨d, .call { callee:= .value g,args:=xs,argTypes:=ats },ty,pos,af,gu⟩).run P w= .ok (.enter f (vs.toArray++cap)) w:=by
  have e:=st.evs hx
  have eg:=st.eval hg
  simp[execOp,resolve,Deferred.ofValue,eg,invoke,e,hb.h]
 unfold Oper.wp
 rw[hrun]
 simp only[Oper.upon]
 refine(hf w (st'.sat.sub (List.sublist_append_left Hf F)) (cx.ex.then st'.stp fun x hx=>List.mem_append_left _ hx)).mono fun e w' ⟨G',H',r,hs,hp'⟩=>?_
 have hs':=st'.sat.frame hs hp'
 have hst:=st'.stp.then (hp'.frame (F:=F))
 cases e with
 | returned v=>exact hn _ _ _ (k v G' H' r hp'.gle) _ _ (st.put d v hd hs' hst)
 | panicked ch=>exact kp ch G' H' r hp'.gle a w' ⟨st.size,st.defs,st.slot,hs',hst⟩
 | outgrown=>exact(ko G' H' r).elim
theorem WL.defer {g:Operand} {fv:Go.Fn} {cap:Array Value} (hg:ev L g=some (.func fv #[] cap))
  (hw:wantB ops L ⟨d, .defer { callee:= .value g,args:= #[],argTypes:= #[] },ty,pos,af,gu⟩=some true) (hd:dOk d cx.N=true)
  (k:WL P ops Q rest ⟨cx.w0,cx.G0,cx.S,cx.N, { target:= .fn fv cap,args:= #[] } ::cx.D,cx.ex⟩ (putL d undef L) G H):
  WL P ops Q (⟨d, .defer { callee:= .value g,args:= #[],argTypes:= #[] },ty,pos,af,gu⟩::rest) cx L G H:=by
 intro a w st
 unfold wpList
 rw[if_pos (st.wanted hw)]
 refine .inl ?_
 have hrun:(execOp a.eval ⟨d, .defer { callee:= .value g,args:= #[],argTypes:= #[] },ty,pos,af,gu⟩).run P w= .ok (.defer { target:= .fn fv cap,args:= #[] }) w:=by
  have eg:=st.eval hg
  simp[execOp,resolve,Deferred.ofValue,eg]
 unfold Oper.wp
 rw[hrun]
 simp only[Oper.upon]
 refine k _ _ ⟨(size_put _ d undef).trans st.size,?_,slot_put (a:= { a with defers:= { target:= .fn fv cap,args:= #[] } ::a.defers }) st.size st.slot d undef hd,st.sat,st.stp⟩
 rw[defers_put]
 show _::a.defers=_
 rw[st.defs]
theorem Gp.assertNil {x:Operand} {s t n by_:Nat} {z:Value} {fs:Array Field} (hx:ev L x=some .nilIface) (hu:P.underlying t=some (.struct fs)) [hi:Inf P t n by_ z]:Gp P L ⟨d, .typeAssert x s t true,ty,pos,af,gu⟩ (.tuple #[z, .bool false]):=
 fun a st w=>by simp[execOp,st.eval hx,Instr.typeAssert,run_underlying hu,hi.zeroValue]
theorem Gp.assertIs {x:Operand} {s t:Nat} {v:Value} {fs:Array Field} (hx:ev L x=some (.iface t v)) (hu:P.underlying t=some (.struct fs)):Gp P L ⟨d, .typeAssert x s t true,ty,pos,af,gu⟩ (.tuple #[v, .bool true]):=
 fun a st w=>by simp[execOp,st.eval hx,Instr.typeAssert,run_underlying hu]
theorem Gp.neNilNil {x:Operand} {t t':Nat} (hx:ev L x=some .nilIface) (hu:P.underlying t=some (.interface (P.methodsAt t))):Gp P L ⟨d, .binOp .neq t x (.const .nilIface) t',ty,pos,af,gu⟩ (.bool false):=
 fun a st w=>by
  have hc:a.eval (.const .nilIface)= .nilIface:=rfl
  simp[execOp,st.eval hx,hc,eqGuard,run_neq_nil_nil w t hu]
theorem Gp.neHeldNil {x:Operand} {t t' u:Nat} {v:Value} (hx:ev L x=some (.iface u v)) (hu:P.underlying t=some (.interface (P.methodsAt t))):Gp P L ⟨d, .binOp .neq t x (.const .nilIface) t',ty,pos,af,gu⟩ (.bool true):=
 fun a st w=>by
  have hc:a.eval (.const .nilIface)= .nilIface:=rfl
  simp[execOp,st.eval hx,hc,eqGuard,run_neq_held_nil w t u v hu]
theorem Gp.nePtrNil {x:Operand} {t t':Nat} {p:Option Addr} (hx:ev L x=some (.pointer p)) (hu:P.underlying t=some (.pointer (P.pointee t))):Gp P L ⟨d, .binOp .neq t x (.const (.pointer none)) t',ty,pos,af,gu⟩ (.bool (!p.isNone)):=
 fun a st w=>by
  have hc:a.eval (.const (.pointer none))= .pointer none:=rfl
  have he:∀op,eqGuard op t x (.const (.pointer none)) (.pointer p) (.pointer none)=pure ():=fun op=>by cases op<;>rfl
  simp[execOp,st.eval hx,hc,he,run_neq_pointer_nil w t p hu]
end
def FnD (P:Program) (f:FuncId) (vs:Array Value) (u:FrameMode) (G:Gh) (H:List Own) (u':FrameMode) (R:Ending→Gh→List Own→Prop):Prop:=
 ∀w,Sat G H w→Ex (covs H) w→CallsD P f vs u w fun e u'' w'=>u''=u'∧∃G' H',R e G' H'∧Sat G' H' w'∧Stp (covs H) G w G' H' w'
theorem FnD.recover {P:Program} {f:FuncId} {fn:Func} {i d1 d2:Nat} {ty1 ty2:TypeId} {p1 p2:String} {af1 af2:Array Edge} {rest:Code} {vs:List Value} {G:Gh} {H:List Own} {R:Ending→Gh→List Own→Prop} {u u':FrameMode} {v:Value}
  (hf:P.funcs[f]? =some fn) (hb:fn.body=some (.seq (.region i #[⟨some d1, .call { callee:= .builtin .recover,args:= #[],argTypes:= #[] },ty1,p1,af1,none⟩,⟨some d2, .assign (.tmp d1),ty2,p2,af2,none⟩] false) rest))
  (hn':Nat.ble vs.length fn.ntmps=true) (hd1:Nat.blt d1 fn.ntmps=true) (hd2:Nat.blt d2 fn.ntmps=true)
  (hu:(u= .returning∧v= .nilIface∧u'= .returning)∨(∃older,u= .panicking ({ v:=v,recovered:=false } ::older)∧u'= .panicking ({ v:=v,recovered:=true } ::older)))
  (h:∀w0:W0 H,WC P rest (QF P fn G w0.w H R) ⟨w0.w,G,covs H,fn.ntmps,[],w0.ex⟩ ((d2,v)::(d1,v)::argL 0 vs) G H):FnD P f vs.toArray u G H u' R:=by
 have hn:=Nat.le_of_ble_eq_true hn'
 intro w hs hx
 refine callsD_of_wpS hf hb fun c₀ cs hc=>?_
 refine wpS_seq (wpS_region ?_)
 have hrange:List.range (#[(⟨some d1, .call { callee:= .builtin .recover,args:= #[],argTypes:= #[] },ty1,p1,af1,none⟩:Oper),⟨some d2, .assign (.tmp d1),ty2,p2,af2,none⟩]:Array Oper).size=[0,1]:=rfl
 rw[hrange]
 have hwant:∀(o:Oper) x,o.guard=none→Region.wanted o x=true:=fun o x ho=>by simp[Region.wanted,ho]
 have hexec:∀ρ (w:World),(execOp ρ ⟨some d1, .call { callee:= .builtin .recover,args:= #[],argTypes:= #[] },ty1,p1,af1,none⟩).run P w= .ok .recover w:=fun ρ w=>by
  simp[execOp,resolve,invoke,builtin]
 have hrec:(recoverD (c₀::cs)=none∧v= .nilIface∧u'=u)∨recoverD (c₀::cs)=some (v, { c₀ with mode:=u' } ::cs):=by
  rcases hu with⟨rfl,rfl,rfl⟩ | ⟨older,rfl,rfl⟩
  ·exact .inl ⟨by simp[recoverD,hc],rfl,rfl⟩
  ·exact .inr (by simp[recoverD,hc])
 have key:∀cs',cs'= { c₀ with mode:=u' } ::cs→wpOpsS P #[⟨some d1, .call { callee:= .builtin .recover,args:= #[],argTypes:= #[] },ty1,p1,af1,none⟩,⟨some d2, .assign (.tmp d1),ty2,p2,af2,none⟩]
   (Exit.thenS (rest.wpS P (bodyPostS P fn c₀ cs fun e u'' w'=>u''=u'∧∃G' H',R e G' H'∧Sat G' H' w'∧Stp (covs H) G w G' H' w')) (bodyPostS P fn c₀ cs fun e u'' w'=>u''=u'∧∃G' H',R e G' H'∧Sat G' H' w'∧Stp (covs H) G w G' H' w'))
   [1] (Act.put { tmps:=vs.toArray++Array.replicate (fn.ntmps - vs.toArray.size) undef,defers:=[] } (some d1) v) cs' w:=by
  intro cs' hcs
  subst hcs
  simp only[wpOpsS,List.getElem?_toArray,List.getElem?_cons_succ,List.getElem?_cons_zero]
  rw[if_pos (hwant _ _ rfl)]
  have h0:St ⟨w,G,covs H,fn.ntmps,[],hx⟩ (argL 0 vs) G H { tmps:=vs.toArray++Array.replicate (fn.ntmps - vs.toArray.size) undef,defers:=[] } w:=
   ⟨by simp;omega,rfl,fun t v ht=>by have:=argL_slot (N:=fn.ntmps - vs.length) vs [] t v ht;simpa using this,hs,Stp.refl G H w⟩
  have h1:=h0.put (some d1) v hd1 hs (Stp.refl G H w)
  have hev:(Act.put { tmps:=vs.toArray++Array.replicate (fn.ntmps - vs.toArray.size) undef,defers:=[] } (some d1) v).eval (.tmp d1)=v:=h1.eval (x:= .tmp d1) (by simp[ev,putL,lk])
  simp only[execOp,hev,Sem.run_pure,Oper.upon]
  refine wpS_of_wp ?_
  refine Code.wp_mono (fun e a' w' q=>?_) (h ⟨w,hx⟩ _ w (h1.put (some d2) v hd2 hs (Stp.refl G H w)))
  cases e with
  | normal=>obtain⟨q1,v',q2,q3⟩:=q;exact⟨q1,u',rfl,v',q2,rfl,q3⟩
  | ret=>obtain⟨q1,v',q2,q3⟩:=q;exact⟨q1,u',rfl,v',q2,rfl,q3⟩
  | panic ch=>exact⟨q.1,u',rfl,rfl,q.2⟩
  | outgrown=>exact⟨u',rfl,q⟩
  | exit id=>exact q
  | goto l=>exact q
 simp only[wpOpsS,List.getElem?_toArray,List.getElem?_cons_zero]
 rw[if_pos (hwant _ _ rfl)]
 simp only[hexec]
 rcases hrec with⟨hr,hv,huu⟩ | hr
 ·rw[hr,←hv]
  exact key _ (by rw[huu,←hc])
 ·rw[hr]
  exact key _ rfl
def QD (P:Program) (fn:Func) (G0:Gh) (w0:World) (H0:List Own) (R:Ending→Gh→List Own→Prop):Exit→Act→World→Prop:=
 bodyPostD P fn fun e w'=>∃G' H',R e G' H'∧Sat G' H' w'∧Stp (covs H0) G0 w0 G' H' w'
theorem Fn.enterD {P:Program} {f:FuncId} {fn:Func} {c:Code} {vs:List Value} {G:Gh} {H:List Own} {R:Ending→Gh→List Own→Prop} (hf:P.funcs[f]? =some fn) (hb:fn.body=some c) (hn':Nat.ble vs.length fn.ntmps=true)
  (h:∀w0:W0 H,WC P c (QD P fn G w0.w H R) ⟨w0.w,G,covs H,fn.ntmps,[],w0.ex⟩ (argL 0 vs) G H):Fn P f vs.toArray G H R:=by
 have hn:=Nat.le_of_ble_eq_true hn'
 intro w hs hx
 refine calls_of_wp_defers hf hb (h ⟨w,hx⟩ _ w ⟨by simp;omega,rfl,fun t v ht=>?_,hs,Stp.refl G H w⟩)
 have:=argL_slot (N:=fn.ntmps - vs.length) vs [] t v ht
 simpa using this
def ResRun (P:Program) (fn:Func) (L:List (Nat×Value)) (G:Gh) (H:List Own) (v:Value):Prop:=∀a w,Sk L a→Sat G H w→(results fn a.tmps).run P w= .ok v w
theorem ResRun.zero {P:Program} {fn:Func} {L:List (Nat×Value)} {G:Gh} {H:List Own} (h:fn.results= #[]):ResRun P fn L G H (.tuple #[]):=fun a w _ _=>by simp[results,h]
section
variable {P:Program} {fn:Func} {G0 G:Gh} {H0 H:List Own} {w0:W0 H0} {R:Ending→Gh→List Own→Prop} {L:List (Nat×Value)} {N:Nat}
theorem QD.once {u u':FrameMode} {g:Nat} {cap:Array Value} {Hf F:List Own} {R1:Ending→Gh→List Own→Prop} (hur:u≠ .run) [hb:Body P g] (hp:H.Perm (Hf++F)) (hf:FnD P g cap u G Hf u' R1) (hset:settle u'= .returning)
  (k:∀v G' H',R1 (.returned v) G' H'→G.le G'→∃v,ResRun P fn L G' (H'++F) v∧R (.returned v) G' (H'++F))
  (kp:∀ch G' H',¬R1 (.panicked ch) G' H') (ko:∀G' H',¬R1 .outgrown G' H') {a:Act} {w:World} (st:St ⟨w0.w,G0,covs H0,N,[{ target:= .fn (.func g) cap,args:= #[] }],w0.ex⟩ L G H a w):
  Leaves P fn a.tmps (fun e w'=>∃G' H',R e G' H'∧Sat G' H' w'∧Stp (covs H0) G0 w0.w G' H' w') [{ target:= .fn (.func g) cap,args:= #[] }] u w:=by
 have st':=st.perm hp
 refine leaves_cons (f:=g) (args:=cap) hur (by simp[invoke,hb.h]) ?_
 refine(hf w (st'.sat.sub (List.sublist_append_left Hf F)) (w0.ex.then st'.stp fun x hx=>List.mem_append_left _ hx)).mono fun e u'' w' ⟨hu,G',H',r,hs,hp'⟩=>?_
 subst hu
 have hs':=st'.sat.frame hs hp'
 have hst:=st'.stp.then (hp'.frame (F:=F))
 cases e with
 | returned v=>
  obtain⟨v',h1,h2⟩:=k v G' H' r hp'.gle
  show Leaves _ _ _ _ [] (settle _) _
  rw[hset]
  exact⟨v',h1 a w' st.slot hs',G',_,h2,hs',hst⟩
 | panicked ch=>exact(kp ch G' H' r).elim
 | outgrown=>exact(ko G' H' r).elim
theorem QD.leave {e:Exit} (he:e= .ret∨e= .normal) {g:Nat} {cap:Array Value} {Hf F:List Own} {R1:Ending→Gh→List Own→Prop} [hb:Body P g] (hp:H.Perm (Hf++F)) (hf:FnD P g cap .returning G Hf .returning R1)
  (k:∀v G' H',R1 (.returned v) G' H'→G.le G'→∃v,ResRun P fn L G' (H'++F) v∧R (.returned v) G' (H'++F))
  (kp:∀ch G' H',¬R1 (.panicked ch) G' H') (ko:∀G' H',¬R1 .outgrown G' H'):
  WK (QD P fn G0 w0.w H0 R e) ⟨w0.w,G0,covs H0,N,[{ target:= .fn (.func g) cap,args:= #[] }],w0.ex⟩ L G H:=fun a w st=>by
 have:=QD.once (fn:=fn) (R:=R) (by simp) hp hf rfl k kp ko st
 rcases he with rfl | rfl
 ·show Leaves _ _ _ _ a.defers _ _;rw[st.defs];exact this
 ·show Leaves _ _ _ _ a.defers _ _;rw[st.defs];exact this
theorem QD.caught {v:Value} {g:Nat} {cap:Array Value} {Hf F:List Own} {R1:Ending→Gh→List Own→Prop} [hb:Body P g] (hp:H.Perm (Hf++F)) (hf:FnD P g cap (.panicking [{ v:=v,recovered:=false }]) G Hf (.panicking [{ v:=v,recovered:=true }]) R1)
  (k:∀v G' H',R1 (.returned v) G' H'→G.le G'→∃v,ResRun P fn L G' (H'++F) v∧R (.returned v) G' (H'++F))
  (kp:∀ch G' H',¬R1 (.panicked ch) G' H') (ko:∀G' H',¬R1 .outgrown G' H'):
  WK (QD P fn G0 w0.w H0 R (.panic [{ v:=v,recovered:=false }])) ⟨w0.w,G0,covs H0,N,[{ target:= .fn (.func g) cap,args:= #[] }],w0.ex⟩ L G H:=fun a w st=>by
 have:=QD.once (fn:=fn) (R:=R) (by simp) hp hf rfl k kp ko st
 show Leaves _ _ _ _ a.defers _ _;rw[st.defs];exact this
end
end
section
open Go
inductive Rem:List Own→Own→List Own→Prop where
 | here {x:Own} {l:List Own} :Rem (x::l) x l
 | there {x y:Own} {l l':List Own} (h:Rem l x l'):Rem (y::l) x (y::l')
theorem Rem.perm {l l':List Own} {x:Own} (h:Rem l x l'):l.Perm (x::l'):=by
 induction h with
 | here=>exact List.Perm.refl _
 | there _ ih=>exact(List.Perm.cons _ ih).trans (List.Perm.swap _ _ _)
inductive Pk:List Own→List Own→List Own→Prop where
 | nil {H:List Own} :Pk H [] H
 | all {H:List Own} :Pk H H []
 | cons {H H' xs F:List Own} {x:Own} (h:Rem H x H') (k:Pk H' xs F):Pk H (x::xs) F
 | skip {H xs F:List Own} {y:Own} (k:Pk H xs F):Pk (y::H) xs (y::F)
theorem Pk.perm {H xs F:List Own} (h:Pk H xs F):H.Perm (xs++F):=by
 induction h with
 | nil=>exact List.Perm.refl _
 | all=>rw[List.append_nil]
 | cons h _ ih=>exact h.perm.trans (List.Perm.cons _ ih)
 | skip _ ih=>exact(List.Perm.cons _ ih).trans List.perm_middle.symm
theorem Pk.app:∀ {H F:List Own},Pk (H++F) H F
 | [],_=> .nil
 | _::_,_=> .cons .here Pk.app
theorem Pk.appR:∀ {F H:List Own},Pk (F++H) H F
 | [],_=> .all
 | _::_,_=> .skip Pk.appR
theorem Pk.skipA {l xs F:List Own} (h:Pk l xs F):∀ {H:List Own},Pk (H++l) xs (H++F)
 | []=>h
 | _::_=> .skip (Pk.skipA h)
theorem Pk.na {H xs F:List Own} (h:Pk H xs F):Pk (List.append [] H) xs F:=h
theorem Rem.app {x:Own} {l l':List Own} (h:Rem l x l'):∀ {H:List Own},Rem (H++l) x (H++l')
 | []=>h
 | _::_=> .there (Rem.app h)
theorem Pk.assoc {A B C xs F:List Own} (h:Pk (A++(B++C)) xs F):Pk ((A++B)++C) xs F:=by rw[List.append_assoc];exact h
theorem plA {A B F:List Own} (h:Pk A B F:=by repeat (first | exact Pk.nil | exact Pk.all | exact Pk.app | exact Pk.appR | with_reducible apply Pk.na | (apply Pk.cons;(repeat first | exact .here | apply Rem.there | apply Rem.app)) | apply Pk.assoc | apply Pk.skip | apply Pk.skipA)):Pk A B F:=h
theorem pkA {A B F:List Own} (h:Pk A B F:=by repeat (first | exact Pk.nil | exact Pk.all | exact Pk.app | exact Pk.appR | with_reducible apply Pk.na | (apply Pk.cons;(repeat first | exact .here | apply Rem.there | apply Rem.app)) | apply Pk.skip | apply Pk.skipA)):Pk A B F:=h
section
variable {P:Program} {Q:Exit→Act→World→Prop} {cx:Cx} {L:List (Nat×Value)} {G:Gh} {H H' F:List Own}
theorem WC.front {c:Code} (h:Pk H H' F) (k:WC P c Q cx L G (H'++F)):WC P c Q cx L G H:=fun a w st=>k a w (st.perm h.perm)
theorem St.pk {a:Act} {w:World} (st:St cx L G H a w) (h:Pk H H' F):St cx L G H' a w:=(st.perm h.perm).weaken (fun _ _ e=>e) (List.sublist_append_left _ _)
theorem WK.pk {K:Act→World→Prop} (h:Pk H H' F) (k:WK K cx L G H'):WK K cx L G H:=fun a w st=>k a w (st.pk h)
theorem WC.pk {c:Code} (h:Pk H H' F) (k:WC P c Q cx L G H'):WC P c Q cx L G H:=fun a w st=>k a w (st.pk h)
theorem WC.pick {c:Code} (H':List Own) (k:WC P c Q cx L G H') (h:Pk H H' F:=by exact plA):WC P c Q cx L G H:=WC.pk h k
theorem WK.pick {K:Act→World→Prop} (H':List Own) (k:WK K cx L G H') (h:Pk H H' F:=by exact plA):WK K cx L G H:=WK.pk h k
theorem WL.pick {ops:Array Oper} {rest:List Oper} (H':List Own) (k:WL P ops Q rest cx L G H') (h:Pk H H' F:=by exact plA):WL P ops Q rest cx L G H:=fun a w st=>k a w (st.pk h)
theorem OW.callK {K:List (Nat×Value)→Gh→List Own→Prop} {d:Option Tmp} {ty:TypeId} {pos:String} {af:Array Edge} {gu:Option (Nat×Bool)} {f:Nat} {xs:Array Operand} {ats:Array TypeId} {vs:List Value} {Hf F:List Own} {R:Ending→Gh→List Own→Prop} (hx:Gb.evs L xs=some vs) [hb:Body P f]
  (hf:Fn P f vs.toArray G Hf R) (hd:dOk d cx.N=true)
  (k:∀v G' H',R (.returned v) G' H'→G.le G'→K (putL d v L) G' (H'++F)) (hp:Pk H Hf F:=by exact plA) (hno:∀e G' H',R e G' H'→∃v,e= .returned v:=by intro e G' H' h;repeat (first | exact⟨_,h.1⟩ | (obtain⟨_,h⟩:=h))):OW P Q ⟨d, .call { callee:= .value (.func f),args:=xs,argTypes:=ats },ty,pos,af,gu⟩ cx L G H K:=
 OW.callR hx hp.perm hf hd hno k
theorem Sat.pk {w:World} (h:Sat G H w) (p:Pk H H' F):Sat G H' w:=(h.perm p.perm).sub (List.sublist_append_left _ _)
theorem WC.drawS {id:Nat} {l:List Oper} {Hs:List Own} (hm:P.follows .mixedOrders=true) (hs:Pk H Hs F) (h:WB P l Q G Hs l.length (Array.replicate l.length false) cx L G H):WC P (.region id l.toArray true) Q cx L G H:=by
 intro a w st
 refine wp_region_held (S:=Sat G Hs) hm ?_
 have:=h a { w with drawn:=w.drawn+1 } (st.drew rfl) ((st.drew (w':= { w with drawn:=w.drawn+1 }) rfl).sat.pk hs)
 simpa using this
theorem Gv.loadRN {d:Option Tmp} {ty:TypeId} {pos:String} {af:Array Edge} {gu:Option (Nat×Bool)} {t n by_:Nat} {z:Value} {x:Operand} {b o i:Nat} {Ha:List Own} {cs es:List Value} (hx:ev L x=some (.pointer (some ⟨b,o+i,none⟩))) [ha:Agg P t true] [hi:Inf P t n by_ z]
  (hr:∀w,Sat G Ha w→∀j v,cs[j]? =some v→w.cell? ⟨b,o+j,none⟩=some v) (hs:Ha.Sublist H) (hc:(cs.drop i).take n=es) (hl:es.length=n):Gv P L G H ⟨d, .load t x,ty,pos,af,gu⟩ (.agg es.toArray):=
 fun a w sk st0=>by
  have:=run_loadVarN (P:=P) (w:=w) (b:=b) (o:=o+i) ha hi hl (fun j v hv=>by
   rw[←hc,List.getElem?_take]at hv
   split at hv
   ·rw[List.getElem?_drop]at hv
    rw[Nat.add_assoc];exact hr w (st0.sub hs) _ v hv
   ·cases hv)
  simp[execOp,sk.eval hx,Instr.loadAt,Instr.sureAddr,this]
def WS (P:Program) (l:List Oper) (Q:Exit→Act→World→Prop) (S:World→Prop) (fuel:Nat) (listed:Array Bool) (cx:Cx) (L:List (Nat×Value)) (G:Gh) (H:List Own):Prop:=
 ∀a w,St cx L G H a w→S w→wpAnyH P .any l.toArray Q S fuel listed a w
theorem OW.gv {o:Oper} {v:Value} {K:List (Nat×Value)→Gh→List Own→Prop} (g:Gv P L G H o v) (hd:dOk o.dst cx.N=true) (hk:K (putL o.dst v L) G H):OW P Q o cx L G H K:=OW.val hd (fun a w st=>g a w st.slot st.sat) hk
end
section
variable {P:Program} {fn:Func} {G0 G:Gh} {H0 H H' F:List Own} {w0:W0 H0} {R:Ending→Gh→List Own→Prop} {L:List (Nat×Value)} {N:Nat}
theorem QF.ofP {e:Exit} (he:e= .ret∨e= .normal) (v:Value) (hr:∀a w,St ⟨w0.w,G0,covs H0,N,[],w0.ex⟩ L G H a w→(results fn a.tmps).run P w= .ok v w) (h:R (.returned v) G H') (hs:Pk H H' F):WK (QF P fn G0 w0.w H0 R e) ⟨w0.w,G0,covs H0,N,[],w0.ex⟩ L G H:=by
 intro a w st
 have st':=st.pk hs
 have:a.defers=[]∧∃v,(results fn a.tmps).run P w= .ok v w∧∃G' H',R (.returned v) G' H'∧Sat G' H' w∧Stp (covs H0) G0 w0.w G' H' w:=⟨st.defs,v,hr a w st,G,H',h,st'.sat,st'.stp⟩
 rcases he with rfl | rfl
 ·exact this
 ·exact this
theorem QF.panicP {ch:List PanicEntry} (h:R (.panicked ch) G H') (hs:Pk H H' F:=by exact plA):WK (QF P fn G0 w0.w H0 R (.panic ch)) ⟨w0.w,G0,covs H0,N,[],w0.ex⟩ L G H:=by
 intro a w st
 have st':=st.pk hs
 exact⟨st.defs,G,H',h,st'.sat,st'.stp⟩
theorem QF.p0 {e:Exit} (he:e= .ret∨e= .normal) (hres:fn.results= #[]) (h:R (.returned (.tuple #[])) G H') (hs:Pk H H' F:=by exact plA):WK (QF P fn G0 w0.w H0 R e) ⟨w0.w,G0,covs H0,N,[],w0.ex⟩ L G H:=
 QF.ofP he (.tuple #[]) (fun a w st=>by simp[results,hres]) h hs
theorem QF.p1 {e:Exit} (he:e= .ret∨e= .normal) {r:ResultVar} {v:Value} (hres:fn.results= #[r]) (hv:RV P L H r v) (h:R (.returned v) G H') (hs:Pk H H' F:=by exact plA):WK (QF P fn G0 w0.w H0 R e) ⟨w0.w,G0,covs H0,N,[],w0.ex⟩ L G H:=
 QF.ofP he v (fun a w st=>by simp[results_rvS,hres,hv.run st]) h hs
theorem QF.p2 {e:Exit} (he:e= .ret∨e= .normal) {r s:ResultVar} {v u:Value} (hres:fn.results= #[r,s]) (hv:RV P L H r v) (hu:RV P L H s u) (h:R (.returned (.tuple #[v,u])) G H') (hs:Pk H H' F:=by exact plA):WK (QF P fn G0 w0.w H0 R e) ⟨w0.w,G0,covs H0,N,[],w0.ex⟩ L G H:=
 QF.ofP he (.tuple #[v,u]) (fun a w st=>by simp[results_rvS,hres,hv.run st,hu.run st]) h hs
end
theorem Fn.unpk {P:Program} {f:FuncId} {vs:Array Value} {G:Gh} {H:List Own} {R:Ending→Gh→List Own→Prop} (h:Fn P f vs G H fun e G' H'=>∃H2 F,Pk H' H2 F∧R e G' H2):Fn P f vs G H R:=
 fun w hs hx=>(h w hs hx).mono fun e w' ⟨G',H',⟨H2,F,p,r⟩,s,st⟩=>⟨G',H2,r,s.pk p,st.size,st.keep,st.gle,st.gnew,fun x hx=>st.own x (p.perm.mem_iff.2 (List.mem_append_left _ hx)),st.weq⟩
section
variable {P:Program} {L:List (Nat×Value)} {d:Option Tmp} {ty:TypeId} {pos:String} {af:Array Edge} {gu:Option (Nat×Bool)}
theorem Gp.geI' {t t':TypeId} {x y:Operand} {k:IntKind} {m n:Int} {r:Bool} (hx:ev L x=some (.int k m)) (hy:ev L y=some (.int k n)) (h:decide (n≤m)=r):Gp P L ⟨d, .binOp .geq t x y t',ty,pos,af,gu⟩ (.bool r):=h▸Gp.geI hx hy
theorem Gp.leI' {t t':TypeId} {x y:Operand} {k:IntKind} {m n:Int} {r:Bool} (hx:ev L x=some (.int k m)) (hy:ev L y=some (.int k n)) (h:decide (m≤n)=r):Gp P L ⟨d, .binOp .leq t x y t',ty,pos,af,gu⟩ (.bool r):=h▸Gp.leI hx hy
theorem Gp.ltI' {t t':TypeId} {x y:Operand} {k:IntKind} {m n:Int} {r:Bool} (hx:ev L x=some (.int k m)) (hy:ev L y=some (.int k n)) (h:decide (m<n)=r):Gp P L ⟨d, .binOp .lss t x y t',ty,pos,af,gu⟩ (.bool r):=h▸Gp.ltI hx hy
theorem Gp.gtI' {t t':TypeId} {x y:Operand} {k:IntKind} {m n:Int} {r:Bool} (hx:ev L x=some (.int k m)) (hy:ev L y=some (.int k n)) (h:decide (n<m)=r):Gp P L ⟨d, .binOp .gtr t x y t',ty,pos,af,gu⟩ (.bool r):=h▸Gp.gtI hx hy
theorem Gp.eqI' {t t':TypeId} {x y:Operand} {k:IntKind} {m n:Int} {r:Bool} (hx:ev L x=some (.int k m)) (hy:ev L y=some (.int k n)) (h:(m==n)=r):Gp P L ⟨d, .binOp .eql t x y t',ty,pos,af,gu⟩ (.bool r):=h▸Gp.eqI hx hy
theorem Gp.neI' {t t':TypeId} {x y:Operand} {k:IntKind} {m n:Int} {r:Bool} (hx:ev L x=some (.int k m)) (hy:ev L y=some (.int k n)) (h:(m != n)=r):Gp P L ⟨d, .binOp .neq t x y t',ty,pos,af,gu⟩ (.bool r):=h▸Gp.neI hx hy
theorem Gp.add' {t t':TypeId} {x y:Operand} {k:IntKind} {m n r:Int} (hx:ev L x=some (.int k m)) (hy:ev L y=some (.int k n)) (h:k.wrap (m+n)=r):Gp P L ⟨d, .binOp .add t x y t',ty,pos,af,gu⟩ (.int k r):=h▸Gp.add hx hy
theorem Gp.sub' {t t':TypeId} {x y:Operand} {k:IntKind} {m n r:Int} (hx:ev L x=some (.int k m)) (hy:ev L y=some (.int k n)) (h:k.wrap (m - n)=r):Gp P L ⟨d, .binOp .sub t x y t',ty,pos,af,gu⟩ (.int k r):=h▸Gp.sub hx hy
end
end
section
open Go
def Ph (i:Nat) (g:Prop):Prop:=g
section
variable {P:Program} {Q:Exit→Act→World→Prop} {cx:Cx} {L:List (Nat×Value)} {G Gs:Gh} {H Hs:List Own} {ops:Array Oper} {rest:List Oper} {l:List Oper} {fuel i:Nat} {listed:Array Bool} {o:Oper} {v:Value} {S:World→Prop}
theorem PhA.tp (hi:l[i]? =some o) (hk:okP l listed i=true) (hw:wantB l.toArray L o=some true) (hd:dOk o.dst cx.N=true) [hQ:QPan Q] (hv:Gp P L o v) (h:WA P l Q fuel (listed.setIfInBounds i true) cx (putL o.dst v L) G H):Ph i (WA P l Q (fuel+1) listed cx L G H):=WA.tp hi hk hw hd hv h
theorem PhA.sp (hi:l[i]? =some o) (hk:okP l listed i=true) (hw:wantB l.toArray L o=some false) (hd:dOk o.dst cx.N=true) [hQ:QPan Q] (h:WA P l Q fuel (listed.setIfInBounds i true) cx (putL o.dst undef L) G H):Ph i (WA P l Q (fuel+1) listed cx L G H):=WA.sp hi hk hw hd h
theorem PhA.tv (hi:l[i]? =some o) (hk:okV l listed i o=true) (hw:wantB l.toArray L o=some true) (hd:dOk o.dst cx.N=true) [hQ:QPan Q] (hv:Gv P L G H o v) (h:WA P l Q fuel (listed.setIfInBounds i true) cx (putL o.dst v L) G H):Ph i (WA P l Q (fuel+1) listed cx L G H):=WA.tv hi hk hw hd hv h
theorem PhA.one (hr:Region.ready .any l.toArray listed=[i]) (hi:l[i]? =some o) (hw:wantB l.toArray L o=some true) (h:OW P Q o cx L G H fun L' G' H'=>WA P l Q fuel (listed.setIfInBounds i true) cx L' G' H'):Ph i (WA P l Q (fuel+1) listed cx L G H):=WA.one hr hi hw h
theorem PhB.tp (hi:l[i]? =some o) (hk:okP l listed i=true) (hw:wantB l.toArray L o=some true) (hd:dOk o.dst cx.N=true) [hQ:QPan Q] (hv:Gp P L o v) (h:WB P l Q Gs Hs fuel (listed.setIfInBounds i true) cx (putL o.dst v L) G H):Ph i (WB P l Q Gs Hs (fuel+1) listed cx L G H):=WB.tp hi hk hw hd hv h
theorem PhB.tv (hi:l[i]? =some o) (hk:okP l listed i=true) (hw:wantB l.toArray L o=some true) (hd:dOk o.dst cx.N=true) [hQ:QPan Q] (hv:Gv P L Gs Hs o v) (h:WB P l Q Gs Hs fuel (listed.setIfInBounds i true) cx (putL o.dst v L) G H):Ph i (WB P l Q Gs Hs (fuel+1) listed cx L G H):=WB.tv hi hk hw hd hv h
theorem PhB.one (hr:Region.ready .any l.toArray listed=[i]) (hi:l[i]? =some o) (hw:wantB l.toArray L o=some true) (h:OW P Q o cx L G H fun L' G' H'=>(∀w,Sat G' H' w→Sat Gs Hs w)∧WB P l Q Gs Hs fuel (listed.setIfInBounds i true) cx L' G' H'):Ph i (WB P l Q Gs Hs (fuel+1) listed cx L G H):=WB.one hr hi hw h
theorem WL.pp (g:Gp P L o v) (k:WL P ops Q rest cx (putL o.dst v L) G H) (hw:wantB ops L o=some true:=by kernel_rfl) (hd:dOk o.dst cx.N=true:=by rfl):WL P ops Q (o::rest) cx L G H:=WL.p g hw hd k
theorem WL.vv (g:Gv P L G H o v) (k:WL P ops Q rest cx (putL o.dst v L) G H) (hw:wantB ops L o=some true:=by kernel_rfl) (hd:dOk o.dst cx.N=true:=by rfl):WL P ops Q (o::rest) cx L G H:=WL.v g hw hd k
theorem WL.oo (h:OW P Q o cx L G H fun L' G' H'=>WL P ops Q rest cx L' G' H') (hw:wantB ops L o=some true:=by kernel_rfl):WL P ops Q (o::rest) cx L G H:=WL.op hw h
theorem WA.pp (i:Nat) (hi:l[i]? =some o) [hQ:QPan Q] (hv:Gp P L o v) (h:WA P l Q fuel (listed.setIfInBounds i true) cx (putL o.dst v L) G H) (hk:okP l listed i=true:=by kernel_rfl) (hw:wantB l.toArray L o=some true:=by kernel_rfl) (hd:dOk o.dst cx.N=true:=by rfl):WA P l Q (fuel+1) listed cx L G H:=WA.tp hi hk hw hd hv h
theorem WA.vv (i:Nat) (hi:l[i]? =some o) [hQ:QPan Q] (hv:Gv P L G H o v) (h:WA P l Q fuel (listed.setIfInBounds i true) cx (putL o.dst v L) G H) (hk:okV l listed i o=true:=by kernel_rfl) (hw:wantB l.toArray L o=some true:=by kernel_rfl) (hd:dOk o.dst cx.N=true:=by rfl):WA P l Q (fuel+1) listed cx L G H:=WA.tv hi hk hw hd hv h
theorem WA.oo (i:Nat) (hi:l[i]? =some o) (h:OW P Q o cx L G H fun L' G' H'=>WA P l Q fuel (listed.setIfInBounds i true) cx L' G' H') (hr:Region.ready .any l.toArray listed=[i]:=by kernel_rfl) (hw:wantB l.toArray L o=some true:=by kernel_rfl):WA P l Q (fuel+1) listed cx L G H:=WA.one hr hi hw h
theorem WB.vv (i:Nat) (hi:l[i]? =some o) [hQ:QPan Q] (hv:Gv P L Gs Hs o v) (h:WB P l Q Gs Hs fuel (listed.setIfInBounds i true) cx (putL o.dst v L) G H) (hk:okP l listed i=true:=by kernel_rfl) (hw:wantB l.toArray L o=some true:=by kernel_rfl) (hd:dOk o.dst cx.N=true:=by rfl):WB P l Q Gs Hs (fuel+1) listed cx L G H:=WB.tv hi hk hw hd hv h
theorem WB.oo (i:Nat) (hi:l[i]? =some o) (h:OW P Q o cx L G H fun L' G' H'=>(∀w,Sat G' H' w→Sat Gs Hs w)∧WB P l Q Gs Hs fuel (listed.setIfInBounds i true) cx L' G' H') (hr:Region.ready .any l.toArray listed=[i]:=by kernel_rfl) (hw:wantB l.toArray L o=some true:=by kernel_rfl):WB P l Q Gs Hs (fuel+1) listed cx L G H:=WB.one hr hi hw h
end
section
variable {P:Program} {Q:Exit→Act→World→Prop} {cx:Cx} {L:List (Nat×Value)} {G:Gh} {H:List Own}
theorem WC.rt {g':Prop} (h:g') (e:Un (WK (Q .ret) cx L G H) g':=by repeat (first | with_reducible exact Un.thN | with_reducible apply Un.thR | with_reducible apply Un.thE | with_reducible apply Un.thP | with_reducible apply Un.blN | with_reducible apply Un.blR | with_reducible apply Un.blP | with_reducible apply Un.blE | with_reducible refine Un.blO rfl ?_ | with_reducible apply Un.thJ | exact Un.rfl')):WC P .ret Q cx L G H:=WC.ret (e h)
end
theorem zw.eq {g g':Prop} (h:g') (e:Bx g'→g:=by
 intro hgo
 (first | refine WL.p (Gp.eqI rfl rfl) (by kernel_rfl) rfl ?_ | refine WL.p (Gp.eqS rfl rfl) (by kernel_rfl) rfl ?_ | refine WL.p (Gp.nilSl rfl) (by kernel_rfl) rfl ?_ | refine WL.p (Gp.eqB rfl rfl) (by kernel_rfl) rfl ?_)
 exact hgo.out):g:=e ⟨h⟩
theorem za.eq (i:Nat) {g g':Prop} (h:g') (e:Bx g'→Ph i g:=by
 intro hgo
 (first | refine PhA.tp rfl (by kernel_rfl) (by kernel_rfl) rfl (Gp.eqI rfl rfl) ?_ | refine PhA.tp rfl (by kernel_rfl) (by kernel_rfl) rfl (Gp.eqS rfl rfl) ?_ | refine PhA.tp rfl (by kernel_rfl) (by kernel_rfl) rfl (Gp.nilSl rfl) ?_ | refine PhA.tp rfl (by kernel_rfl) (by kernel_rfl) rfl (Gp.eqB rfl rfl) ?_)
 exact hgo.out):g:=e ⟨h⟩
theorem zw.ne {g g':Prop} (h:g') (e:Bx g'→g:=by
 intro hgo
 (first | refine WL.p (Gp.neI rfl rfl) (by kernel_rfl) rfl ?_ | refine WL.p (Gp.neS rfl rfl) (by kernel_rfl) rfl ?_ | refine WL.p (Gp.neB rfl rfl) (by kernel_rfl) rfl ?_)
 exact hgo.out):g:=e ⟨h⟩
theorem za.ne (i:Nat) {g g':Prop} (h:g') (e:Bx g'→Ph i g:=by
 intro hgo
 (first | refine PhA.tp rfl (by kernel_rfl) (by kernel_rfl) rfl (Gp.neI rfl rfl) ?_ | refine PhA.tp rfl (by kernel_rfl) (by kernel_rfl) rfl (Gp.neS rfl rfl) ?_ | refine PhA.tp rfl (by kernel_rfl) (by kernel_rfl) rfl (Gp.neB rfl rfl) ?_)
 exact hgo.out):g:=e ⟨h⟩
theorem zw.pick {g g':Prop} (h:g') (e:Bx g'→g:=by
 intro hgo
 (first | refine WL.p (Gp.pickT rfl rfl) (by kernel_rfl) rfl ?_ | refine WL.p (Gp.pickF rfl rfl) (by kernel_rfl) rfl ?_)
 exact hgo.out):g:=e ⟨h⟩
theorem za.pick (i:Nat) {g g':Prop} (h:g') (e:Bx g'→Ph i g:=by
 intro hgo
 (first | refine PhA.tp rfl (by kernel_rfl) (by kernel_rfl) rfl (Gp.pickT rfl rfl) ?_ | refine PhA.tp rfl (by kernel_rfl) (by kernel_rfl) rfl (Gp.pickF rfl rfl) ?_)
 exact hgo.out):g:=e ⟨h⟩
theorem zw.len {g g':Prop} (h:g') (e:Bx g'→g:=by
 intro hgo
 (first | refine WL.p (Gp.lenSl rfl) (by kernel_rfl) rfl ?_ | refine WL.p (Gp.lenS rfl) (by kernel_rfl) rfl ?_)
 exact hgo.out):g:=e ⟨h⟩
theorem za.len (i:Nat) {g g':Prop} (h:g') (e:Bx g'→Ph i g:=by
 intro hgo
 (first | refine PhA.tp rfl (by kernel_rfl) (by kernel_rfl) rfl (Gp.lenSl rfl) ?_ | refine PhA.tp rfl (by kernel_rfl) (by kernel_rfl) rfl (Gp.lenS rfl) ?_)
 exact hgo.out):g:=e ⟨h⟩
theorem zb.len (i:Nat) {g g':Prop} (h:g') (e:Bx g'→Ph i g:=by
 intro hgo
 (first | refine PhB.tp rfl (by kernel_rfl) (by kernel_rfl) rfl (Gp.lenSl rfl) ?_ | refine PhB.tp rfl (by kernel_rfl) (by kernel_rfl) rfl (Gp.lenS rfl) ?_)
 exact hgo.out):g:=e ⟨h⟩
theorem zw.add {g g':Prop} (h:g') (e:Bx g'→g:=by
 intro hgo
 (first | refine WL.p (Gp.add rfl rfl) (by kernel_rfl) rfl ?_ | refine WL.p (Gp.addS rfl rfl (by first | assumption | omega)) (by kernel_rfl) rfl ?_)
 exact hgo.out):g:=e ⟨h⟩
theorem zw.lt {g g':Prop} (h:g') (e:Bx g'→g:=by
 intro hgo
 (first | refine WL.p (Gp.ltI rfl rfl) (by kernel_rfl) rfl ?_ | refine WL.p (Gp.ltS rfl rfl) (by kernel_rfl) rfl ?_)
 exact hgo.out):g:=e ⟨h⟩
theorem zw.ge {g g':Prop} (h:g') (e:Bx g'→g:=by
 intro hgo
 (first | refine WL.p (Gp.geI rfl rfl) (by kernel_rfl) rfl ?_ | refine WL.p (Gp.geS rfl rfl) (by kernel_rfl) rfl ?_)
 exact hgo.out):g:=e ⟨h⟩
theorem zw.move {g g':Prop} (h:g') (e:Bx g'→g:=by
 intro hgo
 refine WL.p (Gp.move rfl) (by kernel_rfl) rfl ?_
 exact hgo.out):g:=e ⟨h⟩
theorem za.move (i:Nat) {g g':Prop} (h:g') (e:Bx g'→Ph i g:=by
 intro hgo
 refine PhA.tp rfl (by kernel_rfl) (by kernel_rfl) rfl (Gp.move rfl) ?_
 exact hgo.out):g:=e ⟨h⟩
theorem zb.move (i:Nat) {g g':Prop} (h:g') (e:Bx g'→Ph i g:=by
 intro hgo
 refine PhB.tp rfl (by kernel_rfl) (by kernel_rfl) rfl (Gp.move rfl) ?_
 exact hgo.out):g:=e ⟨h⟩
theorem zw.assign {g g':Prop} (h:g') (e:Bx g'→g:=by
 intro hgo
 refine WL.p (Gp.assign rfl) (by kernel_rfl) rfl ?_
 exact hgo.out):g:=e ⟨h⟩
theorem za.assign (i:Nat) {g g':Prop} (h:g') (e:Bx g'→Ph i g:=by
 intro hgo
 refine PhA.tp rfl (by kernel_rfl) (by kernel_rfl) rfl (Gp.assign rfl) ?_
 exact hgo.out):g:=e ⟨h⟩
theorem zb.assign (i:Nat) {g g':Prop} (h:g') (e:Bx g'→Ph i g:=by
 intro hgo
 refine PhB.tp rfl (by kernel_rfl) (by kernel_rfl) rfl (Gp.assign rfl) ?_
 exact hgo.out):g:=e ⟨h⟩
theorem zw.nil {g g':Prop} (h:g') (e:Bx g'→g:=by
 intro hgo
 refine WL.p (Gp.nilCheck rfl) (by kernel_rfl) rfl ?_
 exact hgo.out):g:=e ⟨h⟩
theorem za.nil (i:Nat) {g g':Prop} (h:g') (e:Bx g'→Ph i g:=by
 intro hgo
 refine PhA.tp rfl (by kernel_rfl) (by kernel_rfl) rfl (Gp.nilCheck rfl) ?_
 exact hgo.out):g:=e ⟨h⟩
theorem zb.nil (i:Nat) {g g':Prop} (h:g') (e:Bx g'→Ph i g:=by
 intro hgo
 refine PhB.tp rfl (by kernel_rfl) (by kernel_rfl) rfl (Gp.nilCheck rfl) ?_
 exact hgo.out):g:=e ⟨h⟩
theorem zw.fa {g g':Prop} (h:g') (e:Bx g'→g:=by
 intro hgo
 refine WL.p (Gp.fieldAddr rfl) (by kernel_rfl) rfl ?_
 exact hgo.out):g:=e ⟨h⟩
theorem za.fa (i:Nat) {g g':Prop} (h:g') (e:Bx g'→Ph i g:=by
 intro hgo
 refine PhA.tp rfl (by kernel_rfl) (by kernel_rfl) rfl (Gp.fieldAddr rfl) ?_
 exact hgo.out):g:=e ⟨h⟩
theorem zb.fa (i:Nat) {g g':Prop} (h:g') (e:Bx g'→Ph i g:=by
 intro hgo
 refine PhB.tp rfl (by kernel_rfl) (by kernel_rfl) rfl (Gp.fieldAddr rfl) ?_
 exact hgo.out):g:=e ⟨h⟩
theorem zw.ext {g g':Prop} (h:g') (e:Bx g'→g:=by
 intro hgo
 refine WL.p (Gp.extract rfl rfl) (by kernel_rfl) rfl ?_
 exact hgo.out):g:=e ⟨h⟩
theorem za.ext (i:Nat) {g g':Prop} (h:g') (e:Bx g'→Ph i g:=by
 intro hgo
 refine PhA.tp rfl (by kernel_rfl) (by kernel_rfl) rfl (Gp.extract rfl rfl) ?_
 exact hgo.out):g:=e ⟨h⟩
theorem zw.build {g g':Prop} (h:g') (e:Bx g'→g:=by
 intro hgo
 refine WL.p (Gp.build rfl rfl) (by kernel_rfl) rfl ?_
 exact hgo.out):g:=e ⟨h⟩
theorem za.build (i:Nat) {g g':Prop} (h:g') (e:Bx g'→Ph i g:=by
 intro hgo
 refine PhA.tp rfl (by kernel_rfl) (by kernel_rfl) rfl (Gp.build rfl rfl) ?_
 exact hgo.out):g:=e ⟨h⟩
theorem zb.build (i:Nat) {g g':Prop} (h:g') (e:Bx g'→Ph i g:=by
 intro hgo
 refine PhB.tp rfl (by kernel_rfl) (by kernel_rfl) rfl (Gp.build rfl rfl) ?_
 exact hgo.out):g:=e ⟨h⟩
theorem zw.sub {g g':Prop} (h:g') (e:Bx g'→g:=by
 intro hgo
 refine WL.p (Gp.sub rfl rfl) (by kernel_rfl) rfl ?_
 exact hgo.out):g:=e ⟨h⟩
theorem za.sub (i:Nat) {g g':Prop} (h:g') (e:Bx g'→Ph i g:=by
 intro hgo
 refine PhA.tp rfl (by kernel_rfl) (by kernel_rfl) rfl (Gp.sub rfl rfl) ?_
 exact hgo.out):g:=e ⟨h⟩
theorem zw.not {g g':Prop} (h:g') (e:Bx g'→g:=by
 intro hgo
 refine WL.p (Gp.notB rfl) (by kernel_rfl) rfl ?_
 exact hgo.out):g:=e ⟨h⟩
theorem za.not (i:Nat) {g g':Prop} (h:g') (e:Bx g'→Ph i g:=by
 intro hgo
 refine PhA.tp rfl (by kernel_rfl) (by kernel_rfl) rfl (Gp.notB rfl) ?_
 exact hgo.out):g:=e ⟨h⟩
theorem zw.conv {g g':Prop} (h:g') (e:Bx g'→g:=by
 intro hgo
 refine WL.p (Gp.convI rfl) (by kernel_rfl) rfl ?_
 exact hgo.out):g:=e ⟨h⟩
theorem za.conv (i:Nat) {g g':Prop} (h:g') (e:Bx g'→Ph i g:=by
 intro hgo
 refine PhA.tp rfl (by kernel_rfl) (by kernel_rfl) rfl (Gp.convI rfl) ?_
 exact hgo.out):g:=e ⟨h⟩
theorem zw.iface {g g':Prop} (h:g') (e:Bx g'→g:=by
 intro hgo
 refine WL.p (Gp.mkIface rfl (by kernel_rfl)) (by kernel_rfl) rfl ?_
 exact hgo.out):g:=e ⟨h⟩
theorem zw.ix {g g':Prop} (h:g') (e:Bx g'→g:=by
 intro hgo
 refine WL.p (Gp.indexAddr rfl rfl (by first | assumption | omega | decide) (by first | assumption | omega | decide | (simp only[List.length_cons,List.length_nil];decide))) (by kernel_rfl) rfl ?_
 exact hgo.out):g:=e ⟨h⟩
theorem za.ix (i:Nat) {g g':Prop} (h:g') (e:Bx g'→Ph i g:=by
 intro hgo
 refine PhA.tp rfl (by kernel_rfl) (by kernel_rfl) rfl (Gp.indexAddr rfl rfl (by first | assumption | omega | decide) (by first | assumption | omega | decide | (simp only[List.length_cons,List.length_nil];decide))) ?_
 exact hgo.out):g:=e ⟨h⟩
theorem zb.ix (i:Nat) {g g':Prop} (h:g') (e:Bx g'→Ph i g:=by
 intro hgo
 refine PhB.tp rfl (by kernel_rfl) (by kernel_rfl) rfl (Gp.indexAddr rfl rfl (by first | assumption | omega | decide) (by first | assumption | omega | decide | (simp only[List.length_cons,List.length_nil];decide))) ?_
 exact hgo.out):g:=e ⟨h⟩
theorem zw.ld {g g':Prop} (h:g') (e:Bx g'→g:=by
 intro hgo
 (first | (refine WL.v (Gv.load1 rfl (by(repeat first | exact .here | apply At.there)) (by first | rfl | assumption)) (by kernel_rfl) rfl ?_) | (refine WL.v (Gv.loadN rfl (by(repeat first | exact .here | apply At.there)) (by rfl) (by rfl)) (by kernel_rfl) rfl ?_) | (refine WL.v (Gv.loadG1 rfl (by assumption) rfl) (by kernel_rfl) rfl ?_) | (refine WL.v (Gv.loadG0 rfl (by assumption) rfl) (by kernel_rfl) rfl ?_) | (refine WL.v (Gv.loadGN rfl (by assumption) rfl) (by kernel_rfl) rfl ?_))
 exact hgo.out):g:=e ⟨h⟩
theorem za.ld (i:Nat) {g g':Prop} (h:g') (e:Bx g'→Ph i g:=by
 intro hgo
 (first | (refine PhA.tv rfl (by kernel_rfl) (by kernel_rfl) rfl (Gv.load1 rfl (by(repeat first | exact .here | apply At.there)) (by first | rfl | assumption)) ?_) | (refine PhA.tv rfl (by kernel_rfl) (by kernel_rfl) rfl (Gv.loadN rfl (by(repeat first | exact .here | apply At.there)) (by rfl) (by rfl)) ?_) | (refine PhA.tv rfl (by kernel_rfl) (by kernel_rfl) rfl (Gv.loadG1 rfl (by assumption) rfl) ?_) | (refine PhA.tv rfl (by kernel_rfl) (by kernel_rfl) rfl (Gv.loadG0 rfl (by assumption) rfl) ?_) | (refine PhA.tv rfl (by kernel_rfl) (by kernel_rfl) rfl (Gv.loadGN rfl (by assumption) rfl) ?_))
 exact hgo.out):g:=e ⟨h⟩
theorem zb.ld (i:Nat) {g g':Prop} (h:g') (e:Bx g'→Ph i g:=by
 intro hgo
 (first | (refine PhB.tv rfl (by kernel_rfl) (by kernel_rfl) rfl (Gv.load1 rfl (by(repeat first | exact .here | apply At.there)) (by first | rfl | assumption)) ?_) | (refine PhB.tv rfl (by kernel_rfl) (by kernel_rfl) rfl (Gv.loadN rfl (by(repeat first | exact .here | apply At.there)) (by rfl) (by rfl)) ?_) | (refine PhB.tv rfl (by kernel_rfl) (by kernel_rfl) rfl (Gv.loadG1 rfl (by assumption) rfl) ?_) | (refine PhB.tv rfl (by kernel_rfl) (by kernel_rfl) rfl (Gv.loadG0 rfl (by assumption) rfl) ?_) | (refine PhB.tv rfl (by kernel_rfl) (by kernel_rfl) rfl (Gv.loadGN rfl (by assumption) rfl) ?_))
 exact hgo.out):g:=e ⟨h⟩
theorem zw.st {g g':Prop} (h:g') (e:Bx g'→g:=by
 intro hgo
 refine WL.op (by kernel_rfl) (OW.store rfl rfl (by(repeat first | exact .here | apply At.there)) rfl (by rfl) (by rfl) (by kernel_rfl) (by rfl) ?_ rfl)
 exact hgo.out):g:=e ⟨h⟩
theorem za.st (i:Nat) {g g':Prop} (h:g') (e:Bx g'→Ph i g:=by
 intro hgo
 refine PhA.one (by kernel_rfl) rfl (by kernel_rfl) (OW.store rfl rfl (by(repeat first | exact .here | apply At.there)) rfl (by rfl) (by rfl) (by kernel_rfl) (by rfl) ?_ rfl)
 exact hgo.out):g:=e ⟨h⟩
theorem zb.st (i:Nat) {g g':Prop} (h:g') (e:Bx g'→Ph i g:=by
 intro hgo
 refine PhB.one (by kernel_rfl) rfl (by kernel_rfl) (OW.store rfl rfl (by(repeat first | exact .here | apply At.there)) rfl (by rfl) (by rfl) (by kernel_rfl) (by rfl) ?_ rfl)
 exact hgo.out):g:=e ⟨h⟩
theorem zw.skip {g g':Prop} (h:g') (e:Bx g'→g:=by
 intro hgo
 refine WL.skip (by kernel_rfl) rfl ?_
 exact hgo.out):g:=e ⟨h⟩
theorem za.skip (i:Nat) {g g':Prop} (h:g') (e:Bx g'→Ph i g:=by
 intro hgo
 refine PhA.sp rfl (by kernel_rfl) (by kernel_rfl) rfl ?_
 exact hgo.out):g:=e ⟨h⟩
end
instance:Und Tryz.prog 2 (.int .i64):=⟨by kernel_rfl⟩
instance inf2:Inf Tryz.prog 2 1 8 (.int .i64 0):=⟨by kernel_rfl⟩
instance:Agg Tryz.prog 2 false:=⟨fun w=>by simp[isAgg,run_underlying Tryz.underlying2]⟩
instance:Und Tryz.prog 3 (.int .i64):=⟨by kernel_rfl⟩
instance inf3:Inf Tryz.prog 3 1 8 (.int .i64 0):=⟨by kernel_rfl⟩
instance:Agg Tryz.prog 3 false:=⟨fun w=>by simp[isAgg,run_underlying Tryz.underlying3]⟩
instance:Und Tryz.prog 4 .bool:=⟨by kernel_rfl⟩
instance inf4:Inf Tryz.prog 4 1 1 (.bool false):=⟨by kernel_rfl⟩
instance:Agg Tryz.prog 4 false:=⟨fun w=>by simp[isAgg,run_underlying Tryz.underlying4]⟩
instance:Und Tryz.prog 5 (.int .u8):=⟨by kernel_rfl⟩
instance inf5:Inf Tryz.prog 5 1 1 (.int .u8 0):=⟨by kernel_rfl⟩
instance:Und Tryz.prog 9 .string:=⟨by kernel_rfl⟩
instance inf9:Inf Tryz.prog 9 1 16 (.string ⟨#[]⟩):=⟨by kernel_rfl⟩
instance:Agg Tryz.prog 9 false:=⟨fun w=>by simp[isAgg,run_underlying Tryz.underlying9]⟩
instance:Und Tryz.prog 22 (.slice 38):=⟨by kernel_rfl⟩
instance:Und Tryz.prog 23 (.slice 52):=⟨by kernel_rfl⟩
instance inf23:Inf Tryz.prog 23 1 24 (.slice none 0 0):=⟨by kernel_rfl⟩
instance:Agg Tryz.prog 23 false:=⟨fun w=>by simp[isAgg,run_underlying Tryz.underlying23]⟩
instance:Und Tryz.prog 24 (.slice 47):=⟨by kernel_rfl⟩
instance inf24:Inf Tryz.prog 24 1 24 (.slice none 0 0):=⟨by kernel_rfl⟩
instance:Agg Tryz.prog 24 false:=⟨fun w=>by simp[isAgg,run_underlying Tryz.underlying24]⟩
instance:Und Tryz.prog 25 (.slice 54):=⟨by kernel_rfl⟩
instance inf25:Inf Tryz.prog 25 1 24 (.slice none 0 0):=⟨by kernel_rfl⟩
instance:Agg Tryz.prog 25 false:=⟨fun w=>by simp[isAgg,run_underlying Tryz.underlying25]⟩
instance inf27:Inf Tryz.prog 27 3 72 (.agg #[(.slice none 0 0),(.slice none 0 0),(.slice none 0 0)]):=⟨by kernel_rfl⟩
instance:Agg Tryz.prog 27 true:=⟨fun w=>by simp[isAgg,run_underlying Tryz.underlying27]⟩
instance:Plc Tryz.prog 27 [(0,1),(1,1),(2,1)]:=⟨fun w=>⟨_,Tryz.underlying27,run_places w _ _ (by kernel_rfl)⟩⟩
instance:Fld Tryz.prog 27 0 0:=mk_fld Tryz.underlying27 rfl (inf23).pos rfl
instance:Fld Tryz.prog 27 1 1:=mk_fld Tryz.underlying27 rfl (inf24).pos rfl
instance:Fld Tryz.prog 27 2 2:=mk_fld Tryz.underlying27 rfl (inf25).pos rfl
instance:Und Tryz.prog 31 (.slice 56):=⟨by kernel_rfl⟩
instance inf31:Inf Tryz.prog 31 1 24 (.slice none 0 0):=⟨by kernel_rfl⟩
instance:Agg Tryz.prog 31 false:=⟨fun w=>by simp[isAgg,run_underlying Tryz.underlying31]⟩
instance inf34:Inf Tryz.prog 34 2 16 (.agg #[(.int .i64 0),(.int .i64 0)]):=⟨by kernel_rfl⟩
instance:Agg Tryz.prog 34 true:=⟨fun w=>by simp[isAgg,run_underlying Tryz.underlying34]⟩
instance:Plc Tryz.prog 34 [(0,1),(1,1)]:=⟨fun w=>⟨_,Tryz.underlying34,run_places w _ _ (by kernel_rfl)⟩⟩
instance inf38:Inf Tryz.prog 38 4 88 (.agg #[(.string ⟨#[]⟩),(.slice none 0 0),(.slice none 0 0),(.slice none 0 0)]):=⟨by kernel_rfl⟩
instance:Agg Tryz.prog 38 true:=⟨fun w=>by simp[isAgg,run_underlying Tryz.underlying38]⟩
instance:Plc Tryz.prog 38 [(0,1),(1,1),(2,1),(3,1)]:=⟨fun w=>⟨_,Tryz.underlying38,run_places w _ _ (by kernel_rfl)⟩⟩
instance:Fld Tryz.prog 38 0 0:=mk_fld Tryz.underlying38 rfl (inf9).pos rfl
instance:Fld Tryz.prog 38 1 1:=mk_fld Tryz.underlying38 rfl (inf23).pos rfl
instance:Fld Tryz.prog 38 2 2:=mk_fld Tryz.underlying38 rfl (inf31).pos rfl
instance:Fld Tryz.prog 38 3 3:=mk_fld Tryz.underlying38 rfl (inf24).pos rfl
instance:Und Tryz.prog 43 (.slice 44):=⟨by kernel_rfl⟩
instance inf43:Inf Tryz.prog 43 1 24 (.slice none 0 0):=⟨by kernel_rfl⟩
instance:Agg Tryz.prog 43 false:=⟨fun w=>by simp[isAgg,run_underlying Tryz.underlying43]⟩
instance:Und Tryz.prog 44 (.int .i64):=⟨by kernel_rfl⟩
instance inf44:Inf Tryz.prog 44 1 8 (.int .i64 0):=⟨by kernel_rfl⟩
instance:Agg Tryz.prog 44 false:=⟨fun w=>by simp[isAgg,run_underlying Tryz.underlying44]⟩
instance:Und Tryz.prog 45 (.slice 50):=⟨by kernel_rfl⟩
instance inf45:Inf Tryz.prog 45 1 24 (.slice none 0 0):=⟨by kernel_rfl⟩
instance:Agg Tryz.prog 45 false:=⟨fun w=>by simp[isAgg,run_underlying Tryz.underlying45]⟩
instance inf47:Inf Tryz.prog 47 6 88 (.agg #[(.string ⟨#[]⟩),(.bool false),(.slice none 0 0),(.int .i64 0),(.int .i64 0),(.slice none 0 0)]):=⟨by kernel_rfl⟩
instance:Agg Tryz.prog 47 true:=⟨fun w=>by simp[isAgg,run_underlying Tryz.underlying47]⟩
instance:Plc Tryz.prog 47 [(0,1),(1,1),(2,1),(3,1),(4,1),(5,1)]:=⟨fun w=>⟨_,Tryz.underlying47,run_places w _ _ (by kernel_rfl)⟩⟩
instance:Fld Tryz.prog 47 0 0:=mk_fld Tryz.underlying47 rfl (inf9).pos rfl
instance:Fld Tryz.prog 47 1 1:=mk_fld Tryz.underlying47 rfl (inf4).pos rfl
instance:Fld Tryz.prog 47 2 2:=mk_fld Tryz.underlying47 rfl (inf43).pos rfl
instance:Fld Tryz.prog 47 3 3:=mk_fld Tryz.underlying47 rfl (inf3).pos rfl
instance:Fld Tryz.prog 47 4 4:=mk_fld Tryz.underlying47 rfl (inf44).pos rfl
instance:Fld Tryz.prog 47 5 5:=mk_fld Tryz.underlying47 rfl (inf45).pos rfl
instance:Und Tryz.prog 48 (.int .i64):=⟨by kernel_rfl⟩
instance inf48:Inf Tryz.prog 48 1 8 (.int .i64 0):=⟨by kernel_rfl⟩
instance:Agg Tryz.prog 48 false:=⟨fun w=>by simp[isAgg,run_underlying Tryz.underlying48]⟩
instance inf50:Inf Tryz.prog 50 2 16 (.agg #[(.int .i64 0),(.int .i64 0)]):=⟨by kernel_rfl⟩
instance:Agg Tryz.prog 50 true:=⟨fun w=>by simp[isAgg,run_underlying Tryz.underlying50]⟩
instance:Plc Tryz.prog 50 [(0,1),(1,1)]:=⟨fun w=>⟨_,Tryz.underlying50,run_places w _ _ (by kernel_rfl)⟩⟩
instance:Fld Tryz.prog 50 0 0:=mk_fld Tryz.underlying50 rfl (inf48).pos rfl
instance:Fld Tryz.prog 50 1 1:=mk_fld Tryz.underlying50 rfl (inf3).pos rfl
instance inf52:Inf Tryz.prog 52 4 40 (.agg #[(.int .i64 0),(.int .i64 0),(.bool false),(.string ⟨#[]⟩)]):=⟨by kernel_rfl⟩
instance:Agg Tryz.prog 52 true:=⟨fun w=>by simp[isAgg,run_underlying Tryz.underlying52]⟩
instance:Plc Tryz.prog 52 [(0,1),(1,1),(2,1),(3,1)]:=⟨fun w=>⟨_,Tryz.underlying52,run_places w _ _ (by kernel_rfl)⟩⟩
instance:Fld Tryz.prog 52 0 0:=mk_fld Tryz.underlying52 rfl (inf44).pos rfl
instance:Fld Tryz.prog 52 1 1:=mk_fld Tryz.underlying52 rfl (inf2).pos rfl
instance:Fld Tryz.prog 52 2 2:=mk_fld Tryz.underlying52 rfl (inf4).pos rfl
instance:Fld Tryz.prog 52 3 3:=mk_fld Tryz.underlying52 rfl (inf9).pos rfl
instance inf54:Inf Tryz.prog 54 3 40 (.agg #[(.string ⟨#[]⟩),(.string ⟨#[]⟩),(.int .i64 0)]):=⟨by kernel_rfl⟩
instance:Agg Tryz.prog 54 true:=⟨fun w=>by simp[isAgg,run_underlying Tryz.underlying54]⟩
instance:Plc Tryz.prog 54 [(0,1),(1,1),(2,1)]:=⟨fun w=>⟨_,Tryz.underlying54,run_places w _ _ (by kernel_rfl)⟩⟩
instance:Fld Tryz.prog 54 2 2:=mk_fld Tryz.underlying54 rfl (inf3).pos rfl
instance inf56:Inf Tryz.prog 56 4 64 (.agg #[(.string ⟨#[]⟩),(.string ⟨#[]⟩),(.slice none 0 0),(.int .i64 0)]):=⟨by kernel_rfl⟩
instance:Agg Tryz.prog 56 true:=⟨fun w=>by simp[isAgg,run_underlying Tryz.underlying56]⟩
instance:Plc Tryz.prog 56 [(0,1),(1,1),(2,1),(3,1)]:=⟨fun w=>⟨_,Tryz.underlying56,run_places w _ _ (by kernel_rfl)⟩⟩
instance:Fld Tryz.prog 56 0 0:=mk_fld Tryz.underlying56 rfl (inf9).pos rfl
instance:Fld Tryz.prog 56 1 1:=mk_fld Tryz.underlying56 rfl (inf9).pos rfl
instance:Fld Tryz.prog 56 2 2:=mk_fld Tryz.underlying56 rfl (inf43).pos rfl
instance:Fld Tryz.prog 56 3 3:=mk_fld Tryz.underlying56 rfl (inf44).pos rfl
instance inf65:Inf Tryz.prog 65 7 80 (.agg #[(.int .i64 0),(.int .i64 0),(.int .i64 0),(.bool false),(.string ⟨#[]⟩),(.slice none 0 0),(.int .i64 0)]):=⟨by kernel_rfl⟩
instance:Agg Tryz.prog 65 true:=⟨fun w=>by simp[isAgg,run_underlying Tryz.underlying65]⟩
instance:Plc Tryz.prog 65 [(0,1),(1,4),(5,1),(6,1)]:=⟨fun w=>⟨_,Tryz.underlying65,run_places w _ _ (by kernel_rfl)⟩⟩
instance:Fld Tryz.prog 65 0 0:=mk_fld Tryz.underlying65 rfl (inf3).pos rfl
instance:Fld Tryz.prog 65 1 1:=mk_fld Tryz.underlying65 rfl (inf52).pos rfl
instance:Fld Tryz.prog 65 2 5:=mk_fld Tryz.underlying65 rfl (inf23).pos rfl
instance:Fld Tryz.prog 65 3 6:=mk_fld Tryz.underlying65 rfl (inf3).pos rfl
instance:Und Tryz.prog 71 (.slice 5):=⟨by kernel_rfl⟩
instance inf71:Inf Tryz.prog 71 1 24 (.slice none 0 0):=⟨by kernel_rfl⟩
instance:Agg Tryz.prog 71 false:=⟨fun w=>by simp[isAgg,run_underlying Tryz.underlying71]⟩
instance:Und Tryz.prog 85 (.map 9 3):=⟨by kernel_rfl⟩
instance:Und Tryz.prog 87 (.map 140 24):=⟨by kernel_rfl⟩
instance inf95:Inf Tryz.prog 95 1 8 (.pointer none):=⟨by kernel_rfl⟩
instance:Agg Tryz.prog 95 false:=⟨fun w=>by simp[isAgg,run_underlying Tryz.underlying95]⟩
instance inf97:Inf Tryz.prog 97 3 72 (.agg #[(.slice none 0 0),(.slice none 0 0),(.slice none 0 0)]):=⟨by kernel_rfl⟩
instance:Plc Tryz.prog 97 [(0,1),(1,1),(2,1)]:=⟨fun w=>⟨_,Tryz.underlying97,run_places w _ _ (by kernel_rfl)⟩⟩
instance:Fld Tryz.prog 97 0 0:=mk_fld Tryz.underlying97 rfl (inf23).pos rfl
instance:Fld Tryz.prog 97 1 1:=mk_fld Tryz.underlying97 rfl (inf31).pos rfl
instance:Fld Tryz.prog 97 2 2:=mk_fld Tryz.underlying97 rfl (inf24).pos rfl
instance inf113:Inf Tryz.prog 113 1 24 (.agg #[(.slice none 0 0)]):=⟨by kernel_rfl⟩
instance:Plc Tryz.prog 113 [(0,1)]:=⟨fun w=>⟨_,Tryz.underlying113,run_places w _ _ (by kernel_rfl)⟩⟩
instance:Fld Tryz.prog 113 0 0:=mk_fld Tryz.underlying113 rfl (inf71).pos rfl
instance inf115:Inf Tryz.prog 115 1 24 (.agg #[(.slice none 0 0)]):=⟨by kernel_rfl⟩
instance:Plc Tryz.prog 115 [(0,1)]:=⟨fun w=>⟨_,Tryz.underlying115,run_places w _ _ (by kernel_rfl)⟩⟩
instance:Fld Tryz.prog 115 0 0:=mk_fld Tryz.underlying115 rfl (inf113).pos rfl
instance:Und Tryz.prog 124 (.int .u64):=⟨by kernel_rfl⟩
instance:Und Tryz.prog 138 (.map 140 3):=⟨by kernel_rfl⟩
instance inf140:Inf Tryz.prog 140 2 32 (.agg #[(.string ⟨#[]⟩),(.string ⟨#[]⟩)]):=⟨by kernel_rfl⟩
instance:Agg Tryz.prog 140 true:=⟨fun w=>by simp[isAgg,run_underlying Tryz.underlying140]⟩
instance:Plc Tryz.prog 140 [(0,1),(1,1)]:=⟨fun w=>⟨_,Tryz.underlying140,run_places w _ _ (by kernel_rfl)⟩⟩
instance:Agg Tryz.prog 154 false:=⟨fun w=>by simp[isAgg,run_underlying Tryz.underlying154]⟩
instance:Und Tryz.prog 158 (.slice 241):=⟨by kernel_rfl⟩
instance inf158:Inf Tryz.prog 158 1 24 (.slice none 0 0):=⟨by kernel_rfl⟩
instance:Agg Tryz.prog 158 false:=⟨fun w=>by simp[isAgg,run_underlying Tryz.underlying158]⟩
instance inf160:Inf Tryz.prog 160 12 184 (.agg #[(.slice none 0 0),(.slice none 0 0),(.slice none 0 0),(.slice none 0 0),(.int .i64 0),(.int .i64 0),(.int .i64 0),(.bool false),(.string ⟨#[]⟩),(.slice none 0 0),(.int .i64 0),(.bool false)]):=⟨by kernel_rfl⟩
instance:Plc Tryz.prog 160 [(0,3),(3,1),(4,7),(11,1)]:=⟨fun w=>⟨_,Tryz.underlying160,run_places w _ _ (by kernel_rfl)⟩⟩
instance:Fld Tryz.prog 160 0 0:=mk_fld Tryz.underlying160 rfl (inf27).pos rfl
instance:Fld Tryz.prog 160 1 3:=mk_fld Tryz.underlying160 rfl (inf158).pos rfl
instance:Fld Tryz.prog 160 2 4:=mk_fld Tryz.underlying160 rfl (inf65).pos rfl
instance:Fld Tryz.prog 160 3 11:=mk_fld Tryz.underlying160 rfl (inf4).pos rfl
instance inf162:Inf Tryz.prog 162 3 72 (.agg #[(.slice none 0 0),(.slice none 0 0),(.slice none 0 0)]):=⟨by kernel_rfl⟩
instance:Agg Tryz.prog 162 true:=⟨fun w=>by simp[isAgg,run_underlying Tryz.underlying162]⟩
instance:Plc Tryz.prog 162 [(0,1),(1,1),(2,1)]:=⟨fun w=>⟨_,Tryz.underlying162,run_places w _ _ (by kernel_rfl)⟩⟩
instance:Fld Tryz.prog 162 0 0:=mk_fld Tryz.underlying162 rfl (inf23).pos rfl
instance:Fld Tryz.prog 162 1 1:=mk_fld Tryz.underlying162 rfl (inf31).pos rfl
instance:Fld Tryz.prog 162 2 2:=mk_fld Tryz.underlying162 rfl (inf24).pos rfl
instance:Und Tryz.prog 199 (.slice 203):=⟨by kernel_rfl⟩
instance inf199:Inf Tryz.prog 199 1 24 (.slice none 0 0):=⟨by kernel_rfl⟩
instance:Agg Tryz.prog 199 false:=⟨fun w=>by simp[isAgg,run_underlying Tryz.underlying199]⟩
instance inf201:Inf Tryz.prog 201 8 120 (.agg #[(.pointer none),(.string ⟨#[]⟩),(.bool false),(.slice none 0 0),(.int .i64 0),(.int .i64 0),(.slice none 0 0),(.slice none 0 0)]):=⟨by kernel_rfl⟩
instance:Plc Tryz.prog 201 [(0,1),(1,6),(7,1)]:=⟨fun w=>⟨_,Tryz.underlying201,run_places w _ _ (by kernel_rfl)⟩⟩
instance:Fld Tryz.prog 201 0 0:=mk_fld Tryz.underlying201 rfl (inf95).pos rfl
instance:Fld Tryz.prog 201 1 1:=mk_fld Tryz.underlying201 rfl (inf47).pos rfl
instance:Fld Tryz.prog 201 2 7:=mk_fld Tryz.underlying201 rfl (inf199).pos rfl
instance inf203:Inf Tryz.prog 203 4 56 (.agg #[(.bool false),(.bool false),(.slice none 0 0),(.slice none 0 0)]):=⟨by kernel_rfl⟩
instance:Agg Tryz.prog 203 true:=⟨fun w=>by simp[isAgg,run_underlying Tryz.underlying203]⟩
instance:Plc Tryz.prog 203 [(0,1),(1,1),(2,1),(3,1)]:=⟨fun w=>⟨_,Tryz.underlying203,run_places w _ _ (by kernel_rfl)⟩⟩
instance:Fld Tryz.prog 203 0 0:=mk_fld Tryz.underlying203 rfl (inf4).pos rfl
instance:Fld Tryz.prog 203 1 1:=mk_fld Tryz.underlying203 rfl (inf4).pos rfl
instance:Fld Tryz.prog 203 2 2:=mk_fld Tryz.underlying203 rfl (inf43).pos rfl
instance:Fld Tryz.prog 203 3 3:=mk_fld Tryz.underlying203 rfl (inf43).pos rfl
instance:Und Tryz.prog 204 (.map 3 3):=⟨by kernel_rfl⟩
instance:Und Tryz.prog 206 (.slice 3):=⟨by kernel_rfl⟩
instance:Und Tryz.prog 216 (.slice 220):=⟨by kernel_rfl⟩
instance inf220:Inf Tryz.prog 220 4 64 (.agg #[(.bool false),(.slice none 0 0),(.bool false),(.slice none 0 0)]):=⟨by kernel_rfl⟩
instance:Agg Tryz.prog 220 true:=⟨fun w=>by simp[isAgg,run_underlying Tryz.underlying220]⟩
instance:Plc Tryz.prog 220 [(0,1),(1,1),(2,1),(3,1)]:=⟨fun w=>⟨_,Tryz.underlying220,run_places w _ _ (by kernel_rfl)⟩⟩
instance:Fld Tryz.prog 220 0 0:=mk_fld Tryz.underlying220 rfl (inf4).pos rfl
instance:Fld Tryz.prog 220 1 1:=mk_fld Tryz.underlying220 rfl (inf43).pos rfl
instance:Fld Tryz.prog 220 2 2:=mk_fld Tryz.underlying220 rfl (inf4).pos rfl
instance:Fld Tryz.prog 220 3 3:=mk_fld Tryz.underlying220 rfl (inf43).pos rfl
instance:Und Tryz.prog 221 (.slice 9):=⟨by kernel_rfl⟩
instance inf226:Inf Tryz.prog 226 4 40 (.agg #[(.string ⟨#[]⟩),(.bool false),(.int .i64 0),(.int .i64 0)]):=⟨by kernel_rfl⟩
instance:Agg Tryz.prog 226 true:=⟨fun w=>by simp[isAgg,run_underlying Tryz.underlying226]⟩
instance:Plc Tryz.prog 226 [(0,1),(1,1),(2,1),(3,1)]:=⟨fun w=>⟨_,Tryz.underlying226,run_places w _ _ (by kernel_rfl)⟩⟩
instance:Fld Tryz.prog 226 0 0:=mk_fld Tryz.underlying226 rfl (inf9).pos rfl
instance:Fld Tryz.prog 226 1 1:=mk_fld Tryz.underlying226 rfl (inf4).pos rfl
instance:Fld Tryz.prog 226 2 2:=mk_fld Tryz.underlying226 rfl (inf3).pos rfl
instance:Fld Tryz.prog 226 3 3:=mk_fld Tryz.underlying226 rfl (inf3).pos rfl
instance inf241:Inf Tryz.prog 241 1 8 (.pointer none):=⟨by kernel_rfl⟩
instance:Agg Tryz.prog 241 false:=⟨fun w=>by simp[isAgg,run_underlying Tryz.underlying241]⟩
instance inf243:Inf Tryz.prog 243 1 24 (.agg #[(.slice none 0 0)]):=⟨by kernel_rfl⟩
instance:Fld Tryz.prog 243 0 0:=mk_fld Tryz.underlying243 rfl (inf23).pos rfl
instance inf245:Inf Tryz.prog 245 4 64 (.agg #[(.slice none 0 0),(.int .i64 0),(.int .i64 0),(.slice none 0 0)]):=⟨by kernel_rfl⟩
instance:Agg Tryz.prog 245 true:=⟨fun w=>by simp[isAgg,run_underlying Tryz.underlying245]⟩
instance:Plc Tryz.prog 245 [(0,1),(1,1),(2,1),(3,1)]:=⟨fun w=>⟨_,Tryz.underlying245,run_places w _ _ (by kernel_rfl)⟩⟩
instance:Fld Tryz.prog 245 0 0:=mk_fld Tryz.underlying245 rfl (inf243).pos rfl
instance:Fld Tryz.prog 245 1 1:=mk_fld Tryz.underlying245 rfl (inf3).pos rfl
instance:Fld Tryz.prog 245 2 2:=mk_fld Tryz.underlying245 rfl (inf3).pos rfl
instance:Fld Tryz.prog 245 3 3:=mk_fld Tryz.underlying245 rfl (inf23).pos rfl
instance inf249:Inf Tryz.prog 249 5 72 (.agg #[(.pointer none),(.slice none 0 0),(.int .i64 0),(.int .i64 0),(.slice none 0 0)]):=⟨by kernel_rfl⟩
instance:Plc Tryz.prog 249 [(0,1),(1,4)]:=⟨fun w=>⟨_,Tryz.underlying249,run_places w _ _ (by kernel_rfl)⟩⟩
instance:Fld Tryz.prog 249 0 0:=mk_fld Tryz.underlying249 rfl (inf241).pos rfl
instance:Fld Tryz.prog 249 1 1:=mk_fld Tryz.underlying249 rfl (inf245).pos rfl
instance inf251:Inf Tryz.prog 251 1 8 (.agg #[(.int .i64 0)]):=⟨by kernel_rfl⟩
instance:Plc Tryz.prog 251 [(0,1)]:=⟨fun w=>⟨_,Tryz.underlying251,run_places w _ _ (by kernel_rfl)⟩⟩
instance:Fld Tryz.prog 251 0 0:=mk_fld Tryz.underlying251 rfl (inf3).pos rfl
instance:Und Tryz.prog 259 (.slice 4):=⟨by kernel_rfl⟩
instance inf265:Inf Tryz.prog 265 108 1080 (.agg #[(.string ⟨#[]⟩),(.bool false),(.int .i64 0),(.int .i64 0),(.string ⟨#[]⟩),(.bool false),(.int .i64 0),(.int .i64 0),(.string ⟨#[]⟩),(.bool false),(.int .i64 0),(.int .i64 0),(.string ⟨#[]⟩),(.bool false),(.int .i64 0),(.int .i64 0),(.string ⟨#[]⟩),(.bool false),(.int .i64 0),(.int .i64 0),(.string ⟨#[]⟩),(.bool false),(.int .i64 0),(.int .i64 0),(.string ⟨#[]⟩),(.bool false),(.int .i64 0),(.int .i64 0),(.string ⟨#[]⟩),(.bool false),(.int .i64 0),(.int .i64 0),(.string ⟨#[]⟩),(.bool false),(.int .i64 0),(.int .i64 0),(.string ⟨#[]⟩),(.bool false),(.int .i64 0),(.int .i64 0),(.string ⟨#[]⟩),(.bool false),(.int .i64 0),(.int .i64 0),(.string ⟨#[]⟩),(.bool false),(.int .i64 0),(.int .i64 0),(.string ⟨#[]⟩),(.bool false),(.int .i64 0),(.int .i64 0),(.string ⟨#[]⟩),(.bool false),(.int .i64 0),(.int .i64 0),(.string ⟨#[]⟩),(.bool false),(.int .i64 0),(.int .i64 0),(.string ⟨#[]⟩),(.bool false),(.int .i64 0),(.int .i64 0),(.string ⟨#[]⟩),(.bool false),(.int .i64 0),(.int .i64 0),(.string ⟨#[]⟩),(.bool false),(.int .i64 0),(.int .i64 0),(.string ⟨#[]⟩),(.bool false),(.int .i64 0),(.int .i64 0),(.string ⟨#[]⟩),(.bool false),(.int .i64 0),(.int .i64 0),(.string ⟨#[]⟩),(.bool false),(.int .i64 0),(.int .i64 0),(.string ⟨#[]⟩),(.bool false),(.int .i64 0),(.int .i64 0),(.string ⟨#[]⟩),(.bool false),(.int .i64 0),(.int .i64 0),(.string ⟨#[]⟩),(.bool false),(.int .i64 0),(.int .i64 0),(.string ⟨#[]⟩),(.bool false),(.int .i64 0),(.int .i64 0),(.string ⟨#[]⟩),(.bool false),(.int .i64 0),(.int .i64 0),(.string ⟨#[]⟩),(.bool false),(.int .i64 0),(.int .i64 0)]):=⟨by kernel_rfl⟩
instance inf283:Inf Tryz.prog 283 16 256 (.agg #[(.string ⟨#[]⟩),(.string ⟨#[]⟩),(.string ⟨#[]⟩),(.string ⟨#[]⟩),(.string ⟨#[]⟩),(.string ⟨#[]⟩),(.string ⟨#[]⟩),(.string ⟨#[]⟩),(.string ⟨#[]⟩),(.string ⟨#[]⟩),(.string ⟨#[]⟩),(.string ⟨#[]⟩),(.string ⟨#[]⟩),(.string ⟨#[]⟩),(.string ⟨#[]⟩),(.string ⟨#[]⟩)]):=⟨by kernel_rfl⟩
instance:Agg Tryz.prog 283 true:=⟨fun w=>by simp[isAgg,run_underlying Tryz.underlying283]⟩
instance inf291:Inf Tryz.prog 291 7 112 (.agg #[(.string ⟨#[]⟩),(.string ⟨#[]⟩),(.string ⟨#[]⟩),(.string ⟨#[]⟩),(.string ⟨#[]⟩),(.string ⟨#[]⟩),(.string ⟨#[]⟩)]):=⟨by kernel_rfl⟩
instance:Agg Tryz.prog 291 true:=⟨fun w=>by simp[isAgg,run_underlying Tryz.underlying291]⟩
instance:Body Tryz.prog 12:=mk_body Tryz.func12 (by decide) rfl
-- 13: treadle/object.Missing
instance:Body Tryz.prog 13:=mk_body Tryz.func13 (by decide) rfl
-- 14: treadle/code.Object
instance:Body Tryz.prog 14:=mk_body Tryz.func14 (by decide) rfl
-- 15: treadle/treadlelaw22.awake
instance:Body Tryz.prog 15:=mk_body Tryz.func15 (by decide) rfl
-- 16: treadle/treadleref22.Link
instance:Body Tryz.prog 16:=mk_body Tryz.func16 (by decide) rfl
-- 17: treadle/treadleref22.SameProgram
instance:Body Tryz.prog 17:=mk_body Tryz.func17 (by decide) rfl
-- 18: treadle/object.Point
instance:Body Tryz.prog 20:=mk_body Tryz.func20 (by decide) rfl
-- 21: treadle/treadlelaw22.runs
instance:Body Tryz.prog 27:=mk_body Tryz.func27 (by decide) rfl
-- 28: treadle/treadleref22.Bytes
instance:Body Tryz.prog 34:=mk_body Tryz.func34 (by decide) rfl
-- 35: treadle/object.exported
instance:Body Tryz.prog 35:=mk_body Tryz.func35 (by decide) rfl
-- 36: slices.ContainsFunc[[]treadle/api.Need,treadle/api.Need]
instance:Body Tryz.prog 36:=mk_body Tryz.func36 (by decide) rfl
-- 37: treadle/object.Missing$1
instance:Body Tryz.prog 37:=mk_body Tryz.func37 (by decide) rfl
-- 38: treadle/object.sameNeed
instance:Body Tryz.prog 38:=mk_body Tryz.func38 (by decide) rfl
-- 39: treadle/object.met
instance:Body Tryz.prog 39:=mk_body Tryz.func39 (by decide) rfl
-- 40: slices.Clone[[]treadle/api.Type,treadle/api.Type]
instance:Body Tryz.prog 40:=mk_body Tryz.func40 (by decide) rfl
-- 41: treadle/code.object
instance:Body Tryz.prog 41:=mk_body Tryz.func41 (by decide) rfl
-- 42: (*treadle/code.world).all
instance:Body Tryz.prog 42:=mk_body Tryz.func42 (by decide) rfl
-- 43: treadle/treadlelaw22.two
instance:Body Tryz.prog 43:=mk_body Tryz.func43 (by decide) rfl
-- 44: treadle/vm.Run
instance:Body Tryz.prog 44:=mk_body Tryz.func44 (by decide) rfl
-- 45: treadle/treadleref18.Object
instance:Body Tryz.prog 45:=mk_body Tryz.func45 (by decide) rfl
-- 46: treadle/treadleref22.Missing
instance:Body Tryz.prog 46:=mk_body Tryz.func46 (by decide) rfl
-- 47: treadle/treadleref22.before
instance:Body Tryz.prog 47:=mk_body Tryz.func47 (by decide) rfl
-- 48: treadle/treadleref22.moved
instance:Body Tryz.prog 48:=mk_body Tryz.func48 (by decide) rfl
-- 49: treadle/treadleref22.sameValues
instance:Body Tryz.prog 49:=mk_body Tryz.func49 (by decide) rfl
-- 50: treadle/treadleref22.sameProcs
instance:Body Tryz.prog 50:=mk_body Tryz.func50 (by decide) rfl
-- 51: treadle/treadleref20.SameValues
instance:Body Tryz.prog 56:=mk_body Tryz.func56 (by decide) rfl
-- 57: slices.Equal[[]treadle/api.Point,treadle/api.Point]
instance:Body Tryz.prog 59:=mk_body Tryz.func59 (by decide) rfl
-- 60: (*treadle/object.common).values
instance:Body Tryz.prog 60:=mk_body Tryz.func60 (by decide) rfl
-- 61: (*treadle/object.common).uint
instance:Body Tryz.prog 61:=mk_body Tryz.func61 (by decide) rfl
-- 62: (*treadle/object.common).head
instance:Body Tryz.prog 62:=mk_body Tryz.func62 (by decide) rfl
-- 63: (*treadle/object.common).procs
instance:Body Tryz.prog 63:=mk_body Tryz.func63 (by decide) rfl
-- 64: treadle/treadleref01.Text
instance:Body Tryz.prog 80:=mk_body Tryz.func80 (by decide) rfl
-- 81: slices.IndexFunc[[]treadle/api.Need,treadle/api.Need]
instance:Body Tryz.prog 81:=mk_body Tryz.func81 (by decide) rfl
-- 82: slices.Equal[[]treadle/api.Type,treadle/api.Type]
instance:Body Tryz.prog 82:=mk_body Tryz.func82 (by decide) rfl
-- 83: slices.ContainsFunc[[]treadle/api.Proc,treadle/api.Proc]
instance:Body Tryz.prog 83:=mk_body Tryz.func83 (by decide) rfl
-- 84: treadle/object.met$1
instance:Body Tryz.prog 84:=mk_body Tryz.func84 (by decide) rfl
-- 85: treadle/code.file
instance:Body Tryz.prog 85:=mk_body Tryz.func85 (by decide) rfl
-- 86: treadle/code.values
instance:Body Tryz.prog 86:=mk_body Tryz.func86 (by decide) rfl
-- 87: treadle/lex.Word
instance:Body Tryz.prog 87:=mk_body Tryz.func87 (by decide) rfl
-- 88: treadle/code.head
instance:Body Tryz.prog 88:=mk_body Tryz.func88 (by decide) rfl
-- 89: treadle/code.proc
instance:Body Tryz.prog 89:=mk_body Tryz.func89 (by decide) rfl
-- 90: (*treadle/code.world).alone
instance:Body Tryz.prog 90:=mk_body Tryz.func90 (by decide) rfl
-- 91: (*treadle/code.world).flow
instance:Body Tryz.prog 91:=mk_body Tryz.func91 (by decide) rfl
-- 92: (*treadle/code.flow).wrong
instance:Body Tryz.prog 92:=mk_body Tryz.func92 (by decide) rfl
-- 93: treadle/vm.Start
instance:Body Tryz.prog 93:=mk_body Tryz.func93 (by decide) rfl
-- 94: (*treadle/vm.Machine).Step
instance:Body Tryz.prog 94:=mk_body Tryz.func94 (by decide) rfl
-- 95: (*treadle/vm.Machine).Outcome
instance:Body Tryz.prog 95:=mk_body Tryz.func95 (by decide) rfl
-- 96: treadle/treadleref18.place
instance:Body Tryz.prog 96:=mk_body Tryz.func96 (by decide) rfl
-- 97: treadle/treadleref18.Value
instance:Body Tryz.prog 97:=mk_body Tryz.func97 (by decide) rfl
-- 98: treadle/treadleref12.Word
instance:Body Tryz.prog 98:=mk_body Tryz.func98 (by decide) rfl
-- 99: treadle/treadleref18.head
instance:Body Tryz.prog 99:=mk_body Tryz.func99 (by decide) rfl
-- 100: treadle/treadleref18.proc
instance:Body Tryz.prog 100:=mk_body Tryz.func100 (by decide) rfl
-- 101: treadle/treadleref22.met
instance:Body Tryz.prog 101:=mk_body Tryz.func101 (by decide) rfl
-- 102: treadle/treadleref22.sameTypes
instance:Body Tryz.prog 102:=mk_body Tryz.func102 (by decide) rfl
-- 103: slices.Equal[[]treadle/api.Instr,treadle/api.Instr]
instance:Body Tryz.prog 104:=mk_body Tryz.func104 (by decide) rfl
-- 105: (*treadle/object.common).kind
instance:Body Tryz.prog 105:=mk_body Tryz.func105 (by decide) rfl
-- 106: treadle/wire.PutInt
instance:Body Tryz.prog 106:=mk_body Tryz.func106 (by decide) rfl
-- 107: treadle/wire.PutBool
instance:Body Tryz.prog 107:=mk_body Tryz.func107 (by decide) rfl
-- 108: treadle/wire.PutUint
instance:Body Tryz.prog 108:=mk_body Tryz.func108 (by decide) rfl
-- 109: treadle/code.Bytes
instance:Body Tryz.prog 109:=mk_body Tryz.func109 (by decide) rfl
-- 110: treadle/treadleref01.Int
instance:Body Tryz.prog 125:=mk_body Tryz.func125 (by decide) rfl
-- 126: treadle/path.Check
instance:Body Tryz.prog 126:=mk_body Tryz.func126 (by decide) rfl
-- 127: treadle/code.value
instance:Body Tryz.prog 127:=mk_body Tryz.func127 (by decide) rfl
-- 128: treadle/lex.just
instance:Body Tryz.prog 128:=mk_body Tryz.func128 (by decide) rfl
-- 129: treadle/code.typed
instance:Body Tryz.prog 129:=mk_body Tryz.func129 (by decide) rfl
-- 130: treadle/code.may
instance:Body Tryz.prog 130:=mk_body Tryz.func130 (by decide) rfl
-- 131: (*treadle/code.flow).behind
instance:Body Tryz.prog 131:=mk_body Tryz.func131 (by decide) rfl
-- 132: treadle/code.next
instance:Body Tryz.prog 132:=mk_body Tryz.func132 (by decide) rfl
-- 133: treadle/code.joined
instance:Body Tryz.prog 133:=mk_body Tryz.func133 (by decide) rfl
-- 134: treadle/code.same
instance:Body Tryz.prog 134:=mk_body Tryz.func134 (by decide) rfl
-- 135: (treadle/code.state).copied
instance:Body Tryz.prog 135:=mk_body Tryz.func135 (by decide) rfl
-- 136: (*treadle/code.flow).at
instance:Body Tryz.prog 136:=mk_body Tryz.func136 (by decide) rfl
-- 137: treadle/vm.sized
instance:Body Tryz.prog 137:=mk_body Tryz.func137 (by decide) rfl
-- 138: treadle/vm.value
instance:Body Tryz.prog 138:=mk_body Tryz.func138 (by decide) rfl
-- 139: treadle/vm.own
instance:Body Tryz.prog 139:=mk_body Tryz.func139 (by decide) rfl
-- 140: (*treadle/vm.Machine).enter
instance:Body Tryz.prog 140:=mk_body Tryz.func140 (by decide) rfl
-- 141: (*treadle/vm.Machine).made
instance:Body Tryz.prog 141:=mk_body Tryz.func141 (by decide) rfl
-- 142: (*treadle/vm.Machine).step
instance:Body Tryz.prog 142:=mk_body Tryz.func142 (by decide) rfl
-- 143: slices.Clone[[]treadle/api.Value,treadle/api.Value]
instance:Body Tryz.prog 143:=mk_body Tryz.func143 (by decide) rfl
-- 144: treadle/treadleref04.Path
instance:Body Tryz.prog 144:=mk_body Tryz.func144 (by decide) rfl
-- 145: treadle/treadleref12.name
instance:Body Tryz.prog 145:=mk_body Tryz.func145 (by decide) rfl
-- 146: treadle/treadleref12.Key
instance:Body Tryz.prog 146:=mk_body Tryz.func146 (by decide) rfl
-- 147: treadle/treadleref18.itself
instance:Body Tryz.prog 147:=mk_body Tryz.func147 (by decide) rfl
-- 148: treadle/treadleref18.States
instance:Body Tryz.prog 148:=mk_body Tryz.func148 (by decide) rfl
-- 149: treadle/treadleref18.met
instance:Body Tryz.prog 149:=mk_body Tryz.func149 (by decide) rfl
-- 150: treadle/wire.texts
instance:Body Tryz.prog 150:=mk_body Tryz.func150 (by decide) rfl
-- 151: treadle/wire.fresh
instance:Body Tryz.prog 151:=mk_body Tryz.func151 (by decide) rfl
-- 152: treadle/wire.short
instance:Body Tryz.prog 152:=mk_body Tryz.func152 (by decide) rfl
-- 153: treadle/code.rowOf
instance:Body Tryz.prog 153:=mk_body Tryz.func153 (by decide) rfl
-- 154: treadle/treadleref18.lone
instance:Body Tryz.prog 154:=mk_body Tryz.func154 (by decide) rfl
-- 155: treadle/treadleref18.Numbered
instance:Body Tryz.prog 155:=mk_body Tryz.func155 (by decide) rfl
-- 156: (*treadle/wire.Reader).Byte
instance:Body Tryz.prog 158:=mk_body Tryz.func158 (by decide) rfl
-- 159: treadle/lex.token
instance:Body Tryz.prog 159:=mk_body Tryz.func159 (by decide) rfl
-- 160: (*treadle/code.flow).effect
instance:Body Tryz.prog 160:=mk_body Tryz.func160 (by decide) rfl
-- 161: treadle/code.joinRow
instance:Body Tryz.prog 161:=mk_body Tryz.func161 (by decide) rfl
-- 162: (*treadle/code.flow).kinds
instance:Body Tryz.prog 162:=mk_body Tryz.func162 (by decide) rfl
-- 163: slices.Clone[[]treadle/api.Proc,treadle/api.Proc]
instance:Body Tryz.prog 163:=mk_body Tryz.func163 (by decide) rfl
-- 164: (*treadle/vm.Machine).top
instance:Body Tryz.prog 164:=mk_body Tryz.func164 (by decide) rfl
-- 165: (*treadle/vm.frame).copied
instance:Body Tryz.prog 165:=mk_body Tryz.func165 (by decide) rfl
-- 166: (*treadle/vm.Machine).step$1
instance:Body Tryz.prog 166:=mk_body Tryz.func166 (by decide) rfl
-- 167: (*treadle/vm.Machine).do
instance:Body Tryz.prog 167:=mk_body Tryz.func167 (by decide) rfl
-- 168: treadle/treadleref04.Names
instance:Body Tryz.prog 168:=mk_body Tryz.func168 (by decide) rfl
-- 169: treadle/treadleref12.Letter
instance:Body Tryz.prog 169:=mk_body Tryz.func169 (by decide) rfl
-- 170: treadle/treadleref12.Digit
instance:Body Tryz.prog 170:=mk_body Tryz.func170 (by decide) rfl
-- 171: treadle/treadleref12.among
instance:Body Tryz.prog 171:=mk_body Tryz.func171 (by decide) rfl
-- 172: treadle/treadleref12.keys
instance:Body Tryz.prog 172:=mk_body Tryz.func172 (by decide) rfl
-- 173: treadle/treadleref18.behind
instance:Body Tryz.prog 173:=mk_body Tryz.func173 (by decide) rfl
-- 174: treadle/treadleref18.onwards
instance:Body Tryz.prog 174:=mk_body Tryz.func174 (by decide) rfl
-- 175: treadle/treadleref18.join
instance:Body Tryz.prog 175:=mk_body Tryz.func175 (by decide) rfl
-- 176: treadle/treadleref18.alike
instance:Body Tryz.prog 176:=mk_body Tryz.func176 (by decide) rfl
-- 177: treadle/treadleref18.effect
instance:Body Tryz.prog 177:=mk_body Tryz.func177 (by decide) rfl
-- 178: treadle/treadleref18.kinds
instance:Body Tryz.prog 178:=mk_body Tryz.func178 (by decide) rfl
-- 179: treadle/treadleref18.is
instance:Body Tryz.prog 179:=mk_body Tryz.func179 (by decide) rfl
-- 180: strings.Split
instance:Body Tryz.prog 180:=mk_body Tryz.func180 (by decide) rfl
-- 181: treadle/path.Name
instance:Body Tryz.prog 181:=mk_body Tryz.func181 (by decide) rfl
-- 182: treadle/lex.letter
instance:Body Tryz.prog 182:=mk_body Tryz.func182 (by decide) rfl
-- 183: treadle/lex.run
instance:Body Tryz.prog 183:=mk_body Tryz.func183 (by decide) rfl
-- 184: treadle/lex.token$1
instance:Body Tryz.prog 184:=mk_body Tryz.func184 (by decide) rfl
-- 185: treadle/lex.digit
instance:Body Tryz.prog 185:=mk_body Tryz.func185 (by decide) rfl
-- 186: treadle/lex.Key
instance:Body Tryz.prog 186:=mk_body Tryz.func186 (by decide) rfl
-- 187: treadle/lex.whole
instance:Body Tryz.prog 187:=mk_body Tryz.func187 (by decide) rfl
-- 188: treadle/lex.quoted
instance:Body Tryz.prog 188:=mk_body Tryz.func188 (by decide) rfl
-- 189: treadle/lex.sign
instance:Body Tryz.prog 189:=mk_body Tryz.func189 (by decide) rfl
-- 190: (*treadle/code.flow).effect$1
instance:Body Tryz.prog 190:=mk_body Tryz.func190 (by decide) rfl
-- 191: (*treadle/code.flow).effect$2
instance:Body Tryz.prog 191:=mk_body Tryz.func191 (by decide) rfl
-- 192: (*treadle/code.flow).kinds$1
instance:Body Tryz.prog 192:=mk_body Tryz.func192 (by decide) rfl
-- 193: treadle/vm.need
instance:Body Tryz.prog 193:=mk_body Tryz.func193 (by decide) rfl
-- 194: (*treadle/vm.Machine).lay
instance:Body Tryz.prog 194:=mk_body Tryz.func194 (by decide) rfl
-- 195: (*treadle/vm.Machine).take
instance:Body Tryz.prog 195:=mk_body Tryz.func195 (by decide) rfl
-- 196: (*treadle/vm.Machine).typed
instance:Body Tryz.prog 196:=mk_body Tryz.func196 (by decide) rfl
-- 197: (*treadle/vm.Machine).call
instance:Body Tryz.prog 197:=mk_body Tryz.func197 (by decide) rfl
-- 198: (*treadle/vm.Machine).plain
instance:Body Tryz.prog 198:=mk_body Tryz.func198 (by decide) rfl
-- 199: treadle/treadleref04.Pieces
instance:Body Tryz.prog 199:=mk_body Tryz.func199 (by decide) rfl
-- 200: treadle/treadleref04.Name
instance:Body Tryz.prog 200:=mk_body Tryz.func200 (by decide) rfl
-- 201: treadle/treadleref18.joined
instance:Body Tryz.prog 201:=mk_body Tryz.func201 (by decide) rfl
-- 202: treadle/treadleref18.same
instance:Body Tryz.prog 202:=mk_body Tryz.func202 (by decide) rfl
-- 203: strings.genSplit
instance:Body Tryz.prog 204:=mk_body Tryz.func204 (by decide) rfl
-- 205: strconv.FormatInt
instance:Body Tryz.prog 205:=mk_body Tryz.func205 (by decide) rfl
-- 206: treadle/lex.piece
instance:Body Tryz.prog 206:=mk_body Tryz.func206 (by decide) rfl
-- 207: strings.HasPrefix
instance:Body Tryz.prog 207:=mk_body Tryz.func207 (by decide) rfl
-- 208: strings.IndexByte
instance:Body Tryz.prog 208:=mk_body Tryz.func208 (by decide) rfl
-- 209: treadle/vm.stuck
instance:Body Tryz.prog 209:=mk_body Tryz.func209 (by decide) rfl
-- 210: (*treadle/vm.stack).high
instance:Body Tryz.prog 210:=mk_body Tryz.func210 (by decide) rfl
-- 211: (*treadle/vm.stack).push
instance:Body Tryz.prog 211:=mk_body Tryz.func211 (by decide) rfl
-- 212: (*treadle/vm.stack).pop
instance:Body Tryz.prog 212:=mk_body Tryz.func212 (by decide) rfl
-- 213: (*treadle/vm.Machine).leave
instance:Body Tryz.prog 213:=mk_body Tryz.func213 (by decide) rfl
-- 214: treadle/vm.truth
instance:Body Tryz.prog 224:=mk_body Tryz.func224 (by decide) rfl
-- 225: internal/stringslite.HasPrefix
theorem mixed:Tryz.prog.follows .mixedOrders=true:=by kernel_rfl
section
open Go
section
variable {P:Program} {Q:Exit→Act→World→Prop} {cx:Cx} {L:List (Nat×Value)} {G:Gh} {H:List Own} {l:List Oper}
theorem WA.two {fuel i j:Nat} {listed:Array Bool} {o o':Oper} (hr:Region.ready .any l.toArray listed=[i,j]) (hi:l[i]? =some o) (hj:l[j]? =some o') (hw:wantB l.toArray L o=some true) (hw':wantB l.toArray L o'=some true)
  (h:OW P Q o cx L G H fun L' G' H'=>WA P l Q fuel (listed.setIfInBounds i true) cx L' G' H') (h':OW P Q o' cx L G H fun L' G' H'=>WA P l Q fuel (listed.setIfInBounds j true) cx L' G' H'):WA P l Q (fuel+1) listed cx L G H:=
 WA.all hr (by simp) fun k hk=>by
  simp only[List.mem_cons,List.not_mem_nil,or_false]at hk
  rcases hk with rfl | rfl
  ·exact⟨o,hi,hw,h⟩
  ·exact⟨o',hj,hw',h'⟩
theorem WB.two {Gs:Gh} {Hs:List Own} {fuel i j:Nat} {listed:Array Bool} {o o':Oper} (hr:Region.ready .any l.toArray listed=[i,j]) (hi:l[i]? =some o) (hj:l[j]? =some o') (hw:wantB l.toArray L o=some true) (hw':wantB l.toArray L o'=some true)
  (h:OW P Q o cx L G H fun L' G' H'=>(∀w,Sat G' H' w→Sat Gs Hs w)∧WB P l Q Gs Hs fuel (listed.setIfInBounds i true) cx L' G' H') (h':OW P Q o' cx L G H fun L' G' H'=>(∀w,Sat G' H' w→Sat Gs Hs w)∧WB P l Q Gs Hs fuel (listed.setIfInBounds j true) cx L' G' H'):WB P l Q Gs Hs (fuel+1) listed cx L G H:=
 WB.all hr (by simp) fun k hk=>by
  simp only[List.mem_cons,List.not_mem_nil,or_false]at hk
  rcases hk with rfl | rfl
  ·exact⟨o,hi,hw,h⟩
  ·exact⟨o',hj,hw',h'⟩
end
theorem splice_one {c:Array Value} {o:Nat} {v:Value} (h:o<c.size):(splice c o [v]).toList=c.toList.set o v:=by
 simp only[splice,List.length_singleton]
 apply List.ext_getElem?
 intro j
 simp only[List.getElem?_append,List.length_append,List.length_take,Array.length_toList,List.length_singleton,List.getElem?_take,List.getElem?_drop,List.getElem?_set]
 have m1:min o c.size=o:=by omega
 rw[m1]
 by_cases h1:j<o
 ·simp[h1,show j<o+1 by omega,show o≠j by omega]
 ·by_cases h2:o=j
  ·subst h2;simp[h]
  ·simp[h1,h2,show¬j<o+1 by omega,show o+1+(j - (o+1))=j by omega]
theorem Vec.put1 {T sz n cap b o:Nat} {A:Option Addr} {cs:List Value} {c:Array Value} (h:Vec T sz A n cap cs (.blk b (.cells c T (0,0)))) (ho:o<n*sz) (v:Value):
  A=some ⟨b,0,none⟩∧o+1≤c.size∧Vec T sz A n cap (cs.set o v) (.blk b (.cells (splice c o [v]) T (0,0))):=by
 obtain⟨hl,⟨h1,h2,h3,h4⟩ | ⟨b',c',rfl,hx,h1,h2,rfl⟩⟩:=h
 ·subst h2;simp at ho
 ·cases hx
  have e2:n*sz≤cap*sz:=Nat.mul_le_mul_right _ h1
  refine⟨rfl,by omega,by simpa using hl, .inr ⟨b,_,rfl,rfl,h1,by rw[size_splice (by simp;omega),h2],?_⟩⟩
  rw[splice_one (by omega),List.take_set]
theorem set_elem {l:List Value} {k i j s:Nat} {v:Value} (hj:j<s):(((l.set (i*s+j) v).drop (k*s)).take s)=if k=i then((l.drop (k*s)).take s).set j v else(l.drop (k*s)).take s:=by
 have hs:0<s:=by omega
 apply List.ext_getElem?
 intro m
 by_cases hk:k=i
 ·subst hk
  simp only[if_true,List.getElem?_take,List.getElem?_drop,List.getElem?_set,List.length_take,List.length_drop]
  by_cases hm:m<s
  ·simp only[hm,if_true]
   by_cases hjm:j=m
   ·subst hjm
    by_cases hq:k*s+j<l.length
    ·simp[hq,show j<min s (l.length - k*s) by omega]
    ·simp[hq,show¬j<min s (l.length - k*s) by omega]
   ·simp[hjm]
  ·simp only[hm,if_false]
   by_cases hjm:j=m
   ·omega
   ·simp[hjm]
 ·simp only[if_neg hk,List.getElem?_take,List.getElem?_drop,List.getElem?_set]
  by_cases hm:m<s
  ·simp only[hm,if_true]
   rw[if_neg]
   intro e
   rcases Nat.lt_or_gt_of_ne hk with h | h
   ·have:(k+1)*s≤i*s:=Nat.mul_le_mul_right _ h
    rw[Nat.add_mul]at this;omega
   ·have:(i+1)*s≤k*s:=Nat.mul_le_mul_right _ h
    rw[Nat.add_mul]at this;omega
  ·simp[hm]
theorem elem_cell {c:Array Value} {cs es:List Value} {n i s k:Nat} {w:Value} (h:c.toList.take n=cs) (he:(cs.drop (i*s)).take s=es) (hw:es[k]? =some w):c[0+((i:Nat):Int).toNat*s+k]? =some w:=by
 subst he
 rw[List.getElem?_take]at hw
 split at hw
 ·rw[List.getElem?_drop,←h,List.getElem?_take]at hw
  split at hw
  ·simpa using hw
  ·cases hw
 ·cases hw
theorem Sl.none_zero {α:Type} {k:Kd α} {G:Gh} {A:Option Addr} {xs:List α} (h:Sl k G A xs) (hA:A=none):xs.length=0:=by
 cases xs with
 | nil=>rfl
 | cons x r=>obtain⟨b,o,cs,e,_⟩:=h 0 x rfl;rw[hA]at e;cases e
theorem Sl.ofCs {α:Type} {k:Kd α} {G:Gh} {A:Option Addr} {xs:List α} {cs:List Value} (hz:cs=[]∨∃b,A=some ⟨b,0,none⟩∧Cs G b 0 cs) (hl:cs.length=xs.length*k.n) (hn:0<k.n) (hk:∀i x,xs[i]? =some x→k.K G x ((cs.drop (i*k.n)).take k.n)):Sl k G A xs:=by
 intro i x hx
 have hi:=(List.getElem?_eq_some_iff.1 hx).1
 have hle:(i+1)*k.n≤xs.length*k.n:=Nat.mul_le_mul_right _ hi
 rw[Nat.add_mul]at hle
 rcases hz with rfl | ⟨b,rfl,hc⟩
 ·simp at hl;omega
 ·refine⟨b,0,_,rfl,hk i x hx,fun j v e=>?_⟩
  rw[List.getElem?_take]at e
  split at e
  ·rw[List.getElem?_drop]at e
   have:=hc _ v e
   rw[Nat.zero_add]at this⊢;exact this
  ·cases e
end
section
open Go
section
variable {P:Program} {L:List (Nat×Value)} {d:Option Tmp} {ty:TypeId} {pos:String} {af:Array Edge} {gu:Option (Nat×Bool)}
end
section
variable {P:Program} {Q:Exit→Act→World→Prop} {cx:Cx} {L:List (Nat×Value)} {G:Gh} {H:List Own} {ops:Array Oper} {rest:List Oper} {d:Option Tmp} {ty:TypeId} {pos:String} {af:Array Edge} {gu:Option (Nat×Bool)} {gd:Nat×Bool} {g:Prop}
theorem Un.kL (h:WL P ops Q rest cx L G H):WL P ops Q rest cx L G H:=h
theorem Un.kC {c:Code} (h:WC P c Q cx L G H):WC P c Q cx L G H:=h
theorem Un.kG {o:Op} (h:WL P ops Q (⟨d,o,ty,pos,af,some gd⟩::rest) cx L G H):WL P ops Q (⟨d,o,ty,pos,af,some gd⟩::rest) cx L G H:=h
theorem Un.kN {o:Op} (h:WL P ops Q (⟨d,o,ty,pos,af,none⟩::rest) cx L G H):WL P ops Q (⟨d,o,ty,pos,af,none⟩::rest) cx L G H:=h
theorem Un.k_move {x:Operand} (h:WL P ops Q (⟨d, .move x,ty,pos,af,gu⟩::rest) cx L G H):WL P ops Q (⟨d, .move x,ty,pos,af,gu⟩::rest) cx L G H:=h
theorem Un.k_assign {x:Operand} (h:WL P ops Q (⟨d, .assign x,ty,pos,af,gu⟩::rest) cx L G H):WL P ops Q (⟨d, .assign x,ty,pos,af,gu⟩::rest) cx L G H:=h
theorem Un.k_fieldAddr {s:TypeId} {n:Nat} {x:Operand} (h:WL P ops Q (⟨d, .fieldAddr s x n,ty,pos,af,gu⟩::rest) cx L G H):WL P ops Q (⟨d, .fieldAddr s x n,ty,pos,af,gu⟩::rest) cx L G H:=h
theorem Un.k_nilCheck {x:Operand} (h:WL P ops Q (⟨d, .nilCheck x,ty,pos,af,gu⟩::rest) cx L G H):WL P ops Q (⟨d, .nilCheck x,ty,pos,af,gu⟩::rest) cx L G H:=h
theorem Un.k_extract {x:Operand} {n:Nat} (h:WL P ops Q (⟨d, .extract x n,ty,pos,af,gu⟩::rest) cx L G H):WL P ops Q (⟨d, .extract x n,ty,pos,af,gu⟩::rest) cx L G H:=h
theorem Un.k_load {s:TypeId} {x:Operand} (h:WL P ops Q (⟨d, .load s x,ty,pos,af,gu⟩::rest) cx L G H):WL P ops Q (⟨d, .load s x,ty,pos,af,gu⟩::rest) cx L G H:=h
theorem Un.k_unOp {u:UnOp} {s:TypeId} {x:Operand} (h:WL P ops Q (⟨d, .unOp u s x,ty,pos,af,gu⟩::rest) cx L G H):WL P ops Q (⟨d, .unOp u s x,ty,pos,af,gu⟩::rest) cx L G H:=h
theorem Un.k_pick {x y z:Operand} (h:WL P ops Q (⟨d, .pick x y z,ty,pos,af,gu⟩::rest) cx L G H):WL P ops Q (⟨d, .pick x y z,ty,pos,af,gu⟩::rest) cx L G H:=h
theorem Un.k_build {s:TypeId} {ps:Array (Nat×Operand)} (h:WL P ops Q (⟨d, .build s ps,ty,pos,af,gu⟩::rest) cx L G H):WL P ops Q (⟨d, .build s ps,ty,pos,af,gu⟩::rest) cx L G H:=h
theorem Un.k_indexAddr {s:TypeId} {x y:Operand} (h:WL P ops Q (⟨d, .indexAddr s x y,ty,pos,af,gu⟩::rest) cx L G H):WL P ops Q (⟨d, .indexAddr s x y,ty,pos,af,gu⟩::rest) cx L G H:=h
theorem Un.k_store {s:TypeId} {x y:Operand} (h:WL P ops Q (⟨d, .store s x y,ty,pos,af,gu⟩::rest) cx L G H):WL P ops Q (⟨d, .store s x y,ty,pos,af,gu⟩::rest) cx L G H:=h
theorem Un.k_len {xs:Array Operand} {ts:Array TypeId} (h:WL P ops Q (⟨d, .call { callee:= .builtin .len,args:=xs,argTypes:=ts },ty,pos,af,gu⟩::rest) cx L G H):WL P ops Q (⟨d, .call { callee:= .builtin .len,args:=xs,argTypes:=ts },ty,pos,af,gu⟩::rest) cx L G H:=h
theorem Un.k_eql {s u:TypeId} {x y:Operand} (h:WL P ops Q (⟨d, .binOp .eql s x y u,ty,pos,af,gu⟩::rest) cx L G H):WL P ops Q (⟨d, .binOp .eql s x y u,ty,pos,af,gu⟩::rest) cx L G H:=h
theorem Un.k_neq {s u:TypeId} {x y:Operand} (h:WL P ops Q (⟨d, .binOp .neq s x y u,ty,pos,af,gu⟩::rest) cx L G H):WL P ops Q (⟨d, .binOp .neq s x y u,ty,pos,af,gu⟩::rest) cx L G H:=h
theorem Un.k_lss {s u:TypeId} {x y:Operand} (h:WL P ops Q (⟨d, .binOp .lss s x y u,ty,pos,af,gu⟩::rest) cx L G H):WL P ops Q (⟨d, .binOp .lss s x y u,ty,pos,af,gu⟩::rest) cx L G H:=h
theorem Un.k_gtr {s u:TypeId} {x y:Operand} (h:WL P ops Q (⟨d, .binOp .gtr s x y u,ty,pos,af,gu⟩::rest) cx L G H):WL P ops Q (⟨d, .binOp .gtr s x y u,ty,pos,af,gu⟩::rest) cx L G H:=h
theorem Un.k_geq {s u:TypeId} {x y:Operand} (h:WL P ops Q (⟨d, .binOp .geq s x y u,ty,pos,af,gu⟩::rest) cx L G H):WL P ops Q (⟨d, .binOp .geq s x y u,ty,pos,af,gu⟩::rest) cx L G H:=h
theorem Un.k_leq {s u:TypeId} {x y:Operand} (h:WL P ops Q (⟨d, .binOp .leq s x y u,ty,pos,af,gu⟩::rest) cx L G H):WL P ops Q (⟨d, .binOp .leq s x y u,ty,pos,af,gu⟩::rest) cx L G H:=h
theorem Un.k_add {s u:TypeId} {x y:Operand} (h:WL P ops Q (⟨d, .binOp .add s x y u,ty,pos,af,gu⟩::rest) cx L G H):WL P ops Q (⟨d, .binOp .add s x y u,ty,pos,af,gu⟩::rest) cx L G H:=h
theorem Un.k_sub {s u:TypeId} {x y:Operand} (h:WL P ops Q (⟨d, .binOp .sub s x y u,ty,pos,af,gu⟩::rest) cx L G H):WL P ops Q (⟨d, .binOp .sub s x y u,ty,pos,af,gu⟩::rest) cx L G H:=h
end
def listedF (n k:Nat):Array Bool:=(List.replicate k true++List.replicate (n - k) false).toArray
theorem listedF_zero (n:Nat):Array.replicate n false=listedF n 0:=by simp[listedF]
theorem listedF_succ {n k:Nat} (h:k<n):(listedF n k).setIfInBounds k true=listedF n (k+1):=by
 unfold listedF
 have e:n - k=(n - (k+1))+1:=by omega
 rw[List.setIfInBounds_toArray,e,List.replicate_succ,List.set_append_right _ _ (by simp),List.length_replicate,Nat.sub_self,List.set_cons_zero,List.replicate_succ',List.append_assoc]
 rfl
def WQ (P:Program) (l:List Oper) (Q:Exit→Act→World→Prop) (k:Nat) (rest:List Oper) (cx:Cx) (L:List (Nat×Value)) (G:Gh) (H:List Own):Prop:=
 l.drop k=rest→WA P l Q rest.length (listedF l.length k) cx L G H
section
variable {P:Program} {Q:Exit→Act→World→Prop} {cx:Cx} {L:List (Nat×Value)} {G:Gh} {H:List Own} {l rest:List Oper} {k:Nat} {o:Oper}
theorem WQ.start {id:Nat} (hm:P.follows .mixedOrders=true) (h:WQ P l Q 0 l cx L G H):WC P (.region id l.toArray true) Q cx L G H:=
 WC.draw hm (by rw[listedF_zero];exact h rfl)
theorem WQ.get (h:l.drop k=o::rest):l[k]? =some o∧k<l.length∧l.drop (k+1)=rest:=by
 have h1:l[k]? =some o:=by have:=congrArg (fun x=>x[0]?) h;simpa [List.getElem?_drop]using this
 exact⟨h1,(List.getElem?_eq_some_iff.1 h1).1,by rw[←List.tail_drop,h];rfl⟩
theorem WQ.tv {v:Value} (hv:Gv P L G H o v) (hk:okV l (listedF l.length k) k o=true) (hw:wantB l.toArray L o=some true) (hd:dOk o.dst cx.N=true) [hQ:QPan Q] (h:WQ P l Q (k+1) rest cx (putL o.dst v L) G H):WQ P l Q k (o::rest) cx L G H:=fun e=>by
 obtain⟨h1,h2,h3⟩:=WQ.get e
 refine WA.tv h1 hk hw hd hv ?_
 rw[listedF_succ h2]
 exact h h3
theorem WQ.tp {v:Value} (hv:Gp P L o v) (hk:okP l (listedF l.length k) k=true) (hw:wantB l.toArray L o=some true) (hd:dOk o.dst cx.N=true) [hQ:QPan Q] (h:WQ P l Q (k+1) rest cx (putL o.dst v L) G H):WQ P l Q k (o::rest) cx L G H:=fun e=>by
 obtain⟨h1,h2,h3⟩:=WQ.get e
 refine WA.tp h1 hk hw hd hv ?_
 rw[listedF_succ h2]
 exact h h3
theorem WQ.sp (hk:okP l (listedF l.length k) k=true) (hw:wantB l.toArray L o=some false) (hd:dOk o.dst cx.N=true) [hQ:QPan Q] (h:WQ P l Q (k+1) rest cx (putL o.dst undef L) G H):WQ P l Q k (o::rest) cx L G H:=fun e=>by
 obtain⟨h1,h2,h3⟩:=WQ.get e
 refine WA.sp h1 hk hw hd ?_
 rw[listedF_succ h2]
 exact h h3
theorem WQ.one (hr:Region.ready .any l.toArray (listedF l.length k)=[k]) (hw:wantB l.toArray L o=some true) (h:OW P Q o cx L G H fun L' G' H'=>WQ P l Q (k+1) rest cx L' G' H'):WQ P l Q k (o::rest) cx L G H:=fun e=>by
 obtain⟨h1,h2,h3⟩:=WQ.get e
 refine WA.one hr h1 hw ?_
 rw[listedF_succ h2]
 exact fun next hn=>h next fun L' G' H' k'=>hn L' G' H' (k' h3)
theorem WQ.done (hr:Region.ready .any l.toArray (listedF l.length k)=[]) (h:WK (Q .normal) cx L G H):WQ P l Q k [] cx L G H:=fun e=>WA.done hr h
end
section
variable {P:Program} {Q:Exit→Act→World→Prop} {cx:Cx} {L:List (Nat×Value)} {G:Gh} {H:List Own} {l:List Oper} {k:Nat} {rest:List Oper} {d:Option Tmp} {ty:TypeId} {pos:String} {af:Array Edge} {gu:Option (Nat×Bool)} {gd:Nat×Bool} {g:Prop}
theorem Uq.kL (h:WQ P l Q k rest cx L G H):WQ P l Q k rest cx L G H:=h
theorem Uq.kG {o:Op} (h:WQ P l Q k (⟨d,o,ty,pos,af,some gd⟩::rest) cx L G H):WQ P l Q k (⟨d,o,ty,pos,af,some gd⟩::rest) cx L G H:=h
theorem Uq.kN {o:Op} (h:WQ P l Q k (⟨d,o,ty,pos,af,none⟩::rest) cx L G H):WQ P l Q k (⟨d,o,ty,pos,af,none⟩::rest) cx L G H:=h
theorem Uq.k_move {x:Operand} (h:WQ P l Q k (⟨d, .move x,ty,pos,af,gu⟩::rest) cx L G H):WQ P l Q k (⟨d, .move x,ty,pos,af,gu⟩::rest) cx L G H:=h
theorem Uq.k_assign {x:Operand} (h:WQ P l Q k (⟨d, .assign x,ty,pos,af,gu⟩::rest) cx L G H):WQ P l Q k (⟨d, .assign x,ty,pos,af,gu⟩::rest) cx L G H:=h
theorem Uq.k_fieldAddr {s:TypeId} {n:Nat} {x:Operand} (h:WQ P l Q k (⟨d, .fieldAddr s x n,ty,pos,af,gu⟩::rest) cx L G H):WQ P l Q k (⟨d, .fieldAddr s x n,ty,pos,af,gu⟩::rest) cx L G H:=h
theorem Uq.k_nilCheck {x:Operand} (h:WQ P l Q k (⟨d, .nilCheck x,ty,pos,af,gu⟩::rest) cx L G H):WQ P l Q k (⟨d, .nilCheck x,ty,pos,af,gu⟩::rest) cx L G H:=h
theorem Uq.k_extract {x:Operand} {n:Nat} (h:WQ P l Q k (⟨d, .extract x n,ty,pos,af,gu⟩::rest) cx L G H):WQ P l Q k (⟨d, .extract x n,ty,pos,af,gu⟩::rest) cx L G H:=h
theorem Uq.k_load {s:TypeId} {x:Operand} (h:WQ P l Q k (⟨d, .load s x,ty,pos,af,gu⟩::rest) cx L G H):WQ P l Q k (⟨d, .load s x,ty,pos,af,gu⟩::rest) cx L G H:=h
theorem Uq.k_unOp {u:UnOp} {s:TypeId} {x:Operand} (h:WQ P l Q k (⟨d, .unOp u s x,ty,pos,af,gu⟩::rest) cx L G H):WQ P l Q k (⟨d, .unOp u s x,ty,pos,af,gu⟩::rest) cx L G H:=h
theorem Uq.k_pick {x y z:Operand} (h:WQ P l Q k (⟨d, .pick x y z,ty,pos,af,gu⟩::rest) cx L G H):WQ P l Q k (⟨d, .pick x y z,ty,pos,af,gu⟩::rest) cx L G H:=h
theorem Uq.k_build {s:TypeId} {ps:Array (Nat×Operand)} (h:WQ P l Q k (⟨d, .build s ps,ty,pos,af,gu⟩::rest) cx L G H):WQ P l Q k (⟨d, .build s ps,ty,pos,af,gu⟩::rest) cx L G H:=h
theorem Uq.k_indexAddr {s:TypeId} {x y:Operand} (h:WQ P l Q k (⟨d, .indexAddr s x y,ty,pos,af,gu⟩::rest) cx L G H):WQ P l Q k (⟨d, .indexAddr s x y,ty,pos,af,gu⟩::rest) cx L G H:=h
theorem Uq.k_len {xs:Array Operand} {ts:Array TypeId} (h:WQ P l Q k (⟨d, .call { callee:= .builtin .len,args:=xs,argTypes:=ts },ty,pos,af,gu⟩::rest) cx L G H):WQ P l Q k (⟨d, .call { callee:= .builtin .len,args:=xs,argTypes:=ts },ty,pos,af,gu⟩::rest) cx L G H:=h
theorem Uq.k_eql {s u:TypeId} {x y:Operand} (h:WQ P l Q k (⟨d, .binOp .eql s x y u,ty,pos,af,gu⟩::rest) cx L G H):WQ P l Q k (⟨d, .binOp .eql s x y u,ty,pos,af,gu⟩::rest) cx L G H:=h
theorem Uq.k_neq {s u:TypeId} {x y:Operand} (h:WQ P l Q k (⟨d, .binOp .neq s x y u,ty,pos,af,gu⟩::rest) cx L G H):WQ P l Q k (⟨d, .binOp .neq s x y u,ty,pos,af,gu⟩::rest) cx L G H:=h
theorem Uq.k_lss {s u:TypeId} {x y:Operand} (h:WQ P l Q k (⟨d, .binOp .lss s x y u,ty,pos,af,gu⟩::rest) cx L G H):WQ P l Q k (⟨d, .binOp .lss s x y u,ty,pos,af,gu⟩::rest) cx L G H:=h
theorem Uq.k_gtr {s u:TypeId} {x y:Operand} (h:WQ P l Q k (⟨d, .binOp .gtr s x y u,ty,pos,af,gu⟩::rest) cx L G H):WQ P l Q k (⟨d, .binOp .gtr s x y u,ty,pos,af,gu⟩::rest) cx L G H:=h
theorem Uq.k_geq {s u:TypeId} {x y:Operand} (h:WQ P l Q k (⟨d, .binOp .geq s x y u,ty,pos,af,gu⟩::rest) cx L G H):WQ P l Q k (⟨d, .binOp .geq s x y u,ty,pos,af,gu⟩::rest) cx L G H:=h
theorem Uq.k_leq {s u:TypeId} {x y:Operand} (h:WQ P l Q k (⟨d, .binOp .leq s x y u,ty,pos,af,gu⟩::rest) cx L G H):WQ P l Q k (⟨d, .binOp .leq s x y u,ty,pos,af,gu⟩::rest) cx L G H:=h
theorem Uq.k_add {s u:TypeId} {x y:Operand} (h:WQ P l Q k (⟨d, .binOp .add s x y u,ty,pos,af,gu⟩::rest) cx L G H):WQ P l Q k (⟨d, .binOp .add s x y u,ty,pos,af,gu⟩::rest) cx L G H:=h
theorem Uq.k_sub {s u:TypeId} {x y:Operand} (h:WQ P l Q k (⟨d, .binOp .sub s x y u,ty,pos,af,gu⟩::rest) cx L G H):WQ P l Q k (⟨d, .binOp .sub s x y u,ty,pos,af,gu⟩::rest) cx L G H:=h
end
theorem go {g g':Prop} (h:g') (e:Bx g'→g:=by
 intro hgo
 repeat (first
  | ((with_reducible refine Un.kL ?_);first
   | (refine Un.kN ?_;first
    | (refine Un.k_move ?_;first | refine WL.p (Gp.move rfl) (by kernel_rfl) rfl ?_)
    | (refine Un.k_assign ?_;first | refine WL.p (Gp.assign rfl) (by kernel_rfl) rfl ?_)
    | (refine Un.k_fieldAddr ?_;first | refine WL.p (Gp.fieldAddr rfl) (by kernel_rfl) rfl ?_)
    | (refine Un.k_nilCheck ?_;first | refine WL.p (Gp.nilCheck rfl) (by kernel_rfl) rfl ?_)
    | (refine Un.k_extract ?_;first | refine WL.p (Gp.extract rfl rfl) (by kernel_rfl) rfl ?_)
    | (refine Un.k_load ?_;first | refine WL.v (Gv.load1 rfl (by(repeat first | exact .here | apply At.there)) (by first | rfl | assumption)) (by kernel_rfl) rfl ?_ | refine WL.v (Gv.loadN rfl (by(repeat first | exact .here | apply At.there)) (by rfl) (by rfl)) (by kernel_rfl) rfl ?_ | refine WL.v (Gv.loadG1 rfl (by assumption) (by rfl)) (by kernel_rfl) rfl ?_ | refine WL.v (Gv.loadG0 rfl (by assumption) (by rfl)) (by kernel_rfl) rfl ?_ | refine WL.v (Gv.loadGN rfl (by assumption) (by rfl)) (by kernel_rfl) rfl ?_)
    | (refine Un.k_unOp ?_;first | refine WL.p (Gp.notB rfl) (by kernel_rfl) rfl ?_ | refine WL.p (Gp.negI rfl) (by kernel_rfl) rfl ?_)
    | (refine Un.k_pick ?_;first | refine WL.p (Gp.pickT rfl rfl) (by kernel_rfl) rfl ?_ | refine WL.p (Gp.pickF rfl rfl) (by kernel_rfl) rfl ?_)
    | (refine Un.k_build ?_;first | refine WL.p (Gp.build rfl rfl) (by kernel_rfl) rfl ?_)
    | (refine Un.k_indexAddr ?_;first | refine WL.p (Gp.indexAddr rfl rfl (by first | assumption | omega | decide) (by first | assumption | omega | decide)) (by kernel_rfl) rfl ?_)
    | (refine Un.k_store ?_;first | refine WL.op (by kernel_rfl) (OW.store rfl rfl (by(repeat first | exact .here | apply At.there)) rfl (by rfl) (by rfl) (by first | rfl | assumption) (by rfl) ?_ rfl))
    | (refine Un.k_len ?_;first | refine WL.p (Gp.lenSl rfl) (by kernel_rfl) rfl ?_ | refine WL.p (Gp.lenS rfl) (by kernel_rfl) rfl ?_)
    | (refine Un.k_eql ?_;first | refine WL.p (Gp.eqI' rfl rfl (by assumption)) (by kernel_rfl) rfl ?_ | refine WL.p (Gp.eqI rfl rfl) (by kernel_rfl) rfl ?_ | refine WL.p (Gp.eqS rfl rfl) (by kernel_rfl) rfl ?_ | refine WL.p (Gp.eqB rfl rfl) (by kernel_rfl) rfl ?_ | refine WL.p (Gp.nilSl rfl) (by kernel_rfl) rfl ?_)
    | (refine Un.k_neq ?_;first | refine WL.p (Gp.neI' rfl rfl (by assumption)) (by kernel_rfl) rfl ?_ | refine WL.p (Gp.neI rfl rfl) (by kernel_rfl) rfl ?_ | refine WL.p (Gp.neS rfl rfl) (by kernel_rfl) rfl ?_ | refine WL.p (Gp.neB rfl rfl) (by kernel_rfl) rfl ?_)
    | (refine Un.k_lss ?_;first | refine WL.p (Gp.ltI' rfl rfl (by assumption)) (by kernel_rfl) rfl ?_ | refine WL.p (Gp.ltI rfl rfl) (by kernel_rfl) rfl ?_ | refine WL.p (Gp.ltS rfl rfl) (by kernel_rfl) rfl ?_)
    | (refine Un.k_gtr ?_;first | refine WL.p (Gp.gtI' rfl rfl (by assumption)) (by kernel_rfl) rfl ?_ | refine WL.p (Gp.gtI rfl rfl) (by kernel_rfl) rfl ?_)
    | (refine Un.k_geq ?_;first | refine WL.p (Gp.geI' rfl rfl (by assumption)) (by kernel_rfl) rfl ?_ | refine WL.p (Gp.geI rfl rfl) (by kernel_rfl) rfl ?_ | refine WL.p (Gp.geS rfl rfl) (by kernel_rfl) rfl ?_)
    | (refine Un.k_leq ?_;first | refine WL.p (Gp.leI' rfl rfl (by assumption)) (by kernel_rfl) rfl ?_ | refine WL.p (Gp.leI rfl rfl) (by kernel_rfl) rfl ?_)
    | (refine Un.k_add ?_;first | refine WL.p (Gp.add' rfl rfl (by assumption)) (by kernel_rfl) rfl ?_)
    | (refine Un.k_sub ?_;first | refine WL.p (Gp.sub' rfl rfl (by assumption)) (by kernel_rfl) rfl ?_))
   | (refine Un.kG ?_;first
    | refine WL.skip (by rfl) rfl ?_
    | (refine Un.k_move ?_;first | refine WL.p (Gp.move rfl) (by rfl) rfl ?_)
    | (refine Un.k_assign ?_;first | refine WL.p (Gp.assign rfl) (by rfl) rfl ?_)
    | (refine Un.k_fieldAddr ?_;first | refine WL.p (Gp.fieldAddr rfl) (by rfl) rfl ?_)
    | (refine Un.k_nilCheck ?_;first | refine WL.p (Gp.nilCheck rfl) (by rfl) rfl ?_)
    | (refine Un.k_extract ?_;first | refine WL.p (Gp.extract rfl rfl) (by rfl) rfl ?_)
    | (refine Un.k_load ?_;first | refine WL.v (Gv.load1 rfl (by(repeat first | exact .here | apply At.there)) (by first | rfl | assumption)) (by rfl) rfl ?_ | refine WL.v (Gv.loadN rfl (by(repeat first | exact .here | apply At.there)) (by rfl) (by rfl)) (by rfl) rfl ?_ | refine WL.v (Gv.loadG1 rfl (by assumption) (by rfl)) (by rfl) rfl ?_ | refine WL.v (Gv.loadG0 rfl (by assumption) (by rfl)) (by rfl) rfl ?_ | refine WL.v (Gv.loadGN rfl (by assumption) (by rfl)) (by rfl) rfl ?_)
    | (refine Un.k_unOp ?_;first | refine WL.p (Gp.notB rfl) (by rfl) rfl ?_ | refine WL.p (Gp.negI rfl) (by rfl) rfl ?_)
    | (refine Un.k_pick ?_;first | refine WL.p (Gp.pickT rfl rfl) (by rfl) rfl ?_ | refine WL.p (Gp.pickF rfl rfl) (by rfl) rfl ?_)
    | (refine Un.k_build ?_;first | refine WL.p (Gp.build rfl rfl) (by rfl) rfl ?_)
    | (refine Un.k_indexAddr ?_;first | refine WL.p (Gp.indexAddr rfl rfl (by first | assumption | omega | decide) (by first | assumption | omega | decide)) (by rfl) rfl ?_)
    | (refine Un.k_store ?_;first | refine WL.op (by rfl) (OW.store rfl rfl (by(repeat first | exact .here | apply At.there)) rfl (by rfl) (by rfl) (by first | rfl | assumption) (by rfl) ?_ rfl))
    | (refine Un.k_len ?_;first | refine WL.p (Gp.lenSl rfl) (by rfl) rfl ?_ | refine WL.p (Gp.lenS rfl) (by rfl) rfl ?_)
    | (refine Un.k_eql ?_;first | refine WL.p (Gp.eqI' rfl rfl (by assumption)) (by rfl) rfl ?_ | refine WL.p (Gp.eqI rfl rfl) (by rfl) rfl ?_ | refine WL.p (Gp.eqS rfl rfl) (by rfl) rfl ?_ | refine WL.p (Gp.eqB rfl rfl) (by rfl) rfl ?_ | refine WL.p (Gp.nilSl rfl) (by rfl) rfl ?_)
    | (refine Un.k_neq ?_;first | refine WL.p (Gp.neI' rfl rfl (by assumption)) (by rfl) rfl ?_ | refine WL.p (Gp.neI rfl rfl) (by rfl) rfl ?_ | refine WL.p (Gp.neS rfl rfl) (by rfl) rfl ?_ | refine WL.p (Gp.neB rfl rfl) (by rfl) rfl ?_)
    | (refine Un.k_lss ?_;first | refine WL.p (Gp.ltI' rfl rfl (by assumption)) (by rfl) rfl ?_ | refine WL.p (Gp.ltI rfl rfl) (by rfl) rfl ?_ | refine WL.p (Gp.ltS rfl rfl) (by rfl) rfl ?_)
    | (refine Un.k_gtr ?_;first | refine WL.p (Gp.gtI' rfl rfl (by assumption)) (by rfl) rfl ?_ | refine WL.p (Gp.gtI rfl rfl) (by rfl) rfl ?_)
    | (refine Un.k_geq ?_;first | refine WL.p (Gp.geI' rfl rfl (by assumption)) (by rfl) rfl ?_ | refine WL.p (Gp.geI rfl rfl) (by rfl) rfl ?_ | refine WL.p (Gp.geS rfl rfl) (by rfl) rfl ?_)
    | (refine Un.k_leq ?_;first | refine WL.p (Gp.leI' rfl rfl (by assumption)) (by rfl) rfl ?_ | refine WL.p (Gp.leI rfl rfl) (by rfl) rfl ?_)
    | (refine Un.k_add ?_;first | refine WL.p (Gp.add' rfl rfl (by assumption)) (by rfl) rfl ?_)
    | (refine Un.k_sub ?_;first | refine WL.p (Gp.sub' rfl rfl (by assumption)) (by rfl) rfl ?_))
   | with_reducible refine WL.nil ?_)
  | ((with_reducible refine Un.kC ?_);first
   | with_reducible refine WC.seq ?_
   | with_reducible refine WC.region ?_
   | with_reducible refine WC.block ?_
   | with_reducible refine WC.skip ?_
   | with_reducible refine WC.exit ?_
   | refine WC.cond_true rfl ?_
   | refine WC.cond_false rfl ?_)
  | with_reducible refine WK.thN ?_
  | with_reducible refine WK.thR ?_
  | with_reducible refine WK.thE ?_
  | with_reducible refine WK.thP ?_
  | with_reducible refine WK.blN ?_
  | with_reducible refine WK.blR ?_
  | with_reducible refine WK.blP ?_
  | with_reducible refine WK.blE ?_
  | with_reducible refine WK.blO rfl ?_
  | with_reducible refine WK.thJ ?_)
 exact hgo.out):g:=e ⟨h⟩
end
section
open Go Go.MapKept
theorem map_eraseIdx' {α β:Type} (f:α→β):∀(l:List α) (j:Nat),(l.eraseIdx j).map f=(l.map f).eraseIdx j
 | [],_=>rfl
 | _::_,0=>rfl
 | a::l,j+1=>by simp[map_eraseIdx' f l j]
structure MRel {κ:Type} (emb:κ→Value) (d:TypeDesc) (es:Array MapEntry) (clock:Nat) (m:List (κ×Value)):Prop where
 ents:es.toList.map (fun e=>(e.key,e.val))=m.map (fun p=>(emb p.1,p.2))
 keys:(m.map (·.1)).Nodup
 borns:(es.toList.map (·.born)).Nodup
 old:∀e∈es.toList,e.born<clock
section
variable {κ:Type} [DecidableEq κ] {emb:κ→Value} {d:TypeDesc} {es:Array MapEntry} {clock:Nat} {m:List (κ×Value)}
def getA (m:List (κ×Value)) (k:κ):Option Value:=(m.find? (fun p=>decide (p.1=k))).map (·.2)
def setA (m:List (κ×Value)) (k:κ) (v:Value):List (κ×Value):=if k∈m.map (·.1)then m.map (fun p=>if p.1=k then(k,v)else p)else m++[(k,v)]
def delA (m:List (κ×Value)) (k:κ):List (κ×Value):=m.filter (fun p=>decide (p.1≠k))
class Emb (emb:κ→Value) (d:TypeDesc):Prop where
 inj:∀ {a b:κ},emb a=emb b→a=b
 key:∀a:κ,IsKey d (emb a)
theorem MRel.empty:MRel emb d #[] 0 []:=⟨rfl,by simp,by simp,by simp⟩
variable [he:Emb emb d]
theorem MRel.isKey (h:MRel emb d es clock m):∀e∈es.toList,IsKey d e.key:=fun e hm=>by
 have h1:(e.key,e.val)∈es.toList.map (fun e=>(e.key,e.val)):=List.mem_map_of_mem hm
 rw[h.ents]at h1
 obtain⟨p,_,hp⟩:=List.mem_map.1 h1
 have:emb p.1=e.key:=congrArg Prod.fst hp
 rw[←this];exact he.key _
theorem MRel.at (h:MRel emb d es clock m) {j:Nat} {e:MapEntry} (hj:es.toList[j]? =some e):∃p,m[j]? =some p∧e.key=emb p.1∧e.val=p.2:=by
 have h1:=congrArg (fun l=>l[j]?) h.ents
 simp only[List.getElem?_map,hj,Option.map_some]at h1
 cases hp:m[j]? with
 | none=>rw[hp]at h1;cases h1
 | some p=>
  rw[hp]at h1
  simp only[Option.map_some,Option.some.injEq,Prod.mk.injEq]at h1
  exact⟨p,rfl,h1⟩
theorem MRel.len (h:MRel emb d es clock m):es.size=m.length:=by
 have:=congrArg List.length h.ents
 simpa using this
theorem MRel.absent (h:MRel emb d es clock m) {k:κ} (hk:∀x∈es.toList,x.key≠emb k):k∉m.map (·.1):=fun hm=>by
 obtain⟨p,hp,rfl⟩:=List.mem_map.1 hm
 have h1:(emb p.1,p.2)∈m.map (fun p=>(emb p.1,p.2)):=List.mem_map.2 ⟨p,hp,rfl⟩
 rw[←h.ents]at h1
 obtain⟨e,hm,hx⟩:=List.mem_map.1 h1
 exact hk e hm (congrArg Prod.fst hx)
theorem getA_absent {k:κ} (h:k∉m.map (·.1)):getA m k=none:=by
 unfold getA
 rw[List.find?_eq_none.2 fun p hp=>by simp;exact fun e=>h (List.mem_map.2 ⟨p,hp,e⟩)]
 rfl
theorem getA_at {j:Nat} {p:κ×Value} (hn:(m.map (·.1)).Nodup) (hj:m[j]? =some p):getA m p.1=some p.2:=by
 unfold getA
 induction m generalizing j with
 | nil=>simp at hj
 | cons q m ih=>
  cases j with
  | zero=>simp at hj;subst hj;simp
  | succ j=>
   simp only[List.getElem?_cons_succ]at hj
   simp only[List.map_cons,List.nodup_cons]at hn
   have hne:q.1≠p.1:=fun e=>hn.1 (e▸List.mem_map_of_mem (List.mem_of_getElem? hj))
   rw[List.find?_cons_of_neg (by simpa using hne)]
   exact ih hn.2 hj
theorem MRel.setNew (h:MRel emb d es clock m) {k:κ} {v:Value} (hk:k∉m.map (·.1)):MRel emb d (es.push ⟨emb k,v,clock⟩) (clock+1) (setA m k v):=by
 rw[setA,if_neg hk]
 refine⟨by simp[h.ents],?_,?_,?_⟩
 ·rw[List.map_append,List.nodup_append]
  refine⟨h.keys,by simp,fun a ha b hb=>?_⟩
  simp at hb;subst hb;exact fun e=>hk (e▸ha)
 ·rw[Array.toList_push,List.map_append,List.nodup_append]
  refine⟨h.borns,by simp,fun a ha b hb=>?_⟩
  simp at hb;subst hb
  obtain⟨e,he,rfl⟩:=List.mem_map.1 ha
  have:=h.old e he;omega
 ·intro e hm
  simp at hm
  rcases hm with hm | rfl
  ·have:=h.old e (by simpa using hm);omega
  ·show clock<clock+1;omega
theorem keys_set {k:κ} {v:Value} :(m.map (fun p=>if p.1=k then(k,v)else p)).map (·.1)=m.map (·.1):=by
 rw[List.map_map]
 apply List.map_congr_left
 intro p _
 simp only[Function.comp]
 split
 ·rename_i e;exact e.symm
 ·rfl
theorem MRel.setOld (h:MRel emb d es clock m) {k:κ} {v:Value} {j:Nat} {e:MapEntry} (hj:es.toList[j]? =some e) (hk:e.key=emb k):MRel emb d (es.modify j fun e=> { e with key:=emb k,val:=v }) clock (setA m k v):=by
 obtain⟨p,hp,h1,h2⟩:=h.at hj
 have hpk:p.1=k:=he.inj (h1.symm.trans hk)
 have hmem:k∈m.map (·.1):=List.mem_map.2 ⟨p,List.mem_of_getElem? hp,hpk⟩
 rw[setA,if_pos hmem]
 have hjl:j<es.size:=by simpa using(List.getElem?_eq_some_iff.1 hj).1
 refine⟨?_,by rw[keys_set];exact h.keys,?_,?_⟩
 ·apply List.ext_getElem?
  intro i
  simp only[List.getElem?_map,Array.getElem?_toList,Array.getElem?_modify]
  by_cases hij:j=i
  ·subst hij
   have:es[j]? =some e:=by simpa using hj
   simp only[if_true,this,hp,Option.map_some,if_pos hpk]
  ·rw [if_neg hij]
   have h3:=congrArg (fun l=>l[i]?) h.ents
   simp only[List.getElem?_map,Array.getElem?_toList]at h3
   rw[h3]
   cases hq:m[i]? with
   | none=>rfl
   | some q=>
    have hne:q.1≠k:=fun e'=>by
     have hn:=h.keys
     have h4:(m.map (·.1))[i]? =some k:=by rw[List.getElem?_map,hq];simp[e']
     have h5:(m.map (·.1))[j]? =some k:=by rw[List.getElem?_map,hp];simp[hpk]
     have hi1:=(List.getElem?_eq_some_iff.1 h4).1
     have:=(List.getElem?_inj hi1 hn).1 (h4.trans h5.symm)
     exact hij this.symm
    simp only[Option.map_some,if_neg hne]
 ·have:(es.modify j fun e=> { e with key:=emb k,val:=v }).toList.map (·.born)=es.toList.map (·.born):=by
   apply List.ext_getElem?
   intro i
   simp only[List.getElem?_map,Array.getElem?_toList,Array.getElem?_modify]
   by_cases hij:j=i
   ·subst hij;simp
    cases es[j]? <;>rfl
   ·rw[if_neg hij]
  rw[this];exact h.borns
 ·intro x hx
  obtain⟨i,hi⟩:=List.getElem?_of_mem hx
  rw[Array.getElem?_toList,Array.getElem?_modify]at hi
  by_cases hij:j=i
  ·subst hij
   rw[if_pos rfl]at hi
   have hj':es[j]? =some e:=by simpa using hj
   rw[hj']at hi
   simp at hi
   subst hi
   exact h.old e (List.mem_of_getElem? hj)
  ·rw[if_neg hij]at hi
   exact h.old x (by rw[Array.mem_toList_iff];exact Array.mem_of_getElem? hi)
theorem MRel.delOld (h:MRel emb d es clock m) {k:κ} {j:Nat} {e:MapEntry} (hj:es.toList[j]? =some e) (hk:e.key=emb k):MRel emb d (es.eraseIdxIfInBounds j) clock (delA m k):=by
 obtain⟨p,hp,h1,h2⟩:=h.at hj
 have hpk:p.1=k:=he.inj (h1.symm.trans hk)
 have hjl:j<es.size:=by simpa using(List.getElem?_eq_some_iff.1 hj).1
 have hto:(es.eraseIdxIfInBounds j).toList=es.toList.eraseIdx j:=by simp
 have hgo:∀(m:List (κ×Value)) (j:Nat),m[j]? =some p→(m.map (·.1)).Nodup→m.filter (fun p=>decide (p.1≠k))=m.eraseIdx j:=by
  intro m
  induction m with
  | nil=>intro j hp _;simp at hp
  | cons q m ih=>
   intro j hp hn
   simp only[List.map_cons,List.nodup_cons]at hn
   cases j with
   | zero=>
    simp at hp;subst hp
    rw[List.filter_cons_of_neg (by simp[hpk]),List.eraseIdx_cons_zero,List.filter_eq_self]
    intro x hx
    have:x.1≠k:=fun e'=>hn.1 (by rw[hpk,←e'];exact List.mem_map_of_mem hx)
    simpa using this
   | succ j=>
    simp only[List.getElem?_cons_succ]at hp
    have hne:q.1≠k:=fun e'=>hn.1 (by rw[e',←hpk];exact List.mem_map_of_mem (List.mem_of_getElem? hp))
    rw[List.filter_cons_of_pos (by simpa using hne),List.eraseIdx_cons_succ,ih j hp hn.2]
 have hdel:delA m k=m.eraseIdx j:=hgo m j hp h.keys
 refine⟨?_,?_,?_,?_⟩
 ·rw[hto,hdel,map_eraseIdx',h.ents,map_eraseIdx']
 ·rw[hdel,map_eraseIdx'];exact h.keys.sublist (List.eraseIdx_sublist ..)
 ·rw[hto,map_eraseIdx'];exact h.borns.sublist (List.eraseIdx_sublist ..)
 ·intro x hx
  rw[hto]at hx
  exact h.old x ((List.eraseIdx_sublist ..).subset hx)
theorem delA_absent {k:κ} (h:k∉m.map (·.1)):delA m k=m:=by
 unfold delA
 rw[List.filter_eq_self]
 intro p hp
 have:p.1≠k:=fun e=>h (List.mem_map.2 ⟨p,hp,e⟩)
 simpa using this
end
end
section
open Go Go.MapKept Go.Proofs
def isCells:Obj→Bool
 | .cells .. =>true
 | _=>false
section
variable {P:Program} {Q:Exit→Act→World→Prop} {cx:Cx} {L:List (Nat×Value)} {G:Gh} {H:List Own} {K:List (Nat×Value)→Gh→List Own→Prop}
 {d:Option Tmp} {ty:TypeId} {pos:String} {af:Array Edge} {gu:Option (Nat×Bool)}
theorem St.swapObj {a:Act} {w:World} (st:St cx L G H a w) {j b:Nat} {o o':Obj} (hj:At H j (.blk b o)) (h1:isCells o=false) (h2:isCells o'=false):
  Sat G (H.set j (.blk b o')) { w with heap:=w.heap.setIfInBounds b o' } ∧Stp (covs H) G w G (H.set j (.blk b o')) { w with heap:=w.heap.setIfInBounds b o' } :=by
 have hb:w.heap[b]? =some o:=st.sat.hold _ (List.mem_of_getElem? hj.get)
 have hs:=heap_set (o':=o') hb
 exact⟨st.sat.upd hj.get hs.1 hs.2,Stp.upd hj.get hb hs.1 hs.2 (by simp) ⟨rfl,rfl⟩ fun c T fr e=>by subst e;cases h1⟩
theorem OW.makeMap {t:TypeId} (hd:dOk d cx.N=true) (k:∀b,K (putL d (.map (some b)) L) G (.blk b (.map #[] 0)::H)):OW P Q ⟨d, .makeMap t none,ty,pos,af,gu⟩ cx L G H K:=
 OW.gives hd fun a w st=>⟨.map (some w.heap.size),w.alloc (.map #[] 0),G,_, .inl (by simp[execOp,Instr.makeMap,newObj,Sem.run]),st.sat.alloc _,Stp.alloc _,k _⟩
section
variable {κ:Type} [DecidableEq κ] {emb:κ→Value} {ds:TypeDesc} [he:Emb emb ds] {t kt et:TypeId}
theorem run_mapSet {w:World} {b:Nat} {es:Array MapEntry} {clock:Nat} {l:List (κ×Value)} (hu:P.underlying t=some (.map kt et)) (hk:P.underlying kt=some ds) (hb:w.heap[b]? =some (.map es clock)) (hr:MRel emb ds es clock l) (key:κ) (v:Value):
  ∃es' clock',MRel emb ds es' clock' (setA l key v)∧(Instr.mapUpdate t (.map (some b)) (emb key) v).run P w= .ok () { w with heap:=w.heap.setIfInBounds b (.map es' clock') } :=by
 have hkey:=he.key key
 rcases findNow_spec hkey es.toList 0 hr.isKey with⟨h1,h2⟩ | ⟨j,e,h1,h2,h3⟩
 ·exact⟨_,_,hr.setNew (v:=v) (hr.absent h2),by simp[Instr.mapUpdate,run_underlying hu,Go.MapKept.run_getObj_map hb,run_checkKey hk hkey,run_findKey hk h1,run_setObj_map _ hb,Result.andThen]⟩
 ·have hj:es[j]? =some e:=by simpa using h2
  exact⟨_,_,hr.setOld (v:=v) h2 h3,by simp[Instr.mapUpdate,run_underlying hu,Go.MapKept.run_getObj_map hb,run_checkKey hk hkey,run_findKey hk h1,hj,h3,run_keyThatStays hkey,run_setObj_map _ hb,Result.andThen]⟩
theorem OW.mapSet {m x y:Operand} {b j:Nat} {key:κ} {v:Value} {es:Array MapEntry} {clock:Nat} {l:List (κ×Value)} (hm:ev L m=some (.map (some b))) (hx:ev L x=some (emb key)) (hy:ev L y=some v) [hu:Und P t (.map kt et)] [hk:Und P kt ds]
  (hj:At H j (.blk b (.map es clock))) (hr:MRel emb ds es clock l) (hd:dOk d cx.N=true) (k:∀es' clock',MRel emb ds es' clock' (setA l key v)→K (putL d undef L) G (H.set j (.blk b (.map es' clock')))):
  OW P Q ⟨d, .mapUpdate t m x y,ty,pos,af,gu⟩ cx L G H K:=
 OW.gives hd fun a w st=>by
  obtain⟨es',clock',h1,h2⟩:=run_mapSet (v:=v) hu.h hk.h (st.sat.hold _ (List.mem_of_getElem? hj.get)) hr key
  have hs:=st.swapObj (o':= .map es' clock') hj rfl rfl
  exact⟨undef,_,G,_, .inr ⟨rfl,by simp[execOp,st.eval hm,st.eval hx,st.eval hy,h2]⟩,hs.1,hs.2,k _ _ h1⟩
theorem OW.insert {m x y:Operand} {b j:Nat} {key:κ} {v:Value} {es:Array MapEntry} {clock:Nat} {l:List (κ×Value)} (hm:ev L m=some (.map (some b))) (hx:ev L x=some (emb key)) (hy:ev L y=some v) [hu:Und P t (.map kt et)] [hk:Und P kt ds]
  (hj:At H j (.blk b (.map es clock))) (hr:MRel emb ds es clock l) (hd:dOk d cx.N=true) (k:∀es' clock',MRel emb ds es' clock' (setA l key v)→K (putL d undef L) G (H.set j (.blk b (.map es' clock')))):
  OW P Q ⟨d, .insert t m x y,ty,pos,af,gu⟩ cx L G H K:=
 OW.gives hd fun a w st=>by
  obtain⟨es',clock',h1,h2⟩:=run_mapSet (v:=v) hu.h hk.h (st.sat.hold _ (List.mem_of_getElem? hj.get)) hr key
  have hs:=st.swapObj (o':= .map es' clock') hj rfl rfl
  exact⟨undef,_,G,_, .inr ⟨rfl,by simp[execOp,st.eval hm,st.eval hx,st.eval hy,h2]⟩,hs.1,hs.2,k _ _ h1⟩
theorem Gv.lookup {m x:Operand} {b j n by_:Nat} {z:Value} {key:κ} {v:Value} {es:Array MapEntry} {clock:Nat} {l:List (κ×Value)} (hm:ev L m=some (.map (some b))) (hx:ev L x=some (emb key)) [hu:Und P t (.map kt et)] [hk:Und P kt ds] [hi:Inf P et n by_ z]
  (hj:At H j (.blk b (.map es clock))) (hr:MRel emb ds es clock l) (hv:(getA l key).getD z=v):Gv P L G H ⟨d, .lookup t m x false,ty,pos,af,gu⟩ v:=fun a w sk s=>by
 have hb:w.heap[b]? =some (.map es clock):=s.hold _ (List.mem_of_getElem? hj.get)
 have hkey:=he.key key
 subst hv
 rcases findNow_spec hkey es.toList 0 hr.isKey with⟨h1,h2⟩ | ⟨i,e,h1,h2,h3⟩
 ·rw[getA_absent (hr.absent h2)]
  simp[execOp,sk.eval hm,sk.eval hx,Instr.lookup,run_underlying hu.h,Go.MapKept.run_getObj_map hb,run_checkKey hk.h hkey,run_findKey hk.h h1,Result.andThen,hi.zeroValue]
 ·obtain⟨p,hp,hp1,hp2⟩:=hr.at h2
  have hpk:p.1=key:=he.inj (hp1.symm.trans h3)
  have hg:=getA_at hr.keys hp
  rw[hpk]at hg
  rw[hg]
  simp[execOp,sk.eval hm,sk.eval hx,Instr.lookup,run_underlying hu.h,Go.MapKept.run_getObj_map hb,run_checkKey hk.h hkey,run_findKey hk.h h1,Result.andThen,hp2]
theorem Gv.lenMap {x:Operand} {b j:Nat} {es:Array MapEntry} {clock:Nat} {l:List (κ×Value)} (hx:ev L x=some (.map (some b))) [hu:Und P t (.map kt et)]
  (hj:At H j (.blk b (.map es clock))) (hr:MRel emb ds es clock l):Gv P L G H ⟨d, .call { callee:= .builtin .len,args:= #[x],argTypes:= #[t] },ty,pos,af,gu⟩ (.int .i64 l.length):=fun a w sk s=>by
 have hb:w.heap[b]? =some (.map es clock):=s.hold _ (List.mem_of_getElem? hj.get)
 have:=hr.len
 simp[execOp,resolve,invoke,builtin,sk.eval hx,Builtin.len_,run_underlying hu.h,Go.MapKept.run_getObj_map hb,goInt,Result.andThen,this]
theorem OW.mapDel {m x:Operand} {b j:Nat} {key:κ} {es:Array MapEntry} {clock:Nat} {l:List (κ×Value)} (hm:ev L m=some (.map (some b))) (hx:ev L x=some (emb key)) [hu:Und P t (.map kt et)] [hk:Und P kt ds]
  (hj:At H j (.blk b (.map es clock))) (hr:MRel emb ds es clock l) (hd:dOk d cx.N=true) (k:∀es' clock',MRel emb ds es' clock' (delA l key)→K (putL d (.tuple #[]) L) G (H.set j (.blk b (.map es' clock')))) {t2:TypeId} :
  OW P Q ⟨d, .call { callee:= .builtin .delete,args:= #[m,x],argTypes:= #[t,t2] },ty,pos,af,gu⟩ cx L G H K:=
 OW.gives hd fun a w st=>by
  have hb:w.heap[b]? =some (.map es clock):=st.sat.hold _ (List.mem_of_getElem? hj.get)
  have hkey:=he.key key
  rcases findNow_spec hkey es.toList 0 hr.isKey with⟨h1,h2⟩ | ⟨i,e,h1,h2,h3⟩
  ·have hs:=st.swapObj (o':= .map es clock) hj rfl rfl
   exact⟨.tuple #[],_,G,_, .inl (by simp[execOp,resolve,invoke,builtin,st.eval hm,st.eval hx,Builtin.delete_,run_underlying hu.h,Go.MapKept.run_getObj_map hb,run_checkKey hk.h hkey,run_findKey hk.h h1,run_setObj_map _ hb,Result.andThen]),hs.1,hs.2,k _ _ (by rw[delA_absent (hr.absent h2)];exact hr)⟩
  ·have hs:=st.swapObj (o':= .map (es.eraseIdxIfInBounds i) clock) hj rfl rfl
   exact⟨.tuple #[],_,G,_, .inl (by simp[execOp,resolve,invoke,builtin,st.eval hm,st.eval hx,Builtin.delete_,run_underlying hu.h,Go.MapKept.run_getObj_map hb,run_checkKey hk.h hkey,run_findKey hk.h h1,run_setObj_map _ hb,Result.andThen]),hs.1,hs.2,k _ _ (hr.delOld h2 h3)⟩
def IRel (emb:κ→Value) (es:Array MapEntry) (seen:Array Nat) (rem:List (κ×Value)):Prop:=∀p:κ×Value,p∈rem↔∃e∈(leftOf es seen).toList,e.key=emb p.1∧e.val=p.2
theorem OW.rangeMap {x:Operand} {b j:Nat} {es:Array MapEntry} {clock:Nat} {l:List (κ×Value)} (hx:ev L x=some (.map (some b))) [hu:Und P t (.map kt et)] (hj:At H j (.blk b (.map es clock))) (hr:MRel emb ds es clock l) (hd:dOk d cx.N=true)
  (k:∀it,IRel emb es #[] l→K (putL d (.pointer (some ⟨it,0,none⟩)) L) G (.blk it (.mapIter (some b) clock #[] clock)::H)):OW P Q ⟨d, .range t x,ty,pos,af,gu⟩ cx L G H K:=
 OW.gives hd fun a w st=>⟨.pointer (some ⟨w.heap.size,0,none⟩),w.alloc (.mapIter (some b) clock #[] clock),G,_,
  .inl (by simp[execOp,st.eval hx,run_range_map w t kt et b es clock hu.h (st.sat.hold _ (List.mem_of_getElem? hj.get)),Result.andThen]),st.sat.alloc _,Stp.alloc _,k _ fun p=>by
   have e1:(leftOf es #[]).toList=es.toList:=by simp[leftOf]
   rw[e1]
   constructor
   ·intro hp
    have h1:(emb p.1,p.2)∈l.map (fun p=>(emb p.1,p.2)):=List.mem_map.2 ⟨p,hp,rfl⟩
    rw[←hr.ents]at h1
    obtain⟨e,hm,hx⟩:=List.mem_map.1 h1
    exact⟨e,hm,congrArg Prod.fst hx,congrArg Prod.snd hx⟩
   ·rintro ⟨e,hm,h1,h2⟩
    obtain⟨i,hi⟩:=List.getElem?_of_mem hm
    obtain⟨q,hq,h3,h4⟩:=hr.at hi
    have h5:q.1=p.1:=he.inj (h3.symm.trans h1)
    have:q=p:=Prod.ext h5 (h4.symm.trans h2)
    rw[←this];exact List.mem_of_getElem? hq⟩
theorem born_inj {es:Array MapEntry} (hn:(es.toList.map (·.born)).Nodup) {e e':MapEntry} (h:e∈es.toList) (h':e'∈es.toList) (hb:e.born=e'.born):e=e':=by
 obtain⟨i,hi⟩:=List.getElem?_of_mem h
 obtain⟨j,hj⟩:=List.getElem?_of_mem h'
 have h1:(es.toList.map (·.born))[i]? =some e.born:=by rw[List.getElem?_map,hi];rfl
 have h2:(es.toList.map (·.born))[j]? =some e.born:=by rw[List.getElem?_map,hj,hb];rfl
 have:=(List.getElem?_inj (List.getElem?_eq_some_iff.1 h1).1 hn).1 (h1.trans h2.symm)
 subst this
 rw[hi]at hj;exact Option.some.inj hj
theorem OW.next {x:Operand} {r b i j:Nat} {es:Array MapEntry} {clock:Nat} {seen:Array Nat} {l rem:List (κ×Value)} (hx:ev L x=some (.pointer (some ⟨r,0,none⟩))) (hi:At H i (.blk r (.mapIter (some b) clock seen clock))) (hj:At H j (.blk b (.map es clock))) (hr:MRel emb ds es clock l) (hrem:IRel emb es seen rem) (hd:dOk d cx.N=true)
  (k0:rem=[]→K (putL d (.tuple #[.bool false]) L) G H)
  (k1:∀p∈rem,∀e∈es.toList,e.key=emb p.1→e.val=p.2→IRel emb es (seen.push e.born) (delA rem p.1)→K (putL d (.tuple #[.bool true,emb p.1,p.2]) L) G (H.set i (.blk r (.mapIter (some b) clock (seen.push e.born) clock)))):
  OW P Q ⟨d, .next x false,ty,pos,af,gu⟩ cx L G H K:=
 OW.gives hd fun a w st=>by
  have hb:w.heap[b]? =some (.map es clock):=st.sat.hold _ (List.mem_of_getElem? hj.get)
  have hrr:w.heap[r]? =some (.mapIter (some b) clock seen clock):=st.sat.hold _ (List.mem_of_getElem? hi.get)
  rcases run_next_at (P:=P) w ty r b clock clock seen es clock hrr hb hr.old (Nat.le_refl _)with⟨h0,hrun⟩ | ⟨e,hm,w1,hw1,hrun⟩
  ·refine⟨.tuple #[.bool false],w,G,H, .inl (by simp[execOp,st.eval hx,hrun,Result.andThen]),st.sat,Stp.drew rfl,k0 ?_⟩
   refine List.eq_nil_iff_forall_not_mem.2 fun p hp=>?_
   obtain⟨e,hm,_⟩:=(hrem p).1 hp
   have:(leftOf es seen).toList=[]:=List.eq_nil_of_length_eq_zero (by simpa using h0)
   rw[this]at hm;cases hm
  ·have hmem:e∈es.toList:=by simp[leftOf]at hm⊢;exact hm.1
   obtain⟨n,hn⟩:=List.getElem?_of_mem hmem
   obtain⟨p,hp,h1,h2⟩:=hr.at hn
   have hprem:p∈rem:=(hrem p).2 ⟨e,hm,h1,h2⟩
   have hs:=st.swapObj (o':= .mapIter (some b) clock (seen.push e.born) clock) hi rfl rfl
   have hirel:IRel emb es (seen.push e.born) (delA rem p.1):=fun q=>by
    unfold delA
    rw[List.mem_filter,hrem q]
    constructor
    ·rintro ⟨⟨e',hm',h3,h4⟩,hne⟩
     refine⟨e',?_,h3,h4⟩
     simp only[leftOf,Array.toList_filter,List.mem_filter]at hm'⊢
     refine⟨hm'.1,?_⟩
     have hne':e'.born≠e.born:=fun hbn=>by
      have:=born_inj hr.borns hm'.1 hmem hbn
      subst this
      have:q.1=p.1:=he.inj (h3.symm.trans h1)
      simp[this]at hne
     have h5:=hm'.2
     simp at h5⊢
     exact⟨h5,hne'⟩
    ·rintro ⟨e',hm',h3,h4⟩
     simp only[leftOf,Array.toList_filter,List.mem_filter]at hm'
     have h5:=hm'.2
     simp at h5
     refine⟨⟨e',by simp only[leftOf,Array.toList_filter,List.mem_filter];exact⟨hm'.1,by simpa using h5.1⟩,h3,h4⟩,?_⟩
     have hne:q.1≠p.1:=fun hq=>by
      obtain⟨m,hm2⟩:=List.getElem?_of_mem hm'.1
      obtain⟨q',hq',h6,h7⟩:=hr.at hm2
      have e1:q'.1=p.1:=(he.inj (h6.symm.trans h3)).trans hq
      have hk:=hr.keys
      have e2:(l.map (·.1))[m]? =some p.1:=by rw[List.getElem?_map,hq'];simp[e1]
      have e3:(l.map (·.1))[n]? =some p.1:=by rw[List.getElem?_map,hp];rfl
      have:=(List.getElem?_inj (List.getElem?_eq_some_iff.1 e2).1 hk).1 (e2.trans e3.symm)
      subst this
      rw[hn]at hm2
      have:=Option.some.inj hm2
      exact h5.2 (by rw[←this])
     simpa using hne
   have hK:=k1 p hprem e hmem h1 h2 hirel
   rw[h1,h2]at hrun
   rcases hw1 with rfl | rfl
   ·exact⟨_,_,G,_, .inl (by simp[execOp,st.eval hx,hrun,Result.andThen];rfl),hs.1,hs.2,hK⟩
   ·have hs':=(st.drew (w':=w.drew) rfl).swapObj (o':= .mapIter (some b) clock (seen.push e.born) clock) hi rfl rfl
    refine⟨_,_,G,_, .inl (by simp[execOp,st.eval hx,hrun,Result.andThen];rfl),hs'.1,?_,hK⟩
    exact(Stp.drew (w:=w) (w':=w.drew) rfl).then hs'.2
theorem Gv.entry {x:Operand} {r b i j:Nat} {es:Array MapEntry} {clock:Nat} {seen:Array Nat} {l:List (κ×Value)} {e:MapEntry} {u v:Value} (hx:ev L x=some (.pointer (some ⟨r,0,none⟩))) (hi:At H i (.blk r (.mapIter (some b) clock (seen.push e.born) clock))) (hj:At H j (.blk b (.map es clock))) (hr:MRel emb ds es clock l) (hm:e∈es.toList) (h1:e.key=u) (h2:e.val=v):
  Gv P L G H ⟨d, .entry x,ty,pos,af,gu⟩ (.tuple #[u,v]):=fun a w sk s=>by
 have hb:w.heap[b]? =some (.map es clock):=s.hold _ (List.mem_of_getElem? hj.get)
 have hrr:w.heap[r]? =some (.mapIter (some b) clock (seen.push e.born) clock):=s.hold _ (List.mem_of_getElem? hi.get)
 subst h1 h2
 simp[execOp,sk.eval hx,run_entry_at w r b clock seen es clock e hrr hb hm hr.borns,Result.andThen]
end
theorem Gp.minI {x y:Operand} {ts:Array TypeId} {m n r:Int} (hx:ev L x=some (.int .i64 m)) (hy:ev L y=some (.int .i64 n)) (h:(if n<m then n else m)=r):Gp P L ⟨d, .call { callee:= .builtin .min,args:= #[x,y],argTypes:=ts },ty,pos,af,gu⟩ (.int .i64 r):=
 fun a st w=>by subst h;simp[execOp,resolve,invoke,builtin,st.eval hx,st.eval hy,Builtin.min_,Builtin.min2]
theorem Gp.buildArr {t n by_ m e en eb:Nat} {z ze:Value} {ps:Array (Nat×Operand)} {vs:List (Nat×Value)} {cells:List Value} (hu:P.underlying t=some (.array m e)) (hp:evP L ps=some vs) [hi:Inf P t n by_ z] [hi2:Inf P e en eb ze]
  (hf':fillS (fun i=>some (i*en,en)) z.cells.toList vs=some cells):Gp P L ⟨d, .build t ps,ty,pos,af,gu⟩ (.agg cells.toArray):=fun a st w=>by
 have he:=Sk.evP st hp
 have hf:=fill_of_fillS _ _ _ _ hf'
 have hrun:∀PS:Array (Nat×Value),PS.toList=vs→(Instr.build t PS).run P w= .ok (.agg cells.toArray) w:=by
  intro PS he
  simp[Instr.build,hi.zeroValue,run_underlying hu,he,hi2.sizeOf,hf]
 simp only[execOp,Sem.run_bind,hrun _ he,Result.andThen_ok]
 rfl
theorem Gp.indexArr {t m e en eb b o:Nat} {ze:Value} {x y:Operand} {k:IntKind} {i:Int} (hu:P.underlying t=some (.array m e)) (hx:ev L x=some (.pointer (some ⟨b,o,none⟩))) (hy:ev L y=some (.int k i)) [hi2:Inf P e en eb ze] (h0:0≤i) (h1:i<m):
  Gp P L ⟨d, .indexAddr t x y,ty,pos,af,gu⟩ (.pointer (some ⟨b,o+i.toNat*en,none⟩)):=fun a st w=>by
 have hadd:(⟨b,o,none⟩:Addr).add (i.toNat*en)=⟨b,o+i.toNat*en,none⟩:=by unfold Addr.add;split<;>simp_all
 simp[execOp,st.eval hx,st.eval hy,Instr.indexAt,Instr.sureAddr,run_underlying hu,hi2.sizeOf,asIntOf,h0,h1,hadd]
end
end
end Go.Proofs.YtcnlkfocbbkdhaaGreatDoor.Gb
