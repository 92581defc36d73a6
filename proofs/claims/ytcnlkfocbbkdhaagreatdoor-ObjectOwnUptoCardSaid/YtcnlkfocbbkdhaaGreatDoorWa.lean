/- A small logic over the kit's rules: which cells are known and stay (G), which memory is ours (H), which slots are known (L). The rules of the small logic for single operations: what an operation leaves behind. The rules of the small logic, one for each kind of operation. Numbers, texts, tests; data that stay; calls; the beginning and the end of a function. Statements whose order is open: an operation may be taken first if nothing that can come before it writes to memory. Slices: cut, made, appended to; what is ours becomes what stays. More rules: lists that are made and copied into, memory that comes to stay, calls that are put off, what is behind an interface. -/
import Derived.Tactics
import Derived.Laws.Cells
import Derived.Laws.World
import Derived.Laws.Rows
import Derived.Laws.Entries
import Derived.OrdersHeld
import Derived.WalkKit
import Derived.Laws.Append
import Derived.Laws.AppendOwn
import Derived.Laws.Tables
import Derived.Laws.Strings
import Derived.Laws.Strings2
import Derived.Laws.Concat
import Derived.Laws.StructEq
import Derived.Lib.SliceRun
import Derived.Laws.MakeOwn
import Derived.Recover
import Derived.WideLaws
import Derived.Laws.CopyRow
import Derived.Laws.Pointers
set_option linter.unusedVariables false
set_option linter.unusedSimpArgs false
set_option linter.unusedSectionVars false
namespace Go.Proofs.YtcnlkfocbbkdhaaGreatDoor.Gb
open Go Go.Proofs
section
open Go
theorem kr {p:Prop} (h:p:=by kernel_rfl):p:=h
structure Bx (p:Prop):Prop where
 out:p
abbrev Gh:=Nat→Nat→Option Value
def Gh.le (G G':Gh):Prop:=∀b o v,G b o=some v→G' b o=some v
theorem Gh.le_refl (G:Gh):G.le G:=fun _ _ _ h=>h
theorem Gh.le_trans {G G' G'':Gh} (h:G.le G') (h':G'.le G''):G.le G'':=fun b o v e=>h' b o v (h b o v e)
inductive Own where
 | blk (b:Nat) (o:Obj)
 | spare (b lo hi:Nat)
def Own.cov:Own→Nat→Nat→Prop
 | .blk b _,b',_=>b'=b
 | .spare b lo hi,b',o=>b'=b∧lo≤o∧o<hi
def Own.holds (w:World):Own→Prop
 | .blk b o=>w.heap[b]? =some o
 | .spare b lo hi=>lo<hi→∃c T,w.heap[b]? =some (.cells c T (0,0))∧hi≤c.size
def Own.apart (x y:Own):Prop:=∀b o,x.cov b o→¬y.cov b o
theorem Own.apart_symm {x y:Own} (h:x.apart y):y.apart x:=fun b o hy hx=>h b o hx hy
structure Sat (G:Gh) (H:List Own) (w:World):Prop where
 agr:∀b o v,G b o=some v→w.cell? ⟨b,o,none⟩=some v
 hold:∀x∈H,x.holds w
 apart:H.Pairwise Own.apart
 ghost:∀x∈H,∀b o,x.cov b o→G b o=none
def covs (H:List Own) (b o:Nat):Prop:=∃x∈H,x.cov b o
def KeepB (S:Nat→Nat→Prop) (b:Nat) (w0 w:World):Prop:=
 ((∀o,¬S b o)→w.heap[b]? =w0.heap[b]?)∧
 ∀c T fr,w0.heap[b]? =some (.cells c T fr)→∃c',w.heap[b]? =some (.cells c' T fr)∧c'.size=c.size∧∀o,¬S b o→c'[o]? =c[o]?
theorem KeepB.refl (S:Nat→Nat→Prop) (b:Nat) (w:World):KeepB S b w w:=
 ⟨fun _=>rfl,fun c _ _ h=>⟨c,h,rfl,fun _ _=>rfl⟩⟩
theorem KeepB.trans {S S':Nat→Nat→Prop} {b:Nat} {w0 w1 w2:World} (h1:KeepB S b w0 w1) (h2:KeepB S' b w1 w2) (hs:∀o,S' b o→S b o):KeepB S b w0 w2:=by
 refine⟨fun h=>?_,fun c T fr h=>?_⟩
 ·rw[h2.1 fun o ho=>h o (hs o ho),h1.1 h]
 ·obtain⟨c1,e1,z1,k1⟩:=h1.2 c T fr h
  obtain⟨c2,e2,z2,k2⟩:=h2.2 c1 T fr e1
  exact⟨c2,e2,z2.trans z1,fun o ho=>(k2 o fun h'=>ho (hs o h')).trans (k1 o ho)⟩
theorem KeepB.mono {S S':Nat→Nat→Prop} {b:Nat} {w0 w1:World} (h1:KeepB S b w0 w1) (hs:∀o,S b o→S' b o):KeepB S' b w0 w1:=
 ⟨fun h=>h1.1 fun o ho=>h o (hs o ho),fun c T fr h=>let ⟨c',e,z,k⟩:=h1.2 c T fr h;⟨c',e,z,fun o ho=>k o fun h'=>ho (hs o h')⟩⟩
def WEq (w0 w:World):Prop:=w.os=w0.os∧w.output=w0.output
theorem WEq.refl (w:World):WEq w w:=⟨rfl,rfl⟩
theorem WEq.trans {w0 w1 w2:World} (h:WEq w0 w1) (h':WEq w1 w2):WEq w0 w2:=⟨h'.1.trans h.1,h'.2.trans h.2⟩
structure Stp (S:Nat→Nat→Prop) (G0:Gh) (w0:World) (G:Gh) (H:List Own) (w:World):Prop where
 size:w0.heap.size≤w.heap.size
 keep:∀b,b<w0.heap.size→KeepB S b w0 w
 gle:G0.le G
 gnew:∀b o v,G b o=some v→G0 b o=some v∨S b o∨w0.heap.size≤b
 own:∀x∈H,∀b o,x.cov b o→S b o∨w0.heap.size≤b
 weq:WEq w0 w
theorem Stp.refl (G:Gh) (H:List Own) (w:World):Stp (covs H) G w G H w:=
 ⟨Nat.le_refl _,fun b _=>KeepB.refl _ b w,G.le_refl,fun _ _ _ h=> .inl h,fun x hx _ _ hc=> .inl ⟨x,hx,hc⟩,WEq.refl w⟩
theorem Stp.trans {S S':Nat→Nat→Prop} {G0 G1 G2:Gh} {w0 w1 w2:World} {H1 H2:List Own} (h1:Stp S G0 w0 G1 H1 w1) (h2:Stp S' G1 w1 G2 H2 w2)
  (hs:∀b o,S' b o→S b o∨w0.heap.size≤b):Stp S G0 w0 G2 H2 w2 where
 size:=Nat.le_trans h1.size h2.size
 keep b hb:=(h1.keep b hb).trans (h2.keep b (Nat.lt_of_lt_of_le hb h1.size)) fun o ho=>(hs b o ho).resolve_right (by omega)
 gle:=Gh.le_trans h1.gle h2.gle
 gnew b o v h:=by
  rcases h2.gnew b o v h with h | h | h
  ·exact h1.gnew b o v h
  ·rcases hs b o h with h | h
   ·exact .inr (.inl h)
   ·exact .inr (.inr h)
  ·exact .inr (.inr (Nat.le_trans h1.size h))
 own x hx b o hc:=by
  rcases h2.own x hx b o hc with h | h
  ·rcases hs b o h with h | h
   ·exact .inl h
   ·exact .inr h
  ·exact .inr (Nat.le_trans h1.size h)
 weq:=h1.weq.trans h2.weq
def lk:List (Nat×Value)→Nat→Option Value
 | [],_=>none
 | (k,v)::r,t=>bif Nat.beq k t then some v else lk r t
def ev (L:List (Nat×Value)):Operand→Option Value
 | .tmp t=>lk L t
 | .const v=>some v
 | .global g=>some (.pointer (some ⟨g,0,none⟩))
 | .func f=>some (.func (.func f) #[] #[])
def putL (d:Option Tmp) (v:Value) (L:List (Nat×Value)):List (Nat×Value):=
 match d with
 | some d=>(d,v)::L
 | none=>L
def exL:List (Nat×Array Value):=[(3, #[.int .u64 1, .int .u64 10, .int .u64 100, .int .u64 1000, .int .u64 10000, .int .u64 100000, .int .u64 1000000, .int .u64 10000000, .int .u64 100000000, .int .u64 1000000000, .int .u64 10000000000, .int .u64 100000000000, .int .u64 1000000000000, .int .u64 10000000000000, .int .u64 100000000000000, .int .u64 1000000000000000, .int .u64 10000000000000000, .int .u64 100000000000000000, .int .u64 1000000000000000000, .int .u64 10000000000000000000])]
def Ex (S:Nat→Nat→Prop) (w:World):Prop:=∀p∈exL,(∃T fr,w.heap[p.1]? =some (.cells p.2 T fr))∧∀o,¬S p.1 o
theorem Ex.then {S:Nat→Nat→Prop} {G0 G:Gh} {w0 w:World} {H Hf:List Own} (h:Ex S w0) (hs:Stp S G0 w0 G H w) (hsub:∀x∈Hf,x∈H):Ex (covs Hf) w:=fun p hp=>by
 obtain⟨⟨T,fr,hh⟩,hn⟩:=h p hp
 have hlt:p.1<w0.heap.size:=(Array.getElem?_eq_some_iff.1 hh).1
 refine⟨⟨T,fr,((hs.keep p.1 hlt).1 hn).trans hh⟩,fun o ⟨x,hx,hc⟩=>?_⟩
 rcases hs.own x (hsub x hx) p.1 o hc with h | h
 ·exact hn o h
 ·omega
structure W0 (H:List Own) where
 w:World
 ex:Ex (covs H) w
structure Cx where
 w0:World
 G0:Gh
 S:Nat→Nat→Prop
 N:Nat
 D:List Deferred
 ex:Ex S w0
structure St (cx:Cx) (L:List (Nat×Value)) (G:Gh) (H:List Own) (a:Act) (w:World):Prop where
 size:a.tmps.size=cx.N
 defs:a.defers=cx.D
 slot:∀t v,lk L t=some v→a.tmps[t]? =some v
 sat:Sat G H w
 stp:Stp cx.S cx.G0 cx.w0 G H w
theorem St.eval {cx:Cx} {L:List (Nat×Value)} {G:Gh} {H:List Own} {a:Act} {w:World} (h:St cx L G H a w) {x:Operand} {v:Value} (hx:ev L x=some v):a.eval x=v:=by
 cases x with
 | tmp t=>simp[Act.eval,Array.getD_eq_getD_getElem?,h.slot t v hx]
 | const u=>exact Option.some.inj hx
 | global g=>exact Option.some.inj hx
 | func f=>exact Option.some.inj hx
def dOk (d:Option Tmp) (n:Nat):Bool:=match d with | some d=>Nat.blt d n | none=>true
theorem slot_put {a:Act} {N:Nat} {L:List (Nat×Value)} (hs:a.tmps.size=N) (h:∀t v,lk L t=some v→a.tmps[t]? =some v) (d:Option Tmp) (u:Value) (hd:dOk d N=true):
  ∀t v,lk (putL d u L) t=some v→(a.put d u).tmps[t]? =some v:=by
 cases d with
 | none=>exact h
 | some d=>
  intro t v ht
  have hdn:d<a.tmps.size:=by rw[hs];exact Nat.le_of_ble_eq_true hd
  simp only[putL,lk]at ht
  simp only[Act.put]
  by_cases e:d=t
  ·subst e
   simp only[Nat.beq_refl,cond_true,Option.some.injEq]at ht
   subst ht
   simp[hdn]
  ·have hb:Nat.beq d t=false:=by cases hbb:Nat.beq d t with | false=>rfl | true=>exact absurd (Nat.eq_of_beq_eq_true hbb) e
   rw[hb]at ht
   rw[Array.getElem?_setIfInBounds_ne e]
   exact h t v ht
theorem size_put (a:Act) (d:Option Tmp) (u:Value):(a.put d u).tmps.size=a.tmps.size:=by cases d<;>simp[Act.put]
theorem defers_put (a:Act) (d:Option Tmp) (u:Value):(a.put d u).defers=a.defers:=by cases d<;>rfl
theorem St.put {cx:Cx} {L:List (Nat×Value)} {G G':Gh} {H H':List Own} {a:Act} {w w':World} (h:St cx L G H a w) (d:Option Tmp) (u:Value) (hd:dOk d cx.N=true)
  (hs:Sat G' H' w') (hp:Stp cx.S cx.G0 cx.w0 G' H' w'):St cx (putL d u L) G' H' (a.put d u) w':=
 ⟨(size_put a d u).trans h.size,(defers_put a d u).trans h.defs,slot_put h.size h.slot d u hd,hs,hp⟩
theorem St.weaken {cx:Cx} {L L':List (Nat×Value)} {G:Gh} {H H':List Own} {a:Act} {w:World} (h:St cx L G H a w) (hL:∀t v,lk L' t=some v→lk L t=some v) (hH:H'.Sublist H):St cx L' G H' a w:=
 ⟨h.size,h.defs,fun t v ht=>h.slot t v (hL t v ht),
  ⟨h.sat.agr,fun x hx=>h.sat.hold x (hH.subset hx),h.sat.apart.sublist hH,fun x hx=>h.sat.ghost x (hH.subset hx)⟩,
  ⟨h.stp.size,h.stp.keep,h.stp.gle,h.stp.gnew,fun x hx=>h.stp.own x (hH.subset hx),h.stp.weq⟩⟩
theorem Sat.perm {G:Gh} {H H':List Own} {w:World} (h:Sat G H w) (p:H.Perm H'):Sat G H' w:=
 ⟨h.agr,fun x hx=>h.hold x (p.mem_iff.2 hx),(p.pairwise_iff fun h=>Own.apart_symm h).1 h.apart,fun x hx=>h.ghost x (p.mem_iff.2 hx)⟩
theorem Stp.perm {S:Nat→Nat→Prop} {G0:Gh} {w0:World} {G:Gh} {H H':List Own} {w:World} (h:Stp S G0 w0 G H w) (p:H.Perm H'):Stp S G0 w0 G H' w:=
 ⟨h.size,h.keep,h.gle,h.gnew,fun x hx=>h.own x (p.mem_iff.2 hx),h.weq⟩
theorem St.perm {cx:Cx} {L:List (Nat×Value)} {G:Gh} {H H':List Own} {a:Act} {w:World} (h:St cx L G H a w) (p:H.Perm H'):St cx L G H' a w:=
 ⟨h.size,h.defs,h.slot,h.sat.perm p,h.stp.perm p⟩
theorem Sat.sub {G:Gh} {H H':List Own} {w:World} (h:Sat G H w) (hH:H'.Sublist H):Sat G H' w:=
 ⟨h.agr,fun x hx=>h.hold x (hH.subset hx),h.apart.sublist hH,fun x hx=>h.ghost x (hH.subset hx)⟩
def WC (P:Program) (c:Code) (Q:Exit→Act→World→Prop) (cx:Cx) (L:List (Nat×Value)) (G:Gh) (H:List Own):Prop:=∀a w,St cx L G H a w→c.wp P Q a w
def WL (P:Program) (ops:Array Oper) (Q:Exit→Act→World→Prop) (rest:List Oper) (cx:Cx) (L:List (Nat×Value)) (G:Gh) (H:List Own):Prop:=∀a w,St cx L G H a w→wpList P ops Q rest a w
def WK (K:Act→World→Prop) (cx:Cx) (L:List (Nat×Value)) (G:Gh) (H:List Own):Prop:=∀a w,St cx L G H a w→K a w
section
variable {P:Program} {Q:Exit→Act→World→Prop} {cx:Cx} {L:List (Nat×Value)} {G:Gh} {H:List Own} {ops:Array Oper} {rest:List Oper}
theorem WC.seq {x y:Code} (h:WC P x (Exit.then (y.wp P Q) Q) cx L G H):WC P (.seq x y) Q cx L G H:=fun a w st=>wp_seq (h a w st)
theorem WC.seqJ {x y:Code} (J:Act→World→Prop) (h:WC P x (Exit.then J Q) cx L G H) (hy:∀a w,J a w→y.wp P Q a w):WC P (.seq x y) Q cx L G H:=
 fun a w st=>wp_seq (Code.wp_mono (fun e a w q=>by cases e<;>first | exact hy _ _ q | exact q) (h a w st))
theorem WC.skip (h:WK (Q .normal) cx L G H):WC P .skip Q cx L G H:=fun a w st=>wp_skip (h a w st)
theorem WC.ret (h:WK (Q .ret) cx L G H):WC P .ret Q cx L G H:=fun a w st=>wp_ret (h a w st)
theorem WC.exit {id:Nat} (h:WK (Q (.exit id)) cx L G H):WC P (.exit id) Q cx L G H:=fun a w st=>wp_exit (h a w st)
theorem WC.block {id:Nat} {c:Code} (h:WC P c (Exit.inBlock id Q) cx L G H):WC P (.block id c) Q cx L G H:=fun a w st=>wp_block (h a w st)
theorem WC.cond_true {c:Operand} {x y:Code} (hc:ev L c=some (.bool true)) (h:WC P x Q cx L G H):WC P (.cond c x y) Q cx L G H:=
 fun a w st=>wp_cond_true (st.eval hc) (h a w st)
theorem WC.cond_false {c:Operand} {x y:Code} (hc:ev L c=some (.bool false)) (h:WC P y Q cx L G H):WC P (.cond c x y) Q cx L G H:=
 fun a w st=>wp_cond_false (st.eval hc) (h a w st)
theorem WC.cond {c:Operand} {x y:Code} {t:Bool} (hc:ev L c=some (.bool t)) (h1:t=true→WC P x Q cx L G H) (h2:t=false→WC P y Q cx L G H):WC P (.cond c x y) Q cx L G H:=by
 cases t
 ·exact WC.cond_false hc (h2 rfl)
 ·exact WC.cond_true hc (h1 rfl)
theorem WC.region {id:Nat} {l:List Oper} (h:WL P l.toArray Q l cx L G H):WC P (.region id l.toArray false) Q cx L G H:=fun a w st=>wp_region_lit (h a w st)
theorem WL.nil (h:WK (Q .normal) cx L G H):WL P ops Q [] cx L G H:=fun a w st=>wpList_nil (h a w st)
theorem WK.weaken {K:Act→World→Prop} {L':List (Nat×Value)} {H':List Own} (hL:∀t v,lk L' t=some v→lk L t=some v) (hH:H'.Sublist H) (h:WK K cx L' G H'):WK K cx L G H:=
 fun a w st=>h a w (st.weaken hL hH)
theorem wp_loop_fuel {c:Code} {X:Type} (A:Nat→X→Act→World→Prop) {k0:Nat} {x0:X} {a:Act} {w:World} (h₀:A k0 x0 a w)
  (round:∀k x a w,A k x a w→c.wp P (Exit.then (fun a' w'=>∃k' x',k'<k∧A k' x' a' w') Q) a w):(Code.loop c).wp P Q a w:=by
 intro b k cs
 have key:∀n x a w,A n x a w→∃e a' w',Q e a' w'∧Arrives P (lone (b.at a (.code c:: .inLoop c::k)) cs w) b k cs e a' w':=by
  intro n
  induction n using Nat.strongRecOn with
  | _ n ih=>
   intro x a w hA
   obtain⟨e,a₁,w₁,hq,harr⟩:=round n x a w hA b (.inLoop c::k) cs
   cases e with
   | normal=>
    obtain⟨n',x',hlt,hA'⟩:=hq
    obtain⟨e₂,a₂,w₂,hq₂,harr₂⟩:=ih n' hlt x' a₁ w₁ hA'
    exact⟨e₂,a₂,w₂,hq₂, .of_steps (Steps.trans harr (.one step_inLoop)) harr₂⟩
   | exit id=>exact⟨_,a₁,w₁,hq, .pass (x:= .inLoop c) rfl (fun _ _=> .inl (by simp)) harr⟩
   | goto l=>exact⟨_,a₁,w₁,hq, .pass (x:= .inLoop c) rfl (fun _ _=> .inl (by simp)) harr⟩
   | ret=>exact⟨_,a₁,w₁,hq, .pass (x:= .inLoop c) rfl (fun _ _=> .inl (by simp)) harr⟩
   | panic ch=>exact⟨_,a₁,w₁,hq, .pass (x:= .inLoop c) rfl (fun _ _=> .inl (by simp)) harr⟩
   | outgrown=>exact⟨_,a₁,w₁,hq, .pass (x:= .inLoop c) rfl (fun _ _=> .inl (by simp)) harr⟩
 obtain⟨e,a',w',hq,harr⟩:=key _ _ a w h₀
 exact⟨e,a',w',hq, .of_steps (.one step_loop) harr⟩
end
end
section
open Go
theorem mem_set_or {α:Type} :∀(l:List α) (j:Nat) (y x:α),x∈l.set j y→x=y∨x∈l
 | [],_,_,_,h=>by simp at h
 | a::l,0,y,x,h=>by simp at h;rcases h with h | h;exact .inl h;exact .inr (.tail _ h)
 | a::l,j+1,y,x,h=>by
  simp at h
  rcases h with h | h
  ·exact .inr (by simp[h])
  ·rcases mem_set_or l j y x h with h | h
   ·exact .inl h
   ·exact .inr (.tail _ h)
theorem pairwise_set {R:Own→Own→Prop} (hR:∀x y,R x y→R y x):∀(l:List Own) (j:Nat) (x y:Own),l[j]? =some x→(∀z,R x z→R y z)→l.Pairwise R→(l.set j y).Pairwise R
 | [],_,_,_,h,_,_=>by simp at h
 | a::l,0,x,y,h,hxy,hp=>by
  simp only[List.getElem?_cons_zero,Option.some.injEq]at h
  subst h
  rw[List.pairwise_cons]at hp
  simp only[List.set_cons_zero,List.pairwise_cons]
  exact⟨fun z hz=>hxy z (hp.1 z hz),hp.2⟩
 | a::l,j+1,x,y,h,hxy,hp=>by
  simp only[List.getElem?_cons_succ]at h
  rw[List.pairwise_cons]at hp
  simp only[List.set_cons_succ,List.pairwise_cons]
  refine⟨fun z hz=>?_,pairwise_set hR l j x y h hxy hp.2⟩
  rcases mem_set_or l j y z hz with e | hz
  ·subst e
   exact hR _ _ (hxy a (hR _ _ (hp.1 x (List.mem_of_getElem? h))))
  ·exact hp.1 z hz
theorem mem_set_apart {R:Own→Own→Prop} (hR:∀x y,R x y→R y x):∀(l:List Own) (j:Nat) (x y:Own),l[j]? =some x→l.Pairwise R→∀z∈l.set j y,z=y∨(z∈l∧R x z)
 | [],_,_,_,h,_,_,_=>by simp at h
 | a::l,0,x,y,h,hp,z,hz=>by
  simp only[List.getElem?_cons_zero,Option.some.injEq]at h
  subst h
  rw[List.pairwise_cons]at hp
  simp only[List.set_cons_zero,List.mem_cons]at hz
  rcases hz with hz | hz
  ·exact .inl hz
  ·exact .inr ⟨.tail _ hz,hp.1 z hz⟩
 | a::l,j+1,x,y,h,hp,z,hz=>by
  simp only[List.getElem?_cons_succ]at h
  rw[List.pairwise_cons]at hp
  simp only[List.set_cons_succ,List.mem_cons]at hz
  rcases hz with hz | hz
  ·subst hz
   exact .inr ⟨.head _,hR _ _ (hp.1 x (List.mem_of_getElem? h))⟩
  ·rcases mem_set_apart hR l j x y h hp.2 z hz with h' | h'
   ·exact .inl h'
   ·exact .inr ⟨.tail _ h'.1,h'.2⟩
theorem Own.holds_lt {x:Own} {w:World} (h:x.holds w) {b o:Nat} (hc:x.cov b o):b<w.heap.size:=by
 have key:∀b' ob,w.heap[b']? =some ob→b'<w.heap.size:=fun b' ob e=>by
  rcases Nat.lt_or_ge b' w.heap.size with h' | h'
  ·exact h'
  ·simp[Array.getElem?_eq_none h']at e
 cases x with
 | blk b' ob=>simp only[Own.cov]at hc;subst hc;exact key _ _ h
 | spare b' lo hi=>obtain⟨rfl,h1,h2⟩:=hc;obtain⟨c,T,e,_⟩:=h (by omega);exact key _ _ e
theorem Own.holds_of_block {x:Own} {w w':World} (h:x.holds w) (e:∀b o,x.cov b o→w'.heap[b]? =w.heap[b]?):x.holds w':=by
 cases x with
 | blk b ob=>show w'.heap[b]? =some ob;rw[e b 0 rfl];exact h
 | spare b lo hi=>intro hl;obtain⟨c,T,e1,e2⟩:=h hl;exact⟨c,T,by rw[e b lo ⟨rfl,Nat.le_refl _,hl⟩];exact e1,e2⟩
theorem World.heap_alloc_lt (w:World) (ob:Obj) (b:Nat) (h:b<w.heap.size):(w.alloc ob).heap[b]? =w.heap[b]? :=by
 simp only[World.alloc,Array.getElem?_push]
 rw[if_neg (by omega)]
theorem Sat.alloc {G:Gh} {H:List Own} {w:World} (h:Sat G H w) (ob:Obj):Sat G (.blk w.heap.size ob::H) (w.alloc ob) where
 agr b o v e:=by
  have hl:=block_lt_of_cell (h.agr b o v e)
  have:=h.agr b o v e
  simp only[World.cell?]at this⊢
  rw[World.heap_alloc_lt w ob b hl];exact this
 hold x hx:=by
  rcases List.mem_cons.1 hx with rfl | hx
  ·show(w.alloc ob).heap[w.heap.size]? =some ob;exact heap_alloc_new w ob
  ·have hh:=h.hold x hx
   exact Own.holds_of_block hh fun b o hc=>World.heap_alloc_lt w ob b (Own.holds_lt hh hc)
 apart:=by
  rw[List.pairwise_cons]
  refine⟨fun x hx b o hc hc'=>?_,h.apart⟩
  have:=Own.holds_lt (h.hold x hx) hc'
  simp only[Own.cov]at hc
  omega
 ghost x hx b o hc:=by
  rcases List.mem_cons.1 hx with rfl | hx
  ·simp only[Own.cov]at hc
   subst hc
   cases hg:G w.heap.size o with
   | none=>rfl
   | some v=>exact absurd (block_lt_of_cell (h.agr _ _ _ hg)) (by simp)
  ·exact h.ghost x hx b o hc
def noFr:Obj→Prop
 | .cells _ _ fr=>fr=(0,0)
 | _=>True
theorem WEq.alloc (w:World) (ob:Obj) (hf:noFr ob):WEq w (w.alloc ob):=⟨rfl,rfl⟩
theorem WEq.heap {w w':World} (e:w'.heap=w.heap) (h1:w'.os=w.os) (h2:w'.output=w.output):WEq w w':=⟨h1,h2⟩
theorem Stp.alloc {G:Gh} {H:List Own} {w:World} (ob:Obj) (hf:noFr ob:=by first | rfl | trivial):Stp (covs H) G w G (.blk w.heap.size ob::H) (w.alloc ob) where
 size:=by rw[World.size_alloc];omega
 keep b hb:=by
  have e:=World.heap_alloc_lt w ob b hb
  exact⟨fun _=>e,fun c T fr h=>⟨c,e.trans h,rfl,fun _ _=>rfl⟩⟩
 gle:=G.le_refl
 gnew _ _ _ h:= .inl h
 own x hx b o hc:=by
  rcases List.mem_cons.1 hx with rfl | hx
  ·simp only[Own.cov]at hc;exact .inr (by omega)
  ·exact .inl ⟨x,hx,hc⟩
 weq:=WEq.alloc w ob hf
theorem Sat.upd {G:Gh} {H:List Own} {w w':World} (h:Sat G H w) {j b:Nat} {ob ob':Obj} (hj:H[j]? =some (.blk b ob)) (hb:w'.heap[b]? =some ob') (ho:∀i,i≠b→w'.heap[i]? =w.heap[i]?):
  Sat G (H.set j (.blk b ob')) w' where
 agr b' o v e:=by
  have hne:b'≠b:=fun e'=>by
   have:=h.ghost _ (List.mem_of_getElem? hj) b' o e'
   rw[this]at e;cases e
  have:=h.agr b' o v e
  simp only[World.cell?]at this⊢
  rw[ho b' hne];exact this
 hold x hx:=by
  rcases mem_set_apart (fun _ _=>Own.apart_symm) H j _ (.blk b ob') hj h.apart x hx with rfl | ⟨hx,hap⟩
  ·exact hb
  ·have hh:=h.hold x hx
   exact Own.holds_of_block hh fun b' o hc=>ho b' fun e=>hap b' o e hc
 apart:=pairwise_set (fun _ _=>Own.apart_symm) H j _ _ hj (fun z hz=>hz) h.apart
 ghost x hx b' o hc:=by
  rcases mem_set_apart (fun _ _=>Own.apart_symm) H j _ (.blk b ob') hj h.apart x hx with rfl | ⟨hx,_⟩
  ·exact h.ghost _ (List.mem_of_getElem? hj) b' o hc
  ·exact h.ghost x hx b' o hc
theorem Stp.upd {G:Gh} {H:List Own} {w w':World} {j b:Nat} {ob ob':Obj} (hj:H[j]? =some (.blk b ob)) (hw:w.heap[b]? =some ob) (hb:w'.heap[b]? =some ob') (ho:∀i,i≠b→w'.heap[i]? =w.heap[i]?)
  (hz:w'.heap.size=w.heap.size) (hwq:WEq w w') (hs:∀c T fr,ob= .cells c T fr→∃c',ob'= .cells c' T fr∧c'.size=c.size):Stp (covs H) G w G (H.set j (.blk b ob')) w' where
 size:=by omega
 keep i hi:=by
  by_cases e:i=b
  ·subst e
   have hcov:∀o,covs H i o:=fun o=>⟨_,List.mem_of_getElem? hj,rfl⟩
   refine⟨fun hn=>absurd (hcov 0) (hn 0),fun c T fr h=>?_⟩
   rw[hw]at h
   obtain⟨c',e1,e2⟩:=hs c T fr (Option.some.inj h)
   exact⟨c',by rw[hb,e1],e2,fun o hn=>absurd (hcov o) hn⟩
  ·exact⟨fun _=>ho i e,fun c T fr h=>⟨c,(ho i e).trans h,rfl,fun _ _=>rfl⟩⟩
 gle:=G.le_refl
 gnew _ _ _ h:= .inl h
 own x hx b' o hc:=by
  rcases mem_set_or H j _ x hx with rfl | hx
  ·exact .inl ⟨_,List.mem_of_getElem? hj,hc⟩
  ·exact .inl ⟨x,hx,hc⟩
 weq:=hwq
theorem Sat.drew {G:Gh} {H:List Own} {w w':World} (h:Sat G H w) (e:w'.heap=w.heap):Sat G H w':=
 ⟨fun b o v hg=>by have:=h.agr b o v hg;simp only[World.cell?]at this⊢;rw[e];exact this,
  fun x hx=>Own.holds_of_block (h.hold x hx) fun b o _=>by rw[e],h.apart,h.ghost⟩
theorem Stp.drew {G:Gh} {H:List Own} {w w':World} (e:w'.heap=w.heap) (h1:w'.os=w.os:=by rfl) (h2:w'.output=w.output:=by rfl):Stp (covs H) G w G H w':=
 ⟨by rw[e];exact Nat.le_refl _,fun b _=>⟨fun _=>by rw[e],fun c T fr h=>⟨c,by rw[e];exact h,rfl,fun _ _=>rfl⟩⟩,G.le_refl,fun _ _ _ h=> .inl h,fun x hx _ _ hc=> .inl ⟨x,hx,hc⟩,WEq.heap e h1 h2⟩
theorem Stp.then {S:Nat→Nat→Prop} {G0 G1 G2:Gh} {w0 w1 w2:World} {H1 H2:List Own} (h1:Stp S G0 w0 G1 H1 w1) (h2:Stp (covs H1) G1 w1 G2 H2 w2):Stp S G0 w0 G2 H2 w2:=
 h1.trans h2 fun b o ⟨x,hx,hc⟩=>h1.own x hx b o hc
theorem St.drew {cx:Cx} {L:List (Nat×Value)} {G:Gh} {H:List Own} {a:Act} {w w':World} (h:St cx L G H a w) (e:w'.heap=w.heap) (h1:w'.os=w.os:=by rfl) (h2:w'.output=w.output:=by rfl):St cx L G H a w':=
 ⟨h.size,h.defs,h.slot,h.sat.drew e,h.stp.then (Stp.drew e h1 h2)⟩
def wantB (ops:Array Oper) (L:List (Nat×Value)) (o:Oper):Option Bool:=
 match o.guard with
 | none=>some true
 | some (j,b)=>match (ops[j]?).bind (·.dst)with
  | some d=>match lk L d with
   | some (.bool c)=>some (c==b)
   | some (.tuple _)=>some false
   | _=>none
  | none=>none
theorem St.wanted {cx:Cx} {L:List (Nat×Value)} {G:Gh} {H:List Own} {a:Act} {w:World} (st:St cx L G H a w) {ops:Array Oper} {o:Oper} {b:Bool} (h:wantB ops L o=some b):
  Region.wanted o (yielded ops a.tmps)=b:=by
 unfold wantB at h
 unfold Region.wanted
 cases hg:o.guard with
 | none=>rw[hg]at h;simpa using h
 | some p=>
  obtain⟨j,u⟩:=p
  rw[hg]at h
  simp only at h⊢
  unfold yielded
  cases hd:(ops[j]?).bind (·.dst)with
  | none=>rw[hd]at h;cases h
  | some d=>
   rw[hd]at h
   simp only at h
   cases hl:lk L d with
   | none=>rw[hl]at h;cases h
   | some v=>
    rw[hl]at h
    have e:=st.slot d _ hl
    cases v<;>simp only at h<;>try (cases h;done)
    ·rename_i c
     simp only[Option.bind_some,e]
     have e2:=Option.some.inj h
     rw[←e2]
     cases c<;>cases u<;>rfl
    ·simp only[Option.bind_some,e]
     have e2:=Option.some.inj h
     rw[←e2]
     rfl
def OW (P:Program) (Q:Exit→Act→World→Prop) (o:Oper) (cx:Cx) (L:List (Nat×Value)) (G:Gh) (H:List Own) (K:List (Nat×Value)→Gh→List Own→Prop):Prop:=
 ∀next:Act→World→Prop,(∀L' G' H',K L' G' H'→∀a w,St cx L' G' H' a w→next a w)→∀a w,St cx L G H a w→o.wp P a w next Q
section
variable {P:Program} {Q:Exit→Act→World→Prop} {cx:Cx} {L:List (Nat×Value)} {G:Gh} {H:List Own} {ops:Array Oper} {rest:List Oper} {o:Oper}
 {K:List (Nat×Value)→Gh→List Own→Prop}
theorem WL.op (hw:wantB ops L o=some true) (h:OW P Q o cx L G H fun L' G' H'=>WL P ops Q rest cx L' G' H'):WL P ops Q (o::rest) cx L G H:=by
 intro a w st
 unfold wpList
 rw[if_pos (st.wanted hw)]
 exact .inl (h _ (fun L' G' H' k a w st'=>k a w st') a w st)
theorem WL.skip (hw:wantB ops L o=some false) (hd:dOk o.dst cx.N=true) (h:WL P ops Q rest cx (putL o.dst undef L) G H):WL P ops Q (o::rest) cx L G H:=by
 intro a w st
 unfold wpList
 rw[if_neg (by rw[st.wanted hw];simp)]
 exact h _ _ (st.put o.dst undef hd st.sat st.stp)
theorem OW.gives (hd:dOk o.dst cx.N=true)
  (h:∀a w,St cx L G H a w→∃v w' G' H',((execOp a.eval o).run P w= .ok (.value v) w'∨v=undef∧(execOp a.eval o).run P w= .ok .skip w')∧Sat G' H' w'∧Stp (covs H) G w G' H' w'∧K (putL o.dst v L) G' H'):
  OW P Q o cx L G H K:=by
 intro next hn a w st
 obtain⟨v,w',G',H',hr,hs,hp,hk⟩:=h a w st
 unfold Oper.wp
 rcases hr with hr | ⟨rfl,hr⟩
 ·rw[hr];exact hn _ _ _ hk _ _ (st.put o.dst v hd hs (st.stp.then hp))
 ·rw[hr];exact hn _ _ _ hk _ _ (st.put o.dst undef hd hs (st.stp.then hp))
theorem OW.val {v:Value} (hd:dOk o.dst cx.N=true) (h:∀a w,St cx L G H a w→(execOp a.eval o).run P w= .ok (.value v) w) (hk:K (putL o.dst v L) G H):OW P Q o cx L G H K:=
 OW.gives hd fun a w st=>⟨v,w,G,H, .inl (h a w st),st.sat,Stp.drew rfl,hk⟩
def rhoL (L:List (Nat×Value)) (x:Operand):Value:=(ev L x).getD undef
def knownB (L:List (Nat×Value)) (o:Oper):Bool:=o.op.operands.all (fun x=>(ev L x).isSome)&&(match o.op with | .select .. =>false | _=>true)
theorem WK.thN {y:Code} {Q:Exit→Act→World→Prop} (h:WC P y Q cx L G H):WK (Exit.then (y.wp P Q) Q .normal) cx L G H:=h
theorem WK.thJ {J:Act→World→Prop} {Q:Exit→Act→World→Prop} (h:WK J cx L G H):WK (Exit.then J Q .normal) cx L G H:=h
theorem WK.thR {J:Act→World→Prop} {Q:Exit→Act→World→Prop} (h:WK (Q .ret) cx L G H):WK (Exit.then J Q .ret) cx L G H:=h
theorem WK.thE {J:Act→World→Prop} {Q:Exit→Act→World→Prop} {id:Nat} (h:WK (Q (.exit id)) cx L G H):WK (Exit.then J Q (.exit id)) cx L G H:=h
theorem WK.thP {J:Act→World→Prop} {Q:Exit→Act→World→Prop} {ch:List PanicEntry} (h:WK (Q (.panic ch)) cx L G H):WK (Exit.then J Q (.panic ch)) cx L G H:=h
theorem WK.blN {id:Nat} {Q:Exit→Act→World→Prop} (h:WK (Q .normal) cx L G H):WK (Exit.inBlock id Q .normal) cx L G H:=h
theorem WK.blR {id:Nat} {Q:Exit→Act→World→Prop} (h:WK (Q .ret) cx L G H):WK (Exit.inBlock id Q .ret) cx L G H:=h
theorem WK.blP {id:Nat} {Q:Exit→Act→World→Prop} {ch:List PanicEntry} (h:WK (Q (.panic ch)) cx L G H):WK (Exit.inBlock id Q (.panic ch)) cx L G H:=h
theorem WK.blE {id:Nat} {Q:Exit→Act→World→Prop} (h:WK (Q .normal) cx L G H):WK (Exit.inBlock id Q (.exit id)) cx L G H:=fun a w st=>by
 show(if id=id then _ else _)
 rw[if_pos rfl];exact h a w st
theorem WK.blO {id id':Nat} {Q:Exit→Act→World→Prop} (hne:Nat.beq id' id=false) (h:WK (Q (.exit id')) cx L G H):WK (Exit.inBlock id Q (.exit id')) cx L G H:=fun a w st=>by
 show(if id'=id then _ else _)
 rw[if_neg (fun e=>by subst e;rw[Nat.beq_refl]at hne;cases hne)];exact h a w st
def Un (g g':Prop):Prop:=g'→g
theorem Un.rfl' {g:Prop} :Un g g:=id
theorem Un.thN {y:Code} {Q:Exit→Act→World→Prop} :Un (WK (Exit.then (y.wp P Q) Q .normal) cx L G H) (WC P y Q cx L G H):=id
theorem Un.thJ {J:Act→World→Prop} {Q:Exit→Act→World→Prop} {g:Prop} (h:Un (WK J cx L G H) g):Un (WK (Exit.then J Q .normal) cx L G H) g:=h
theorem Un.thR {J:Act→World→Prop} {Q:Exit→Act→World→Prop} {g:Prop} (h:Un (WK (Q .ret) cx L G H) g):Un (WK (Exit.then J Q .ret) cx L G H) g:=h
theorem Un.thE {J:Act→World→Prop} {Q:Exit→Act→World→Prop} {id:Nat} {g:Prop} (h:Un (WK (Q (.exit id)) cx L G H) g):Un (WK (Exit.then J Q (.exit id)) cx L G H) g:=h
theorem Un.thP {J:Act→World→Prop} {Q:Exit→Act→World→Prop} {ch:List PanicEntry} {g:Prop} (h:Un (WK (Q (.panic ch)) cx L G H) g):Un (WK (Exit.then J Q (.panic ch)) cx L G H) g:=h
theorem Un.blN {id:Nat} {Q:Exit→Act→World→Prop} {g:Prop} (h:Un (WK (Q .normal) cx L G H) g):Un (WK (Exit.inBlock id Q .normal) cx L G H) g:=h
theorem Un.blR {id:Nat} {Q:Exit→Act→World→Prop} {g:Prop} (h:Un (WK (Q .ret) cx L G H) g):Un (WK (Exit.inBlock id Q .ret) cx L G H) g:=h
theorem Un.blP {id:Nat} {Q:Exit→Act→World→Prop} {ch:List PanicEntry} {g:Prop} (h:Un (WK (Q (.panic ch)) cx L G H) g):Un (WK (Exit.inBlock id Q (.panic ch)) cx L G H) g:=h
theorem Un.blE {id:Nat} {Q:Exit→Act→World→Prop} {g:Prop} (h:Un (WK (Q .normal) cx L G H) g):Un (WK (Exit.inBlock id Q (.exit id)) cx L G H) g:=fun x=>WK.blE (h x)
theorem Un.blO {id id':Nat} {Q:Exit→Act→World→Prop} {g:Prop} (hne:Nat.beq id' id=false) (h:Un (WK (Q (.exit id')) cx L G H) g):Un (WK (Exit.inBlock id Q (.exit id')) cx L G H) g:=fun x=>WK.blO hne (h x)
theorem WK.un {g g':Prop} (h:g') (e:Un g g':=by repeat (first | with_reducible exact Un.thN | with_reducible apply Un.thR | with_reducible apply Un.thE | with_reducible apply Un.thP | with_reducible apply Un.blN | with_reducible apply Un.blR | with_reducible apply Un.blP | with_reducible apply Un.blE | with_reducible refine Un.blO rfl ?_ | with_reducible apply Un.thJ | exact Un.rfl')):g:=e h
def Sk (L:List (Nat×Value)) (a:Act):Prop:=∀t v,lk L t=some v→a.tmps[t]? =some v
def Gv (P:Program) (L:List (Nat×Value)) (G:Gh) (H:List Own) (o:Oper) (v:Value):Prop:=∀a w,Sk L a→Sat G H w→(execOp a.eval o).run P w= .ok (.value v) w
def Gp (P:Program) (L:List (Nat×Value)) (o:Oper) (v:Value):Prop:=∀a,Sk L a→∀w,(execOp a.eval o).run P w= .ok (.value v) w
theorem Gp.gv {v:Value} (h:Gp P L o v):Gv P L G H o v:=fun a w sk _=>h a sk w
theorem WL.v {v:Value} (g:Gv P L G H o v) (hw:wantB ops L o=some true) (hd:dOk o.dst cx.N=true) (k:WL P ops Q rest cx (putL o.dst v L) G H):WL P ops Q (o::rest) cx L G H:=
 WL.op hw (OW.val hd (fun a w st=>g a w st.slot st.sat) k)
theorem WL.p {v:Value} (g:Gp P L o v) (hw:wantB ops L o=some true) (hd:dOk o.dst cx.N=true) (k:WL P ops Q rest cx (putL o.dst v L) G H):WL P ops Q (o::rest) cx L G H:=WL.v g.gv hw hd k
theorem Sk.eval {a:Act} (h:Sk L a) {x:Operand} {v:Value} (hx:ev L x=some v):a.eval x=v:=by
 cases x with
 | tmp t=>simp[Act.eval,Array.getD_eq_getD_getElem?,h t v hx]
 | const u=>exact Option.some.inj hx
 | global g=>exact Option.some.inj hx
 | func f=>exact Option.some.inj hx
end
end
section
open Go
class Und (P:Program) (t:Nat) (d:outParam TypeDesc):Prop where
 h:P.underlying t=some d
class Inf (P:Program) (t:Nat) (n:outParam Nat) (by_:outParam Nat) (z:outParam Value):Prop where
 h:(P.info? t).map (fun i=>(i.zero,i.size,i.bytes))=some (some z,n,by_)
class Agg (P:Program) (t:Nat) (b:outParam Bool):Prop where
 h:∀w:World,(isAgg t).run P w= .ok b w
class Fld (P:Program) (t i:Nat) (off:outParam Nat):Prop where
 h:∀(b o:Nat) (w:World),(Instr.fieldAt t (.pointer (some ⟨b,o,none⟩)) i).run P w= .ok (.pointer (some ⟨b,o+off,none⟩)) w
theorem Inf.info {P:Program} {t n by_:Nat} {z:Value} (h:Inf P t n by_ z):∃i,P.info? t=some i∧i.zero=some z∧i.size=n∧i.bytes=by_:=by
 have:=h.h
 cases hi:P.info? t with
 | none=>rw[hi]at this;cases this
 | some i=>
  rw[hi]at this
  simp only[Option.map_some,Option.some.injEq,Prod.mk.injEq]at this
  exact⟨i,rfl,this.1,this.2.1,this.2.2⟩
theorem Inf.sizeOf {P:Program} {t n by_:Nat} {z:Value} (h:Inf P t n by_ z) (w:World):(sizeOf t).run P w= .ok n w:=by
 obtain⟨i,h1,_,h2,_⟩:=h.info
 simp[Go.sizeOf,typeInfo,h1,h2]
theorem Inf.zeroValue {P:Program} {t n by_:Nat} {z:Value} (h:Inf P t n by_ z) (w:World):(zeroValue t).run P w= .ok z w:=by
 obtain⟨i,h1,h2,_⟩:=h.info
 simp[Go.zeroValue,typeInfo,h1,h2]
inductive At:List Own→Nat→Own→Prop where
 | here {x:Own} {l:List Own} :At (x::l) 0 x
 | there {x y:Own} {l:List Own} {j:Nat} (h:At l j x):At (y::l) (j+1) x
theorem atA {l:List Own} {j:Nat} {x:Own} (h:At l j x:=by(repeat first | exact .here | apply At.there)):At l j x:=h
theorem At.get {l:List Own} {j:Nat} {x:Own} (h:At l j x):l[j]? =some x:=by
 induction h with
 | here=>rfl
 | there _ ih=>simpa using ih
section
variable {P:Program} {Q:Exit→Act→World→Prop} {cx:Cx} {L:List (Nat×Value)} {G:Gh} {H:List Own} {K:List (Nat×Value)→Gh→List Own→Prop}
 {d:Option Tmp} {ty:TypeId} {pos:String} {af:Array Edge} {gu:Option (Nat×Bool)}
theorem Gp.move {x:Operand} {v:Value} (hx:ev L x=some v):Gp P L ⟨d, .move x,ty,pos,af,gu⟩ v:=
 fun a st w=>by simp[execOp,st.eval hx]
theorem Gp.assign {x:Operand} {v:Value} (hx:ev L x=some v):Gp P L ⟨d, .assign x,ty,pos,af,gu⟩ v:=
 fun a st w=>by simp[execOp,st.eval hx]
theorem Gp.pickT {c x y:Operand} {v:Value} (hc:ev L c=some (.bool true)) (hx:ev L x=some v):Gp P L ⟨d, .pick c x y,ty,pos,af,gu⟩ v:=
 fun a st w=>by simp[execOp,st.eval hx,st.eval hc,asBool]
theorem Gp.pickF {c x y:Operand} {v:Value} (hc:ev L c=some (.bool false)) (hx:ev L y=some v):Gp P L ⟨d, .pick c x y,ty,pos,af,gu⟩ v:=
 fun a st w=>by simp[execOp,st.eval hx,st.eval hc,asBool]
theorem Gp.nilCheck {x:Operand} {p:Addr} (hx:ev L x=some (.pointer (some p))):Gp P L ⟨d, .nilCheck x,ty,pos,af,gu⟩ (.pointer (some p)):=
 fun a st w=>by simp[execOp,st.eval hx]
theorem Gp.fieldAddr {t i off:Nat} {x:Operand} {b o:Nat} (hx:ev L x=some (.pointer (some ⟨b,o,none⟩))) [hf:Fld P t i off]:Gp P L ⟨d, .fieldAddr t x i,ty,pos,af,gu⟩ (.pointer (some ⟨b,o+off,none⟩)):=
 fun a st w=>by simp[execOp,st.eval hx,hf.h]
theorem run_loadVar1 {w:World} {t:Nat} {p:Addr} {v:Value} (ha:Agg P t false) (hc:w.cell? p=some v):(loadVar t p).run P w= .ok v w:=by
 simp[loadVar,ha.h,hc]
theorem run_loadVarN {w:World} {t n by_:Nat} {z:Value} {b o:Nat} {cs:List Value} (ha:Agg P t true) (hi:Inf P t n by_ z) (hl:cs.length=n) (hc:∀j v,cs[j]? =some v→w.cell? ⟨b,o+j,none⟩=some v):
  (loadVar t ⟨b,o,none⟩).run P w= .ok (.agg cs.toArray) w:=by
 have:=run_loadCells_list (P:=P) w ⟨b,o,none⟩ cs (fun j v hv=>by
  have hadd:(⟨b,o,none⟩:Addr).add j=⟨b,o+j,none⟩:=by unfold Addr.add;split<;>simp_all
  rw[hadd];exact hc j v hv)
 rw[hl]at this
 simp[loadVar,ha.h,hi.sizeOf,this]
theorem Own.cell {w:World} {b o:Nat} {c:Array Value} {t:TypeId} {fr:Nat×Nat} (h:Own.holds w (.blk b (.cells c t fr))):w.cell? ⟨b,o,none⟩=c[o]? :=by
 have:w.heap[b]? =some (.cells c t fr):=h
 simp[World.cell?,this]
theorem Gv.load1 {t:Nat} {x:Operand} {b o j:Nat} {c:Array Value} {t':TypeId} {fr:Nat×Nat} {v:Value} (hx:ev L x=some (.pointer (some ⟨b,o,none⟩))) [ha:Agg P t false]
  (hj:At H j (.blk b (.cells c t' fr))) (hc:c[o]? =some v):Gv P L G H ⟨d, .load t x,ty,pos,af,gu⟩ v:=
 fun a w sk st0=>by
  have:=run_loadVar1 (P:=P) (w:=w) (v:=v) (p:=⟨b,o,none⟩) ha (by rw[Own.cell (st0.hold _ (List.mem_of_getElem? hj.get))];exact hc)
  simp[execOp,sk.eval hx,Instr.loadAt,Instr.sureAddr,this]
theorem Gv.loadN {t n by_:Nat} {z:Value} {x:Operand} {b o j:Nat} {c:Array Value} {t':TypeId} {fr:Nat×Nat} {cs:List Value} (hx:ev L x=some (.pointer (some ⟨b,o,none⟩))) [ha:Agg P t true] [hi:Inf P t n by_ z]
  (hj:At H j (.blk b (.cells c t' fr))) (hc:(c.toList.drop o).take n=cs) (hl:cs.length=n):Gv P L G H ⟨d, .load t x,ty,pos,af,gu⟩ (.agg cs.toArray):=
 fun a w sk st0=>by
  have:=run_loadVarN (P:=P) (w:=w) (b:=b) (o:=o) ha hi hl (fun j v hv=>by
   rw[Own.cell (st0.hold _ (List.mem_of_getElem? hj.get))]
   rw[←hc]at hv
   rw[List.getElem?_take]at hv
   split at hv
   ·rw[List.getElem?_drop]at hv;simpa using hv
   ·cases hv)
  simp[execOp,sk.eval hx,Instr.loadAt,Instr.sureAddr,this]
def Cs (G:Gh) (b o:Nat) (cs:List Value):Prop:=∀j v,cs[j]? =some v→G b (o+j)=some v
theorem Cs.mono {G G':Gh} {b o:Nat} {cs:List Value} (h:Cs G b o cs) (hg:G.le G'):Cs G' b o cs:=fun j v e=>hg _ _ _ (h j v e)
theorem Gv.loadG1 {t:Nat} {x:Operand} {b o i:Nat} {cs:List Value} {v:Value} (hx:ev L x=some (.pointer (some ⟨b,o+i,none⟩))) [ha:Agg P t false]
  (hg:Cs G b o cs) (hc:cs[i]? =some v):Gv P L G H ⟨d, .load t x,ty,pos,af,gu⟩ v:=
 fun a w sk st0=>by
  have:=run_loadVar1 (P:=P) (w:=w) (v:=v) (p:=⟨b,o+i,none⟩) ha (st0.agr _ _ _ (hg i v hc))
  simp[execOp,sk.eval hx,Instr.loadAt,Instr.sureAddr,this]
theorem Gv.loadG0 {t:Nat} {x:Operand} {b o:Nat} {cs:List Value} {v:Value} (hx:ev L x=some (.pointer (some ⟨b,o,none⟩))) [ha:Agg P t false]
  (hg:Cs G b o cs) (hc:cs[0]? =some v):Gv P L G H ⟨d, .load t x,ty,pos,af,gu⟩ v:=
 Gv.loadG1 (i:=0) hx hg hc
theorem Gv.loadGN {t n by_:Nat} {z:Value} {x:Operand} {b o:Nat} {cs:List Value} (hx:ev L x=some (.pointer (some ⟨b,o,none⟩))) [ha:Agg P t true] [hi:Inf P t n by_ z]
  (hg:Cs G b o cs) (hl:cs.length=n):Gv P L G H ⟨d, .load t x,ty,pos,af,gu⟩ (.agg cs.toArray):=
 fun a w sk st0=>by
  have:=run_loadVarN (P:=P) (w:=w) (b:=b) (o:=o) ha hi hl (fun j v hv=>st0.agr _ _ _ (hg j v hv))
  simp[execOp,sk.eval hx,Instr.loadAt,Instr.sureAddr,this]
theorem OW.alloc {t n by_:Nat} {z:Value} [hi:Inf P t n by_ z] (hd:dOk d cx.N=true) (k:∀b,K (putL d (.pointer (some ⟨b,0,none⟩)) L) G (.blk b (.cells z.cells t (0,0))::H)):OW P Q ⟨d, .alloc t,ty,pos,af,gu⟩ cx L G H K:=
 OW.gives hd fun a w st=>⟨.pointer (some ⟨w.heap.size,0,none⟩),w.alloc (.cells z.cells t),G, .blk w.heap.size (.cells z.cells t (0,0))::H,
  .inl (by simp[execOp,Instr.alloc,hi.zeroValue,newVar,newRow]),st.sat.alloc _,Stp.alloc _,k _⟩
theorem OW.box {t:Nat} {x:Operand} {v:Value} (hx:ev L x=some v) (hd:dOk d cx.N=true) (k:∀b,K (putL d (.pointer (some ⟨b,0,none⟩)) L) G (.blk b (.cells v.cells t (0,0))::H)):OW P Q ⟨d, .box t x,ty,pos,af,gu⟩ cx L G H K:=
 OW.gives hd fun a w st=>⟨.pointer (some ⟨w.heap.size,0,none⟩),w.alloc (.cells v.cells t),G, .blk w.heap.size (.cells v.cells t (0,0))::H,
  .inl (by simp[execOp,Instr.box,st.eval hx,newVar,newRow]),st.sat.alloc _,Stp.alloc _,k _⟩
def splice (c:Array Value) (o:Nat) (cs:List Value):Array Value:=(c.toList.take o++cs++c.toList.drop (o+cs.length)).toArray
theorem size_splice {c:Array Value} {o:Nat} {cs:List Value} (h:o+cs.length≤c.size):(splice c o cs).size=c.size:=by simp[splice];omega
theorem Sat.splice {w:World} (h:Sat G H w) {j b o:Nat} {c:Array Value} {t:TypeId} {cs:List Value} (hj:At H j (.blk b (.cells c t (0,0)))) (hf:o+cs.length≤c.size):
  Sat G (H.set j (.blk b (.cells (splice c o cs) t (0,0)))) (w.setRow b (splice c o cs))∧Stp (covs H) G w G (H.set j (.blk b (.cells (splice c o cs) t (0,0)))) (w.setRow b (splice c o cs)):=by
 have hb:w.heap[b]? =some (.cells c t (0,0)):=h.hold _ (List.mem_of_getElem? hj.get)
 have e1:=setRow_heap w b c (Gb.splice c o cs) t (0,0) hb
 have e2:∀i,i≠b→(w.setRow b (Gb.splice c o cs)).heap[i]? =w.heap[i]? :=fun i hi=>setRow_other w b i _ hi
 exact⟨h.upd hj.get e1 e2,Stp.upd hj.get hb e1 e2 (by simp) ⟨rfl,rfl⟩ (fun c' T fr e=>by cases e;exact⟨_,rfl,size_splice hf⟩)⟩
theorem OW.store {t n by_:Nat} {z:Value} {x y:Operand} {b o j:Nat} {c:Array Value} {t':TypeId} {v:Value} {cs:List Value} {c':Array Value} (hx:ev L x=some (.pointer (some ⟨b,o,none⟩))) (hy:ev L y=some v) [hi:Inf P t n by_ z]
  (hj:At H j (.blk b (.cells c t' (0,0)))) (hv:v.cells.toList=cs) (hl:cs.length=n) (h1:cs.all (·.oneCell')=true) (hf:Nat.ble (o+n) c.size=true) (hc:Gb.splice c o cs=c')
  (k:K (putL d undef L) G (H.set j (.blk b (.cells c' t' (0,0))))) (hd:dOk d cx.N=true):OW P Q ⟨d, .store t x y,ty,pos,af,gu⟩ cx L G H K:=by
 subst hc
 refine OW.gives hd fun a w st=>?_
 have hb:w.heap[b]? =some (.cells c t' (0,0)):=st.sat.hold _ (List.mem_of_getElem? hj.get)
 have hfit:o+cs.length≤c.size:=by rw[hl];exact Nat.le_of_ble_eq_true hf
 have hst:=run_storeCells_at P b o t' cs 0 c w hb (by simpa using hfit) (fun u hu=>List.all_eq_true.1 h1 u hu)
 have hvs:v.cells.size=n:=by rw[←Array.length_toList,hv,hl]
 simp only[Nat.add_zero]at hst
 have hs:=st.sat.splice (o:=o) (cs:=cs) hj hfit
 refine⟨undef,_,G,_, .inr ⟨rfl,?_⟩,hs.1,hs.2,k⟩
 have hsv:(storeVar t ⟨b,o,none⟩ v).run P w= .ok () (w.setRow b (Gb.splice c o cs)):=by
  simp only[storeVar,Sem.run_bind,hi.sizeOf,Result.andThen_ok,hvs,ne_eq,not_true_eq_false,if_false]
  rw[hv]
  simpa [Gb.splice]using hst
 simp[execOp,st.eval hx,st.eval hy,Instr.storeAt,Instr.sureAddr,hsv]
end
end
section
open Go
section
variable {P:Program} {Q:Exit→Act→World→Prop} {cx:Cx} {L:List (Nat×Value)} {G:Gh} {H:List Own} {K:List (Nat×Value)→Gh→List Own→Prop}
 {d:Option Tmp} {ty:TypeId} {pos:String} {af:Array Edge} {gu:Option (Nat×Bool)}
theorem Gp.add {t t':TypeId} {x y:Operand} {k:IntKind} {m n:Int} (hx:ev L x=some (.int k m)) (hy:ev L y=some (.int k n)):Gp P L ⟨d, .binOp .add t x y t',ty,pos,af,gu⟩ (.int k (k.wrap (m+n))):=
 fun a st w=>by simp[execOp,st.eval hx,st.eval hy,eqGuard_add,binOp_add,Op.intArith]
theorem Gp.sub {t t':TypeId} {x y:Operand} {k:IntKind} {m n:Int} (hx:ev L x=some (.int k m)) (hy:ev L y=some (.int k n)):Gp P L ⟨d, .binOp .sub t x y t',ty,pos,af,gu⟩ (.int k (k.wrap (m - n))):=
 fun a st w=>by simp[execOp,st.eval hx,st.eval hy,eqGuard_sub,binOp_sub,Op.intArith]
theorem Gp.eqI {t t':TypeId} {x y:Operand} {k:IntKind} {m n:Int} (hx:ev L x=some (.int k m)) (hy:ev L y=some (.int k n)):Gp P L ⟨d, .binOp .eql t x y t',ty,pos,af,gu⟩ (.bool (m==n)):=
 fun a st w=>by simp[execOp,st.eval hx,st.eval hy,eqGuard_at_int,binOp_eql]
theorem Gp.neI {t t':TypeId} {x y:Operand} {k:IntKind} {m n:Int} (hx:ev L x=some (.int k m)) (hy:ev L y=some (.int k n)):Gp P L ⟨d, .binOp .neq t x y t',ty,pos,af,gu⟩ (.bool (m != n)):=
 fun a st w=>by simp[execOp,st.eval hx,st.eval hy,eqGuard_at_int,binOp_neq]
theorem Gp.ltI {t t':TypeId} {x y:Operand} {k:IntKind} {m n:Int} (hx:ev L x=some (.int k m)) (hy:ev L y=some (.int k n)):Gp P L ⟨d, .binOp .lss t x y t',ty,pos,af,gu⟩ (.bool (decide (m<n))):=
 fun a st w=>by simp[execOp,st.eval hx,st.eval hy,eqGuard_at_int,binOp_lss]
theorem Gp.leI {t t':TypeId} {x y:Operand} {k:IntKind} {m n:Int} (hx:ev L x=some (.int k m)) (hy:ev L y=some (.int k n)):Gp P L ⟨d, .binOp .leq t x y t',ty,pos,af,gu⟩ (.bool (decide (m≤n))):=
 fun a st w=>by simp[execOp,st.eval hx,st.eval hy,eqGuard_at_int,binOp_leq]
theorem Gp.gtI {t t':TypeId} {x y:Operand} {k:IntKind} {m n:Int} (hx:ev L x=some (.int k m)) (hy:ev L y=some (.int k n)):Gp P L ⟨d, .binOp .gtr t x y t',ty,pos,af,gu⟩ (.bool (decide (n<m))):=
 fun a st w=>by simp[execOp,st.eval hx,st.eval hy,eqGuard_at_int,binOp_gtr]
theorem Gp.geI {t t':TypeId} {x y:Operand} {k:IntKind} {m n:Int} (hx:ev L x=some (.int k m)) (hy:ev L y=some (.int k n)):Gp P L ⟨d, .binOp .geq t x y t',ty,pos,af,gu⟩ (.bool (decide (n≤m))):=
 fun a st w=>by simp[execOp,st.eval hx,st.eval hy,eqGuard_at_int,binOp_geq]
theorem Gp.eqB {t t':TypeId} {x y:Operand} {m n:Bool} (hx:ev L x=some (.bool m)) (hy:ev L y=some (.bool n)) [hu:Und P t .bool]:Gp P L ⟨d, .binOp .eql t x y t',ty,pos,af,gu⟩ (.bool (m==n)):=
 fun a st w=>by simp[execOp,st.eval hx,st.eval hy,eqGuard_at_bool,binOp,Op.equal,Op.maxDepth,run_equalIn_bool' (P:=P) w 9999 t m n hu.h]
theorem Gp.neB {t t':TypeId} {x y:Operand} {m n:Bool} (hx:ev L x=some (.bool m)) (hy:ev L y=some (.bool n)) [hu:Und P t .bool]:Gp P L ⟨d, .binOp .neq t x y t',ty,pos,af,gu⟩ (.bool (!(m==n))):=
 fun a st w=>by simp[execOp,st.eval hx,st.eval hy,eqGuard_at_bool,binOp,Op.equal,Op.maxDepth,run_equalIn_bool' (P:=P) w 9999 t m n hu.h]
theorem Gp.notB {t:TypeId} {x:Operand} {m:Bool} (hx:ev L x=some (.bool m)):Gp P L ⟨d, .unOp .not t x,ty,pos,af,gu⟩ (.bool (!m)):=
 fun a st w=>by simp[execOp,st.eval hx,Op.unary]
theorem Gp.negI {t:TypeId} {x:Operand} {k:IntKind} {m:Int} (hx:ev L x=some (.int k m)):Gp P L ⟨d, .unOp .neg t x,ty,pos,af,gu⟩ (.int k (k.wrap (0 - m))):=
 fun a st w=>by simp[execOp,st.eval hx,Op.unary,Op.intArith]
theorem Gp.convI {s t:TypeId} {x:Operand} {k k':IntKind} {m:Int} {ds:TypeDesc} (hx:ev L x=some (.int k m)) [hs:Und P s ds] [ht:Und P t (.int k')]:Gp P L ⟨d, .convert s t x,ty,pos,af,gu⟩ (.int k' (k'.wrap m)):=
 fun a st w=>by simp[execOp,st.eval hx,convert,run_underlying hs.h,run_underlying ht.h,Conv.intToInt]
theorem Gp.eqS {t t':TypeId} {x y:Operand} {m n:ByteArray} (hx:ev L x=some (.string m)) (hy:ev L y=some (.string n)):Gp P L ⟨d, .binOp .eql t x y t',ty,pos,af,gu⟩ (.bool (m==n)):=
 fun a st w=>by simp[execOp,st.eval hx,st.eval hy,eqGuard_at_string,binOp_string_eql,beq_toListBytes]
theorem Gp.neS {t t':TypeId} {x y:Operand} {m n:ByteArray} (hx:ev L x=some (.string m)) (hy:ev L y=some (.string n)):Gp P L ⟨d, .binOp .neq t x y t',ty,pos,af,gu⟩ (.bool (!(m==n))):=
 fun a st w=>by simp[execOp,st.eval hx,st.eval hy,eqGuard_at_string,binOp_string_neq,beq_toListBytes]
theorem Gp.ltS {t t':TypeId} {x y:Operand} {m n:ByteArray} (hx:ev L x=some (.string m)) (hy:ev L y=some (.string n)):Gp P L ⟨d, .binOp .lss t x y t',ty,pos,af,gu⟩ (.bool (Op.bytesLess m.toList n.toList)):=
 fun a st w=>by simp[execOp,st.eval hx,st.eval hy,eqGuard_at_string,binOp_string_lss]
theorem Gp.geS {t t':TypeId} {x y:Operand} {m n:ByteArray} (hx:ev L x=some (.string m)) (hy:ev L y=some (.string n)):Gp P L ⟨d, .binOp .geq t x y t',ty,pos,af,gu⟩ (.bool (!Op.bytesLess m.toList n.toList)):=
 fun a st w=>by simp[execOp,st.eval hx,st.eval hy,eqGuard_at_string,binOp,Op.stringOp]
theorem bless_flip:∀a b:List UInt8,(!(Op.bytesLess a b || a==b))=Op.bytesLess b a
 | [],[]=>rfl
 | [],_::_=>rfl
 | _::_,[]=>rfl
 | x::a,y::b=>by
  have ih:=bless_flip a b
  simp only[Op.bytesLess]
  by_cases h1:x=y
  ·subst h1
   simp only[UInt8.lt_irrefl,decide_false,beq_self_eq_true,Bool.true_and,Bool.false_or,List.cons_beq_cons]
   exact ih
  ·have h2:(x==y)=false:=by simpa using h1
   have h3:(y==x)=false:=by simpa using Ne.symm h1
   simp only[List.cons_beq_cons,h2,h3,Bool.false_and,Bool.or_false]
   have:x.toNat≠y.toNat:=fun e=>h1 (UInt8.toNat_inj.1 e)
   rw[Bool.eq_iff_iff]
   simp only[Bool.not_eq_true',decide_eq_false_iff_not,decide_eq_true_eq,UInt8.lt_iff_toNat_lt]
   omega
theorem Gp.leS {t t':TypeId} {x y:Operand} {m n:ByteArray} (hx:ev L x=some (.string m)) (hy:ev L y=some (.string n)):Gp P L ⟨d, .binOp .leq t x y t',ty,pos,af,gu⟩ (.bool (!Op.bytesLess n.toList m.toList)):=
 fun a st w=>by simp[execOp,st.eval hx,st.eval hy,eqGuard_at_string,binOp,Op.stringOp,←bless_flip m.toList n.toList]
theorem Gp.addS {t t':TypeId} {x y:Operand} {m n:ByteArray} (hx:ev L x=some (.string m)) (hy:ev L y=some (.string n)) (hb:m.size+n.size≤9223372036854775807):Gp P L ⟨d, .binOp .add t x y t',ty,pos,af,gu⟩ (.string (m++n)):=
 fun a st w=>by simp[execOp,st.eval hx,st.eval hy,eqGuard_add,binOp_string_add,run_string_add_sum w m n hb]
theorem Gp.lenS {t:TypeId} {x:Operand} {m:ByteArray} (hx:ev L x=some (.string m)) [hu:Und P t .string]:Gp P L ⟨d, .call { callee:= .builtin .len,args:= #[x],argTypes:= #[t] },ty,pos,af,gu⟩ (.int .i64 m.size):=
 fun a st w=>by simp[execOp,resolve,invoke,builtin,st.eval hx,Builtin.len_,run_underlying hu.h,goInt]
theorem Gp.lenSl {t e:TypeId} {x:Operand} {A:Option Addr} {n c:Nat} (hx:ev L x=some (.slice A n c)) [hu:Und P t (.slice e)]:Gp P L ⟨d, .call { callee:= .builtin .len,args:= #[x],argTypes:= #[t] },ty,pos,af,gu⟩ (.int .i64 n):=
 fun a st w=>by simp[execOp,resolve,invoke,builtin,st.eval hx,Builtin.len_,run_underlying hu.h,goInt]
theorem Gp.nilSl {t t':TypeId} {x:Operand} {A:Option Addr} {n c:Nat} {e:TypeId} (hx:ev L x=some (.slice A n c)) [hu:Und P t (.slice e)]:Gp P L ⟨d, .binOp .eql t x (.const (.slice none 0 0)) t',ty,pos,af,gu⟩ (.bool A.isNone):=
 fun a st w=>by
  have:=Lib.run_eql_slice_nil (P:=P) w t e A n c 0 0 hu.h
  have hc:a.eval (.const (.slice none 0 0))= .slice none 0 0:=rfl
  simp[execOp,st.eval hx,hc,eqGuard_at_slice,this]
theorem Gp.indexAddr {t e n by_:TypeId} {z:Value} {x y:Operand} {b o len cap:Nat} {k:IntKind} {i:Int} (hx:ev L x=some (.slice (some ⟨b,o,none⟩) len cap)) (hy:ev L y=some (.int k i)) [hu:Und P t (.slice e)] [hi:Inf P e n by_ z] (h0:0≤i) (h1:i<len):Gp P L ⟨d, .indexAddr t x y,ty,pos,af,gu⟩ (.pointer (some ⟨b,o+i.toNat*n,none⟩)):=
 fun a st w=>by
  have hadd:(⟨b,o,none⟩:Addr).add (i.toNat*n)=⟨b,o+i.toNat*n,none⟩:=by unfold Addr.add;split<;>simp_all
  simp[execOp,st.eval hx,st.eval hy,Instr.indexAt,run_underlying hu.h,asIntOf,h0,h1,hi.sizeOf,hadd]
theorem Gp.extract {x:Operand} {vs:Array Value} {i:Nat} {v:Value} (hx:ev L x=some (.tuple vs)) (hv:vs[i]? =some v):Gp P L ⟨d, .extract x i,ty,pos,af,gu⟩ v:=
 fun a st w=>by simp[execOp,st.eval hx,Instr.extract,hv]
theorem Gp.mkIface {t:TypeId} {x:Operand} {v:Value} (hx:ev L x=some v) (hc:P.concrete t=true):Gp P L ⟨d, .makeInterface t x,ty,pos,af,gu⟩ (.iface t v):=
 fun a st w=>by simp[execOp,st.eval hx,run_makeInterface w t v hc]
theorem OW.panic {x:Operand} {t:TypeId} {v:Value} (hx:ev L x=some (.iface t v)) (h:WK (Q (.panic [{ v:= .iface t v,recovered:=false }])) cx L G H):OW P Q ⟨d, .panic x,ty,pos,af,gu⟩ cx L G H K:=by
 intro next _ a w st
 simp only[Oper.wp,execOp,st.eval hx,Instr.panic,Sem.run_bind,run_goPanic,Result.andThen_halt,Oper.upon]
 exact h a w st
end
structure Kd (α:Type) where
 n:Nat
 K:Gh→α→List Value→Prop
 mono:∀ {G G':Gh} {x:α} {cs:List Value},G.le G'→K G x cs→K G' x cs
 len:∀ {G:Gh} {x:α} {cs:List Value},K G x cs→cs.length=n
 one:∀ {G:Gh} {x:α} {cs:List Value},K G x cs→cs.all (·.oneCell')=true
def Sl {α:Type} (k:Kd α) (G:Gh) (A:Option Addr) (xs:List α):Prop:=∀i x,xs[i]? =some x→∃b o cs,A=some ⟨b,o,none⟩∧k.K G x cs∧Cs G b (o+i*k.n) cs
theorem Sl.mono {α:Type} {k:Kd α} {G G':Gh} {A:Option Addr} {xs:List α} (h:Sl k G A xs) (hg:G.le G'):Sl k G' A xs:=
 fun i x e=>let ⟨b,o,cs,h1,h2,h3⟩:=h i x e;⟨b,o,cs,h1,k.mono hg h2,h3.mono hg⟩
theorem Sl.nil {α:Type} (k:Kd α) (G:Gh) (A:Option Addr):Sl k G A []:=fun i x e=>by simp at e
def Kd.int (i:IntKind):Kd Int where
 n:=1
 K _ x cs:=cs=[.int i x]
 mono _ h:=h
 len h:=by rw[h];rfl
 one h:=by rw[h];rfl
def Kd.bool:Kd Bool where
 n:=1
 K _ x cs:=cs=[.bool x]
 mono _ h:=h
 len h:=by rw[h];rfl
 one h:=by rw[h];rfl
def Kd.str:Kd ByteArray where
 n:=1
 K _ x cs:=cs=[.string x]
 mono _ h:=h
 len h:=by rw[h];rfl
 one h:=by rw[h];rfl
def Kd.slice {α:Type} (k:Kd α):Kd (List α) where
 n:=1
 K G xs cs:=∃A c,cs=[.slice A xs.length c]∧xs.length≤c∧Sl k G A xs
 mono hg h:=let ⟨A,c,h1,h2,h3⟩:=h;⟨A,c,h1,h2,h3.mono hg⟩
 len h:=let ⟨A,c,h1,_,_⟩:=h;by rw[h1];rfl
 one h:=let ⟨A,c,h1,_,_⟩:=h;by rw[h1];rfl
def Fn (P:Program) (f:FuncId) (vs:Array Value) (G:Gh) (H:List Own) (R:Ending→Gh→List Own→Prop):Prop:=
 ∀w,Sat G H w→Ex (covs H) w→Calls P f vs w fun e w'=>∃G' H',R e G' H'∧Sat G' H' w'∧Stp (covs H) G w G' H' w'
theorem Fn.mono {P:Program} {f:FuncId} {vs:Array Value} {G:Gh} {H:List Own} {R R':Ending→Gh→List Own→Prop} (h:Fn P f vs G H R) (hr:∀e G' H',R e G' H'→R' e G' H'):Fn P f vs G H R':=
 fun w hs hx=>(h w hs hx).mono fun _ _ ⟨G',H',r,s⟩=>⟨G',H',hr _ _ _ r,s⟩
theorem Sat.frame {G G':Gh} {H H' F:List Own} {w w':World} (h:Sat G (H++F) w) (h':Sat G' H' w') (hp:Stp (covs H) G w G' H' w'):Sat G' (H'++F) w':=by
 have hap:∀x∈H,∀y∈F,Own.apart x y:=(List.pairwise_append.1 h.apart).2.2
 have hnot:∀y∈F,∀b o,y.cov b o→¬covs H b o:=fun y hy b o hc ⟨x,hx,hc'⟩=>hap x hx y hy b o hc' hc
 have hF:∀y∈F,y.holds w:=fun y hy=>h.hold y (by simp[hy])
 refine⟨h'.agr,fun x hx=>?_,?_,fun x hx b o hc=>?_⟩
 ·rcases List.mem_append.1 hx with hx | hx
  ·exact h'.hold x hx
  ·cases x with
   | blk b ob=>
    have hb:b<w.heap.size:=Own.holds_lt (hF _ hx) (b:=b) (o:=0) rfl
    have:=(hp.keep b hb).1 fun o=>hnot _ hx b o rfl
    exact this.trans (hF _ hx)
   | spare b lo hi=>
    intro hlt
    obtain⟨c,T,e1,e2⟩:=hF _ hx hlt
    have hb:b<w.heap.size:=Own.holds_lt (hF _ hx) (b:=b) (o:=lo) ⟨rfl,Nat.le_refl _,hlt⟩
    obtain⟨c',e3,e4,_⟩:=(hp.keep b hb).2 c T (0,0) e1
    exact⟨c',T,e3,by omega⟩
 ·rw[List.pairwise_append]
  refine⟨h'.apart,(List.pairwise_append.1 h.apart).2.1,fun x hx y hy b o hc hc'=>?_⟩
  rcases hp.own x hx b o hc with h1 | h1
  ·exact hnot y hy b o hc' h1
  ·have:=Own.holds_lt (hF y hy) hc'
   omega
 ·rcases List.mem_append.1 hx with hx | hx
  ·exact h'.ghost x hx b o hc
  ·cases hg:G' b o with
   | none=>rfl
   | some v=>
    rcases hp.gnew b o v hg with h1 | h1 | h1
    ·rw[h.ghost x (by simp[hx]) b o hc]at h1;cases h1
    ·exact absurd h1 (hnot x hx b o hc)
    ·have:=Own.holds_lt (hF x hx) hc
     omega
theorem Stp.frame {G G':Gh} {H H' F:List Own} {w w':World} (hp:Stp (covs H) G w G' H' w'):Stp (covs (H++F)) G w G' (H'++F) w' where
 size:=hp.size
 keep b hb:=(hp.keep b hb).mono fun o ⟨x,hx,hc⟩=>⟨x,by simp[hx],hc⟩
 gle:=hp.gle
 gnew b o v h:=by
  rcases hp.gnew b o v h with h | ⟨x,hx,hc⟩ | h
  ·exact .inl h
  ·exact .inr (.inl ⟨x,by simp[hx],hc⟩)
  ·exact .inr (.inr h)
 own x hx b o hc:=by
  rcases List.mem_append.1 hx with hx | hx
  ·rcases hp.own x hx b o hc with⟨y,hy,h⟩ | h
   ·exact .inl ⟨y,by simp[hy],h⟩
   ·exact .inr h
  ·exact .inl ⟨x,by simp[hx],hc⟩
 weq:=hp.weq
section
variable {P:Program} {Q:Exit→Act→World→Prop} {cx:Cx} {L:List (Nat×Value)} {G:Gh} {H:List Own} {K:List (Nat×Value)→Gh→List Own→Prop}
 {d:Option Tmp} {ty:TypeId} {pos:String} {af:Array Edge} {gu:Option (Nat×Bool)}
def evl (L:List (Nat×Value)):List Operand→Option (List Value)
 | []=>some []
 | x::r=>match ev L x,evl L r with
  | some v,some vs=>some (v::vs)
  | _,_=>none
def evs (L:List (Nat×Value)) (xs:Array Operand):Option (List Value):=evl L xs.toList
theorem St.evs {a:Act} {w:World} (st:St cx L G H a w) {xs:Array Operand} {vs:List Value} (h:evs L xs=some vs):xs.map a.eval=vs.toArray:=by
 have key:∀(l:List Operand) (vs:List Value),evl L l=some vs→l.map a.eval=vs:=by
  intro l
  induction l with
  | nil=>intro vs h;simp only[evl,Option.some.injEq]at h;subst h;rfl
  | cons x l ih=>
   intro vs h
   simp only[evl]at h
   cases hx:ev L x with
   | none=>simp[hx]at h
   | some v=>
    cases hl:evl L l with
    | none=>simp[hx,hl]at h
    | some us=>
     simp only[hx,hl,Option.some.injEq]at h
     subst h
     simp[st.eval hx,ih us hl]
 apply Array.ext'
 simp[key xs.toList vs h]
class Body (P:Program) (f:Nat):Prop where
 h:∀(args:Array Value) (w:World),(callFunc f args).run P w= .ok (.enter f args) w
theorem OW.call {f:Nat} {xs:Array Operand} {ats:Array TypeId} {vs:List Value} {Hf F:List Own} {R:Ending→Gh→List Own→Prop} (hx:Gb.evs L xs=some vs) [hb:Body P f] (hp:H.Perm (Hf++F))
  (hf:Fn P f vs.toArray G Hf R) (hd:dOk d cx.N=true)
  (k:∀v G' H',R (.returned v) G' H'→G.le G'→K (putL d v L) G' (H'++F))
  (kp:∀ch G' H',R (.panicked ch) G' H'→G.le G'→WK (Q (.panic ch)) cx L G' (H'++F))
  (ko:∀G' H',¬R .outgrown G' H'):OW P Q ⟨d, .call { callee:= .value (.func f),args:=xs,argTypes:=ats },ty,pos,af,gu⟩ cx L G H K:=by
 intro next hn a w st
 have st':=st.perm hp
 have hrun:(execOp a.eval ⟨d, .call { callee:= .value (.func f),args:=xs,argTypes:=ats },ty,pos,af,gu⟩).run P w= .ok (.enter f vs.toArray) w:=by
  have e:=st.evs hx
  simp[execOp,resolve,Deferred.ofValue,Act.eval,invoke,e,hb.h]
 unfold Oper.wp
 rw[hrun]
 simp only[Oper.upon]
 refine(hf w (st'.sat.sub (List.sublist_append_left Hf F)) (cx.ex.then st'.stp fun x hx=>List.mem_append_left _ hx)).mono fun e w' ⟨G',H',r,hs,hp'⟩=>?_
 have hs':=st'.sat.frame hs hp'
 have hst:=st'.stp.then (hp'.frame (F:=F))
 cases e with
 | returned v=>exact hn _ _ _ (k v G' H' r hp'.gle) _ _ (st.put d v hd hs' hst)
 | panicked ch=>exact kp ch G' H' r hp'.gle a w' ⟨st.size,st.defs,st.slot,hs',hst⟩
 | outgrown=>exact(ko G' H' r).elim
end
section
variable {P:Program} {Q:Exit→Act→World→Prop} {cx:Cx} {L:List (Nat×Value)} {G:Gh} {H:List Own} {K:List (Nat×Value)→Gh→List Own→Prop}
 {d:Option Tmp} {ty:TypeId} {pos:String} {af:Array Edge} {gu:Option (Nat×Bool)}
theorem OW.callR {f:Nat} {xs:Array Operand} {ats:Array TypeId} {vs:List Value} {Hf F:List Own} {R:Ending→Gh→List Own→Prop} (hx:Gb.evs L xs=some vs) [hb:Body P f] (hp:H.Perm (Hf++F))
  (hf:Fn P f vs.toArray G Hf R) (hd:dOk d cx.N=true) (hno:∀e G' H',R e G' H'→∃v,e= .returned v)
  (k:∀v G' H',R (.returned v) G' H'→G.le G'→K (putL d v L) G' (H'++F)):OW P Q ⟨d, .call { callee:= .value (.func f),args:=xs,argTypes:=ats },ty,pos,af,gu⟩ cx L G H K:=
 OW.call hx hp hf hd k (fun ch G' H' h=>by obtain⟨v,hv⟩:=hno _ _ _ h;cases hv) (fun G' H' h=>by obtain⟨v,hv⟩:=hno _ _ _ h;cases hv)
theorem perm_all (H:List Own):H.Perm (H++[]):=by rw[List.append_nil]
end
def QF (P:Program) (fn:Func) (G0:Gh) (w0:World) (H0:List Own) (R:Ending→Gh→List Own→Prop):Exit→Act→World→Prop:=
 bodyPost P fn fun e w'=>∃G' H',R e G' H'∧Sat G' H' w'∧Stp (covs H0) G0 w0 G' H' w'
def argL:Nat→List Value→List (Nat×Value)
 | _,[]=>[]
 | i,v::r=>(i,v)::argL (i+1) r
theorem argL_slot {N:Nat} (vs:List Value):∀(pre:List Value) t v,lk (argL pre.length vs) t=some v→((pre++vs).toArray++Array.replicate N undef)[t]? =some v:=by
 induction vs with
 | nil=>intro pre t v h;simp[argL,lk]at h
 | cons u vs ih=>
  intro pre t v h
  simp only[argL,lk]at h
  by_cases e:pre.length=t
  ·subst e
   simp only[Nat.beq_refl,cond_true,Option.some.injEq]at h
   subst h
   rw[Array.getElem?_append_left (by simp)]
   simp
  ·have hb:Nat.beq pre.length t=false:=by cases hbb:Nat.beq pre.length t with | false=>rfl | true=>exact absurd (Nat.eq_of_beq_eq_true hbb) e
   rw[hb]at h
   have:=ih (pre++[u]) t v (by simpa using h)
   simpa using this
theorem Fn.enter {P:Program} {f:FuncId} {fn:Func} {c:Code} {vs:List Value} {G:Gh} {H:List Own} {R:Ending→Gh→List Own→Prop} (hf:P.funcs[f]? =some fn) (hb:fn.body=some c) (hn':Nat.ble vs.length fn.ntmps=true)
  (h:∀w0:W0 H,WC P c (QF P fn G w0.w H R) ⟨w0.w,G,covs H,fn.ntmps,[],w0.ex⟩ (argL 0 vs) G H):Fn P f vs.toArray G H R:=by
 have hn:=Nat.le_of_ble_eq_true hn'
 intro w hs hx
 refine calls_of_wp hf hb (h ⟨w,hx⟩ _ w ⟨by simp;omega,rfl,fun t v ht=>?_,hs,Stp.refl G H w⟩)
 have:=argL_slot (N:=fn.ntmps - vs.length) vs [] t v ht
 simpa using this
section
variable {P:Program} {fn:Func} {G0 G:Gh} {H0 H:List Own} {w0:W0 H0} {R:Ending→Gh→List Own→Prop} {L:List (Nat×Value)} {N:Nat}
theorem QF.of {e:Exit} (he:e= .ret∨e= .normal) (v:Value) (hr:∀a w,St ⟨w0.w,G0,covs H0,N,[],w0.ex⟩ L G H a w→(results fn a.tmps).run P w= .ok v w) {H':List Own} (hs:H'.Sublist H) (h:R (.returned v) G H'):WK (QF P fn G0 w0.w H0 R e) ⟨w0.w,G0,covs H0,N,[],w0.ex⟩ L G H:=by
 intro a w st
 have st':=st.weaken (L':=L) (fun _ _ h=>h) hs
 have:a.defers=[]∧∃v,(results fn a.tmps).run P w= .ok v w∧∃G' H',R (.returned v) G' H'∧Sat G' H' w∧Stp (covs H0) G0 w0.w G' H' w:=⟨st.defs,v,hr a w st,G,H',h,st'.sat,st'.stp⟩
 rcases he with rfl | rfl
 ·exact this
 ·exact this
theorem QF.panic {ch:List PanicEntry} {H':List Own} (hs:H'.Sublist H) (h:R (.panicked ch) G H'):WK (QF P fn G0 w0.w H0 R (.panic ch)) ⟨w0.w,G0,covs H0,N,[],w0.ex⟩ L G H:=by
 intro a w st
 have st':=st.weaken (L':=L) (fun _ _ h=>h) hs
 exact⟨st.defs,G,H',h,st'.sat,st'.stp⟩
inductive RV (P:Program) (L:List (Nat×Value)) (H:List Own):ResultVar→Value→Prop where
 | tmp {t:Tmp} {v:Value} (h:lk L t=some v):RV P L H (.tmp t) v
 | cell {p t n by_:Nat} {z:Value} {b j:Nat} {c:Array Value} {t':TypeId} {fr:Nat×Nat} {cs:List Value} (h:lk L p=some (.pointer (some ⟨b,0,none⟩))) (ha:Agg P t true) (hi:Inf P t n by_ z) (hj:At H j (.blk b (.cells c t' fr)))
   (hc:c.toList=cs) (hl:cs.length=n):RV P L H (.cell p t) (.agg cs.toArray)
def rvS (tmps:Array Value):ResultVar→Sem Value
 | .tmp t=>pure (tmps.getD t undef)
 | .cell a t=>do loadVar t (←asAddr (tmps.getD a undef))
theorem results_rvS (fn:Func) (tmps:Array Value):results fn tmps=(do let vs←fn.results.mapM (rvS tmps);pure (if h:vs.size=1 then vs[0]else .tuple vs)):=rfl
theorem RV.run {cx:Cx} {r:ResultVar} {v:Value} (h:RV P L H r v) {a:Act} {w:World} (st:St cx L G H a w):(rvS a.tmps r).run P w= .ok v w:=by
 cases h with
 | tmp h=>simp[rvS,Array.getD_eq_getD_getElem?,st.slot _ _ h]
 | cell h ha hi hj hc hl=>
  rename_i p t n by_ z b j c t' fr cs
  have:=run_loadVarN (P:=P) (w:=w) (b:=b) (o:=0) ha hi hl (fun j v hv=>by
   rw[Own.cell (st.sat.hold _ (List.mem_of_getElem? hj.get))]
   rw[←hc]at hv
   simpa using hv)
  simp[rvS,Array.getD_eq_getD_getElem?,st.slot _ _ h,asAddr,this]
theorem QF.ret0 {e:Exit} (he:e= .ret∨e= .normal) (hres:fn.results= #[]) {H':List Own} (hs:H'.Sublist H) (h:R (.returned (.tuple #[])) G H'):WK (QF P fn G0 w0.w H0 R e) ⟨w0.w,G0,covs H0,N,[],w0.ex⟩ L G H:=
 QF.of he (.tuple #[]) (fun a w st=>by simp[results,hres]) hs h
theorem QF.ret1 {e:Exit} (he:e= .ret∨e= .normal) {r:ResultVar} {v:Value} (hres:fn.results= #[r]) (hv:RV P L H r v) {H':List Own} (hs:H'.Sublist H) (h:R (.returned v) G H'):WK (QF P fn G0 w0.w H0 R e) ⟨w0.w,G0,covs H0,N,[],w0.ex⟩ L G H:=
 QF.of he v (fun a w st=>by simp[results_rvS,hres,hv.run st]) hs h
end
end
section
open Go
def NW {α:Type} :Sem α→Prop
 | .pure _=>True
 | .load _ _ k=>∀v,NW (k v)
 | .store .. =>False
 | .new _ k=>∀r,NW (k r)
 | .shape _ k=>∀s,NW (k s)
 | .freeze .. =>False
 | .frozen _ k=>∀b,NW (k b)
 | .getObj _ k=>∀o,NW (k o)
 | .setObj .. =>False
 | .choose _ k=>∀n,NW (k n)
 | .sys .. =>False
 | .program k=>∀p,NW (k p)
 | .mark _ k=>NW k
 | .halt _=>True
theorem NW.bind {α β:Type} {x:Sem α} {f:α→Sem β} (h:NW x) (hf:∀a,NW (f a)):NW (x>>= f):=by
 show NW (x.bind f)
 induction x with
 | pure a=>exact hf a
 | load m a k ih=>exact fun v=>ih v (h v)
 | store=>exact h.elim
 | new o k ih=>exact fun r=>ih r (h r)
 | shape r k ih=>exact fun s=>ih s (h s)
 | freeze=>exact h.elim
 | frozen a k ih=>exact fun b=>ih b (h b)
 | getObj r k ih=>exact fun o=>ih o (h o)
 | setObj=>exact h.elim
 | choose q k ih=>exact fun n=>ih n (h n)
 | sys=>exact h.elim
 | program k ih=>exact fun p=>ih p (h p)
 | mark m k ih=>exact ih h
 | halt=>trivial
theorem NW.pure {α:Type} (a:α):NW (Pure.pure a:Sem α):=trivial
theorem NW.map {α β:Type} {x:Sem α} (h:NW x) (f:α→β):NW (f<$>x):=h.bind (x:=x) fun _=>trivial
def Ext (w w':World):Prop:=w.heap.size≤w'.heap.size∧∀b,b<w.heap.size→w'.heap[b]? =w.heap[b]?
theorem Ext.refl (w:World):Ext w w:=⟨Nat.le_refl _,fun _ _=>rfl⟩
theorem Ext.trans {w w' w'':World} (h:Ext w w') (h':Ext w' w''):Ext w w'':=⟨Nat.le_trans h.1 h'.1,fun b hb=>(h'.2 b (Nat.lt_of_lt_of_le hb h.1)).trans (h.2 b hb)⟩
theorem NW.run {α:Type} {P:Program} (x:Sem α):NW x→∀w a w',x.run P w= .ok a w'→Ext w w':=by
 induction x with
 | pure a=>intro _ w a w' e;cases e;exact Ext.refl _
 | load m a k ih=>
  intro h w v w' e
  simp only[Sem.run]at e
  split at e
  ·exact ih _ (h _) _ _ _ e
  ·split at e
   ·exact ih _ (h _) _ _ _ e
   ·cases e
 | store=>intro h;exact h.elim
 | new o k ih=>
  intro h w v w' e
  simp only[Sem.run]at e
  refine Ext.trans ⟨by simp,fun b hb=>?_⟩ (ih _ (h _) _ _ _ e)
  exact World.heap_alloc_lt w o b hb
 | shape r k ih=>intro h w v w' e;simp only[Sem.run]at e;exact ih _ (h _) _ _ _ e
 | freeze=>intro h;exact h.elim
 | frozen a k ih=>intro h w v w' e;simp only[Sem.run]at e;exact ih _ (h _) _ _ _ e
 | getObj r k ih=>
  intro h w v w' e
  simp only[Sem.run]at e
  split at e
  ·cases e
  ·exact ih _ (h _) _ _ _ e
  ·cases e
 | setObj=>intro h;exact h.elim
 | choose q k ih=>
  intro h w v w' e
  simp only[Sem.run]at e
  by_cases hf:q.forced=true
  ·rw[if_pos hf]at e;exact ih _ (h _) _ _ _ e
  ·rw[if_neg hf]at e;have h2:=ih _ (h _) _ _ _ e;exact⟨h2.1,h2.2⟩
 | sys=>intro h;exact h.elim
 | program k ih=>intro h w v w' e;simp only[Sem.run]at e;exact ih _ (h _) _ _ _ e
 | mark m k ih=>intro h w v w' e;simp only[Sem.run]at e;exact ih h _ _ _ e
 | halt=>intro h w v w' e;cases e
theorem nw_load (a:Addr) (m:Mode):NW (load a m):=fun _=>trivial
theorem nw_newObj (o:Obj):NW (newObj o):=fun _=>trivial
theorem nw_shape (r:Nat):NW (shape r):=fun _=>trivial
theorem nw_getObj (r:Nat):NW (getObj r):=fun _=>trivial
theorem nw_choose (q:Question):NW (choose q):=fun _=>trivial
theorem nw_program:NW program:=fun _=>trivial
theorem nw_stuck {α:Type} (s:String):NW (stuck s:Sem α):=trivial
theorem nw_unsupported {α:Type} (u:Unsupported):NW (unsupported u:Sem α):=trivial
theorem nw_typeInfo (t:TypeId):NW (typeInfo t):=by unfold typeInfo;refine nw_program.bind fun p=>?_;split<;>trivial
theorem nw_underlying (t:TypeId):NW (underlying t):=by unfold underlying;refine nw_program.bind fun p=>?_;split<;>trivial
theorem nw_zeroValue (t:TypeId):NW (zeroValue t):=by unfold zeroValue;refine(nw_typeInfo t).bind fun i=>?_;split<;>trivial
theorem nw_sizeOf (t:TypeId):NW (sizeOf t):=(nw_typeInfo t).bind fun _=>trivial
theorem nw_isAgg (t:TypeId):NW (isAgg t):=by unfold isAgg;refine(nw_underlying t).bind fun d=>?_;split<;>trivial
theorem nw_loadCellsFrom (a:Addr):∀(n i:Nat) (acc:Array Value),NW (loadCellsFrom a i n acc)
 | 0,_,_=>trivial
 | n+1,i,acc=>(nw_load _ _).bind fun v=>nw_loadCellsFrom a n (i+1) (acc.push v)
theorem nw_loadVar (t:TypeId) (a:Addr):NW (loadVar t a):=by
 unfold loadVar
 refine(nw_isAgg t).bind fun b=>?_
 split
 ·exact(nw_sizeOf t).bind fun n=>(nw_loadCellsFrom a n 0 #[]).bind fun _=>trivial
 ·exact nw_load a _
theorem nw_newVar (t:TypeId) (v:Value):NW (newVar t v):=(nw_newObj _).bind fun _=>trivial
theorem nw_elemOf (t:TypeId):NW (elemOf t):=by unfold elemOf;refine(nw_underlying t).bind fun d=>?_;split<;>trivial
theorem nw_runtimePanic {α:Type} (e:RuntimeError):NW (runtimePanic e:Sem α):=by
 unfold runtimePanic
 refine nw_program.bind fun p=>?_
 cases e<;>first
  | exact trivial
  | exact(nw_elemOf _).bind fun _=>(nw_newVar _ _).bind fun _=>trivial
theorem nw_boundsPanic {α:Type} (k:IntKind) (x y:Int) (c:BoundsCode):NW (boundsPanic k x y c:Sem α):=by
 unfold boundsPanic
 split
 ·exact((nw_choose _).map _).bind fun _=>nw_runtimePanic _
 ·exact(NW.pure _).bind fun _=>nw_runtimePanic _
theorem nw_asIntOf (v:Value):NW (asIntOf v):=by unfold asIntOf;split<;>trivial
theorem nw_asBool (v:Value):NW (asBool v):=by unfold asBool;split<;>trivial
theorem nw_sureAddr (v:Value):NW (Instr.sureAddr v):=by unfold Instr.sureAddr;split<;>trivial
theorem nw_viewAt (r:Nat):NW (viewAt r):=by
 unfold viewAt
 refine(nw_shape r).bind fun s=>?_
 split
 ·trivial
 ·refine(nw_getObj r).bind fun o=>?_
  split<;>trivial
theorem nw_noView (a:Addr):NW (noView a):=by unfold noView;refine(nw_viewAt _).bind fun v=>?_;split<;>trivial
theorem nw_byteOf (a:Addr):NW (byteOf a):=by
 unfold byteOf
 split
 ·trivial
 ·refine nw_program.bind fun p=>(nw_noView a).bind fun _=>(nw_shape _).bind fun s=>?_
  split
  ·dsimp only
   split
   ·trivial
   ·split<;>trivial
  ·trivial
theorem nw_partAt (a:Addr) (c b:Nat):NW (partAt a c b):=(nw_byteOf _).bind fun _=>(nw_byteOf _).bind fun _=>trivial
theorem nw_fieldPlace (a:Addr) (f:Field):NW (fieldPlace a f):=by unfold fieldPlace;refine(nw_sizeOf _).bind fun n=>?_;split;exact nw_partAt _ _ _;trivial
theorem nw_fieldAt (t:TypeId) (v:Value) (i:Nat):NW (Instr.fieldAt t v i):=by
 unfold Instr.fieldAt
 refine(nw_underlying t).bind fun d=>?_
 split
 ·split
  ·exact(nw_sureAddr v).bind fun a=>(nw_fieldPlace _ _).bind fun _=>trivial
  ·trivial
 ·trivial
theorem nw_sliceBound (x:Value) (y:Nat) (c:BoundsCode):NW (Instr.sliceBound x y c):=by
 unfold Instr.sliceBound
 refine(nw_asIntOf x).bind fun p=>?_
 dsimp only
 split
 ·trivial
 ·exact nw_boundsPanic _ _ _ _
theorem nw_sliceBounds (s:Bool) (n c:Nat) (lo hi mx:Option Value):NW (Instr.sliceBounds s n c lo hi mx):=by
 unfold Instr.sliceBounds
 repeat' (first | with_reducible trivial | exact nw_sliceBound _ _ _ | exact nw_underlying _ | exact nw_sizeOf _ | exact nw_boundsPanic _ _ _ _ | exact nw_sureAddr _ | exact NW.pure _ | exact nw_stuck _ | exact nw_unsupported _ | with_reducible refine NW.bind ?_ (fun _=>?_) | split | dsimp only)
theorem nw_slice (t:TypeId) (x:Value) (lo hi mx:Option Value):NW (Instr.slice t x lo hi mx):=by
 unfold Instr.slice
 refine(nw_underlying t).bind fun d=>?_
 split
 ·split
  ·trivial
  ·exact(nw_sliceBounds _ _ _ _ _ _).bind fun _=>trivial
 ·exact(nw_sliceBounds _ _ _ _ _ _).bind fun _=>(nw_sizeOf _).bind fun _=>trivial
 ·refine NW.bind (by unfold asAddr;split<;>first | trivial | exact nw_runtimePanic _) fun a=>(nw_underlying _).bind fun d=>?_
  split
  ·exact(nw_sliceBounds _ _ _ _ _ _).bind fun _=>(nw_sizeOf _).bind fun _=>trivial
  ·trivial
 ·trivial
theorem nw_sliceAt (t:TypeId) (x:Value) (lo hi mx:Option Value):NW (Instr.sliceAt t x lo hi mx):=by
 unfold Instr.sliceAt
 refine(nw_underlying t).bind fun d=>?_
 split
 ·exact(nw_sureAddr x).bind fun a=>(nw_sliceBounds _ _ _ _ _ _).bind fun _=>(nw_sizeOf _).bind fun _=>trivial
 ·exact nw_slice _ _ _ _ _
theorem nw_indexAt (t:TypeId) (x i:Value):NW (Instr.indexAt t x i):=by
 unfold Instr.indexAt
 refine(nw_asIntOf i).bind fun p=>?_
 repeat' (first | with_reducible trivial | exact nw_sliceBound _ _ _ | exact nw_underlying _ | exact nw_sizeOf _ | exact nw_boundsPanic _ _ _ _ | exact nw_sureAddr _ | exact NW.pure _ | exact nw_stuck _ | exact nw_unsupported _ | with_reducible refine NW.bind ?_ (fun _=>?_) | split | dsimp only)
theorem nw_part (t:TypeId) (cs:Array Value) (o:Nat):NW (part t cs o):=by
 unfold part
 refine(nw_isAgg t).bind fun b=>?_
 split
 ·exact(nw_sizeOf t).bind fun _=>trivial
 ·split<;>trivial
theorem nw_field (t:TypeId) (x:Value) (i:Nat):NW (Instr.field t x i):=by
 unfold Instr.field
 refine(nw_underlying t).bind fun d=>?_
 split
 ·split
  ·exact NW.bind (by unfold asAgg;split<;>trivial) fun _=>nw_part _ _ _
  ·trivial
 ·trivial
theorem nw_index (t:TypeId) (x i:Value):NW (Instr.index t x i):=by
 unfold Instr.index
 refine(nw_asIntOf i).bind fun p=>(nw_underlying t).bind fun d=>?_
 split
 ·split
  ·exact(nw_sizeOf _).bind fun _=>nw_part _ _ _
  ·exact nw_boundsPanic _ _ _ _
 ·split
  ·trivial
  ·exact nw_boundsPanic _ _ _ _
 ·trivial
theorem nw_len (ats:Array TypeId) (t:TypeId) (args:Array Value):NW (Builtin.len_ ats t args):=by
 unfold Builtin.len_
 split
 ·refine(nw_underlying _).bind fun d=>?_
  split<;>first
   | trivial
   | exact(nw_underlying _).bind fun d=>by split<;>trivial
   | exact(nw_getObj _).bind fun d=>by split<;>trivial
 ·trivial
theorem nw_followBlind:∀(l:List FieldStep) (t:TypeId) (x:Option Value),NW (followBlind l t x)
 | [],_,_=>trivial
 | s::rest,t,x=>by
  unfold followBlind
  refine(nw_underlying _).bind fun d=>?_
  split
  ·split
   ·split<;>first
     | trivial
     | exact nw_followBlind rest _ _
     | exact(nw_part _ _ _).bind fun _=>nw_followBlind rest _ _
   ·trivial
  ·trivial
theorem nw_nilAhead:∀(n:Nat) (t:TypeId) (v:Value) (name:String),NW (nilAhead n t v name)
 | 0,_,_,_=>trivial
 | n+1,t,v,name=>by
  unfold nilAhead
  refine(nw_typeInfo t).bind fun i=>?_
  split
  ·refine(nw_followBlind _ _ _).bind fun r=>?_
   split
   ·trivial
   ·split<;>first
     | trivial
     | exact nw_nilAhead n _ _ _
     | (refine(nw_underlying _).bind fun d=>?_;split<;>trivial)
  ·trivial
theorem nw_mapM {α β:Type} (f:α→Sem β) (hf:∀a,NW (f a)):∀(l:List α),NW (l.mapM f)
 | []=>NW.pure _
 | a::l=>by
  rw[List.mapM_cons]
  exact(hf a).bind fun _=>(nw_mapM f hf l).bind fun _=>NW.pure _
theorem nw_mapMA {α β:Type} (f:α→Sem β) (hf:∀a,NW (f a)) (l:Array α):NW (l.mapM f):=by
 rw[Array.mapM_eq_mapM_toList]
 exact(nw_mapM f hf l.toList).map _
theorem nw_build (t:TypeId) (ps:Array (Nat×Value)):NW (Instr.build t ps):=by
 unfold Instr.build
 refine(nw_zeroValue t).bind fun z=>(nw_underlying t).bind fun d=>?_
 split
 ·refine(nw_mapMA _ (fun f=>(nw_sizeOf _).bind fun _=>NW.pure _) _).bind fun pl=>?_
  split<;>trivial
 ·refine(nw_sizeOf _).bind fun n=>?_
  split<;>trivial
 ·trivial
theorem nw_buildSlice (t:TypeId) (n:Nat) (ps:Array (Nat×Value)):NW (Instr.buildSlice t n ps):=by
 unfold Instr.buildSlice
 repeat' (first | with_reducible trivial | exact nw_underlying _ | exact nw_sizeOf _ | exact nw_zeroValue _ | exact nw_newObj _ | exact(nw_newObj _).bind fun _=>NW.pure _ | exact NW.pure _ | exact nw_stuck _ | exact nw_unsupported _ | exact NW.map (nw_zeroValue _) _ | with_reducible refine NW.bind ?_ (fun _=>?_) | split | dsimp only)
theorem NWrp {α:Type} {P:Program} {w:World} :(runtimePanic .nilDeref:Sem α).run P w= .halt (.panic (.iface P.rt.errorString (strVal "invalid memory address or nil pointer dereference"))) w:=by
 simp[runtimePanic]
def Mild (P:Program) (o:Oper):Prop:=∀(ρ:Operand→Value) (w:World) (n:Next) (w':World),(execOp ρ o).run P w= .ok n w'→(∃v,n= .value v)∧Ext w w'
theorem mild_of {P:Program} {o:Oper} (h:∀ρ,∃s:Sem Value,NW s∧execOp ρ o=(do pure (.value (←s)))):Mild P o:=by
 intro ρ w n w' e
 obtain⟨s,hs,he⟩:=h ρ
 rw[he]at e
 simp only[Sem.run_bind]at e
 cases hr:s.run P w with
 | halt x y=>rw[hr]at e;cases e
 | ok v w1=>
  rw[hr]at e
  cases e
  exact⟨⟨v,rfl⟩,NW.run s hs _ _ _ hr⟩
def mildB (o:Oper):Bool:=
 match o.op with
 | .move _ | .assign _ | .pick .. | .alloc _ | .box .. | .load .. | .fieldAddr .. | .field .. | .indexAddr .. | .index .. | .slice .. | .nilCheck _ | .build .. | .buildSlice .. =>true
 | .call { callee:= .builtin .len, .. } =>true
 | _=>false
theorem mild_of_B {P:Program} {o:Oper} (h:mildB o=true):Mild P o:=by
 obtain⟨d,op,ty,pos,af,gu⟩:=o
 cases op
 case call c=>
  obtain⟨callee,args,ats⟩:=c
  cases callee with
  | builtin b=>
   cases b<;>simp only[mildB]at h<;>try (cases h;done)
   exact mild_of fun ρ=>⟨_,nw_len _ _ _,rfl⟩
  | value f=>simp[mildB]at h
  | invoke r m=>simp[mildB]at h
 all_goals (simp only[mildB]at h)
 all_goals (try (cases h;done))
 case move x=>exact mild_of fun ρ=>⟨pure (ρ x),trivial,rfl⟩
 case assign x=>exact mild_of fun ρ=>⟨pure (ρ x),trivial,rfl⟩
 case pick c a b=>exact mild_of fun ρ=>⟨asBool (ρ c)>>= fun t=>pure (if t then ρ a else ρ b),by exact NW.bind (nw_asBool _) (fun _=>NW.pure _),by simp[execOp]⟩
 case alloc t=>exact mild_of fun ρ=>⟨zeroValue t>>= fun z=>newVar t z>>= fun a=>pure (.pointer (some a)),(nw_zeroValue t).bind fun z=>(nw_newVar t z).bind fun _=>NW.pure _,by simp[execOp,Instr.alloc]⟩
 case box t x=>exact mild_of fun ρ=>⟨newVar t (ρ x)>>= fun a=>pure (.pointer (some a)),(nw_newVar t (ρ x)).bind fun _=>NW.pure _,by simp[execOp,Instr.box]⟩
 case load t x=>exact mild_of fun ρ=>⟨Instr.loadAt t (ρ x),(nw_sureAddr (ρ x)).bind fun a=>nw_loadVar t a,rfl⟩
 case fieldAddr t x i=>exact mild_of fun ρ=>⟨_,nw_fieldAt t (ρ x) i,rfl⟩
 case field t x i=>exact mild_of fun ρ=>⟨_,nw_field t (ρ x) i,rfl⟩
 case indexAddr t x i=>exact mild_of fun ρ=>⟨_,nw_indexAt t (ρ x) (ρ i),rfl⟩
 case index t x i=>exact mild_of fun ρ=>⟨_,nw_index t (ρ x) (ρ i),rfl⟩
 case slice t x lo hi mx=>exact mild_of fun ρ=>⟨_,nw_sliceAt t (ρ x) _ _ _,rfl⟩
 case build t ps=>exact mild_of fun ρ=>⟨_,nw_build _ _,rfl⟩
 case buildSlice t n ps=>exact mild_of fun ρ=>⟨_,nw_buildSlice _ _ _,rfl⟩
 case nilCheck x=>
  intro ρ w n w' e
  simp only[execOp]at e
  split at e
  ·rw[NWrp]at e;cases e
  ·rw[NWrp]at e;cases e
  ·rw[NWrp]at e;cases e
  ·split at e
   ·rw[NWrp]at e;cases e
   ·simp only[Sem.run_bind,run_program,Result.andThen_ok]at e
    cases hr:(nilAhead (P.types.size+Made.depth) _ _ _).run P w with
    | halt x y=>rw[hr]at e;cases e
    | ok r w1=>
     rw[hr]at e
     simp only[Result.andThen_ok]at e
     have hx:=NW.run _ (nw_nilAhead _ _ _ _) _ _ _ hr
     split at e
     ·cases e
     ·cases e;exact⟨⟨_,rfl⟩,hx⟩
   ·cases e;exact⟨⟨_,rfl⟩,Ext.refl _⟩
  ·cases e;exact⟨⟨_,rfl⟩,Ext.refl _⟩
def descs (ops:List Oper) (i:Nat):Array Bool:=ops.foldl (fun acc o=>acc.push (o.after.any fun e=>Region.binds .any e&&(e.on==i || acc.getD e.on false))) #[]
def descsFrom (i:Nat):List Oper→Array Bool→Array Bool
 | [],acc=>acc
 | o::r,acc=>descsFrom i r (acc.push (o.after.any fun e=>Region.binds .any e&&(e.on==i || acc.getD e.on false)))
theorem descsFrom_get (i:Nat):∀(r:List Oper) (acc:Array Bool) (j:Nat),j<acc.size→(descsFrom i r acc)[j]? =acc[j]?
 | [],_,_,_=>rfl
 | o::r,acc,j,h=>by
  rw[descsFrom,descsFrom_get i r _ j (by simp;omega)]
  rw[Array.getElem?_push_lt h]
  simp[h]
theorem descsFrom_flag (i:Nat):∀(r:List Oper) (acc:Array Bool) (j:Nat) (o:Oper),r[j]? =some o→(descsFrom i r acc).getD (acc.size+j) false=true→
  ∃e∈o.after,Region.binds .any e=true∧(e.on=i∨(descsFrom i r acc).getD e.on false=true)
 | [],_,_,_,h,_=>by simp at h
 | o::r,acc,0,o',h,hf=>by
  simp only[List.getElem?_cons_zero,Option.some.injEq]at h
  subst h
  rw[descsFrom]at hf⊢
  generalize hb:(o.after.any fun e=>Region.binds .any e&&(e.on==i || acc.getD e.on false))=b at hf⊢
  have hg:=descsFrom_get i r (acc.push b) acc.size (by simp)
  simp only[Nat.add_zero,Array.getD_eq_getD_getElem?,hg,Array.getElem?_push_size,Option.getD_some]at hf
  subst hf
  rw[Array.any_eq_true']at hb
  obtain⟨e,he,hh⟩:=hb
  simp only[Bool.and_eq_true,Bool.or_eq_true,beq_iff_eq]at hh
  refine⟨e,he,hh.1,hh.2.imp id fun h2=>?_⟩
  have hlt:e.on<acc.size:=by
   rcases Nat.lt_or_ge e.on acc.size with h' | h'
   ·exact h'
   ·simp[Array.getD_eq_getD_getElem?,Array.getElem?_eq_none h']at h2
  have hg2:=descsFrom_get i r (acc.push true) e.on (by simp;omega)
  simp only[Array.getD_eq_getD_getElem?,hg2,Array.getElem?_push_lt hlt]at h2⊢
  simpa [hlt]using h2
 | o::r,acc,j+1,o',h,hf=>by
  rw[descsFrom]at hf⊢
  refine descsFrom_flag i r _ j o' (by simpa using h) ?_
  rw[Array.size_push,show acc.size+1+j=acc.size+(j+1) by omega]
  exact hf
def flag (l:List Oper) (i j:Nat):Bool:=(descsFrom i l #[]).getD j false
theorem flag_spec {l:List Oper} {i j:Nat} {o:Oper} (ho:l[j]? =some o) (h:flag l i j=true):∃e∈o.after,Region.binds .any e=true∧(e.on=i∨flag l i e.on=true):=by
 have:=descsFrom_flag i l #[] j o ho (by simpa [flag]using h)
 exact this
def freeM (l:List Oper) (listed:Array Bool) (i:Nat) (oi:Oper):Bool:=
 (List.range l.length).all fun j=>j==i || listed.getD j true || flag l i j || (match l[j]? with | some oj=>oi.apart l.toArray oj&&mildB oj | none=>true)
def noneYet (l:List Oper) (listed:Array Bool) (i:Nat):Bool:=(List.range l.length).all fun j=> !flag l i j || !listed.getD j false
section
variable {P:Program} {Q:Exit→Act→World→Prop}
theorem wpAnyH_firstM {l:List Oper} {i:Nat} {oi:Oper} {v:Value} {Si:World→Prop} (hi:l[i]? =some oi) (hsel:∀(j:Nat) (o:Oper) cs b,l.toArray[j]? =some o→o.op≠ .select cs b)
  (hQ:∀c a w,Q (.panic c) (a.put oi.dst v) w→Q (.panic c) a w) (hext:∀w w',Si w→Ext w w'→Si w'):
  ∀(fuel:Nat) (listed:Array Bool) (a:Act) (w:World),listed.size=l.length→
   (∀j oj,l[j]? =some oj→j≠i→listed.getD j true=false→flag l i j=false→oi.apart l.toArray oj=true∧Mild P oj)→
   (∀j,flag l i j=true→listed.getD j false=false)→
   i∈Region.ready .any l.toArray listed→YieldsIf P l.toArray Si oi v a→Si w→
   wpAnyH P .any l.toArray Q (fun _=>True) fuel (listed.setIfInBounds i true) (a.put oi.dst v) w→wpAnyH P .any l.toArray Q (fun _=>True) (fuel+1) listed a w:=by
 intro fuel
 have hi':l.toArray[i]? =some oi:=by simpa using hi
 -- whoever may come up beside i does not wait for it
 have notflag:∀(listed:Array Bool) (j:Nat) (oj:Oper),l[j]? =some oj→i∈Region.ready .any l.toArray listed→(∀e∈oj.after,Region.binds .any e=true→listed.getD e.on false=true)→
   (∀j,flag l i j=true→listed.getD j false=false)→flag l i j=false:=by
  intro listed j oj hoj hr hall hno
  cases hf:flag l i j with
  | false=>rfl
  | true=>
   obtain⟨e,he,hb,h1 | h1⟩:=flag_spec hoj hf
   ·have h2:=hall e he hb
    have h0:=(mem_ready.1 hr).1
    rw[h1]at h2
    rcases Nat.lt_or_ge i listed.size with h' | h'
    ·simp[h']at h0 h2;rw[h0]at h2;cases h2
    ·simp[Array.getElem?_eq_none h']at h2
   ·have h2:=hall e he hb
    rw[hno _ h1]at h2
    cases h2
 induction fuel with
 | zero=>
  intro listed a w hsz _ _ hr hy hS H
  refine⟨fun h=>(by rw[h]at hr;cases hr),fun j hj=>?_⟩
  by_cases hji:j=i
  ·subst hji;exact hy.wpOp hi' hS ⟨trivial,H⟩
  ·have:=ready_mono hj hji
   rw[H.1]at this
   cases this
 | succ fuel ih=>
  intro listed a w hsz hfree hno hr hy hS H
  refine⟨fun h=>(by rw[h]at hr;cases hr),fun j hj=>?_⟩
  by_cases hji:j=i
  ·subst hji;exact hy.wpOp hi' hS ⟨trivial,H⟩
  ·have h1:=H.2 j (ready_mono hj hji)
   obtain⟨hjun,oj,hoj,hall⟩:=mem_ready.1 hj
   have hoj':l[j]? =some oj:=by simpa using hoj
   have hnf:=notflag listed j oj hoj' hr hall hno
   obtain⟨hap,hmild⟩:=hfree j oj hoj' hji hjun hnf
   have h2:=wpOp_putIf hoj hap (fun cs b=>hsel i oi cs b hi') (fun cs b=>hsel j oj cs b hoj) hQ hy h1
   -- behind j the cells that i reads are as they were
   have h3:wpOp P l.toArray Q j (fun a' w'=>Ext w w'∧(YieldsIf P l.toArray Si oi v a'∧True∧wpAnyH P .any l.toArray Q (fun _=>True) fuel ((listed.setIfInBounds i true).setIfInBounds j true) (a'.put oi.dst v) w')) a w:=by
    unfold wpOp at h2⊢
    simp only[hoj]at h2⊢
    split
    ·rename_i hw
     simp only[hw,if_true]at h2
     rcases h2 with h2 | h2
     ·refine .inl ?_
      unfold Oper.wp at h2⊢
      have hm:=hmild a.eval w
      generalize (execOp a.eval oj).run P w=r at*
      cases r with
      | ok n w'=>
       obtain⟨⟨u,rfl⟩,hx⟩:=hm n w' rfl
       simp only[Oper.upon]at h2⊢
       exact⟨hx,h2⟩
      | halt x w'=>cases x<;>simp only[Oper.upon]at h2⊢ <;>exact h2
     ·exact .inr h2
    ·rename_i hw
     simp only[hw]at h2
     exact⟨Ext.refl _,h2⟩
   refine wpOp_mono (fun a' w' h4=>⟨trivial,ih (listed.setIfInBounds j true) a' w' (by simpa using hsz) ?_ ?_ (ready_mono hr (Ne.symm hji)) h4.2.1 (hext _ _ hS h4.1) ?_⟩) h3
   ·intro k ok hk hki hun hfl
    refine hfree k ok hk hki ?_ hfl
    by_cases hjk:j=k
    ·subst hjk;exact hjun
    ·rw[getD_set_ne true hjk]at hun;exact hun
   ·intro k hk
    have hkj:j≠k:=fun e=>by subst e;rw[hnf]at hk;cases hk
    rw[getD_set_ne false hkj]
    exact hno k hk
   ·rw[Array.setIfInBounds_comm _ _ hji]
    exact h4.2.2.2
end
section
variable {P:Program} {Q:Exit→Act→World→Prop} {cx:Cx} {L:List (Nat×Value)} {G:Gh} {H:List Own} {l:List Oper}
def WA (P:Program) (l:List Oper) (Q:Exit→Act→World→Prop) (fuel:Nat) (listed:Array Bool) (cx:Cx) (L:List (Nat×Value)) (G:Gh) (H:List Own):Prop:=
 ∀a w,St cx L G H a w→wpAnyH P .any l.toArray Q (fun _=>True) fuel listed a w
theorem WC.draw {id:Nat} (hm:P.follows .mixedOrders=true) (h:WA P l Q l.length (Array.replicate l.length false) cx L G H):WC P (.region id l.toArray true) Q cx L G H:=by
 intro a w st
 refine wp_region_held (S:=fun _=>True) hm ?_
 have:=h a { w with drawn:=w.drawn+1 } (st.drew rfl)
 simpa using this
theorem WA.done {fuel:Nat} {listed:Array Bool} (hr:Region.ready .any l.toArray listed=[]) (h:WK (Q .normal) cx L G H):WA P l Q fuel listed cx L G H:=
 fun a w st=>wpAnyH_done hr (h a w st) fuel
class QPan (Q:Exit→Act→World→Prop):Prop where
 h:∀c a a' w,a.defers=a'.defers→Q (.panic c) a w→Q (.panic c) a' w
instance {K:Act→World→Prop} {Q:Exit→Act→World→Prop} [h:QPan Q]:QPan (Exit.then K Q):=⟨h.h⟩
instance {id:Nat} {Q:Exit→Act→World→Prop} [h:QPan Q]:QPan (Exit.inBlock id Q):=⟨h.h⟩
instance {P:Program} {fn:Func} {G0:Gh} {w0:World} {H0:List Own} {R:Ending→Gh→List Own→Prop} :QPan (QF P fn G0 w0 H0 R):=⟨fun c a a' w e h=>⟨e▸h.1,h.2⟩⟩
theorem WA.take {fuel i:Nat} {listed:Array Bool} {o:Oper} {v:Value} (hi:l[i]? =some o) (hs:Region.noSelect l.toArray=true) (hsz:listed.size=l.length) (hf:freeM l listed i o=true) (hn:noneYet l listed i=true)
  (hr:(Region.ready .any l.toArray listed).contains i=true) (hw:wantB l.toArray L o=some true) (hd:dOk o.dst cx.N=true) [hQ:QPan Q]
  (hv:Gv P L G H o v)
  (h:WA P l Q fuel (listed.setIfInBounds i true) cx (putL o.dst v L) G H):WA P l Q (fuel+1) listed cx L G H:=by
 intro a w st
 refine wpAnyH_firstM (Si:=fun w'=>Ext w w') (v:=v) hi (Region.noSelect_spec hs) (fun c a' w'=>hQ.h c _ _ w' (defers_put _ _ _)) (fun w1 w2 h1 h2=>h1.trans h2) fuel listed a w hsz ?_ ?_ (by simpa using hr) ?_ (Ext.refl w) ?_
 ·intro j oj hj hji hun hfl
  have hlt:j<l.length:=(List.getElem?_eq_some_iff.1 hj).1
  have:=List.all_eq_true.1 hf j (List.mem_range.2 hlt)
  simp only[Bool.or_eq_true,beq_iff_eq,hji,hun,hfl,Bool.false_eq_true,or_false,false_or,hj,Bool.and_eq_true]at this
  exact⟨this.1,mild_of_B this.2⟩
 ·intro j hj
  rcases Nat.lt_or_ge j l.length with hlt | hge
  ·have:=List.all_eq_true.1 hn j (List.mem_range.2 hlt)
   simpa [hj]using this
  ·simp[Array.getD_eq_getD_getElem?,Array.getElem?_eq_none (show listed.size≤j by omega)]
 ·refine .inl ⟨st.wanted hw,fun w' hx=>?_⟩
  -- the world with more blocks, or more draws, is as good
  have e:∀b,b<w.heap.size→w'.heap[b]? =w.heap[b]? :=hx.2
  have s:Sat G H w':=⟨fun b o u hg=>by
    have h1:=st.sat.agr b o u hg
    have hl:=block_lt_of_cell h1
    simp only[World.cell?]at h1⊢
    rw[e b hl];exact h1,
   fun x hxm=>Own.holds_of_block (st.sat.hold x hxm) fun b o hc=>e b (Own.holds_lt (st.sat.hold x hxm) hc),st.sat.apart,st.sat.ghost⟩
  exact hv a w' st.slot s
 ·exact h _ _ (st.put o.dst v hd st.sat st.stp)
theorem WA.takeP {fuel i:Nat} {listed:Array Bool} {o:Oper} {v:Value} (hi:l[i]? =some o) (hs:Region.noSelect l.toArray=true) (hf:Region.free .any l.toArray listed i=true)
  (hr:(Region.ready .any l.toArray listed).contains i=true) (hw:wantB l.toArray L o=some true) (hd:dOk o.dst cx.N=true) [hQ:QPan Q] (hv:Gp P L o v)
  (h:WA P l Q fuel (listed.setIfInBounds i true) cx (putL o.dst v L) G H):WA P l Q (fuel+1) listed cx L G H:=by
 intro a w st
 exact wpAnyH_take (by simpa using hi) hs hf hr (fun c a' w'=>hQ.h c _ _ w' (defers_put _ _ _)) (.inl ⟨st.wanted hw,fun w' _=>hv a st.slot w'⟩) trivial (h _ _ (st.put o.dst v hd st.sat st.stp))
theorem WA.skipP {fuel i:Nat} {listed:Array Bool} {o:Oper} (hi:l[i]? =some o) (hs:Region.noSelect l.toArray=true) (hf:Region.free .any l.toArray listed i=true)
  (hr:(Region.ready .any l.toArray listed).contains i=true) (hw:wantB l.toArray L o=some false) (hd:dOk o.dst cx.N=true) [hQ:QPan Q]
  (h:WA P l Q fuel (listed.setIfInBounds i true) cx (putL o.dst undef L) G H):WA P l Q (fuel+1) listed cx L G H:=by
 intro a w st
 exact wpAnyH_take (by simpa using hi) hs hf hr (fun c a' w'=>hQ.h c _ _ w' (defers_put _ _ _)) (.inr ⟨st.wanted hw,rfl⟩) trivial (h _ _ (st.put o.dst undef hd st.sat st.stp))
def okP (l:List Oper) (listed:Array Bool) (i:Nat):Bool:=Region.noSelect l.toArray&&Region.free .any l.toArray listed i&&(Region.ready .any l.toArray listed).contains i
theorem WA.tp {fuel i:Nat} {listed:Array Bool} {o:Oper} {v:Value} (hi:l[i]? =some o) (hk:okP l listed i=true) (hw:wantB l.toArray L o=some true) (hd:dOk o.dst cx.N=true) [hQ:QPan Q] (hv:Gp P L o v)
  (h:WA P l Q fuel (listed.setIfInBounds i true) cx (putL o.dst v L) G H):WA P l Q (fuel+1) listed cx L G H:=by
 simp only[okP,Bool.and_eq_true]at hk
 exact WA.takeP hi hk.1.1 hk.1.2 hk.2 hw hd hv h
theorem WA.sp {fuel i:Nat} {listed:Array Bool} {o:Oper} (hi:l[i]? =some o) (hk:okP l listed i=true) (hw:wantB l.toArray L o=some false) (hd:dOk o.dst cx.N=true) [hQ:QPan Q]
  (h:WA P l Q fuel (listed.setIfInBounds i true) cx (putL o.dst undef L) G H):WA P l Q (fuel+1) listed cx L G H:=by
 simp only[okP,Bool.and_eq_true]at hk
 exact WA.skipP hi hk.1.1 hk.1.2 hk.2 hw hd h
def okV (l:List Oper) (listed:Array Bool) (i:Nat) (o:Oper):Bool:=Region.noSelect l.toArray&&listed.size==l.length&&freeM l listed i o&&noneYet l listed i&&(Region.ready .any l.toArray listed).contains i
theorem WA.tv {fuel i:Nat} {listed:Array Bool} {o:Oper} {v:Value} (hi:l[i]? =some o) (hk:okV l listed i o=true) (hw:wantB l.toArray L o=some true) (hd:dOk o.dst cx.N=true) [hQ:QPan Q] (hv:Gv P L G H o v)
  (h:WA P l Q fuel (listed.setIfInBounds i true) cx (putL o.dst v L) G H):WA P l Q (fuel+1) listed cx L G H:=by
 simp only[okV,Bool.and_eq_true,beq_iff_eq]at hk
 exact WA.take hi hk.1.1.1.1 hk.1.1.1.2 hk.1.1.2 hk.1.2 hk.2 hw hd hv h
theorem WA.all {fuel:Nat} {listed:Array Bool} {rs:List Nat} (hr:Region.ready .any l.toArray listed=rs) (hne:rs≠ [])
  (h:∀i∈rs,∃o,l[i]? =some o∧wantB l.toArray L o=some true∧OW P Q o cx L G H fun L' G' H'=>WA P l Q fuel (listed.setIfInBounds i true) cx L' G' H'):WA P l Q (fuel+1) listed cx L G H:=by
 intro a w st
 refine wpAnyH_all hr hne fun i hi=>?_
 obtain⟨o,ho,hw,how⟩:=h i hi
 unfold wpOp
 have ho':l.toArray[i]? =some o:=by simpa using ho
 simp only[ho',st.wanted hw,if_true]
 exact .inl (how _ (fun L' G' H' k a w st'=>⟨trivial,k a w st'⟩) a w st)
theorem WA.one {fuel i:Nat} {listed:Array Bool} {o:Oper} (hr:Region.ready .any l.toArray listed=[i]) (hi:l[i]? =some o) (hw:wantB l.toArray L o=some true)
  (h:OW P Q o cx L G H fun L' G' H'=>WA P l Q fuel (listed.setIfInBounds i true) cx L' G' H'):WA P l Q (fuel+1) listed cx L G H:=
 WA.all hr (by simp) fun j hj=>by
  rw[List.mem_singleton]at hj
  subst hj
  exact⟨o,hi,hw,h⟩
end
section
variable {P:Program} {Q:Exit→Act→World→Prop} {cx:Cx} {L:List (Nat×Value)} {G Gs:Gh} {H Hs:List Own} {l:List Oper}
def WB (P:Program) (l:List Oper) (Q:Exit→Act→World→Prop) (Gs:Gh) (Hs:List Own) (fuel:Nat) (listed:Array Bool) (cx:Cx) (L:List (Nat×Value)) (G:Gh) (H:List Own):Prop:=
 ∀a w,St cx L G H a w→Sat Gs Hs w→wpAnyH P .any l.toArray Q (Sat Gs Hs) fuel listed a w
theorem WC.drawB {id:Nat} (hm:P.follows .mixedOrders=true) (h:WB P l Q G H l.length (Array.replicate l.length false) cx L G H):WC P (.region id l.toArray true) Q cx L G H:=by
 intro a w st
 refine wp_region_held (S:=Sat G H) hm ?_
 have:=h a { w with drawn:=w.drawn+1 } (st.drew rfl) (st.sat.drew rfl)
 simpa using this
theorem WB.done {fuel:Nat} {listed:Array Bool} (hr:Region.ready .any l.toArray listed=[]) (h:WK (Q .normal) cx L G H):WB P l Q Gs Hs fuel listed cx L G H:=
 fun a w st _=>wpAnyH_done hr (h a w st) fuel
theorem WB.tv {fuel i:Nat} {listed:Array Bool} {o:Oper} {v:Value} (hi:l[i]? =some o) (hk:okP l listed i=true) (hw:wantB l.toArray L o=some true) (hd:dOk o.dst cx.N=true) [hQ:QPan Q] (hv:Gv P L Gs Hs o v)
  (h:WB P l Q Gs Hs fuel (listed.setIfInBounds i true) cx (putL o.dst v L) G H):WB P l Q Gs Hs (fuel+1) listed cx L G H:=by
 intro a w st ss
 simp only[okP,Bool.and_eq_true]at hk
 exact wpAnyH_take (by simpa using hi) hk.1.1 hk.1.2 hk.2 (fun c a' w'=>hQ.h c _ _ w' (defers_put _ _ _)) (.inl ⟨st.wanted hw,fun w' s=>hv a w' st.slot s⟩) ss (h _ _ (st.put o.dst v hd st.sat st.stp) ss)
theorem WB.tp {fuel i:Nat} {listed:Array Bool} {o:Oper} {v:Value} (hi:l[i]? =some o) (hk:okP l listed i=true) (hw:wantB l.toArray L o=some true) (hd:dOk o.dst cx.N=true) [hQ:QPan Q] (hv:Gp P L o v)
  (h:WB P l Q Gs Hs fuel (listed.setIfInBounds i true) cx (putL o.dst v L) G H):WB P l Q Gs Hs (fuel+1) listed cx L G H:=WB.tv hi hk hw hd hv.gv h
theorem WB.all {fuel:Nat} {listed:Array Bool} {rs:List Nat} (hr:Region.ready .any l.toArray listed=rs) (hne:rs≠ [])
  (h:∀i∈rs,∃o,l[i]? =some o∧wantB l.toArray L o=some true∧OW P Q o cx L G H fun L' G' H'=>(∀w,Sat G' H' w→Sat Gs Hs w)∧WB P l Q Gs Hs fuel (listed.setIfInBounds i true) cx L' G' H'):WB P l Q Gs Hs (fuel+1) listed cx L G H:=by
 intro a w st _
 refine wpAnyH_all hr hne fun i hi=>?_
 obtain⟨o,ho,hw,how⟩:=h i hi
 unfold wpOp
 have ho':l.toArray[i]? =some o:=by simpa using ho
 simp only[ho',st.wanted hw,if_true]
 exact .inl (how _ (fun L' G' H' k a w st'=>⟨k.1 w st'.sat,k.2 a w st' (k.1 w st'.sat)⟩) a w st)
theorem WB.one {fuel i:Nat} {listed:Array Bool} {o:Oper} (hr:Region.ready .any l.toArray listed=[i]) (hi:l[i]? =some o) (hw:wantB l.toArray L o=some true)
  (h:OW P Q o cx L G H fun L' G' H'=>(∀w,Sat G' H' w→Sat Gs Hs w)∧WB P l Q Gs Hs fuel (listed.setIfInBounds i true) cx L' G' H'):WB P l Q Gs Hs (fuel+1) listed cx L G H:=
 WB.all hr (by simp) fun j hj=>by
  rw[List.mem_singleton]at hj
  subst hj
  exact⟨o,hi,hw,h⟩
end
theorem Inf.pos {P:Program} {t n by_:Nat} {z:Value} (h:Inf P t (n+1) by_ z):∀w:World,∃m,(Go.sizeOf t).run P w=Result.ok (m+1) w:=fun w=>⟨n,h.sizeOf w⟩
theorem mk_fld {P:Program} {t i off:Nat} {fs:Array Field} {f:Field} (hu:P.underlying t=some (.struct fs)) (hf:fs[i]? =some f) (hz:∀w:World,∃m,(Go.sizeOf f.type).run P w=Result.ok (m+1) w) (ho:f.offset=off):Fld P t i off:=⟨fun b o w=>by
 obtain⟨m,hm⟩:=hz w
 have hadd:(⟨b,o,none⟩:Addr).add off=⟨b,o+off,none⟩:=by unfold Addr.add;split<;>simp_all
 simp[Instr.fieldAt,run_underlying hu,hf,Instr.sureAddr,fieldPlace,hm,ho,hadd]⟩
theorem mk_body {P:Program} {f:Nat} {fn:Func} (hf:P.funcs[f]? =some fn) (hn:(fn.name== "runtime.NumGoroutine")=false) (hb:fn.body.isNone=false):Body P f:=⟨fun args w=>by
 simp only[callFunc,Sem.run_bind,run_program,Result.andThen_ok,hf,hn,hb]
 rfl⟩
end
section
open Go
section
variable {P:Program} {Q:Exit→Act→World→Prop} {cx:Cx} {L:List (Nat×Value)} {G:Gh} {H:List Own} {K:List (Nat×Value)→Gh→List Own→Prop}
 {d:Option Tmp} {ty:TypeId} {pos:String} {af:Array Edge} {gu:Option (Nat×Bool)}
def Rds (G:Gh) (H:List Own) (A:Option Addr) (cs:List Value):Prop:=cs=[]∨∃b o,A=some ⟨b,o,none⟩∧∀w,Sat G H w→∀j v,cs[j]? =some v→w.cell? ⟨b,o+j,none⟩=some v
theorem Rds.nil (G:Gh) (H:List Own) (A:Option Addr):Rds G H A []:= .inl rfl
theorem Rds.cs {b o:Nat} {cs:List Value} (h:Cs G b o cs):Rds G H (some ⟨b,o,none⟩) cs:= .inr ⟨b,o,rfl,fun w s j v e=>s.agr _ _ _ (h j v e)⟩
theorem Rds.blk {b o j:Nat} {c:Array Value} {t:TypeId} {fr:Nat×Nat} {cs:List Value} (hj:At H j (.blk b (.cells c t fr))) (hc:∀j v,cs[j]? =some v→c[o+j]? =some v):Rds G H (some ⟨b,o,none⟩) cs:=
 .inr ⟨b,o,rfl,fun w s j v e=>by rw[Own.cell (s.hold _ (List.mem_of_getElem? hj.get))];exact hc j v e⟩
theorem Rds.blk0 {b j:Nat} {c:Array Value} {t:TypeId} {fr:Nat×Nat} {cs:List Value} (hj:At H j (.blk b (.cells c t fr))) (hc:c.toList=cs):Rds G H (some ⟨b,0,none⟩) cs:=
 Rds.blk (o:=0) hj fun j v e=>by rw[←hc]at e;simpa using e
theorem Rds.mono {G':Gh} {A:Option Addr} {cs:List Value} (h:Rds G H A cs) (hs:∀w,Sat G' H w→Sat G H w):Rds G' H A cs:=by
 rcases h with h | ⟨b,o,e,h⟩
 ·exact .inl h
 ·exact .inr ⟨b,o,e,fun w s=>h w (hs w s)⟩
theorem Sat.le {G':Gh} {w:World} (h:Sat G' H w) (hg:G.le G'):Sat G H w:=
 ⟨fun b o v e=>h.agr b o v (hg b o v e),h.hold,h.apart,fun x hx b o hc=>by
  cases hgb:G b o with
  | none=>rfl
  | some v=>have:=hg b o v hgb;rw[h.ghost x hx b o hc]at this;cases this⟩
theorem Rds.le {G':Gh} {A:Option Addr} {cs:List Value} (h:Rds G H A cs) (hg:G.le G'):Rds G' H A cs:=h.mono fun _ s=>s.le hg
theorem Rds.cons {A:Option Addr} {cs:List Value} (h:Rds G H A cs) (x:Own):Rds G (x::H) A cs:=by
 rcases h with h | ⟨b,o,e,h⟩
 ·exact .inl h
 ·exact .inr ⟨b,o,e,fun w s=>h w (s.sub (List.sublist_cons_self x H))⟩
theorem Sl.rds {α:Type} {k:Kd α} (hn:0<k.n) {A:Option Addr} {xs:List α} (h:Sl k G A xs):∃cs,Rds G H A cs∧cs.length=xs.length*k.n∧cs.all (·.oneCell')=true∧∀i x,xs[i]? =some x→k.K G x ((cs.drop (i*k.n)).take k.n):=by
 have key:∀(xs:List α) (o0:Nat) (b:Nat),(∀i x,xs[i]? =some x→∃cs,k.K G x cs∧Cs G b (o0+i*k.n) cs)→
   ∃cs,Cs G b o0 cs∧cs.length=xs.length*k.n∧cs.all (·.oneCell')=true∧∀i x,xs[i]? =some x→k.K G x ((cs.drop (i*k.n)).take k.n):=by
  intro xs
  induction xs with
  | nil=>intro o0 b _;exact⟨[],fun j v e=>by simp at e,by simp,rfl,fun i x e=>by simp at e⟩
  | cons x xs ih=>
   intro o0 b h
   obtain⟨c0,hk,hc⟩:=h 0 x rfl
   obtain⟨cs,h1,h2,h3,h4⟩:=ih (o0+k.n) b fun i y e=>by
    obtain⟨c,hk,hc⟩:=h (i+1) y (by simpa using e)
    refine⟨c,hk,?_⟩
    rw[show o0+k.n+i*k.n=o0+(i+1)*k.n by rw[Nat.add_mul];omega]
    exact hc
   have hl:=k.len hk
   refine⟨c0++cs,fun j v e=>?_,by rw[List.length_append,hl,h2,List.length_cons,Nat.add_mul];omega,by rw[List.all_append,k.one hk,h3];rfl,fun i y e=>?_⟩
   ·rcases Nat.lt_or_ge j k.n with hj | hj
    ·rw[List.getElem?_append_left (by omega)]at e
     have:=hc j v e
     simpa using this
    ·rw[List.getElem?_append_right (by omega),hl]at e
     have:=h1 (j - k.n) v e
     rw[show o0+k.n+(j - k.n)=o0+j by omega]at this
     exact this
   ·cases i with
    | zero=>
     simp only[List.getElem?_cons_zero,Option.some.injEq]at e
     subst e
     simp only[Nat.zero_mul,List.drop_zero]
     rw[←hl,List.take_left]
     exact hk
    | succ i=>
     have:=h4 i y (by simpa using e)
     rw[List.drop_append,List.drop_eq_nil_of_le (by rw[hl,Nat.add_mul];omega),List.nil_append,hl,show(i+1)*k.n - k.n=i*k.n by rw[Nat.add_mul];omega]
     exact this
 cases hxs:xs with
 | nil=>exact⟨[], .inl rfl,by simp,rfl,fun i x e=>by simp at e⟩
 | cons x r=>
  rw[←hxs]
  obtain⟨b,o,c0,hA,_,_⟩:=h 0 x (by rw[hxs];rfl)
  obtain⟨cs,h1,h2,h3,h4⟩:=key xs o b fun i y e=>by
   obtain⟨b',o',c,hA',hk,hc⟩:=h i y e
   rw[hA]at hA'
   cases hA'
   exact⟨c,hk,hc⟩
  exact⟨cs,hA▸Rds.cs h1,h2,h3,h4⟩
def Vec (T sz:Nat) (A:Option Addr) (n cap:Nat) (cs:List Value) (x:Own):Prop:=
 cs.length=n*sz∧((A=none∧n=0∧cap=0∧x= .spare 0 0 0)∨∃b c,A=some ⟨b,0,none⟩∧x= .blk b (.cells c T (0,0))∧n≤cap∧c.size=cap*sz∧c.toList.take (n*sz)=cs)
theorem Vec.le {T sz:Nat} {A:Option Addr} {n cap:Nat} {cs:List Value} {x:Own} (h:Vec T sz A n cap cs x):n≤cap:=by
 rcases h.2 with⟨_,h1,h2,_⟩ | ⟨b,c,_,_,h,_⟩
 ·omega
 ·exact h
theorem Vec.rds {T sz:Nat} {A:Option Addr} {n cap:Nat} {cs:List Value} {x:Own} {j:Nat} (h:Vec T sz A n cap cs x) (hj:At H j x):Rds G H A cs:=by
 obtain⟨hl,⟨h1,h2,h3,h4⟩ | ⟨b,c,rfl,rfl,h1,h2,rfl⟩⟩:=h
 ·subst h2;exact .inl (List.eq_nil_of_length_eq_zero (by simpa using hl))
 ·refine Rds.blk (o:=0) hj fun j v e=>?_
  rw[List.getElem?_take]at e
  split at e
  ·simpa using e
  ·cases e
def evPl (L:List (Nat×Value)):List (Nat×Operand)→Option (List (Nat×Value))
 | []=>some []
 | p::r=>match ev L p.2,evPl L r with
  | some v,some vs=>some ((p.1,v)::vs)
  | _,_=>none
def evP (L:List (Nat×Value)) (ps:Array (Nat×Operand)):Option (List (Nat×Value)):=evPl L ps.toList
theorem Sk.evP {a:Act} (h:Sk L a) {ps:Array (Nat×Operand)} {vs:List (Nat×Value)} (hp:evP L ps=some vs):(ps.map fun(i,x)=>(i,a.eval x)).toList=vs:=by
 have key:∀(l:List (Nat×Operand)) (vs:List (Nat×Value)),evPl L l=some vs→l.map (fun p=>(p.1,a.eval p.2))=vs:=by
  intro l
  induction l with
  | nil=>intro vs h;simp only[evPl,Option.some.injEq]at h;subst h;rfl
  | cons p l ih=>
   intro vs hh
   simp only[evPl]at hh
   cases hx:ev L p.2 with
   | none=>simp[hx]at hh
   | some v=>
    cases hl:evPl L l with
    | none=>simp[hx,hl]at hh
    | some us=>
     simp only[hx,hl,Option.some.injEq]at hh
     subst hh
     simp[h.eval hx,ih us hl]
 simpa using key ps.toList vs hp
def fillS (pl:Nat→Option (Nat×Nat)):List Value→List (Nat×Value)→Option (List Value)
 | cs,[]=>some cs
 | cs,(i,v)::r=>match pl i with
  | none=>none
  | some (off,size)=>bif Nat.beq v.cells.toList.length size&&Nat.ble (off+v.cells.toList.length) cs.length then fillS pl (cs.take off++v.cells.toList++cs.drop (off+v.cells.toList.length)) r else none
theorem foldl_place:∀(vs:List Value) (off k:Nat) (cs:List Value),off+k+vs.length≤cs.length→
  (vs.zipIdx k).foldl (fun(a:Array Value) (p:Value×Nat)=>a.setIfInBounds (off+p.2) p.1) cs.toArray=(cs.take (off+k)++vs++cs.drop (off+k+vs.length)).toArray
 | [],off,k,cs,h=>by simp
 | v::vs,off,k,cs,h=>by
  simp only[List.length_cons]at h
  have ih:=foldl_place vs off (k+1) (cs.set (off+k) v) (by simp;omega)
  simp only[List.zipIdx_cons,List.foldl_cons,List.setIfInBounds_toArray,ih]
  congr 1
  apply List.ext_getElem?
  intro j
  simp only[List.getElem?_append,List.length_take,List.length_set,List.length_cons,List.getElem?_take,List.getElem?_set,List.getElem?_drop,List.length_append]
  by_cases h1:j<off+k
  ·simp[show j<min (off+(k+1)) cs.length by omega,show j<off+(k+1) by omega,show off+k≠j by omega,h1,show j<min (off+k) cs.length by omega,show j<min (off+(k+1)) cs.length+vs.length by omega,show j<min (off+k) cs.length+(vs.length+1) by omega]
  ·by_cases h2:j=off+k
   ·subst h2
    simp[show off+k<min (off+(k+1)) cs.length by omega,show off+k<off+(k+1) by omega,show¬off+k<min (off+k) cs.length by omega,show off+k<cs.length by omega,show off+k - min (off+k) cs.length=0 by omega,show off+k<min (off+(k+1)) cs.length+vs.length by omega,show off+k<min (off+k) cs.length+(vs.length+1) by omega]
   ·have e1:min (off+(k+1)) cs.length=off+k+1:=by omega
    have e2:min (off+k) cs.length=off+k:=by omega
    simp only[e1,e2]
    by_cases h3:j<off+k+1+vs.length
    ·simp[h3,show¬j<off+k+1 by omega,show j<off+k+(vs.length+1) by omega,show¬j<off+k by omega,show j - (off+k)=(j - (off+k+1))+1 by omega]
    ·have h4:¬j<off+k+(vs.length+1):=by omega
     simp only[h3,h4,if_false]
     have e3:off+(k+1)+vs.length+(j - (off+k+1+vs.length))=j:=by omega
     have e4:off+k+(vs.length+1)+(j - (off+k+(vs.length+1)))=j:=by omega
     simp[e3,e4,show off+k≠j by omega]
theorem fill_of_fillS (pl:Nat→Option (Nat×Nat)):∀(vs:List (Nat×Value)) (cs cs':List Value),fillS pl cs vs=some cs'→Instr.fill pl cs.toArray vs=some cs'.toArray
 | [],cs,cs',h=>by simp only[fillS,Option.some.injEq]at h;subst h;rfl
 | (i,v)::r,cs,cs',h=>by
  simp only[fillS]at h
  simp only[Instr.fill]
  cases hp:pl i with
  | none=>rw[hp]at h;cases h
  | some q=>
   obtain⟨off,size⟩:=q
   rw[hp]at h
   simp only at h⊢
   cases hb:(Nat.beq v.cells.toList.length size&&Nat.ble (off+v.cells.toList.length) cs.length)with
   | false=>rw[hb]at h;cases h
   | true=>
    rw[hb]at h
    simp only[cond_true]at h
    rw[Bool.and_eq_true]at hb
    have h1:=Nat.eq_of_beq_eq_true hb.1
    have h2:=Nat.le_of_ble_eq_true hb.2
    rw[Array.length_toList]at h1 h2
    have h3:(v.cells.size≠size || off+v.cells.size>cs.toArray.size)=false:=by simp[h1];omega
    rw[h3]
    simp only[Bool.false_eq_true,if_false]
    have h4:=foldl_place v.cells.toList off 0 cs (by rw[Array.length_toList];omega)
    simp only[Nat.add_zero]at h4
    have h5:v.cells.zipIdx.foldl (fun(a:Array Value) (p:Value×Nat)=>a.setIfInBounds (off+p.2) p.1) cs.toArray=(cs.take off++v.cells.toList++cs.drop (off+v.cells.toList.length)).toArray:=by
     rw[←h4,←Array.foldl_toList]
     simp
    exact(congrArg (Instr.fill pl · r) h5).trans (fill_of_fillS pl r _ _ h)
def repS:Nat→List Value→List Value
 | 0,_=>[]
 | k+1,z=>z++repS k z
theorem repS_get (z:List Value) (hz:0<z.length):∀(k i:Nat),i<k*z.length→(repS k z)[i]? =some (z[i%z.length]!)
 | 0,i,h=>by omega
 | k+1,i,h=>by
  rw[Nat.add_mul]at h
  simp only[repS]
  rcases Nat.lt_or_ge i z.length with hi | hi
  ·rw[List.getElem?_append_left hi,Nat.mod_eq_of_lt hi]
   simp[List.getElem!_eq_getElem?_getD,hi]
  ·rw[List.getElem?_append_right hi,repS_get z hz k (i - z.length) (by omega),Nat.mod_eq_sub_mod hi]
theorem repS_length (z:List Value):∀k,(repS k z).length=k*z.length
 | 0=>by simp[repS]
 | k+1=>by simp[repS,repS_length z k,Nat.add_mul];omega
theorem base_repS (z:Array Value) (n len:Nat) (hz:z.size=n):(Array.range (len*n)).map (z[· %z.size]!)=(repS len z.toList).toArray:=by
 subst hz
 by_cases h0:z.size=0
 ·have:z= #[]:=Array.eq_empty_of_size_eq_zero h0
  subst this
  have e:∀k,repS k []=[]:=by intro k;induction k with | zero=>rfl | succ k ih=>simp[repS,ih]
  simp[Array.range_zero',e]
 ·apply Array.ext'
  apply List.ext_getElem?
  intro i
  rcases Nat.lt_or_ge i (len*z.size)with hi | hi
  ·have:=repS_get z.toList (by simp;omega) len i (by simpa using hi)
   simp only[Array.length_toList]at this
   rw[this]
   simp[hi,List.getElem!_eq_getElem?_getD]
   try rw[Array.getElem!_eq_getD,Array.getD_eq_getD_getElem?]
  ·rw[List.getElem?_eq_none (by simpa using hi),List.getElem?_eq_none (by simpa [repS_length]using hi)]
def leLim (x:Nat):Bool:=Nat.ble x 16777216
theorem OW.buildSlice {t e n by_ len:Nat} {z:Value} {ps:Array (Nat×Operand)} {vs:List (Nat×Value)} {cells:List Value} (hp:evP L ps=some vs) [hu:Und P t (.slice e)] [hi:Inf P e n by_ z] (hlim:leLim (len*n)=true) (hz:z.cells.size=n)
  (hf:fillS (fun i=>some (i*n,n)) (repS len z.cells.toList) vs=some cells) (hd:dOk d cx.N=true)
  (k:∀b,K (putL d (.slice (some ⟨b,0,none⟩) len len) L) G (.blk b (.cells cells.toArray e (0,0))::H)):OW P Q ⟨d, .buildSlice t len ps,ty,pos,af,gu⟩ cx L G H K:=by
 refine OW.gives hd fun a w st=>⟨.slice (some ⟨w.heap.size,0,none⟩) len len,w.alloc (.cells cells.toArray e),G, .blk w.heap.size (.cells cells.toArray e (0,0))::H, .inl ?_,st.sat.alloc _,Stp.alloc _,k _⟩
 have hl:=Nat.le_of_ble_eq_true hlim
 have he:=Sk.evP st.slot hp
 have hl':¬(16777216<len*n):=by omega
 have hf1:=fill_of_fillS _ _ _ _ hf
 rw[←base_repS z.cells n len hz]at hf1
 have hrun:∀PS:Array (Nat×Value),PS.toList=vs→(Instr.buildSlice t len PS).run P w= .ok (.slice (some ⟨w.heap.size,0,none⟩) len len) (w.alloc (.cells cells.toArray e)):=by
  intro PS he
  by_cases h0:len*n=0
  ·rw[h0]at hf1
   simp only[Array.range_zero',List.map_toArray,List.map_nil]at hf1
   simp[Instr.buildSlice,run_underlying hu.h,hi.sizeOf,h0,he,newRow,Array.range_zero',hf1]
  ·simp[Instr.buildSlice,run_underlying hu.h,hi.sizeOf,hi.zeroValue,h0,hl',he,hf1,newRow]
 simp only[execOp,Sem.run_bind,hrun _ he,Result.andThen_ok]
 rfl
class Plc (P:Program) (t:Nat) (pl:outParam (List (Nat×Nat))):Prop where
 h:∀w:World,∃fs,P.underlying t=some (.struct fs)∧(fs.toList.mapM fun f=>Prod.mk f.offset<$>Go.sizeOf f.type).run P w= .ok pl w
theorem Gp.build {t n by_:Nat} {z:Value} {ps:Array (Nat×Operand)} {vs:List (Nat×Value)} {pl:List (Nat×Nat)} {cells:List Value} (hp:evP L ps=some vs) [hi:Inf P t n by_ z] [hpl:Plc P t pl]
  (hf':fillS (fun i=>pl[i]?) z.cells.toList vs=some cells):Gp P L ⟨d, .build t ps,ty,pos,af,gu⟩ (.agg cells.toArray):=fun a st w=>by
 have he:=Sk.evP st hp
 have hf:=fill_of_fillS _ _ _ _ hf' 
 obtain⟨fs,h1,h2⟩:=hpl.h w
 have h3:(fs.mapM fun f=>Prod.mk f.offset<$>Go.sizeOf f.type).run P w= .ok pl.toArray w:=by
  rw[Array.mapM_eq_mapM_toList]
  simp[h2]
 have hrun:∀PS:Array (Nat×Value),PS.toList=vs→(Instr.build t PS).run P w= .ok (.agg cells.toArray) w:=by
  intro PS he
  simp[Instr.build,hi.zeroValue,run_underlying h1,he,h3,hf]
 simp only[execOp,Sem.run_bind,hrun _ he,Result.andThen_ok]
 rfl
theorem Gp.sliceTo {t e n by_:Nat} {z:Value} {x y:Operand} {A:Option Addr} {len cap:Nat} {k:IntKind} {i:Int} (hx:ev L x=some (.slice A len cap)) (hy:ev L y=some (.int k i)) [hu:Und P t (.slice e)] [hi:Inf P e n by_ z] (h0:0≤i) (h1:i≤cap):
  Gp P L ⟨d, .slice t x none (some y) none,ty,pos,af,gu⟩ (.slice A i.toNat cap):=fun a st w=>by
 have h:(Instr.sliceAt t (.slice A len cap) none (some (.int k i)) none).run P w= .ok (.slice A i.toNat cap) w:=by
  have hA:(if cap=0 then A else A.map fun p=>p.add 0)=A:=by
   split
   ·rfl
   ·cases A<;>simp[Addr.add]
  simp only[Instr.sliceAt,Sem.run_bind,run_underlying hu.h,Result.andThen_ok,Instr.slice,Instr.sliceBounds,Instr.sliceBound,asIntOf,Sem.run_pure,Sem.run_ite,h0,h1,and_self,if_true,hi.sizeOf,Nat.sub_zero,Nat.zero_mul,hA]
 simp[execOp,Sk.eval st hx,Sk.eval st hy,h]
theorem Gp.sliceFrom {t e n by_:Nat} {z:Value} {x y:Operand} {A:Option Addr} {len cap:Nat} {k:IntKind} {i:Int} (hx:ev L x=some (.slice A len cap)) (hy:ev L y=some (.int k i)) [hu:Und P t (.slice e)] [hi:Inf P e n by_ z] (h0:0≤i) (h1:i≤len):
  Gp P L ⟨d, .slice t x (some y) none none,ty,pos,af,gu⟩ (.slice (if cap=i.toNat then A else A.map (·.add (i.toNat*n))) (len - i.toNat) (cap - i.toNat)):=fun a st w=>by
 have h:(Instr.sliceAt t (.slice A len cap) (some (.int k i)) none none).run P w= .ok (.slice (if cap=i.toNat then A else A.map (·.add (i.toNat*n))) (len - i.toNat) (cap - i.toNat)) w:=by
  simp only[Instr.sliceAt,Sem.run_bind,run_underlying hu.h,Result.andThen_ok,Instr.slice,Instr.sliceBounds,Instr.sliceBound,asIntOf,Sem.run_pure,Sem.run_ite,h0,h1,and_self,if_true,hi.sizeOf]
 simp[execOp,Sk.eval st hx,Sk.eval st hy,h]
theorem cell_add (w:World) (b o j:Nat):w.cell? ((⟨b,o,none⟩:Addr).add j)=w.cell? ⟨b,o+j,none⟩:=by
 have hadd:(⟨b,o,none⟩:Addr).add j=⟨b,o+j,none⟩:=by unfold Addr.add;split<;>simp_all
 rw[hadd]
theorem Sat.swap {w w':World} (h:Sat G H w) {j:Nat} {x:Own} (hj:At H j x) (ob:Obj) (hw:w'=w.drew.alloc ob) (hf:noFr ob:=by first | rfl | trivial):
  Sat G (H.set j (.blk w.heap.size ob)) w'∧Stp (covs H) G w G (H.set j (.blk w.heap.size ob)) w':=by
 subst hw
 have h1:=(h.drew (w':=w.drew) rfl).alloc ob
 have h2a:Stp (covs H) G w G H w.drew:=Stp.drew rfl
 have h2b:Stp (covs H) G w.drew G (.blk w.heap.size ob::H) (w.drew.alloc ob):=Stp.alloc (w:=w.drew) ob hf
 have h2:=h2a.then h2b
 have hsz:w.drew.heap.size=w.heap.size:=rfl
 rw[hsz]at h1
 -- the new one in the place of the old one: fewer things, in another order
 have hsub:∀y∈H.set j (.blk w.heap.size ob),y∈Own.blk w.heap.size ob::H:=fun y hy=>by
  rcases mem_set_or H j _ y hy with rfl | hy
  ·exact .head _
  ·exact .tail _ hy
 refine⟨⟨h1.agr,fun y hy=>h1.hold y (hsub y hy),?_,fun y hy=>h1.ghost y (hsub y hy)⟩,⟨h2.size,h2.keep,h2.gle,h2.gnew,fun y hy=>h2.own y (hsub y hy),h2.weq⟩⟩
 have hp:=List.pairwise_cons.1 h1.apart
 have:∀(l:List Own) (j:Nat),l.Pairwise Own.apart→(∀z∈l,Own.apart (.blk w.heap.size ob) z)→(l.set j (.blk w.heap.size ob)).Pairwise Own.apart:=by
  intro l
  induction l with
  | nil=>intro j _ _;simp
  | cons a l ih=>
   intro j hl hz
   rw[List.pairwise_cons]at hl
   cases j with
   | zero=>simp only[List.set_cons_zero,List.pairwise_cons];exact⟨fun z hzz=>hz z (.tail _ hzz),hl.2⟩
   | succ j=>
    simp only[List.set_cons_succ,List.pairwise_cons]
    refine⟨fun z hzz=>?_,ih j hl.2 fun z hzz=>hz z (.tail _ hzz)⟩
    rcases mem_set_or l j _ z hzz with rfl | hzz
    ·exact Own.apart_symm (hz a (.head _))
    ·exact hl.1 z hzz
 exact this H j hp.2 hp.1
theorem Vec.rdsFrom {T sz:Nat} {A:Option Addr} {n cap:Nat} {cs:List Value} {x:Own} {j lo:Nat} (h:Vec T sz A n cap cs x) (hj:At H j x) (hlo:lo≤n):Rds G H (if cap=lo then A else A.map (·.add (lo*sz))) (cs.drop (lo*sz)):=by
 by_cases hc:cap=lo
 ·have:=h.le
  refine .inl (List.drop_eq_nil_of_le ?_)
  rw[h.1,show lo=n by omega]
  exact Nat.le_refl _
 ·rw[if_neg hc]
  obtain⟨hl,⟨h1,h2,h3,h4⟩ | ⟨b,c,rfl,rfl,h1,h2,rfl⟩⟩:=h
  ·subst h2;exact .inl (List.eq_nil_of_length_eq_zero (by simp;omega))
  ·have hadd:(⟨b,0,none⟩:Addr).add (lo*sz)=⟨b,lo*sz,none⟩:=by unfold Addr.add;split<;>simp_all
   simp only[Option.map_some,hadd]
   refine Rds.blk hj fun j v e=>?_
   rw[List.getElem?_drop,List.getElem?_take]at e
   split at e
   ·simpa using e
   ·cases e
theorem Vec.cut {T sz:Nat} {A:Option Addr} {n cap:Nat} {cs:List Value} {x:Own} {m:Nat} (h:Vec T sz A n cap cs x) (hm:m≤n):Vec T sz A m cap (cs.take (m*sz)) x:=by
 have hms:m*sz≤n*sz:=Nat.mul_le_mul_right _ hm
 obtain⟨hl,⟨h1,h2,h3,h4⟩ | ⟨b,c,rfl,rfl,h1,h2,rfl⟩⟩:=h
 ·exact⟨by rw[List.length_take,hl];omega, .inl ⟨h1,by omega,h3,h4⟩⟩
 ·exact⟨by rw[List.length_take,hl];omega, .inr ⟨b,c,rfl,rfl,by omega,h2,by rw[List.take_take,Nat.min_eq_left hms]⟩⟩
theorem zeroCells_size {sz:Nat} {z:Value} {n:Nat} (hz:z.cells.size=sz):(Builtin.zeroCells z.cells n).size=n*sz:=by rw[size_zeroCells,hz]
theorem set_same {α:Type} :∀(l:List α) (j:Nat) (x:α),l[j]? =some x→l.set j x=l
 | [],_,_,_=>rfl
 | a::l,0,x,h=>by simp at h;simp[h]
 | a::l,j+1,x,h=>by simp at h;simp[set_same l j x h]
theorem OW.append {t e sz by_:Nat} {z:Value} {x y:Operand} {A B:Option Addr} {n cap m cy j:Nat} {cs news:List Value} {o:Own} (hx:ev L x=some (.slice A n cap)) (hy:ev L y=some (.slice B m cy)) [hu:Und P t (.slice e)] [hi:Inf P e sz by_ z]
  (hz:z.cells.size=sz) (hs0:Nat.blt 0 sz=true) (hv:Vec e sz A n cap cs o) (hj:At H j o) (hr:Rds G H B news) (hl:news.length=m*sz) (h1:news.all (·.oneCell')=true)
  (hb:(n+m)*by_≤140737488355328) (h63:n+m≤9223372036854775807) (hd:dOk d cx.N=true)
  (k:∀A' cap' o',Vec e sz A' (n+m) cap' (cs++news) o'→K (putL d (.slice A' (n+m) cap') L) G (H.set j o')):
  OW P Q ⟨d, .call { callee:= .builtin .append,args:= #[x,y],argTypes:= #[t,t] },ty,pos,af,gu⟩ cx L G H K:=by
 have hsz:0<sz:=Nat.le_of_ble_eq_true hs0
 refine OW.gives hd fun a w st=>?_
 obtain⟨ie,hi1,hi2,hi3,hi4⟩:=hi.info
 have hu':=hu.h
 have hrun:∀v w',(Builtin.append_ #[t,t] ty #[.slice A n cap, .slice B m cy]).run P w= .ok v w'→(execOp a.eval ⟨d, .call { callee:= .builtin .append,args:= #[x,y],argTypes:= #[t,t] },ty,pos,af,gu⟩).run P w= .ok (.value v) w':=by
  intro v w' h
  simp only[execOp,resolve,invoke,builtin,Sem.run_bind,Sem.run_pure,Result.andThen_ok,List.map_toArray,List.map_cons,List.map_nil,st.eval hx,st.eval hy,h]
 -- nothing to append
 by_cases hm:m=0
 ·subst hm
  have hn:news=[]:=List.eq_nil_of_length_eq_zero (by simpa using hl)
  subst hn
  refine⟨.slice A n cap,w,G,H, .inl (hrun _ _ ?_),st.sat,Stp.drew rfl,?_⟩
  ·have hle:=hv.le
   cases A with
   | none=>simp[Builtin.append_,run_underlying hu',sizeOf,typeInfo,hi1,Builtin.lenOf,Builtin.firstCells,hle];cases B<;>simp[Builtin.firstCells,loadCells,loadCellsFrom]
   | some ad=>simp[Builtin.append_,run_underlying hu',sizeOf,typeInfo,hi1,Builtin.lenOf,Builtin.firstCells,hle];cases B<;>simp[Builtin.firstCells,loadCells,loadCellsFrom,storeCells]
  ·have:=k A cap o (by simpa using hv)
   simp only[Nat.add_zero]at this
   rw[set_same H j o hj.get]at this
   exact this
 ·have hm0:0<m:=by omega
  obtain⟨bB,oB,rfl,hread⟩:∃b o,B=some ⟨b,o,none⟩∧∀w,Sat G H w→∀j v,news[j]? =some v→w.cell? ⟨b,o+j,none⟩=some v:=by
   rcases hr with h | h
   ·have hp:=Nat.mul_pos hm0 hsz
    rw[←hl,h]at hp
    simp at hp
   ·exact h
  have hnews:∀j u,news[j]? =some u→w.cell? ((⟨bB,oB,none⟩:Addr).add j)=some u:=fun j u e=>by rw[cell_add];exact hread w st.sat j u e
  have hl':news.length=m*ie.size:=by rw[hi3];exact hl
  obtain⟨hcl,⟨rfl,rfl,rfl,rfl⟩ | ⟨b,c,rfl,rfl,hnc,hcs,htk⟩⟩:=hv
  ·have hcs0:cs=[]:=List.eq_nil_of_length_eq_zero (by simpa using hcl)
   subst hcs0
   have hr:=run_append_nil (P:=P) w t ty e ie z hu' hi1 hi2 ⟨bB,oB,none⟩ m cy news hl' hnews hm0 (by omega) (by have h':=hb;simp only[Nat.zero_add]at h';rw[hi4];omega)
   have hg:=grownCap_ge w m 0 e
   have hsw:=st.sat.swap hj (.cells (news.toArray++Builtin.zeroCells z.cells (grownCap w m 0 e - m)) e) rfl
   refine⟨_,_,G,_, .inl (hrun _ _ hr),hsw.1,hsw.2,?_⟩
   have:=k (some ⟨w.heap.size,0,none⟩) (grownCap w m 0 e) (.blk w.heap.size (.cells (news.toArray++Builtin.zeroCells z.cells (grownCap w m 0 e - m)) e)) ⟨by simpa using hl, .inr ⟨_,_,rfl,rfl,by omega,?_,?_⟩⟩
   ·simpa using this
   ·rw[Array.size_append,List.size_toArray,zeroCells_size hz,hl,←Nat.add_mul];congr 1;omega
   ·simp only[Array.toList_append,List.nil_append,Nat.zero_add];rw[←hl];exact List.take_left
  ·by_cases hroom:n+m≤cap
   ·have hbw:w.heap[b]? =some (.cells c e (0,0)):=st.sat.hold _ (List.mem_of_getElem? hj.get)
    have hfit:n*sz+news.length≤c.size:=by rw[hl,hcs,←Nat.add_mul];exact Nat.mul_le_mul_right _ hroom
    have hr:=run_append_room (P:=P) w t ty e ie hu' hi1 b n cap c hbw ⟨bB,oB,none⟩ m cy news hl' hnews (fun u hu=>List.all_eq_true.1 h1 u hu) hroom (by rw[hi3];exact hfit)
    rw[hi3]at hr
    have hsp:=st.sat.splice (o:=n*sz) (cs:=news) hj hfit
    refine⟨_,_,G,_, .inl (hrun _ _ hr),hsp.1,hsp.2,k _ _ _ ⟨by rw[List.length_append,hcl,hl,Nat.add_mul], .inr ⟨b,_,rfl,rfl,hroom,by rw[size_splice hfit,hcs],?_⟩⟩⟩
    simp only[splice]
    rw[htk,show(n+m)*sz=(cs++news).length by rw[List.length_append,hcl,hl,Nat.add_mul]]
    exact List.take_left
   ·have hbw:w.heap[b]? =some (.cells c e (0,0)):=st.sat.hold _ (List.mem_of_getElem? hj.get)
    have holds:∀j v,cs[j]? =some v→w.cell? ((⟨b,0,none⟩:Addr).add j)=some v:=fun j v e=>by
     rw[cell_add,cell_of_row w b _ c _ _ hbw,←htk]at*
     rw[List.getElem?_take]at e
     split at e
     ·simpa using e
     ·cases e
    have hr:=run_append_grow (P:=P) w t ty e ie z hu' hi1 hi2 ⟨b,0,none⟩ n cap cs (by rw[hi3];exact hcl) holds ⟨bB,oB,none⟩ m cy news hl' hnews (by omega) (by omega) (growslice_fits (by omega) (by rw[hi4];exact hb))
    have hg:=grownCap_ge w (n+m) cap e
    have hsw:=st.sat.swap hj (.cells (cs.toArray++news.toArray++Builtin.zeroCells z.cells (grownCap w (n+m) cap e - (n+m))) e) rfl
    refine⟨_,_,G,_, .inl (hrun _ _ hr),hsw.1,hsw.2,k _ _ _ ⟨by rw[List.length_append,hcl,hl,Nat.add_mul], .inr ⟨_,_,rfl,rfl,hg,?_,?_⟩⟩⟩
    ·simp only[Array.size_append,List.size_toArray,zeroCells_size hz,hl,hcl,←Nat.add_mul];congr 1;omega
    ·simp only[Array.toList_append]
     rw[show(n+m)*sz=(cs++news).length by rw[List.length_append,hcl,hl,Nat.add_mul]]
     exact List.take_left
theorem Sat.nothing {w:World} (h:Sat G H w):Sat G (.spare 0 0 0::H) w:=
 ⟨h.agr,fun x hx=>by
  rcases List.mem_cons.1 hx with rfl | hx
  ·intro hlt;omega
  ·exact h.hold x hx,List.pairwise_cons.2 ⟨fun y _ b o hc=>by simp only[Own.cov]at hc;omega,h.apart⟩,fun x hx b o hc=>by
  rcases List.mem_cons.1 hx with rfl | hx
  ·simp only[Own.cov]at hc;omega
  ·exact h.ghost x hx b o hc⟩
theorem Stp.nothing {S:Nat→Nat→Prop} {G0:Gh} {w0 w:World} (h:Stp S G0 w0 G H w):Stp S G0 w0 G (.spare 0 0 0::H) w:=
 ⟨h.size,h.keep,h.gle,h.gnew,fun x hx b o hc=>by
  rcases List.mem_cons.1 hx with rfl | hx
  ·simp only[Own.cov]at hc;omega
  ·exact h.own x hx b o hc,h.weq⟩
theorem WK.nothing {K:Act→World→Prop} (h:WK K cx L G (.spare 0 0 0::H)):WK K cx L G H:=
 fun a w st=>h a w ⟨st.size,st.defs,st.slot,st.sat.nothing,st.stp.nothing⟩
theorem WC.nothing {c:Code} (h:WC P c Q cx L G (.spare 0 0 0::H)):WC P c Q cx L G H:=
 fun a w st=>h a w ⟨st.size,st.defs,st.slot,st.sat.nothing,st.stp.nothing⟩
def AllLk (L:List (Nat×Value)):List (Nat×Value)→Prop
 | []=>True
 | (t,v)::r=>lk L t=some v∧AllLk L r
theorem AllLk.sub {L L':List (Nat×Value)} (h:AllLk L L'):∀t v,lk L' t=some v→lk L t=some v:=by
 induction L' with
 | nil=>intro t v e;simp[lk]at e
 | cons p r ih=>
  obtain⟨k,u⟩:=p
  intro t v e
  simp only[lk]at e
  by_cases hk:k=t
  ·subst hk
   simp only[Nat.beq_refl,cond_true,Option.some.injEq]at e
   subst e
   exact h.1
  ·have hb:Nat.beq k t=false:=by cases hbb:Nat.beq k t with | false=>rfl | true=>exact absurd (Nat.eq_of_beq_eq_true hbb) hk
   rw[hb]at e
   exact ih h.2 t v e
theorem WC.loop {c:Code} {X:Type} (Lf:X→List (Nat×Value)) (Gf:X→Gh) (Hf:X→List Own) (μ:X→Nat) (ok:X→Prop) (x0:X) (h0:ok x0) (hL:AllLk L (Lf x0)) (hG:Gf x0=G) (hH:(Hf x0).Sublist H)
  (round:∀x,ok x→WC P c (Exit.then (fun a w=>∃x',μ x'<μ x∧ok x'∧St cx (Lf x') (Gf x') (Hf x') a w) Q) cx (Lf x) (Gf x) (Hf x)):WC P (.loop c) Q cx L G H:=by
 intro a w st
 refine wp_loop_fuel (A:=fun k x a w=>μ x=k∧ok x∧St cx (Lf x) (Gf x) (Hf x) a w) (x0:=x0) ⟨rfl,h0,hG▸st.weaken hL.sub hH⟩ ?_
 rintro k x a w ⟨rfl,hok,st⟩
 refine Code.wp_mono (fun e a w q=>?_) (round x hok a w st)
 cases e<;>first
  | exact q
  | (obtain⟨x',h1,h2,h3⟩:=q;exact⟨_,x',h1,rfl,h2,h3⟩)
theorem WK.again {X:Type} {Lf:X→List (Nat×Value)} {Gf:X→Gh} {Hf:X→List Own} {μ:X→Nat} {ok:X→Prop} {x:X} (x':X) (h1:μ x'<μ x) (h2:ok x') (hL:AllLk L (Lf x')) (hG:Gf x'=G) (hH:(Hf x').Sublist H):
  WK (fun a w=>∃x',μ x'<μ x∧ok x'∧St cx (Lf x') (Gf x') (Hf x') a w) cx L G H:=
 fun a w st=>⟨x',h1,h2,hG▸st.weaken hL.sub hH⟩
theorem WC.join {x y:Code} {X:Type} (Lf:X→List (Nat×Value)) (Gf:X→Gh) (Hf:X→List Own) (ok:X→Prop)
  (h:WC P x (Exit.then (fun a w=>∃x,ok x∧St cx (Lf x) (Gf x) (Hf x) a w) Q) cx L G H) (hy:∀x,ok x→WC P y Q cx (Lf x) (Gf x) (Hf x)):WC P (.seq x y) Q cx L G H:=
 WC.seqJ _ h fun a w ⟨x,h1,h2⟩=>hy x h1 a w h2
theorem WK.meet {X:Type} {Lf:X→List (Nat×Value)} {Gf:X→Gh} {Hf:X→List Own} {ok:X→Prop} (x':X) (h2:ok x') (hL:AllLk L (Lf x')) (hG:Gf x'=G) (hH:(Hf x').Sublist H):
  WK (fun a w=>∃x,ok x∧St cx (Lf x) (Gf x) (Hf x) a w) cx L G H:=
 fun a w st=>⟨x',h2,hG▸st.weaken hL.sub hH⟩
theorem perm_at {l:List Own} {j:Nat} {x:Own} (h:At l j x):l.Perm (x::l.eraseIdx j):=by
 induction h with
 | here=>exact List.Perm.refl _
 | there _ ih=>exact(List.Perm.cons _ ih).trans (List.Perm.swap _ _ _)
end
end
section
open Go
section
variable {P:Program} {Q:Exit→Act→World→Prop} {cx:Cx} {L:List (Nat×Value)} {G:Gh} {H:List Own} {K:List (Nat×Value)→Gh→List Own→Prop} {ops:Array Oper} {rest:List Oper}
 {d:Option Tmp} {ty:TypeId} {pos:String} {af:Array Edge} {gu:Option (Nat×Bool)}
theorem OW.makeSlice {t e n by_:Nat} {z:Value} {x y:Operand} {k k':IntKind} {m:Int} (hx:ev L x=some (.int k m)) (hy:ev L y=some (.int k' m)) [hu:Und P t (.slice e)] [hi:Inf P e n by_ z] (hz:z.cells.size=n)
  (h0:0≤m) (hb:(by_:Int)*m≤281474976710656) (h63:m≤9223372036854775807) (hd:dOk d cx.N=true)
  (kk:∀b x,Vec e n (some ⟨b,0,none⟩) m.toNat m.toNat (repS m.toNat z.cells.toList) x→K (putL d (.slice (some ⟨b,0,none⟩) m.toNat m.toNat) L) G (x::H)):OW P Q ⟨d, .makeSlice t x y,ty,pos,af,gu⟩ cx L G H K:=by
 refine OW.gives hd fun a w st=>?_
 obtain⟨ie,hi1,hi2,hi3,hi4⟩:=hi.info
 have hr:=run_make (P:=P) w t e ie z hu.h hi1 hi2 k k' m m h0 (Int.le_refl _) (by rw[hi4];exact hb) h63
 have hc:madeCells z.cells (m.toNat*ie.size)=(repS m.toNat z.cells.toList).toArray:=by unfold madeCells;rw[hi3];exact base_repS z.cells n m.toNat hz
 rw[hc]at hr
 have hlen:(repS m.toNat z.cells.toList).length=m.toNat*n:=by rw[repS_length,Array.length_toList,hz]
 refine⟨_,_,G,_, .inl ?_,st.sat.alloc _,Stp.alloc _,kk w.heap.size (.blk w.heap.size (.cells (repS m.toNat z.cells.toList).toArray e (0,0))) ⟨hlen, .inr ⟨_,_,rfl,rfl,Nat.le_refl _,by simp[hlen],by simp[←hlen]⟩⟩⟩
 simp only[execOp,Sem.run_bind,st.eval hx,st.eval hy,hr,Result.andThen_ok]
 rfl
theorem OW.copy {t t2 e sz by_:Nat} {z:Value} {x y:Operand} {A B:Option Addr} {n cap m cy j:Nat} {cs news:List Value} {o:Own} (hx:ev L x=some (.slice A n cap)) (hy:ev L y=some (.slice B m cy)) [hu:Und P t (.slice e)] [hi:Inf P e sz by_ z]
  (hs0:Nat.blt 0 sz=true) (hv:Vec e sz A n cap cs o) (hj:At H j o) (hr:Rds G H B news) (hl:news.length=m*sz) (h1:news.all (·.oneCell')=true) (hmn:m≤n) (hd:dOk d cx.N=true)
  (k:∀o',Vec e sz A n cap (news++cs.drop (m*sz)) o'→K (putL d (goInt m) L) G (H.set j o')):
  OW P Q ⟨d, .call { callee:= .builtin .copy,args:= #[x,y],argTypes:= #[t,t2] },ty,pos,af,gu⟩ cx L G H K:=by
 have hsz:0<sz:=Nat.le_of_ble_eq_true hs0
 refine OW.gives hd fun a w st=>?_
 obtain⟨ie,hi1,hi2,hi3,hi4⟩:=hi.info
 have hu':=hu.h
 have hrun:∀v w',(Builtin.copy_ #[t,t2] ty #[.slice A n cap, .slice B m cy]).run P w= .ok v w'→(execOp a.eval ⟨d, .call { callee:= .builtin .copy,args:= #[x,y],argTypes:= #[t,t2] },ty,pos,af,gu⟩).run P w= .ok (.value v) w':=by
  intro v w' h
  simp only[execOp,resolve,invoke,builtin,Sem.run_bind,Sem.run_pure,Result.andThen_ok,List.map_toArray,List.map_cons,List.map_nil,st.eval hx,st.eval hy,h]
 by_cases hm:m=0
 ·subst hm
  have hn:news=[]:=List.eq_nil_of_length_eq_zero (by simpa using hl)
  subst hn
  refine⟨goInt 0,w,G,H, .inl (hrun _ _ ?_),st.sat,Stp.drew rfl,?_⟩
  ·cases A<;>cases B<;>simp[Builtin.copy_,run_underlying hu',sizeOf,typeInfo,hi1,Builtin.lenOf,Builtin.firstCells,storeCells,loadCells,loadCellsFrom]
  ·have:=k o (by simpa using hv)
   rw[set_same H j o hj.get]at this
   exact this
 ·have hm0:0<m:=by omega
  obtain⟨bB,oB,rfl,hread⟩:∃b o,B=some ⟨b,o,none⟩∧∀w,Sat G H w→∀j v,news[j]? =some v→w.cell? ⟨b,o+j,none⟩=some v:=by
   rcases hr with h | h
   ·have hp:=Nat.mul_pos hm0 hsz
    rw[←hl,h]at hp
    simp at hp
   ·exact h
  obtain⟨hcl,⟨rfl,rfl,rfl,rfl⟩ | ⟨b,c,rfl,rfl,hnc,hcs,htk⟩⟩:=hv
  ·omega
  ·have hbw:w.heap[b]? =some (.cells c e (0,0)):=st.sat.hold _ (List.mem_of_getElem? hj.get)
   have hms:m*sz≤n*sz:=Nat.mul_le_mul_right _ hmn
   have hns:n*sz≤cap*sz:=Nat.mul_le_mul_right _ hnc
   have hfit:0+news.length≤c.size:=by omega
   have hld:=run_loadCells_list (P:=P) w ⟨bB,oB,none⟩ news (fun j u e=>by rw[cell_add];exact hread w st.sat j u e)
   have hst:=run_storeCells_at P b 0 e news 0 c w hbw (by simpa using hfit) (fun u hu=>List.all_eq_true.1 h1 u hu)
   simp only[Nat.add_zero]at hst
   have hsp:=st.sat.splice (o:=0) (cs:=news) hj hfit
   refine⟨goInt m,_,G,_, .inl (hrun _ _ ?_),hsp.1,hsp.2,k _ ⟨?_, .inr ⟨b,_,rfl,rfl,hnc,by rw[size_splice hfit,hcs],?_⟩⟩⟩
   ·rw[hl]at hld
    have hmin:Nat.min m n=m:=Nat.min_eq_left hmn
    simp[Builtin.copy_,run_underlying hu',Builtin.lenOf,Builtin.firstCells,sizeOf,typeInfo,hi1,hi3,hmin,hld,hst,splice]
   ·rw[List.length_append,List.length_drop,hcl,hl];omega
   ·have h0:(splice c 0 news).toList=news++c.toList.drop news.length:=by simp[splice]
    rw[h0,List.take_append,List.take_of_length_le (by omega),←htk,List.drop_take]
    rw[hl]
def Gh.add (G:Gh) (b:Nat) (c:Array Value):Gh:=fun b' o=>if b'=b then c[o]? else G b' o
theorem Sat.frozen {w:World} (h:Sat G H w) {j b:Nat} {c:Array Value} {T:TypeId} (hj:At H j (.blk b (.cells c T (0,0)))):G.le (G.add b c)∧Sat (G.add b c) (H.eraseIdx j) w:=by
 have hh:w.heap[b]? =some (.cells c T (0,0)):=h.hold _ (List.mem_of_getElem? hj.get)
 have hg:∀o,G b o=none:=fun o=>h.ghost _ (List.mem_of_getElem? hj.get) b o rfl
 have hp:=h.perm (perm_at hj)
 have hap:=List.pairwise_cons.1 hp.apart
 refine⟨fun b' o v e=>?_,⟨fun b' o v e=>?_,fun x hx=>hp.hold x (.tail _ hx),hap.2,fun x hx b' o hc=>?_⟩⟩
 ·unfold Gh.add
  split
  ·rename_i hb;subst hb;rw[hg o]at e;cases e
  ·exact e
 ·unfold Gh.add at e
  split at e
  ·rename_i hb
   subst hb
   simp[World.cell?,hh,e]
  ·exact h.agr b' o v e
 ·unfold Gh.add
  split
  ·rename_i hb;subst hb;exact absurd hc (hap.1 x hx b' o rfl)
  ·exact hp.ghost x (.tail _ hx) b' o hc
theorem St.freeze {a:Act} {w:World} (st:St cx L G H a w) {j b:Nat} {c:Array Value} {T:TypeId} (hj:At H j (.blk b (.cells c T (0,0)))):St cx L (G.add b c) (H.eraseIdx j) a w:=by
 have h:=st.sat.frozen hj
 refine⟨st.size,st.defs,st.slot,h.2,⟨st.stp.size,st.stp.keep,Gh.le_trans st.stp.gle h.1,fun b' o v e=>?_,fun x hx=>st.stp.own x (List.mem_of_mem_eraseIdx hx),st.stp.weq⟩⟩
 unfold Gh.add at e
 split at e
 ·rename_i hb
  subst hb
  exact .inr (st.stp.own _ (List.mem_of_getElem? hj.get) b' o rfl)
 ·exact st.stp.gnew b' o v e
theorem WC.freeze {c0:Code} {j b:Nat} {c:Array Value} {T:TypeId} (hj:At H j (.blk b (.cells c T (0,0)))) (h:G.le (G.add b c)→WC P c0 Q cx L (G.add b c) (H.eraseIdx j)):WC P c0 Q cx L G H:=
 fun a w st=>h (st.sat.frozen hj).1 a w (st.freeze hj)
theorem WK.freeze {K:Act→World→Prop} {j b:Nat} {c:Array Value} {T:TypeId} (hj:At H j (.blk b (.cells c T (0,0)))) (h:G.le (G.add b c)→WK K cx L (G.add b c) (H.eraseIdx j)):WK K cx L G H:=
 fun a w st=>h (st.sat.frozen hj).1 a w (st.freeze hj)
theorem Gh.add_at {b:Nat} {c:Array Value} {o:Nat} :G.add b c b o=c[o]? :=by simp[Gh.add]
theorem WK.frozenVec {K:Act→World→Prop} {T sz n cap j:Nat} {A:Option Addr} {cs:List Value} {x:Own} (hv:Vec T sz A n cap cs x) (hj:At H j x)
  (h:∀G',G.le G'→(cs=[]∨∃b,A=some ⟨b,0,none⟩∧Cs G' b 0 cs)→WK K cx L G' (H.eraseIdx j)):WK K cx L G H:=by
 obtain⟨hl,⟨h1,h2,h3,h4⟩ | ⟨b,c,rfl,rfl,h1,h2,rfl⟩⟩:=hv
 ·refine WK.weaken (L':=L) (fun _ _ e=>e) (List.eraseIdx_sublist ..) (h G (Gh.le_refl _) (.inl ?_))
  subst h2;exact List.eq_nil_of_length_eq_zero (by simpa using hl)
 ·refine WK.freeze hj fun hg=>h _ hg (.inr ⟨b,rfl,fun i v e=>?_⟩)
  rw[Nat.zero_add,Gh.add_at]
  rw[List.getElem?_take]at e
  split at e
  ·simpa using e
  ·cases e
theorem WC.frozenVec {c0:Code} {T sz n cap j:Nat} {A:Option Addr} {cs:List Value} {x:Own} (hv:Vec T sz A n cap cs x) (hj:At H j x)
  (h:∀G',G.le G'→(cs=[]∨∃b,A=some ⟨b,0,none⟩∧Cs G' b 0 cs)→WC P c0 Q cx L G' (H.eraseIdx j)):WC P c0 Q cx L G H:=
 WK.frozenVec (K:=c0.wp P Q) hv hj h
theorem Vec.put {T sz n cap b i:Nat} {A:Option Addr} {cs:List Value} {c:Array Value} (h:Vec T sz A n cap cs (.blk b (.cells c T (0,0)))) (hi:i<n) (es:List Value) (he:es.length=sz):
  A=some ⟨b,0,none⟩∧i*sz+es.length≤c.size∧Vec T sz A n cap (cs.take (i*sz)++es++cs.drop (i*sz+es.length)) (.blk b (.cells (splice c (i*sz) es) T (0,0))):=by
 obtain⟨hl,⟨h1,h2,h3,h4⟩ | ⟨b',c',rfl,hx,h1,h2,rfl⟩⟩:=h
 ·omega
 ·cases hx
  have e1:(i+1)*sz≤n*sz:=Nat.mul_le_mul_right _ hi
  have e2:n*sz≤cap*sz:=Nat.mul_le_mul_right _ h1
  rw[Nat.add_mul]at e1
  have hfit:i*sz+es.length≤c.size:=by omega
  refine⟨rfl,hfit,?_, .inr ⟨b,_,rfl,rfl,h1,by rw[size_splice hfit,h2],?_⟩⟩
  ·simp only[List.length_append,List.length_take,List.length_drop,hl]at hl⊢;omega
  ·simp only[splice]
   apply List.ext_getElem?
   intro k
   simp only[List.getElem?_take,List.getElem?_append,List.length_append,List.length_take,List.getElem?_drop,Array.length_toList]
   have m1:min (i*sz) c.size=i*sz:=by omega
   have m2:min (i*sz) (min (n*sz) c.size)=i*sz:=by omega
   simp only[m1,m2]
   by_cases hk:k<n*sz
   ·simp only[hk,if_true]
    by_cases h3:k<i*sz+es.length
    ·simp only[h3,if_true]
    ·simp only[h3,if_false,show i*sz+es.length+(k - (i*sz+es.length))=k by omega,hk,if_true]
   ·simp only[hk,if_false]
    rw[if_neg (by omega),if_neg (by omega)]
theorem Rds.sub {A:Option Addr} {cs:List Value} {H':List Own} (h:Rds G H A cs) (hs:H.Sublist H'):Rds G H' A cs:=by
 rcases h with h | ⟨b,o,e,h⟩
 ·exact .inl h
 ·exact .inr ⟨b,o,e,fun w s=>h w (s.sub hs)⟩
end
end
end Go.Proofs.YtcnlkfocbbkdhaaGreatDoor.Gb
