/- The plain law of the verifier's states: the least ones that go with all instructions. Values, instructions, procedures, needs, states of the verifier: how they lie in memory; its small helpers. The rows of the instructions; may an instruction be written? The walk goes on as far as it is plain, through statements whose order is open too. Small functions of the verifier: types are compared, joined, copied; states likewise. States of the verifier: copied, joined, compared; where an instruction goes on. What an instruction takes and lays down: walked. What is known behind an instruction: walked. Many states in memory that is ours; numbers and texts as a map's keys. The verifier finds the least states of a procedure: walked. -/
import Derived.Test.YtcnlkfocbbkdhaaGreatDoorWb
set_option linter.unusedVariables false
set_option linter.unusedSimpArgs false
set_option linter.unusedSectionVars false
namespace Go.Proofs.YtcnlkfocbbkdhaaGreatDoor.Gb
open Go Go.Proofs
structure V where
 t:Int
 i:Int
 b:Bool
 s:ByteArray
deriving instance DecidableEq for V
structure Pr where
 name:ByteArray
 exp:Bool
 params:List Int
 locals:Int
 result:Int
 code:List (Int×Int)
structure Nd where
 path:ByteArray
 name:ByteArray
 params:List Int
 result:Int
structure Wd where
 consts:List V
 needs:List Nd
 procs:List Pr
structure SS where
 reached:Bool
 unlike:Bool
 vars:List Int
 stack:List Int
deriving DecidableEq
structure Rw where
 name:ByteArray
 n:Bool
 takes:Int
 lays:Int
def rw0:Rw:=⟨⟨#[]⟩,false,0,0⟩
def rowsC:List Rw:=[rw0,⟨⟨#[99,111,110,115,116]⟩,true,0,1⟩,⟨⟨#[108,111,97,100]⟩,true,0,1⟩,⟨⟨#[115,116,111,114,101]⟩,true,1,0⟩,⟨⟨#[100,114,111,112]⟩,false,1,0⟩,⟨⟨#[106,117,109,112]⟩,true,0,0⟩,⟨⟨#[117,110,108,101,115,115]⟩,true,1,0⟩,⟨⟨#[99,97,108,108]⟩,true,0,0⟩,⟨⟨#[111,117,116,101,114]⟩,true,0,0⟩,⟨⟨#[114,101,116,117,114,110]⟩,false,0,0⟩,⟨⟨#[103,105,118,101]⟩,false,1,0⟩,⟨⟨#[112,114,105,110,116]⟩,false,1,0⟩,⟨⟨#[101,113]⟩,false,2,1⟩,⟨⟨#[110,101]⟩,false,2,1⟩,⟨⟨#[108,116]⟩,false,2,1⟩,⟨⟨#[108,101]⟩,false,2,1⟩,⟨⟨#[103,116]⟩,false,2,1⟩,⟨⟨#[103,101]⟩,false,2,1⟩,⟨⟨#[97,100,100]⟩,false,2,1⟩,⟨⟨#[115,117,98]⟩,false,2,1⟩,⟨⟨#[106,111,105,110]⟩,false,2,1⟩,⟨⟨#[109,117,108]⟩,false,2,1⟩,⟨⟨#[100,105,118]⟩,false,2,1⟩,⟨⟨#[114,101,109]⟩,false,2,1⟩,⟨⟨#[110,101,103]⟩,false,1,1⟩,⟨⟨#[110,111,116]⟩,false,1,1⟩,⟨⟨#[108,101,110]⟩,false,1,1⟩]
def rowC (c:Int):Rw:=if c<1 then rw0 else(rowsC[c.toNat]?).getD rw0
def mayR (c n:Int):Bool:=((rowC c).name != ⟨#[]⟩)&&(decide (0≤n)&&(decide (n≤2147483647)&&((rowC c).n || (n==0))))
def leT (a b:Int):Prop:=b=0∨a=b
theorem leT.refl (a:Int):leT a a:= .inr rfl
theorem leT.trans {a b c:Int} (h:leT a b) (h':leT b c):leT a c:=by
 rcases h' with h' | rfl
 ·exact .inl h'
 ·exact h
theorem leT.anti {a b:Int} (h:leT a b) (h':leT b a):a=b:=by unfold leT at*;omega
inductive LeR:List Int→List Int→Prop where
 | nil:LeR [] []
 | cons {a b:Int} {aas bs:List Int} (h:leT a b) (t:LeR aas bs):LeR (a::aas) (b::bs)
theorem LeR.refl:∀a,LeR a a
 | []=> .nil
 | a::l=> .cons (leT.refl a) (LeR.refl l)
theorem LeR.trans {a b c:List Int} (h:LeR a b) (h':LeR b c):LeR a c:=by
 induction h generalizing c with
 | nil=>exact h'
 | cons h t ih=>cases h' with | cons h2 t2=>exact .cons (h.trans h2) (ih t2)
theorem LeR.anti {a b:List Int} (h:LeR a b) (h':LeR b a):a=b:=by
 induction h with
 | nil=>rfl
 | cons h t ih=>cases h' with | cons h2 t2=>rw[h.anti h2,ih t2]
theorem LeR.length {a b:List Int} (h:LeR a b):a.length=b.length:=by
 induction h with
 | nil=>rfl
 | cons _ _ ih=>simp[ih]
theorem LeR.get {a b:List Int} (h:LeR a b) (n:Nat):leT ((a[n]?).getD 0) ((b[n]?).getD 0):=by
 induction h generalizing n with
 | nil=>exact leT.refl _
 | cons h t ih=>cases n with | zero=>exact h | succ n=>exact ih n
theorem LeR.set {a b:List Int} (h:LeR a b) (n:Nat) {x y:Int} (hx:leT x y):LeR (a.set n x) (b.set n y):=by
 induction h generalizing n with
 | nil=>exact .nil
 | cons h t ih=>cases n with | zero=>exact .cons hx t | succ n=>exact .cons h (ih n)
theorem LeR.take {a b:List Int} (h:LeR a b) (n:Nat):LeR (a.take n) (b.take n):=by
 induction h generalizing n with
 | nil=>simp;exact .nil
 | cons h t ih=>cases n with | zero=>exact .nil | succ n=>exact .cons h (ih n)
theorem LeR.append {a b c d:List Int} (h:LeR a b) (h':LeR c d):LeR (a++c) (b++d):=by
 induction h with
 | nil=>exact h'
 | cons h t ih=>exact .cons h ih
def joinT (x y:Int):Int:=if x=y then x else 0
theorem joinT_le {x y m:Int} :leT (joinT x y) m↔leT x m∧leT y m:=by
 unfold joinT leT
 split<;>omega
def joinRow:List Int→List Int→List Int
 | a::aas,b::bs=>joinT a b::joinRow aas bs
 | _,_=>[]
theorem joinRow_length:∀ {a b:List Int},a.length=b.length→(joinRow a b).length=a.length
 | [],[],_=>rfl
 | a::aas,b::bs,h=>by simp only[joinRow,List.length_cons];rw[joinRow_length (by simpa using h)]
theorem joinRow_le:∀ {a b m:List Int},a.length=b.length→(LeR (joinRow a b) m↔LeR a m∧LeR b m)
 | [],[],m,_=>by simp[joinRow]
 | a::aas,b::bs,m,h=>by
  have ih:=fun m=>joinRow_le (a:=aas) (b:=bs) (m:=m) (by simpa using h)
  constructor
  ·intro h1
   cases h1 with
   | cons h1 t1=>exact⟨.cons (joinT_le.1 h1).1 ((ih _).1 t1).1, .cons (joinT_le.1 h1).2 ((ih _).1 t1).2⟩
  ·rintro ⟨h1,h2⟩
   cases h1 with
   | cons h1 t1=>cases h2 with | cons h2 t2=>exact .cons (joinT_le.2 ⟨h1,h2⟩) ((ih _).2 ⟨t1,t2⟩)
def nz:List Int→Nat
 | []=>0
 | a::l=>(if a=0 then 0 else 1)+nz l
theorem nz_le:∀l,nz l≤l.length
 | []=>Nat.le_refl _
 | a::l=>by have:=nz_le l;simp only[nz,List.length_cons];split<;>omega
theorem nz_join:∀ {a b:List Int},a.length=b.length→joinRow a b=a∨nz (joinRow a b)<nz a
 | [],[],_=> .inl rfl
 | a::aas,b::bs,h=>by
  have hl:aas.length=bs.length:=by simpa using h
  simp only[joinRow,nz,joinT]
  rcases nz_join hl with ih | ih
  ·by_cases e:a=b
   ·left;rw[if_pos e,ih]
   ·by_cases e0:a=0
    ·left;rw[if_neg e,ih,e0]
    ·right;rw[if_neg e,ih,if_pos rfl,if_neg e0];omega
  ·right
   by_cases e:a=b
   ·rw[if_pos e];omega
   ·rw[if_neg e,if_pos rfl];split<;>omega
theorem nz_join_le {a b:List Int} (h:a.length=b.length):nz (joinRow a b)≤nz a:=by
 rcases nz_join h with e | e
 ·rw[e];exact Nat.le_refl _
 ·omega
structure SS.wf (n:Nat) (s:SS):Prop where
 bare:s.reached=false→s=⟨false,false,[],[]⟩
 vars:s.reached=true→s.vars.length=n
 unl:s.unlike=true→s.stack=[]
 high:s.stack.length≤128
def SS.le (a b:SS):Prop:=a.reached=true→b.reached=true∧LeR a.vars b.vars∧(b.unlike=true∨(a.unlike=false∧b.unlike=false∧LeR a.stack b.stack))
def ss0:SS:=⟨false,false,[],[]⟩
theorem ss0_wf (n:Nat):ss0.wf n:=⟨fun _=>rfl,fun h=>(by cases h),fun h=>(by cases h),by decide⟩
theorem SS.le_refl (a:SS):a.le a:=fun h=>⟨h,LeR.refl _,by cases hu:a.unlike with | true=>exact .inl rfl | false=>exact .inr ⟨rfl,rfl,LeR.refl _⟩⟩
theorem SS.le_trans {a b c:SS} (h:a.le b) (h':b.le c):a.le c:=fun ha=>by
 obtain⟨h1,h2,h3⟩:=h ha
 obtain⟨h4,h5,h6⟩:=h' h1
 refine⟨h4,h2.trans h5,?_⟩
 rcases h6 with h6 | ⟨h6,h7,h8⟩
 ·exact .inl h6
 ·rcases h3 with h3 | ⟨h3,_,h10⟩
  ·rw[h6]at h3;cases h3
  ·exact .inr ⟨h3,h7,h10.trans h8⟩
theorem SS.le_anti {n:Nat} {a b:SS} (wa:a.wf n) (wb:b.wf n) (h:a.le b) (h':b.le a):a=b:=by
 cases ha:a.reached with
 | false=>
  cases hb:b.reached with
  | false=>rw[wa.bare ha,wb.bare hb]
  | true=>have:=(h' hb).1;rw[ha]at this;cases this
 | true=>
  obtain⟨h1,h2,h3⟩:=h ha
  obtain⟨_,h5,h6⟩:=h' h1
  have hv:=h2.anti h5
  cases hu:a.unlike with
  | true=>
   rcases h3 with h3 | ⟨h3,_⟩
   ·have e1:=wa.unl hu;have e2:=wb.unl h3
    cases a;cases b;simp_all
   ·rw[hu]at h3;cases h3
  | false=>
   rcases h6 with h6 | ⟨h6,_,h8⟩
   ·rw[hu]at h6;cases h6
   ·rcases h3 with h3 | ⟨_,_,h9⟩
    ·rw[h6]at h3;cases h3
    ·have e:=h9.anti h8
     cases a;cases b;simp_all
def joinS (a b:SS):SS:=
 if a.reached=false then b else if b.reached=false then a
 else if a.unlike=true∨b.unlike=true∨a.stack.length≠b.stack.length then⟨true,true,joinRow a.vars b.vars,[]⟩
 else⟨true,false,joinRow a.vars b.vars,joinRow a.stack b.stack⟩
theorem joinS_wf {n:Nat} {a b:SS} (wa:a.wf n) (wb:b.wf n):(joinS a b).wf n:=by
 unfold joinS
 split
 ·exact wb
 ·rename_i ha
  split
  ·exact wa
  ·rename_i hb
   have ha':a.reached=true:=by simpa using ha
   have hb':b.reached=true:=by simpa using hb
   have hl:a.vars.length=b.vars.length:=by rw[wa.vars ha',wb.vars hb']
   split
   ·exact⟨fun h=>by simp at h,fun _=>by simp[joinRow_length hl,wa.vars ha'],fun _=>rfl,by simp⟩
   ·rename_i hc
    have hs:a.stack.length=b.stack.length:=by
     apply Decidable.byContradiction;intro h;exact hc (.inr (.inr h))
    exact⟨fun h=>by simp at h,fun _=>by simp[joinRow_length hl,wa.vars ha'],fun h=>by simp at h,by simp only[joinRow_length hs];exact wa.high⟩
theorem joinS_le {n:Nat} {a b m:SS} (wa:a.wf n) (wb:b.wf n):(joinS a b).le m↔a.le m∧b.le m:=by
 unfold joinS
 split
 ·rename_i ha
  exact⟨fun h=>⟨fun h'=>(by rw[ha]at h';cases h'),h⟩,fun h=>h.2⟩
 ·rename_i ha
  split
  ·rename_i hb
   exact⟨fun h=>⟨h,fun h'=>(by rw[hb]at h';cases h')⟩,fun h=>h.1⟩
  ·rename_i hb
   have ha':a.reached=true:=by simpa using ha
   have hb':b.reached=true:=by simpa using hb
   have hl:a.vars.length=b.vars.length:=by rw[wa.vars ha',wb.vars hb']
   split
   ·rename_i hc
    constructor
    ·intro h
     obtain⟨h1,h2,h3⟩:=h rfl
     have h3':m.unlike=true:=by
      rcases h3 with h3 | ⟨h3,_⟩
      ·exact h3
      ·cases h3
     have h2':=(joinRow_le hl).1 h2
     exact⟨fun _=>⟨h1,h2'.1, .inl h3'⟩,fun _=>⟨h1,h2'.2, .inl h3'⟩⟩
    ·rintro ⟨h,h'⟩ _
     obtain⟨h1,h2,h3⟩:=h ha'
     obtain⟨_,h5,h6⟩:=h' hb'
     refine⟨h1,(joinRow_le hl).2 ⟨h2,h5⟩, .inl ?_⟩
     rcases h3 with h3 | ⟨h3,_,h3l⟩
     ·exact h3
     ·rcases h6 with h6 | ⟨h6,_,h6l⟩
      ·exact h6
      ·rcases hc with hc | hc | hc
       ·rw[hc]at h3;cases h3
       ·rw[hc]at h6;cases h6
       ·exact absurd (h3l.length.trans h6l.length.symm) hc
   ·rename_i hc
    have hs:a.stack.length=b.stack.length:=by
     apply Decidable.byContradiction;intro h;exact hc (.inr (.inr h))
    have hua:a.unlike=false:=by
     cases h:a.unlike with | false=>rfl | true=>exact absurd (.inl h) hc
    have hub:b.unlike=false:=by
     cases h:b.unlike with | false=>rfl | true=>exact absurd (.inr (.inl h)) hc
    constructor
    ·intro h
     obtain⟨h1,h2,h3⟩:=h rfl
     have h2':=(joinRow_le hl).1 h2
     rcases h3 with h3 | ⟨_,h3,h4⟩
     ·exact⟨fun _=>⟨h1,h2'.1, .inl h3⟩,fun _=>⟨h1,h2'.2, .inl h3⟩⟩
     ·have h4':=(joinRow_le hs).1 h4
      exact⟨fun _=>⟨h1,h2'.1, .inr ⟨hua,h3,h4'.1⟩⟩,fun _=>⟨h1,h2'.2, .inr ⟨hub,h3,h4'.2⟩⟩⟩
    ·rintro ⟨h,h'⟩ _
     obtain⟨h1,h2,h3⟩:=h ha'
     obtain⟨_,h5,h6⟩:=h' hb'
     refine⟨h1,(joinRow_le hl).2 ⟨h2,h5⟩,?_⟩
     rcases h3 with h3 | ⟨_,h3,h3l⟩
     ·exact .inl h3
     ·rcases h6 with h6 | ⟨_,_,h6l⟩
      ·exact .inl h6
      ·exact .inr ⟨rfl,h3,(joinRow_le hs).2 ⟨h3l,h6l⟩⟩
theorem joinS_left {n:Nat} {a b:SS} (wa:a.wf n) (wb:b.wf n):a.le (joinS a b):=((joinS_le wa wb).1 (SS.le_refl _)).1
theorem joinS_right {n:Nat} {a b:SS} (wa:a.wf n) (wb:b.wf n):b.le (joinS a b):=((joinS_le wa wb).1 (SS.le_refl _)).2
def wt (n:Nat) (s:SS):Nat:=if s.reached=false then n+130 else if s.unlike=true then nz s.vars else nz s.vars+nz s.stack+1
theorem joinS_wt {n:Nat} {a b:SS} (wa:a.wf n) (wb:b.wf n):joinS a b=a∨wt n (joinS a b)<wt n a:=by
 unfold joinS
 by_cases ha:a.reached=false
 ·rw[if_pos ha]
  by_cases hb:b.reached=false
  ·left;rw[wa.bare ha,wb.bare hb]
  ·right
   have hb':b.reached=true:=by simpa using hb
   have h1:=nz_le b.vars
   have h2:=nz_le b.stack
   have h3:=wb.vars hb'
   have h4:=wb.high
   unfold wt
   rw[if_pos ha,if_neg hb]
   split<;>omega
 ·rw [if_neg ha]
  by_cases hb:b.reached=false
  ·left;rw[if_pos hb]
  ·rw [if_neg hb]
   have ha':a.reached=true:=by simpa using ha
   have hb':b.reached=true:=by simpa using hb
   have hl:a.vars.length=b.vars.length:=by rw[wa.vars ha',wb.vars hb']
   by_cases hc:a.unlike=true∨b.unlike=true∨a.stack.length≠b.stack.length
   ·rw[if_pos hc]
    cases hu:a.unlike with
    | true=>
     rcases nz_join hl with e | e
     ·left;have e2:=wa.unl hu;rw[e];cases a;simp_all
     ·right;unfold wt;simp[ha',hu,e]
    | false=>
     right
     have:=nz_join_le hl
     unfold wt;simp[ha',hu];omega
   ·rw[if_neg hc]
    have hs:a.stack.length=b.stack.length:=by
     apply Decidable.byContradiction;intro h;exact hc (.inr (.inr h))
    have hua:a.unlike=false:=by
     cases h:a.unlike with | false=>rfl | true=>exact absurd (.inl h) hc
    have n1:=nz_join_le hl
    have n2:=nz_join_le hs
    rcases nz_join hl with e | e
    ·rcases nz_join hs with e' | e'
     ·left;rw[e,e'];cases a;simp_all
     ·right;unfold wt;simp[ha',hua];omega
    ·right;unfold wt;simp[ha',hua];omega
def hdE (params:List Int) (result:Int):Nat×List Int:=(params.length,if result=0 then []else [result])
def effC (w:Wd) (vars:List Int) (i:Int×Int):Nat×List Int:=
 if i.1=1 then(0,[((w.consts[i.2.toNat]?).map (·.t)).getD 0])
 else if i.1=2 then(0,[(vars[i.2.toNat]?).getD 0])
 else if i.1=7 then((w.procs[i.2.toNat]?).map fun p=>hdE p.params p.result).getD (0,[])
 else if i.1=8 then((w.needs[i.2.toNat]?).map fun p=>hdE p.params p.result).getD (0,[])
 else if i.1=20 then(2,[3])
 else if 12≤i.1∧i.1≤17 then(2,[2])
 else if i.1=25 then(1,[2])
 else if(rowC i.1).lays=1 then((rowC i.1).takes.toNat,[1])else((rowC i.1).takes.toNat,[])
theorem effC_mono {w:Wd} {a b:List Int} (h:LeR a b) (i:Int×Int):(effC w a i).1=(effC w b i).1∧LeR (effC w a i).2 (effC w b i).2:=by
 unfold effC
 split
 ·exact⟨rfl,LeR.refl _⟩
 ·split
  ·exact⟨rfl, .cons (h.get _) .nil⟩
  ·exact⟨rfl,LeR.refl _⟩
def topS (s:SS):Int:=if s.unlike=true then 0 else(s.stack[s.stack.length - 1]?).getD 0
def varsR (i:Int×Int) (s:SS):List Int:=if i.1=3 then s.vars.set i.2.toNat (topS s)else s.vars
def badS (w:Wd) (i:Int×Int) (s:SS):Prop:=s.unlike=true∨s.stack.length<(effC w s.vars i).1∨128<s.stack.length - (effC w s.vars i).1+(effC w s.vars i).2.length
instance (w:Wd) (i:Int×Int) (s:SS):Decidable (badS w i s):=by unfold badS;infer_instance
def behR (w:Wd) (i:Int×Int) (s:SS):SS:=
 if badS w i s then⟨s.reached,true,varsR i s,[]⟩else⟨s.reached,false,varsR i s,s.stack.take (s.stack.length - (effC w s.vars i).1)++(effC w s.vars i).2⟩
theorem behR_reached (w:Wd) (i:Int×Int) (s:SS):(behR w i s).reached=s.reached:=by unfold behR;split<;>rfl
theorem varsR_length (i:Int×Int) (s:SS):(varsR i s).length=s.vars.length:=by unfold varsR;split<;>simp
theorem behR_wf {n:Nat} {w:Wd} {i:Int×Int} {s:SS} (h:s.wf n) (hr:s.reached=true):(behR w i s).wf n:=by
 unfold behR
 split
 ·exact⟨fun h'=>by simp[hr]at h',fun _=>by rw[←h.vars hr];exact varsR_length i s,fun _=>rfl,by simp⟩
 ·rename_i hb
  refine⟨fun h'=>by simp[hr]at h',fun _=>by rw[←h.vars hr];exact varsR_length i s,fun h'=>by simp at h',?_⟩
  simp only[List.length_append,List.length_take]
  unfold badS at hb
  omega
theorem topS_mono {n:Nat} {a b:SS} (h:a.le b) (hr:a.reached=true):leT (topS a) (topS b):=by
 obtain⟨_,_,h3⟩:=h hr
 unfold topS
 rcases h3 with h3 | ⟨h3,h4,h5⟩
 ·rw[if_pos h3];exact .inl rfl
 ·rw[if_neg (by simp[h3]),if_neg (by simp[h4]),h5.length];exact h5.get _
theorem behR_mono {n:Nat} {w:Wd} {i:Int×Int} {a b:SS} (wa:a.wf n) (wb:b.wf n) (h:a.le b):(behR w i a).le (behR w i b):=by
 intro hr
 rw[behR_reached]at hr
 obtain⟨h1,h2,h3⟩:=h hr
 obtain⟨e1,e2⟩:=effC_mono (w:=w) h2 i
 have hv:LeR (varsR i a) (varsR i b):=by
  unfold varsR
  split
  ·exact h2.set _ (topS_mono (n:=n) h hr)
  ·exact h2
 have e3:=e2.length
 rw[behR_reached]
 refine⟨h1,?_,?_⟩
 ·unfold behR;split<;>split<;>exact hv
 ·by_cases hb:badS w i b
  ·left;unfold behR;rw[if_pos hb]
  ·right
   have hub:b.unlike=false:=by
    cases h:b.unlike with | false=>rfl | true=>exact absurd (.inl h) hb
   rcases h3 with h3 | ⟨h3,_,h5⟩
   ·rw[hub]at h3;cases h3
   ·have ha:¬badS w i a:=by
     intro h'
     apply hb
     rcases h' with h' | h' | h'
     ·rw[h3]at h';cases h'
     ·right;left;rw[←h5.length,←e1];exact h'
     ·right;right;rw[←h5.length,←e1,←e3];exact h'
    unfold behR
    rw[if_neg hb,if_neg ha]
    refine⟨rfl,rfl,?_⟩
    show LeR (a.stack.take _++_) (b.stack.take _++_)
    rw[h5.length,e1]
    exact(h5.take _).append e2
def nextR (i:Int×Int) (k:Nat):List Int:=
 if i.1=9∨i.1=10 then []else if i.1=5 then [i.2]else if i.1=6 then [i.2,(k:Int)+1]else [(k:Int)+1]
def beginS (p:Pr):SS:=⟨true,false,p.params++List.replicate (p.locals.toNat - p.params.length) 0,[]⟩
structure Closed (w:Wd) (p:Pr) (l:List SS):Prop where
 len:l.length=p.code.length
 wf:∀s∈l,s.wf p.locals.toNat
 zero:∀s,l[0]? =some s→(beginS p).le s
 step:∀k i s,p.code[k]? =some i→l[k]? =some s→s.reached=true→∀x∈nextR i k,∀(j:Nat) t,x=j→l[j]? =some t→(behR w i s).le t
def BelowL (l m:List SS):Prop:=∀(k:Nat) s t,l[k]? =some s→m[k]? =some t→s.le t
structure Least (w:Wd) (p:Pr) (l:List SS):Prop where
 closed:Closed w p l
 low:∀m,Closed w p m→BelowL l m
theorem Least.unique {w:Wd} {p:Pr} {l m:List SS} (h:Least w p l) (h':Least w p m):l=m:=by
 apply List.ext_getElem?
 intro k
 cases hl:l[k]? with
 | none=>
  rw[List.getElem?_eq_none_iff,h.closed.len,←h'.closed.len]at hl
  rw[List.getElem?_eq_none hl]
 | some s=>
  have hk:=(List.getElem?_eq_some_iff.1 hl).1
  rw[h.closed.len,←h'.closed.len]at hk
  have hm:m[k]? =some m[k]:=List.getElem?_eq_getElem hk
  rw[hm]
  congr 1
  exact SS.le_anti (h.closed.wf _ (List.mem_of_getElem? hl)) (h'.closed.wf _ (List.mem_of_getElem? hm)) (h.low _ h'.closed k _ _ hl hm) (h'.low _ h.closed k _ _ hm hl)
structure FInv (w:Wd) (p:Pr) (l:List SS) (T:List Int):Prop where
 len:l.length=p.code.length
 wf:∀s∈l,s.wf p.locals.toNat
 zero:∀s,l[0]? =some s→(beginS p).le s
 low:∀m,Closed w p m→BelowL l m
 todo:∀x∈T,∃(k:Nat) (s:SS),x=k∧l[k]? =some s∧s.reached=true
 opn:∀(k:Nat) i s,(k:Int)∉T→p.code[k]? =some i→l[k]? =some s→s.reached=true→∀x∈nextR i k,∀(j:Nat) t,x=j→l[j]? =some t→(behR w i s).le t
theorem FInv.least {w:Wd} {p:Pr} {l:List SS} (h:FInv w p l []):Least w p l:=
 ⟨⟨h.len,h.wf,h.zero,fun k i s hi hs hr=>h.opn k i s (by simp) hi hs hr⟩,h.low⟩
structure FIn (w:Wd) (p:Pr) (l:List SS) (T:List Int) (q:Nat) (i:Int×Int) (s0:SS) (ds:List Int):Prop where
 len:l.length=p.code.length
 wf:∀s∈l,s.wf p.locals.toNat
 zero:∀s,l[0]? =some s→(beginS p).le s
 low:∀m,Closed w p m→BelowL l m
 todo:∀x∈T,∃(k:Nat) (s:SS),x=k∧l[k]? =some s∧s.reached=true
 ins:p.code[q]? =some i
 wf0:s0.wf p.locals.toNat
 r0:s0.reached=true
 out:∀m,Closed w p m→∀x∈nextR i q,∀(j:Nat) t,x=j→m[j]? =some t→(behR w i s0).le t
 opn:∀(k:Nat) i s,(k:Int)∉T→k≠q→p.code[k]? =some i→l[k]? =some s→s.reached=true→∀x∈nextR i k,∀(j:Nat) t,x=j→l[j]? =some t→(behR w i s).le t
 cur:(q:Int)∈T∨(l[q]? =some s0∧∀x∈ds,∀(j:Nat) t,x=j→l[j]? =some t→(behR w i s0).le t)
theorem FInv.into {w:Wd} {p:Pr} {l:List SS} {T T':List Int} (h:FInv w p l T) {q:Nat} {i:Int×Int} {s:SS} (hq:(q:Int)∈T) (hi:p.code[q]? =some i) (hs:l[q]? =some s) (h1:∀x∈T',x∈T) (h2:∀x∈T,x≠q→x∈T'):FIn w p l T' q i s []:=by
 have hr:s.reached=true:=by
  obtain⟨k,s',e,h3,h4⟩:=h.todo _ hq
  have:q=k:=by omega
  subst this
  rw[hs]at h3;cases h3;exact h4
 have hw:=h.wf s (List.mem_of_getElem? hs)
 refine⟨h.len,h.wf,h.zero,h.low,fun x hx=>h.todo x (h1 x hx),hi,hw,hr,fun m hm x hx j t e ht=>?_,fun k i' s' hk hne=>h.opn k i' s' fun hk'=>hk (h2 _ hk' (by omega)), .inr ⟨hs,by simp⟩⟩
 have hq':q<m.length:=by rw[hm.len];exact(List.getElem?_eq_some_iff.1 hi).1
 have hmq:m[q]? =some m[q]:=List.getElem?_eq_getElem hq'
 have hle:=h.low m hm q _ _ hs hmq
 exact SS.le_trans (behR_mono hw (hm.wf _ (List.mem_of_getElem? hmq)) hle) (hm.step q i _ hi hmq (hle hr).1 x hx j t e ht)
theorem FIn.done {w:Wd} {p:Pr} {l:List SS} {T:List Int} {q:Nat} {i:Int×Int} {s0:SS} {ds:List Int} (h:FIn w p l T q i s0 ds) (hd:∀x∈nextR i q,x∈ds∨(p.code.length:Int)≤x):FInv w p l T:=by
 refine⟨h.len,h.wf,h.zero,h.low,h.todo,fun k i' s hk hi hs hr x hx j t e ht=>?_⟩
 by_cases hkq:k=q
 ·subst hkq
  rw[h.ins]at hi;cases hi
  rcases h.cur with hc | ⟨hc,hc'⟩
  ·exact absurd hc hk
  ·rw[hc]at hs;cases hs
   rcases hd x hx with hd | hd
   ·exact hc' x hd j t e ht
   ·have:=(List.getElem?_eq_some_iff.1 ht).1
    rw[h.len]at this;omega
 ·exact h.opn k i' s hk hkq hi hs hr x hx j t e ht
theorem FIn.pass {w:Wd} {p:Pr} {l:List SS} {T:List Int} {q:Nat} {i:Int×Int} {s0:SS} {ds:List Int} (h:FIn w p l T q i s0 ds) {x:Int} (hx:(p.code.length:Int)≤x):FIn w p l T q i s0 (x::ds):=
 ⟨h.len,h.wf,h.zero,h.low,h.todo,h.ins,h.wf0,h.r0,h.out,h.opn,h.cur.imp id fun⟨h1,h2⟩=>⟨h1,fun y hy j t e ht=>by
  rcases List.mem_cons.1 hy with rfl | hy
  ·have:=(List.getElem?_eq_some_iff.1 ht).1
   rw[h.len]at this;omega
  ·exact h2 y hy j t e ht⟩⟩
theorem FIn.same {w:Wd} {p:Pr} {l:List SS} {T:List Int} {q:Nat} {i:Int×Int} {s0:SS} {ds:List Int} (h:FIn w p l T q i s0 ds) {k:Nat} {s:SS} (hs:l[k]? =some s) (hj:joinS s (behR w i s0)=s):FIn w p l T q i s0 ((k:Int)::ds):=
 ⟨h.len,h.wf,h.zero,h.low,h.todo,h.ins,h.wf0,h.r0,h.out,h.opn,h.cur.imp id fun⟨h1,h2⟩=>⟨h1,fun y hy j t e ht=>by
  rcases List.mem_cons.1 hy with rfl | hy
  ·have:j=k:=by omega
   subst this
   rw[hs]at ht;cases ht
   rw[←hj]
   exact joinS_right (h.wf _ (List.mem_of_getElem? hs)) (behR_wf h.wf0 h.r0)
  ·exact h2 y hy j t e ht⟩⟩
theorem FIn.turn {w:Wd} {p:Pr} {l:List SS} {T T':List Int} {q:Nat} {i:Int×Int} {s0:SS} {ds:List Int} (h:FIn w p l T q i s0 ds) {k:Nat} {s:SS} (hk:(k:Int)∈nextR i q) (hs:l[k]? =some s) (hT:∀x,x∈T'↔x∈T∨x=k):
  FIn w p (l.set k (joinS s (behR w i s0))) T' q i s0 ((k:Int)::ds):=by
 have wo:=behR_wf (w:=w) (i:=i) h.wf0 h.r0
 have ws:=h.wf _ (List.mem_of_getElem? hs)
 have hkl:=(List.getElem?_eq_some_iff.1 hs).1
 have hget:∀(j:Nat) t,(l.set k (joinS s (behR w i s0)))[j]? =some t→(j=k∧t=joinS s (behR w i s0))∨(j≠k∧l[j]? =some t):=fun j t e=>by
  rw[List.getElem?_set]at e
  by_cases hjk:k=j
  ·subst hjk;rw[if_pos rfl,if_pos hkl]at e;exact .inl ⟨rfl,(Option.some.inj e).symm⟩
  ·rw[if_neg hjk]at e;exact .inr ⟨fun e=>hjk e.symm,e⟩
 have hup:∀ {a:SS} (j:Nat) t,(∀t,l[j]? =some t→a.le t)→(l.set k (joinS s (behR w i s0)))[j]? =some t→a.le t:=fun j t ha e=>by
  rcases hget j t e with⟨rfl,rfl⟩ | ⟨_,e⟩
  ·exact SS.le_trans (ha s hs) (joinS_left ws wo)
  ·exact ha t e
 refine⟨by simp[h.len],fun t ht=>?_,fun t e=>hup 0 t h.zero e,fun m hm j t u ht hu=>?_,fun x hx=>?_,h.ins,h.wf0,h.r0,h.out,fun j i' t hj hne hi' ht hr x hx j' u e hu=>?_,?_⟩
 ·obtain⟨j,hj⟩:=List.getElem?_of_mem ht
  rcases hget j t hj with⟨_,rfl⟩ | ⟨_,e⟩
  ·exact joinS_wf ws wo
  ·exact h.wf t (List.mem_of_getElem? e)
 ·rcases hget j t ht with⟨rfl,rfl⟩ | ⟨_,e⟩
  ·exact(joinS_le ws wo).2 ⟨h.low m hm j s u hs hu,h.out m hm _ hk j u rfl hu⟩
  ·exact h.low m hm j t u e hu
 ·rcases(hT x).1 hx with hx | rfl
  ·obtain⟨j,t,e,h1,h2⟩:=h.todo x hx
   by_cases hjk:j=k
   ·subst hjk
    rw[hs]at h1;cases h1
    exact⟨j,_,e,by rw[List.getElem?_set,if_pos rfl,if_pos hkl],((joinS_left ws wo) h2).1⟩
   ·exact⟨j,t,e,by rw[List.getElem?_set,if_neg (fun e=>hjk e.symm)];exact h1,h2⟩
  ·exact⟨k,_,rfl,by rw[List.getElem?_set,if_pos rfl,if_pos hkl],((joinS_right ws wo) (by rw[behR_reached];exact h.r0)).1⟩
 ·have hjT:(j:Int)∉T:=fun h'=>hj ((hT _).2 (.inl h'))
  have hjk:j≠k:=fun e=>hj ((hT _).2 (.inr (by rw[e])))
  rcases hget j t ht with⟨e',_⟩ | ⟨_,e'⟩
  ·exact absurd e' hjk
  ·exact hup j' u (fun u hu=>h.opn j i' t hjT hne hi' e' hr x hx j' u e hu) hu
 ·by_cases hqk:q=k
  ·left;exact(hT _).2 (.inr (by rw[hqk]))
  ·rcases h.cur with hc | ⟨hc,hc'⟩
   ·left;exact(hT _).2 (.inl hc)
   ·right
    refine⟨by rw[List.getElem?_set,if_neg (fun e=>hqk e.symm)];exact hc,fun x hx j t e ht=>?_⟩
    rcases List.mem_cons.1 hx with rfl | hx
    ·have:j=k:=by omega
     subst this
     rcases hget j t ht with⟨_,rfl⟩ | ⟨e',_⟩
     ·exact joinS_right ws wo
     ·exact absurd rfl e'
    ·exact hup j t (fun t ht=>hc' x hx j t e ht) ht
def sumW (n:Nat) (l:List SS):Nat:=(l.map (wt n)).sum
theorem sumW_set {n:Nat} :∀ {l:List SS} {k:Nat} {s t:SS},l[k]? =some s→wt n t<wt n s→sumW n (l.set k t)<sumW n l
 | [],k,s,t,h,_=>by simp at h
 | a::l,0,s,t,h,hw=>by simp at h;subst h;simp[sumW];omega
 | a::l,k+1,s,t,h,hw=>by
  have:=sumW_set (n:=n) (l:=l) (k:=k) (by simpa using h) hw
  simp[sumW]at this⊢;omega
theorem FIn.rises {w:Wd} {p:Pr} {l:List SS} {T:List Int} {q:Nat} {i:Int×Int} {s0:SS} {ds:List Int} (h:FIn w p l T q i s0 ds) {k:Nat} {s:SS} (hs:l[k]? =some s) (hne:joinS s (behR w i s0)≠s):
  sumW p.locals.toNat (l.set k (joinS s (behR w i s0)))<sumW p.locals.toNat l:=
 sumW_set hs ((joinS_wt (h.wf _ (List.mem_of_getElem? hs)) (behR_wf h.wf0 h.r0)).resolve_left hne)
theorem FInv.first {w:Wd} {p:Pr} (hp:(p.params.length:Int)≤p.locals) (hc:0<p.code.length):FInv w p ((List.replicate p.code.length ss0).set 0 (beginS p)) [0]:=by
 have hget:∀(j:Nat) t,((List.replicate p.code.length ss0).set 0 (beginS p))[j]? =some t→(j=0∧t=beginS p)∨(j≠0∧t=ss0):=fun j t e=>by
  rw[List.getElem?_set]at e
  by_cases hj:0=j
  ·subst hj;rw[if_pos rfl,if_pos (by simpa using hc)]at e;exact .inl ⟨rfl,(Option.some.inj e).symm⟩
  ·rw[if_neg hj,List.getElem?_replicate]at e
   split at e
   ·exact .inr ⟨fun e=>hj e.symm,(Option.some.inj e).symm⟩
   ·cases e
 have hb:(beginS p).wf p.locals.toNat:=⟨fun h=>(by cases h),fun _=>by simp[beginS];omega,fun h=>(by cases h),by simp[beginS]⟩
 refine⟨by simp,fun s hs=>?_,fun s e=>?_,fun m hm k s t hs ht=>?_,fun x hx=>?_,fun k i s hk hi hs hr=>?_⟩
 ·obtain⟨j,hj⟩:=List.getElem?_of_mem hs
  rcases hget j s hj with⟨_,rfl⟩ | ⟨_,rfl⟩
  ·exact hb
  ·exact ss0_wf _
 ·rcases hget 0 s e with⟨_,rfl⟩ | ⟨h,_⟩
  ·exact SS.le_refl _
  ·exact absurd rfl h
 ·rcases hget k s hs with⟨rfl,rfl⟩ | ⟨_,rfl⟩
  ·exact hm.zero t ht
  ·intro h;cases h
 ·simp at hx;subst hx
  exact⟨0,beginS p,rfl,by rw[List.getElem?_set,if_pos rfl,if_pos (by simpa using hc)],rfl⟩
 ·rcases hget k s hs with⟨rfl,rfl⟩ | ⟨_,rfl⟩
  ·simp at hk
  ·cases hr
def aloneR (w:Wd) (p:Pr) (i:Int×Int):Int:=
 if mayR i.1 i.2=false then 180
 else if(i.1=5∨i.1=6)∧(p.code.length:Int)≤i.2 then 182
 else if(if i.1=1 then(w.consts.length:Int)else if i.1=2∨i.1=3 then p.locals else if i.1=7 then(w.procs.length:Int)else if i.1=8 then(w.needs.length:Int)else 2147483647)≤i.2 then 180 else 0
def allT (t:Int) (l:List Int):Bool:=l.all (· ==t)
def kindsR (w:Wd) (p:Pr) (i:Int×Int) (s:SS) (top:List Int):Bool:=
 if i.1=2 then(s.vars[i.2.toNat]?).getD 0 != 0
 else if i.1=3∨i.1=11 then(top[0]?).getD 0 != 0
 else if i.1=6∨i.1=25 then allT 2 top
 else if i.1=7 then top==((w.procs[i.2.toNat]?).map (·.params)).getD []
 else if i.1=8 then top==((w.needs[i.2.toNat]?).map (·.params)).getD []
 else if i.1=10 then allT p.result top
 else if i.1=12∨i.1=13 then(top[0]?).getD 0==(top[1]?).getD 0&&(top[0]?).getD 0 != 0
 else if 14≤i.1∧i.1≤17 then allT 1 top || allT 3 top
 else if i.1=20∨i.1=26 then allT 3 top
 else if 18≤i.1∧i.1≤24 then allT 1 top
 else true
def metR (w:Wd) (p:Pr) (k:Nat) (i:Int×Int) (s:SS):Int:=
 if(nextR i k).any (fun x=>decide ((p.code.length:Int)≤x))then 183
 else if badS w i s then 181
 else if(i.1=9∧p.result≠0)∨(i.1=10∧p.result=0)then 181
 else if kindsR w p i s (s.stack.drop (s.stack.length - (effC w s.vars i).1))=false then 184
 else 0
def typedR (t:Int):Bool:=decide (1≤t)&&decide (t≤3)
def valueR (v:V):Bool:=(if v.t=1 then decide (v=⟨1,v.i,false,⟨#[]⟩⟩)else if v.t=2 then decide (v=⟨2,0,v.b,⟨#[]⟩⟩)else if v.t=3 then decide (v=⟨3,0,false,v.s⟩)else false)&&decide ((v.s.size:Int)≤4096)
def headR (ps:List Int) (r:Int):Bool:=ps.all typedR&&(decide ((ps.length:Int)≤64)&&(r==0 || typedR r))
def badAt (w:Wd) (p:Pr) (l:List SS) (k:Nat):Int:=
 match l[k]?,p.code[k]? with
 | some s,some i=>if s.reached=true then metR w p k i s else 0
 | _,_=>0
def firstR (n:Nat) (f:Nat→Int):Int×Int:=
 match (List.range n).find? (fun k=>f k != 0)with
 | some k=>((k:Int),f k)
 | none=>(0,0)
theorem find_range {n:Nat} {f:Nat→Bool} {k:Nat} (hk:k<n) (h0:∀j,j<k→f j=false) (h1:f k=true):(List.range n).find? f=some k:=by
 rw[List.find?_eq_some_iff_append]
 refine⟨h1,List.range k,(List.range (n - k - 1)).map (fun j=>k+1+j),?_,fun j hj=>by simpa using h0 j (by simpa using hj)⟩
 apply List.ext_getElem?
 intro j
 rcases Nat.lt_trichotomy j k with h | h | h
 ·rw[List.getElem?_append_left (by simpa using h),List.getElem?_range (by omega),List.getElem?_range h]
 ·subst h
  rw[List.getElem?_append_right (by simp),List.getElem?_range hk];simp
 ·rw[List.getElem?_append_right (by simp;omega)]
  obtain⟨d,hd⟩:∃d,j=k+1+d:=⟨j - k - 1,by omega⟩
  subst hd
  rw[List.length_range,show k+1+d - k=d+1 by omega,List.getElem?_cons_succ,List.getElem?_map]
  by_cases hn:k+1+d<n
  ·rw[List.getElem?_range hn,List.getElem?_range (by omega)];rfl
  ·rw[List.getElem?_eq_none (by simpa using hn),List.getElem?_eq_none (by simp;omega)];rfl
theorem firstR_at {n:Nat} {f:Nat→Int} {k:Nat} (hk:k<n) (h0:∀j,j<k→f j=0) (h1:f k≠0):firstR n f=((k:Int),f k):=by
 unfold firstR
 rw[find_range hk (fun j hj=>by simp[h0 j hj]) (by simpa using h1)]
theorem firstR_none {n:Nat} {f:Nat→Int} (h0:∀j,j<n→f j=0):firstR n f=(0,0):=by
 unfold firstR
 rw[List.find?_eq_none.2 (fun j hj=>by simp[h0 j (by simpa using hj)])]
def wrongR (w:Wd) (p:Pr) (l:List SS):Int×Int:=firstR l.length (badAt w p l)
section
attribute [local irreducible] Tryz.prog
def vcells (v:V):List Value:=[.int .i64 v.t, .int .i64 v.i, .bool v.b, .string v.s]
def vflat (l:List V):List Value:=l.flatMap vcells
theorem vflat_length (l:List V):(vflat l).length=l.length*4:=by
 induction l with
 | nil=>rfl
 | cons v l ih=>simp only[vflat,List.flatMap_cons,List.length_append,List.length_cons]at ih⊢;rw[ih];simp[vcells];omega
theorem vflat_one (l:List V):(vflat l).all (·.oneCell')=true:=by
 induction l with
 | nil=>rfl
 | cons v l ih=>simp only[vflat,List.flatMap_cons,List.all_append]at ih⊢;rw[ih];rfl
theorem vflat_append (a b:List V):vflat (a++b)=vflat a++vflat b:=by simp[vflat]
theorem Vec.empty {T sz b:Nat} {c:Array Value} (h:c.size=0):Vec T sz (some ⟨b,0,none⟩) 0 0 [] (.blk b (.cells c T (0,0))):=⟨by simp, .inr ⟨b,c,rfl,rfl,Nat.le_refl _,by simpa using h,by simp⟩⟩
def Kd.val:Kd V where
 n:=4
 K _ x cs:=cs=vcells x
 mono _ h:=h
 len h:=by rw[h];rfl
 one h:=by rw[h];rfl
def Kd.ins:Kd (Int×Int) where
 n:=2
 K _ x cs:=cs=[.int .i64 x.1, .int .i64 x.2]
 mono _ h:=h
 len h:=by rw[h];rfl
 one h:=by rw[h];rfl
def Kd.prc:Kd Pr where
 n:=6
 K G p cs:=∃PA pc CA cc,cs=[.string p.name, .bool p.exp, .slice PA p.params.length pc, .int .i64 p.locals, .int .i64 p.result, .slice CA p.code.length cc]∧Sl (Kd.int .i64) G PA p.params∧Sl Kd.ins G CA p.code
 mono hg h:=let ⟨PA,pc,CA,cc,h1,h2,h3⟩:=h;⟨PA,pc,CA,cc,h1,h2.mono hg,h3.mono hg⟩
 len h:=by obtain⟨PA,pc,CA,cc,h1,_⟩:=h;rw[h1];rfl
 one h:=by obtain⟨PA,pc,CA,cc,h1,_⟩:=h;rw[h1];rfl
def Kd.ned:Kd Nd where
 n:=4
 K G p cs:=∃PA pc,cs=[.string p.path, .string p.name, .slice PA p.params.length pc, .int .i64 p.result]∧Sl (Kd.int .i64) G PA p.params
 mono hg h:=let ⟨PA,pc,h1,h2⟩:=h;⟨PA,pc,h1,h2.mono hg⟩
 len h:=by obtain⟨PA,pc,h1,_⟩:=h;rw[h1];rfl
 one h:=by obtain⟨PA,pc,h1,_⟩:=h;rw[h1];rfl
def Kd.ss:Kd SS where
 n:=4
 K G s cs:=∃VA vc SA sc,cs=[.bool s.reached, .bool s.unlike, .slice VA s.vars.length vc, .slice SA s.stack.length sc]∧(s.vars.length≤vc∧s.stack.length≤sc)∧Sl (Kd.int .i64) G VA s.vars∧Sl (Kd.int .i64) G SA s.stack
 mono hg h:=let ⟨VA,vc,SA,sc,h1,h0,h2,h3⟩:=h;⟨VA,vc,SA,sc,h1,h0,h2.mono hg,h3.mono hg⟩
 len h:=by obtain⟨VA,vc,SA,sc,h1,_⟩:=h;rw[h1];rfl
 one h:=by obtain⟨VA,vc,SA,sc,h1,_⟩:=h;rw[h1];rfl
def ints (l:List Int):List Value:=l.map (.int .i64)
theorem ints_length (l:List Int):(ints l).length=l.length*1:=by simp[ints]
theorem ints_one (l:List Int):(ints l).all (·.oneCell')=true:=by induction l with | nil=>rfl | cons b l ih=>simp[ints,Value.oneCell']
theorem ints_at {l:List Int} {i:Nat} {z:Int} (h:l[i]? =some z):(ints l)[i]? =some (.int .i64 z):=by rw[ints,List.getElem?_map,h];rfl
theorem Sl.ints {G:Gh} {H:List Own} {A:Option Addr} {l:List Int} (h:Sl (Kd.int .i64) G A l):Rds G H A (ints l):=by
 cases l with
 | nil=>exact .inl rfl
 | cons z l=>
  obtain⟨b,o,cs,rfl,_,_⟩:=h 0 z rfl
  refine .inr ⟨b,o,rfl,fun w s j v e=>?_⟩
  rw[Gb.ints,List.getElem?_map]at e
  cases hz:(z::l)[j]? with
  | none=>rw[hz]at e;cases e
  | some y=>
   rw[hz]at e
   simp only[Option.map_some,Option.some.injEq]at e
   subst e
   obtain⟨b',o',cs',he,hk,hc⟩:=h j y hz
   cases he
   obtain rfl:cs'=[.int .i64 y]:=hk
   have:=hc 0 _ rfl
   exact s.agr _ _ _ (by simpa [Kd.int]using this)
theorem IVec.sl {G:Gh} {A:Option Addr} {l:List Int} (hz:ints l=[]∨∃b,A=some ⟨b,0,none⟩∧Cs G b 0 (ints l)):Sl (Kd.int .i64) G A l:=Sl.ofCs (k:=Kd.int .i64) hz (ints_length l) (by decide) (fun i x hx=>by
 have e:ints l=(ints l).take i++ .int .i64 x::(ints l).drop (i+1):=by
  have hl:=(List.getElem?_eq_some_iff.1 hx).1
  have h1:(ints l)[i]? =some (.int .i64 x):=ints_at hx
  have hl':i<(ints l).length:=(List.getElem?_eq_some_iff.1 h1).1
  have h2:(ints l)[i]= .int .i64 x:=by rw[List.getElem?_eq_getElem hl']at h1;exact Option.some.inj h1
  rw[←h2,List.getElem_cons_drop,List.take_append_drop]
 have hl:=(List.getElem?_eq_some_iff.1 hx).1
 have hn:(Kd.int .i64).n=1:=rfl
 show((ints l).drop (i*1)).take 1=[.int .i64 x]
 have h1:(ints l)[i]? =some (.int .i64 x):=ints_at hx
 have hl':i<(ints l).length:=(List.getElem?_eq_some_iff.1 h1).1
 rw[Nat.mul_one,List.drop_eq_getElem_cons hl']
 rw[List.getElem?_eq_getElem hl']at h1
 rw[Option.some.inj h1];rfl)
abbrev IVec (T:Nat) (A:Option Addr) (l:List Int) (cap:Nat) (x:Own):Prop:=Vec T 1 A l.length cap (ints l) x
theorem clone_types (G:Gh) (H:List Own) (A:Option Addr) (n cap:Nat) (cs:List Value) (hr:Rds G H A cs) (hl:cs.length=n*1) (h1:cs.all (·.oneCell')=true) (hA:A=none→n=0) (hb:n*8≤140737488355328):
  Fn Tryz.prog 40 #[.slice A n cap] G H fun e G' H'=>∃A' cap' x',e= .returned (.slice A' n cap')∧G=G'∧H'=x'::H∧Vec 44 1 A' n cap' cs x':=by
 refine Fn.enter Tryz.func40 rfl rfl fun w0=>?_
 refine WC.seq ?_
 refine WC.region ?_
 refine zw.assign ?_
 refine WL.nil ?_
 refine WK.un ?_
 refine WC.seq ?_
 refine WC.seq ?_
 refine WC.region ?_
 refine zw.move ?_
 refine zw.eq ?_
 refine WL.nil ?_
 refine WK.un ?_
 refine WC.cond rfl (fun hc=>?_) (fun hc=>?_)
 ·refine WC.seq ?_
  refine WC.region ?_
  refine zw.assign ?_
  refine WL.nil ?_
  refine WK.un ?_
  refine WC.ret ?_
  have hA':A=none:=by simpa using hc
  have hn:=hA hA'
  subst hn
  have hcs:cs=[]:=List.eq_nil_of_length_eq_zero (by simpa using hl)
  subst hcs
  exact WK.nothing (QF.ret1 (.inl rfl) rfl (.tmp rfl) (List.Sublist.refl _) ⟨none,0,_,rfl,rfl,rfl,⟨by simp, .inl ⟨rfl,rfl,rfl,rfl⟩⟩⟩)
 ·
  refine WC.skip ?_
  refine WK.un ?_
  refine WC.seq ?_
  refine WC.region ?_
  refine WL.op kr (OW.buildSlice rfl kr kr (by rfl) rfl fun b1=>?_)
  refine zw.move ?_
  refine WL.oo (OW.append rfl rfl kr kr (Vec.empty rfl) .here (hr.cons _) hl h1 (by omega) (by omega) rfl fun A' cap' o' hv=>?_)
  refine zw.assign ?_
  refine WL.nil ?_
  refine WK.un ?_
  refine WC.ret ?_
  (refine WK.un ?_)
  exact QF.ret1 (.inl rfl) rfl (.tmp rfl) (List.Sublist.refl _) ⟨A',cap',o',by rw[Nat.zero_add],rfl,rfl,by simpa using hv⟩
end
section
attribute [local irreducible] Tryz.prog
theorem flat_elem {α:Type} (f:α→List Value) (n:Nat) (hf:∀a,(f a).length=n):∀(l:List α) (i:Nat) (x:α),l[i]? =some x→((l.flatMap f).drop (i*n)).take n=f x
 | [],i,x,h=>by simp at h
 | y::l,0,x,h=>by
  simp at h;subst h
  rw[List.flatMap_cons,Nat.zero_mul,List.drop_zero,List.take_append_of_le_length (by rw[hf];exact Nat.le_refl _),List.take_of_length_le (by rw[hf];exact Nat.le_refl _)]
 | y::l,i+1,x,h=>by
  simp only[List.getElem?_cons_succ]at h
  rw[List.flatMap_cons,List.drop_append,List.drop_eq_nil_of_le (by rw[hf,Nat.add_mul];omega),List.nil_append,hf,show(i+1)*n - n=i*n by rw[Nat.add_mul];omega]
  exact flat_elem f n hf l i x h
def rcells (r:Rw):List Value:=[.string r.name, .bool r.n, .int .i64 r.takes, .int .i64 r.lays]
set_option maxRecDepth 100000 in
theorem rowOf_fn (G:Gh) (c:Int):Fn Tryz.prog 153 #[.int .i64 c] G [] fun e G' H'=>e= .returned (.agg #[.string (rowC c).name, .bool (rowC c).n, .int .i64 (rowC c).takes, .int .i64 (rowC c).lays])∧G=G'∧H'=[]:=by
 refine Fn.enter Tryz.func153 rfl rfl fun w0=>?_
 refine WC.seq ?_
 refine WC.region ?_
 refine WL.oo (OW.alloc rfl fun b1=>?_)
 refine go ?_
 refine WL.pp (Gp.buildArr (cells:=rowsC.flatMap rcells) Tryz.underlying265 rfl kr) ?_
 refine WL.oo (OW.alloc rfl fun b2=>?_)
 refine WL.oo (OW.store (n:=108) (cs:=rowsC.flatMap rcells) (c':=(rowsC.flatMap rcells).toArray) rfl rfl atA rfl kr kr kr kr ?_ rfl)
 by_cases h1:c<1
 ·have e1:decide (c<1)=true:=decide_eq_true h1
  rw[show rowC c=rw0 by rw[rowC,if_pos h1]]
  refine go ?_
  refine WC.rt ?_
  exact QF.p1 (.inl rfl) rfl (.cell rfl inferInstance inferInstance atA rfl rfl) (⟨rfl,rfl,rfl⟩)
 have e1:decide (c<1)=false:=decide_eq_false h1
 by_cases h2:27≤c
 ·have e2:decide (27≤c)=true:=decide_eq_true h2
  rw[show rowC c=rw0 by rw[rowC,if_neg h1,List.getElem?_eq_none (by show 27≤c.toNat;omega)];rfl]
  refine go ?_
  refine WC.rt ?_
  exact QF.p1 (.inl rfl) rfl (.cell rfl inferInstance inferInstance atA rfl rfl) (⟨rfl,rfl,rfl⟩)
 have e2:decide (27≤c)=false:=decide_eq_false h2
 obtain⟨i,rfl⟩:∃i:Nat,c=i:=⟨c.toNat,by omega⟩
 have hi:i<rowsC.length:=by show i<27;omega
 obtain⟨r,hr⟩:∃r,rowsC[i]? =some r:=⟨_,List.getElem?_eq_getElem hi⟩
 rw[show rowC (i:Int)=r by rw[rowC,if_neg h1,Int.toNat_natCast,hr];rfl]
 refine go ?_
 refine WL.pp (Gp.indexArr Tryz.underlying265 rfl rfl (by omega) (by omega)) ?_
 have hread:∀w,Sat G [.blk b2 (.cells (rowsC.flatMap rcells).toArray 265 (0,0))] w→∀j v,(rowsC.flatMap rcells)[j]? =some v→w.cell? ⟨b2,0+j,none⟩=some v:=fun w s j v h=>by
  rw[Own.cell (s.hold _ (.head _))];simpa using h
 refine WL.vv (Gv.loadRN rfl hread (.cons_cons _ (List.nil_sublist _)) (flat_elem rcells 4 (fun _=>rfl) rowsC i r hr) rfl) ?_
 refine go ?_
 refine WC.rt ?_
 exact QF.p1 (.inl rfl) rfl (.cell rfl inferInstance inferInstance atA rfl rfl) (⟨rfl,rfl,rfl⟩)
theorem may_fn (G:Gh) (c n:Int):Fn Tryz.prog 130 #[.agg #[.int .i64 c, .int .i64 n]] G [] fun e G' H'=>e= .returned (.bool (mayR c n))∧G=G'∧H'=[]:=by
 refine Fn.enter Tryz.func130 rfl rfl fun w0=>?_
 refine WC.seq ?_
 refine WC.region ?_
 refine WL.oo (OW.box rfl rfl fun b1=>?_)
 refine go ?_
 refine WL.oo (OW.callK rfl (rowOf_fn G c) rfl fun v' G' H' h hg=>?_)
 obtain⟨he,rfl,rfl⟩:=h
 cases he
 obtain⟨r,hr⟩:∃r,r=rowC c:=⟨_,rfl⟩
 rw[mayR,←hr]
 clear hr
 refine WL.pick (.blk b1 (.cells #[.int .i64 c, .int .i64 n] 50 (0,0))::[]) ?_
 refine WL.oo (OW.alloc rfl fun b2=>?_)
 have hne:(r.name != ⟨#[]⟩)= !(r.name==⟨#[]⟩):=rfl
 rw[hne]
 cases hb:(r.name==⟨#[]⟩)with
 | true=>
  refine go ?_
  rw[hb]
  refine go ?_
  refine WC.rt ?_
  exact QF.p1 (.inl rfl) rfl (.tmp rfl) (⟨by simp,rfl,rfl⟩)
 | false=>
 cases h0:decide (0≤n)with
 | false=>
  refine go ?_
  rw[hb]
  refine go ?_
  refine WC.rt ?_
  exact QF.p1 (.inl rfl) rfl (.tmp rfl) (⟨by simp,rfl,rfl⟩)
 | true=>
 cases h1:decide (n≤2147483647)with
 | false=>
  refine go ?_
  rw[hb]
  refine go ?_
  try rw[h1]
  refine go ?_
  refine WC.rt ?_
  exact QF.p1 (.inl rfl) rfl (.tmp rfl) (⟨by simp,rfl,rfl⟩)
 | true=>
 cases h2:r.n with
 | true=>
  refine go ?_
  rw[hb]
  refine go ?_
  try rw[h1]
  refine go ?_
  refine WC.rt ?_
  exact QF.p1 (.inl rfl) rfl (.tmp rfl) (⟨by simp,rfl,rfl⟩)
 | false=>
  refine go ?_
  rw[hb]
  refine go ?_
  try rw[h1]
  refine go ?_
  refine WC.rt ?_
  exact QF.p1 (.inl rfl) rfl (.tmp rfl) (⟨by simp,rfl,rfl⟩)
end
section
open Go
theorem gom {g g':Prop} (h:g') (e:Bx g'→g:=by
 intro hgo
 repeat (first
  | ((with_reducible refine Un.kL ?_);first
   | (refine Un.kN ?_;first
    | (refine Un.k_move ?_;first | refine WL.p (Gp.move rfl) (by kernel_rfl) rfl ?_)
    | (refine Un.k_assign ?_;first | refine WL.p (Gp.assign rfl) (by kernel_rfl) rfl ?_)
    | (refine Un.k_fieldAddr ?_;first | refine WL.p (Gp.fieldAddr rfl) (by kernel_rfl) rfl ?_)
    | (refine Un.k_nilCheck ?_;first | refine WL.p (Gp.nilCheck rfl) (by kernel_rfl) rfl ?_)
    | (refine Un.k_extract ?_;first | refine WL.p (Gp.extract rfl rfl) (by kernel_rfl) rfl ?_)
    | (refine Un.k_load ?_;first | refine WL.v (Gv.load1 rfl (by(repeat first | exact .here | apply At.there)) (by first | rfl | assumption)) (by kernel_rfl) rfl ?_ | refine WL.v (Gv.loadN rfl (by(repeat first | exact .here | apply At.there)) (by rfl) (by rfl)) (by kernel_rfl) rfl ?_ | refine WL.v (Gv.loadG1 rfl (by assumption) (by rfl)) (by kernel_rfl) rfl ?_ | refine WL.v (Gv.loadG0 rfl (by assumption) (by rfl)) (by kernel_rfl) rfl ?_ | refine WL.v (Gv.loadGN rfl (by assumption) (by rfl)) (by kernel_rfl) rfl ?_)
    | (refine Un.k_unOp ?_;first | refine WL.p (Gp.notB rfl) (by kernel_rfl) rfl ?_ | refine WL.p (Gp.negI rfl) (by kernel_rfl) rfl ?_)
    | (refine Un.k_pick ?_;first | refine WL.p (Gp.pickT rfl rfl) (by kernel_rfl) rfl ?_ | refine WL.p (Gp.pickF rfl rfl) (by kernel_rfl) rfl ?_)
    | (refine Un.k_build ?_;first | refine WL.p (Gp.build rfl rfl) (by kernel_rfl) rfl ?_)
    | (refine Un.k_indexAddr ?_;first | refine WL.p (Gp.indexAddr rfl rfl (by first | assumption | omega | decide) (by first | assumption | omega | decide)) (by kernel_rfl) rfl ?_)
    | (refine Un.k_store ?_;first | refine WL.op (by kernel_rfl) (OW.store rfl rfl (by(repeat first | exact .here | apply At.there)) rfl (by rfl) (by rfl) (by first | rfl | assumption) (by rfl) ?_ rfl))
    | (refine Un.k_len ?_;first | refine WL.p (Gp.lenSl rfl) (by kernel_rfl) rfl ?_ | refine WL.p (Gp.lenS rfl) (by kernel_rfl) rfl ?_)
    | (refine Un.k_eql ?_;first | refine WL.p (Gp.eqI' rfl rfl (by assumption)) (by kernel_rfl) rfl ?_ | refine WL.p (Gp.eqI rfl rfl) (by kernel_rfl) rfl ?_ | refine WL.p (Gp.eqS rfl rfl) (by kernel_rfl) rfl ?_ | refine WL.p (Gp.eqB rfl rfl) (by kernel_rfl) rfl ?_ | refine WL.p (Gp.nilSl rfl) (by kernel_rfl) rfl ?_)
    | (refine Un.k_neq ?_;first | refine WL.p (Gp.neI' rfl rfl (by assumption)) (by kernel_rfl) rfl ?_ | refine WL.p (Gp.neI rfl rfl) (by kernel_rfl) rfl ?_ | refine WL.p (Gp.neS rfl rfl) (by kernel_rfl) rfl ?_ | refine WL.p (Gp.neB rfl rfl) (by kernel_rfl) rfl ?_)
    | (refine Un.k_lss ?_;first | refine WL.p (Gp.ltI' rfl rfl (by assumption)) (by kernel_rfl) rfl ?_ | refine WL.p (Gp.ltI rfl rfl) (by kernel_rfl) rfl ?_ | refine WL.p (Gp.ltS rfl rfl) (by kernel_rfl) rfl ?_)
    | (refine Un.k_gtr ?_;first | refine WL.p (Gp.gtI' rfl rfl (by assumption)) (by kernel_rfl) rfl ?_ | refine WL.p (Gp.gtI rfl rfl) (by kernel_rfl) rfl ?_)
    | (refine Un.k_geq ?_;first | refine WL.p (Gp.geI' rfl rfl (by assumption)) (by kernel_rfl) rfl ?_ | refine WL.p (Gp.geI rfl rfl) (by kernel_rfl) rfl ?_ | refine WL.p (Gp.geS rfl rfl) (by kernel_rfl) rfl ?_)
    | (refine Un.k_leq ?_;first | refine WL.p (Gp.leI' rfl rfl (by assumption)) (by kernel_rfl) rfl ?_ | refine WL.p (Gp.leI rfl rfl) (by kernel_rfl) rfl ?_)
    | (refine Un.k_add ?_;first | refine WL.p (Gp.add' rfl rfl (by assumption)) (by kernel_rfl) rfl ?_)
    | (refine Un.k_sub ?_;first | refine WL.p (Gp.sub' rfl rfl (by assumption)) (by kernel_rfl) rfl ?_))
   | (refine Un.kG ?_;first
    | refine WL.skip (by rfl) rfl ?_
    | (refine Un.k_move ?_;first | refine WL.p (Gp.move rfl) (by rfl) rfl ?_)
    | (refine Un.k_assign ?_;first | refine WL.p (Gp.assign rfl) (by rfl) rfl ?_)
    | (refine Un.k_fieldAddr ?_;first | refine WL.p (Gp.fieldAddr rfl) (by rfl) rfl ?_)
    | (refine Un.k_nilCheck ?_;first | refine WL.p (Gp.nilCheck rfl) (by rfl) rfl ?_)
    | (refine Un.k_extract ?_;first | refine WL.p (Gp.extract rfl rfl) (by rfl) rfl ?_)
    | (refine Un.k_load ?_;first | refine WL.v (Gv.load1 rfl (by(repeat first | exact .here | apply At.there)) (by first | rfl | assumption)) (by rfl) rfl ?_ | refine WL.v (Gv.loadN rfl (by(repeat first | exact .here | apply At.there)) (by rfl) (by rfl)) (by rfl) rfl ?_ | refine WL.v (Gv.loadG1 rfl (by assumption) (by rfl)) (by rfl) rfl ?_ | refine WL.v (Gv.loadG0 rfl (by assumption) (by rfl)) (by rfl) rfl ?_ | refine WL.v (Gv.loadGN rfl (by assumption) (by rfl)) (by rfl) rfl ?_)
    | (refine Un.k_unOp ?_;first | refine WL.p (Gp.notB rfl) (by rfl) rfl ?_ | refine WL.p (Gp.negI rfl) (by rfl) rfl ?_)
    | (refine Un.k_pick ?_;first | refine WL.p (Gp.pickT rfl rfl) (by rfl) rfl ?_ | refine WL.p (Gp.pickF rfl rfl) (by rfl) rfl ?_)
    | (refine Un.k_build ?_;first | refine WL.p (Gp.build rfl rfl) (by rfl) rfl ?_)
    | (refine Un.k_indexAddr ?_;first | refine WL.p (Gp.indexAddr rfl rfl (by first | assumption | omega | decide) (by first | assumption | omega | decide)) (by rfl) rfl ?_)
    | (refine Un.k_store ?_;first | refine WL.op (by rfl) (OW.store rfl rfl (by(repeat first | exact .here | apply At.there)) rfl (by rfl) (by rfl) (by first | rfl | assumption) (by rfl) ?_ rfl))
    | (refine Un.k_len ?_;first | refine WL.p (Gp.lenSl rfl) (by rfl) rfl ?_ | refine WL.p (Gp.lenS rfl) (by rfl) rfl ?_)
    | (refine Un.k_eql ?_;first | refine WL.p (Gp.eqI' rfl rfl (by assumption)) (by rfl) rfl ?_ | refine WL.p (Gp.eqI rfl rfl) (by rfl) rfl ?_ | refine WL.p (Gp.eqS rfl rfl) (by rfl) rfl ?_ | refine WL.p (Gp.eqB rfl rfl) (by rfl) rfl ?_ | refine WL.p (Gp.nilSl rfl) (by rfl) rfl ?_)
    | (refine Un.k_neq ?_;first | refine WL.p (Gp.neI' rfl rfl (by assumption)) (by rfl) rfl ?_ | refine WL.p (Gp.neI rfl rfl) (by rfl) rfl ?_ | refine WL.p (Gp.neS rfl rfl) (by rfl) rfl ?_ | refine WL.p (Gp.neB rfl rfl) (by rfl) rfl ?_)
    | (refine Un.k_lss ?_;first | refine WL.p (Gp.ltI' rfl rfl (by assumption)) (by rfl) rfl ?_ | refine WL.p (Gp.ltI rfl rfl) (by rfl) rfl ?_ | refine WL.p (Gp.ltS rfl rfl) (by rfl) rfl ?_)
    | (refine Un.k_gtr ?_;first | refine WL.p (Gp.gtI' rfl rfl (by assumption)) (by rfl) rfl ?_ | refine WL.p (Gp.gtI rfl rfl) (by rfl) rfl ?_)
    | (refine Un.k_geq ?_;first | refine WL.p (Gp.geI' rfl rfl (by assumption)) (by rfl) rfl ?_ | refine WL.p (Gp.geI rfl rfl) (by rfl) rfl ?_ | refine WL.p (Gp.geS rfl rfl) (by rfl) rfl ?_)
    | (refine Un.k_leq ?_;first | refine WL.p (Gp.leI' rfl rfl (by assumption)) (by rfl) rfl ?_ | refine WL.p (Gp.leI rfl rfl) (by rfl) rfl ?_)
    | (refine Un.k_add ?_;first | refine WL.p (Gp.add' rfl rfl (by assumption)) (by rfl) rfl ?_)
    | (refine Un.k_sub ?_;first | refine WL.p (Gp.sub' rfl rfl (by assumption)) (by rfl) rfl ?_))
   | with_reducible refine WL.nil ?_)
  | ((with_reducible refine Un.kC ?_);first
   | with_reducible refine WC.seq ?_
   | with_reducible refine WC.region ?_
   | with_reducible refine WC.block ?_
   | with_reducible refine WC.skip ?_
   | with_reducible refine WC.exit ?_
   | refine WC.cond_true rfl ?_
   | refine WC.cond_false rfl ?_)
  | with_reducible refine WK.thN ?_
  | with_reducible refine WK.thR ?_
  | with_reducible refine WK.thE ?_
  | with_reducible refine WK.thP ?_
  | with_reducible refine WK.blN ?_
  | with_reducible refine WK.blR ?_
  | with_reducible refine WK.blP ?_
  | with_reducible refine WK.blE ?_
  | with_reducible refine WK.blO rfl ?_
  | with_reducible refine WK.thJ ?_
  | (with_reducible refine WQ.start mixed ?_)
  | ((with_reducible refine Uq.kL ?_);first
   | (refine Uq.kN ?_;first
    | (refine Uq.k_move ?_;first | refine WQ.tp (Gp.move rfl) (by kernel_rfl) (by kernel_rfl) rfl ?_)
    | (refine Uq.k_assign ?_;first | refine WQ.tp (Gp.assign rfl) (by kernel_rfl) (by kernel_rfl) rfl ?_)
    | (refine Uq.k_fieldAddr ?_;first | refine WQ.tp (Gp.fieldAddr rfl) (by kernel_rfl) (by kernel_rfl) rfl ?_)
    | (refine Uq.k_nilCheck ?_;first | refine WQ.tp (Gp.nilCheck rfl) (by kernel_rfl) (by kernel_rfl) rfl ?_)
    | (refine Uq.k_extract ?_;first | refine WQ.tp (Gp.extract rfl rfl) (by kernel_rfl) (by kernel_rfl) rfl ?_)
    | (refine Uq.k_load ?_;first | refine WQ.tv (Gv.load1 rfl (by(repeat first | exact .here | apply At.there)) (by first | rfl | assumption)) (by kernel_rfl) (by kernel_rfl) rfl ?_ | refine WQ.tv (Gv.loadN rfl (by(repeat first | exact .here | apply At.there)) (by rfl) (by rfl)) (by kernel_rfl) (by kernel_rfl) rfl ?_ | refine WQ.tv (Gv.loadG1 rfl (by assumption) (by rfl)) (by kernel_rfl) (by kernel_rfl) rfl ?_ | refine WQ.tv (Gv.loadG0 rfl (by assumption) (by rfl)) (by kernel_rfl) (by kernel_rfl) rfl ?_ | refine WQ.tv (Gv.loadGN rfl (by assumption) (by rfl)) (by kernel_rfl) (by kernel_rfl) rfl ?_)
    | (refine Uq.k_unOp ?_;first | refine WQ.tp (Gp.notB rfl) (by kernel_rfl) (by kernel_rfl) rfl ?_ | refine WQ.tp (Gp.negI rfl) (by kernel_rfl) (by kernel_rfl) rfl ?_)
    | (refine Uq.k_pick ?_;first | refine WQ.tp (Gp.pickT rfl rfl) (by kernel_rfl) (by kernel_rfl) rfl ?_ | refine WQ.tp (Gp.pickF rfl rfl) (by kernel_rfl) (by kernel_rfl) rfl ?_)
    | (refine Uq.k_build ?_;first | refine WQ.tp (Gp.build rfl rfl) (by kernel_rfl) (by kernel_rfl) rfl ?_)
    | (refine Uq.k_indexAddr ?_;first | refine WQ.tp (Gp.indexAddr rfl rfl (by first | assumption | omega | decide) (by first | assumption | omega | decide)) (by kernel_rfl) (by kernel_rfl) rfl ?_)
    | (refine Uq.k_len ?_;first | refine WQ.tp (Gp.lenSl rfl) (by kernel_rfl) (by kernel_rfl) rfl ?_ | refine WQ.tp (Gp.lenS rfl) (by kernel_rfl) (by kernel_rfl) rfl ?_)
    | (refine Uq.k_eql ?_;first | refine WQ.tp (Gp.eqI' rfl rfl (by assumption)) (by kernel_rfl) (by kernel_rfl) rfl ?_ | refine WQ.tp (Gp.eqI rfl rfl) (by kernel_rfl) (by kernel_rfl) rfl ?_ | refine WQ.tp (Gp.eqS rfl rfl) (by kernel_rfl) (by kernel_rfl) rfl ?_ | refine WQ.tp (Gp.eqB rfl rfl) (by kernel_rfl) (by kernel_rfl) rfl ?_ | refine WQ.tp (Gp.nilSl rfl) (by kernel_rfl) (by kernel_rfl) rfl ?_)
    | (refine Uq.k_neq ?_;first | refine WQ.tp (Gp.neI' rfl rfl (by assumption)) (by kernel_rfl) (by kernel_rfl) rfl ?_ | refine WQ.tp (Gp.neI rfl rfl) (by kernel_rfl) (by kernel_rfl) rfl ?_ | refine WQ.tp (Gp.neS rfl rfl) (by kernel_rfl) (by kernel_rfl) rfl ?_ | refine WQ.tp (Gp.neB rfl rfl) (by kernel_rfl) (by kernel_rfl) rfl ?_)
    | (refine Uq.k_lss ?_;first | refine WQ.tp (Gp.ltI' rfl rfl (by assumption)) (by kernel_rfl) (by kernel_rfl) rfl ?_ | refine WQ.tp (Gp.ltI rfl rfl) (by kernel_rfl) (by kernel_rfl) rfl ?_ | refine WQ.tp (Gp.ltS rfl rfl) (by kernel_rfl) (by kernel_rfl) rfl ?_)
    | (refine Uq.k_gtr ?_;first | refine WQ.tp (Gp.gtI' rfl rfl (by assumption)) (by kernel_rfl) (by kernel_rfl) rfl ?_ | refine WQ.tp (Gp.gtI rfl rfl) (by kernel_rfl) (by kernel_rfl) rfl ?_)
    | (refine Uq.k_geq ?_;first | refine WQ.tp (Gp.geI' rfl rfl (by assumption)) (by kernel_rfl) (by kernel_rfl) rfl ?_ | refine WQ.tp (Gp.geI rfl rfl) (by kernel_rfl) (by kernel_rfl) rfl ?_ | refine WQ.tp (Gp.geS rfl rfl) (by kernel_rfl) (by kernel_rfl) rfl ?_)
    | (refine Uq.k_leq ?_;first | refine WQ.tp (Gp.leI' rfl rfl (by assumption)) (by kernel_rfl) (by kernel_rfl) rfl ?_ | refine WQ.tp (Gp.leI rfl rfl) (by kernel_rfl) (by kernel_rfl) rfl ?_)
    | (refine Uq.k_add ?_;first | refine WQ.tp (Gp.add' rfl rfl (by assumption)) (by kernel_rfl) (by kernel_rfl) rfl ?_)
    | (refine Uq.k_sub ?_;first | refine WQ.tp (Gp.sub' rfl rfl (by assumption)) (by kernel_rfl) (by kernel_rfl) rfl ?_))
   | (refine Uq.kG ?_;first
    | refine WQ.sp (by kernel_rfl) (by rfl) rfl ?_
    | (refine Uq.k_move ?_;first | refine WQ.tp (Gp.move rfl) (by kernel_rfl) (by rfl) rfl ?_)
    | (refine Uq.k_assign ?_;first | refine WQ.tp (Gp.assign rfl) (by kernel_rfl) (by rfl) rfl ?_)
    | (refine Uq.k_fieldAddr ?_;first | refine WQ.tp (Gp.fieldAddr rfl) (by kernel_rfl) (by rfl) rfl ?_)
    | (refine Uq.k_nilCheck ?_;first | refine WQ.tp (Gp.nilCheck rfl) (by kernel_rfl) (by rfl) rfl ?_)
    | (refine Uq.k_extract ?_;first | refine WQ.tp (Gp.extract rfl rfl) (by kernel_rfl) (by rfl) rfl ?_)
    | (refine Uq.k_load ?_;first | refine WQ.tv (Gv.load1 rfl (by(repeat first | exact .here | apply At.there)) (by first | rfl | assumption)) (by kernel_rfl) (by rfl) rfl ?_ | refine WQ.tv (Gv.loadN rfl (by(repeat first | exact .here | apply At.there)) (by rfl) (by rfl)) (by kernel_rfl) (by rfl) rfl ?_ | refine WQ.tv (Gv.loadG1 rfl (by assumption) (by rfl)) (by kernel_rfl) (by rfl) rfl ?_ | refine WQ.tv (Gv.loadG0 rfl (by assumption) (by rfl)) (by kernel_rfl) (by rfl) rfl ?_ | refine WQ.tv (Gv.loadGN rfl (by assumption) (by rfl)) (by kernel_rfl) (by rfl) rfl ?_)
    | (refine Uq.k_unOp ?_;first | refine WQ.tp (Gp.notB rfl) (by kernel_rfl) (by rfl) rfl ?_ | refine WQ.tp (Gp.negI rfl) (by kernel_rfl) (by rfl) rfl ?_)
    | (refine Uq.k_pick ?_;first | refine WQ.tp (Gp.pickT rfl rfl) (by kernel_rfl) (by rfl) rfl ?_ | refine WQ.tp (Gp.pickF rfl rfl) (by kernel_rfl) (by rfl) rfl ?_)
    | (refine Uq.k_build ?_;first | refine WQ.tp (Gp.build rfl rfl) (by kernel_rfl) (by rfl) rfl ?_)
    | (refine Uq.k_indexAddr ?_;first | refine WQ.tp (Gp.indexAddr rfl rfl (by first | assumption | omega | decide) (by first | assumption | omega | decide)) (by kernel_rfl) (by rfl) rfl ?_)
    | (refine Uq.k_len ?_;first | refine WQ.tp (Gp.lenSl rfl) (by kernel_rfl) (by rfl) rfl ?_ | refine WQ.tp (Gp.lenS rfl) (by kernel_rfl) (by rfl) rfl ?_)
    | (refine Uq.k_eql ?_;first | refine WQ.tp (Gp.eqI' rfl rfl (by assumption)) (by kernel_rfl) (by rfl) rfl ?_ | refine WQ.tp (Gp.eqI rfl rfl) (by kernel_rfl) (by rfl) rfl ?_ | refine WQ.tp (Gp.eqS rfl rfl) (by kernel_rfl) (by rfl) rfl ?_ | refine WQ.tp (Gp.eqB rfl rfl) (by kernel_rfl) (by rfl) rfl ?_ | refine WQ.tp (Gp.nilSl rfl) (by kernel_rfl) (by rfl) rfl ?_)
    | (refine Uq.k_neq ?_;first | refine WQ.tp (Gp.neI' rfl rfl (by assumption)) (by kernel_rfl) (by rfl) rfl ?_ | refine WQ.tp (Gp.neI rfl rfl) (by kernel_rfl) (by rfl) rfl ?_ | refine WQ.tp (Gp.neS rfl rfl) (by kernel_rfl) (by rfl) rfl ?_ | refine WQ.tp (Gp.neB rfl rfl) (by kernel_rfl) (by rfl) rfl ?_)
    | (refine Uq.k_lss ?_;first | refine WQ.tp (Gp.ltI' rfl rfl (by assumption)) (by kernel_rfl) (by rfl) rfl ?_ | refine WQ.tp (Gp.ltI rfl rfl) (by kernel_rfl) (by rfl) rfl ?_ | refine WQ.tp (Gp.ltS rfl rfl) (by kernel_rfl) (by rfl) rfl ?_)
    | (refine Uq.k_gtr ?_;first | refine WQ.tp (Gp.gtI' rfl rfl (by assumption)) (by kernel_rfl) (by rfl) rfl ?_ | refine WQ.tp (Gp.gtI rfl rfl) (by kernel_rfl) (by rfl) rfl ?_)
    | (refine Uq.k_geq ?_;first | refine WQ.tp (Gp.geI' rfl rfl (by assumption)) (by kernel_rfl) (by rfl) rfl ?_ | refine WQ.tp (Gp.geI rfl rfl) (by kernel_rfl) (by rfl) rfl ?_ | refine WQ.tp (Gp.geS rfl rfl) (by kernel_rfl) (by rfl) rfl ?_)
    | (refine Uq.k_leq ?_;first | refine WQ.tp (Gp.leI' rfl rfl (by assumption)) (by kernel_rfl) (by rfl) rfl ?_ | refine WQ.tp (Gp.leI rfl rfl) (by kernel_rfl) (by rfl) rfl ?_)
    | (refine Uq.k_add ?_;first | refine WQ.tp (Gp.add' rfl rfl (by assumption)) (by kernel_rfl) (by rfl) rfl ?_)
    | (refine Uq.k_sub ?_;first | refine WQ.tp (Gp.sub' rfl rfl (by assumption)) (by kernel_rfl) (by rfl) rfl ?_))
   | refine WQ.done (by kernel_rfl) ?_))
 exact hgo.out):g:=e ⟨h⟩
end
section
attribute [local irreducible] Tryz.prog
theorem WL.nothing {P:Program} {Q:Exit→Act→World→Prop} {cx:Cx} {L:List (Nat×Value)} {G:Gh} {H:List Own} {ops:Array Oper} {rest:List Oper} (h:WL P ops Q rest cx L G (.spare 0 0 0::H)):WL P ops Q rest cx L G H:=
 WK.nothing (K:=fun a w=>wpList P ops Q rest a w) h
theorem WL.frozenVec {P:Program} {Q:Exit→Act→World→Prop} {cx:Cx} {L:List (Nat×Value)} {G:Gh} {H:List Own} {ops:Array Oper} {rest:List Oper} {T sz n cap j:Nat} {A:Option Addr} {cs:List Value} {x:Own} (hv:Vec T sz A n cap cs x) (hj:At H j x)
  (h:∀G',G.le G'→(cs=[]∨∃b,A=some ⟨b,0,none⟩∧Cs G' b 0 cs)→WL P ops Q rest cx L G' (H.eraseIdx j)):WL P ops Q rest cx L G H:=
 WK.frozenVec (K:=fun a w=>wpList P ops Q rest a w) hv hj h
theorem wrapI {x:Int} (h0: -1000000000000000≤x) (h1:x≤1000000000000000):IntKind.i64.wrap x=x:=by rw[IntKind.wrap_i64];omega
theorem wrapS (n:Nat) (h:n≤100000000000000):IntKind.i64.wrap ((n:Int)+1)=((n+1:Nat):Int):=by
 have e:=wrapI (x:=(n:Int)+1) (by omega) (by omega)
 rw[e];rfl
theorem Sl.none_len {G:Gh} {A:Option Addr} {l:List Int} (h:Sl (Kd.int .i64) G A l):A=none→l.length=0:=fun hA=>h.none_zero hA
theorem Sl.at {G:Gh} {A:Option Addr} {l:List Int} (h:Sl (Kd.int .i64) G A l) {i:Nat} {x:Int} (hx:l[i]? =some x):∃b o,A=some ⟨b,o,none⟩∧Cs G b (o+i*1) [.int .i64 x]:=by
 obtain⟨b,o,cs,e,hk,hc⟩:=h i x hx
 obtain rfl:cs=[.int .i64 x]:=hk
 exact⟨b,o,e,hc⟩
theorem equal_types (G:Gh) (H:List Own) (A B:Option Addr) (ca cb:Nat) (l m:List Int) (ha:Sl (Kd.int .i64) G A l) (hb:Sl (Kd.int .i64) G B m) (hl:l.length≤100000000000000):
  Fn Tryz.prog 82 #[.slice A l.length ca, .slice B m.length cb] G H fun e G' H'=>e= .returned (.bool (l==m))∧G=G'∧H'=H:=by
 refine Fn.enter Tryz.func82 rfl rfl fun w0=>?_
 by_cases hne:l.length=m.length
 rotate_left
 ·have e1:((l.length:Int) != (m.length:Int))=true:=by rw[bne_iff_ne];omega
  refine gom ?_
  have he:(l==m)=false:=by rw[beq_eq_false_iff_ne];intro e;exact hne (by rw[e])
  refine WC.rt ?_
  exact QF.p1 (.inl rfl) rfl (.tmp rfl) (⟨by rw[he],rfl,rfl⟩)
 have e1:((l.length:Int) != (m.length:Int))=false:=by rw[hne];simp
 refine gom ?_
 refine WC.loop (X:=Nat) (fun i=>[(13, .int .i64 i),(12, .int .i64 l.length),(0, .slice A l.length ca),(1, .slice B m.length cb)]) (fun _=>G) (fun _=>H) (fun i=>l.length - i) (fun i=>i≤l.length∧∀j,j<i→l[j]? =m[j]?) 0 ⟨Nat.zero_le _,fun j h=>by omega⟩ (by exact⟨rfl,rfl,rfl,rfl,trivial⟩) rfl (List.Sublist.refl _) fun i hx=>?_
 obtain⟨hi,hall⟩:=hx
 by_cases hlt:i<l.length
 rotate_left
 ·have e2:decide ((i:Int)<(l.length:Int))=false:=decide_eq_false (by omega)
  refine gom ?_
  have he:(l==m)=true:=by
   rw[beq_iff_eq]
   refine List.ext_getElem? fun j=>?_
   rcases Nat.lt_or_ge j i with h | h
   ·exact hall j h
   ·rw[List.getElem?_eq_none (by omega),List.getElem?_eq_none (by omega)]
  refine WC.rt ?_
  exact QF.p1 (.inl rfl) rfl (.tmp rfl) (⟨by rw[he],rfl,rfl⟩)
 have e2:decide ((i:Int)<(l.length:Int))=true:=decide_eq_true (by omega)
 obtain⟨x,hx⟩:∃x,l[i]? =some x:=⟨_,List.getElem?_eq_getElem hlt⟩
 obtain⟨y,hy⟩:∃y,m[i]? =some y:=⟨_,List.getElem?_eq_getElem (by omega)⟩
 obtain⟨ab,ao,rfl,hca⟩:=ha.at hx
 obtain⟨bb,bo,rfl,hcb⟩:=hb.at hy
 have x0:(0:Int)≤i:=by omega
 have x2:(i:Int)<(l.length:Int):=by omega
 have x3:(i:Int)<(m.length:Int):=by omega
 have x4:=wrapS i (by omega)
 by_cases hxy:x=y
 ·have e3:(x != y)=false:=by simpa using hxy
  refine gom ?_
  exact WK.again (i+1) (by omega) ⟨by omega,fun j hj=>by
   rcases Nat.lt_or_ge j i with h | h
   ·exact hall j h
   ·obtain rfl:j=i:=by omega
    rw[hx,hy,hxy]⟩ (by exact⟨rfl,rfl,rfl,rfl,trivial⟩) rfl (List.Sublist.refl _)
 ·have e3:(x != y)=true:=by simpa using hxy
  refine gom ?_
  have he:(l==m)=false:=by rw[beq_eq_false_iff_ne];intro e;rw[e,hy]at hx;exact hxy (Option.some.inj hx).symm
  refine WC.rt ?_
  exact QF.p1 (.inl rfl) rfl (.tmp rfl) (⟨by rw[he],rfl,rfl⟩)
theorem ints_set (l:List Int) (i:Nat) (x:Int):ints (l.set i x)=(ints l).set i (.int .i64 x):=by rw[ints,ints,List.map_set]
theorem ints_append (l m:List Int):ints (l++m)=ints l++ints m:=by simp[ints]
theorem IVec.put {T cap b i:Nat} {A:Option Addr} {l:List Int} {c:Array Value} (h:IVec T A l cap (.blk b (.cells c T (0,0)))) (hi:i<l.length) (x:Int):
  A=some ⟨b,0,none⟩∧i+1≤c.size∧IVec T A (l.set i x) cap (.blk b (.cells (splice c i [.int .i64 x]) T (0,0))):=by
 obtain⟨h1,h2,h3⟩:=Vec.put1 h (o:=i) (by omega) (.int .i64 x)
 exact⟨h1,h2,by unfold IVec;rw[ints_set,List.length_set];exact h3⟩
theorem IVec.some {T cap:Nat} {A:Option Addr} {l:List Int} {x:Own} (h:IVec T A l cap x) (hl:0<l.length):∃b c,A=some ⟨b,0,none⟩∧x= .blk b (.cells c T (0,0))∧c.toList.take (l.length*1)=ints l:=by
 obtain⟨_,⟨_,h,_⟩ | ⟨b,c,h1,h2,_,_,h3⟩⟩:=h
 ·omega
 ·exact⟨b,c,h1,h2,h3⟩
theorem ivec_get {c:Array Value} {l:List Int} {i:Nat} {x:Int} (h:c.toList.take (l.length*1)=ints l) (hx:l[i]? =Option.some x):c[i]? =Option.some (.int .i64 x):=by
 have h1:=ints_at hx
 rw[←h,List.getElem?_take]at h1
 split at h1
 ·simpa using h1
 ·cases h1
theorem joinRow_get:∀ {a b:List Int} {i:Nat} {x y:Int},a[i]? =some x→b[i]? =some y→(joinRow a b)[i]? =some (joinT x y)
 | a::a',b::b',0,x,y,h1,h2=>by simp at h1 h2;subst h1 h2;rfl
 | a::a',b::b',i+1,x,y,h1,h2=>by simp only[List.getElem?_cons_succ]at h1 h2;simpa [joinRow]using joinRow_get h1 h2
 | [],_,_,_,_,h1,_=>by simp at h1
 | _::_,[],_,_,_,_,h2=>by simp at h2
theorem joinRow_fn (G:Gh) (A B:Option Addr) (ca cb:Nat) (l m:List Int) (ha:Sl (Kd.int .i64) G A l) (hb:Sl (Kd.int .i64) G B m) (hl:l.length≤1000000000) (hlm:l.length=m.length):
  Fn Tryz.prog 161 #[.slice A l.length ca, .slice B m.length cb] G [] fun e G' H'=>∃A' cap',e= .returned (.slice A' (joinRow l m).length cap')∧G.le G'∧(joinRow l m).length≤cap'∧Sl (Kd.int .i64) G' A' (joinRow l m)∧H'=[]:=by
 have hjl:=joinRow_length hlm
 refine Fn.enter Tryz.func161 rfl rfl fun w0=>?_
 refine gom ?_
 refine WL.oo (OW.callK rfl (clone_types G [] A l.length ca (ints l) ha.ints (ints_length l) (ints_one l) ha.none_len (by omega)) rfl fun v' G' H' h hg=>?_)
 obtain⟨A1,cap1,x1,he,rfl,rfl,hx1⟩:=h
 cases he
 refine gom ?_
 refine WC.loop (X:=Nat×List Int×Own) (fun t=>[(11, .int .i64 t.1),(10, .int .i64 l.length),(5, .slice A1 l.length cap1),(1, .slice B m.length cb)]) (fun _=>G) (fun t=>[t.2.2]) (fun t=>l.length - t.1)
  (fun t=>t.1≤l.length∧t.2.1.length=l.length∧IVec 44 A1 t.2.1 cap1 t.2.2∧(∀j,t.1≤j→t.2.1[j]? =l[j]?)∧∀j,j<t.1→t.2.1[j]? =(joinRow l m)[j]?) (0,l,x1) ⟨Nat.zero_le _,rfl,hx1,fun j _=>rfl,fun j h=>by omega⟩ (by exact⟨rfl,rfl,rfl,rfl,trivial⟩) rfl (List.Sublist.refl _) fun t ht=>?_
 obtain⟨i,l2,x2⟩:=t
 obtain⟨hi,hl2,hx2,hhi,hlo⟩:=ht
 dsimp only at hi hl2 hx2 hhi hlo
 by_cases hlt:i<l.length
 rotate_left
 ·have e2:decide ((i:Int)<(l.length:Int))=false:=decide_eq_false (by omega)
  have hl2e:l2=joinRow l m:=List.ext_getElem? fun j=>by
   rcases Nat.lt_or_ge j i with h | h
   ·exact hlo j h
   ·rw[List.getElem?_eq_none (by omega),List.getElem?_eq_none (by omega)]
  subst hl2e
  refine gom ?_
  refine WC.frozenVec hx2 atA fun G2 h2 z2=>?_
  have hs:=IVec.sl z2
  have hcap:=hx2.le
  rw[←hjl]
  refine WC.rt ?_
  exact QF.p1 (.inl rfl) rfl (.tmp rfl) (⟨A1,cap1,rfl,h2,hcap,hs,rfl⟩)
 have e2:decide ((i:Int)<(l.length:Int))=true:=decide_eq_true (by omega)
 obtain⟨x,hx⟩:∃x,l[i]? =some x:=⟨_,List.getElem?_eq_getElem hlt⟩
 obtain⟨y,hy⟩:∃y,m[i]? =some y:=⟨_,List.getElem?_eq_getElem (by omega)⟩
 obtain⟨bb,bo,rfl,hcb⟩:=hb.at hy
 obtain⟨xb,xc,rfl,rfl,hxc⟩:=hx2.some (by omega)
 have hxg:xc[0+((i:Nat):Int).toNat*1]? =some (.int .i64 x):=by
  have:=ivec_get hxc (i:=i) (x:=x) (by rw[hhi i (Nat.le_refl _),hx])
  simpa using this
 have x0:(0:Int)≤i:=by omega
 have x2:(i:Int)<(l.length:Int):=by omega
 have x3:(i:Int)<(m.length:Int):=by omega
 have x4:=wrapS i (by omega)
 have hjg:=joinRow_get hx hy
 by_cases hxy:x=y
 ·have e3:(x != y)=false:=by simpa using hxy
  refine gom ?_
  exact WK.again (i+1,l2,_) (by dsimp only;omega) ⟨by dsimp only;omega,hl2,hx2,fun j hj=>hhi j (by dsimp only at hj;omega),fun j hj=>by
   dsimp only at hj⊢
   rcases Nat.lt_or_ge j i with h | h
   ·exact hlo j h
   ·obtain rfl:j=i:=by omega
    rw[hhi j (Nat.le_refl _),hjg,hx,joinT,if_pos hxy]⟩ (by exact⟨rfl,rfl,rfl,rfl,trivial⟩) rfl (List.Sublist.refl _)
 ·have e3:(x != y)=true:=by simpa using hxy
  obtain⟨_,hfit,hput⟩:=IVec.put hx2 (i:=i) (by omega) 0
  have hi0:0+((i:Nat):Int).toNat*1=i:=by omega
  have hfit':Nat.ble (0+((i:Nat):Int).toNat*1+1) xc.size=true:=Nat.ble_eq_true_of_le (by omega)
  rw[←hi0]at hput
  refine gom ?_
  rw[hi0]at hput⊢
  exact WK.again (i+1,l2.set i 0,_) (by dsimp only;omega) ⟨by dsimp only;omega,by simpa using hl2,hput,fun j hj=>by
   dsimp only at hj⊢
   rw[List.getElem?_set_ne (by omega)];exact hhi j (by omega),fun j hj=>by
   dsimp only at hj⊢
   rcases Nat.lt_or_ge j i with h | h
   ·rw[List.getElem?_set_ne (by omega)];exact hlo j h
   ·obtain rfl:j=i:=by omega
    rw[List.getElem?_set_self (by omega),hjg,joinT,if_neg hxy]⟩ (by exact⟨rfl,rfl,rfl,rfl,trivial⟩) rfl (List.Sublist.refl _)
end
section
attribute [local irreducible] Tryz.prog
abbrev ssV (s:SS) (VA:Option Addr) (vc:Nat) (SA:Option Addr) (sc:Nat):Value:= .agg #[.bool s.reached, .bool s.unlike, .slice VA s.vars.length vc, .slice SA s.stack.length sc]
structure SRep (G:Gh) (s:SS) (VA:Option Addr) (vc:Nat) (SA:Option Addr) (sc:Nat):Prop where
 hv:s.vars.length≤vc
 hs:s.stack.length≤sc
 vars:Sl (Kd.int .i64) G VA s.vars
 stack:Sl (Kd.int .i64) G SA s.stack
theorem SRep.mono {G G':Gh} {s:SS} {VA:Option Addr} {vc:Nat} {SA:Option Addr} {sc:Nat} (h:SRep G s VA vc SA sc) (hg:G.le G'):SRep G' s VA vc SA sc:=⟨h.hv,h.hs,h.vars.mono hg,h.stack.mono hg⟩
abbrev TVec (A:Option Addr) (l:List Int) (cap:Nat) (x:Own):Prop:=IVec 44 A l cap x
theorem copied_fn (G:Gh) (s:SS) (VA:Option Addr) (vc:Nat) (SA:Option Addr) (sc:Nat) (h:SRep G s VA vc SA sc) (hv:s.vars.length≤1000000000) (hs:s.stack.length≤1000000000):
  Fn Tryz.prog 135 #[ssV s VA vc SA sc] G [] fun e G' H'=>∃VA' vc' SA' sc' x y,e= .returned (ssV s VA' vc' SA' sc')∧G=G'∧H'=[x,y]∧TVec VA' s.vars vc' x∧TVec SA' s.stack sc' y:=by
 refine Fn.enter Tryz.func135 rfl rfl fun w0=>?_
 refine WC.seq ?_
 refine WC.region ?_
 refine WL.oo (OW.box rfl rfl fun b1=>?_)
 refine WL.oo (OW.alloc rfl fun b2=>?_)
 refine gom ?_
 refine WL.oo (OW.callK rfl (clone_types G [] VA s.vars.length vc (ints s.vars) h.vars.ints (ints_length _) (ints_one _) h.vars.none_len (by omega)) rfl fun v' G' H' h hg=>?_)
 obtain⟨A1,cap1,x1,he,rfl,rfl,hx1⟩:=h
 cases he
 refine gom ?_
 refine WL.oo (OW.callK rfl (clone_types G [] SA s.stack.length sc (ints s.stack) h.stack.ints (ints_length _) (ints_one _) h.stack.none_len (by omega)) rfl fun v' G' H' h hg=>?_)
 obtain⟨A2,cap2,x2,he,rfl,rfl,hx2⟩:=h
 cases he
 refine gom ?_
 refine WC.rt ?_
 exact QF.p1 (.inl rfl) rfl (.cell rfl inferInstance inferInstance atA rfl rfl) (⟨A1,cap1,A2,cap2,x1,x2,rfl,rfl,rfl,hx1,hx2⟩)
theorem joined_fn (G:Gh) (a b:SS) (VA VB:Option Addr) (va vb:Nat) (SA SB:Option Addr) (sa sb:Nat) (ha:SRep G a VA va SA sa) (hb:SRep G b VB vb SB sb) (hl:a.reached=true→b.reached=true→a.vars.length=b.vars.length) (hv:a.vars.length≤1000000000) (hs:a.stack.length≤1000000000):
  Fn Tryz.prog 133 #[ssV a VA va SA sa,ssV b VB vb SB sb] G [] fun e G' H'=>∃V' v' S' s',e= .returned (ssV (joinS a b) V' v' S' s')∧G.le G'∧SRep G' (joinS a b) V' v' S' s'∧H'=[]:=by
 refine Fn.enter Tryz.func133 rfl rfl fun w0=>?_
 refine WC.seq ?_
 refine WC.region ?_
 refine WL.oo (OW.box rfl rfl fun b1=>?_)
 refine WL.oo (OW.box rfl rfl fun b2=>?_)
 refine WL.oo (OW.alloc rfl fun b3=>?_)
 obtain⟨ar,au,av,ak⟩:=a
 obtain⟨br,bu,bv,bk⟩:=b
 dsimp only at hl hv hs
 cases ar with
 | false=>
  rw[show joinS ⟨false,au,av,ak⟩ ⟨br,bu,bv,bk⟩=⟨br,bu,bv,bk⟩from rfl]
  refine gom ?_
  refine WC.rt ?_
  exact QF.p1 (.inl rfl) rfl (.cell rfl inferInstance inferInstance atA rfl rfl) (⟨VB,vb,SB,sb,rfl,Gh.le_refl _,hb,rfl⟩)
 | true=>
 cases br with
 | false=>
  rw[show joinS ⟨true,au,av,ak⟩ ⟨false,bu,bv,bk⟩=⟨true,au,av,ak⟩from rfl]
  refine gom ?_
  refine WC.rt ?_
  exact QF.p1 (.inl rfl) rfl (.cell rfl inferInstance inferInstance atA rfl rfl) (⟨VA,va,SA,sa,rfl,Gh.le_refl _,ha,rfl⟩)
 | true=>
 have hlen:=hl rfl rfl
 refine gom ?_
 refine WL.oo (OW.callK rfl (joinRow_fn G VA VB va vb av bv ha.vars hb.vars hv hlen) rfl fun v' G' H' h hg=>?_)
 obtain⟨A1,cap1,he,hg1,hc1,hs1,rfl⟩:=h
 cases he
 refine WL.pick [.blk b1 (.cells #[.bool true, .bool au, .slice VA av.length va, .slice SA ak.length sa] 203 (0,0)), .blk b2 (.cells #[.bool true, .bool bu, .slice VB bv.length vb, .slice SB bk.length sb] 203 (0,0)), .blk b3 (.cells #[.bool false, .bool false, .slice none 0 0, .slice none 0 0] 203 (0,0))] ?_
 refine gom ?_
 refine WL.oo (OW.alloc rfl fun b6=>?_)
 by_cases hc:au=true∨bu=true∨ak.length≠bk.length
 ·rw [show joinS ⟨true,au,av,ak⟩ ⟨true,bu,bv,bk⟩=⟨true,true,joinRow av bv,[]⟩ by unfold joinS;rw[if_neg (by simp),if_neg (by simp),if_pos hc]]
  cases au with
  | true=>
   refine gom ?_
   refine WC.rt ?_
   exact QF.p1 (.inl rfl) rfl (.cell rfl inferInstance inferInstance atA rfl rfl) (⟨A1,cap1,none,0,rfl,hg1,⟨hc1,Nat.le_refl _,hs1,Sl.nil _ _ _⟩,rfl⟩)
  | false=>
  cases bu with
  | true=>
   refine gom ?_
   refine WC.rt ?_
   exact QF.p1 (.inl rfl) rfl (.cell rfl inferInstance inferInstance atA rfl rfl) (⟨A1,cap1,none,0,rfl,hg1,⟨hc1,Nat.le_refl _,hs1,Sl.nil _ _ _⟩,rfl⟩)
  | false=>
   have hne:((ak.length:Int) != (bk.length:Int))=true:=by
    rw[bne_iff_ne];simp at hc;omega
   refine gom ?_
   refine WC.rt ?_
   exact QF.p1 (.inl rfl) rfl (.cell rfl inferInstance inferInstance atA rfl rfl) (⟨A1,cap1,none,0,rfl,hg1,⟨hc1,Nat.le_refl _,hs1,Sl.nil _ _ _⟩,rfl⟩)
 ·have hua:au=false:=by cases h:au with | false=>rfl | true=>exact absurd (.inl h) hc
  have hub:bu=false:=by cases h:bu with | false=>rfl | true=>exact absurd (.inr (.inl h)) hc
  have hsl:ak.length=bk.length:=by apply Decidable.byContradiction;intro h;exact hc (.inr (.inr h))
  have hne:((ak.length:Int) != (bk.length:Int))=false:=by rw[hsl];simp
  rw[show joinS ⟨true,au,av,ak⟩ ⟨true,bu,bv,bk⟩=⟨true,false,joinRow av bv,joinRow ak bk⟩ by unfold joinS;rw[if_neg (by simp),if_neg (by simp),if_neg hc]]
  subst hua hub
  refine gom ?_
  refine WL.oo (OW.callK rfl (joinRow_fn _ SA SB sa sb ak bk (ha.stack.mono hg1) (hb.stack.mono hg1) hs hsl) rfl fun v' G' H' h hg=>?_)
  obtain⟨A2,cap2,he,hg2,hc2,hs2,rfl⟩:=h
  cases he
  refine gom ?_
  refine WC.rt ?_
  exact QF.p1 (.inl rfl) rfl (.cell rfl inferInstance inferInstance atA rfl rfl) (⟨A1,cap1,A2,cap2,rfl,Gh.le_trans hg1 hg2,⟨hc1,hc2,hs1.mono hg2,hs2⟩,rfl⟩)
theorem same_fn (G:Gh) (H:List Own) (a b:SS) (VA VB:Option Addr) (va vb:Nat) (SA SB:Option Addr) (sa sb:Nat) (ha:SRep G a VA va SA sa) (hb:SRep G b VB vb SB sb) (hv:a.vars.length≤1000000000) (hs:a.stack.length≤1000000000):
  Fn Tryz.prog 134 #[ssV a VA va SA sa,ssV b VB vb SB sb] G H fun e G' H'=>e= .returned (.bool (decide (a=b)))∧G=G'∧H'=H:=by
 refine Fn.enter Tryz.func134 rfl rfl fun w0=>?_
 refine WC.seq ?_
 refine WC.region ?_
 refine WL.oo (OW.box rfl rfl fun b1=>?_)
 refine WL.oo (OW.box rfl rfl fun b2=>?_)
 obtain⟨ar,au,avs,ast⟩:=a
 obtain⟨br,bu,bvs,bst⟩:=b
 dsimp only at hv hs
 cases hr:(ar==br)with
 | false=>
  have e1:decide ((⟨ar,au,avs,ast⟩:SS)=⟨br,bu,bvs,bst⟩)=false:=decide_eq_false (by intro e;cases e;simp at hr)
  rw[e1]
  refine gom ?_
  rw[hr]
  refine gom ?_
  refine WC.rt ?_
  exact QF.p1 (.inl rfl) rfl (.tmp rfl) (⟨rfl,rfl,rfl⟩)
 | true=>
 cases hu:(au==bu)with
 | false=>
  have e1:decide ((⟨ar,au,avs,ast⟩:SS)=⟨br,bu,bvs,bst⟩)=false:=decide_eq_false (by intro e;cases e;simp at hu)
  rw[e1]
  refine gom ?_
  rw[hr]
  refine gom ?_
  rw[hu]
  refine gom ?_
  refine WC.rt ?_
  exact QF.p1 (.inl rfl) rfl (.tmp rfl) (⟨rfl,rfl,rfl⟩)
 | true=>
 refine gom ?_
 rw[hr]
 refine gom ?_
 rw[hu]
 refine gom ?_
 refine WL.oo (OW.callK rfl (equal_types G [] VA VB va vb avs bvs ha.vars hb.vars (by omega)) rfl fun v' G' H' h hg=>?_)
 obtain⟨he,rfl,rfl⟩:=h
 cases he
 refine WL.pick (.blk b2 (.cells #[.bool br, .bool bu, .slice VB bvs.length vb, .slice SB bst.length sb] 203 (0,0)):: .blk b1 (.cells #[.bool ar, .bool au, .slice VA avs.length va, .slice SA ast.length sa] 203 (0,0))::H) ?_
 cases hv2:(avs==bvs)with
 | false=>
  have e1:decide ((⟨ar,au,avs,ast⟩:SS)=⟨br,bu,bvs,bst⟩)=false:=decide_eq_false (by intro e;cases e;simp at hv2)
  rw[e1]
  refine gom ?_
  refine WC.rt ?_
  exact QF.p1 (.inl rfl) rfl (.tmp rfl) (⟨rfl,rfl,rfl⟩)
 | true=>
 refine gom ?_
 refine WL.oo (OW.callK rfl (equal_types G [] SA SB sa sb ast bst ha.stack hb.stack (by omega)) rfl fun v' G' H' h hg=>?_)
 obtain⟨he,rfl,rfl⟩:=h
 cases he
 refine WL.pick H ?_
 have e1:decide ((⟨ar,au,avs,ast⟩:SS)=⟨br,bu,bvs,bst⟩)=(ast==bst):=by
  simp only[beq_iff_eq]at hr hu hv2
  subst hr hu hv2
  cases h:(ast==bst)with
  | false=>exact decide_eq_false (by intro e;cases e;simp at h)
  | true=>exact decide_eq_true (by rw[beq_iff_eq]at h;rw[h])
 rw[e1]
 refine gom ?_
 refine WC.rt ?_
 exact QF.p1 (.inl rfl) rfl (.tmp rfl) (⟨rfl,rfl,rfl⟩)
theorem next_fn (G:Gh) (c n:Int) (k:Nat) (hk:k≤1000000000):
  Fn Tryz.prog 132 #[.agg #[.int .i64 c, .int .i64 n], .int .i64 k] G [] fun e G' H'=>∃A cap,e= .returned (.slice A (nextR (c,n) k).length cap)∧G.le G'∧Sl (Kd.int .i64) G' A (nextR (c,n) k)∧H'=[]:=by
 refine Fn.enter Tryz.func132 rfl rfl fun w0=>?_
 refine WC.seq ?_
 refine WC.region ?_
 refine WL.oo (OW.box rfl rfl fun b1=>?_)
 have x1:=wrapS k (by omega)
 have fin:∀ {b:Nat} {c:Array Value} {l:List Int},c=(ints l).toArray→Sl (Kd.int .i64) (G.add b c) (some ⟨b,0,none⟩) l:=fun {b c l} h=>IVec.sl (.inr ⟨b,rfl,fun j v e=>by
  rw[Nat.zero_add,Gh.add_at,h];simpa using e⟩)
 by_cases h9:c=9
 ·have e1:nextR (c,n) k=[]:=by unfold nextR;rw[if_pos (.inl h9)]
  rw[e1];subst h9
  refine gom ?_
  refine WC.rt ?_
  exact QF.p1 (.inl rfl) rfl (.tmp rfl) (⟨none,0,rfl,Gh.le_refl _,Sl.nil _ _ _,rfl⟩)
 by_cases h10:c=10
 ·have e1:nextR (c,n) k=[]:=by unfold nextR;rw[if_pos (.inr h10)]
  rw[e1];subst h10
  refine gom ?_
  refine WC.rt ?_
  exact QF.p1 (.inl rfl) rfl (.tmp rfl) (⟨none,0,rfl,Gh.le_refl _,Sl.nil _ _ _,rfl⟩)
 have y9:(c==9)=false:=by simpa using h9
 have y10:(c==10)=false:=by simpa using h10
 by_cases h5:c=5
 ·have e1:nextR (c,n) k=[n]:=by unfold nextR;rw[if_neg (by simp[h9,h10]),if_pos h5]
  rw[e1];subst h5
  refine gom ?_
  refine WL.op kr (OW.buildSlice rfl kr kr (by rfl) rfl fun b2=>?_)
  refine gom ?_
  refine WC.freeze (j:=0) .here fun hg=>?_
  refine WC.rt ?_
  exact QF.p1 (.inl rfl) rfl (.tmp rfl) (⟨some ⟨b2,0,none⟩,1,rfl,hg,fin rfl,rfl⟩)
 have y5:(c==5)=false:=by simpa using h5
 by_cases h6:c=6
 ·have e1:nextR (c,n) k=[n,(k:Int)+1]:=by unfold nextR;rw[if_neg (by simp[h9,h10]),if_neg h5,if_pos h6]
  rw[e1];subst h6
  refine gom ?_
  refine WL.op kr (OW.buildSlice rfl kr kr (by rfl) rfl fun b2=>?_)
  refine gom ?_
  refine WC.freeze (j:=0) .here fun hg=>?_
  refine WC.rt ?_
  exact QF.p1 (.inl rfl) rfl (.tmp rfl) (⟨some ⟨b2,0,none⟩,2,rfl,hg,fin rfl,rfl⟩)
 have y6:(c==6)=false:=by simpa using h6
 have e1:nextR (c,n) k=[(k:Int)+1]:=by unfold nextR;rw[if_neg (by simp[h9,h10]),if_neg h5,if_neg h6]
 rw[e1]
 refine gom ?_
 refine WL.op kr (OW.buildSlice rfl kr kr (by rfl) rfl fun b2=>?_)
 refine gom ?_
 refine WC.freeze (j:=0) .here fun hg=>?_
 refine WC.rt ?_
 exact QF.p1 (.inl rfl) rfl (.tmp rfl) (⟨some ⟨b2,0,none⟩,1,rfl,hg,fin rfl,rfl⟩)
end
section
attribute [local irreducible] Tryz.prog
theorem OW.callVK {P:Program} {Q:Exit→Act→World→Prop} {cx:Cx} {L:List (Nat×Value)} {G:Gh} {H:List Own} {K:List (Nat×Value)→Gh→List Own→Prop} {d:Option Tmp} {ty:TypeId} {pos:String} {af:Array Edge} {gu:Option (Nat×Bool)} {g:Operand} {f:Nat} {cap:Array Value} {xs:Array Operand} {ats:Array TypeId} {vs:List Value} {ags:Array Value} {Hf F:List Own} {R:Ending→Gh→List Own→Prop} (hg:ev L g=some (.func (.func f) #[] cap)) (hx:Gb.evs L xs=some vs) [hb:Body P f]
  (ha:vs.toArray++cap=ags) (hf:Fn P f ags G Hf R) (hd:dOk d cx.N=true)
  (k:∀v G' H',R (.returned v) G' H'→G.le G'→K (putL d v L) G' (H'++F)) (hp:Pk H Hf F:=by repeat (first | exact Pk.nil | exact Pk.all | exact Pk.app | exact Pk.appR | with_reducible apply Pk.na | (apply Pk.cons;(repeat first | exact .here | apply Rem.there | apply Rem.app)) | apply Pk.assoc | apply Pk.skip | apply Pk.skipA)) (hno:∀e G' H',R e G' H'→∃v,e= .returned v:=by intro e G' H' h;repeat (first | exact⟨_,h.1⟩ | (obtain⟨_,h⟩:=h))):OW P Q ⟨d, .call { callee:= .value g,args:=xs,argTypes:=ats },ty,pos,af,gu⟩ cx L G H K:=by
 subst ha
 exact OW.callV hg hx hp.perm hf hd k (fun ch G' H' h=>by obtain⟨v,hv⟩:=hno _ _ _ h;cases hv) (fun G' H' h=>by obtain⟨v,hv⟩:=hno _ _ _ h;cases hv)
theorem fin_ints {G:Gh} {b:Nat} {c:Array Value} {l:List Int} (h:c=(ints l).toArray):Sl (Kd.int .i64) (G.add b c) (some ⟨b,0,none⟩) l:=IVec.sl (.inr ⟨b,rfl,fun j v e=>by
 rw[Nat.zero_add,Gh.add_at,h];simpa using e⟩)
theorem one_fn (G:Gh) (t:Int) (b:Nat) (n:Value) (n2:Value) (tk ly:Int):
  Fn Tryz.prog 190 #[.int .i64 t, .pointer (some ⟨b,0,none⟩)] G [.blk b (.cells #[n,n2, .int .i64 tk, .int .i64 ly] 226 (0,0))]
   fun e G' H'=>∃A,e= .returned (.tuple #[.int .i64 tk, .slice A 1 1])∧G.le G'∧Sl (Kd.int .i64) G' A [t]∧H'=[.blk b (.cells #[n,n2, .int .i64 tk, .int .i64 ly] 226 (0,0))]:=by
 refine Fn.enter Tryz.func190 rfl rfl fun w0=>?_
 refine gom ?_
 refine WL.op kr (OW.buildSlice rfl kr kr (by rfl) rfl fun b1=>?_)
 refine gom ?_
 refine WC.freeze (j:=0) .here fun hg=>?_
 refine WC.rt ?_
 exact QF.p2 (.inl rfl) rfl (.tmp rfl) (.tmp rfl) (⟨_,rfl,hg,fin_ints rfl,rfl⟩)
theorem called_fn (G:Gh) (A:Option Addr) (n cap:Nat) (r:Int):
  Fn Tryz.prog 191 #[.slice A n cap, .int .i64 r] G []
   fun e G' H'=>∃A' cap',e= .returned (.tuple #[.int .i64 n, .slice A' (if r=0 then([]:List Int)else [r]).length cap'])∧G.le G'∧Sl (Kd.int .i64) G' A' (if r=0 then []else [r])∧H'=[]:=by
 refine Fn.enter Tryz.func191 rfl rfl fun w0=>?_
 by_cases hr:r=0
 ·subst hr
  refine gom ?_
  refine WC.rt ?_
  exact QF.p2 (.inl rfl) rfl (.tmp rfl) (.tmp rfl) (⟨none,0,rfl,Gh.le_refl _,Sl.nil _ _ _,rfl⟩)
 ·have e1:(r==0)=false:=by simpa using hr
  rw[if_neg hr]
  refine gom ?_
  refine WL.op kr (OW.buildSlice rfl kr kr (by rfl) rfl fun b1=>?_)
  refine gom ?_
  refine WC.freeze (j:=0) .here fun hg=>?_
  refine WC.rt ?_
  exact QF.p2 (.inl rfl) rfl (.tmp rfl) (.tmp rfl) (⟨_,1,rfl,hg,fin_ints rfl,rfl⟩)
structure WRep (G:Gh) (w:Wd) (bw:Nat) (CA NA PA:Option Addr) (cc nc pc:Nat):Prop where
 cells:Cs G bw 0 [.slice CA w.consts.length cc, .slice NA w.needs.length nc, .slice PA w.procs.length pc]
 consts:Sl Kd.val G CA w.consts
 needs:Sl Kd.ned G NA w.needs
 procs:Sl Kd.prc G PA w.procs
 cl:w.consts.length≤100000000000000
 nl:w.needs.length≤100000000000000
 pl:w.procs.length≤100000000000000
 np:∀q∈w.needs,q.params.length≤100000000000000
 pp:∀q∈w.procs,q.params.length≤100000000000000
theorem WRep.mono {G G':Gh} {w:Wd} {bw:Nat} {CA NA PA:Option Addr} {cc nc pc:Nat} (h:WRep G w bw CA NA PA cc nc pc) (hg:G.le G'):WRep G' w bw CA NA PA cc nc pc:=
 ⟨h.cells.mono hg,h.consts.mono hg,h.needs.mono hg,h.procs.mono hg,h.cl,h.nl,h.pl,h.np,h.pp⟩
structure FRep (G:Gh) (p:Pr) (bf bw:Nat) (PA CA:Option Addr) (pc cc:Nat) (TA:Option Addr) (tn tc:Nat):Prop where
 cells:Cs G bf 0 [.pointer (some ⟨bw,0,none⟩), .string p.name, .bool p.exp, .slice PA p.params.length pc, .int .i64 p.locals, .int .i64 p.result, .slice CA p.code.length cc, .slice TA tn tc]
 params:Sl (Kd.int .i64) G PA p.params
 code:Sl Kd.ins G CA p.code
theorem FRep.mono {G G':Gh} {p:Pr} {bf bw:Nat} {PA CA:Option Addr} {pc cc:Nat} {TA:Option Addr} {tn tc:Nat} (h:FRep G p bf bw PA CA pc cc TA tn tc) (hg:G.le G'):FRep G' p bf bw PA CA pc cc TA tn tc:=
 ⟨h.cells.mono hg,h.params.mono hg,h.code.mono hg⟩
theorem rowC_takes (c:Int):0≤(rowC c).takes∧(rowC c).takes≤2:=by
 unfold rowC
 split
 ·decide
 ·cases h:rowsC[c.toNat]? with
  | none=>decide
  | some r=>
   have hr:∀r∈rowsC,0≤r.takes∧r.takes≤2:=by decide
   exact hr r (List.mem_of_getElem? h)
structure EOk (w:Wd) (vars:Nat) (c:Int) (n:Nat):Prop where
 const:c=1→n<w.consts.length
 load:c=2→n<vars
 store:c=3→n<vars
 call:c=7→n<w.procs.length
 outer:c=8→n<w.needs.length
section
variable (G:Gh) (w:Wd) (p:Pr) (bf bw:Nat) (CA NA PA:Option Addr) (cc nc pc:Nat) (QA IA:Option Addr) (qc ic:Nat) (TA:Option Addr) (tn tc:Nat) (hW:WRep G w bw CA NA PA cc nc pc) (hF:FRep G p bf bw QA IA qc ic TA tn tc)
include hW hF
theorem effect_fn (s:SS) (VA:Option Addr) (vc:Nat) (SA:Option Addr) (sc:Nat) (hS:SRep G s VA vc SA sc) (hv:s.vars.length≤1000000000) (c:Int) (n:Nat) (ho:EOk w s.vars.length c n):
  Fn Tryz.prog 160 #[.pointer (some ⟨bf,0,none⟩), .agg #[.int .i64 c, .int .i64 n],ssV s VA vc SA sc] G []
   fun e G' H'=>∃A cap,e= .returned (.tuple #[.int .i64 (effC w s.vars (c,n)).1, .slice A (effC w s.vars (c,n)).2.length cap])∧G.le G'∧Sl (Kd.int .i64) G' A (effC w s.vars (c,n)).2∧H'=[]:=by
 have hfc:=hF.cells
 have hwc:=hW.cells
 obtain⟨sr,su,sv,sk⟩:=s
 dsimp only at hv ho
 obtain⟨ho1,ho2,ho3,ho7,ho8⟩:=ho
 refine Fn.enter Tryz.func160 rfl rfl fun w0=>?_
 refine WC.seq ?_
 refine WC.region ?_
 refine WL.oo (OW.box rfl rfl fun b1=>?_)
 refine WL.oo (OW.box rfl rfl fun b2=>?_)
 refine gom ?_
 refine WL.oo (OW.callK rfl (rowOf_fn G c) rfl fun v' G' H' h hg=>?_)
 obtain⟨he,rfl,rfl⟩:=h
 cases he
 refine WL.pick [.blk b2 (.cells #[.bool sr, .bool su, .slice VA sv.length vc, .slice SA sk.length sc] 203 (0,0)), .blk b1 (.cells #[.int .i64 c, .int .i64 n] 50 (0,0))] ?_
 refine WL.oo (OW.alloc rfl fun b3=>?_)
 refine gom ?_
 refine WL.pp (Gp.makeFunc rfl rfl) ?_
 by_cases h1:c=1
 ·subst h1
  obtain⟨v,hvv⟩:∃v,w.consts[n]? =some v:=⟨_,List.getElem?_eq_getElem (ho1 rfl)⟩
  obtain⟨cb,co,cs,rfl,hk,hcs⟩:=hW.consts n v hvv
  obtain rfl:cs=vcells v:=hk
  have x0:(0:Int)≤(n:Int):=by omega
  have x1:(n:Int)<(w.consts.length:Int):=by have:=ho1 rfl;omega
  have he1:effC w sv ((1:Int),(n:Int))=(0,[v.t]):=by unfold effC;simp[hvv]
  refine gom ?_
  refine WQ.one kr kr (OW.callVK rfl rfl rfl (one_fn G v.t b3 _ _ _ _) rfl fun v' G' H' h hg=>?_)
  obtain⟨A,he,hg1,hs1,rfl⟩:=h
  cases he
  refine gom ?_
  refine WC.rt ?_
  exact QF.p2 (.inl rfl) rfl (.tmp rfl) (.tmp rfl) (⟨A,1,by rw[he1];first | done | rfl,hg1,by rw[he1];exact hs1,rfl⟩)
 have y1:(c==1)=false:=by simpa using h1
 by_cases h2:c=2
 ·subst h2
  obtain⟨v,hvv⟩:∃v,sv[n]? =some v:=⟨_,List.getElem?_eq_getElem (ho2 rfl)⟩
  obtain⟨cb,co,rfl,hcs⟩:=hS.vars.at hvv
  have x0:(0:Int)≤(n:Int):=by omega
  have x1:(n:Int)<(sv.length:Int):=by have:=ho2 rfl;omega
  have he1:effC w sv ((2:Int),(n:Int))=(0,[v]):=by unfold effC;simp[hvv]
  refine gom ?_
  refine WL.oo (OW.callVK rfl rfl rfl (one_fn G v b3 _ _ _ _) rfl fun v' G' H' h hg=>?_)
  obtain⟨A,he,hg1,hs1,rfl⟩:=h
  cases he
  refine gom ?_
  refine WC.rt ?_
  exact QF.p2 (.inl rfl) rfl (.tmp rfl) (.tmp rfl) (⟨A,1,by rw[he1];first | done | rfl,hg1,by rw[he1];exact hs1,rfl⟩)
 have y2:(c==2)=false:=by simpa using h2
 by_cases h7:c=7
 ·subst h7
  obtain⟨q,hq⟩:∃q,w.procs[n]? =some q:=⟨_,List.getElem?_eq_getElem (ho7 rfl)⟩
  obtain⟨cb,co,cs,rfl,hk,hcs⟩:=hW.procs n q hq
  obtain⟨PA2,pc2,CA2,cc2,rfl,hk1,hk2⟩:=hk
  have x0:(0:Int)≤(n:Int):=by omega
  have x1:(n:Int)<(w.procs.length:Int):=by have:=ho7 rfl;omega
  have he1:effC w sv ((7:Int),(n:Int))=(q.params.length,if q.result=0 then []else [q.result]):=by unfold effC;simp[hq,hdE]
  refine gom ?_
  refine WQ.one kr kr (OW.callVK rfl rfl rfl (called_fn G PA2 q.params.length pc2 q.result) rfl fun v' G' H' h hg=>?_)
  obtain⟨A,cap,he,hg1,hs1,rfl⟩:=h
  cases he
  refine gom ?_
  refine WC.rt ?_
  exact QF.p2 (.inl rfl) rfl (.tmp rfl) (.tmp rfl) (⟨A,cap,by rw[he1];first | done | rfl,hg1,by rw[he1];exact hs1,rfl⟩)
 have y7:(c==7)=false:=by simpa using h7
 by_cases h8:c=8
 ·subst h8
  obtain⟨q,hq⟩:∃q,w.needs[n]? =some q:=⟨_,List.getElem?_eq_getElem (ho8 rfl)⟩
  obtain⟨cb,co,cs,rfl,hk,hcs⟩:=hW.needs n q hq
  obtain⟨PA2,pc2,rfl,hk1⟩:=hk
  have x0:(0:Int)≤(n:Int):=by omega
  have x1:(n:Int)<(w.needs.length:Int):=by have:=ho8 rfl;omega
  have he1:effC w sv ((8:Int),(n:Int))=(q.params.length,if q.result=0 then []else [q.result]):=by unfold effC;simp[hq,hdE]
  refine gom ?_
  refine WQ.one kr kr (OW.callVK rfl rfl rfl (called_fn G PA2 q.params.length pc2 q.result) rfl fun v' G' H' h hg=>?_)
  obtain⟨A,cap,he,hg1,hs1,rfl⟩:=h
  cases he
  refine gom ?_
  refine WC.rt ?_
  exact QF.p2 (.inl rfl) rfl (.tmp rfl) (.tmp rfl) (⟨A,cap,by rw[he1];first | done | rfl,hg1,by rw[he1];exact hs1,rfl⟩)
 have y8:(c==8)=false:=by simpa using h8
 by_cases h20:c=20
 ·subst h20
  have he1:effC w sv ((20:Int),(n:Int))=(2,[3]):=by unfold effC;simp
  refine gom ?_
  refine WL.oo (OW.callVK rfl rfl rfl (one_fn G 3 b3 _ _ _ _) rfl fun v' G' H' h hg=>?_)
  obtain⟨A,he,hg1,hs1,rfl⟩:=h
  cases he
  refine gom ?_
  refine WC.rt ?_
  exact QF.p2 (.inl rfl) rfl (.tmp rfl) (.tmp rfl) (⟨A,1,by rw[he1];first | done | rfl,hg1,by rw[he1];exact hs1,rfl⟩)
 have y20:(c==20)=false:=by simpa using h20
 by_cases h12:c=12
 ·subst h12
  have he1:effC w sv ((12:Int),(n:Int))=(2,[2]):=by unfold effC;simp
  refine gom ?_
  refine WL.oo (OW.callVK rfl rfl rfl (one_fn G 2 b3 _ _ _ _) rfl fun v' G' H' h hg=>?_)
  obtain⟨A,he,hg1,hs1,rfl⟩:=h
  cases he
  refine gom ?_
  refine WC.rt ?_
  exact QF.p2 (.inl rfl) rfl (.tmp rfl) (.tmp rfl) (⟨A,1,by rw[he1];first | done | rfl,hg1,by rw[he1];exact hs1,rfl⟩)
 have y12:(c==12)=false:=by simpa using h12
 by_cases h13:c=13
 ·subst h13
  have he1:effC w sv ((13:Int),(n:Int))=(2,[2]):=by unfold effC;simp
  refine gom ?_
  refine WL.oo (OW.callVK rfl rfl rfl (one_fn G 2 b3 _ _ _ _) rfl fun v' G' H' h hg=>?_)
  obtain⟨A,he,hg1,hs1,rfl⟩:=h
  cases he
  refine gom ?_
  refine WC.rt ?_
  exact QF.p2 (.inl rfl) rfl (.tmp rfl) (.tmp rfl) (⟨A,1,by rw[he1];first | done | rfl,hg1,by rw[he1];exact hs1,rfl⟩)
 have y13:(c==13)=false:=by simpa using h13
 by_cases h14:c=14
 ·subst h14
  have he1:effC w sv ((14:Int),(n:Int))=(2,[2]):=by unfold effC;simp
  refine gom ?_
  refine WL.oo (OW.callVK rfl rfl rfl (one_fn G 2 b3 _ _ _ _) rfl fun v' G' H' h hg=>?_)
  obtain⟨A,he,hg1,hs1,rfl⟩:=h
  cases he
  refine gom ?_
  refine WC.rt ?_
  exact QF.p2 (.inl rfl) rfl (.tmp rfl) (.tmp rfl) (⟨A,1,by rw[he1];first | done | rfl,hg1,by rw[he1];exact hs1,rfl⟩)
 have y14:(c==14)=false:=by simpa using h14
 by_cases h15:c=15
 ·subst h15
  have he1:effC w sv ((15:Int),(n:Int))=(2,[2]):=by unfold effC;simp
  refine gom ?_
  refine WL.oo (OW.callVK rfl rfl rfl (one_fn G 2 b3 _ _ _ _) rfl fun v' G' H' h hg=>?_)
  obtain⟨A,he,hg1,hs1,rfl⟩:=h
  cases he
  refine gom ?_
  refine WC.rt ?_
  exact QF.p2 (.inl rfl) rfl (.tmp rfl) (.tmp rfl) (⟨A,1,by rw[he1];first | done | rfl,hg1,by rw[he1];exact hs1,rfl⟩)
 have y15:(c==15)=false:=by simpa using h15
 by_cases h16:c=16
 ·subst h16
  have he1:effC w sv ((16:Int),(n:Int))=(2,[2]):=by unfold effC;simp
  refine gom ?_
  refine WL.oo (OW.callVK rfl rfl rfl (one_fn G 2 b3 _ _ _ _) rfl fun v' G' H' h hg=>?_)
  obtain⟨A,he,hg1,hs1,rfl⟩:=h
  cases he
  refine gom ?_
  refine WC.rt ?_
  exact QF.p2 (.inl rfl) rfl (.tmp rfl) (.tmp rfl) (⟨A,1,by rw[he1];first | done | rfl,hg1,by rw[he1];exact hs1,rfl⟩)
 have y16:(c==16)=false:=by simpa using h16
 by_cases h17:c=17
 ·subst h17
  have he1:effC w sv ((17:Int),(n:Int))=(2,[2]):=by unfold effC;simp
  refine gom ?_
  refine WL.oo (OW.callVK rfl rfl rfl (one_fn G 2 b3 _ _ _ _) rfl fun v' G' H' h hg=>?_)
  obtain⟨A,he,hg1,hs1,rfl⟩:=h
  cases he
  refine gom ?_
  refine WC.rt ?_
  exact QF.p2 (.inl rfl) rfl (.tmp rfl) (.tmp rfl) (⟨A,1,by rw[he1];first | done | rfl,hg1,by rw[he1];exact hs1,rfl⟩)
 have y17:(c==17)=false:=by simpa using h17
 by_cases h25:c=25
 ·subst h25
  have he1:effC w sv ((25:Int),(n:Int))=(1,[2]):=by unfold effC;simp
  refine gom ?_
  refine WL.oo (OW.callVK rfl rfl rfl (one_fn G 2 b3 _ _ _ _) rfl fun v' G' H' h hg=>?_)
  obtain⟨A,he,hg1,hs1,rfl⟩:=h
  cases he
  refine gom ?_
  refine WC.rt ?_
  exact QF.p2 (.inl rfl) rfl (.tmp rfl) (.tmp rfl) (⟨A,1,by rw[he1];first | done | rfl,hg1,by rw[he1];exact hs1,rfl⟩)
 have y25:(c==25)=false:=by simpa using h25
 obtain⟨r,hr⟩:∃r,r=rowC c:=⟨_,rfl⟩
 have htk:=(rowC_takes c).1
 have he1:effC w sv (c,(n:Int))=if r.lays=1 then(r.takes.toNat,[1])else(r.takes.toNat,[]):=by
  unfold effC
  rw[if_neg h1,if_neg h2,if_neg h7,if_neg h8,if_neg h20,if_neg (by omega),if_neg h25,←hr]
 rw[←hr]at htk⊢
 have htk':((r.takes.toNat:Nat):Int)=r.takes:=by omega
 by_cases hl:r.lays=1
 ·have yl:(r.lays==1)=true:=by simpa using hl
  rw[if_pos hl]at he1
  refine gom ?_
  refine WL.oo (OW.callVK rfl rfl rfl (one_fn G 1 b3 _ _ _ _) rfl fun v' G' H' h hg=>?_)
  obtain⟨A,he,hg1,hs1,rfl⟩:=h
  cases he
  refine gom ?_
  refine WC.rt ?_
  exact QF.p2 (.inl rfl) rfl (.tmp rfl) (.tmp rfl) (⟨A,1,by rw[he1];show _=Ending.returned (.tuple #[.int .i64 ((r.takes.toNat:Nat):Int),_]);rw[htk'];rfl,hg1,by rw[he1];exact hs1,rfl⟩)
 ·have yl:(r.lays==1)=false:=by simpa using hl
  rw[if_neg hl]at he1
  refine gom ?_
  refine WC.rt ?_
  exact QF.p2 (.inl rfl) rfl (.tmp rfl) (.tmp rfl) (⟨none,0,by rw[he1];show _=Ending.returned (.tuple #[.int .i64 ((r.takes.toNat:Nat):Int),_]);rw[htk'];rfl,Gh.le_refl _,by rw[he1];exact Sl.nil _ _ _,rfl⟩)
end
end
section
attribute [local irreducible] Tryz.prog
theorem effC_lays (w:Wd) (vars:List Int) (i:Int×Int):(effC w vars i).2.length≤1:=by
 unfold effC
 have h:∀a b,(hdE a b).2.length≤1:=fun a b=>by unfold hdE;dsimp only;split<;>simp
 split
 ·simp
 split
 ·simp
 split
 ·cases w.procs[i.2.toNat]? with
  | none=>simp
  | some p=>exact h _ _
 split
 ·cases w.needs[i.2.toNat]? with
  | none=>simp
  | some p=>exact h _ _
 split
 ·simp
 split
 ·simp
 split
 ·simp
 split<;>simp
theorem WRep.takes {G:Gh} {w:Wd} {bw:Nat} {CA NA PA:Option Addr} {cc nc pc:Nat} (h:WRep G w bw CA NA PA cc nc pc) (vars:List Int) (i:Int×Int):(effC w vars i).1≤100000000000000:=by
 unfold effC
 have h2:=rowC_takes i.1
 split
 ·simp
 split
 ·simp
 split
 ·cases hq:w.procs[i.2.toNat]? with
  | none=>simp
  | some p=>exact h.pp p (List.mem_of_getElem? hq)
 split
 ·cases hq:w.needs[i.2.toNat]? with
  | none=>simp
  | some p=>exact h.np p (List.mem_of_getElem? hq)
 split
 ·simp
 split
 ·simp
 split
 ·simp
 split<;>simp<;>omega
theorem ints_take (l:List Int) (n:Nat):ints (l.take n)=(ints l).take n:=by rw[ints,ints,List.map_take]
section
variable (G:Gh) (w:Wd) (p:Pr) (bf bw:Nat) (CA NA PA:Option Addr) (cc nc pc:Nat) (QA IA:Option Addr) (qc ic:Nat) (TA:Option Addr) (tn tc:Nat) (hW:WRep G w bw CA NA PA cc nc pc) (hF:FRep G p bf bw QA IA qc ic TA tn tc)
include hW hF
theorem behind_fn (s:SS) (VA:Option Addr) (vc:Nat) (SA:Option Addr) (sc:Nat) (hS:SRep G s VA vc SA sc) (hv:s.vars.length≤1000000000) (hk:s.stack.length≤1000000000) (c:Int) (n:Nat) (ho:EOk w s.vars.length c n):
  Fn Tryz.prog 131 #[.pointer (some ⟨bf,0,none⟩), .agg #[.int .i64 c, .int .i64 n],ssV s VA vc SA sc] G []
   fun e G' H'=>∃V' v' S' s',e= .returned (ssV (behR w (c,n) s) V' v' S' s')∧G.le G'∧SRep G' (behR w (c,n) s) V' v' S' s'∧H'=[]:=by
 have htk:=hW.takes s.vars (c,n)
 have hly:=effC_lays w s.vars (c,n)
 refine Fn.enter Tryz.func131 rfl rfl fun w0=>?_
 refine WC.seq ?_
 refine WC.region ?_
 refine WL.oo (OW.box rfl rfl fun b1=>?_)
 refine WL.oo (OW.box rfl rfl fun b2=>?_)
 refine WL.oo (OW.alloc rfl fun b3=>?_)
 refine gom ?_
 refine WL.oo (OW.callK rfl (copied_fn G s VA vc SA sc hS hv hk) rfl fun v' G' H' h hg=>?_)
 obtain⟨A1,c1,A2,c2,x1,x2,he,rfl,rfl,hx1,hx2⟩:=h
 cases he
 refine WL.oo (OW.alloc rfl fun b4=>?_)
 refine gom ?_
 refine WL.oo (OW.callK rfl (effect_fn G w p bf bw CA NA PA cc nc pc QA IA qc ic TA tn tc hW hF s VA vc SA sc hS hv c n ho) rfl fun v' G' H' h hg=>?_)
 obtain⟨LA,lc,he,hg1,hs1,rfl⟩:=h
 cases he
 obtain⟨sr,su,sv,sk⟩:=s
 dsimp only at htk hly hv hk hx1 hx2 hs1 ho⊢
 have ho3:=ho.store
 obtain⟨tk,htke⟩:∃tk,tk=(effC w sv (c,n)).1:=⟨_,rfl⟩
 obtain⟨ly,hlye⟩:∃ly,ly=(effC w sv (c,n)).2:=⟨_,rfl⟩
 rw[←htke]at htk
 rw[←hlye]at hly hs1
 rw[←htke,←hlye]
 refine zw.move ?_
 refine zw.ext ?_
 refine zw.ext ?_
 refine zw.assign ?_
 refine zw.assign ?_
 refine WL.nil ?_
 refine WK.un ?_
 refine WC.seq ?_
 refine WC.region ?_
 have y1:IntKind.i64.wrap ((sk.length:Int) - (tk:Int))=(sk.length:Int) - (tk:Int):=wrapI (by omega) (by omega)
 refine zw.fa ?_
 refine zw.ld ?_
 refine zw.len ?_
 refine zw.move ?_
 refine WL.pp (Gp.sub' rfl rfl y1) ?_
 refine zw.assign ?_
 refine WL.nil ?_
 refine WK.un ?_
 have hvl:(varsR (c,(n:Int)) ⟨sr,su,sv,sk⟩).length=sv.length:=varsR_length _ _
 refine WC.join (X:=Own) (fun _=>[(5, .pointer (some ⟨b2,0,none⟩)),(7, .pointer (some ⟨b4,0,none⟩)),(6, .pointer (some ⟨b3,0,none⟩)),(9, .slice LA ly.length lc),(10, .int .i64 ((sk.length:Int) - (tk:Int)))]) (fun _=>G')
  (fun o=>[o,x2, .blk b4 (.cells #[.bool sr, .bool su, .slice A1 sv.length c1, .slice A2 sk.length c2] 203 (0,0)), .blk b2 (.cells #[.bool sr, .bool su, .slice VA sv.length vc, .slice SA sk.length sc] 203 (0,0)), .blk b3 (.cells #[.bool false, .bool false, .slice none 0 0, .slice none 0 0] 203 (0,0))])
  (fun o=>Vec 44 1 A1 sv.length c1 (ints (varsR (c,(n:Int)) ⟨sr,su,sv,sk⟩)) o) ?_ fun o hx1'=>?_
 ·by_cases h3:c=3
  rotate_left
  ·have y3:(c==3)=false:=by simpa using h3
   refine gom ?_
   refine WK.pick [x1,x2, .blk b4 (.cells #[.bool sr, .bool su, .slice A1 sv.length c1, .slice A2 sk.length c2] 203 (0,0)), .blk b2 (.cells #[.bool sr, .bool su, .slice VA sv.length vc, .slice SA sk.length sc] 203 (0,0)), .blk b3 (.cells #[.bool false, .bool false, .slice none 0 0, .slice none 0 0] 203 (0,0))] ?_
   exact WK.meet (x1) (by unfold varsR;rw[if_neg h3];exact hx1) (by exact⟨rfl,rfl,rfl,rfl,rfl,trivial⟩) rfl (List.Sublist.refl _)
  subst h3
  have hn:=ho3 rfl
  obtain⟨xb,xc,rfl,rfl,hxc⟩:=hx1.some (by omega)
  have hn0:0+((n:Nat):Int).toNat*1=n:=by omega
  obtain⟨_,hfit,hput⟩:=IVec.put hx1 (i:=0+((n:Nat):Int).toNat*1) (by omega) 0
  have hble:Nat.ble (0+((n:Nat):Int).toNat*1+1) xc.size=true:=Nat.ble_eq_true_of_le (by omega)
  have x0:(0:Int)≤(n:Int):=by omega
  have x1:(n:Int)<(sv.length:Int):=by omega
  have hput':Vec 44 1 (some ⟨xb,0,none⟩) sv.length c1 (ints (sv.set n 0)) (.blk xb (.cells (splice xc (0+((n:Nat):Int).toNat*1) [.int .i64 0]) 44 (0,0))):=by
   have h:=hput
   unfold IVec at h
   rw[List.length_set]at h
   rwa [hn0]at h⊢
  cases su with
  | true=>
   refine gom ?_
   refine WK.pick [.blk xb (.cells (splice xc (0+((n:Nat):Int).toNat*1) [.int .i64 0]) 44 (0,0)),x2, .blk b4 (.cells #[.bool sr, .bool true, .slice (some ⟨xb,0,none⟩) sv.length c1, .slice A2 sk.length c2] 203 (0,0)), .blk b2 (.cells #[.bool sr, .bool true, .slice VA sv.length vc, .slice SA sk.length sc] 203 (0,0)), .blk b3 (.cells #[.bool false, .bool false, .slice none 0 0, .slice none 0 0] 203 (0,0))] ?_
   exact WK.meet (.blk xb (.cells (splice xc (0+((n:Nat):Int).toNat*1) [.int .i64 0]) 44 (0,0))) (hput') (by exact⟨rfl,rfl,rfl,rfl,rfl,trivial⟩) rfl (List.Sublist.refl _)
  | false=>
  by_cases hk0:sk.length=0
  ·have y4:decide ((0:Int)<(sk.length:Int))=false:=decide_eq_false (by omega)
   have ht:topS ⟨sr,false,sv,sk⟩=0:=by
    have:sk=[]:=List.eq_nil_of_length_eq_zero hk0
    subst this;rfl
   refine gom ?_
   refine WK.pick [.blk xb (.cells (splice xc (0+((n:Nat):Int).toNat*1) [.int .i64 0]) 44 (0,0)),x2, .blk b4 (.cells #[.bool sr, .bool false, .slice (some ⟨xb,0,none⟩) sv.length c1, .slice A2 sk.length c2] 203 (0,0)), .blk b2 (.cells #[.bool sr, .bool false, .slice VA sv.length vc, .slice SA sk.length sc] 203 (0,0)), .blk b3 (.cells #[.bool false, .bool false, .slice none 0 0, .slice none 0 0] 203 (0,0))] ?_
   exact WK.meet (.blk xb (.cells (splice xc (0+((n:Nat):Int).toNat*1) [.int .i64 0]) 44 (0,0))) (by unfold varsR;rw[if_pos rfl,ht];exact hput') (by exact⟨rfl,rfl,rfl,rfl,rfl,trivial⟩) rfl (List.Sublist.refl _)
  have y4:decide ((0:Int)<(sk.length:Int))=true:=decide_eq_true (by omega)
  obtain⟨z,hz⟩:∃z,sk[sk.length - 1]? =some z:=⟨_,List.getElem?_eq_getElem (by omega)⟩
  have ht:topS ⟨sr,false,sv,sk⟩=z:=by
   show(sk[sk.length - 1]?).getD 0=z
   rw[hz];rfl
  obtain⟨zb,zo,rfl,hzc⟩:=hS.stack.at hz
  have hzc':=hzc.mono hg1
  have y5:IntKind.i64.wrap ((sk.length:Int) - 1)=((sk.length - 1:Nat):Int):=by
   have e:=wrapI (x:=(sk.length:Int) - 1) (by omega) (by omega)
   rw[e];omega
  have z0:(0:Int)≤((sk.length - 1:Nat):Int):=by omega
  have z1:((sk.length - 1:Nat):Int)<(sk.length:Int):=by omega
  obtain⟨_,hfit2,hput2⟩:=IVec.put hput (i:=0+((n:Nat):Int).toNat*1) (by rw[List.length_set];omega) z
  have hble2:Nat.ble (0+((n:Nat):Int).toNat*1+1) (splice xc (0+((n:Nat):Int).toNat*1) [.int .i64 0]).size=true:=Nat.ble_eq_true_of_le (by omega)
  have hput2':Vec 44 1 (some ⟨xb,0,none⟩) sv.length c1 (ints (sv.set n z)) (.blk xb (.cells (splice (splice xc (0+((n:Nat):Int).toNat*1) [.int .i64 0]) (0+((n:Nat):Int).toNat*1) [.int .i64 z]) 44 (0,0))):=by
   have h:=hput2
   unfold IVec at h
   rw[List.set_set,List.length_set]at h
   rwa [hn0]at h⊢
  refine go ?_
  refine WC.draw mixed ?_
  refine za.fa 0 ?_
  refine za.fa 2 ?_
  refine za.fa 4 ?_
  refine za.fa 6 ?_
  refine za.ld 7 ?_
  refine za.len 8 ?_
  refine WA.pp 9 rfl (Gp.sub' rfl rfl y5) ?_
  refine za.ld 1 ?_
  refine za.ld 3 ?_
  refine za.ld 5 ?_
  refine za.ix 10 ?_
  refine WA.vv 11 rfl (Gv.loadG1 (i:=0) rfl hzc' rfl) ?_
  refine za.ix 12 ?_
  refine WA.oo 13 rfl (OW.store (n:=1) (cs:=[.int .i64 z]) rfl rfl atA rfl rfl rfl hble2 rfl ?_ rfl)
  refine WA.done kr ?_
  refine WK.un ?_
  refine WK.pick [.blk xb (.cells (splice (splice xc (0+((n:Nat):Int).toNat*1) [.int .i64 0]) (0+((n:Nat):Int).toNat*1) [.int .i64 z]) 44 (0,0)),x2, .blk b4 (.cells #[.bool sr, .bool false, .slice (some ⟨xb,0,none⟩) sv.length c1, .slice A2 sk.length c2] 203 (0,0)), .blk b2 (.cells #[.bool sr, .bool false, .slice VA sv.length vc, .slice (some ⟨zb,zo,none⟩) sk.length sc] 203 (0,0)), .blk b3 (.cells #[.bool false, .bool false, .slice none 0 0, .slice none 0 0] 203 (0,0))] ?_
  exact WK.meet (.blk xb (.cells (splice (splice xc (0+((n:Nat):Int).toNat*1) [.int .i64 0]) (0+((n:Nat):Int).toNat*1) [.int .i64 z]) 44 (0,0))) (by unfold varsR;rw[if_pos rfl,ht];exact hput2') (by exact⟨rfl,rfl,rfl,rfl,rfl,trivial⟩) rfl (List.Sublist.refl _)
 have hx1v:TVec A1 (varsR (c,(n:Int)) ⟨sr,su,sv,sk⟩) c1 o:=by unfold TVec IVec;rw[hvl];exact hx1'
 by_cases hb:badS w (c,(n:Int)) ⟨sr,su,sv,sk⟩
 ·have he1:behR w (c,(n:Int)) ⟨sr,su,sv,sk⟩=⟨sr,true,varsR (c,(n:Int)) ⟨sr,su,sv,sk⟩,[]⟩:=by unfold behR;rw[if_pos hb]
  rw[he1]
  have hb':su=true∨(sk.length<tk∨128<sk.length - tk+ly.length):=by unfold badS at hb;rw[htke,hlye];exact hb
  have y6:su=false→decide ((sk.length:Int) - (tk:Int)<0)=decide (sk.length<tk):=fun _=>by
   by_cases h:sk.length<tk
   ·rw[decide_eq_true h,decide_eq_true (by omega)]
   ·rw[decide_eq_false h,decide_eq_false (by omega)]
  cases su with
  | true=>
   refine gom ?_
   refine WC.frozenVec hx1v .here fun G3 h3 z3=>?_
   refine WC.rt ?_
   exact QF.p1 (.inl rfl) rfl (.cell rfl inferInstance inferInstance atA rfl rfl) (⟨A1,c1,none,0,by show _=Ending.returned (.agg #[.bool sr, .bool true, .slice A1 (varsR (c,(n:Int)) ⟨sr,true,sv,sk⟩).length c1, .slice none 0 0]);rw[hvl];first | done | rfl,Gh.le_trans hg1 h3,⟨hx1v.le,Nat.le_refl _,IVec.sl z3,Sl.nil _ _ _⟩,rfl⟩)
  | false=>
  by_cases h1:sk.length<tk
  ·have y7:decide ((sk.length:Int) - (tk:Int)<0)=true:=decide_eq_true (by omega)
   refine gom ?_
   refine WC.frozenVec hx1v .here fun G3 h3 z3=>?_
   refine WC.rt ?_
   exact QF.p1 (.inl rfl) rfl (.cell rfl inferInstance inferInstance atA rfl rfl) (⟨A1,c1,none,0,by show _=Ending.returned (.agg #[.bool sr, .bool true, .slice A1 (varsR (c,(n:Int)) ⟨sr,false,sv,sk⟩).length c1, .slice none 0 0]);rw[hvl];first | done | rfl,Gh.le_trans hg1 h3,⟨hx1v.le,Nat.le_refl _,IVec.sl z3,Sl.nil _ _ _⟩,rfl⟩)
  ·have y7:decide ((sk.length:Int) - (tk:Int)<0)=false:=decide_eq_false (by omega)
   have h2:128<sk.length - tk+ly.length:=by
    rcases hb' with h | h | h
    ·cases h
    ·exact absurd h h1
    ·exact h
   have y8:IntKind.i64.wrap ((sk.length:Int) - (tk:Int)+(ly.length:Int))=(sk.length:Int) - (tk:Int)+(ly.length:Int):=wrapI (by omega) (by omega)
   have y9:decide ((128:Int)<(sk.length:Int) - (tk:Int)+(ly.length:Int))=true:=decide_eq_true (by omega)
   refine gom ?_
   refine WC.frozenVec hx1v .here fun G3 h3 z3=>?_
   refine WC.rt ?_
   exact QF.p1 (.inl rfl) rfl (.cell rfl inferInstance inferInstance atA rfl rfl) (⟨A1,c1,none,0,by show _=Ending.returned (.agg #[.bool sr, .bool true, .slice A1 (varsR (c,(n:Int)) ⟨sr,false,sv,sk⟩).length c1, .slice none 0 0]);rw[hvl];first | done | rfl,Gh.le_trans hg1 h3,⟨hx1v.le,Nat.le_refl _,IVec.sl z3,Sl.nil _ _ _⟩,rfl⟩)
 ·have he1:behR w (c,(n:Int)) ⟨sr,su,sv,sk⟩=⟨sr,false,varsR (c,(n:Int)) ⟨sr,su,sv,sk⟩,sk.take (sk.length - tk)++ly⟩:=by unfold behR;rw[if_neg hb,htke,hlye]
  have hb':¬(su=true∨(sk.length<tk∨128<sk.length - tk+ly.length)):=by unfold badS at hb;rw[htke,hlye];exact hb
  rw[he1]
  have hus:su=false:=by cases h:su with | false=>rfl | true=>exact absurd (.inl h) hb'
  subst hus
  have h1:¬sk.length<tk:=fun h=>hb' (.inr (.inl h))
  have h2:¬128<sk.length - tk+ly.length:=fun h=>hb' (.inr (.inr h))
  have y7:decide ((sk.length:Int) - (tk:Int)<0)=false:=decide_eq_false (by omega)
  have y8:IntKind.i64.wrap ((sk.length:Int) - (tk:Int)+(ly.length:Int))=(sk.length:Int) - (tk:Int)+(ly.length:Int):=wrapI (by omega) (by omega)
  have y9:decide ((128:Int)<(sk.length:Int) - (tk:Int)+(ly.length:Int))=false:=decide_eq_false (by omega)
  have hcap:=hx2.le
  refine gom ?_
  refine WL.pp (Gp.sliceTo rfl rfl (by omega) (by omega)) ?_
  have e5:((sk.length:Int) - (tk:Int)).toNat=sk.length - tk:=by omega
  rw[e5]
  refine gom ?_
  have hcut:=Vec.cut (m:=sk.length - tk) hx2 (by omega)
  have hln:ints (sk.take (sk.length - tk)++ly)=(ints sk).take ((sk.length - tk)*1)++ints ly:=by rw[ints_append,ints_take,Nat.mul_one]
  have hle:(sk.take (sk.length - tk)++ly).length=sk.length - tk+ly.length:=by rw[List.length_append,List.length_take];omega
  refine WL.oo (OW.append rfl rfl kr kr hcut atA hs1.ints (ints_length _) (ints_one _) (by omega) (by omega) rfl fun A3 c3 o3 hv3=>?_)
  refine gom ?_
  rw[←hln]at hv3
  refine WC.frozenVec hx1v .here fun G3 h3 z3=>?_
  refine WC.frozenVec hv3 .here fun G4 h4 z4=>?_
  refine WC.rt ?_
  exact QF.p1 (.inl rfl) rfl (.cell rfl inferInstance inferInstance atA rfl rfl) (⟨A1,c1,A3,c3,by show _=Ending.returned (.agg #[.bool sr, .bool false, .slice A1 (varsR (c,(n:Int)) ⟨sr,false,sv,sk⟩).length c1, .slice A3 (sk.take (sk.length - tk)++ly).length c3]);rw[hvl,hle];first | done | rfl,Gh.le_trans hg1 (Gh.le_trans h3 h4),⟨hx1v.le,by rw[hle];exact hv3.le,(IVec.sl z3).mono h4,IVec.sl z4⟩,rfl⟩)
end
end
section
open Go.MapKept
attribute [local irreducible] Tryz.prog
instance embI:Emb (fun n:Int=>Value.int .i64 n) (.int .i64):=⟨fun h=>by cases h;rfl,fun a=>rfl⟩
instance embS:Emb (fun s:ByteArray=>Value.string s) .string:=⟨fun h=>by cases h;rfl,fun a=>trivial⟩
def KV {α:Type} (k:Kd α) (G:Gh) (l:List α) (cs:List Value):Prop:=cs.length=l.length*k.n∧∀i x,l[i]? =some x→k.K G x ((cs.drop (i*k.n)).take k.n)
theorem KV.mono {α:Type} {k:Kd α} {G G':Gh} {l:List α} {cs:List Value} (h:KV k G l cs) (hg:G.le G'):KV k G' l cs:=⟨h.1,fun i x hx=>k.mono hg (h.2 i x hx)⟩
theorem KV.sl {α:Type} {k:Kd α} {G:Gh} {l:List α} {A:Option Addr} {cs:List Value} (h:KV k G l cs) (hn:0<k.n) (hz:cs=[]∨∃b,A=some ⟨b,0,none⟩∧Cs G b 0 cs):Sl k G A l:=Sl.ofCs hz h.1 hn h.2
theorem KV.nil {α:Type} (k:Kd α) (G:Gh):KV k G [] []:=⟨by simp,fun i x h=>by simp at h⟩
theorem KV.rep {α:Type} {k:Kd α} {G:Gh} {x:α} {z:List Value} (hk:k.K G x z):∀m,KV k G (List.replicate m x) (repS m z)
 | 0=>KV.nil k G
 | m+1=>by
  have hz:=k.len hk
  have ih:=KV.rep hk m
  refine⟨by rw[repS_length,hz];simp,fun i y hy=>?_⟩
  have hy':y=x:=by
   have:=List.mem_of_getElem? hy
   exact(List.mem_replicate.1 this).2
  subst hy'
  cases i with
  | zero=>simp only[repS,Nat.zero_mul,List.drop_zero];rw[←hz,List.take_left];exact hk
  | succ i=>
   have hi:=(List.getElem?_eq_some_iff.1 hy).1
   have h2:=ih.2 i y (by rw[List.getElem?_replicate,if_pos (by simpa using hi)])
   simp only[repS]
   rw[List.drop_append,List.drop_eq_nil_of_le (by rw[hz,Nat.add_mul];omega),List.nil_append,hz,show(i+1)*k.n - k.n=i*k.n by rw[Nat.add_mul];omega]
   exact h2
theorem KV.set {α:Type} {k:Kd α} {G:Gh} {l:List α} {cs es:List Value} {x:α} (h:KV k G l cs) (hk:k.K G x es) {i:Nat} (hi:i<l.length):KV k G (l.set i x) (cs.take (i*k.n)++es++cs.drop (i*k.n+es.length)):=by
 have he:es.length=k.n:=k.len hk
 have hil:(i+1)*k.n≤l.length*k.n:=Nat.mul_le_mul_right _ hi
 rw[Nat.add_mul,Nat.one_mul]at hil
 have hcl:=h.1
 refine⟨by simp only[List.length_append,List.length_take,List.length_drop,List.length_set];omega,fun j y hy=>?_⟩
 have hj:=(List.getElem?_eq_some_iff.1 hy).1
 rw[List.length_set]at hj
 rw[List.getElem?_set]at hy
 by_cases hij:i=j
 ·subst hij
  rw[if_pos rfl,if_pos hi]at hy
  cases hy
  rw[List.append_assoc,List.drop_append,List.drop_eq_nil_of_le (by rw[List.length_take];omega),List.nil_append,List.length_take,show i*k.n - min (i*k.n) cs.length=0 by omega,List.drop_zero,←he,List.take_left]
  exact hk
 ·rw [if_neg hij]at hy
  have h2:=h.2 j y hy
  have e:((cs.take (i*k.n)++es++cs.drop (i*k.n+es.length)).drop (j*k.n)).take k.n=(cs.drop (j*k.n)).take k.n:=by
   apply List.ext_getElem?
   intro m
   rw[List.getElem?_take,List.getElem?_take]
   split
   ·rename_i hm
    rw[List.getElem?_drop,List.getElem?_drop]
    rcases Nat.lt_or_gt_of_ne hij with h3 | h3
    ·have h4:(i+1)*k.n≤j*k.n:=Nat.mul_le_mul_right _ h3
     rw[Nat.add_mul,Nat.one_mul]at h4
     rw[List.getElem?_append_right (by rw[List.length_append,List.length_take];omega),List.getElem?_drop]
     congr 1
     rw[List.length_append,List.length_take];omega
    ·have h4:(j+1)*k.n≤i*k.n:=Nat.mul_le_mul_right _ h3
     rw[Nat.add_mul,Nat.one_mul]at h4
     rw[List.getElem?_append_left (by rw[List.length_append,List.length_take];omega),List.getElem?_append_left (by rw[List.length_take];omega),List.getElem?_take,if_pos (by omega)]
   ·rfl
  rw[e];exact h2
abbrev SVec (A:Option Addr) (n cap:Nat) (cs:List Value) (x:Own):Prop:=Vec 203 4 A n cap cs x
theorem Kd.ss_rep {G:Gh} {s:SS} {es:List Value} (h:Kd.ss.K G s es):∃VA vc SA sc,es=[.bool s.reached, .bool s.unlike, .slice VA s.vars.length vc, .slice SA s.stack.length sc]∧SRep G s VA vc SA sc:=by
 obtain⟨VA,vc,SA,sc,h1,⟨h2,h3⟩,h4,h5⟩:=h
 exact⟨VA,vc,SA,sc,h1,h2,h3,h4,h5⟩
theorem SRep.kd {G:Gh} {s:SS} {VA:Option Addr} {vc:Nat} {SA:Option Addr} {sc:Nat} (h:SRep G s VA vc SA sc):Kd.ss.K G s [.bool s.reached, .bool s.unlike, .slice VA s.vars.length vc, .slice SA s.stack.length sc]:=
 ⟨VA,vc,SA,sc,rfl,⟨h.hv,h.hs⟩,h.vars,h.stack⟩
theorem ints_rep (n:Nat):repS n [Value.int .i64 0]=ints (List.replicate n 0):=by
 induction n with
 | zero=>rfl
 | succ n ih=>simp only[repS,ih,List.replicate_succ];rfl
theorem ints_drop (l:List Int) (n:Nat):ints (l.drop n)=(ints l).drop n:=by rw[ints,ints,List.map_drop]
theorem mem_setA {m:List (Int×Value)} {k x:Int} {v:Value} :x∈(setA m k v).map (·.1)↔x∈m.map (·.1)∨x=k:=by
 unfold setA
 split
 ·rename_i h
  rw[keys_set]
  exact⟨.inl,fun h'=>h'.elim id fun e=>by rw[e];exact h⟩
 ·simp
theorem length_setA {m:List (Int×Value)} {k:Int} {v:Value} :(setA m k v).length≤m.length+1:=by
 unfold setA
 split<;>simp
theorem mem_delA {m:List (Int×Value)} {k x:Int} :x∈(delA m k).map (·.1)↔x∈m.map (·.1)∧x≠k:=by
 unfold delA
 simp only[List.mem_map,List.mem_filter,decide_eq_true_eq]
 constructor
 ·rintro ⟨p,⟨h1,h2⟩,rfl⟩;exact⟨⟨p,h1,rfl⟩,h2⟩
 ·rintro ⟨⟨p,h1,rfl⟩,h2⟩;exact⟨p,⟨h1,h2⟩,rfl⟩
theorem length_delA {m:List (Int×Value)} {k:Int} (h:k∈m.map (·.1)):(delA m k).length<m.length:=by
 obtain⟨p,hp,rfl⟩:=List.mem_map.1 h
 unfold delA
 exact List.length_filter_lt_length_iff_exists.2 ⟨p,hp,by simp⟩
theorem nextR_nonneg {c:Int} {n k:Nat} {x:Int} (h:x∈nextR (c,(n:Int)) k):0≤x:=by
 unfold nextR at h
 split at h
 ·simp at h
 ·split at h
  ·simp at h;omega
  ·split at h
   ·simp at h;omega
   ·simp at h;omega
theorem Vec.isBlk {T sz n cap:Nat} {A:Option Addr} {cs:List Value} {x:Own} (h:Vec T sz A n cap cs x) (hn:0<n):∃b c,A=some ⟨b,0,none⟩∧x= .blk b (.cells c T (0,0)):=by
 obtain⟨_,⟨_,h,_⟩ | ⟨b,c,h1,h2,_⟩⟩:=h
 ·omega
 ·exact⟨b,c,h1,h2⟩
section
variable {P:Program} {Q:Exit→Act→World→Prop} {cx:Cx} {L:List (Nat×Value)} {G:Gh} {H:List Own}
theorem WK.freezeC {K:Act→World→Prop} {j b:Nat} {c:Array Value} {T:TypeId} {cs:List Value} (hj:At H j (.blk b (.cells c T (0,0)))) (hc:c.toList=cs) (h:∀G',G.le G'→Cs G' b 0 cs→WK K cx L G' (H.eraseIdx j)):WK K cx L G H:=
 WK.freeze hj fun hg=>h _ hg fun i v e=>by rw[Nat.zero_add,Gh.add_at,←Array.getElem?_toList,hc];exact e
theorem WC.freezeC {c0:Code} {j b:Nat} {c:Array Value} {T:TypeId} {cs:List Value} (hj:At H j (.blk b (.cells c T (0,0)))) (hc:c.toList=cs) (h:∀G',G.le G'→Cs G' b 0 cs→WC P c0 Q cx L G' (H.eraseIdx j)):WC P c0 Q cx L G H:=
 WK.freezeC (K:=c0.wp P Q) hj hc h
theorem WC.joinG {x y:Code} {X:Type} (Lf:X→List (Nat×Value)) (Gf:X→Gh) (Hf:X→List Own) (ok:X→Prop)
  (h:WC P x (Exit.then (fun a w=>∃t,ok t∧St cx (Lf t) (Gf t) (Hf t) a w) Q) cx L G H) (hy:∀t,ok t→WC P y Q cx (Lf t) (Gf t) (Hf t)):WC P x (Exit.then (y.wp P Q) Q) cx L G H:=
 fun a w st=>Code.wp_mono (fun e a w q=>by cases e<;>first | exact(let ⟨t,ht,h⟩:=q;hy t ht a w h) | exact q) (h a w st)
end
structure POk (w:Wd) (p:Pr):Prop where
 par:(p.params.length:Int)≤p.locals
 loc:p.locals≤64
 pos:0<p.code.length
 few:p.code.length≤16384
 ins:∀(k:Nat) (i:Int×Int),p.code[k]? =some i→0≤i.2∧EOk w p.locals.toNat i.1 i.2.toNat
end
section
open Go.MapKept
attribute [local irreducible] Tryz.prog
structure FL where
 l:List SS
 m:List (Int×Value)
 G:Gh
 cs:List Value
 c:Array Value
 es:Array MapEntry
 ck:Nat
abbrev prC (p:Pr) (QA:Option Addr) (qc:Nat) (IA:Option Addr) (ic:Nat):Array Value:= #[.string p.name, .bool p.exp, .slice QA p.params.length qc, .int .i64 p.locals, .int .i64 p.result, .slice IA p.code.length ic]
abbrev prB (b:Nat) (p:Pr) (QA:Option Addr) (qc:Nat) (IA:Option Addr) (ic:Nat):Own:= .blk b (.cells (prC p QA qc IA ic) 47 (0,0))
section
variable (G:Gh) (w:Wd) (p:Pr) (bw:Nat) (CA NA PA:Option Addr) (cc nc pc:Nat) (QA IA:Option Addr) (qc ic:Nat) (hW:WRep G w bw CA NA PA cc nc pc) (hQ:Sl (Kd.int .i64) G QA p.params) (hI:Sl Kd.ins G IA p.code) (hp:POk w p)
include hW hQ hI hp
theorem flow_fn:
  Fn Tryz.prog 91 #[.pointer (some ⟨bw,0,none⟩), .agg (prC p QA qc IA ic)] G []
   fun e G' H'=>∃bf TA tc l,e= .returned (.pointer (some ⟨bf,0,none⟩))∧G.le G'∧FRep G' p bf bw QA IA qc ic TA l.length tc∧Sl Kd.ss G' TA l∧l.length≤tc∧Least w p l∧H'=[]:=by
 have hfew:=hp.few
 have hpos:=hp.pos
 have hpar:=hp.par
 have hloc:=hp.loc
 refine Fn.enter Tryz.func91 rfl rfl fun w0=>?_
 refine WC.seq ?_
 refine WC.region ?_
 refine WL.oo (OW.box rfl rfl fun b3=>?_)
 refine zw.assign ?_
 refine WL.nil ?_
 refine WK.un ?_
 refine WC.seq ?_
 refine WC.drawS (Hs:=[prB b3 p QA qc IA ic]) mixed pkA ?_
 refine zb.move 0 ?_
 refine zb.fa 2 ?_
 refine zb.ld 3 ?_
 refine zb.len 4 ?_
 refine zb.ld 1 ?_
 refine WB.oo 5 rfl (OW.makeSlice (n:=4) (z:= .agg #[.bool false, .bool false, .slice none 0 0, .slice none 0 0]) rfl rfl rfl (by omega) (by omega) (by omega) rfl fun tb o1 ho1=>?_)
 rw[Int.toNat_natCast]at ho1⊢
 refine⟨fun w hw=>hw.pk pkA,?_⟩
 refine zb.build 6 ?_
 refine WB.oo 7 rfl (OW.box rfl rfl fun b5=>?_)
 refine⟨fun w hw=>hw.pk pkA,?_⟩
 refine zb.assign 8 ?_
 refine WB.done kr ?_
 refine WK.un ?_
 refine WC.pick [.blk b5 (.cells #[.pointer (some ⟨bw,0,none⟩), .string p.name, .bool p.exp, .slice QA p.params.length qc, .int .i64 p.locals, .int .i64 p.result, .slice IA p.code.length ic, .slice (some ⟨tb,0,none⟩) p.code.length p.code.length] 201 (0,0)),o1,prB b3 p QA qc IA ic] ?_
 refine WC.freezeC .here rfl fun G1 hg1 hf1=>?_
 have hF:FRep G1 p b5 bw QA IA qc ic (some ⟨tb,0,none⟩) p.code.length p.code.length:=⟨hf1,hQ.mono hg1,hI.mono hg1⟩
 refine WC.seq ?_
 refine WC.region ?_
 refine zw.fa ?_
 refine zw.ld ?_
 refine WL.oo (OW.makeSlice (n:=1) (z:= .int .i64 0) rfl rfl rfl (by omega) (by omega) (by omega) rfl fun vb o2 ho2=>?_)
 refine zw.build ?_
 refine WL.oo (OW.alloc rfl fun b6=>?_)
 refine zw.st ?_
 refine WL.nil ?_
 refine WK.un ?_
 refine WC.seq ?_
 refine WC.region ?_
 refine zw.fa ?_
 refine zw.ld ?_
 refine zw.fa ?_
 refine zw.ld ?_
 refine WL.oo (OW.copy rfl rfl kr ho2 atA (hF.params.ints) (ints_length _) (ints_one _) (by omega) rfl fun o3 ho3=>?_)
 refine WL.nil ?_
 refine WK.un ?_
 have hbl:(beginS p).vars.length=p.locals.toNat:=by simp[beginS];omega
 have hb3:ints p.params++(repS p.locals.toNat (Value.int .i64 0).cells.toList).drop (p.params.length*1)=ints (beginS p).vars:=by
  rw[show(Value.int .i64 0).cells.toList=[Value.int .i64 0]from rfl,ints_rep,←ints_drop,←ints_append,Nat.mul_one,List.drop_replicate];rfl
 rw[hb3]at ho3
 refine WC.frozenVec ho3 atA fun G2 hg2 z2=>?_
 have hbs:Sl (Kd.int .i64) G2 (some ⟨vb,0,none⟩) (beginS p).vars:=IVec.sl z2
 have hbR:SRep G2 (beginS p) (some ⟨vb,0,none⟩) p.locals.toNat none 0:=⟨by omega,Nat.le_refl _,hbs,Sl.nil _ _ _⟩
 obtain⟨xb,xc,hxb,rfl⟩:=ho1.isBlk hpos
 obtain rfl:tb=xb:=by cases hxb;rfl
 have hF2:=hF.mono hg2
 have hfc:=hF2.cells
 obtain⟨_,hfit1,hput1⟩:=Vec.put (i:=0) ho1 hpos [.bool true, .bool false, .slice (some ⟨vb,0,none⟩) p.locals.toNat p.locals.toNat, .slice none 0 0] rfl
 have hble1:Nat.ble (0+(0:Int).toNat*4+4) xc.size=true:=Nat.ble_eq_true_of_le hfit1
 have x0:(0:Int)<(p.code.length:Int):=by omega
 refine gom ?_
 refine WQ.one kr kr (OW.store (n:=4) (cs:=[.bool true, .bool false, .slice (some ⟨vb,0,none⟩) p.locals.toNat p.locals.toNat, .slice none 0 0]) rfl rfl atA rfl rfl rfl hble1 rfl ?_ rfl)
 refine gom ?_
 refine WL.oo (OW.makeMap rfl fun bm=>?_)
 refine WL.oo (OW.insert (emb:=fun n:Int=>Value.int .i64 n) (key:=0) (v:= .int .i64 1) rfl rfl rfl atA MRel.empty rfl fun es1 ck1 hm1=>?_)
 refine gom ?_
 have hkv0:KV Kd.ss G2 ((List.replicate p.code.length ss0).set 0 (beginS p)) ((repS p.code.length (Value.agg #[.bool false, .bool false, .slice none 0 0, .slice none 0 0]).cells.toList).take (0*4)++[.bool true, .bool false, .slice (some ⟨vb,0,none⟩) p.locals.toNat p.locals.toNat, .slice none 0 0]++(repS p.code.length (Value.agg #[.bool false, .bool false, .slice none 0 0, .slice none 0 0]).cells.toList).drop (0*4+ [Value.bool true, .bool false, .slice (some ⟨vb,0,none⟩) p.locals.toNat p.locals.toNat, .slice none 0 0].length)):=by
  refine KV.set (k:=Kd.ss) (KV.rep (k:=Kd.ss) (x:=ss0) ⟨none,0,none,0,rfl,⟨Nat.le_refl _,Nat.le_refl _⟩,Sl.nil _ _ _,Sl.nil _ _ _⟩ _) ?_ (by simpa using hpos)
  have h:=hbR.kd
  rw[hbl]at h
  exact h
 refine WC.pick [.blk tb (.cells _ 203 (0,0)), .blk bm (.map es1 ck1),prB b3 p QA qc IA ic] ?_
 refine WC.loop (X:=FL) (fun x=>[(3, .pointer (some ⟨b3,0,none⟩)),(5, .pointer (some ⟨b5,0,none⟩)),(7, .map (some bm))]) (fun x=>x.G) (fun x=>[.blk tb (.cells x.c 203 (0,0)), .blk bm (.map x.es x.ck),prB b3 p QA qc IA ic]) (fun x=>2*sumW p.locals.toNat x.l+x.m.length)
  (fun x=>FInv w p x.l (x.m.map (·.1))∧MRel (fun n:Int=>Value.int .i64 n) (.int .i64) x.es x.ck x.m∧SVec (some ⟨tb,0,none⟩) p.code.length p.code.length x.cs (.blk tb (.cells x.c 203 (0,0)))∧KV Kd.ss x.G x.l x.cs∧G2.le x.G)
  ⟨(List.replicate p.code.length ss0).set 0 (beginS p),[(0, .int .i64 1)],G2,_,_,es1,ck1⟩ ⟨FInv.first hpar hpos,hm1,hput1,hkv0,Gh.le_refl _⟩ (by exact⟨rfl,rfl,rfl,trivial⟩) rfl (List.Sublist.refl _) fun x hx=>?_
 obtain⟨l,m,G3,cs,c,es,ck⟩:=x
 obtain⟨hinv,hmr,hsv,hkv,hg3⟩:=hx
 dsimp only at hinv hmr hsv hkv hg3
 have hll:=hinv.len
 have hF3:=hF2.mono hg3
 have hfc3:=hF3.cells
 refine WC.seq ?_
 refine WC.seq ?_
 refine WC.region ?_
 refine zw.move ?_
 refine WL.vv (Gv.lenMap (emb:=fun n:Int=>Value.int .i64 n) rfl atA hmr) ?_
 by_cases hm0:m.length=0
 ·have y0:decide ((0:Int)<(m.length:Int))=false:=decide_eq_false (by omega)
  refine gom ?_
  refine WC.frozenVec hsv .here fun G4 hg4 z4=>?_
  have hm00:m=[]:=List.eq_nil_of_length_eq_zero hm0
  subst hm00
  refine WC.rt ?_
  exact QF.p1 (.inl rfl) rfl (.tmp rfl) (⟨b5,some ⟨tb,0,none⟩,p.code.length,l,rfl,Gh.le_trans hg1 (Gh.le_trans hg2 (Gh.le_trans hg3 hg4)),by rw[hll];exact hF3.mono hg4,(hkv.mono hg4).sl (by decide) z4,by omega,hinv.least,rfl⟩)
 have y0:decide ((0:Int)<(m.length:Int))=true:=decide_eq_true (by omega)
 refine gom ?_
 refine WL.oo (OW.rangeMap (emb:=fun n:Int=>Value.int .i64 n) rfl atA hmr rfl fun it hir=>?_)
 refine gom ?_
 refine WC.loop (X:=Int×Array Nat×List (Int×Value)) (fun x=>[(3, .pointer (some ⟨b3,0,none⟩)),(5, .pointer (some ⟨b5,0,none⟩)),(7, .map (some bm)),(8, .int .i64 x.1),(46, .pointer (some ⟨it,0,none⟩))]) (fun x=>G3)
  (fun x=>[.blk it (.mapIter (some bm) ck x.2.1 ck), .blk tb (.cells c 203 (0,0)), .blk bm (.map es ck),prB b3 p QA qc IA ic]) (fun x=>x.2.2.length)
  (fun x=>IRel (fun n:Int=>Value.int .i64 n) es x.2.1 x.2.2∧(∀q∈m,q∈x.2.2∨x.1≤q.1)∧(x.1=p.code.length∨x.1∈m.map (·.1))∧∀q∈x.2.2,q∈m)
  ((p.code.length:Int), #[],m) ⟨hir,fun q hq=> .inl hq, .inl rfl,fun q hq=>hq⟩ (by exact⟨rfl,rfl,rfl,rfl,rfl,trivial⟩) rfl (List.Sublist.refl _) fun x hx=>?_
 obtain⟨cur,seen,rem⟩:=x
 obtain⟨hir2,hlow,hcur,hsub⟩:=hx
 dsimp only at hir2 hlow hcur hsub
 refine WC.seq ?_
 refine WC.region ?_
 refine WL.oo (OW.next (emb:=fun n:Int=>Value.int .i64 n) rfl atA atA hmr hir2 rfl (fun h0=>?_) (fun q hq e he hek hev hir3=>?_))
 rotate_left
 ·
  refine gom ?_
  refine WL.vv (Gv.entry (emb:=fun n:Int=>Value.int .i64 n) rfl atA atA hmr he hek hev) ?_
  refine gom ?_
  refine WL.pp (Gp.minI rfl rfl rfl) ?_
  refine gom ?_
  have hok:∀q'∈m,q'∈delA rem q.1∨(if q.1<cur then q.1 else cur)≤q'.1:=fun q' hq'=>by
   rcases hlow q' hq' with h | h
   ·by_cases hqq:q'.1=q.1
    ·right;split<;>omega
    ·left;unfold delA;exact List.mem_filter.2 ⟨h,by simpa using hqq⟩
   ·right;split<;>omega
  have hok2:(if q.1<cur then q.1 else cur)=p.code.length∨(if q.1<cur then q.1 else cur)∈m.map (·.1):=by
   split
   ·right;exact List.mem_map.2 ⟨q,hsub q hq,rfl⟩
   ·exact hcur
  have hok3:∀q'∈delA rem q.1,q'∈m:=fun q' hq'=>by unfold delA at hq';exact hsub q' (List.mem_filter.1 hq').1
  have hlt:=length_delA (List.mem_map.2 ⟨q,hq,rfl⟩)
  exact WK.again ((if q.1<cur then q.1 else cur),seen.push e.born,delA rem q.1) (by dsimp only;exact hlt) ⟨hir3,hok,hok2,hok3⟩ (by exact⟨rfl,rfl,rfl,rfl,rfl,trivial⟩) rfl (List.Sublist.refl _)
 subst h0
 obtain⟨q0,hq0⟩:∃q,q∈m:=List.exists_mem_of_length_pos (by omega)
 have hcm:cur∈m.map (·.1):=by
  refine hcur.resolve_left fun hc=>?_
  obtain⟨k,s,h1,h2,_⟩:=hinv.todo q0.1 (List.mem_map.2 ⟨q0,hq0,rfl⟩)
  have h3:=(List.getElem?_eq_some_iff.1 h2).1
  have h4:=(hlow q0 hq0).resolve_left (by simp)
  omega
 obtain⟨kq,s0,hck,hs0,hr0⟩:=hinv.todo cur hcm
 subst hck
 have hkq:=(List.getElem?_eq_some_iff.1 hs0).1
 obtain⟨i,hi⟩:∃i,p.code[kq]? =some i:=⟨_,List.getElem?_eq_getElem (by omega)⟩
 obtain⟨hi0,hiE⟩:=hp.ins kq i hi
 obtain⟨ic1,in1⟩:=i
 obtain⟨nn,rfl⟩:∃nn:Nat,in1=nn:=⟨in1.toNat,by dsimp only at hi0;omega⟩
 dsimp only at hiE
 rw[Int.toNat_natCast]at hiE
 have hw0:=hinv.wf s0 (List.mem_of_getElem? hs0)
 have hv0:=hw0.vars hr0
 obtain⟨VA,vc,SA,sc,hes0,hS0⟩:=Kd.ss_rep (hkv.2 kq s0 hs0)
 have hst0:=hw0.high
 obtain⟨ib,io,ics,rfl,hik,hic⟩:=hI kq _ hi
 obtain rfl:ics=[.int .i64 ic1, .int .i64 nn]:=hik
 have hic3:=hic.mono (Gh.le_trans hg1 (Gh.le_trans hg2 hg3))
 refine gom ?_
 refine WL.oo (OW.mapDel (emb:=fun n:Int=>Value.int .i64 n) rfl rfl atA hmr rfl fun es2 ck2 hmr2=>?_)
 refine go ?_
 obtain⟨sB,hsB⟩:∃sB,sB=behR w (ic1,(nn:Int)) s0:=⟨_,rfl⟩
 have hwB:sB.wf p.locals.toNat:=by rw[hsB];exact behR_wf hw0 hr0
 have hrB:sB.reached=true:=by rw[hsB,behR_reached];exact hr0
 have hin:=hinv.into (T':=(delA m (kq:Int)).map (·.1)) hcm hi hs0 (fun x hx=>(mem_delA.1 hx).1) (fun x hx hne=>mem_delA.2 ⟨hx,hne⟩)
 have hμ:2*sumW p.locals.toNat l+(delA m (kq:Int)).length<2*sumW p.locals.toNat l+m.length:=by have:=length_delA hcm;omega
 have hWG:=hW.mono (Gh.le_trans hg1 (Gh.le_trans hg2 hg3))
 refine WC.joinG (X:=Gh×Option Addr×Nat×Option Addr×Nat×Nat) (fun t=>[(3, .pointer (some ⟨b3,0,none⟩)),(5, .pointer (some ⟨b5,0,none⟩)),(7, .map (some bm)),(8, .int .i64 kq),(10, .pointer (some ⟨t.2.2.2.2.2,0,none⟩))]) (fun t=>t.1)
  (fun t=>[.blk t.2.2.2.2.2 (.cells #[.bool sB.reached, .bool sB.unlike, .slice t.2.1 sB.vars.length t.2.2.1, .slice t.2.2.2.1 sB.stack.length t.2.2.2.2.1] 203 (0,0)), .blk tb (.cells c 203 (0,0)), .blk bm (.map es2 ck2),prB b3 p QA qc (some ⟨ib,io,none⟩) ic]) (fun t=>G3.le t.1∧SRep t.1 sB t.2.1 t.2.2.1 t.2.2.2.1 t.2.2.2.2.1) ?_ fun t ht=>?_
 ·obtain⟨rb,ro,hrr,hread⟩:=(Vec.rds hsv .here:Rds G3 [.blk tb (.cells c 203 (0,0))] (some ⟨tb,0,none⟩) cs).resolve_left (fun h=>by have h1:=hkv.1;rw[h]at h1;simp[Kd.ss]at h1;omega)
  cases hrr
  have z0:(0:Int)≤(kq:Int):=by omega
  have z1:(kq:Int)<(p.code.length:Int):=by omega
  refine WC.drawS (Hs:=[.blk tb (.cells c 203 (0,0)),prB b3 p QA qc (some ⟨ib,io,none⟩) ic]) mixed pkA ?_
  refine zb.move 0 ?_
  refine zb.fa 1 ?_
  refine zb.ld 2 ?_
  refine zb.move 3 ?_
  refine zb.ix 4 ?_
  refine WB.vv 5 rfl (Gv.loadGN rfl hic3 rfl) ?_
  refine zb.move 6 ?_
  refine zb.nil 7 ?_
  refine zb.fa 8 ?_
  refine zb.ld 9 ?_
  refine zb.move 10 ?_
  refine zb.ix 11 ?_
  refine WB.vv 12 rfl (Gv.loadRN (i:=((kq:Nat):Int).toNat*4) rfl hread (.cons_cons _ (List.nil_sublist _)) hes0 rfl) ?_
  have hbf:=behind_fn G3 w p b5 bw CA NA _ cc nc pc QA _ qc ic _ _ _ hWG hF3 s0 VA vc SA sc hS0 (by omega) (by omega) ic1 nn (by rw[hv0];exact hiE)
  rw[←hsB]at hbf
  refine WB.two (i:=13) (j:=14) kr rfl rfl kr kr (OW.callK rfl hbf rfl fun v' G' H' h hg=>?_) (OW.alloc rfl fun b10=>?_)
  ·obtain⟨V1,v1,S1,s1,he,hg4,hR4,rfl⟩:=h
   cases he
   refine⟨fun w hw=>(hw.pk pkA).le hg4,?_⟩
   refine WB.oo 14 rfl (OW.alloc rfl fun b10=>?_)
   refine⟨fun w hw=>(hw.pk pkA).le hg4,?_⟩
   refine zb.st 15 ?_
   refine⟨fun w hw=>(hw.pk pkA).le hg4,?_⟩
   refine WB.done kr ?_
   refine WK.un ?_
   refine WK.pick [.blk b10 (.cells #[.bool sB.reached, .bool sB.unlike, .slice V1 sB.vars.length v1, .slice S1 sB.stack.length s1] 203 (0,0)), .blk tb (.cells c 203 (0,0)), .blk bm (.map es2 ck2),prB b3 p QA qc (some ⟨ib,io,none⟩) ic] ?_
   exact WK.meet (G',V1,v1,S1,s1,b10) ⟨hg4,hR4⟩ (by exact⟨rfl,rfl,rfl,rfl,rfl,trivial⟩) rfl (List.Sublist.refl _)
  ·refine⟨fun w hw=>hw.pk pkA,?_⟩
   refine WB.oo 13 rfl (OW.callK rfl hbf rfl fun v' G' H' h hg=>?_)
   obtain⟨V1,v1,S1,s1,he,hg4,hR4,rfl⟩:=h
   cases he
   refine⟨fun w hw=>(hw.pk pkA).le hg4,?_⟩
   refine zb.st 15 ?_
   refine⟨fun w hw=>(hw.pk pkA).le hg4,?_⟩
   refine WB.done kr ?_
   refine WK.un ?_
   refine WK.pick [.blk b10 (.cells #[.bool sB.reached, .bool sB.unlike, .slice V1 sB.vars.length v1, .slice S1 sB.stack.length s1] 203 (0,0)), .blk tb (.cells c 203 (0,0)), .blk bm (.map es2 ck2),prB b3 p QA qc (some ⟨ib,io,none⟩) ic] ?_
   exact WK.meet (G',V1,v1,S1,s1,b10) ⟨hg4,hR4⟩ (by exact⟨rfl,rfl,rfl,rfl,rfl,trivial⟩) rfl (List.Sublist.refl _)
 obtain⟨G4,V1,v1,S1,s1,b10⟩:=t
 obtain⟨hg4,hR4⟩:=ht
 dsimp only at hg4 hR4
 have hF4:=hF3.mono hg4
 have hfc4:=hF4.cells
 have hic4:=hic3.mono hg4
 have z0:(0:Int)≤(kq:Int):=by omega
 have z1:(kq:Int)<(p.code.length:Int):=by omega
 refine gom ?_
 refine WL.oo (OW.callK rfl (next_fn _ ic1 nn kq (by omega)) rfl fun v' G' H' h hg=>?_)
 obtain⟨XA,xcap,he,hg5,hx5,rfl⟩:=h
 cases he
 obtain⟨nx,hnx⟩:∃nx,nx=nextR (ic1,(nn:Int)) kq:=⟨_,rfl⟩
 rw[←hnx]at hx5⊢
 have hnxl:nx.length≤2:=by rw[hnx];unfold nextR;split;simp;split;simp;split<;>simp
 refine gom ?_
 refine WC.pick [.blk b10 (.cells #[.bool sB.reached, .bool sB.unlike, .slice V1 sB.vars.length v1, .slice S1 sB.stack.length s1] 203 (0,0)), .blk tb (.cells c 203 (0,0)), .blk bm (.map es2 ck2),prB b3 p QA qc (some ⟨ib,io,none⟩) ic] ?_
 refine WC.loop (X:=Nat×FL) (fun x=>[(3, .pointer (some ⟨b3,0,none⟩)),(5, .pointer (some ⟨b5,0,none⟩)),(7, .map (some bm)),(10, .pointer (some ⟨b10,0,none⟩)),(76, .slice XA nx.length xcap),(77, .int .i64 nx.length),(78, .int .i64 x.1)]) (fun x=>x.2.G) (fun x=>[.blk b10 (.cells #[.bool sB.reached, .bool sB.unlike, .slice V1 sB.vars.length v1, .slice S1 sB.stack.length s1] 203 (0,0)), .blk tb (.cells x.2.c 203 (0,0)), .blk bm (.map x.2.es x.2.ck),prB b3 p QA qc (some ⟨ib,io,none⟩) ic]) (fun x=>nx.length - x.1)
  (fun x=>x.1≤nx.length∧FIn w p x.2.l (x.2.m.map (·.1)) kq (ic1,(nn:Int)) s0 ((nx.take x.1).reverse)∧MRel (fun n:Int=>Value.int .i64 n) (.int .i64) x.2.es x.2.ck x.2.m∧SVec (some ⟨tb,0,none⟩) p.code.length p.code.length x.2.cs (.blk tb (.cells x.2.c 203 (0,0)))∧KV Kd.ss x.2.G x.2.l x.2.cs∧G'.le x.2.G∧2*sumW p.locals.toNat x.2.l+x.2.m.length<2*sumW p.locals.toNat l+m.length)
  (0,⟨l,delA m (kq:Int),G',cs,c,es2,ck2⟩) ⟨Nat.zero_le _,hin,hmr2,hsv,hkv.mono (Gh.le_trans hg4 hg5),Gh.le_refl _,hμ⟩ (by exact⟨rfl,rfl,rfl,rfl,rfl,rfl,rfl,trivial⟩) rfl (List.Sublist.refl _) fun x hx=>?_
 obtain⟨j,l2,m2,G6,cs2,c2,es3,ck3⟩:=x
 obtain⟨hj,hin2,hmr3,hsv2,hkv2,hg6,hμ2⟩:=hx
 dsimp only at hj hin2 hmr3 hsv2 hkv2 hg6 hμ2
 by_cases hjl:j<nx.length
 rotate_left
 ·have y1:decide ((j:Int)<(nx.length:Int))=false:=decide_eq_false (by omega)
  have hdone:=hin2.done (fun x hx=> .inl (by rw[←hnx]at hx;rw[List.take_of_length_le (by omega)];simpa using hx))
  refine gom ?_
  refine WK.pick [.blk tb (.cells c2 203 (0,0)), .blk bm (.map es3 ck3),prB b3 p QA qc (some ⟨ib,io,none⟩) ic] ?_
  exact WK.again ⟨l2,m2,G6,cs2,c2,es3,ck3⟩ (by dsimp only;exact hμ2) ⟨hdone,hmr3,hsv2,hkv2,Gh.le_trans hg3 (Gh.le_trans hg4 (Gh.le_trans hg5 hg6))⟩ (by exact⟨rfl,rfl,rfl,trivial⟩) rfl (List.Sublist.refl _)
 have y1:decide ((j:Int)<(nx.length:Int))=true:=decide_eq_true (by omega)
 obtain⟨x,hx⟩:∃x,nx[j]? =some x:=⟨_,List.getElem?_eq_getElem hjl⟩
 have hxm:x∈nextR (ic1,(nn:Int)) kq:=by rw[←hnx];exact List.mem_of_getElem? hx
 have hx0:=nextR_nonneg hxm
 obtain⟨k,rfl⟩:∃k:Nat,x=k:=⟨x.toNat,by omega⟩
 have htake:(nx.take (j+1)).reverse=(k:Int)::(nx.take j).reverse:=by rw[List.take_add_one,hx];simp
 obtain⟨xb',xo',rfl,hxc⟩:=hx5.at hx
 have hxc6:=hxc.mono hg6
 have w0':(0:Int)≤(j:Int):=by omega
 have w1:(j:Int)<(nx.length:Int):=by omega
 have w2:=wrapS j (by omega)
 by_cases hkl:p.code.length≤k
 ·have y2:decide ((p.code.length:Int)≤(k:Int))=true:=decide_eq_true (by omega)
  refine gom ?_
  exact WK.again (j+1,⟨l2,m2,G6,cs2,c2,es3,ck3⟩) (by dsimp only;omega) ⟨by dsimp only;omega,by dsimp only;rw[htake];exact hin2.pass (by omega),hmr3,hsv2,hkv2,hg6,hμ2⟩ (by exact⟨rfl,rfl,rfl,rfl,rfl,rfl,rfl,trivial⟩) rfl (List.Sublist.refl _)
 have y2:decide ((p.code.length:Int)≤(k:Int))=false:=decide_eq_false (by omega)
 have hl2:=hin2.len
 obtain⟨s,hs⟩:∃s,l2[k]? =some s:=⟨_,List.getElem?_eq_getElem (by omega)⟩
 have hws:=hin2.wf s (List.mem_of_getElem? hs)
 have hvs:s.vars.length≤1000:=by
  cases hr:s.reached with
  | false=>rw[hws.bare hr];simp
  | true=>rw[hws.vars hr];omega
 have hks:=hws.high
 obtain⟨VK,vk,SK,sk,hesk,hSk⟩:=Kd.ss_rep (hkv2.2 k s hs)
 have hF6:=hF4.mono (Gh.le_trans hg5 hg6)
 have hfc6:=hF6.cells
 have hR6:=hR4.mono (Gh.le_trans hg5 hg6)
 obtain⟨rb,ro,hrr,hread⟩:=(Vec.rds hsv2 .here:Rds G6 [.blk tb (.cells c2 203 (0,0))] (some ⟨tb,0,none⟩) cs2).resolve_left (fun h=>by have h1:=hkv2.1;rw[h]at h1;simp[Kd.ss]at h1;omega)
 cases hrr
 have v0':(0:Int)≤(k:Int):=by omega
 have v1':(k:Int)<(p.code.length:Int):=by omega
 obtain⟨sJ,hsJ⟩:∃sJ,sJ=joinS s sB:=⟨_,rfl⟩
 have hwJ:sJ.wf p.locals.toNat:=by rw[hsJ];exact joinS_wf hws hwB
 have hvJ:sJ.vars.length≤1000:=by
  cases hr:sJ.reached with
  | false=>rw[hwJ.bare hr];simp
  | true=>rw[hwJ.vars hr];omega
 have hkJ:=hwJ.high
 refine go ?_
 refine WC.joinG (X:=Gh×Option Addr×Nat×Option Addr×Nat×Nat) (fun t=>[(3, .pointer (some ⟨b3,0,none⟩)),(5, .pointer (some ⟨b5,0,none⟩)),(7, .map (some bm)),(10, .pointer (some ⟨b10,0,none⟩)),(12, .int .i64 k),(76, .slice (some ⟨xb',xo',none⟩) nx.length xcap),(77, .int .i64 nx.length),(78, .int .i64 j),(13, .pointer (some ⟨t.2.2.2.2.2,0,none⟩))]) (fun t=>t.1)
  (fun t=>[.blk t.2.2.2.2.2 (.cells #[.bool sJ.reached, .bool sJ.unlike, .slice t.2.1 sJ.vars.length t.2.2.1, .slice t.2.2.2.1 sJ.stack.length t.2.2.2.2.1] 203 (0,0)), .blk b10 (.cells #[.bool sB.reached, .bool sB.unlike, .slice V1 sB.vars.length v1, .slice S1 sB.stack.length s1] 203 (0,0)), .blk tb (.cells c2 203 (0,0)), .blk bm (.map es3 ck3),prB b3 p QA qc (some ⟨ib,io,none⟩) ic]) (fun t=>G6.le t.1∧SRep t.1 sJ t.2.1 t.2.2.1 t.2.2.2.1 t.2.2.2.2.1) ?_ fun t ht=>?_
 ·refine WC.drawS (Hs:=[.blk b10 (.cells #[.bool sB.reached, .bool sB.unlike, .slice V1 sB.vars.length v1, .slice S1 sB.stack.length s1] 203 (0,0)), .blk tb (.cells c2 203 (0,0))]) mixed pkA ?_
  refine zb.move 0 ?_
  refine zb.nil 1 ?_
  refine zb.fa 2 ?_
  refine zb.ld 3 ?_
  refine zb.move 4 ?_
  refine zb.ix 5 ?_
  refine WB.vv 6 rfl (Gv.loadRN (i:=((k:Nat):Int).toNat*4) rfl hread (List.sublist_cons_self _ _) hesk rfl) ?_
  refine zb.ld 7 ?_
  have hjf:=joined_fn G6 s sB VK V1 vk v1 SK S1 sk s1 hSk hR6 (fun h1 h2=>by rw[hws.vars h1,hwB.vars h2]) (by omega) (by omega)
  rw[←hsJ]at hjf
  refine WB.two (i:=8) (j:=9) kr rfl rfl kr kr (OW.callK rfl hjf rfl fun v' G' H' h hg=>?_) (OW.alloc rfl fun b13=>?_)
  ·obtain⟨V2,v2,S2,s2,he,hg7,hR7,rfl⟩:=h
   cases he
   refine⟨fun w hw=>(hw.pk pkA).le hg7,?_⟩
   refine WB.oo 9 rfl (OW.alloc rfl fun b13=>?_)
   refine⟨fun w hw=>(hw.pk pkA).le hg7,?_⟩
   refine zb.st 10 ?_
   refine⟨fun w hw=>(hw.pk pkA).le hg7,?_⟩
   refine WB.done kr ?_
   refine WK.un ?_
   refine WK.pick [.blk b13 (.cells #[.bool sJ.reached, .bool sJ.unlike, .slice V2 sJ.vars.length v2, .slice S2 sJ.stack.length s2] 203 (0,0)), .blk b10 (.cells #[.bool sB.reached, .bool sB.unlike, .slice V1 sB.vars.length v1, .slice S1 sB.stack.length s1] 203 (0,0)), .blk tb (.cells c2 203 (0,0)), .blk bm (.map es3 ck3),prB b3 p QA qc (some ⟨ib,io,none⟩) ic] ?_
   exact WK.meet (G',V2,v2,S2,s2,b13) ⟨hg7,hR7⟩ (by exact⟨rfl,rfl,rfl,rfl,rfl,rfl,rfl,rfl,rfl,trivial⟩) rfl (List.Sublist.refl _)
  ·refine⟨fun w hw=>hw.pk pkA,?_⟩
   refine WB.oo 8 rfl (OW.callK rfl hjf rfl fun v' G' H' h hg=>?_)
   obtain⟨V2,v2,S2,s2,he,hg7,hR7,rfl⟩:=h
   cases he
   refine⟨fun w hw=>(hw.pk pkA).le hg7,?_⟩
   refine zb.st 10 ?_
   refine⟨fun w hw=>(hw.pk pkA).le hg7,?_⟩
   refine WB.done kr ?_
   refine WK.un ?_
   refine WK.pick [.blk b13 (.cells #[.bool sJ.reached, .bool sJ.unlike, .slice V2 sJ.vars.length v2, .slice S2 sJ.stack.length s2] 203 (0,0)), .blk b10 (.cells #[.bool sB.reached, .bool sB.unlike, .slice V1 sB.vars.length v1, .slice S1 sB.stack.length s1] 203 (0,0)), .blk tb (.cells c2 203 (0,0)), .blk bm (.map es3 ck3),prB b3 p QA qc (some ⟨ib,io,none⟩) ic] ?_
   exact WK.meet (G',V2,v2,S2,s2,b13) ⟨hg7,hR7⟩ (by exact⟨rfl,rfl,rfl,rfl,rfl,rfl,rfl,rfl,rfl,trivial⟩) rfl (List.Sublist.refl _)
 obtain⟨G7,V2,v2,S2,s2,b13⟩:=t
 obtain⟨hg7,hR7⟩:=ht
 dsimp only at hg7 hR7
 have hF7:=hF6.mono hg7
 have hfc7:=hF7.cells
 have hread7:∀w,Sat G7 [.blk tb (.cells c2 203 (0,0))] w→∀j v,cs2[j]? =some v→w.cell? ⟨tb,0+j,none⟩=some v:=fun w hw=>hread w (hw.le hg7)
 have hSk7:=hSk.mono hg7
 have hsf:=same_fn G7 [] sJ s V2 VK v2 vk S2 SK s2 sk hR7 hSk7 (by omega) (by omega)
 refine gom ?_
 refine WQ.tv (Gv.loadRN (i:=((k:Nat):Int).toNat*4) rfl hread7 (.cons _ (.cons _ (.cons_cons _ (List.nil_sublist _)))) hesk rfl) kr kr rfl ?_
 refine WQ.one kr kr (OW.callK rfl (hsf) rfl fun v' G' H' h hg=>?_)
 obtain⟨he,rfl,rfl⟩:=h
 cases he
 by_cases heq:sJ=s
 ·rw[decide_eq_true heq]
  refine gom ?_
  refine WK.pick [.blk b10 (.cells #[.bool sB.reached, .bool sB.unlike, .slice V1 sB.vars.length v1, .slice S1 sB.stack.length s1] 203 (0,0)), .blk tb (.cells c2 203 (0,0)), .blk bm (.map es3 ck3),prB b3 p QA qc (some ⟨ib,io,none⟩) ic] ?_
  exact WK.again (j+1,⟨l2,m2,G7,cs2,c2,es3,ck3⟩) (by dsimp only;omega) ⟨by dsimp only;omega,by dsimp only;rw[htake];exact hin2.same hs (by rw[←hsB,←hsJ];exact heq),hmr3,hsv2,hkv2.mono hg7,Gh.le_trans hg6 hg7,hμ2⟩ (by exact⟨rfl,rfl,rfl,rfl,rfl,rfl,rfl,trivial⟩) rfl (List.Sublist.refl _)
 rw[decide_eq_false heq]
 have hcf:=copied_fn G7 sJ V2 v2 S2 s2 hR7 (by omega) (by omega)
 refine WQ.tp (Gp.notB rfl) kr kr rfl ?_
 refine WQ.done kr ?_
 refine go ?_
 refine WC.drawS (Hs:=[.blk b13 (.cells #[.bool sJ.reached, .bool sJ.unlike, .slice V2 sJ.vars.length v2, .slice S2 sJ.stack.length s2] 203 (0,0))]) mixed pkA ?_
 refine zb.move 0 ?_
 refine zb.nil 1 ?_
 refine zb.fa 2 ?_
 refine zb.move 4 ?_
 refine zb.ld 5 ?_
 refine zb.ld 3 ?_
 refine WB.oo 6 rfl (OW.callK rfl (hcf) rfl fun v' G' H' h hg=>?_)
 obtain⟨V3,v3,S3,s3,x3,y3,he,rfl,rfl,hx3,hy3⟩:=h
 cases he
 refine⟨fun w hw=>hw.pk pkA,?_⟩
 obtain⟨_,hfitK,hputK⟩:=Vec.put hsv2 (show k<p.code.length by omega) [.bool sJ.reached, .bool sJ.unlike, .slice V3 sJ.vars.length v3, .slice S3 sJ.stack.length s3] rfl
 have hfitK':k*4+4≤c2.size:=hfitK
 have hbleK:Nat.ble (0+((k:Nat):Int).toNat*4+4) c2.size=true:=Nat.ble_eq_true_of_le (by omega)
 refine zb.ix 7 ?_
 refine WB.oo 8 rfl (OW.store (n:=4) (cs:=[.bool sJ.reached, .bool sJ.unlike, .slice V3 sJ.vars.length v3, .slice S3 sJ.stack.length s3]) rfl rfl atA rfl rfl rfl hbleK rfl ?_ rfl)
 refine⟨fun w hw=>hw.pk pkA,?_⟩
 refine WB.done kr ?_
 refine WK.un ?_
 have ek:0+((k:Nat):Int).toNat*4=k*4:=by omega
 rw[ek]
 refine WC.pick [.blk tb (.cells (splice c2 (k*4) [.bool sJ.reached, .bool sJ.unlike, .slice V3 sJ.vars.length v3, .slice S3 sJ.stack.length s3]) 203 (0,0)),x3,y3, .blk b10 (.cells #[.bool sB.reached, .bool sB.unlike, .slice V1 sB.vars.length v1, .slice S1 sB.stack.length s1] 203 (0,0)), .blk bm (.map es3 ck3),prB b3 p QA qc (some ⟨ib,io,none⟩) ic] ?_
 refine WC.frozenVec hx3 atA fun G8 hg8 z8=>?_
 refine WC.frozenVec hy3 atA fun G9 hg9 z9=>?_
 have hR9:SRep G9 sJ V3 v3 S3 s3:=⟨hx3.le,hy3.le,(IVec.sl z8).mono hg9,IVec.sl z9⟩
 have hkv9:=KV.set (k:=Kd.ss) (hkv2.mono (Gh.le_trans hg7 (Gh.le_trans hg8 hg9))) hR9.kd (i:=k) (by omega)
 refine go ?_
 refine WL.oo (OW.mapSet (emb:=fun n:Int=>Value.int .i64 n) rfl rfl rfl atA hmr3 rfl fun es4 ck4 hmr4=>?_)
 refine gom ?_
 refine WK.pick [.blk b10 (.cells #[.bool sB.reached, .bool sB.unlike, .slice V1 sB.vars.length v1, .slice S1 sB.stack.length s1] 203 (0,0)), .blk tb (.cells (splice c2 (k*4) [.bool sJ.reached, .bool sJ.unlike, .slice V3 sJ.vars.length v3, .slice S3 sJ.stack.length s3]) 203 (0,0)), .blk bm (.map es4 ck4),prB b3 p QA qc (some ⟨ib,io,none⟩) ic] ?_
 have hne:joinS s (behR w (ic1,(nn:Int)) s0)≠s:=by rw[←hsB,←hsJ];exact heq
 have hturn:=hin2.turn (T':=(setA m2 (k:Int) (.int .i64 1)).map (·.1)) hxm hs (fun x=>mem_setA)
 have hrise:=hin2.rises hs hne
 have hlen4:=length_setA (m:=m2) (k:=(k:Int)) (v:= .int .i64 1)
 rw[←hsB,←hsJ]at hturn hrise
 exact WK.again (j+1,⟨l2.set k sJ,setA m2 (k:Int) (.int .i64 1),G9,_,_,es4,ck4⟩) (by dsimp only;omega) ⟨by dsimp only;omega,by dsimp only;rw[htake];exact hturn,hmr4,hputK,hkv9,Gh.le_trans hg6 (Gh.le_trans hg7 (Gh.le_trans hg8 hg9)),by dsimp only;omega⟩ (by exact⟨rfl,rfl,rfl,rfl,rfl,rfl,rfl,trivial⟩) rfl (List.Sublist.refl _)
end
end
end Go.Proofs.YtcnlkfocbbkdhaaGreatDoor.Gb
