/- Any instruction without a number. An instruction is carried out, 1: constants, variables. An instruction is carried out, 2. An instruction is carried out, whichever it is. A step: what was put off, and the step itself. A step. A machine: what it is, in memory, and what a step makes of it. What holds of a machine at each step. Many steps; what a machine tells. Many steps. A program of its own. -/
import Derived.Test.YtcnlkfocbbkdhaaGreatDoorUh
set_option linter.unusedVariables false
set_option linter.unusedSimpArgs false
set_option linter.unusedSectionVars false
namespace Go.Proofs.YtcnlkfocbbkdhaaGreatDoor.Gb
open Go Go.Proofs
section
attribute [local irreducible] Tryz.prog
section
variable (G:Gh) (mb:Nat) (c1 c2 c3:Value) (FA:Option Addr) (fn fcap:Nat) (en:Int) (w:V) (OA:Option Addr) (ocap:Nat) (st:Int) (ed:Bool) (out:List V) (ox fx:Own) (Hx:List Own) (RL:List V→List Own→Prop)
  (b:Nat) (A:Option Addr) (cap:Nat) (p a:Int) (B:Option Addr) (m cm:Nat) (x:Own) (l:List V) (nm:ByteArray) (ex:Bool) (qv cv:Value) (lo res:Int)
def plainC (c:Int):Prop:=c=4∨c=9∨c=10∨c=11∨c=12∨c=13∨c=25∨c=26∨c=20∨c=14∨c=15∨c=16∨c=17∨c=24∨c=18∨c=19∨c=21∨c=22∨c=23
theorem plain_other (c:Int) (hc:¬plainC c):Fn Tryz.prog 198 #[.pointer (some ⟨mb,0,none⟩), .pointer (some ⟨b,0,none⟩), .agg #[.string nm, .bool ex,qv, .int .i64 lo, .int .i64 res,cv], .int .i64 c] G
  (mcB mb c1 c2 c3 FA fn fcap en w OA out.length ocap st ed::ox::frB b A l.length cap p a B m cm::x::fx::Hx) (PlR G mb c1 c2 c3 FA fn fcap en w OA ocap st ed out ox fx Hx RL b A cap p a B m cm x (plainR res l c out.length)):=by
 unfold plainC at hc
 simp only[not_or]at hc
 obtain⟨h4,h9,h10,h11,h12,h13,h25,h26,h20,h14,h15,h16,h17,h24,h18,h19,h21,h22,h23⟩:=hc
 refine Fn.enter Tryz.func198 rfl rfl fun w0=>?_
 rw[show plainR res l c out.length= .halt 6 by simp[plainR, *]]
 refine WC.seq ?_
 refine WC.region ?_
 refine WL.oo (OW.box rfl rfl fun b1=>?_)
 refine WL.nil ?_
 refine WK.un ?_
 refine WC.seq ?_
 refine WC.region ?_
 refine zw.move ?_
 refine WL.nil ?_
 refine WK.un ?_
 repeat (first | refine WC.seq ?_ | refine WC.block ?_ | (refine WC.skip ?_;refine WK.un ?_) | (refine WC.exit ?_;refine WK.un ?_))
 refine WC.region ?_
 refine zw.eq ?_
 refine zw.assign ?_
 refine WL.nil ?_
 refine WK.un ?_
 refine WC.cond rfl (fun hc=>absurd (by simpa using hc) h4) (fun _=>?_)
 repeat (first | refine WC.seq ?_ | refine WC.block ?_ | (refine WC.skip ?_;refine WK.un ?_) | (refine WC.exit ?_;refine WK.un ?_))
 repeat (first | refine WC.seq ?_ | refine WC.block ?_ | (refine WC.skip ?_;refine WK.un ?_) | (refine WC.exit ?_;refine WK.un ?_))
 refine WC.region ?_
 refine zw.eq ?_
 refine zw.assign ?_
 refine WL.nil ?_
 refine WK.un ?_
 refine WC.cond rfl (fun hc=>absurd (by simpa using hc) h9) (fun _=>?_)
 repeat (first | refine WC.seq ?_ | refine WC.block ?_ | (refine WC.skip ?_;refine WK.un ?_) | (refine WC.exit ?_;refine WK.un ?_))
 repeat (first | refine WC.seq ?_ | refine WC.block ?_ | (refine WC.skip ?_;refine WK.un ?_) | (refine WC.exit ?_;refine WK.un ?_))
 refine WC.region ?_
 refine zw.eq ?_
 refine zw.assign ?_
 refine WL.nil ?_
 refine WK.un ?_
 refine WC.cond rfl (fun hc=>absurd (by simpa using hc) h10) (fun _=>?_)
 repeat (first | refine WC.seq ?_ | refine WC.block ?_ | (refine WC.skip ?_;refine WK.un ?_) | (refine WC.exit ?_;refine WK.un ?_))
 repeat (first | refine WC.seq ?_ | refine WC.block ?_ | (refine WC.skip ?_;refine WK.un ?_) | (refine WC.exit ?_;refine WK.un ?_))
 refine WC.region ?_
 refine zw.eq ?_
 refine zw.assign ?_
 refine WL.nil ?_
 refine WK.un ?_
 refine WC.cond rfl (fun hc=>absurd (by simpa using hc) h11) (fun _=>?_)
 repeat (first | refine WC.seq ?_ | refine WC.block ?_ | (refine WC.skip ?_;refine WK.un ?_) | (refine WC.exit ?_;refine WK.un ?_))
 repeat (first | refine WC.seq ?_ | refine WC.block ?_ | (refine WC.skip ?_;refine WK.un ?_) | (refine WC.exit ?_;refine WK.un ?_))
 refine WC.region ?_
 refine zw.eq ?_
 refine zw.assign ?_
 refine WL.nil ?_
 refine WK.un ?_
 refine WC.cond rfl (fun hc=>absurd (by simpa using hc) h12) (fun _=>?_)
 repeat (first | refine WC.seq ?_ | refine WC.block ?_ | (refine WC.skip ?_;refine WK.un ?_) | (refine WC.exit ?_;refine WK.un ?_))
 repeat (first | refine WC.seq ?_ | refine WC.block ?_ | (refine WC.skip ?_;refine WK.un ?_) | (refine WC.exit ?_;refine WK.un ?_))
 refine WC.region ?_
 refine zw.eq ?_
 refine zw.assign ?_
 refine WL.nil ?_
 refine WK.un ?_
 refine WC.cond rfl (fun hc=>absurd (by simpa using hc) h13) (fun _=>?_)
 repeat (first | refine WC.seq ?_ | refine WC.block ?_ | (refine WC.skip ?_;refine WK.un ?_) | (refine WC.exit ?_;refine WK.un ?_))
 repeat (first | refine WC.seq ?_ | refine WC.block ?_ | (refine WC.skip ?_;refine WK.un ?_) | (refine WC.exit ?_;refine WK.un ?_))
 refine WC.region ?_
 refine zw.eq ?_
 refine zw.assign ?_
 refine WL.nil ?_
 refine WK.un ?_
 refine WC.cond rfl (fun hc=>absurd (by simpa using hc) h25) (fun _=>?_)
 repeat (first | refine WC.seq ?_ | refine WC.block ?_ | (refine WC.skip ?_;refine WK.un ?_) | (refine WC.exit ?_;refine WK.un ?_))
 repeat (first | refine WC.seq ?_ | refine WC.block ?_ | (refine WC.skip ?_;refine WK.un ?_) | (refine WC.exit ?_;refine WK.un ?_))
 refine WC.region ?_
 refine zw.eq ?_
 refine zw.assign ?_
 refine WL.nil ?_
 refine WK.un ?_
 refine WC.cond rfl (fun hc=>absurd (by simpa using hc) h26) (fun _=>?_)
 repeat (first | refine WC.seq ?_ | refine WC.block ?_ | (refine WC.skip ?_;refine WK.un ?_) | (refine WC.exit ?_;refine WK.un ?_))
 repeat (first | refine WC.seq ?_ | refine WC.block ?_ | (refine WC.skip ?_;refine WK.un ?_) | (refine WC.exit ?_;refine WK.un ?_))
 refine WC.region ?_
 refine zw.eq ?_
 refine zw.assign ?_
 refine WL.nil ?_
 refine WK.un ?_
 refine WC.cond rfl (fun hc=>absurd (by simpa using hc) h20) (fun _=>?_)
 repeat (first | refine WC.seq ?_ | refine WC.block ?_ | (refine WC.skip ?_;refine WK.un ?_) | (refine WC.exit ?_;refine WK.un ?_))
 repeat (first | refine WC.seq ?_ | refine WC.block ?_ | (refine WC.skip ?_;refine WK.un ?_) | (refine WC.exit ?_;refine WK.un ?_))
 refine WC.region ?_
 refine zw.eq ?_
 refine zw.assign ?_
 refine WL.nil ?_
 refine WK.un ?_
 refine WC.cond rfl (fun hc=>absurd (by simpa using hc) h14) (fun _=>?_)
 repeat (first | refine WC.seq ?_ | refine WC.block ?_ | (refine WC.skip ?_;refine WK.un ?_) | (refine WC.exit ?_;refine WK.un ?_))
 repeat (first | refine WC.seq ?_ | refine WC.block ?_ | (refine WC.skip ?_;refine WK.un ?_) | (refine WC.exit ?_;refine WK.un ?_))
 refine WC.region ?_
 refine zw.eq ?_
 refine zw.assign ?_
 refine WL.nil ?_
 refine WK.un ?_
 refine WC.cond rfl (fun hc=>absurd (by simpa using hc) h15) (fun _=>?_)
 repeat (first | refine WC.seq ?_ | refine WC.block ?_ | (refine WC.skip ?_;refine WK.un ?_) | (refine WC.exit ?_;refine WK.un ?_))
 repeat (first | refine WC.seq ?_ | refine WC.block ?_ | (refine WC.skip ?_;refine WK.un ?_) | (refine WC.exit ?_;refine WK.un ?_))
 refine WC.region ?_
 refine zw.eq ?_
 refine zw.assign ?_
 refine WL.nil ?_
 refine WK.un ?_
 refine WC.cond rfl (fun hc=>absurd (by simpa using hc) h16) (fun _=>?_)
 repeat (first | refine WC.seq ?_ | refine WC.block ?_ | (refine WC.skip ?_;refine WK.un ?_) | (refine WC.exit ?_;refine WK.un ?_))
 repeat (first | refine WC.seq ?_ | refine WC.block ?_ | (refine WC.skip ?_;refine WK.un ?_) | (refine WC.exit ?_;refine WK.un ?_))
 refine WC.region ?_
 refine zw.eq ?_
 refine zw.assign ?_
 refine WL.nil ?_
 refine WK.un ?_
 refine WC.cond rfl (fun hc=>absurd (by simpa using hc) h17) (fun _=>?_)
 repeat (first | refine WC.seq ?_ | refine WC.block ?_ | (refine WC.skip ?_;refine WK.un ?_) | (refine WC.exit ?_;refine WK.un ?_))
 repeat (first | refine WC.seq ?_ | refine WC.block ?_ | (refine WC.skip ?_;refine WK.un ?_) | (refine WC.exit ?_;refine WK.un ?_))
 refine WC.region ?_
 refine zw.eq ?_
 refine zw.assign ?_
 refine WL.nil ?_
 refine WK.un ?_
 refine WC.cond rfl (fun hc=>absurd (by simpa using hc) h24) (fun _=>?_)
 repeat (first | refine WC.seq ?_ | refine WC.block ?_ | (refine WC.skip ?_;refine WK.un ?_) | (refine WC.exit ?_;refine WK.un ?_))
 repeat (first | refine WC.seq ?_ | refine WC.block ?_ | (refine WC.skip ?_;refine WK.un ?_) | (refine WC.exit ?_;refine WK.un ?_))
 refine WC.region ?_
 refine zw.eq ?_
 refine zw.assign ?_
 refine WL.nil ?_
 refine WK.un ?_
 refine WC.cond rfl (fun hc=>absurd (by simpa using hc) h18) (fun _=>?_)
 repeat (first | refine WC.seq ?_ | refine WC.block ?_ | (refine WC.skip ?_;refine WK.un ?_) | (refine WC.exit ?_;refine WK.un ?_))
 repeat (first | refine WC.seq ?_ | refine WC.block ?_ | (refine WC.skip ?_;refine WK.un ?_) | (refine WC.exit ?_;refine WK.un ?_))
 refine WC.region ?_
 refine zw.eq ?_
 refine zw.assign ?_
 refine WL.nil ?_
 refine WK.un ?_
 refine WC.cond rfl (fun hc=>absurd (by simpa using hc) h19) (fun _=>?_)
 repeat (first | refine WC.seq ?_ | refine WC.block ?_ | (refine WC.skip ?_;refine WK.un ?_) | (refine WC.exit ?_;refine WK.un ?_))
 repeat (first | refine WC.seq ?_ | refine WC.block ?_ | (refine WC.skip ?_;refine WK.un ?_) | (refine WC.exit ?_;refine WK.un ?_))
 refine WC.region ?_
 refine zw.eq ?_
 refine zw.assign ?_
 refine WL.nil ?_
 refine WK.un ?_
 refine WC.cond rfl (fun hc=>absurd (by simpa using hc) h21) (fun _=>?_)
 repeat (first | refine WC.seq ?_ | refine WC.block ?_ | (refine WC.skip ?_;refine WK.un ?_) | (refine WC.exit ?_;refine WK.un ?_))
 repeat (first | refine WC.seq ?_ | refine WC.block ?_ | (refine WC.skip ?_;refine WK.un ?_) | (refine WC.exit ?_;refine WK.un ?_))
 refine WC.region ?_
 refine zw.eq ?_
 refine zw.assign ?_
 refine WL.nil ?_
 refine WK.un ?_
 refine WC.cond rfl (fun hc=>absurd (by simpa using hc) h22) (fun _=>?_)
 repeat (first | refine WC.seq ?_ | refine WC.block ?_ | (refine WC.skip ?_;refine WK.un ?_) | (refine WC.exit ?_;refine WK.un ?_))
 repeat (first | refine WC.seq ?_ | refine WC.block ?_ | (refine WC.skip ?_;refine WK.un ?_) | (refine WC.exit ?_;refine WK.un ?_))
 refine WC.region ?_
 refine zw.eq ?_
 refine zw.assign ?_
 refine WL.nil ?_
 refine WK.un ?_
 refine WC.cond rfl (fun hc=>absurd (by simpa using hc) h23) (fun _=>?_)
 repeat (first | refine WC.seq ?_ | refine WC.block ?_ | (refine WC.skip ?_;refine WK.un ?_) | (refine WC.exit ?_;refine WK.un ?_))
 refine WC.region ?_
 refine WL.oo (OW.call rfl (Hf:=[]) (List.Perm.refl _) (stuck_fn _) rfl (fun v G' H' h _=>by cases h.1) (fun ch G' H' h _=>?_) (fun G' H' h=>by cases h.1))
 obtain⟨he,rfl,rfl⟩:=h
 cases he
 refine WK.un ?_
 exact QF.panicP ⟨rfl,rfl,_,Left.of b A l.length cap p a B m cm,rfl⟩ pkA
theorem plain_fn (c:Int) (hv:VVec A cap l x) (hl:l.length≤1000000) (hz:∀v∈l,v.s.size≤400000000000) (ho:VVec OA ocap out ox) (hL:Lv G mb (mcB mb c1 c2 c3 FA fn fcap en w OA out.length ocap st ed) fx Hx RL):
  Fn Tryz.prog 198 #[.pointer (some ⟨mb,0,none⟩), .pointer (some ⟨b,0,none⟩), .agg #[.string nm, .bool ex,qv, .int .i64 lo, .int .i64 res,cv], .int .i64 c] G
  (mcB mb c1 c2 c3 FA fn fcap en w OA out.length ocap st ed::ox::frB b A l.length cap p a B m cm::x::fx::Hx) (PlR G mb c1 c2 c3 FA fn fcap en w OA ocap st ed out ox fx Hx RL b A cap p a B m cm x (plainR res l c out.length)):=by
 by_cases hc:plainC c
 rotate_left
 ·exact plain_other G mb c1 c2 c3 FA fn fcap en w OA ocap st ed out ox fx Hx RL b A cap p a B m cm x l nm ex qv cv lo res c hc
 rcases hc with rfl | rfl | rfl | rfl | rfl | rfl | rfl | rfl | rfl | rfl | rfl | rfl | rfl | rfl | rfl | rfl | rfl | rfl | rfl
 ·exact plain_drop G mb c1 c2 c3 FA fn fcap en w OA ocap st ed out ox fx Hx RL b A cap p a B m cm x l nm ex qv cv lo res hv hl
 ·exact plain_return G mb c1 c2 c3 FA fn fcap en w OA ocap st ed out ox fx Hx RL b A cap p a B m cm x l nm ex qv cv lo res hv hl hL
 ·exact plain_give G mb c1 c2 c3 FA fn fcap en w OA ocap st ed out ox fx Hx RL b A cap p a B m cm x l nm ex qv cv lo res hv hl hL
 ·exact plain_print G mb c1 c2 c3 FA fn fcap en w OA ocap st ed out ox fx Hx RL b A cap p a B m cm x l nm ex qv cv lo res hv hl ho
 ·exact plain_eq G mb c1 c2 c3 FA fn fcap en w OA ocap st ed out ox fx Hx RL b A cap p a B m cm x l nm ex qv cv lo res hv hl
 ·exact plain_ne G mb c1 c2 c3 FA fn fcap en w OA ocap st ed out ox fx Hx RL b A cap p a B m cm x l nm ex qv cv lo res hv hl
 ·exact plain_not G mb c1 c2 c3 FA fn fcap en w OA ocap st ed out ox fx Hx RL b A cap p a B m cm x l nm ex qv cv lo res hv hl
 ·exact plain_len G mb c1 c2 c3 FA fn fcap en w OA ocap st ed out ox fx Hx RL b A cap p a B m cm x l nm ex qv cv lo res hv hl
 ·exact plain_join G mb c1 c2 c3 FA fn fcap en w OA ocap st ed out ox fx Hx RL b A cap p a B m cm x l nm ex qv cv lo res hv hl hz
 ·exact plain_ord14 G mb c1 c2 c3 FA fn fcap en w OA ocap st ed out ox fx Hx RL b A cap p a B m cm x l nm ex qv cv lo res hv hl
 ·exact plain_ord15 G mb c1 c2 c3 FA fn fcap en w OA ocap st ed out ox fx Hx RL b A cap p a B m cm x l nm ex qv cv lo res hv hl
 ·exact plain_ord16 G mb c1 c2 c3 FA fn fcap en w OA ocap st ed out ox fx Hx RL b A cap p a B m cm x l nm ex qv cv lo res hv hl
 ·exact plain_ord17 G mb c1 c2 c3 FA fn fcap en w OA ocap st ed out ox fx Hx RL b A cap p a B m cm x l nm ex qv cv lo res hv hl
 ·exact plain_neg G mb c1 c2 c3 FA fn fcap en w OA ocap st ed out ox fx Hx RL b A cap p a B m cm x l nm ex qv cv lo res hv hl
 ·exact plain_rec18 G mb c1 c2 c3 FA fn fcap en w OA ocap st ed out ox fx Hx RL b A cap p a B m cm x l nm ex qv cv lo res hv hl
 ·exact plain_rec19 G mb c1 c2 c3 FA fn fcap en w OA ocap st ed out ox fx Hx RL b A cap p a B m cm x l nm ex qv cv lo res hv hl
 ·exact plain_rec21 G mb c1 c2 c3 FA fn fcap en w OA ocap st ed out ox fx Hx RL b A cap p a B m cm x l nm ex qv cv lo res hv hl
 ·exact plain_rec22 G mb c1 c2 c3 FA fn fcap en w OA ocap st ed out ox fx Hx RL b A cap p a B m cm x l nm ex qv cv lo res hv hl
 ·exact plain_rec23 G mb c1 c2 c3 FA fn fcap en w OA ocap st ed out ox fx Hx RL b A cap p a B m cm x l nm ex qv cv lo res hv hl
end
end
section
attribute [local irreducible] Tryz.prog
inductive DR where
 | halt (n:Int)
 | go (l:List V) (k:Nat) (vars:List V)
 | print (l:List V) (v:V)
 | call (q:Pr) (r args:List V) (n:Int)
 | leave (l g:List V)
def layRQ (l:List V) (k:Nat) (vars:List V) (v:V):DR:=if 128≤l.length then .halt 6 else .go (l++[v]) (k+1) vars
def constR (consts:List V) (l:List V) (k:Nat) (vars:List V) (n:Int):DR:=if n<0 then .halt 6 else match consts[n.toNat]? with
 | none=> .halt 6
 | some v=>if vOK v=true then layRQ l k vars v else .halt 6
def loadR (l:List V) (k:Nat) (vars:List V) (n:Int):DR:=if n<0 then .halt 6 else match vars[n.toNat]? with
 | none=> .halt 6
 | some v=>if v.t=0 then .halt 6 else layRQ l k vars v
def storeR (l:List V) (k:Nat) (vars:List V) (n:Int):DR:=if n<0∨vars.length≤n.toNat then .halt 6 else match pop1 l with
 | none=> .halt 6
 | some (r,v)=> .go r (k+1) (vars.set n.toNat v)
def jumpR (cl:Nat) (l:List V) (vars:List V) (n:Int):DR:=if n<0∨cl≤n.toNat then .halt 6 else .go l n.toNat vars
def unlessR (cl:Nat) (l:List V) (k:Nat) (vars:List V) (n:Int):DR:=if n<0∨cl≤n.toNat then .halt 6 else match ty1 l 2 with
 | none=> .halt 6
 | some (r,v)=> .go r (if v.b then k+1 else n.toNat) vars
def callD (procs:List Pr) (l:List V) (n:Int) (depth:Nat):DR:=match callR procs l n depth with
 | .error e=> .halt e
 | .ok (q,r,a)=> .call q r a n
def plainD (res:Int) (l:List V) (k:Nat) (vars:List V) (c:Int) (outn:Nat):DR:=match plainR res l c outn with
 | .halt m=> .halt m
 | .set r=> .go r (k+1) vars
 | .print r v=> .print r v
 | .leave r g=> .leave r g
def doR (pg:Pg) (pr:Pr) (l:List V) (k:Nat) (vars:List V) (depth outn:Nat):DR:=match pr.code[k]? with
 | none=> .halt 6
 | some (c,n)=>
  if c=1 then constR pg.consts l k vars n
  else if c=2 then loadR l k vars n
  else if c=3 then storeR l k vars n
  else if c=5 then jumpR pr.code.length l vars n
  else if c=6 then unlessR pr.code.length l k vars n
  else if c=7 then callD pg.procs l n depth
  else if n≠0 then .halt 6
  else plainD pr.result l k vars c outn
def DoR (G:Gh) (mb:Nat) (c1 c2 c3:Value) (FA:Option Addr) (fcap:Nat) (en:Int) (w:V) (OA:Option Addr) (ocap:Nat) (st:Int) (ed:Bool) (out:List V) (ox fx:Own) (Hx:List Own) (RL:List V→List Own→Prop)
  (b:Nat) (A:Option Addr) (cap pi:Nat) (B:Option Addr) (vars:List V) (cm:Nat) (x y:Own) (bs:List Nat) (k1:Nat) (r:DR):Ending→Gh→List Own→Prop:=fun e G' H'=>G=G'∧match r with
 | .halt n=>e=halted n∧∃z,Left b [z]∧H'=mcB mb c1 c2 c3 FA bs.length fcap en w OA out.length ocap st ed::ox::z::fx::Hx
 | .go l' k' vars'=>∃A' cap' x' y',e= .returned (.tuple #[])∧VVec A' cap' l' x'∧VVec B cm vars' y'∧H'=mcB mb c1 c2 c3 FA bs.length fcap en w OA out.length ocap st ed::ox::frB b A' l'.length cap' pi k' B vars'.length cm::x'::y'::fx::Hx
 | .print l' v=>∃OA' ocap' ox',e= .returned (.tuple #[])∧VVec OA' ocap' (out++[v]) ox'∧VVec A cap l' x∧H'=mcB mb c1 c2 c3 FA bs.length fcap en w OA' (out++[v]).length ocap' st ed::ox'::frB b A l'.length cap pi k1 B vars.length cm::x::y::fx::Hx
 | .call q l' args n=>∃FA' fcap' b' VA fx' yv,e= .returned (.tuple #[])∧PVec FA' fcap' (bs++[b']) fx'∧VVec VA (padded args q.locals).length (padded args q.locals) yv∧VVec A cap l' x∧
   H'=mcB mb c1 c2 c3 FA' (bs++[b']).length fcap' en w OA out.length ocap st ed::ox::frB b A l'.length cap pi k1 B vars.length cm::x::y::fx'::frB b' none 0 0 n 0 VA (padded args q.locals).length (padded args q.locals).length:: .spare 0 0 0::yv::Hx
 | .leave l' g=>∃H1,e= .returned (.tuple #[])∧RL g H1∧H'=ox::H1
section
variable (G:Gh) (pg:Pg) (CA PA:Option Addr) (cc pc:Nat) (hC:Sl Kd.val G CA pg.consts) (hP:Sl Kd.prc G PA pg.procs)
  (mb:Nat) (c3:Value) (FA:Option Addr) (fcap:Nat) (en:Int) (w:V) (OA:Option Addr) (ocap:Nat) (st:Int) (ed:Bool) (out:List V) (ox fx:Own) (Hx:List Own) (RL:List V→List Own→Prop)
  (b:Nat) (A:Option Addr) (cap pi:Nat) (pr:Pr) (hpr:pg.procs[pi]? =some pr) (B:Option Addr) (vars:List V) (cm:Nat) (x y:Own) (bs:List Nat) (l:List V) (k:Nat) (hkb:k≤100000000000000)
include hC hP hpr hkb
theorem do_const (n:Int) (hi:pr.code[k]? =some (1,n)) (hv:VVec A cap l x) (hl:l.length≤1000000) (hy:VVec B cm vars y):Fn Tryz.prog 167 #[.pointer (some ⟨mb,0,none⟩), .pointer (some ⟨b,0,none⟩)] G
  (mcB mb (.slice CA pg.consts.length cc) (.slice PA pg.procs.length pc) c3 FA bs.length fcap en w OA out.length ocap st ed::ox::frB b A l.length cap pi k B vars.length cm::x::y::fx::Hx)
  (DoR G mb (.slice CA pg.consts.length cc) (.slice PA pg.procs.length pc) c3 FA fcap en w OA ocap st ed out ox fx Hx RL b A cap pi B vars cm x y bs (k+1) (doR pg pr l k vars bs.length out.length)):=by
 rw[show doR pg pr l k vars bs.length out.length=constR pg.consts l k vars n by simp[doR,hi]]
 obtain⟨pb,po,cs,hPA,⟨QA,qc,IA,ic,rfl,hQ,hI⟩,hcs⟩:=hP pi pr hpr
 obtain⟨ib,io,cs2,rfl,hK,hcs2⟩:=hI k (1,n) hi
 obtain rfl:cs2=[.int .i64 1, .int .i64 n]:=hK
 have hk:k<pr.code.length:=(List.getElem?_eq_some_iff.1 hi).1
 have hpl:pi<pg.procs.length:=(List.getElem?_eq_some_iff.1 hpr).1
 subst hPA
 refine Fn.enter Tryz.func167 rfl rfl fun w0=>?_
 refine WC.seq ?_
 refine WC.draw mixed ?_
 refine za.move 0 ?_
 refine za.nil 1 ?_
 refine za.fa 2 ?_
 refine za.fa 3 ?_
 refine za.ld 4 ?_
 refine za.move 5 ?_
 refine za.nil 6 ?_
 refine za.fa 7 ?_
 refine za.ld 8 ?_
 refine za.ix 9 ?_
 refine WA.vv 10 rfl (Gv.loadGN rfl hcs rfl) ?_
 refine WA.oo 11 rfl (OW.alloc rfl fun b1=>?_)
 refine za.st 12 ?_
 refine WA.done kr ?_
 refine WK.un ?_
 refine WC.seq ?_
 refine WC.draw mixed ?_
 refine za.move 0 ?_
 refine za.nil 1 ?_
 refine za.fa 2 ?_
 refine za.ld 3 ?_
 refine WA.pp 4 rfl (Gp.geI' rfl rfl (show decide ((0:Int)≤(k:Int))=true by simp)) ?_
 refine za.move 5 ?_
 refine za.move 6 ?_
 refine za.nil 7 ?_
 refine za.fa 8 ?_
 refine za.ld 9 ?_
 refine za.fa 10 ?_
 refine za.ld 11 ?_
 refine za.len 12 ?_
 refine WA.pp 13 rfl (Gp.ltI' rfl rfl (show decide ((k:Int)<(pr.code.length:Int))=true by simp;omega)) ?_
 refine za.pick 14 ?_
 refine WA.oo 15 rfl (OW.callR rfl (Hf:=[]) (List.Perm.refl _) (need_ok G) rfl (by rintro e G' H' ⟨h,_⟩;exact⟨_,h⟩) fun v' G' H' h hg=>?_)
 obtain⟨he,rfl,rfl⟩:=h
 cases he
 refine WA.done kr ?_
 refine WK.un ?_
 refine WC.seq ?_
 refine WC.draw mixed ?_
 refine za.fa 0 ?_
 refine za.ld 1 ?_
 refine za.move 2 ?_
 refine za.nil 3 ?_
 refine za.fa 4 ?_
 refine za.ld 5 ?_
 refine za.ix 6 ?_
 refine WA.vv 7 rfl (Gv.loadGN rfl hcs2 rfl) ?_
 refine WA.oo 8 rfl (OW.alloc rfl fun b2=>?_)
 refine za.st 9 ?_
 refine WA.done kr ?_
 refine WK.un ?_
 refine WC.seq ?_
 refine WC.region ?_
 refine zw.move ?_
 refine zw.nil ?_
 refine zw.fa ?_
 refine zw.ld ?_
 refine WL.pp (Gp.add' rfl rfl (show IntKind.i64.wrap ((k:Int)+1)=((k+1:Nat):Int) by rw[wrap_small (by omega) (by omega)];omega)) ?_
 refine zw.nil ?_
 refine zw.fa ?_
 refine zw.st ?_
 refine WL.nil ?_
 refine WK.un ?_
 refine WC.seq ?_
 refine WC.region ?_
 refine zw.fa ?_
 refine zw.ld ?_
 refine WL.nil ?_
 refine WK.un ?_
 refine WC.pk (H':= .blk b2 (.cells #[.int .i64 1, .int .i64 n] 50 (0,0)):: .blk b1 (.cells #[.string pr.name, .bool pr.exp, .slice QA pr.params.length qc, .int .i64 pr.locals, .int .i64 pr.result, .slice (some ⟨ib,io,none⟩) pr.code.length ic] 47 (0,0))::mcB mb (.slice CA pg.consts.length cc) (.slice (some ⟨pb,po,none⟩) pg.procs.length pc) c3 FA bs.length fcap en w OA out.length ocap st ed::ox::frB b A l.length cap pi (k+1:Nat) B vars.length cm::x::y::fx::Hx) pkA ?_
 repeat (first | refine WC.seq ?_ | refine WC.block ?_ | (refine WC.region ?_;refine WL.p (Gp.eqI rfl rfl) kr rfl ?_;refine WL.p (Gp.assign rfl) kr rfl ?_;refine WL.nil ?_;refine WK.un ?_) | refine WC.cond_true rfl ?_ | refine WC.cond_false rfl ?_ | (refine WC.skip ?_;refine WK.un ?_) | (refine WC.exit ?_;refine WK.un ?_))
 refine WC.draw mixed ?_
 refine za.fa 0 ?_
 refine za.ld 1 ?_
 by_cases hn0:n<0
 ·rw[show constR pg.consts l k vars n= .halt 6 by rw[constR,if_pos hn0]]
  refine WA.pp 2 rfl (Gp.geI' rfl rfl (show decide ((0:Int)≤n)=false by simpa using hn0)) ?_
  refine za.move 3 ?_
  refine za.skip 4 ?_
  refine za.skip 5 ?_
  refine za.skip 6 ?_
  refine za.skip 7 ?_
  refine za.skip 8 ?_
  refine za.skip 9 ?_
  refine za.skip 10 ?_
  refine za.skip 11 ?_
  refine za.skip 12 ?_
  refine za.pick 13 ?_
  refine za.move 14 ?_
  refine za.skip 15 ?_
  refine za.skip 16 ?_
  refine za.skip 17 ?_
  refine za.skip 18 ?_
  refine za.skip 19 ?_
  refine za.skip 20 ?_
  refine za.skip 21 ?_
  refine za.skip 22 ?_
  refine za.skip 23 ?_
  refine za.skip 24 ?_
  refine za.pick 25 ?_
  refine WA.oo 26 rfl (OW.call rfl (Hf:=[]) (List.Perm.refl _) (need_no _) rfl (fun v G' H' h _=>by cases h.1) (fun ch G' H' h _=>?_) (fun G' H' h=>by cases h.1))
  obtain⟨he,rfl,rfl⟩:=h
  cases he
  refine WK.un ?_
  exact QF.panicP (⟨rfl,rfl,_,Left.of b A l.length cap pi (k+1:Nat) B vars.length cm,rfl⟩)
 obtain⟨i,rfl⟩:=Int.eq_ofNat_of_zero_le (Int.not_lt.1 hn0)
 refine WA.pp 2 rfl (Gp.geI' rfl rfl (show decide ((0:Int)≤(i:Int))=true by simp)) ?_
 refine za.move 3 ?_
 refine za.fa 4 ?_
 refine za.ld 5 ?_
 refine za.move 6 ?_
 refine za.nil 7 ?_
 refine za.fa 8 ?_
 refine za.fa 9 ?_
 refine za.ld 10 ?_
 refine za.len 11 ?_
 cases hc:pg.consts[i]? with
 | none=>
  rw[show constR pg.consts l k vars (i:Int)= .halt 6 by rw[constR,if_neg hn0,Int.toNat_natCast,hc]]
  refine WA.pp 12 rfl (Gp.ltI' rfl rfl (show decide ((i:Int)<(pg.consts.length:Int))=false by have:=List.getElem?_eq_none_iff.1 hc;simp;omega)) ?_
  refine za.pick 13 ?_
  refine za.move 14 ?_
  refine za.skip 15 ?_
  refine za.skip 16 ?_
  refine za.skip 17 ?_
  refine za.skip 18 ?_
  refine za.skip 19 ?_
  refine za.skip 20 ?_
  refine za.skip 21 ?_
  refine za.skip 22 ?_
  refine za.skip 23 ?_
  refine za.skip 24 ?_
  refine za.pick 25 ?_
  refine WA.oo 26 rfl (OW.call rfl (Hf:=[]) (List.Perm.refl _) (need_no _) rfl (fun v G' H' h _=>by cases h.1) (fun ch G' H' h _=>?_) (fun G' H' h=>by cases h.1))
  obtain⟨he,rfl,rfl⟩:=h
  cases he
  refine WK.un ?_
  exact QF.panicP (⟨rfl,rfl,_,Left.of b A l.length cap pi (k+1:Nat) B vars.length cm,rfl⟩)
 | some v=>
 obtain⟨cb,co,cs3,rfl,hK3,hcs3⟩:=hC i v hc
 obtain rfl:cs3=vcells v:=hK3
 have hic:i<pg.consts.length:=(List.getElem?_eq_some_iff.1 hc).1
 refine WA.pp 12 rfl (Gp.ltI' rfl rfl (show decide ((i:Int)<(pg.consts.length:Int))=true by simp;omega)) ?_
 refine za.pick 13 ?_
 refine za.move 14 ?_
 refine za.move 15 ?_
 refine za.nil 16 ?_
 refine za.fa 17 ?_
 refine za.fa 18 ?_
 refine za.ld 19 ?_
 refine za.fa 20 ?_
 refine za.ld 21 ?_
 refine za.ix 22 ?_
 refine WA.vv 23 rfl (Gv.loadGN rfl hcs3 rfl) ?_
 refine WA.oo 24 rfl (OW.callR rfl (Hf:=[]) (List.Perm.refl _) (value_fnQ G v) rfl (by rintro e G' H' ⟨h,_⟩;exact⟨_,h⟩) fun v' G' H' h hg=>?_)
 obtain⟨he,rfl,rfl⟩:=h
 cases he
 refine za.pick 25 ?_
 by_cases hok:vOK v=true
 rotate_left
 ·rw[show constR pg.consts l k vars (i:Int)= .halt 6 by rw[constR,if_neg hn0,Int.toNat_natCast,hc];exact if_neg hok]
  rw[show vOK v=false by simpa using hok]
  refine WA.oo 26 rfl (OW.call rfl (Hf:=[]) (List.Perm.refl _) (need_no _) rfl (fun v G' H' h _=>by cases h.1) (fun ch G' H' h _=>?_) (fun G' H' h=>by cases h.1))
  obtain⟨he,rfl,rfl⟩:=h
  cases he
  refine WK.un ?_
  exact QF.panicP (⟨rfl,rfl,_,Left.of b A l.length cap pi (k+1:Nat) B vars.length cm,rfl⟩)
 rw[show constR pg.consts l k vars (i:Int)=layRQ l k vars v by rw[constR,if_neg hn0,Int.toNat_natCast,hc];exact if_pos hok]
 rw[hok]
 refine WA.oo 26 rfl (OW.callR rfl (Hf:=[]) (List.Perm.refl _) (need_ok G) rfl (by rintro e G' H' ⟨h,_⟩;exact⟨_,h⟩) fun v' G' H' h hg=>?_)
 obtain⟨he,rfl,rfl⟩:=h
 cases he
 refine WA.done kr ?_
 refine WK.un ?_
 refine WC.draw mixed ?_
 refine za.move 0 ?_
 refine za.move 1 ?_
 refine za.move 2 ?_
 refine za.nil 3 ?_
 refine za.fa 4 ?_
 refine za.fa 5 ?_
 refine za.ld 6 ?_
 refine za.fa 7 ?_
 refine za.ld 8 ?_
 refine za.ix 9 ?_
 refine WA.vv 10 rfl (Gv.loadGN rfl hcs3 rfl) ?_
 by_cases hf:128≤l.length
 ·rw[show layRQ l k vars v= .halt 6 by rw[layRQ,if_pos hf]]
  refine WA.oo 11 rfl (OW.call rfl (Pk.perm pkA) (lay_no G _ b A l.length cap pi (k+1:Nat) B vars.length cm _ hf) rfl (fun v' G' H' h hg=>by cases h.1) (fun ch G' H' h hg=>?_) (fun G' H' h=>by repeat (first | (cases h.1;done) | (cases h;done) | (obtain⟨_,h⟩:=h) | (rcases h with h | h))))
  obtain⟨he,rfl,c,hc,rfl⟩:=h
  cases he
  refine WK.un ?_
  exact QF.panicP ⟨rfl,rfl,_,⟨c,hc,rfl⟩,rfl⟩
 rw[show layRQ l k vars v= .go (l++[v]) (k+1) vars by rw[layRQ,if_neg hf]]
 refine WA.oo 11 rfl (OW.callK rfl (lay_ok G _ b A cap pi (k+1:Nat) B vars.length cm l x v hv (by omega)) rfl fun v' G' H' h hg=>?_)
 obtain⟨A',cap',x',he,rfl,rfl,hv'⟩:=h
 cases he
 refine WA.done kr ?_
 refine WK.un ?_
 exact QF.p0 (.inr rfl) rfl ⟨rfl,A',cap',x',y,rfl,hv',hy,rfl⟩ pkA
end
end
section
attribute [local irreducible] Tryz.prog
theorem VVec.cell {l:List V} {c:Array Value} {i j:Nat} {v:V} {w:Value} (hl:c.toList.take (l.length*4)=vflat l) (hi:l[i]? =some v) (hw:(vcells v)[j]? =some w):c[0+((i:Nat):Int).toNat*4+j]? =some w:=by
 have h:=VVec.elem (A:=none) (cap:=0) (b:=0) hl hi
 rw[←h,List.getElem?_take]at hw
 split at hw
 ·rw[List.getElem?_drop]at hw;simpa using hw
 ·cases hw
theorem vflat_set:∀(l:List V) (i:Nat) (v:V),i<l.length→(vflat l).take (i*4)++vcells v++(vflat l).drop (i*4+4)=vflat (l.set i v)
 | [],i,v,h=>by simp at h
 | u::l,0,v,h=>by simp[vflat,vcells]
 | u::l,i+1,v,h=>by
  have ih:=vflat_set l i v (by simpa using h)
  have e:∀(u:V) (l:List V),vflat (u::l)=vcells u++vflat l:=fun u l=>by simp[vflat]
  rw[List.set_cons_succ,e,e,←ih]
  have h4:(vcells u).length=4:=rfl
  have h1:(i+1)*4=(vcells u).length+i*4:=by rw[h4];omega
  rw[h1,List.take_append,List.drop_append,List.take_of_length_le (by omega),List.drop_eq_nil_of_le (by omega)]
  simp only[Nat.add_sub_cancel_left,List.nil_append,List.append_assoc]
  congr 4
  omega
section
variable (G:Gh) (pg:Pg) (CA PA:Option Addr) (cc pc:Nat) (hC:Sl Kd.val G CA pg.consts) (hP:Sl Kd.prc G PA pg.procs)
  (mb:Nat) (c3:Value) (FA:Option Addr) (fcap:Nat) (en:Int) (w:V) (OA:Option Addr) (ocap:Nat) (st:Int) (ed:Bool) (out:List V) (ox fx:Own) (Hx:List Own) (RL:List V→List Own→Prop)
  (b:Nat) (A:Option Addr) (cap pi:Nat) (pr:Pr) (hpr:pg.procs[pi]? =some pr) (B:Option Addr) (vars:List V) (cm:Nat) (x y:Own) (bs:List Nat) (l:List V) (k:Nat) (hkb:k≤100000000000000)
include hC hP hpr hkb
theorem do_load (n:Int) (hi:pr.code[k]? =some (2,n)) (hv:VVec A cap l x) (hl:l.length≤1000000) (hy:VVec B cm vars y):Fn Tryz.prog 167 #[.pointer (some ⟨mb,0,none⟩), .pointer (some ⟨b,0,none⟩)] G
  (mcB mb (.slice CA pg.consts.length cc) (.slice PA pg.procs.length pc) c3 FA bs.length fcap en w OA out.length ocap st ed::ox::frB b A l.length cap pi k B vars.length cm::x::y::fx::Hx)
  (DoR G mb (.slice CA pg.consts.length cc) (.slice PA pg.procs.length pc) c3 FA fcap en w OA ocap st ed out ox fx Hx RL b A cap pi B vars cm x y bs (k+1) (doR pg pr l k vars bs.length out.length)):=by
 rw[show doR pg pr l k vars bs.length out.length=loadR l k vars n by simp[doR,hi]]
 obtain⟨pb,po,cs,hPA,⟨QA,qc,IA,ic,rfl,hQ,hI⟩,hcs⟩:=hP pi pr hpr
 obtain⟨ib,io,cs2,rfl,hK,hcs2⟩:=hI k (2,n) hi
 obtain rfl:cs2=[.int .i64 2, .int .i64 n]:=hK
 have hk:k<pr.code.length:=(List.getElem?_eq_some_iff.1 hi).1
 have hpl:pi<pg.procs.length:=(List.getElem?_eq_some_iff.1 hpr).1
 subst hPA
 refine Fn.enter Tryz.func167 rfl rfl fun w0=>?_
 refine WC.seq ?_
 refine WC.draw mixed ?_
 refine za.move 0 ?_
 refine za.nil 1 ?_
 refine za.fa 2 ?_
 refine za.fa 3 ?_
 refine za.ld 4 ?_
 refine za.move 5 ?_
 refine za.nil 6 ?_
 refine za.fa 7 ?_
 refine za.ld 8 ?_
 refine za.ix 9 ?_
 refine WA.vv 10 rfl (Gv.loadGN rfl hcs rfl) ?_
 refine WA.oo 11 rfl (OW.alloc rfl fun b1=>?_)
 refine za.st 12 ?_
 refine WA.done kr ?_
 refine WK.un ?_
 refine WC.seq ?_
 refine WC.draw mixed ?_
 refine za.move 0 ?_
 refine za.nil 1 ?_
 refine za.fa 2 ?_
 refine za.ld 3 ?_
 refine WA.pp 4 rfl (Gp.geI' rfl rfl (show decide ((0:Int)≤(k:Int))=true by simp)) ?_
 refine za.move 5 ?_
 refine za.move 6 ?_
 refine za.nil 7 ?_
 refine za.fa 8 ?_
 refine za.ld 9 ?_
 refine za.fa 10 ?_
 refine za.ld 11 ?_
 refine za.len 12 ?_
 refine WA.pp 13 rfl (Gp.ltI' rfl rfl (show decide ((k:Int)<(pr.code.length:Int))=true by simp;omega)) ?_
 refine za.pick 14 ?_
 refine WA.oo 15 rfl (OW.callR rfl (Hf:=[]) (List.Perm.refl _) (need_ok G) rfl (by rintro e G' H' ⟨h,_⟩;exact⟨_,h⟩) fun v' G' H' h hg=>?_)
 obtain⟨he,rfl,rfl⟩:=h
 cases he
 refine WA.done kr ?_
 refine WK.un ?_
 refine WC.seq ?_
 refine WC.draw mixed ?_
 refine za.fa 0 ?_
 refine za.ld 1 ?_
 refine za.move 2 ?_
 refine za.nil 3 ?_
 refine za.fa 4 ?_
 refine za.ld 5 ?_
 refine za.ix 6 ?_
 refine WA.vv 7 rfl (Gv.loadGN rfl hcs2 rfl) ?_
 refine WA.oo 8 rfl (OW.alloc rfl fun b2=>?_)
 refine za.st 9 ?_
 refine WA.done kr ?_
 refine WK.un ?_
 refine WC.seq ?_
 refine WC.region ?_
 refine zw.move ?_
 refine zw.nil ?_
 refine zw.fa ?_
 refine zw.ld ?_
 refine WL.pp (Gp.add' rfl rfl (show IntKind.i64.wrap ((k:Int)+1)=((k+1:Nat):Int) by rw[wrap_small (by omega) (by omega)];omega)) ?_
 refine zw.nil ?_
 refine zw.fa ?_
 refine zw.st ?_
 refine WL.nil ?_
 refine WK.un ?_
 refine WC.seq ?_
 refine WC.region ?_
 refine zw.fa ?_
 refine zw.ld ?_
 refine WL.nil ?_
 refine WK.un ?_
 refine WC.pk (H':= .blk b2 (.cells #[.int .i64 2, .int .i64 n] 50 (0,0)):: .blk b1 (.cells #[.string pr.name, .bool pr.exp, .slice QA pr.params.length qc, .int .i64 pr.locals, .int .i64 pr.result, .slice (some ⟨ib,io,none⟩) pr.code.length ic] 47 (0,0))::mcB mb (.slice CA pg.consts.length cc) (.slice (some ⟨pb,po,none⟩) pg.procs.length pc) c3 FA bs.length fcap en w OA out.length ocap st ed::ox::frB b A l.length cap pi (k+1:Nat) B vars.length cm::x::y::fx::Hx) pkA ?_
 repeat (first | refine WC.seq ?_ | refine WC.block ?_ | (refine WC.region ?_;refine WL.p (Gp.eqI rfl rfl) kr rfl ?_;refine WL.p (Gp.assign rfl) kr rfl ?_;refine WL.nil ?_;refine WK.un ?_) | refine WC.cond_true rfl ?_ | refine WC.cond_false rfl ?_ | (refine WC.skip ?_;refine WK.un ?_) | (refine WC.exit ?_;refine WK.un ?_))
 refine WC.draw mixed ?_
 refine za.fa 0 ?_
 refine za.ld 1 ?_
 by_cases hn0:n<0
 ·rw[show loadR l k vars n= .halt 6 by rw[loadR,if_pos hn0]]
  refine WA.pp 2 rfl (Gp.geI' rfl rfl (show decide ((0:Int)≤n)=false by simpa using hn0)) ?_
  refine za.move 3 ?_
  refine za.skip 4 ?_
  refine za.skip 5 ?_
  refine za.skip 6 ?_
  refine za.skip 7 ?_
  refine za.skip 8 ?_
  refine za.skip 9 ?_
  refine za.skip 10 ?_
  refine za.skip 11 ?_
  refine za.pick 12 ?_
  refine za.move 13 ?_
  refine za.skip 14 ?_
  refine za.skip 15 ?_
  refine za.skip 16 ?_
  refine za.skip 17 ?_
  refine za.skip 18 ?_
  refine za.skip 19 ?_
  refine za.skip 20 ?_
  refine za.skip 21 ?_
  refine za.skip 22 ?_
  refine za.skip 23 ?_
  refine za.pick 24 ?_
  refine WA.oo 25 rfl (OW.call rfl (Hf:=[]) (List.Perm.refl _) (need_no _) rfl (fun v G' H' h _=>by cases h.1) (fun ch G' H' h _=>?_) (fun G' H' h=>by cases h.1))
  obtain⟨he,rfl,rfl⟩:=h
  cases he
  refine WK.un ?_
  exact QF.panicP (⟨rfl,rfl,_,Left.of b A l.length cap pi (k+1:Nat) B vars.length cm,rfl⟩)
 obtain⟨i,rfl⟩:=Int.eq_ofNat_of_zero_le (Int.not_lt.1 hn0)
 refine WA.pp 2 rfl (Gp.geI' rfl rfl (show decide ((0:Int)≤(i:Int))=true by simp)) ?_
 refine za.move 3 ?_
 refine za.fa 4 ?_
 refine za.ld 5 ?_
 refine za.move 6 ?_
 refine za.nil 7 ?_
 refine za.fa 8 ?_
 refine za.ld 9 ?_
 refine za.len 10 ?_
 cases hc:vars[i]? with
 | none=>
  rw[show loadR l k vars (i:Int)= .halt 6 by rw[loadR,if_neg hn0,Int.toNat_natCast,hc]]
  refine WA.pp 11 rfl (Gp.ltI' rfl rfl (show decide ((i:Int)<(vars.length:Int))=false by have:=List.getElem?_eq_none_iff.1 hc;simp;omega)) ?_
  refine za.pick 12 ?_
  refine za.move 13 ?_
  refine za.skip 14 ?_
  refine za.skip 15 ?_
  refine za.skip 16 ?_
  refine za.skip 17 ?_
  refine za.skip 18 ?_
  refine za.skip 19 ?_
  refine za.skip 20 ?_
  refine za.skip 21 ?_
  refine za.skip 22 ?_
  refine za.skip 23 ?_
  refine za.pick 24 ?_
  refine WA.oo 25 rfl (OW.call rfl (Hf:=[]) (List.Perm.refl _) (need_no _) rfl (fun v G' H' h _=>by cases h.1) (fun ch G' H' h _=>?_) (fun G' H' h=>by cases h.1))
  obtain⟨he,rfl,rfl⟩:=h
  cases he
  refine WK.un ?_
  exact QF.panicP (⟨rfl,rfl,_,Left.of b A l.length cap pi (k+1:Nat) B vars.length cm,rfl⟩)
 | some v=>
 have hic:i<vars.length:=(List.getElem?_eq_some_iff.1 hc).1
 obtain⟨hly,⟨h1,h2,h3,h4⟩ | ⟨yb,yc,rfl,rfl,hy1,hy2,hy3⟩⟩:=id hy
 ·omega
 refine WA.pp 11 rfl (Gp.ltI' rfl rfl (show decide ((i:Int)<(vars.length:Int))=true by simp;omega)) ?_
 refine za.pick 12 ?_
 refine za.move 13 ?_
 refine za.move 14 ?_
 refine za.nil 15 ?_
 refine za.fa 16 ?_
 refine za.ld 17 ?_
 refine za.fa 18 ?_
 refine za.ld 19 ?_
 refine za.ix 20 ?_
 refine za.fa 21 ?_
 refine WA.vv 22 rfl (Gv.load1 rfl atA (VVec.cell (j:=0) hy3 hc rfl)) ?_
 by_cases hz:v.t=0
 ·rw[show loadR l k vars (i:Int)= .halt 6 by rw[loadR,if_neg hn0,Int.toNat_natCast,hc];exact if_pos hz]
  refine WA.pp 23 rfl (Gp.neI' rfl rfl (show(v.t != 0)=false by simpa using hz)) ?_
  refine za.pick 24 ?_
  refine WA.oo 25 rfl (OW.call rfl (Hf:=[]) (List.Perm.refl _) (need_no _) rfl (fun v G' H' h _=>by cases h.1) (fun ch G' H' h _=>?_) (fun G' H' h=>by cases h.1))
  obtain⟨he,rfl,rfl⟩:=h
  cases he
  refine WK.un ?_
  exact QF.panicP (⟨rfl,rfl,_,Left.of b A l.length cap pi (k+1:Nat) (some ⟨yb,0,none⟩) vars.length cm,rfl⟩)
 rw[show loadR l k vars (i:Int)=layRQ l k vars v by rw[loadR,if_neg hn0,Int.toNat_natCast,hc];exact if_neg hz]
 refine WA.pp 23 rfl (Gp.neI' rfl rfl (show(v.t != 0)=true by simpa using hz)) ?_
 refine za.pick 24 ?_
 refine WA.oo 25 rfl (OW.callR rfl (Hf:=[]) (List.Perm.refl _) (need_ok G) rfl (by rintro e G' H' ⟨h,_⟩;exact⟨_,h⟩) fun v' G' H' h hg=>?_)
 obtain⟨he,rfl,rfl⟩:=h
 cases he
 refine WA.done kr ?_
 refine WK.un ?_
 refine WC.draw mixed ?_
 refine za.move 0 ?_
 refine za.move 1 ?_
 refine za.move 2 ?_
 refine za.nil 3 ?_
 refine za.fa 4 ?_
 refine za.ld 5 ?_
 refine za.fa 6 ?_
 refine za.ld 7 ?_
 refine za.ix 8 ?_
 refine WA.vv 9 rfl (Gv.loadN rfl atA (VVec.elem (A:=none) (cap:=0) (b:=0) hy3 hc) rfl) ?_
 by_cases hf:128≤l.length
 ·rw[show layRQ l k vars v= .halt 6 by rw[layRQ,if_pos hf]]
  refine WA.oo 10 rfl (OW.call rfl (Pk.perm pkA) (lay_no G _ b A l.length cap pi (k+1:Nat) _ vars.length cm _ hf) rfl (fun v' G' H' h hg=>by cases h.1) (fun ch G' H' h hg=>?_) (fun G' H' h=>by repeat (first | (cases h.1;done) | (cases h;done) | (obtain⟨_,h⟩:=h) | (rcases h with h | h))))
  obtain⟨he,rfl,c,hc,rfl⟩:=h
  cases he
  refine WK.un ?_
  exact QF.panicP ⟨rfl,rfl,_,⟨c,hc,rfl⟩,rfl⟩
 rw[show layRQ l k vars v= .go (l++[v]) (k+1) vars by rw[layRQ,if_neg hf]]
 refine WA.oo 10 rfl (OW.callK rfl (lay_ok G _ b A cap pi (k+1:Nat) _ vars.length cm l x v hv (by omega)) rfl fun v' G' H' h hg=>?_)
 obtain⟨A',cap',x',he,rfl,rfl,hv'⟩:=h
 cases he
 refine WA.done kr ?_
 refine WK.un ?_
 exact QF.p0 (.inr rfl) rfl ⟨rfl,A',cap',x',_,rfl,hv',hy,rfl⟩ pkA
theorem do_store (n:Int) (hi:pr.code[k]? =some (3,n)) (hv:VVec A cap l x) (hl:l.length≤1000000) (hy:VVec B cm vars y):Fn Tryz.prog 167 #[.pointer (some ⟨mb,0,none⟩), .pointer (some ⟨b,0,none⟩)] G
  (mcB mb (.slice CA pg.consts.length cc) (.slice PA pg.procs.length pc) c3 FA bs.length fcap en w OA out.length ocap st ed::ox::frB b A l.length cap pi k B vars.length cm::x::y::fx::Hx)
  (DoR G mb (.slice CA pg.consts.length cc) (.slice PA pg.procs.length pc) c3 FA fcap en w OA ocap st ed out ox fx Hx RL b A cap pi B vars cm x y bs (k+1) (doR pg pr l k vars bs.length out.length)):=by
 rw[show doR pg pr l k vars bs.length out.length=storeR l k vars n by simp[doR,hi]]
 obtain⟨pb,po,cs,hPA,⟨QA,qc,IA,ic,rfl,hQ,hI⟩,hcs⟩:=hP pi pr hpr
 obtain⟨ib,io,cs2,rfl,hK,hcs2⟩:=hI k (3,n) hi
 obtain rfl:cs2=[.int .i64 3, .int .i64 n]:=hK
 have hk:k<pr.code.length:=(List.getElem?_eq_some_iff.1 hi).1
 have hpl:pi<pg.procs.length:=(List.getElem?_eq_some_iff.1 hpr).1
 subst hPA
 refine Fn.enter Tryz.func167 rfl rfl fun w0=>?_
 refine WC.seq ?_
 refine WC.draw mixed ?_
 refine za.move 0 ?_
 refine za.nil 1 ?_
 refine za.fa 2 ?_
 refine za.fa 3 ?_
 refine za.ld 4 ?_
 refine za.move 5 ?_
 refine za.nil 6 ?_
 refine za.fa 7 ?_
 refine za.ld 8 ?_
 refine za.ix 9 ?_
 refine WA.vv 10 rfl (Gv.loadGN rfl hcs rfl) ?_
 refine WA.oo 11 rfl (OW.alloc rfl fun b1=>?_)
 refine za.st 12 ?_
 refine WA.done kr ?_
 refine WK.un ?_
 refine WC.seq ?_
 refine WC.draw mixed ?_
 refine za.move 0 ?_
 refine za.nil 1 ?_
 refine za.fa 2 ?_
 refine za.ld 3 ?_
 refine WA.pp 4 rfl (Gp.geI' rfl rfl (show decide ((0:Int)≤(k:Int))=true by simp)) ?_
 refine za.move 5 ?_
 refine za.move 6 ?_
 refine za.nil 7 ?_
 refine za.fa 8 ?_
 refine za.ld 9 ?_
 refine za.fa 10 ?_
 refine za.ld 11 ?_
 refine za.len 12 ?_
 refine WA.pp 13 rfl (Gp.ltI' rfl rfl (show decide ((k:Int)<(pr.code.length:Int))=true by simp;omega)) ?_
 refine za.pick 14 ?_
 refine WA.oo 15 rfl (OW.callR rfl (Hf:=[]) (List.Perm.refl _) (need_ok G) rfl (by rintro e G' H' ⟨h,_⟩;exact⟨_,h⟩) fun v' G' H' h hg=>?_)
 obtain⟨he,rfl,rfl⟩:=h
 cases he
 refine WA.done kr ?_
 refine WK.un ?_
 refine WC.seq ?_
 refine WC.draw mixed ?_
 refine za.fa 0 ?_
 refine za.ld 1 ?_
 refine za.move 2 ?_
 refine za.nil 3 ?_
 refine za.fa 4 ?_
 refine za.ld 5 ?_
 refine za.ix 6 ?_
 refine WA.vv 7 rfl (Gv.loadGN rfl hcs2 rfl) ?_
 refine WA.oo 8 rfl (OW.alloc rfl fun b2=>?_)
 refine za.st 9 ?_
 refine WA.done kr ?_
 refine WK.un ?_
 refine WC.seq ?_
 refine WC.region ?_
 refine zw.move ?_
 refine zw.nil ?_
 refine zw.fa ?_
 refine zw.ld ?_
 refine WL.pp (Gp.add' rfl rfl (show IntKind.i64.wrap ((k:Int)+1)=((k+1:Nat):Int) by rw[wrap_small (by omega) (by omega)];omega)) ?_
 refine zw.nil ?_
 refine zw.fa ?_
 refine zw.st ?_
 refine WL.nil ?_
 refine WK.un ?_
 refine WC.seq ?_
 refine WC.region ?_
 refine zw.fa ?_
 refine zw.ld ?_
 refine WL.nil ?_
 refine WK.un ?_
 refine WC.pk (H':= .blk b2 (.cells #[.int .i64 3, .int .i64 n] 50 (0,0)):: .blk b1 (.cells #[.string pr.name, .bool pr.exp, .slice QA pr.params.length qc, .int .i64 pr.locals, .int .i64 pr.result, .slice (some ⟨ib,io,none⟩) pr.code.length ic] 47 (0,0))::mcB mb (.slice CA pg.consts.length cc) (.slice (some ⟨pb,po,none⟩) pg.procs.length pc) c3 FA bs.length fcap en w OA out.length ocap st ed::ox::frB b A l.length cap pi (k+1:Nat) B vars.length cm::x::y::fx::Hx) pkA ?_
 repeat (first | refine WC.seq ?_ | refine WC.block ?_ | (refine WC.region ?_;refine WL.p (Gp.eqI rfl rfl) kr rfl ?_;refine WL.p (Gp.assign rfl) kr rfl ?_;refine WL.nil ?_;refine WK.un ?_) | refine WC.cond_true rfl ?_ | refine WC.cond_false rfl ?_ | (refine WC.skip ?_;refine WK.un ?_) | (refine WC.exit ?_;refine WK.un ?_))
 refine WC.draw mixed ?_
 refine za.fa 0 ?_
 refine za.ld 1 ?_
 by_cases hn0:n<0
 ·rw[show storeR l k vars n= .halt 6 by rw[storeR,if_pos (.inl hn0)]]
  refine WA.pp 2 rfl (Gp.geI' rfl rfl (show decide ((0:Int)≤n)=false by simpa using hn0)) ?_
  refine za.move 3 ?_
  refine za.skip 4 ?_
  refine za.skip 5 ?_
  refine za.skip 6 ?_
  refine za.skip 7 ?_
  refine za.skip 8 ?_
  refine za.skip 9 ?_
  refine za.skip 10 ?_
  refine za.skip 11 ?_
  refine za.pick 12 ?_
  refine WA.oo 13 rfl (OW.call rfl (Hf:=[]) (List.Perm.refl _) (need_no _) rfl (fun v G' H' h _=>by cases h.1) (fun ch G' H' h _=>?_) (fun G' H' h=>by cases h.1))
  obtain⟨he,rfl,rfl⟩:=h
  cases he
  refine WK.un ?_
  exact QF.panicP (⟨rfl,rfl,_,Left.of b A l.length cap pi (k+1:Nat) B vars.length cm,rfl⟩)
 obtain⟨i,rfl⟩:=Int.eq_ofNat_of_zero_le (Int.not_lt.1 hn0)
 refine WA.pp 2 rfl (Gp.geI' rfl rfl (show decide ((0:Int)≤(i:Int))=true by simp)) ?_
 refine za.move 3 ?_
 refine za.fa 4 ?_
 refine za.ld 5 ?_
 refine za.move 6 ?_
 refine za.nil 7 ?_
 refine za.fa 8 ?_
 refine za.ld 9 ?_
 refine za.len 10 ?_
 by_cases hic:i<vars.length
 rotate_left
 ·rw[show storeR l k vars (i:Int)= .halt 6 by rw[storeR,if_pos (.inr (by simp;omega))]]
  refine WA.pp 11 rfl (Gp.ltI' rfl rfl (show decide ((i:Int)<(vars.length:Int))=false by simp;omega)) ?_
  refine za.pick 12 ?_
  refine WA.oo 13 rfl (OW.call rfl (Hf:=[]) (List.Perm.refl _) (need_no _) rfl (fun v G' H' h _=>by cases h.1) (fun ch G' H' h _=>?_) (fun G' H' h=>by cases h.1))
  obtain⟨he,rfl,rfl⟩:=h
  cases he
  refine WK.un ?_
  exact QF.panicP (⟨rfl,rfl,_,Left.of b A l.length cap pi (k+1:Nat) B vars.length cm,rfl⟩)
 obtain⟨hly,⟨h1,h2,h3,h4⟩ | ⟨yb,yc,rfl,rfl,hy1,hy2,hy3⟩⟩:=id hy
 ·omega
 refine WA.pp 11 rfl (Gp.ltI' rfl rfl (show decide ((i:Int)<(vars.length:Int))=true by simp;omega)) ?_
 refine za.pick 12 ?_
 refine WA.oo 13 rfl (OW.callR rfl (Hf:=[]) (List.Perm.refl _) (need_ok G) rfl (by rintro e G' H' ⟨h,_⟩;exact⟨_,h⟩) fun v' G' H' h hg=>?_)
 obtain⟨he,rfl,rfl⟩:=h
 cases he
 refine WA.done kr ?_
 refine WK.un ?_
 refine WC.drawW (S:=fun w=>Sat G [.blk b2 (.cells #[.int .i64 3, .int .i64 i] 50 (0,0))] w∧w.cell? ⟨b,3,none⟩=some (.slice (some ⟨yb,0,none⟩) vars.length cm)) mixed (fun w hw=>⟨hw.pk pkA,(hw.cell (o:=3) (b:=b) atA).trans rfl⟩) ?_
 refine WS.tp (i:=0) rfl kr kr rfl (Gp.move rfl) ?_
 refine WS.tp (i:=1) rfl kr kr rfl (Gp.nilCheck rfl) ?_
 refine WS.tp (i:=2) rfl kr kr rfl (Gp.fieldAddr rfl) ?_
 refine WS.tp (i:=4) rfl kr kr rfl (Gp.fieldAddr rfl) ?_
 refine WS.tp (i:=6) rfl kr kr rfl (Gp.move rfl) ?_
 refine WS.tp (i:=7) rfl kr kr rfl (Gp.move rfl) ?_
 refine WS.tv (i:=3) rfl kr kr rfl (fun a w sk hw=>load1_cell rfl sk hw.2) ?_
 refine WS.tv (i:=5) rfl kr kr rfl (fun a w sk hw=>Gv.load1 rfl .here rfl a w sk hw.1) ?_
 cases ht:pop1 l with
 | none=>
  have h1:=pop1_len ht
  rw[show storeR l k vars (i:Int)= .halt 6 by rw[storeR,if_neg (by simp;omega),ht]]
  refine WS.one (i:=8) kr rfl kr (OW.call rfl (Pk.perm pkA) (((take_no G _ b A l.length cap pi (k+1:Nat) (some ⟨yb,0,none⟩) vars.length cm 1 (by omega)).pk (F:=[x]) (.cons .here .nil)).drop fun e G' H' ⟨H2,⟨h1,h2,h3⟩,h4⟩=>⟨H2,by rw[h4];exact List.sublist_append_left _ _,(⟨h1,h2,h3⟩:e=halted 6∧G=G'∧Left b H2)⟩) rfl (fun v' G' H' h hg=>by cases h.1) (fun ch G' H' h hg=>?_) (fun G' H' h=>by repeat (first | (cases h.1;done) | (cases h;done) | (obtain⟨_,h⟩:=h) | (rcases h with h | h))))
  obtain⟨he,rfl,c,hc,rfl⟩:=h
  cases he
  refine WK.un ?_
  exact QF.panicP ⟨rfl,rfl,_,⟨c,hc,rfl⟩,rfl⟩
 | some rv=>
  obtain⟨r,v⟩:=rv
  rw[show storeR l k vars (i:Int)= .go r (k+1) (vars.set i v) by rw[storeR,if_neg (by simp;omega),ht,Int.toNat_natCast]]
  obtain rfl:=pop1_some ht
  refine WS.one (i:=8) kr rfl kr (OW.callK rfl (take1_ok G _ b A cap pi (k+1:Nat) (some ⟨yb,0,none⟩) vars.length cm x r v hv hl) rfl fun v' G' H' h hg=>?_)
  obtain⟨A',cap',x',he,rfl,rfl,hv1,hv2⟩:=h
  cases he
  refine⟨fun w hw=>⟨hw.pk pkA,(hw.cell (o:=3) (b:=b) atA).trans rfl⟩,?_⟩
  obtain⟨hlv,⟨h1,h2,h3,h4⟩ | ⟨xb,xc,rfl,rfl,h1,h2,h3⟩⟩:=hv1
  ·simp at h2
  obtain⟨_,hfit,hput⟩:=Vec.put hy hic (vcells v) rfl
  refine WS.tp (i:=9) rfl kr kr rfl (Gp.indexAddr rfl rfl (by first | assumption | omega | decide) (by first | assumption | omega | decide | (simp only[List.length_cons,List.length_nil];decide))) ?_
  refine WS.one (i:=10) kr rfl kr (OW.gv (Gv.loadN rfl atA (VVec.elem (A:=none) (cap:=0) (b:=0) (i:=0) (v:=v) h3 rfl) rfl) rfl ?_)
  refine⟨fun w hw=>⟨hw.pk pkA,(hw.cell (o:=3) (b:=b) atA).trans rfl⟩,?_⟩
  refine WS.tp (i:=11) rfl kr kr rfl (Gp.indexAddr rfl rfl (by first | assumption | omega | decide) (by first | assumption | omega | decide | (simp only[List.length_cons,List.length_nil];decide))) ?_
  refine WS.one (i:=12) kr rfl kr (OW.store (n:=4) (c':=splice yc (i*4) (vcells v)) rfl rfl atA rfl rfl rfl (by have:(vcells v).length=4:=rfl;exact Nat.ble_eq_true_of_le (by simp;omega)) (by simp;rfl) ?_ rfl)
  refine⟨fun w hw=>⟨hw.pk pkA,(hw.cell (o:=3) (b:=b) atA).trans rfl⟩,?_⟩
  refine WS.done kr ?_
  refine WK.un ?_
  have e:vflat vars=vflat vars:=rfl
  rw[show(vflat vars).take (i*4)++vcells v++(vflat vars).drop (i*4+(vcells v).length)=vflat (vars.set i v)from vflat_set vars i v hic]at hput
  have el:(vars.set i v).length=vars.length:=List.length_set
  exact QF.p0 (.inr rfl) rfl ⟨rfl,A,cap,x,_,rfl,hv2,by unfold VVec;rw[el];exact hput,by rw[el]⟩ pkA
theorem do_jump (n:Int) (hi:pr.code[k]? =some (5,n)) (hv:VVec A cap l x) (hl:l.length≤1000000) (hy:VVec B cm vars y):Fn Tryz.prog 167 #[.pointer (some ⟨mb,0,none⟩), .pointer (some ⟨b,0,none⟩)] G
  (mcB mb (.slice CA pg.consts.length cc) (.slice PA pg.procs.length pc) c3 FA bs.length fcap en w OA out.length ocap st ed::ox::frB b A l.length cap pi k B vars.length cm::x::y::fx::Hx)
  (DoR G mb (.slice CA pg.consts.length cc) (.slice PA pg.procs.length pc) c3 FA fcap en w OA ocap st ed out ox fx Hx RL b A cap pi B vars cm x y bs (k+1) (doR pg pr l k vars bs.length out.length)):=by
 rw[show doR pg pr l k vars bs.length out.length=jumpR pr.code.length l vars n by simp[doR,hi]]
 obtain⟨pb,po,cs,hPA,⟨QA,qc,IA,ic,rfl,hQ,hI⟩,hcs⟩:=hP pi pr hpr
 obtain⟨ib,io,cs2,rfl,hK,hcs2⟩:=hI k (5,n) hi
 obtain rfl:cs2=[.int .i64 5, .int .i64 n]:=hK
 have hk:k<pr.code.length:=(List.getElem?_eq_some_iff.1 hi).1
 have hpl:pi<pg.procs.length:=(List.getElem?_eq_some_iff.1 hpr).1
 subst hPA
 refine Fn.enter Tryz.func167 rfl rfl fun w0=>?_
 refine WC.seq ?_
 refine WC.draw mixed ?_
 refine za.move 0 ?_
 refine za.nil 1 ?_
 refine za.fa 2 ?_
 refine za.fa 3 ?_
 refine za.ld 4 ?_
 refine za.move 5 ?_
 refine za.nil 6 ?_
 refine za.fa 7 ?_
 refine za.ld 8 ?_
 refine za.ix 9 ?_
 refine WA.vv 10 rfl (Gv.loadGN rfl hcs rfl) ?_
 refine WA.oo 11 rfl (OW.alloc rfl fun b1=>?_)
 refine za.st 12 ?_
 refine WA.done kr ?_
 refine WK.un ?_
 refine WC.seq ?_
 refine WC.draw mixed ?_
 refine za.move 0 ?_
 refine za.nil 1 ?_
 refine za.fa 2 ?_
 refine za.ld 3 ?_
 refine WA.pp 4 rfl (Gp.geI' rfl rfl (show decide ((0:Int)≤(k:Int))=true by simp)) ?_
 refine za.move 5 ?_
 refine za.move 6 ?_
 refine za.nil 7 ?_
 refine za.fa 8 ?_
 refine za.ld 9 ?_
 refine za.fa 10 ?_
 refine za.ld 11 ?_
 refine za.len 12 ?_
 refine WA.pp 13 rfl (Gp.ltI' rfl rfl (show decide ((k:Int)<(pr.code.length:Int))=true by simp;omega)) ?_
 refine za.pick 14 ?_
 refine WA.oo 15 rfl (OW.callR rfl (Hf:=[]) (List.Perm.refl _) (need_ok G) rfl (by rintro e G' H' ⟨h,_⟩;exact⟨_,h⟩) fun v' G' H' h hg=>?_)
 obtain⟨he,rfl,rfl⟩:=h
 cases he
 refine WA.done kr ?_
 refine WK.un ?_
 refine WC.seq ?_
 refine WC.draw mixed ?_
 refine za.fa 0 ?_
 refine za.ld 1 ?_
 refine za.move 2 ?_
 refine za.nil 3 ?_
 refine za.fa 4 ?_
 refine za.ld 5 ?_
 refine za.ix 6 ?_
 refine WA.vv 7 rfl (Gv.loadGN rfl hcs2 rfl) ?_
 refine WA.oo 8 rfl (OW.alloc rfl fun b2=>?_)
 refine za.st 9 ?_
 refine WA.done kr ?_
 refine WK.un ?_
 refine WC.seq ?_
 refine WC.region ?_
 refine zw.move ?_
 refine zw.nil ?_
 refine zw.fa ?_
 refine zw.ld ?_
 refine WL.pp (Gp.add' rfl rfl (show IntKind.i64.wrap ((k:Int)+1)=((k+1:Nat):Int) by rw[wrap_small (by omega) (by omega)];omega)) ?_
 refine zw.nil ?_
 refine zw.fa ?_
 refine zw.st ?_
 refine WL.nil ?_
 refine WK.un ?_
 refine WC.seq ?_
 refine WC.region ?_
 refine zw.fa ?_
 refine zw.ld ?_
 refine WL.nil ?_
 refine WK.un ?_
 refine WC.pk (H':= .blk b2 (.cells #[.int .i64 5, .int .i64 n] 50 (0,0)):: .blk b1 (.cells #[.string pr.name, .bool pr.exp, .slice QA pr.params.length qc, .int .i64 pr.locals, .int .i64 pr.result, .slice (some ⟨ib,io,none⟩) pr.code.length ic] 47 (0,0))::mcB mb (.slice CA pg.consts.length cc) (.slice (some ⟨pb,po,none⟩) pg.procs.length pc) c3 FA bs.length fcap en w OA out.length ocap st ed::ox::frB b A l.length cap pi (k+1:Nat) B vars.length cm::x::y::fx::Hx) pkA ?_
 repeat (first | refine WC.seq ?_ | refine WC.block ?_ | (refine WC.region ?_;refine WL.p (Gp.eqI rfl rfl) kr rfl ?_;refine WL.p (Gp.assign rfl) kr rfl ?_;refine WL.nil ?_;refine WK.un ?_) | refine WC.cond_true rfl ?_ | refine WC.cond_false rfl ?_ | (refine WC.skip ?_;refine WK.un ?_) | (refine WC.exit ?_;refine WK.un ?_))
 refine WC.region ?_
 refine zw.fa ?_
 refine zw.ld ?_
 by_cases hn0:n<0
 ·rw[show jumpR pr.code.length l vars n= .halt 6 by rw[jumpR,if_pos (.inl hn0)]]
  refine WL.pp (Gp.geI' rfl rfl (show decide ((0:Int)≤n)=false by simpa using hn0)) ?_
  refine zw.move ?_
  refine zw.skip ?_
  refine zw.skip ?_
  refine zw.skip ?_
  refine zw.skip ?_
  refine zw.skip ?_
  refine zw.skip ?_
  refine zw.pick ?_
  refine WL.oo (OW.call rfl (Hf:=[]) (List.Perm.refl _) (need_no _) rfl (fun v G' H' h _=>by cases h.1) (fun ch G' H' h _=>?_) (fun G' H' h=>by cases h.1))
  obtain⟨he,rfl,rfl⟩:=h
  cases he
  refine WK.un ?_
  exact QF.panicP (⟨rfl,rfl,_,Left.of b A l.length cap pi (k+1:Nat) B vars.length cm,rfl⟩)
 obtain⟨i,rfl⟩:=Int.eq_ofNat_of_zero_le (Int.not_lt.1 hn0)
 refine WL.pp (Gp.geI' rfl rfl (show decide ((0:Int)≤(i:Int))=true by simp)) ?_
 refine zw.move ?_
 refine zw.fa ?_
 refine zw.ld ?_
 refine zw.fa ?_
 refine zw.ld ?_
 refine zw.len ?_
 by_cases hic:i<pr.code.length
 rotate_left
 ·rw[show jumpR pr.code.length l vars (i:Int)= .halt 6 by rw[jumpR,if_pos (.inr (by simp;omega))]]
  refine WL.pp (Gp.ltI' rfl rfl (show decide ((i:Int)<(pr.code.length:Int))=false by simp;omega)) ?_
  refine zw.pick ?_
  refine WL.oo (OW.call rfl (Hf:=[]) (List.Perm.refl _) (need_no _) rfl (fun v G' H' h _=>by cases h.1) (fun ch G' H' h _=>?_) (fun G' H' h=>by cases h.1))
  obtain⟨he,rfl,rfl⟩:=h
  cases he
  refine WK.un ?_
  exact QF.panicP (⟨rfl,rfl,_,Left.of b A l.length cap pi (k+1:Nat) B vars.length cm,rfl⟩)
 refine WL.pp (Gp.ltI' rfl rfl (show decide ((i:Int)<(pr.code.length:Int))=true by simp;omega)) ?_
 refine zw.pick ?_
 refine WL.oo (OW.callR rfl (Hf:=[]) (List.Perm.refl _) (need_ok G) rfl (by rintro e G' H' ⟨h,_⟩;exact⟨_,h⟩) fun v' G' H' h hg=>?_)
 obtain⟨he,rfl,rfl⟩:=h
 cases he
 refine WL.nil ?_
 refine WK.un ?_
 refine WC.seq ?_
 refine WC.region ?_
 refine zw.fa ?_
 refine zw.ld ?_
 refine zw.eq ?_
 refine zw.move ?_
 refine zw.skip ?_
 refine zw.skip ?_
 refine zw.skip ?_
 refine zw.skip ?_
 refine zw.skip ?_
 refine zw.skip ?_
 refine zw.skip ?_
 refine zw.pick ?_
 refine WL.nil ?_
 refine WK.un ?_
 refine WC.cond_true rfl ?_
 refine WC.region ?_
 refine zw.move ?_
 refine zw.fa ?_
 refine zw.ld ?_
 refine zw.nil ?_
 refine zw.fa ?_
 refine zw.st ?_
 refine WL.nil ?_
 refine WK.un ?_
 rw[show jumpR pr.code.length l vars (i:Int)= .go l i vars by rw[jumpR,if_neg (by simp;omega),Int.toNat_natCast]]
 exact QF.p0 (.inr rfl) rfl ⟨rfl,A,cap,x,y,rfl,hv,hy,rfl⟩ pkA
theorem do_unless (n:Int) (hi:pr.code[k]? =some (6,n)) (hv:VVec A cap l x) (hl:l.length≤1000000) (hy:VVec B cm vars y):Fn Tryz.prog 167 #[.pointer (some ⟨mb,0,none⟩), .pointer (some ⟨b,0,none⟩)] G
  (mcB mb (.slice CA pg.consts.length cc) (.slice PA pg.procs.length pc) c3 FA bs.length fcap en w OA out.length ocap st ed::ox::frB b A l.length cap pi k B vars.length cm::x::y::fx::Hx)
  (DoR G mb (.slice CA pg.consts.length cc) (.slice PA pg.procs.length pc) c3 FA fcap en w OA ocap st ed out ox fx Hx RL b A cap pi B vars cm x y bs (k+1) (doR pg pr l k vars bs.length out.length)):=by
 rw[show doR pg pr l k vars bs.length out.length=unlessR pr.code.length l k vars n by simp[doR,hi]]
 obtain⟨pb,po,cs,hPA,⟨QA,qc,IA,ic,rfl,hQ,hI⟩,hcs⟩:=hP pi pr hpr
 obtain⟨ib,io,cs2,rfl,hK,hcs2⟩:=hI k (6,n) hi
 obtain rfl:cs2=[.int .i64 6, .int .i64 n]:=hK
 have hk:k<pr.code.length:=(List.getElem?_eq_some_iff.1 hi).1
 have hpl:pi<pg.procs.length:=(List.getElem?_eq_some_iff.1 hpr).1
 subst hPA
 refine Fn.enter Tryz.func167 rfl rfl fun w0=>?_
 refine WC.seq ?_
 refine WC.draw mixed ?_
 refine za.move 0 ?_
 refine za.nil 1 ?_
 refine za.fa 2 ?_
 refine za.fa 3 ?_
 refine za.ld 4 ?_
 refine za.move 5 ?_
 refine za.nil 6 ?_
 refine za.fa 7 ?_
 refine za.ld 8 ?_
 refine za.ix 9 ?_
 refine WA.vv 10 rfl (Gv.loadGN rfl hcs rfl) ?_
 refine WA.oo 11 rfl (OW.alloc rfl fun b1=>?_)
 refine za.st 12 ?_
 refine WA.done kr ?_
 refine WK.un ?_
 refine WC.seq ?_
 refine WC.draw mixed ?_
 refine za.move 0 ?_
 refine za.nil 1 ?_
 refine za.fa 2 ?_
 refine za.ld 3 ?_
 refine WA.pp 4 rfl (Gp.geI' rfl rfl (show decide ((0:Int)≤(k:Int))=true by simp)) ?_
 refine za.move 5 ?_
 refine za.move 6 ?_
 refine za.nil 7 ?_
 refine za.fa 8 ?_
 refine za.ld 9 ?_
 refine za.fa 10 ?_
 refine za.ld 11 ?_
 refine za.len 12 ?_
 refine WA.pp 13 rfl (Gp.ltI' rfl rfl (show decide ((k:Int)<(pr.code.length:Int))=true by simp;omega)) ?_
 refine za.pick 14 ?_
 refine WA.oo 15 rfl (OW.callR rfl (Hf:=[]) (List.Perm.refl _) (need_ok G) rfl (by rintro e G' H' ⟨h,_⟩;exact⟨_,h⟩) fun v' G' H' h hg=>?_)
 obtain⟨he,rfl,rfl⟩:=h
 cases he
 refine WA.done kr ?_
 refine WK.un ?_
 refine WC.seq ?_
 refine WC.draw mixed ?_
 refine za.fa 0 ?_
 refine za.ld 1 ?_
 refine za.move 2 ?_
 refine za.nil 3 ?_
 refine za.fa 4 ?_
 refine za.ld 5 ?_
 refine za.ix 6 ?_
 refine WA.vv 7 rfl (Gv.loadGN rfl hcs2 rfl) ?_
 refine WA.oo 8 rfl (OW.alloc rfl fun b2=>?_)
 refine za.st 9 ?_
 refine WA.done kr ?_
 refine WK.un ?_
 refine WC.seq ?_
 refine WC.region ?_
 refine zw.move ?_
 refine zw.nil ?_
 refine zw.fa ?_
 refine zw.ld ?_
 refine WL.pp (Gp.add' rfl rfl (show IntKind.i64.wrap ((k:Int)+1)=((k+1:Nat):Int) by rw[wrap_small (by omega) (by omega)];omega)) ?_
 refine zw.nil ?_
 refine zw.fa ?_
 refine zw.st ?_
 refine WL.nil ?_
 refine WK.un ?_
 refine WC.seq ?_
 refine WC.region ?_
 refine zw.fa ?_
 refine zw.ld ?_
 refine WL.nil ?_
 refine WK.un ?_
 refine WC.pk (H':= .blk b2 (.cells #[.int .i64 6, .int .i64 n] 50 (0,0)):: .blk b1 (.cells #[.string pr.name, .bool pr.exp, .slice QA pr.params.length qc, .int .i64 pr.locals, .int .i64 pr.result, .slice (some ⟨ib,io,none⟩) pr.code.length ic] 47 (0,0))::mcB mb (.slice CA pg.consts.length cc) (.slice (some ⟨pb,po,none⟩) pg.procs.length pc) c3 FA bs.length fcap en w OA out.length ocap st ed::ox::frB b A l.length cap pi (k+1:Nat) B vars.length cm::x::y::fx::Hx) pkA ?_
 repeat (first | refine WC.seq ?_ | refine WC.block ?_ | (refine WC.region ?_;refine WL.p (Gp.eqI rfl rfl) kr rfl ?_;refine WL.p (Gp.assign rfl) kr rfl ?_;refine WL.nil ?_;refine WK.un ?_) | refine WC.cond_true rfl ?_ | refine WC.cond_false rfl ?_ | (refine WC.skip ?_;refine WK.un ?_) | (refine WC.exit ?_;refine WK.un ?_))
 refine WC.region ?_
 refine zw.fa ?_
 refine zw.ld ?_
 by_cases hn0:n<0
 ·rw[show unlessR pr.code.length l k vars n= .halt 6 by rw[unlessR,if_pos (.inl hn0)]]
  refine WL.pp (Gp.geI' rfl rfl (show decide ((0:Int)≤n)=false by simpa using hn0)) ?_
  refine zw.move ?_
  refine zw.skip ?_
  refine zw.skip ?_
  refine zw.skip ?_
  refine zw.skip ?_
  refine zw.skip ?_
  refine zw.skip ?_
  refine zw.pick ?_
  refine WL.oo (OW.call rfl (Hf:=[]) (List.Perm.refl _) (need_no _) rfl (fun v G' H' h _=>by cases h.1) (fun ch G' H' h _=>?_) (fun G' H' h=>by cases h.1))
  obtain⟨he,rfl,rfl⟩:=h
  cases he
  refine WK.un ?_
  exact QF.panicP (⟨rfl,rfl,_,Left.of b A l.length cap pi (k+1:Nat) B vars.length cm,rfl⟩)
 obtain⟨i,rfl⟩:=Int.eq_ofNat_of_zero_le (Int.not_lt.1 hn0)
 refine WL.pp (Gp.geI' rfl rfl (show decide ((0:Int)≤(i:Int))=true by simp)) ?_
 refine zw.move ?_
 refine zw.fa ?_
 refine zw.ld ?_
 refine zw.fa ?_
 refine zw.ld ?_
 refine zw.len ?_
 by_cases hic:i<pr.code.length
 rotate_left
 ·rw[show unlessR pr.code.length l k vars (i:Int)= .halt 6 by rw[unlessR,if_pos (.inr (by simp;omega))]]
  refine WL.pp (Gp.ltI' rfl rfl (show decide ((i:Int)<(pr.code.length:Int))=false by simp;omega)) ?_
  refine zw.pick ?_
  refine WL.oo (OW.call rfl (Hf:=[]) (List.Perm.refl _) (need_no _) rfl (fun v G' H' h _=>by cases h.1) (fun ch G' H' h _=>?_) (fun G' H' h=>by cases h.1))
  obtain⟨he,rfl,rfl⟩:=h
  cases he
  refine WK.un ?_
  exact QF.panicP (⟨rfl,rfl,_,Left.of b A l.length cap pi (k+1:Nat) B vars.length cm,rfl⟩)
 refine WL.pp (Gp.ltI' rfl rfl (show decide ((i:Int)<(pr.code.length:Int))=true by simp;omega)) ?_
 refine zw.pick ?_
 refine WL.oo (OW.callR rfl (Hf:=[]) (List.Perm.refl _) (need_ok G) rfl (by rintro e G' H' ⟨h,_⟩;exact⟨_,h⟩) fun v' G' H' h hg=>?_)
 obtain⟨he,rfl,rfl⟩:=h
 cases he
 refine WL.nil ?_
 refine WK.un ?_
 refine WC.seq ?_
 refine WC.region ?_
 refine zw.fa ?_
 refine zw.ld ?_
 refine zw.eq ?_
 refine zw.move ?_
 refine zw.move ?_
 refine zw.move ?_
 cases ht:ty1 l 2 with
 | none=>
  rw[show unlessR pr.code.length l k vars (i:Int)= .halt 6 by rw[unlessR,if_neg (by simp;omega),ht]]
  refine WL.oo (OW.call rfl (Pk.perm pkA) (typed1_no G _ b A cap pi (k+1:Nat) B vars.length cm x l 2 ht hv hl) rfl (fun v' G' H' h hg=>by cases h.1) (fun ch G' H' h hg=>?_) (fun G' H' h=>by repeat (first | (cases h.1;done) | (cases h;done) | (obtain⟨_,h⟩:=h) | (rcases h with h | h))))
  obtain⟨he,rfl,c,hc,rfl⟩:=h
  cases he
  refine WK.un ?_
  exact QF.panicP ⟨rfl,rfl,_,⟨c,hc,rfl⟩,rfl⟩
 | some rv=>
  obtain⟨r,v⟩:=rv
  rw[show unlessR pr.code.length l k vars (i:Int)= .go r (if v.b then k+1 else i) vars by rw[unlessR,if_neg (by simp;omega),ht,Int.toNat_natCast]]
  obtain⟨rfl,hvt⟩:=ty1_some ht
  refine WL.oo (OW.callK rfl (typed1_ok G _ b A cap pi (k+1:Nat) B vars.length cm x r v 2 hvt hv hl) rfl fun v' G' H' h hg=>?_)
  obtain⟨A',cap',x',he,rfl,rfl,hv1,hv2⟩:=h
  cases he
  obtain⟨hlv,⟨h1,h2,h3,h4⟩ | ⟨b',c',rfl,rfl,h1,h2,h3⟩⟩:=hv1
  ·simp at h2
  refine zw.ix ?_
  refine zw.fa ?_
  refine WL.vv (Gv.load1 rfl .here (one_lo (v:=v) (j:=2) h3 rfl)) ?_
  refine zw.not ?_
  refine zw.pick ?_
  refine WL.nil ?_
  refine WK.un ?_
  cases hb:v.b with
  | false=>
   refine WC.cond_true rfl ?_
   refine WC.region ?_
   refine zw.move ?_
   refine zw.fa ?_
   refine zw.ld ?_
   refine zw.nil ?_
   refine zw.fa ?_
   refine zw.st ?_
   refine WL.nil ?_
   refine WK.un ?_
   exact QF.p0 (.inr rfl) rfl ⟨rfl,A,cap,x,y,rfl,hv2,hy,rfl⟩ pkA
  | true=>
   refine WC.cond_false rfl ?_
   refine WC.skip ?_
   refine WK.un ?_
   exact QF.p0 (.inr rfl) rfl ⟨rfl,A,cap,x,y,rfl,hv2,hy,rfl⟩ pkA
theorem do_call (n:Int) (hi:pr.code[k]? =some (7,n)) (hv:VVec A cap l x) (hl:l.length≤1000000) (hfv:PVec FA fcap bs fx) (hbs:bs.length≤1000000000):Fn Tryz.prog 167 #[.pointer (some ⟨mb,0,none⟩), .pointer (some ⟨b,0,none⟩)] G
  (mcB mb (.slice CA pg.consts.length cc) (.slice PA pg.procs.length pc) c3 FA bs.length fcap en w OA out.length ocap st ed::ox::frB b A l.length cap pi k B vars.length cm::x::y::fx::Hx)
  (DoR G mb (.slice CA pg.consts.length cc) (.slice PA pg.procs.length pc) c3 FA fcap en w OA ocap st ed out ox fx Hx RL b A cap pi B vars cm x y bs (k+1) (doR pg pr l k vars bs.length out.length)):=by
 rw[show doR pg pr l k vars bs.length out.length=callD pg.procs l n bs.length by simp[doR,hi]]
 obtain⟨pb,po,cs,hPA,⟨QA,qc,IA,ic,rfl,hQ,hI⟩,hcs⟩:=hP pi pr hpr
 obtain⟨ib,io,cs2,rfl,hK,hcs2⟩:=hI k (7,n) hi
 obtain rfl:cs2=[.int .i64 7, .int .i64 n]:=hK
 have hk:k<pr.code.length:=(List.getElem?_eq_some_iff.1 hi).1
 have hpl:pi<pg.procs.length:=(List.getElem?_eq_some_iff.1 hpr).1
 subst hPA
 refine Fn.enter Tryz.func167 rfl rfl fun w0=>?_
 refine WC.seq ?_
 refine WC.draw mixed ?_
 refine za.move 0 ?_
 refine za.nil 1 ?_
 refine za.fa 2 ?_
 refine za.fa 3 ?_
 refine za.ld 4 ?_
 refine za.move 5 ?_
 refine za.nil 6 ?_
 refine za.fa 7 ?_
 refine za.ld 8 ?_
 refine za.ix 9 ?_
 refine WA.vv 10 rfl (Gv.loadGN rfl hcs rfl) ?_
 refine WA.oo 11 rfl (OW.alloc rfl fun b1=>?_)
 refine za.st 12 ?_
 refine WA.done kr ?_
 refine WK.un ?_
 refine WC.seq ?_
 refine WC.draw mixed ?_
 refine za.move 0 ?_
 refine za.nil 1 ?_
 refine za.fa 2 ?_
 refine za.ld 3 ?_
 refine WA.pp 4 rfl (Gp.geI' rfl rfl (show decide ((0:Int)≤(k:Int))=true by simp)) ?_
 refine za.move 5 ?_
 refine za.move 6 ?_
 refine za.nil 7 ?_
 refine za.fa 8 ?_
 refine za.ld 9 ?_
 refine za.fa 10 ?_
 refine za.ld 11 ?_
 refine za.len 12 ?_
 refine WA.pp 13 rfl (Gp.ltI' rfl rfl (show decide ((k:Int)<(pr.code.length:Int))=true by simp;omega)) ?_
 refine za.pick 14 ?_
 refine WA.oo 15 rfl (OW.callR rfl (Hf:=[]) (List.Perm.refl _) (need_ok G) rfl (by rintro e G' H' ⟨h,_⟩;exact⟨_,h⟩) fun v' G' H' h hg=>?_)
 obtain⟨he,rfl,rfl⟩:=h
 cases he
 refine WA.done kr ?_
 refine WK.un ?_
 refine WC.seq ?_
 refine WC.draw mixed ?_
 refine za.fa 0 ?_
 refine za.ld 1 ?_
 refine za.move 2 ?_
 refine za.nil 3 ?_
 refine za.fa 4 ?_
 refine za.ld 5 ?_
 refine za.ix 6 ?_
 refine WA.vv 7 rfl (Gv.loadGN rfl hcs2 rfl) ?_
 refine WA.oo 8 rfl (OW.alloc rfl fun b2=>?_)
 refine za.st 9 ?_
 refine WA.done kr ?_
 refine WK.un ?_
 refine WC.seq ?_
 refine WC.region ?_
 refine zw.move ?_
 refine zw.nil ?_
 refine zw.fa ?_
 refine zw.ld ?_
 refine WL.pp (Gp.add' rfl rfl (show IntKind.i64.wrap ((k:Int)+1)=((k+1:Nat):Int) by rw[wrap_small (by omega) (by omega)];omega)) ?_
 refine zw.nil ?_
 refine zw.fa ?_
 refine zw.st ?_
 refine WL.nil ?_
 refine WK.un ?_
 refine WC.seq ?_
 refine WC.region ?_
 refine zw.fa ?_
 refine zw.ld ?_
 refine WL.nil ?_
 refine WK.un ?_
 refine WC.pk (H':= .blk b2 (.cells #[.int .i64 7, .int .i64 n] 50 (0,0)):: .blk b1 (.cells #[.string pr.name, .bool pr.exp, .slice QA pr.params.length qc, .int .i64 pr.locals, .int .i64 pr.result, .slice (some ⟨ib,io,none⟩) pr.code.length ic] 47 (0,0))::mcB mb (.slice CA pg.consts.length cc) (.slice (some ⟨pb,po,none⟩) pg.procs.length pc) c3 FA bs.length fcap en w OA out.length ocap st ed::ox::frB b A l.length cap pi (k+1:Nat) B vars.length cm::x::y::fx::Hx) pkA ?_
 repeat (first | refine WC.seq ?_ | refine WC.block ?_ | (refine WC.region ?_;refine WL.p (Gp.eqI rfl rfl) kr rfl ?_;refine WL.p (Gp.assign rfl) kr rfl ?_;refine WL.nil ?_;refine WK.un ?_) | refine WC.cond_true rfl ?_ | refine WC.cond_false rfl ?_ | (refine WC.skip ?_;refine WK.un ?_) | (refine WC.exit ?_;refine WK.un ?_))
 refine WC.region ?_
 refine zw.move ?_
 refine zw.move ?_
 refine zw.fa ?_
 refine zw.ld ?_
 cases hq:callR pg.procs l n bs.length with
 | error e=>
  rw[show callD pg.procs l n bs.length= .halt e by rw[callD,hq]]
  refine WL.oo (OW.call rfl (Pk.perm pkA) ((call_fn G mb (.slice CA pg.consts.length cc) c3 (some ⟨pb,po,none⟩) pc pg.procs FA fcap en w OA out.length ocap st ed bs fx hP hfv hbs b A cap pi (k+1:Nat) B vars.length cm l x hv hl n).mono fun e' G' H' h=>(by rw[hq]at h;exact h:G=G'∧e'=halted e∧∃H1,Left b H1∧H'=mcB mb (.slice CA pg.consts.length cc) (.slice (some ⟨pb,po,none⟩) pg.procs.length pc) c3 FA bs.length fcap en w OA out.length ocap st ed::fx::H1)) rfl (fun v' G' H' h hg=>by cases h.2.1) (fun ch G' H' h hg=>?_) (fun G' H' h=>by cases h.2.1))
  obtain⟨rfl,he,H1,⟨c,hc,rfl⟩,rfl⟩:=h
  cases he
  refine WK.un ?_
  exact QF.panicP ⟨rfl,rfl,_,⟨c,hc,rfl⟩,rfl⟩ pkA
 | ok t=>
  obtain⟨q,r,args⟩:=t
  rw[show callD pg.procs l n bs.length= .call q r args n by rw[callD,hq]]
  refine WL.oo (OW.callR rfl (Pk.perm pkA) ((call_fn G mb (.slice CA pg.consts.length cc) c3 (some ⟨pb,po,none⟩) pc pg.procs FA fcap en w OA out.length ocap st ed bs fx hP hfv hbs b A cap pi (k+1:Nat) B vars.length cm l x hv hl n).mono fun e' G' H' h=>(by rw[hq]at h;exact h)) rfl (by rintro e G' H' ⟨_,_,_,_,_,_,_,h,_⟩;exact⟨_,h⟩) fun v' G' H' h hg=>?_)
  obtain⟨rfl,FA',fcap',b',VA,x',yv,he,rfl,hx2,hy2,hv2⟩:=h
  cases he
  refine WL.nil ?_
  refine WK.un ?_
  exact QF.p0 (.inr rfl) rfl ⟨rfl,FA',fcap',b',VA,x',yv,rfl,hx2,hy2,hv2,rfl⟩ pkA
end
end
section
attribute [local irreducible] Tryz.prog
section
variable (G:Gh) (pg:Pg) (CA PA:Option Addr) (cc pc:Nat) (hC:Sl Kd.val G CA pg.consts) (hP:Sl Kd.prc G PA pg.procs)
  (mb:Nat) (c3:Value) (FA:Option Addr) (fcap:Nat) (en:Int) (w:V) (OA:Option Addr) (ocap:Nat) (st:Int) (ed:Bool) (out:List V) (ox fx:Own) (Hx:List Own) (RL:List V→List Own→Prop)
  (b:Nat) (A:Option Addr) (cap pi:Nat) (pr:Pr) (hpr:pg.procs[pi]? =some pr) (B:Option Addr) (vars:List V) (cm:Nat) (x y:Own) (bs:List Nat) (l:List V) (k:Nat) (hkb:k≤100000000000000)
include hC hP hpr hkb
theorem do_plain (c:Int) (hc:¬(c=1∨c=2∨c=3∨c=5∨c=6∨c=7)) (n:Int) (hi:pr.code[k]? =some (c,n)) (hv:VVec A cap l x) (hl:l.length≤1000000) (hy:VVec B cm vars y) (hz:∀v∈l,v.s.size≤400000000000) (ho:VVec OA ocap out ox) (hL:Lv G mb (mcB mb (.slice CA pg.consts.length cc) (.slice PA pg.procs.length pc) c3 FA bs.length fcap en w OA out.length ocap st ed) fx Hx RL):Fn Tryz.prog 167 #[.pointer (some ⟨mb,0,none⟩), .pointer (some ⟨b,0,none⟩)] G
  (mcB mb (.slice CA pg.consts.length cc) (.slice PA pg.procs.length pc) c3 FA bs.length fcap en w OA out.length ocap st ed::ox::frB b A l.length cap pi k B vars.length cm::x::y::fx::Hx)
  (DoR G mb (.slice CA pg.consts.length cc) (.slice PA pg.procs.length pc) c3 FA fcap en w OA ocap st ed out ox fx Hx RL b A cap pi B vars cm x y bs (k+1) (doR pg pr l k vars bs.length out.length)):=by
 simp only[not_or]at hc
 obtain⟨h1,h2,h3,h5,h6,h7⟩:=hc
 rw[show doR pg pr l k vars bs.length out.length=(if n≠0 then .halt 6 else plainD pr.result l k vars c out.length) by simp[doR,hi,h1,h2,h3,h5,h6,h7]]
 obtain⟨pb,po,cs,hPA,⟨QA,qc,IA,ic,rfl,hQ,hI⟩,hcs⟩:=hP pi pr hpr
 obtain⟨ib,io,cs2,rfl,hK,hcs2⟩:=hI k (c,n) hi
 obtain rfl:cs2=[.int .i64 c, .int .i64 n]:=hK
 have hk:k<pr.code.length:=(List.getElem?_eq_some_iff.1 hi).1
 have hpl:pi<pg.procs.length:=(List.getElem?_eq_some_iff.1 hpr).1
 subst hPA
 refine Fn.enter Tryz.func167 rfl rfl fun w0=>?_
 refine WC.seq ?_
 refine WC.draw mixed ?_
 refine za.move 0 ?_
 refine za.nil 1 ?_
 refine za.fa 2 ?_
 refine za.fa 3 ?_
 refine za.ld 4 ?_
 refine za.move 5 ?_
 refine za.nil 6 ?_
 refine za.fa 7 ?_
 refine za.ld 8 ?_
 refine za.ix 9 ?_
 refine WA.vv 10 rfl (Gv.loadGN rfl hcs rfl) ?_
 refine WA.oo 11 rfl (OW.alloc rfl fun b1=>?_)
 refine za.st 12 ?_
 refine WA.done kr ?_
 refine WK.un ?_
 refine WC.seq ?_
 refine WC.draw mixed ?_
 refine za.move 0 ?_
 refine za.nil 1 ?_
 refine za.fa 2 ?_
 refine za.ld 3 ?_
 refine WA.pp 4 rfl (Gp.geI' rfl rfl (show decide ((0:Int)≤(k:Int))=true by simp)) ?_
 refine za.move 5 ?_
 refine za.move 6 ?_
 refine za.nil 7 ?_
 refine za.fa 8 ?_
 refine za.ld 9 ?_
 refine za.fa 10 ?_
 refine za.ld 11 ?_
 refine za.len 12 ?_
 refine WA.pp 13 rfl (Gp.ltI' rfl rfl (show decide ((k:Int)<(pr.code.length:Int))=true by simp;omega)) ?_
 refine za.pick 14 ?_
 refine WA.oo 15 rfl (OW.callR rfl (Hf:=[]) (List.Perm.refl _) (need_ok G) rfl (by rintro e G' H' ⟨h,_⟩;exact⟨_,h⟩) fun v' G' H' h hg=>?_)
 obtain⟨he,rfl,rfl⟩:=h
 cases he
 refine WA.done kr ?_
 refine WK.un ?_
 refine WC.seq ?_
 refine WC.draw mixed ?_
 refine za.fa 0 ?_
 refine za.ld 1 ?_
 refine za.move 2 ?_
 refine za.nil 3 ?_
 refine za.fa 4 ?_
 refine za.ld 5 ?_
 refine za.ix 6 ?_
 refine WA.vv 7 rfl (Gv.loadGN rfl hcs2 rfl) ?_
 refine WA.oo 8 rfl (OW.alloc rfl fun b2=>?_)
 refine za.st 9 ?_
 refine WA.done kr ?_
 refine WK.un ?_
 refine WC.seq ?_
 refine WC.region ?_
 refine zw.move ?_
 refine zw.nil ?_
 refine zw.fa ?_
 refine zw.ld ?_
 refine WL.pp (Gp.add' rfl rfl (show IntKind.i64.wrap ((k:Int)+1)=((k+1:Nat):Int) by rw[wrap_small (by omega) (by omega)];omega)) ?_
 refine zw.nil ?_
 refine zw.fa ?_
 refine zw.st ?_
 refine WL.nil ?_
 refine WK.un ?_
 refine WC.seq ?_
 refine WC.region ?_
 refine zw.fa ?_
 refine zw.ld ?_
 refine WL.nil ?_
 refine WK.un ?_
 refine WC.pk (H':= .blk b2 (.cells #[.int .i64 c, .int .i64 n] 50 (0,0)):: .blk b1 (.cells #[.string pr.name, .bool pr.exp, .slice QA pr.params.length qc, .int .i64 pr.locals, .int .i64 pr.result, .slice (some ⟨ib,io,none⟩) pr.code.length ic] 47 (0,0))::mcB mb (.slice CA pg.consts.length cc) (.slice (some ⟨pb,po,none⟩) pg.procs.length pc) c3 FA bs.length fcap en w OA out.length ocap st ed::ox::frB b A l.length cap pi (k+1:Nat) B vars.length cm::x::y::fx::Hx) pkA ?_
 repeat (first | refine WC.seq ?_ | refine WC.block ?_ | (refine WC.skip ?_;refine WK.un ?_) | (refine WC.exit ?_;refine WK.un ?_))
 refine WC.region ?_
 refine zw.eq ?_
 refine zw.assign ?_
 refine WL.nil ?_
 refine WK.un ?_
 refine WC.cond rfl (fun hc=>absurd (by simpa using hc) h1) (fun _=>?_)
 repeat (first | refine WC.seq ?_ | refine WC.block ?_ | (refine WC.skip ?_;refine WK.un ?_) | (refine WC.exit ?_;refine WK.un ?_))
 refine WC.region ?_
 refine zw.eq ?_
 refine zw.assign ?_
 refine WL.nil ?_
 refine WK.un ?_
 refine WC.cond rfl (fun hc=>absurd (by simpa using hc) h2) (fun _=>?_)
 repeat (first | refine WC.seq ?_ | refine WC.block ?_ | (refine WC.skip ?_;refine WK.un ?_) | (refine WC.exit ?_;refine WK.un ?_))
 refine WC.region ?_
 refine zw.eq ?_
 refine zw.assign ?_
 refine WL.nil ?_
 refine WK.un ?_
 refine WC.cond rfl (fun hc=>absurd (by simpa using hc) h3) (fun _=>?_)
 repeat (first | refine WC.seq ?_ | refine WC.block ?_ | (refine WC.skip ?_;refine WK.un ?_) | (refine WC.exit ?_;refine WK.un ?_))
 refine WC.region ?_
 refine zw.eq ?_
 refine zw.assign ?_
 refine WL.nil ?_
 refine WK.un ?_
 refine WC.cond rfl (fun hc=>absurd (by simpa using hc) h5) (fun _=>?_)
 repeat (first | refine WC.seq ?_ | refine WC.block ?_ | (refine WC.skip ?_;refine WK.un ?_) | (refine WC.exit ?_;refine WK.un ?_))
 refine WC.region ?_
 refine zw.eq ?_
 refine zw.assign ?_
 refine WL.nil ?_
 refine WK.un ?_
 refine WC.cond rfl (fun hc=>absurd (by simpa using hc) h6) (fun _=>?_)
 repeat (first | refine WC.seq ?_ | refine WC.block ?_ | (refine WC.skip ?_;refine WK.un ?_) | (refine WC.exit ?_;refine WK.un ?_))
 refine WC.region ?_
 refine zw.eq ?_
 refine zw.assign ?_
 refine WL.nil ?_
 refine WK.un ?_
 refine WC.cond rfl (fun hc=>absurd (by simpa using hc) h7) (fun _=>?_)
 repeat (first | refine WC.seq ?_ | refine WC.block ?_ | (refine WC.skip ?_;refine WK.un ?_) | (refine WC.exit ?_;refine WK.un ?_))
 refine WC.region ?_
 refine zw.fa ?_
 refine zw.ld ?_
 by_cases hn:n≠0
 ·rw[if_pos hn]
  refine WL.pp (Gp.eqI' rfl rfl (show(n==0)=false by simpa using hn)) ?_
  refine WL.oo (OW.call rfl (Hf:=[]) (List.Perm.refl _) (need_no _) rfl (fun v G' H' h _=>by cases h.1) (fun ch G' H' h _=>?_) (fun G' H' h=>by cases h.1))
  obtain⟨he,rfl,rfl⟩:=h
  cases he
  refine WK.un ?_
  exact QF.panicP (⟨rfl,rfl,_,Left.of b A l.length cap pi (k+1:Nat) B vars.length cm,rfl⟩)
 rw[if_neg hn]
 refine WL.pp (Gp.eqI' rfl rfl (show(n==0)=true by simpa using hn)) ?_
 refine WL.oo (OW.callR rfl (Hf:=[]) (List.Perm.refl _) (need_ok G) rfl (by rintro e G' H' ⟨h,_⟩;exact⟨_,h⟩) fun v' G' H' h hg=>?_)
 obtain⟨he,rfl,rfl⟩:=h
 cases he
 refine WL.nil ?_
 refine WK.un ?_
 refine WC.region ?_
 refine zw.move ?_
 refine zw.move ?_
 refine zw.ld ?_
 refine zw.fa ?_
 refine zw.ld ?_
 have hpf:=plain_fn G mb (.slice CA pg.consts.length cc) (.slice (some ⟨pb,po,none⟩) pg.procs.length pc) c3 FA bs.length fcap en w OA ocap st ed out ox fx Hx RL b A cap pi (k+1:Nat) B vars.length cm x l pr.name pr.exp (.slice QA pr.params.length qc) (.slice (some ⟨ib,io,none⟩) pr.code.length ic) pr.locals pr.result c hv hl hz ho hL
 cases hq:plainR pr.result l c out.length with
 | halt e=>
  rw[hq]at hpf
  rw[show plainD pr.result l k vars c out.length= .halt e by rw[plainD,hq]]
  refine WL.oo (OW.call rfl (Pk.perm pkA) hpf rfl (fun v' G' H' h hg=>by cases h.2.1) (fun ch G' H' h hg=>?_) (fun G' H' h=>by cases h.2.1))
  obtain⟨rfl,he,z,⟨c',hc',hz'⟩,rfl⟩:=h
  cases he
  cases hz'
  refine WK.un ?_
  refine WK.swap ?_
  exact QF.panicP ⟨rfl,rfl,_,⟨c',hc',rfl⟩,rfl⟩ pkA
 | set r=>
  rw[hq]at hpf
  rw[show plainD pr.result l k vars c out.length= .go r (k+1) vars by rw[plainD,hq]]
  refine WL.oo (OW.callR rfl (Pk.perm pkA) hpf rfl (by rintro e G' H' ⟨_,_,_,_,h,_⟩;exact⟨_,h⟩) fun v' G' H' h hg=>?_)
  obtain⟨rfl,A',cap',x',he,hv',rfl⟩:=h
  cases he
  refine WL.nil ?_
  refine WK.un ?_
  refine WK.swap ?_
  exact QF.p0 (.inr rfl) rfl ⟨rfl,A',cap',x',y,rfl,hv',hy,rfl⟩ pkA
 | print r v=>
  rw[hq]at hpf
  rw[show plainD pr.result l k vars c out.length= .print r v by rw[plainD,hq]]
  refine WL.oo (OW.callR rfl (Pk.perm pkA) hpf rfl (by rintro e G' H' ⟨_,_,_,_,h,_⟩;exact⟨_,h⟩) fun v' G' H' h hg=>?_)
  obtain⟨rfl,OA',ocap',ox',he,ho',hv',rfl⟩:=h
  cases he
  refine WL.nil ?_
  refine WK.un ?_
  refine WK.swap ?_
  exact QF.p0 (.inr rfl) rfl ⟨rfl,OA',ocap',ox',rfl,ho',hv',rfl⟩ pkA
 | leave r g=>
  rw[hq]at hpf
  rw[show plainD pr.result l k vars c out.length= .leave r g by rw[plainD,hq]]
  refine WL.oo (OW.callR rfl (Pk.perm pkA) hpf rfl (by rintro e G' H' ⟨_,_,h,_⟩;exact⟨_,h⟩) fun v' G' H' h hg=>?_)
  obtain⟨rfl,H1,he,hv',hR,rfl⟩:=h
  cases he
  refine WL.nil ?_
  refine WK.un ?_
  refine WK.swap ?_
  exact QF.p0 (.inr rfl) rfl ⟨rfl,H1,rfl,hR,rfl⟩ pkA
theorem do_none (hi:pr.code[k]? =none) (hv:VVec A cap l x) (hl:l.length≤1000000):Fn Tryz.prog 167 #[.pointer (some ⟨mb,0,none⟩), .pointer (some ⟨b,0,none⟩)] G
  (mcB mb (.slice CA pg.consts.length cc) (.slice PA pg.procs.length pc) c3 FA bs.length fcap en w OA out.length ocap st ed::ox::frB b A l.length cap pi k B vars.length cm::x::y::fx::Hx)
  (DoR G mb (.slice CA pg.consts.length cc) (.slice PA pg.procs.length pc) c3 FA fcap en w OA ocap st ed out ox fx Hx RL b A cap pi B vars cm x y bs (k+1) (doR pg pr l k vars bs.length out.length)):=by
 rw[show doR pg pr l k vars bs.length out.length=DR.halt 6 by simp[doR,hi]]
 obtain⟨pb,po,cs,hPA,⟨QA,qc,IA,ic,rfl,hQ,hI⟩,hcs⟩:=hP pi pr hpr
 have hpl:pi<pg.procs.length:=(List.getElem?_eq_some_iff.1 hpr).1
 subst hPA
 refine Fn.enter Tryz.func167 rfl rfl fun w0=>?_
 refine WC.seq ?_
 refine WC.draw mixed ?_
 refine za.move 0 ?_
 refine za.nil 1 ?_
 refine za.fa 2 ?_
 refine za.fa 3 ?_
 refine za.ld 4 ?_
 refine za.move 5 ?_
 refine za.nil 6 ?_
 refine za.fa 7 ?_
 refine za.ld 8 ?_
 refine za.ix 9 ?_
 refine WA.vv 10 rfl (Gv.loadGN rfl hcs rfl) ?_
 refine WA.oo 11 rfl (OW.alloc rfl fun b1=>?_)
 refine za.st 12 ?_
 refine WA.done kr ?_
 refine WK.un ?_
 refine WC.seq ?_
 refine WC.draw mixed ?_
 refine za.move 0 ?_
 refine za.nil 1 ?_
 refine za.fa 2 ?_
 refine za.ld 3 ?_
 refine WA.pp 4 rfl (Gp.geI' rfl rfl (show decide ((0:Int)≤(k:Int))=true by simp)) ?_
 refine za.move 5 ?_
 refine za.move 6 ?_
 refine za.nil 7 ?_
 refine za.fa 8 ?_
 refine za.ld 9 ?_
 refine za.fa 10 ?_
 refine za.ld 11 ?_
 refine za.len 12 ?_
 refine WA.pp 13 rfl (Gp.ltI' rfl rfl (show decide ((k:Int)<(pr.code.length:Int))=false by have:=List.getElem?_eq_none_iff.1 hi;simp;omega)) ?_
 refine za.pick 14 ?_
 refine WA.oo 15 rfl (OW.call rfl (Hf:=[]) (List.Perm.refl _) (need_no _) rfl (fun v G' H' h _=>by cases h.1) (fun ch G' H' h _=>?_) (fun G' H' h=>by cases h.1))
 obtain⟨he,rfl,rfl⟩:=h
 cases he
 refine WK.un ?_
 exact QF.panicP (⟨rfl,rfl,_,Left.of b A l.length cap pi k B vars.length cm,rfl⟩)
theorem do_fn (hv:VVec A cap l x) (hl:l.length≤1000000) (hy:VVec B cm vars y) (hz:∀v∈l,v.s.size≤400000000000) (ho:VVec OA ocap out ox) (hfv:PVec FA fcap bs fx) (hbs:bs.length≤1000000000) (hL:Lv G mb (mcB mb (.slice CA pg.consts.length cc) (.slice PA pg.procs.length pc) c3 FA bs.length fcap en w OA out.length ocap st ed) fx Hx RL):Fn Tryz.prog 167 #[.pointer (some ⟨mb,0,none⟩), .pointer (some ⟨b,0,none⟩)] G
  (mcB mb (.slice CA pg.consts.length cc) (.slice PA pg.procs.length pc) c3 FA bs.length fcap en w OA out.length ocap st ed::ox::frB b A l.length cap pi k B vars.length cm::x::y::fx::Hx)
  (DoR G mb (.slice CA pg.consts.length cc) (.slice PA pg.procs.length pc) c3 FA fcap en w OA ocap st ed out ox fx Hx RL b A cap pi B vars cm x y bs (k+1) (doR pg pr l k vars bs.length out.length)):=by
 cases hi:pr.code[k]? with
 | none=>exact do_none G pg CA PA cc pc hC hP mb c3 FA fcap en w OA ocap st ed out ox fx Hx RL b A cap pi pr hpr B vars cm x y bs l k hkb hi hv hl
 | some p=>
  obtain⟨c,n⟩:=p
  by_cases hc:c=1∨c=2∨c=3∨c=5∨c=6∨c=7
  ·rcases hc with rfl | rfl | rfl | rfl | rfl | rfl
   ·exact do_const G pg CA PA cc pc hC hP mb c3 FA fcap en w OA ocap st ed out ox fx Hx RL b A cap pi pr hpr B vars cm x y bs l k hkb n hi hv hl hy
   ·exact do_load G pg CA PA cc pc hC hP mb c3 FA fcap en w OA ocap st ed out ox fx Hx RL b A cap pi pr hpr B vars cm x y bs l k hkb n hi hv hl hy
   ·exact do_store G pg CA PA cc pc hC hP mb c3 FA fcap en w OA ocap st ed out ox fx Hx RL b A cap pi pr hpr B vars cm x y bs l k hkb n hi hv hl hy
   ·exact do_jump G pg CA PA cc pc hC hP mb c3 FA fcap en w OA ocap st ed out ox fx Hx RL b A cap pi pr hpr B vars cm x y bs l k hkb n hi hv hl hy
   ·exact do_unless G pg CA PA cc pc hC hP mb c3 FA fcap en w OA ocap st ed out ox fx Hx RL b A cap pi pr hpr B vars cm x y bs l k hkb n hi hv hl hy
   ·exact do_call G pg CA PA cc pc hC hP mb c3 FA fcap en w OA ocap st ed out ox fx Hx RL b A cap pi pr hpr B vars cm x y bs l k hkb n hi hv hl hfv hbs
  ·exact do_plain G pg CA PA cc pc hC hP mb c3 FA fcap en w OA ocap st ed out ox fx Hx RL b A cap pi pr hpr B vars cm x y bs l k hkb c hc n hi hv hl hy hz ho hL
end
end
section
attribute [local irreducible] Tryz.prog
theorem iface20:Tryz.prog.underlying 20=some (.interface (Tryz.prog.methodsAt 20)):=by kernel_rfl
theorem step1_quiet (G:Gh) (kb mx:Nat):FnD Tryz.prog 166 #[.pointer (some ⟨kb,0,none⟩), .pointer (some ⟨mx,0,none⟩)] .returning G [] .returning fun e G' H'=>e= .returned (.tuple #[])∧G=G'∧H'=[]:=by
 refine FnD.recover (vs:=[.pointer (some ⟨kb,0,none⟩), .pointer (some ⟨mx,0,none⟩)]) (v:= .nilIface) Tryz.func166 rfl rfl rfl rfl (.inl ⟨rfl,rfl,rfl⟩) fun w0=>?_
 refine WC.seq ?_
 refine WC.region ?_
 refine zw.move ?_
 refine WL.pp (Gp.assertNil rfl Tryz.underlying251) ?_
 refine zw.move ?_
 refine zw.ext ?_
 refine zw.ext ?_
 refine WL.oo (OW.alloc rfl fun b1=>?_)
 refine zw.st ?_
 refine zw.assign ?_
 refine WL.nil ?_
 refine WK.un ?_
 refine WC.seq ?_
 refine WC.seq ?_
 refine WC.region ?_
 refine zw.move ?_
 refine WL.pp (Gp.neNilNil rfl iface20) ?_
 refine zw.move ?_
 refine zw.skip ?_
 refine zw.skip ?_
 refine zw.pick ?_
 refine WL.nil ?_
 refine WK.un ?_
 refine WC.cond_false rfl ?_
 refine WC.skip ?_
 refine WK.un ?_
 refine WC.seq ?_
 refine WC.region ?_
 refine zw.move ?_
 refine WL.nil ?_
 refine WK.un ?_
 refine WC.cond_false rfl ?_
 refine WC.skip ?_
 refine WK.un ?_
 exact QF.p0 (.inr rfl) rfl ⟨rfl,rfl,rfl⟩ pkA
theorem step1_halts (G:Gh) (kb mx mb b:Nat) (c:Array Value) (hc:c.size=4) (A:Option Addr) (n cap:Nat) (p a:Int) (B:Option Addr) (m cm:Nat) (c1 c2 c3:Value) (FA:Option Addr) (fn fcap:Nat) (en:Int) (w:V) (OA:Option Addr) (on ocap:Nat) (st:Int) (ed:Bool) (k:Int):
  FnD Tryz.prog 166 #[.pointer (some ⟨kb,0,none⟩), .pointer (some ⟨mx,0,none⟩)] (.panicking [{ v:= .iface 251 (.agg #[.int .i64 k]),recovered:=false }]) G
   [.blk kb (.cells #[.pointer (some ⟨b,0,none⟩), .slice A n cap, .int .i64 p, .int .i64 a, .slice B m cm] 249 (0,0)), .blk mx (.cells #[.pointer (some ⟨mb,0,none⟩)] 154 (0,0)), .blk b (.cells c 245 (0,0)),mcB mb c1 c2 c3 FA fn fcap en w OA on ocap st ed]
   (.panicking [{ v:= .iface 251 (.agg #[.int .i64 k]),recovered:=true }]) fun e G' H'=>e= .returned (.tuple #[])∧G=G'∧H'=[frB b A n cap p a B m cm,mcB mb c1 c2 c3 FA fn fcap k w OA on ocap st true]:=by
 obtain⟨x0,x1,x2,x3,rfl⟩:∃x0 x1 x2 x3,c= #[x0,x1,x2,x3]:=by
  obtain⟨l⟩:=c
  match l,hc with
  | [x0,x1,x2,x3],_=>exact⟨x0,x1,x2,x3,rfl⟩
 refine FnD.recover (vs:=[.pointer (some ⟨kb,0,none⟩), .pointer (some ⟨mx,0,none⟩)]) (v:= .iface 251 (.agg #[.int .i64 k])) Tryz.func166 rfl rfl rfl rfl (.inr ⟨[],rfl,rfl⟩) fun w0=>?_
 refine WC.seq ?_
 refine WC.region ?_
 refine zw.move ?_
 refine WL.pp (Gp.assertIs rfl Tryz.underlying251) ?_
 refine zw.move ?_
 refine zw.ext ?_
 refine zw.ext ?_
 refine WL.oo (OW.alloc rfl fun b1=>?_)
 refine zw.st ?_
 refine zw.assign ?_
 refine WL.nil ?_
 refine WK.un ?_
 refine WC.seq ?_
 refine WC.seq ?_
 refine WC.region ?_
 refine zw.move ?_
 refine WL.pp (Gp.neHeldNil rfl iface20) ?_
 refine zw.move ?_
 refine zw.move ?_
 refine zw.not ?_
 refine zw.pick ?_
 refine WL.nil ?_
 refine WK.un ?_
 refine WC.cond_false rfl ?_
 refine WC.skip ?_
 refine WK.un ?_
 refine WC.seq ?_
 refine WC.region ?_
 refine zw.move ?_
 refine WL.nil ?_
 refine WK.un ?_
 refine WC.cond_true rfl ?_
 refine WC.seq ?_
 refine WC.region ?_
 refine zw.fa ?_
 refine zw.ld ?_
 refine zw.fa ?_
 refine WL.vv (Gv.loadN rfl atA rfl rfl) ?_
 refine zw.nil ?_
 refine WL.oo (OW.store (n:=4) (c':=frC A n cap p a B m cm) rfl rfl atA rfl rfl rfl rfl rfl ?_ rfl)
 refine WL.nil ?_
 refine WK.un ?_
 refine WC.drawS (Hs:=[.blk b1 (.cells #[.int .i64 k] 251 (0,0)), .blk mx (.cells #[.pointer (some ⟨mb,0,none⟩)] 154 (0,0))]) mixed pkA ?_
 refine WB.vv 0 rfl (Gv.load1 rfl atA rfl) ?_
 refine WB.vv 1 rfl (Gv.load1 rfl atA rfl) ?_
 refine zb.fa 2 ?_
 refine zb.nil 4 ?_
 refine zb.fa 5 ?_
 refine WB.vv 3 rfl (Gv.load1 rfl atA rfl) ?_
 refine zb.st 6 ?_
 refine⟨fun w hw=>hw.pk pkA,?_⟩
 refine zb.nil 7 ?_
 refine zb.fa 8 ?_
 refine zb.fa 9 ?_
 refine zb.st 10 ?_
 refine⟨fun w hw=>hw.pk pkA,?_⟩
 refine WB.done kr ?_
 refine WK.un ?_
 exact QF.p0 (.inr rfl) rfl ⟨rfl,rfl,rfl⟩ pkA
end
section
attribute [local irreducible] Tryz.prog
def StR (G:Gh) (mb:Nat) (c1 c2 c3:Value) (FA:Option Addr) (fcap:Nat) (en:Int) (w:V) (OA:Option Addr) (ocap:Nat) (st:Int) (ed:Bool) (out:List V) (ox fx:Own) (Hx:List Own) (RL:List V→List Own→Prop)
  (b:Nat) (A:Option Addr) (cap pi:Nat) (B:Option Addr) (vars:List V) (cm:Nat) (x y:Own) (bs:List Nat) (l:List V) (k:Nat) (r:DR):Ending→Gh→List Own→Prop:=fun e G' H'=>match r with
 | .halt n=>G=G'∧∃A2 cap2 B2 cm2 x2 y2,e= .returned (.tuple #[])∧VVec A2 cap2 l x2∧VVec B2 cm2 vars y2∧H'=mcB mb c1 c2 c3 FA bs.length fcap n w OA out.length ocap st true::ox::frB b A2 l.length cap2 pi k B2 vars.length cm2::x2::y2::fx::Hx
 | r=>DoR G mb c1 c2 c3 FA fcap en w OA ocap st ed out ox fx Hx RL b A cap pi B vars cm x y bs (k+1) r e G' H'
section
variable (G:Gh) (pg:Pg) (CA PA:Option Addr) (cc pc:Nat) (hC:Sl Kd.val G CA pg.consts) (hP:Sl Kd.prc G PA pg.procs)
  (mb:Nat) (c3:Value) (FA:Option Addr) (fcap:Nat) (en:Int) (w:V) (OA:Option Addr) (ocap:Nat) (st:Nat) (ed:Bool) (out:List V) (ox fx:Own) (Hx:List Own) (RL:List V→List Own→Prop)
  (b:Nat) (A:Option Addr) (cap pi:Nat) (pr:Pr) (hpr:pg.procs[pi]? =some pr) (B:Option Addr) (vars:List V) (cm:Nat) (x y:Own) (bs:List Nat) (l:List V) (k:Nat) (hkb:k≤100000000000000)
include hC hP hpr hkb in
theorem step_fn (hst:st≤100000000000000) (hv:VVec A cap l x) (hl:l.length≤1000000) (hy:VVec B cm vars y) (hml:vars.length≤1000000) (hz:∀v∈l,v.s.size≤400000000000) (ho:VVec OA ocap out ox) (hfv:PVec FA fcap (bs++[b]) fx) (hbs:bs.length≤1000000)
  (hL:Lv G mb (mcB mb (.slice CA pg.consts.length cc) (.slice PA pg.procs.length pc) c3 FA (bs++[b]).length fcap en w OA out.length ocap (st+1:Nat) ed) fx Hx RL):Fn Tryz.prog 142 #[.pointer (some ⟨mb,0,none⟩)] G
  (mcB mb (.slice CA pg.consts.length cc) (.slice PA pg.procs.length pc) c3 FA (bs++[b]).length fcap en w OA out.length ocap st ed::ox::frB b A l.length cap pi k B vars.length cm::x::y::fx::Hx)
  (StR G mb (.slice CA pg.consts.length cc) (.slice PA pg.procs.length pc) c3 FA fcap en w OA ocap (st+1:Nat) ed out ox fx Hx RL b A cap pi B vars cm x y (bs++[b]) l k (doR pg pr l k vars (bs++[b]).length out.length)):=by
 refine Fn.unpk ?_
 refine Fn.enterD Tryz.func142 rfl rfl fun w0=>?_
 refine WC.seq ?_
 refine WC.region ?_
 refine WL.oo (OW.box rfl rfl fun b1=>?_)
 refine WL.nil ?_
 refine WK.un ?_
 refine WC.seq ?_
 refine WC.region ?_
 refine zw.ld ?_
 refine WL.oo (OW.callK rfl (top_fn G mb (.slice CA pg.consts.length cc) (.slice PA pg.procs.length pc) c3 FA fcap en w OA out.length ocap st ed bs b fx hfv (by omega)) rfl fun v' G' H' h hg=>?_)
 obtain⟨he,rfl,rfl⟩:=h
 cases he
 refine zw.assign ?_
 refine WL.nil ?_
 refine WK.un ?_
 refine WC.seq ?_
 refine WC.region ?_
 refine zw.move ?_
 refine zw.move ?_
 refine WL.oo (OW.callK rfl (copied_fnQ G b A cap pi k B cm l vars x y hv hy (by omega) (by omega)) rfl fun v' G' H' h hg=>?_)
 obtain⟨A2,cap2,B2,cm2,x2,y2,he,rfl,rfl,hx2,hy2⟩:=h
 cases he
 refine zw.build ?_
 refine WL.oo (OW.alloc rfl fun b2=>?_)
 refine zw.st ?_
 refine WL.nil ?_
 refine WK.un ?_
 refine WC.seq ?_
 refine WC.region ?_
 refine zw.ld ?_
 refine zw.nil ?_
 refine zw.fa ?_
 refine zw.fa ?_
 refine zw.ld ?_
 refine WL.pp (Gp.add' rfl rfl (show IntKind.i64.wrap ((st:Int)+1)=((st+1:Nat):Int) by rw[wrap_small (by omega) (by omega)];omega)) ?_
 refine zw.nil ?_
 refine zw.fa ?_
 refine zw.fa ?_
 refine zw.st ?_
 refine WL.nil ?_
 refine WK.un ?_
 refine WC.seq ?_
 refine WC.region ?_
 refine WL.pp (Gp.makeFunc rfl rfl) ?_
 refine WL.defer rfl kr rfl ?_
 refine WL.nil ?_
 refine WK.un ?_
 refine WC.pk (H':= .blk b1 (.cells #[.pointer (some ⟨mb,0,none⟩)] 154 (0,0)):: .blk b2 (.cells #[.pointer (some ⟨b,0,none⟩), .slice A2 l.length cap2, .int .i64 pi, .int .i64 k, .slice B2 vars.length cm2] 249 (0,0))::x2::y2::mcB mb (.slice CA pg.consts.length cc) (.slice PA pg.procs.length pc) c3 FA (bs++[b]).length fcap en w OA out.length ocap (st+1:Nat) ed::ox::frB b A l.length cap pi k B vars.length cm::x::y::fx::Hx) pkA ?_
 refine WC.region ?_
 refine zw.ld ?_
 refine zw.move ?_
 have hdo:=do_fn G pg CA PA cc pc hC hP mb c3 FA fcap en w OA ocap (st+1:Nat) ed out ox fx Hx RL b A cap pi pr hpr B vars cm x y (bs++[b]) l k hkb hv hl hy hz ho hfv (by simp;omega) hL
 cases hq:doR pg pr l k vars (bs++[b]).length out.length with
 | halt e=>
  rw[hq]at hdo
  refine WL.oo (OW.call rfl (Pk.perm pkA) hdo rfl (fun v' G' H' h hg=>by cases h.2.1) (fun ch G' H' h hg=>?_) (fun G' H' h=>by cases h.2.1))
  obtain⟨rfl,he,z,⟨c,hc,hz'⟩,rfl⟩:=h
  cases he
  cases hz'
  refine WK.un ?_
  refine WK.swap ?_
  refine QD.caught (Pk.perm pkA) (step1_halts G b2 b1 mb b c hc A2 l.length cap2 pi k B2 vars.length cm2 (.slice CA pg.consts.length cc) (.slice PA pg.procs.length pc) c3 FA (bs++[b]).length fcap en w OA out.length ocap (st+1:Nat) ed e) (fun v' G' H' h hg=>?_) (fun ch G' H' h=>by cases h.1) (fun G' H' h=>by cases h.1)
  obtain⟨he,rfl,rfl⟩:=h
  exact⟨.tuple #[],ResRun.zero rfl,_,_,pkA,rfl,A2,cap2,B2,cm2,x2,y2,rfl,hx2,hy2,rfl⟩
 | go l' k' vars'=>
  rw[hq]at hdo
  refine WL.oo (OW.callR rfl (Pk.perm pkA) hdo rfl (by rintro e G' H' ⟨_,_,_,_,_,h,_⟩;exact⟨_,h⟩) fun v' G' H' h hg=>?_)
  obtain⟨rfl,A',cap',x',y',he,hv',hy',rfl⟩:=h
  cases he
  refine WL.nil ?_
  refine WK.un ?_
  refine WK.swap ?_
  refine QD.leave (Hf:=[]) (.inr rfl) (List.Perm.refl _) (step1_quiet G b2 b1) (fun v' G' H' h hg=>?_) (fun ch G' H' h=>by cases h.1) (fun G' H' h=>by cases h.1)
  obtain⟨he,rfl,rfl⟩:=h
  exact⟨.tuple #[],ResRun.zero rfl,_,_,pkA,rfl,A',cap',x',y',rfl,hv',hy',rfl⟩
 | print l' v=>
  rw[hq]at hdo
  refine WL.oo (OW.callR rfl (Pk.perm pkA) hdo rfl (by rintro e G' H' ⟨_,_,_,_,h,_⟩;exact⟨_,h⟩) fun v' G' H' h hg=>?_)
  obtain⟨rfl,OA',ocap',ox',he,ho',hv',rfl⟩:=h
  cases he
  refine WL.nil ?_
  refine WK.un ?_
  refine WK.swap ?_
  refine QD.leave (Hf:=[]) (.inr rfl) (List.Perm.refl _) (step1_quiet G b2 b1) (fun v' G' H' h hg=>?_) (fun ch G' H' h=>by cases h.1) (fun G' H' h=>by cases h.1)
  obtain⟨he,rfl,rfl⟩:=h
  exact⟨.tuple #[],ResRun.zero rfl,_,_,pkA,rfl,OA',ocap',ox',rfl,ho',hv',rfl⟩
 | call q l' args n=>
  rw[hq]at hdo
  refine WL.oo (OW.callR rfl (Pk.perm pkA) hdo rfl (by rintro e G' H' ⟨_,_,_,_,_,_,_,h,_⟩;exact⟨_,h⟩) fun v' G' H' h hg=>?_)
  obtain⟨rfl,FA',fcap',b',VA,fx',yv,he,hf',hyv,hv',rfl⟩:=h
  cases he
  refine WL.nil ?_
  refine WK.un ?_
  refine WK.swap ?_
  refine QD.leave (Hf:=[]) (.inr rfl) (List.Perm.refl _) (step1_quiet G b2 b1) (fun v' G' H' h hg=>?_) (fun ch G' H' h=>by cases h.1) (fun G' H' h=>by cases h.1)
  obtain⟨he,rfl,rfl⟩:=h
  exact⟨.tuple #[],ResRun.zero rfl,_,_,pkA,rfl,FA',fcap',b',VA,fx',yv,rfl,hf',hyv,hv',rfl⟩
 | leave l' g=>
  rw[hq]at hdo
  refine WL.oo (OW.callR rfl (Pk.perm pkA) hdo rfl (by rintro e G' H' ⟨_,_,h,_⟩;exact⟨_,h⟩) fun v' G' H' h hg=>?_)
  obtain⟨rfl,H1,he,hR,rfl⟩:=h
  cases he
  refine WL.nil ?_
  refine WK.un ?_
  refine WK.swap ?_
  refine QD.leave (Hf:=[]) (.inr rfl) (List.Perm.refl _) (step1_quiet G b2 b1) (fun v' G' H' h hg=>?_) (fun ch G' H' h=>by cases h.1) (fun G' H' h=>by cases h.1)
  obtain⟨he,rfl,rfl⟩:=h
  exact⟨.tuple #[],ResRun.zero rfl,_,_,pkA,rfl,H1,rfl,hR,rfl⟩
end
end
section
attribute [local irreducible] Tryz.prog
structure Fr where
 proc:Nat
 pc:Nat
 stack:List V
 vars:List V
structure Mc where
 frames:List Fr
 out:List V
 steps:Nat
 en:Int
 val:V
 ended:Bool
def stepM (pg:Pg) (s:Mc):Mc:=match s.frames with
 | []=>s
 | f::fs=>match pg.procs[f.proc]? with
  | none=>s
  | some pr=>match doR pg pr f.stack f.pc f.vars (fs.length+1) s.out.length with
   | .halt n=> { s with steps:=s.steps+1,en:=n,ended:=true }
   | .go l k vars=> { s with steps:=s.steps+1,frames:=⟨f.proc,k,l,vars⟩::fs }
   | .print l v=> { s with steps:=s.steps+1,out:=s.out++[v],frames:=⟨f.proc,f.pc+1,l,f.vars⟩::fs }
   | .call q r args n=> { s with steps:=s.steps+1,frames:=⟨n.toNat,0,[],padded args q.locals⟩::⟨f.proc,f.pc+1,r,f.vars⟩::fs }
   | .leave r g=>match fs with
    | []=> { s with steps:=s.steps+1,frames:=[],en:=1,val:=lastV s.val g,ended:=true }
    | f0::fs'=> { s with steps:=s.steps+1,frames:=⟨f0.proc,f0.pc,f0.stack++g,f0.vars⟩::fs' }
inductive FRepQ:List Fr→List Nat→List Own→Prop where
 | nil:FRepQ [] [] []
 | cons {f:Fr} {fs:List Fr} {b:Nat} {bs:List Nat} {H:List Own} {A B:Option Addr} {cap cm:Nat} {x y:Own} (hx:VVec A cap f.stack x) (hy:VVec B cm f.vars y) (h:FRepQ fs bs H):
   FRepQ (f::fs) (b::bs) (frB b A f.stack.length cap f.proc f.pc B f.vars.length cm::x::y::H)
theorem FRepQ.len {fs:List Fr} {bs:List Nat} {H:List Own} (h:FRepQ fs bs H):bs.length=fs.length:=by
 induction h with
 | nil=>rfl
 | cons _ _ _ ih=>simp[ih]
def MRep (CA PA:Option Addr) (cc pc cn pn:Nat) (c3:Value) (mb:Nat) (s:Mc) (H:List Own):Prop:=
 ∃FA fcap OA ocap ox fx bs Hf,FRepQ s.frames bs Hf∧PVec FA fcap bs.reverse fx∧VVec OA ocap s.out ox∧
  H=mcB mb (.slice CA cn cc) (.slice PA pn pc) c3 FA bs.reverse.length fcap s.en s.val OA s.out.length ocap s.steps s.ended::ox::fx::Hf
structure Bd (pg:Pg) (s:Mc):Prop where
 procs:∀f∈s.frames,∃pr,pg.procs[f.proc]? =some pr∧f.pc≤pr.code.length
 code:∀pr∈pg.procs,pr.code.length≤90000000000000
 frames:s.frames.length≤64
 stack:∀f∈s.frames,f.stack.length≤900000∧f.vars.length≤1000000∧∀v∈f.stack,v.s.size≤400000000000
 steps:s.steps≤100000000000000
theorem callR_ok {procs:List Pr} {l r a:List V} {n:Int} {d:Nat} {q:Pr} (h:callR procs l n d= .ok (q,r,a)):0≤n∧procs[n.toNat]? =some q∧sizedP q=true∧l=r++a∧a.length=q.params.length∧d<64∧tys a=q.params∧(q.result≠0→r.length<128):=by
 unfold callR at h
 split at h
 ·cases h
 ·rename_i hn
  split at h
  ·cases h
  ·rename_i q' hq
   split at h
   ·cases h
   ·rename_i hs
    split at h
    ·cases h
    ·rename_i hl
     split at h
     ·cases h
     ·rename_i ht
      split at h
      ·cases h
      ·rename_i hr
       split at h
       ·cases h
       ·rename_i hd
        cases h
        have ht':=Classical.not_not.1 ht
        refine⟨by omega,hq,by simpa using hs,(List.take_append_drop _ _).symm,by simp;omega,by omega,ht',fun hne=>?_⟩
        have:=not_and.1 hr hne
        simp;omega
theorem doR_call {pg:Pg} {pr q:Pr} {l r a vars:List V} {k d o:Nat} {n:Int} (h:doR pg pr l k vars d o= .call q r a n):callR pg.procs l n d= .ok (q,r,a):=by
 unfold doR at h
 split at h
 ·cases h
 ·rename_i c n' hc
  have hcd:∀ {m:Int},callD pg.procs l m d= .call q r a n→callR pg.procs l n d= .ok (q,r,a):=by
   intro m h
   unfold callD at h
   split at h
   ·cases h
   ·rename_i q' r' a' he;cases h;exact he
  have hlay:∀v,layRQ l k vars v≠ .call q r a n:=by intro v h;unfold layRQ at h;split at h<;>cases h
  have hpl:∀c',plainD pr.result l k vars c' o≠ .call q r a n:=by intro c' h;unfold plainD at h;split at h<;>cases h
  split at h
  ·unfold constR at h;split at h; · cases h
   split at h; · cases h
   split at h
   ·exact absurd h (hlay _)
   ·cases h
  split at h
  ·unfold loadR at h;split at h; · cases h
   split at h; · cases h
   split at h
   ·cases h
   ·exact absurd h (hlay _)
  split at h
  ·unfold storeR at h;split at h; · cases h
   split at h<;>cases h
  split at h
  ·unfold jumpR at h;split at h<;>cases h
  split at h
  ·unfold unlessR at h;split at h; · cases h
   split at h<;>cases h
  split at h
  ·exact hcd h
  split at h
  ·cases h
  ·exact absurd h (hpl _)
theorem Fn.reorder {P:Program} {f:FuncId} {vs:Array Value} {G:Gh} {H H':List Own} {R:Ending→Gh→List Own→Prop} (h:Fn P f vs G H' R) (p:Pk H H' []):Fn P f vs G H R:=
 (h.pk p).mono fun e G' H1 ⟨H2,r,e1⟩=>by rw[e1,List.append_nil];exact r
section
variable (G:Gh) (pg:Pg) (CA PA:Option Addr) (cc pc:Nat) (hC:Sl Kd.val G CA pg.consts) (hP:Sl Kd.prc G PA pg.procs) (mb:Nat) (c3:Value)
include hC hP
theorem stepM_fn (s:Mc) (H:List Own) (hR:MRep CA PA cc pc pg.consts.length pg.procs.length c3 mb s H) (hB:Bd pg s) (hne:s.frames≠ []):
  Fn Tryz.prog 142 #[.pointer (some ⟨mb,0,none⟩)] G H fun e G' H'=>e= .returned (.tuple #[])∧G=G'∧MRep CA PA cc pc pg.consts.length pg.procs.length c3 mb (stepM pg s) H':=by
 obtain⟨FA,fcap,OA,ocap,ox,fx,bs,Hf,hF,hfv,ho,rfl⟩:=hR
 obtain⟨frames,out,steps,en,val,ended⟩:=s
 have hlen:=hF.len
 cases hF with
 | nil=>exact absurd rfl hne
 | @cons f fs b bs H A B cap cm x y hx hy h=>
 obtain⟨proc,pcv,stack,vars⟩:=f
 simp only at hx hy hfv ho hlen
 obtain⟨pr,hpr,hpc⟩:=hB.procs _ (List.mem_cons_self)
 obtain⟨hsl,hvl,hsz⟩:=hB.stack _ (List.mem_cons_self)
 have hcode:=hB.code pr (List.mem_of_getElem? hpr)
 have hfr:=hB.frames
 have hst:=hB.steps
 simp only at hpr hpc hsl hvl hsz hcode hfr hst
 rw[List.reverse_cons]at hfv⊢
 have hbl:bs.reverse.length≤1000000:=by simp at hlen hfr⊢;omega
 have hdep:(bs.reverse++[b]).length=fs.length+1:=by simp at hlen⊢;omega
 have key:∀RL:List V→List Own→Prop,Lv G mb (mcB mb (.slice CA pg.consts.length cc) (.slice PA pg.procs.length pc) c3 FA (bs.reverse++[b]).length fcap en val OA out.length ocap (steps+1:Nat) ended) fx H RL→
   (∀l' g H1,doR pg pr stack pcv vars (fs.length+1) out.length= .leave l' g→RL g H1→∃H2 F,Pk (ox::H1) H2 F∧MRep CA PA cc pc pg.consts.length pg.procs.length c3 mb (stepM pg ⟨⟨proc,pcv,stack,vars⟩::fs,out,steps,en,val,ended⟩) H2)→
   Fn Tryz.prog 142 #[.pointer (some ⟨mb,0,none⟩)] G (mcB mb (.slice CA pg.consts.length cc) (.slice PA pg.procs.length pc) c3 FA (bs.reverse++[b]).length fcap en val OA out.length ocap steps ended::ox::fx::frB b A stack.length cap proc pcv B vars.length cm::x::y::H)
    fun e G' H'=>e= .returned (.tuple #[])∧G=G'∧MRep CA PA cc pc pg.consts.length pg.procs.length c3 mb (stepM pg ⟨⟨proc,pcv,stack,vars⟩::fs,out,steps,en,val,ended⟩) H':=by
  intro RL hL hleave
  refine Fn.unpk (Fn.reorder ((step_fn G pg CA PA cc pc hC hP mb c3 FA fcap en val OA ocap steps ended out ox fx H RL b A cap proc pr hpr B vars cm x y bs.reverse stack pcv (by omega) hst hx (by omega) hy hvl hsz ho hfv hbl hL).mono fun e G' H' hS=>?_) pkA)
  rw[hdep]at hS
  simp only[stepM,hpr]
  cases hq:doR pg pr stack pcv vars (fs.length+1) out.length with
  | halt n=>
   rw[hq]at hS
   obtain⟨rfl,A2,cap2,B2,cm2,x2,y2,he,h1,h2,rfl⟩:=hS
   exact⟨mcB mb (.slice CA pg.consts.length cc) (.slice PA pg.procs.length pc) c3 FA (bs.reverse++[b]).length fcap n val OA out.length ocap (steps+1:Nat) true::ox::fx::frB b A2 stack.length cap2 proc pcv B2 vars.length cm2::x2::y2::H,[],pkA,he,rfl,FA,fcap,OA,ocap,ox,fx,b::bs,_, .cons h1 h2 h,by rw[List.reverse_cons];exact hfv,ho,by rw[List.reverse_cons]⟩
  | go l k vs=>
   rw[hq]at hS
   obtain⟨rfl,A2,cap2,x2,y2,he,h1,h2,rfl⟩:=hS
   exact⟨mcB mb (.slice CA pg.consts.length cc) (.slice PA pg.procs.length pc) c3 FA (bs.reverse++[b]).length fcap en val OA out.length ocap (steps+1:Nat) ended::ox::fx::frB b A2 l.length cap2 proc k B vs.length cm::x2::y2::H,[],pkA,he,rfl,FA,fcap,OA,ocap,ox,fx,b::bs,_, .cons h1 h2 h,by rw[List.reverse_cons];exact hfv,ho,by rw[List.reverse_cons]⟩
  | print l v=>
   rw[hq]at hS
   obtain⟨rfl,OA2,ocap2,ox2,he,h1,h2,rfl⟩:=hS
   exact⟨mcB mb (.slice CA pg.consts.length cc) (.slice PA pg.procs.length pc) c3 FA (bs.reverse++[b]).length fcap en val OA2 (out++[v]).length ocap2 (steps+1:Nat) ended::ox2::fx::frB b A l.length cap proc (pcv+1:Nat) B vars.length cm::x::y::H,[],pkA,he,rfl,FA,fcap,OA2,ocap2,ox2,fx,b::bs,_, .cons h2 hy h,by rw[List.reverse_cons];exact hfv,h1,by rw[List.reverse_cons]⟩
  | call q r args n=>
   have hn:=(callR_ok (doR_call hq)).1
   rw[hq]at hS
   obtain⟨rfl,FA2,fcap2,b2,VA,fx2,yv,he,h1,h2,h3,rfl⟩:=hS
   obtain⟨m,rfl⟩:=Int.eq_ofNat_of_zero_le hn
   exact⟨mcB mb (.slice CA pg.consts.length cc) (.slice PA pg.procs.length pc) c3 FA2 (bs.reverse++[b]++[b2]).length fcap2 en val OA out.length ocap (steps+1:Nat) ended::ox::fx2::frB b2 none ([]:List V).length 0 m (0:Nat) VA (padded args q.locals).length (padded args q.locals).length:: .spare 0 0 0::yv::frB b A r.length cap proc (pcv+1:Nat) B vars.length cm::x::y::H,[],pkA,he,rfl,FA2,fcap2,OA,ocap,ox,fx2,b2::b::bs,_, .cons ⟨by simp[vflat], .inl ⟨rfl,rfl,rfl,rfl⟩⟩ h2 (.cons h3 hy h),by rw[List.reverse_cons,List.reverse_cons];exact h1,ho,by rw[List.reverse_cons,List.reverse_cons];rfl⟩
  | leave l g=>
   have hl:=hleave l g
   rw[hq]at hS
   obtain⟨rfl,H1,he,hR,rfl⟩:=hS
   obtain⟨H2,F,h1,h2⟩:=hl H1 hq hR
   simp only[stepM,hpr,hq]at h2
   exact⟨H2,F,h1,he,rfl,h2⟩
 cases h with
 | nil=>
  refine key (fun g H1=>H1=[mcB mb (.slice CA pg.consts.length cc) (.slice PA pg.procs.length pc) c3 FA 0 fcap 1 (lastV val g) OA out.length ocap (steps+1:Nat) true,fx]∧PVec FA fcap [] fx) ⟨?_,fun A' cap' y' v hv'=>?_⟩ fun l' g H1 hq hR=>?_
  ·exact(leave_end G mb (.slice CA pg.consts.length cc) (.slice PA pg.procs.length pc) c3 FA fcap en val OA out.length ocap (steps+1:Nat) ended b fx hfv none 0 [] [] (Rds.nil _ _ _) (by simp)).mono fun e G' H' ⟨h1,h2,h3,h4⟩=>⟨h1,h2,h3,h4⟩
  ·refine Fn.unpk (Fn.reorder ((leave_end G mb (.slice CA pg.consts.length cc) (.slice PA pg.procs.length pc) c3 FA fcap en val OA out.length ocap (steps+1:Nat) ended b fx hfv A' cap' [v] [y'] (hv'.rds .here) (by simp)).mono fun e G' H' hh=>?_) pkA)
   obtain⟨h1,h2,h3,h4⟩:=hh
   subst h3
   exact⟨_,_, .cons .here (.cons .here .nil),h1,h2,rfl,h4⟩
  ·obtain⟨rfl,h1⟩:=hR
   refine⟨mcB mb (.slice CA pg.consts.length cc) (.slice PA pg.procs.length pc) c3 FA 0 fcap 1 (lastV val g) OA out.length ocap (steps+1:Nat) true::ox::fx::[],[],pkA,?_⟩
   simp only[stepM,hpr,hq]
   exact⟨FA,fcap,OA,ocap,ox,fx,[],[], .nil,h1,ho,rfl⟩
 | @cons f0 fs' b0 bs0 H0 A0 B0 cap0 cm0 x0 y0 hx0 hy0 h0=>
  obtain⟨hsl0,_,_⟩:=hB.stack f0 (by simp)
  rw[List.reverse_cons]at hfv
  have hb0:bs0.reverse.length≤1000000:=by simp at hbl⊢;omega
  rw[List.reverse_cons]at key⊢
  refine key (fun g H1=>∃A' cap' x',H1=mcB mb (.slice CA pg.consts.length cc) (.slice PA pg.procs.length pc) c3 FA (bs0.reverse++[b0]).length fcap en val OA out.length ocap (steps+1:Nat) ended::fx::frB b0 A' (f0.stack++g).length cap' f0.proc f0.pc B0 f0.vars.length cm0::x'::y0::H0∧PVec FA fcap (bs0.reverse++[b0]) fx∧VVec A' cap' (f0.stack++g) x') ⟨?_,fun A' cap' y' v hv'=>?_⟩ fun l' g H1 hq hR=>?_
  ·exact(leave_go G mb (.slice CA pg.consts.length cc) (.slice PA pg.procs.length pc) c3 FA fcap en val OA out.length ocap (steps+1:Nat) ended bs0.reverse b0 b fx hfv hb0 A0 cap0 f0.proc f0.pc B0 f0.vars.length cm0 f0.stack x0 hx0 none 0 [] (y0::H0) (Rds.nil _ _ _) (by simp;omega)).mono fun e G' H' ⟨A',cap',x',h1,h2,h3,h4,h5⟩=>⟨h1,h2,A',cap',x',h3,h4,h5⟩
  ·refine Fn.unpk (Fn.reorder ((leave_go G mb (.slice CA pg.consts.length cc) (.slice PA pg.procs.length pc) c3 FA fcap en val OA out.length ocap (steps+1:Nat) ended bs0.reverse b0 b fx hfv hb0 A0 cap0 f0.proc f0.pc B0 f0.vars.length cm0 f0.stack x0 hx0 A' cap' [v] (y'::y0::H0) (hv'.rds .here) (by simp;omega)).mono fun e G' H' hh=>?_) pkA)
   obtain⟨A2,cap2,x2,h1,h2,h3,h4,h5⟩:=hh
   subst h3
   exact⟨mcB mb (.slice CA pg.consts.length cc) (.slice PA pg.procs.length pc) c3 FA (bs0.reverse++[b0]).length fcap en val OA out.length ocap (steps+1:Nat) ended::fx::frB b0 A2 (f0.stack++[v]).length cap2 f0.proc f0.pc B0 f0.vars.length cm0::x2::y0::H0,[y'],pkA,h1,h2,A2,cap2,x2,rfl,h4,h5⟩
  ·obtain⟨A2,cap2,x2,rfl,h1,h2⟩:=hR
   refine⟨mcB mb (.slice CA pg.consts.length cc) (.slice PA pg.procs.length pc) c3 FA (bs0.reverse++[b0]).length fcap en val OA out.length ocap (steps+1:Nat) ended::ox::fx::frB b0 A2 (f0.stack++g).length cap2 f0.proc f0.pc B0 f0.vars.length cm0::x2::y0::H0,[],pkA,?_⟩
   simp only[stepM,hpr,hq]
   exact⟨FA,fcap,OA,ocap,ox,fx,b0::bs0,_, .cons h2 hy0 h0,by rw[List.reverse_cons];exact h1,ho,by rw[List.reverse_cons]⟩
end
end
section
attribute [local irreducible] Tryz.prog
def AllOK (l:List V):Prop:=∀v∈l,vOK v=true
def VarsOK (l:List V):Prop:=∀v∈l,vOK v=true∨v=V0
theorem AllOK.snoc {l:List V} {v:V} (h:AllOK l) (hv:vOK v=true):AllOK (l++[v]):=by
 intro u hu
 rcases List.mem_append.1 hu with hu | hu
 ·exact h u hu
 ·rw[List.mem_singleton]at hu;subst hu;exact hv
theorem AllOK.left {l r:List V} (h:AllOK (l++r)):AllOK l:=fun v hv=>h v (List.mem_append_left _ hv)
theorem AllOK.right {l r:List V} (h:AllOK (l++r)):AllOK r:=fun v hv=>h v (List.mem_append_right _ hv)
theorem vOK_truth (b:Bool):vOK (truthV b)=true:=by simp[vOK,truthV,bytes_beq]
theorem vOK_num (n:Int):vOK (numV n)=true:=by simp[vOK,numV,bytes_beq]
theorem vOK_text {s:ByteArray} (h:s.size≤4096):vOK (textV s)=true:=by
 unfold vOK
 rw[if_neg (show¬(textV s).t=1 from(by decide:¬(3:Int)=1)),if_neg (show¬(textV s).t=2 from(by decide:¬(3:Int)=2)),if_pos (show(textV s).t=3 from rfl)]
 show((0:Int)==0&& !false&&decide ((s.size:Int)≤4096))=true
 simp;omega
theorem vOK_size {v:V} (h:vOK v=true):v.s.size≤4096:=by
 unfold vOK at h
 split at h
 ·simp[bytes_beq]at h;rw[h.2];decide
 ·split at h
  ·simp[bytes_beq]at h;rw[h.2];decide
  ·split at h
   ·simp at h;omega
   ·cases h
theorem size_append (a b:ByteArray):(a++b).size=a.size+b.size:=ByteArray.size_append
def DOk (pg:Pg) (pr:Pr) (l:List V) (k:Nat) (vars:List V) (depth outn:Nat):DR→Prop
 | .halt _=>True
 | .go l' k' vars'=>l'.length≤128∧AllOK l'∧k'≤pr.code.length∧vars'.length=vars.length∧VarsOK vars'
 | .print l' v=>l'.length≤128∧AllOK l'∧vOK v=true∧outn<4096∧k+1≤pr.code.length
 | .call q r args n=>callR pg.procs l n depth= .ok (q,r,args)∧k+1≤pr.code.length
 | .leave r g=>g=[]∨∃v,g=[v]∧vOK v=true∧pr.result≠0
def POkQ (res:Int) (outn:Nat):PR→Prop
 | .halt _=>True
 | .set l=>l.length≤128∧AllOK l
 | .print l v=>l.length≤128∧AllOK l∧vOK v=true∧outn<4096
 | .leave l g=>g=[]∨∃v,g=[v]∧vOK v=true∧res≠0
section
variable {pg:Pg} {pr:Pr} {l vars:List V} {k depth outn:Nat} (hl:l.length≤128) (ha:AllOK l) (hv:VarsOK vars)
theorem POkQ.ite {res:Int} {o:Nat} {p:Prop} [Decidable p] {a b:PR} (h1:p→POkQ res o a) (h2:¬p→POkQ res o b):POkQ res o (if p then a else b):=by
 split
 ·exact h1 ‹_›
 ·exact h2 ‹_›
theorem DOk.ite {p:Prop} [Decidable p] {a b:DR} (h1:p→DOk pg pr l k vars depth outn a) (h2:¬p→DOk pg pr l k vars depth outn b):DOk pg pr l k vars depth outn (if p then a else b):=by
 split
 ·exact h1 ‹_›
 ·exact h2 ‹_›
include hl ha in
theorem onA_ok {res:Int} {f:List V→V→PR} (hf:∀r v,l=r++[v]→POkQ res outn (f r v)):POkQ res outn (onA l f):=by
 unfold onA
 split
 ·trivial
 ·rename_i r v h;exact hf r v (pop1_some h)
include hl ha in
theorem onB_ok {res:Int} {f:List V→V→V→PR} (hf:∀r u v,l=r++[u,v]→POkQ res outn (f r u v)):POkQ res outn (onB l f):=by
 unfold onB
 split
 ·trivial
 ·rename_i r u v h;exact hf r u v (pop2_some h)
include hl ha in
theorem on1_ok {res t:Int} {f:List V→V→PR} (hf:∀r v,l=r++[v]→v.t=t→POkQ res outn (f r v)):POkQ res outn (on1 l t f):=by
 unfold on1
 split
 ·trivial
 ·rename_i r v h;exact hf r v (ty1_some h).1 (ty1_some h).2
include hl ha in
theorem on2_ok {res t:Int} {f:List V→V→V→PR} (hf:∀r u v,l=r++[u,v]→POkQ res outn (f r u v)):POkQ res outn (on2 l t f):=by
 unfold on2
 split
 ·trivial
 ·rename_i r u v h;exact hf r u v (ty2_some h).1
include hl ha in
theorem plainR_ok (res c:Int):POkQ res outn (plainR res l c outn):=by
 have h1:∀r v,l=r++[v]→∀u,vOK u=true→POkQ res outn (.set (r++[u])):=by
  intro r v e u hu
  subst e
  simp at hl
  exact⟨by simp;omega,ha.left.snoc hu⟩
 have h2:∀r v v',l=r++[v,v']→∀u,vOK u=true→POkQ res outn (.set (r++[u])):=by
  intro r v v' e u hu
  subst e
  simp at hl
  exact⟨by simp;omega,ha.left.snoc hu⟩
 unfold plainR
 refine POkQ.ite (fun _=>?_) (fun _=>?_)
 ·exact onA_ok hl ha fun r v e=>by subst e;simp at hl;exact⟨by omega,ha.left⟩
 refine POkQ.ite (fun _=>?_) (fun _=>?_)
 ·split
  ·exact .inl rfl
  ·trivial
 refine POkQ.ite (fun _=>?_) (fun _=>?_)
 ·split
  ·trivial
  ·rename_i hr
   exact on1_ok hl ha fun r v e _=>by subst e;exact .inr ⟨v,rfl,ha.right v (by simp),hr⟩
 refine POkQ.ite (fun _=>?_) (fun _=>?_)
 ·exact onA_ok hl ha fun r v e=>by
   subst e;simp at hl
   split
   ·trivial
   ·exact⟨by omega,ha.left,ha.right v (by simp),by omega⟩
 refine POkQ.ite (fun _=>?_) (fun _=>?_)
 ·exact onB_ok hl ha fun r u v e=>by
   split
   ·exact h2 r u v e _ (vOK_truth _)
   ·trivial
 refine POkQ.ite (fun _=>?_) (fun _=>?_)
 ·exact onB_ok hl ha fun r u v e=>by
   split
   ·exact h2 r u v e _ (vOK_truth _)
   ·trivial
 refine POkQ.ite (fun _=>?_) (fun _=>?_)
 ·exact on1_ok hl ha fun r v e _=>h1 r v e _ (vOK_truth _)
 refine POkQ.ite (fun _=>?_) (fun _=>?_)
 ·exact on1_ok hl ha fun r v e _=>h1 r v e _ (vOK_num _)
 refine POkQ.ite (fun _=>?_) (fun _=>?_)
 ·exact on2_ok hl ha fun r u v e=>by
   split
   ·trivial
   ·exact h2 r u v e _ (vOK_text (by rw[size_append];omega))
 refine POkQ.ite (fun _=>?_) (fun _=>?_)
 ·exact onB_ok hl ha fun r u v e=>by
   split
   ·exact h2 r u v e _ (vOK_truth _)
   ·trivial
 refine POkQ.ite (fun _=>?_) (fun _=>?_)
 ·exact on1_ok hl ha fun r v e _=>h1 r v e _ (vOK_num _)
 refine POkQ.ite (fun _=>?_) (fun _=>?_)
 ·exact on2_ok hl ha fun r u v e=>by
   unfold recR
   split
   ·trivial
   ·exact h2 r u v e _ (vOK_num _)
 ·trivial
include hl ha hv in
theorem doR_ok:DOk pg pr l k vars depth outn (doR pg pr l k vars depth outn):=by
 have hlay:∀v,vOK v=true→k+1≤pr.code.length→DOk pg pr l k vars depth outn (layRQ l k vars v):=by
  intro v h1 h2
  unfold layRQ
  split
  ·trivial
  ·exact⟨by simp;omega,ha.snoc h1,h2,rfl,hv⟩
 unfold doR
 split
 ·trivial
 ·rename_i c n hc
  have hk:k+1≤pr.code.length:=(List.getElem?_eq_some_iff.1 hc).1
  refine DOk.ite (fun _=>?_) (fun _=>?_)
  ·unfold constR;split; · trivial
   split; · trivial
   split
   ·exact hlay _ ‹_› hk
   ·trivial
  refine DOk.ite (fun _=>?_) (fun _=>?_)
  ·unfold loadR;split; · trivial
   split; · trivial
   rename_i v hg
   split
   ·trivial
   ·rename_i ht
    rcases hv v (List.mem_of_getElem? hg)with h | h
    ·exact hlay _ h hk
    ·subst h;exact absurd rfl ht
  refine DOk.ite (fun _=>?_) (fun _=>?_)
  ·unfold storeR;split; · trivial
   split; · trivial
   rename_i r v hp
   obtain rfl:=pop1_some hp
   simp at hl
   refine⟨by omega,ha.left,hk,by simp,fun u hu=>?_⟩
   rcases List.mem_or_eq_of_mem_set hu with h | h
   ·exact hv u h
   ·subst h;exact .inl (ha.right _ (by simp))
  refine DOk.ite (fun _=>?_) (fun _=>?_)
  ·unfold jumpR;split; · trivial
   ·exact⟨hl,ha,by omega,rfl,hv⟩
  refine DOk.ite (fun _=>?_) (fun _=>?_)
  ·unfold unlessR;split; · trivial
   split; · trivial
   rename_i r v ht
   obtain⟨rfl,_⟩:=ty1_some ht
   simp at hl
   refine⟨by omega,ha.left,?_,rfl,hv⟩
   split
   ·exact hk
   ·omega
  refine DOk.ite (fun _=>?_) (fun _=>?_)
  ·unfold callD
   split
   ·trivial
   ·exact⟨‹_›,hk⟩
  refine DOk.ite (fun _=>?_) (fun _=>?_)
  ·trivial
  ·unfold plainD
   have hp:=plainR_ok (outn:=outn) hl ha pr.result c
   split
   ·trivial
   ·rename_i e;rw[e]at hp;exact⟨hp.1,hp.2,hk,rfl,hv⟩
   ·rename_i e;rw[e]at hp;exact⟨hp.1,hp.2.1,hp.2.2.1,hp.2.2.2,hk⟩
   ·rename_i e;rw[e]at hp;exact hp
end
def Chn (pg:Pg):List Fr→Prop
 | []=>True
 | [_]=>True
 | f::g::r=>(∀pr,pg.procs[f.proc]? =some pr→pr.result≠0→g.stack.length<128)∧Chn pg (g::r)
structure Inv (pg:Pg) (s:Mc):Prop where
 procs:∀f∈s.frames,∃pr,pg.procs[f.proc]? =some pr∧f.pc≤pr.code.length
 frames:s.frames.length≤64
 stack:∀f∈s.frames,f.stack.length≤128∧f.vars.length≤64∧AllOK f.stack∧VarsOK f.vars
 chain:Chn pg s.frames
 out:s.out.length≤4096∧AllOK s.out
theorem Inv.step {pg:Pg} {s:Mc} (h:Inv pg s):Inv pg (stepM pg s):=by
 obtain⟨frames,out,steps,en,val,ended⟩:=s
 obtain⟨h1,h2,h3,h4,h5⟩:=h
 simp only at h1 h2 h3 h4 h5
 unfold stepM
 cases frames with
 | nil=>exact⟨h1,h2,h3,h4,h5⟩
 | cons f fs=>
  obtain⟨pr,hpr,hpc⟩:=h1 f (by simp)
  obtain⟨hs1,hs2,hs3,hs4⟩:=h3 f (by simp)
  simp only[hpr]
  have hd:=doR_ok (pg:=pg) (pr:=pr) (k:=f.pc) (depth:=fs.length+1) (outn:=out.length) hs1 hs3 hs4
  have hrest:∀g∈fs,(∃pr,pg.procs[g.proc]? =some pr∧g.pc≤pr.code.length)∧g.stack.length≤128∧g.vars.length≤64∧AllOK g.stack∧VarsOK g.vars:=fun g hg=>⟨h1 g (by simp[hg]),h3 g (by simp[hg])⟩
  have hch:∀f':Fr,f'.proc=f.proc→Chn pg (f'::fs):=by
   intro f' e
   cases fs with
   | nil=>trivial
   | cons g r=>exact⟨by rw[e];exact h4.1,h4.2⟩
  have hone:∀f':Fr,f'.proc=f.proc→f'.pc≤pr.code.length→f'.stack.length≤128→f'.vars.length≤64→AllOK f'.stack→VarsOK f'.vars→
    (∀g∈f'::fs,∃pr,pg.procs[g.proc]? =some pr∧g.pc≤pr.code.length)∧(∀g∈f'::fs,g.stack.length≤128∧g.vars.length≤64∧AllOK g.stack∧VarsOK g.vars):=by
   intro f' e1 e2 e3 e4 e5 e6
   refine⟨fun g hg=>?_,fun g hg=>?_⟩
   ·rcases List.mem_cons.1 hg with rfl | hg
    ·exact⟨pr,by rw[e1];exact hpr,e2⟩
    ·exact(hrest g hg).1
   ·rcases List.mem_cons.1 hg with rfl | hg
    ·exact⟨e3,e4,e5,e6⟩
    ·exact(hrest g hg).2
  cases hq:doR pg pr f.stack f.pc f.vars (fs.length+1) out.length with
  | halt n=>exact⟨h1,h2,h3,h4,h5⟩
  | go l k vs=>
   rw[hq]at hd
   obtain⟨d1,d2,d3,d4,d5⟩:=hd
   obtain⟨a1,a2⟩:=hone ⟨f.proc,k,l,vs⟩ rfl d3 d1 (by simp only[d4];exact hs2) d2 d5
   exact⟨a1,h2,a2,hch _ rfl,h5⟩
  | print l v=>
   rw[hq]at hd
   obtain⟨d1,d2,d3,d4,d5⟩:=hd
   obtain⟨a1,a2⟩:=hone ⟨f.proc,f.pc+1,l,f.vars⟩ rfl d5 d1 hs2 d2 hs4
   exact⟨a1,h2,a2,hch _ rfl,by simp;omega,h5.2.snoc d3⟩
  | call q r args n=>
   rw[hq]at hd
   obtain⟨c0,d5⟩:=hd
   obtain⟨c1,c2,c3,c4,c5,c6,c7,c8⟩:=callR_ok c0
   have hsz:(q.params.length:Int)≤q.locals∧q.locals≤64:=by unfold sizedP at c3;simpa using c3
   have hr:r.length≤128∧AllOK r:=by rw[c4]at hs1 hs3;simp at hs1;exact⟨by omega,hs3.left⟩
   obtain⟨a1,a2⟩:=hone ⟨f.proc,f.pc+1,r,f.vars⟩ rfl d5 hr.1 hs2 hr.2 hs4
   have hpl:(padded args q.locals).length≤64:=by rw[padded_length (by omega)];omega
   refine⟨fun g hg=>?_,by simp at h2⊢;omega,fun g hg=>?_,⟨fun pr' hp' hres=>?_,hch _ rfl⟩,h5⟩
   ·rcases List.mem_cons.1 hg with rfl | hg
    ·exact⟨q,c2,by simp⟩
    ·exact a1 g hg
   ·rcases List.mem_cons.1 hg with rfl | hg
    ·refine⟨by simp,hpl,fun v hv=>by simp at hv,fun v hv=>?_⟩
     rcases List.mem_append.1 hv with hv | hv
     ·rw[c4]at hs3;exact .inl (hs3.right v hv)
     ·exact .inr (List.eq_of_mem_replicate hv)
    ·exact a2 g hg
   ·rw[c2]at hp';cases hp';exact c8 hres
  | leave r g=>
   rw[hq]at hd
   cases fs with
   | nil=>exact⟨fun g hg=>by simp at hg,by simp,fun g hg=>by simp at hg,trivial,h5⟩
   | cons f0 fs'=>
    obtain⟨⟨pr0,hpr0,hpc0⟩,b1,b2,b3,b4⟩:=hrest f0 (by simp)
    have hst:(f0.stack++g).length≤128∧AllOK (f0.stack++g):=by
     rcases hd with rfl | ⟨v,rfl,hv,hne⟩
     ·simpa using⟨b1,b3⟩
     ·have:=h4.1 pr hpr hne
      exact⟨by simp;omega,b3.snoc hv⟩
    refine⟨fun x hx=>?_,by simp at h2⊢;omega,fun x hx=>?_,?_,h5⟩
    ·rcases List.mem_cons.1 hx with rfl | hx
     ·exact⟨pr0,hpr0,hpc0⟩
     ·exact(hrest x (by simp[hx])).1
    ·rcases List.mem_cons.1 hx with rfl | hx
     ·exact⟨hst.1,b2,hst.2,b4⟩
     ·exact(hrest x (by simp[hx])).2
    ·cases fs' with
     | nil=>trivial
     | cons g2 r2=>exact⟨h4.2.1,h4.2.2⟩
theorem Inv.bd {pg:Pg} {s:Mc} (h:Inv pg s) (hc:∀pr∈pg.procs,pr.code.length≤90000000000000) (hs:s.steps≤100000000000000):Bd pg s:=
 ⟨h.procs,hc,h.frames,fun f hf=>by
  obtain⟨h1,h2,h3,h4⟩:=h.stack f hf
  exact⟨by omega,by omega,fun v hv=>by have:=vOK_size (h3 v hv);omega⟩,hs⟩
end
section
attribute [local irreducible] Tryz.prog
def madeB (s:Mc):Bool:=decide (0<s.frames.length) || s.ended
theorem ptrM:Tryz.prog.underlying 154=some (.pointer (Tryz.prog.pointee 154)):=by kernel_rfl
section
variable (G:Gh) (CA PA:Option Addr) (cc pc cn pn:Nat) (c3:Value) (mb:Nat)
theorem made_fn (s:Mc) (H:List Own) (hR:MRep CA PA cc pc cn pn c3 mb s H):
  Fn Tryz.prog 141 #[.pointer (some ⟨mb,0,none⟩)] G H fun e G' H'=>e= .returned (.bool (madeB s))∧G=G'∧H'=H:=by
 obtain⟨FA,fcap,OA,ocap,ox,fx,bs,Hf,hF,hfv,ho,rfl⟩:=hR
 have hlen:=hF.len
 have hl2:bs.reverse.length=s.frames.length:=by simp[hlen]
 rw[hl2]
 refine Fn.enter Tryz.func141 rfl rfl fun w0=>?_
 refine WC.seq ?_
 refine WC.region ?_
 refine zw.assign ?_
 refine WL.nil ?_
 refine WK.un ?_
 refine WC.seq ?_
 refine WC.region ?_
 refine zw.move ?_
 refine WL.pp (Gp.nePtrNil rfl ptrM) ?_
 refine zw.move ?_
 refine zw.move ?_
 refine zw.nil ?_
 refine zw.fa ?_
 refine zw.ld ?_
 refine zw.len ?_
 by_cases hf:0<s.frames.length
 ·
  refine WL.pp (Gp.gtI' rfl rfl (show decide ((0:Int)<(s.frames.length:Int))=true from decide_eq_true (by omega))) ?_
  refine zw.move ?_
  refine zw.skip ?_
  refine zw.skip ?_
  refine zw.skip ?_
  refine zw.skip ?_
  refine zw.pick ?_
  refine zw.pick ?_
  refine zw.assign ?_
  refine WL.nil ?_
  refine WK.un ?_
  refine WC.rt ?_
  exact QF.p1 (.inl rfl) rfl (.tmp rfl) (⟨by simp[madeB,hf],rfl,rfl⟩)
 ·
  refine WL.pp (Gp.gtI' rfl rfl (show decide ((0:Int)<(s.frames.length:Int))=false from decide_eq_false (by omega))) ?_
  refine zw.move ?_
  refine zw.move ?_
  refine zw.nil ?_
  refine zw.fa ?_
  refine zw.ld ?_
  refine zw.pick ?_
  refine zw.pick ?_
  refine zw.assign ?_
  refine WL.nil ?_
  refine WK.un ?_
  refine WC.rt ?_
  exact QF.p1 (.inl rfl) rfl (.tmp rfl) (⟨by simp[madeB,hf],rfl,rfl⟩)
end
end
section
attribute [local irreducible] Tryz.prog
def Live (s:Mc):Prop:=s.ended=false→s.frames≠ []
theorem Live.step {pg:Pg} {s:Mc} (h:Live s):Live (stepM pg s):=by
 unfold stepM
 split
 ·exact h
 ·split
  ·exact h
  ·split
   ·intro h';cases h'
   ·intro _ h';cases h'
   ·intro _ h';cases h'
   ·intro _ h';cases h'
   ·split
    ·intro h';cases h'
    ·intro _ h';cases h'
def runM (pg:Pg):Nat→Mc→Nat×Mc
 | 0,s=>(0,s)
 | n+1,s=>if s.ended then(0,s)else((runM pg n (stepM pg s)).1+1,(runM pg n (stepM pg s)).2)
theorem runM_ended {pg:Pg} {s:Mc} (h:s.ended=true):∀n,runM pg n s=(0,s)
 | 0=>rfl
 | n+1=>by simp[runM,h]
theorem stepM_steps1 {pg:Pg} {s:Mc} (hne:s.frames≠ []) (hp:∀f∈s.frames,∃pr,pg.procs[f.proc]? =some pr∧f.pc≤pr.code.length):(stepM pg s).steps=s.steps+1:=by
 obtain⟨frames,out,steps,en,val,ended⟩:=s
 cases frames with
 | nil=>exact absurd rfl hne
 | cons f fs=>
  obtain⟨pr,h1,_⟩:=hp f (by simp)
  simp only[stepM,h1]
  split<;>(try split)<;>rfl
section
variable (G:Gh) (pg:Pg) (CA PA:Option Addr) (cc pc:Nat) (hC:Sl Kd.val G CA pg.consts) (hP:Sl Kd.prc G PA pg.procs) (hcode:∀pr∈pg.procs,pr.code.length≤90000000000000) (mb:Nat) (c3:Value)
include hC hP hcode
theorem Step_fn (s:Mc) (H:List Own) (hR:MRep CA PA cc pc pg.consts.length pg.procs.length c3 mb s H) (hI:Inv pg s) (hv:Live s) (n:Int) (hn:n≤1000000) (hst:s.steps+1000000≤100000000000000):
  Fn Tryz.prog 94 #[.pointer (some ⟨mb,0,none⟩), .int .i64 n] G H fun e G' H'=>e= .returned (.int .i64 (runM pg n.toNat s).1)∧G=G'∧MRep CA PA cc pc pg.consts.length pg.procs.length c3 mb (runM pg n.toNat s).2 H':=by
 have hm:madeB s=true:=by
  unfold madeB
  cases he:s.ended with
  | true=>simp
  | false=>have:=hv he;simp[List.length_pos_iff,this]
 refine Fn.enter Tryz.func94 rfl rfl fun w0=>?_
 refine WC.seq ?_
 refine WC.region ?_
 refine zw.assign ?_
 refine WL.nil ?_
 refine WK.un ?_
 refine WC.seq ?_
 refine WC.seq ?_
 refine WC.region ?_
 refine zw.move ?_
 refine WL.oo (OW.callK rfl (made_fn G CA PA cc pc pg.consts.length pg.procs.length c3 mb s H hR) rfl fun v' G' H' h hg=>?_)
 obtain⟨he,rfl,rfl⟩:=h
 cases he
 rw[hm]
 refine zw.not ?_
 refine WL.nil ?_
 refine WK.un ?_
 refine WC.cond_false rfl ?_
 refine WC.skip ?_
 refine WK.un ?_
 refine WC.seq ?_
 refine WC.region ?_
 refine zw.assign ?_
 refine WL.nil ?_
 refine WK.un ?_
 refine WC.seq ?_
 refine WC.block ?_  -- 0
 refine WC.loop (X:=Nat×Mc×List Own) (fun x=>[(5, .int .i64 x.1),(1, .int .i64 n),(0, .pointer (some ⟨mb,0,none⟩))]) (fun x=>G) (fun x=>x.2.2) (fun x=>n.toNat - x.1)
  (fun x=>x.1≤n.toNat∧MRep CA PA cc pc pg.consts.length pg.procs.length c3 mb x.2.1 x.2.2∧Inv pg x.2.1∧Live x.2.1∧x.2.1.steps+(n.toNat - x.1)≤100000000000000∧runM pg n.toNat s=(x.1+(runM pg (n.toNat - x.1) x.2.1).1,(runM pg (n.toNat - x.1) x.2.1).2))
  (0,s,H') ⟨by simp,hR,hI,hv,by simp only;omega,by simp⟩ (by exact⟨rfl,rfl,rfl,trivial⟩) rfl (by simp) fun x hx=>?_
 obtain⟨j,t,Ht⟩:=x
 obtain⟨hj,hRt,hIt,hvt,hst',hrun⟩:=hx
 simp only at hj hRt hIt hvt hst' hrun
 have hRt0:=hRt
 obtain⟨FA,fcap,OA,ocap,ox,fx,bs,Hf,hF,hfv,ho,rfl⟩:=hRt
 refine WC.seq ?_
 refine WC.seq ?_
 refine WC.region ?_
 refine zw.move ?_
 refine zw.move ?_
 by_cases hjn:(j:Int)<n
 rotate_left
 ·
  refine WL.pp (Gp.ltI' rfl rfl (show decide ((j:Int)<n)=false from decide_eq_false hjn)) ?_
  refine zw.move ?_
  refine zw.skip ?_
  refine zw.skip ?_
  refine zw.skip ?_
  refine zw.skip ?_
  refine zw.skip ?_
  refine zw.pick ?_
  refine WL.nil ?_
  refine WK.un ?_
  refine WC.cond_false rfl ?_
  refine WC.exit ?_
  refine WK.un ?_
  refine WC.seq ?_
  refine WC.region ?_
  refine zw.move ?_
  refine zw.assign ?_
  refine WL.nil ?_
  refine WK.un ?_
  have hj':n.toNat - j=0:=by omega
  rw[hj']at hrun
  refine WC.rt ?_
  exact QF.p1 (.inl rfl) rfl (.tmp rfl) (⟨by rw[hrun];simp[runM],rfl,by rw[hrun];exact hRt0⟩)
 refine WL.pp (Gp.ltI' rfl rfl (show decide ((j:Int)<n)=true from decide_eq_true hjn)) ?_
 refine zw.move ?_
 refine zw.move ?_
 refine zw.nil ?_
 refine zw.fa ?_
 refine zw.ld ?_
 cases hen:t.ended with
 | true=>
  refine zw.not ?_
  refine zw.pick ?_
  refine WL.nil ?_
  refine WK.un ?_
  refine WC.cond_false rfl ?_
  refine WC.exit ?_
  refine WK.un ?_
  refine WC.seq ?_
  refine WC.region ?_
  refine zw.move ?_
  refine zw.assign ?_
  refine WL.nil ?_
  refine WK.un ?_
  rw[runM_ended hen]at hrun
  rw[hen]at hRt0
  refine WC.rt ?_
  exact QF.p1 (.inl rfl) rfl (.tmp rfl) (⟨by rw[hrun];simp,rfl,by rw[hrun];exact hRt0⟩)
 | false=>
  refine zw.not ?_
  refine zw.pick ?_
  refine WL.nil ?_
  refine WK.un ?_
  refine WC.cond_true rfl ?_
  refine WC.skip ?_
  refine WK.un ?_
  refine WC.block ?_  -- 1
  refine WC.seq ?_
  refine WC.region ?_
  refine zw.move ?_
  have hne:=hvt hen
  rw[hen]at hRt0
  have hs1:=stepM_steps1 hne hIt.procs
  refine WL.oo (OW.callK rfl (stepM_fn G pg CA PA cc pc hC hP mb c3 t _ hRt0 (hIt.bd hcode (by omega)) hne) rfl fun v' G' H' h hg=>?_)
  obtain⟨he,rfl,hR'⟩:=h
  cases he
  refine WL.nil ?_
  refine WK.un ?_
  refine WC.region ?_
  refine zw.move ?_
  refine zw.add ?_
  refine zw.assign ?_
  refine WL.nil ?_
  refine WK.un ?_
  obtain⟨m,hm'⟩:∃m,n.toNat - j=m+1:=⟨n.toNat - j - 1,by omega⟩
  have hm2:n.toNat - (j+1)=m:=by omega
  have hrun':runM pg n.toNat s=(j+1+(runM pg (n.toNat - (j+1)) (stepM pg t)).1,(runM pg (n.toNat - (j+1)) (stepM pg t)).2):=by
   rw[hrun,hm',hm2,runM,hen]
   simp;omega
  refine WK.pk (H':=H') pkA ?_
  exact WK.again (j+1,stepM pg t,H') (show n.toNat - (j+1)<n.toNat - j by omega) ⟨show j+1≤n.toNat by omega,hR',hIt.step,hvt.step,by simp only;rw[hs1];omega,hrun'⟩ (by refine⟨?_,rfl,rfl,trivial⟩;show some _=some _;rw[wrap_small (by omega) (by omega)];rfl) rfl (List.Sublist.refl _)
end
end
section
attribute [local irreducible] Tryz.prog
structure PgB (pg:Pg):Prop where
 consts:pg.consts.length*40≤140737488355328
 procs:pg.procs.length*88≤140737488355328
 params:∀p∈pg.procs,p.params.length*8≤140737488355328
 code:∀p∈pg.procs,p.code.length*16≤140737488355328
theorem own_fn (G:Gh) (pg:Pg) (CA PA:Option Addr) (cc pc:Nat) (qv:Value) (hC:Sl Kd.val G CA pg.consts) (hP:Sl Kd.prc G PA pg.procs) (hB:PgB pg):
  Fn Tryz.prog 139 #[.agg #[.slice CA pg.consts.length cc, .slice PA pg.procs.length pc,qv]] G []
   fun e G' H'=>∃CA' PA' cc' pc',e= .returned (.agg #[.slice CA' pg.consts.length cc', .slice PA' pg.procs.length pc', .slice none 0 0])∧G.le G'∧Sl Kd.val G' CA' pg.consts∧Sl Kd.prc G' PA' pg.procs∧H'=[]:=by
 obtain⟨csC,hrC,hlC,h1C,hkC⟩:=Sl.rds (H:=[]) (by decide:0<Kd.val.n) hC
 obtain⟨csP,hrP,hlP,h1P,hkP⟩:=Sl.rds (H:=[]) (by decide:0<Kd.prc.n) hP
 refine Fn.enter Tryz.func139 rfl rfl fun w0=>?_
 refine WC.seq ?_
 refine WC.region ?_
 refine WL.oo (OW.box rfl rfl fun b5=>?_)
 refine WL.oo (OW.alloc rfl fun b6=>?_)
 refine WL.nil ?_
 refine WK.un ?_
 refine WC.join (X:=Option Addr×Nat×Own×Option Addr×Nat×Own×Nat×Nat) (fun x=>[(3, .pointer (some ⟨x.2.2.2.2.2.2.1,0,none⟩)),(2, .pointer (some ⟨x.2.2.2.2.2.2.2,0,none⟩))]) (fun x=>G)
  (fun x=>[x.2.2.1,x.2.2.2.2.2.1, .blk x.2.2.2.2.2.2.1 (.cells #[.slice x.1 pg.consts.length x.2.1, .slice x.2.2.2.1 pg.procs.length x.2.2.2.2.1, .slice none 0 0] 27 (0,0)), .blk x.2.2.2.2.2.2.2 (.cells #[.slice none 0 0, .slice none 0 0, .slice none 0 0] 27 (0,0))])
  (fun x=>Vec 52 4 x.1 pg.consts.length x.2.1 csC x.2.2.1∧Vec 47 6 x.2.2.2.1 pg.procs.length x.2.2.2.2.1 csP x.2.2.2.2.2.1) ?_ fun x hx=>?_
 ·refine WC.drawS (Hs:=[.blk b5 (.cells #[.slice CA pg.consts.length cc, .slice PA pg.procs.length pc,qv] 27 (0,0))]) mixed pkA ?_
  refine zb.fa 0 ?_
  refine zb.fa 3 ?_
  refine zb.ld 1 ?_
  refine zb.ld 4 ?_
  refine WB.two (i:=2) (j:=7) kr rfl rfl kr kr ?_ ?_
  ·refine OW.callR rfl (Pk.perm pkA) (clone_vals G [] CA pg.consts.length cc csC hrC hlC h1C hC.none_zero hB.consts) rfl (by intro e G' H' h;repeat (first | exact⟨_,h.1⟩ | (obtain⟨_,h⟩:=h))) fun v' G' H' h hg=>?_
   obtain⟨A1,cap1,x1,he,rfl,rfl,hx1⟩:=h
   cases he
   refine⟨fun w hw=>hw.pk pkA,?_⟩
   refine WB.two (i:=5) (j:=7) kr rfl rfl kr kr ?_ ?_
   ·refine OW.callR rfl (Pk.perm pkA) (clone_procs G [] PA pg.procs.length pc csP hrP hlP h1P hP.none_zero hB.procs) rfl (by intro e G' H' h;repeat (first | exact⟨_,h.1⟩ | (obtain⟨_,h⟩:=h))) fun v' G' H' h hg=>?_
    obtain⟨A2,cap2,x2,he,rfl,rfl,hx2⟩:=h
    cases he
    refine⟨fun w hw=>hw.pk pkA,?_⟩
    refine zb.build 6 ?_
    refine WB.oo 7 rfl (OW.alloc rfl fun b7=>?_)
    refine⟨fun w hw=>hw.pk pkA,?_⟩
    refine zb.st 8 ?_
    refine⟨fun w hw=>hw.pk pkA,?_⟩
    refine WB.done kr ?_
    refine WK.un ?_
    refine WK.pk (H':=[x1,x2, .blk b7 (.cells #[.slice A1 pg.consts.length cap1, .slice A2 pg.procs.length cap2, .slice none 0 0] 27 (0,0)), .blk b6 (.cells #[.slice none 0 0, .slice none 0 0, .slice none 0 0] 27 (0,0))]) pkA ?_
    exact WK.meet (A1,cap1,x1,A2,cap2,x2,b7,b6) ⟨hx1,hx2⟩ (by exact⟨rfl,rfl,trivial⟩) rfl (List.Sublist.refl _)
   ·refine OW.alloc rfl fun b7=>?_
    refine⟨fun w hw=>hw.pk pkA,?_⟩
    refine WB.oo 5 rfl (OW.callR rfl (Pk.perm pkA) (clone_procs G [] PA pg.procs.length pc csP hrP hlP h1P hP.none_zero hB.procs) rfl (by intro e G' H' h;repeat (first | exact⟨_,h.1⟩ | (obtain⟨_,h⟩:=h))) fun v' G' H' h hg=>?_)
    obtain⟨A2,cap2,x2,he,rfl,rfl,hx2⟩:=h
    cases he
    refine⟨fun w hw=>hw.pk pkA,?_⟩
    refine zb.build 6 ?_
    refine zb.st 8 ?_
    refine⟨fun w hw=>hw.pk pkA,?_⟩
    refine WB.done kr ?_
    refine WK.un ?_
    refine WK.pk (H':=[x1,x2, .blk b7 (.cells #[.slice A1 pg.consts.length cap1, .slice A2 pg.procs.length cap2, .slice none 0 0] 27 (0,0)), .blk b6 (.cells #[.slice none 0 0, .slice none 0 0, .slice none 0 0] 27 (0,0))]) pkA ?_
    exact WK.meet (A1,cap1,x1,A2,cap2,x2,b7,b6) ⟨hx1,hx2⟩ (by exact⟨rfl,rfl,trivial⟩) rfl (List.Sublist.refl _)
  ·refine OW.alloc rfl fun b7=>?_
   refine⟨fun w hw=>hw.pk pkA,?_⟩
   refine WB.oo 2 rfl (OW.callR rfl (Pk.perm pkA) (clone_vals G [] CA pg.consts.length cc csC hrC hlC h1C hC.none_zero hB.consts) rfl (by intro e G' H' h;repeat (first | exact⟨_,h.1⟩ | (obtain⟨_,h⟩:=h))) fun v' G' H' h hg=>?_)
   obtain⟨A1,cap1,x1,he,rfl,rfl,hx1⟩:=h
   cases he
   refine⟨fun w hw=>hw.pk pkA,?_⟩
   refine WB.oo 5 rfl (OW.callR rfl (Pk.perm pkA) (clone_procs G [] PA pg.procs.length pc csP hrP hlP h1P hP.none_zero hB.procs) rfl (by intro e G' H' h;repeat (first | exact⟨_,h.1⟩ | (obtain⟨_,h⟩:=h))) fun v' G' H' h hg=>?_)
   obtain⟨A2,cap2,x2,he,rfl,rfl,hx2⟩:=h
   cases he
   refine⟨fun w hw=>hw.pk pkA,?_⟩
   refine zb.build 6 ?_
   refine zb.st 8 ?_
   refine⟨fun w hw=>hw.pk pkA,?_⟩
   refine WB.done kr ?_
   refine WK.un ?_
   refine WK.pk (H':=[x1,x2, .blk b7 (.cells #[.slice A1 pg.consts.length cap1, .slice A2 pg.procs.length cap2, .slice none 0 0] 27 (0,0)), .blk b6 (.cells #[.slice none 0 0, .slice none 0 0, .slice none 0 0] 27 (0,0))]) pkA ?_
   exact WK.meet (A1,cap1,x1,A2,cap2,x2,b7,b6) ⟨hx1,hx2⟩ (by exact⟨rfl,rfl,trivial⟩) rfl (List.Sublist.refl _)
 obtain⟨A1,cap1,x1,A2,cap2,x2,bq,br⟩:=x
 obtain⟨hx1,hx2⟩:=hx
 simp only at hx1 hx2
 refine WC.frozenVec hx1 .here fun G1 hG1 hz1=>?_
 have hC1:Sl Kd.val G1 A1 pg.consts:=Sl.ofCs hz1 hlC (by decide) fun i x hx=>Kd.val.mono hG1 (hkC i x hx)
 refine WC.seq ?_
 refine WC.seq ?_
 refine WC.region ?_
 refine zw.fa ?_
 refine zw.ld ?_
 refine zw.len ?_
 refine zw.move ?_
 refine WL.nil ?_
 refine WK.un ?_
 refine WC.block ?_  -- 0
 have hmb:=hB.procs
 refine WC.loop (X:=Nat×Gh×Own) (fun x=>[(15, .int .i64 x.1),(14, .int .i64 pg.procs.length),(3, .pointer (some ⟨bq,0,none⟩)),(2, .pointer (some ⟨br,0,none⟩))]) (fun x=>x.2.1)
  (fun x=>[x.2.2, .blk bq (.cells #[.slice A1 pg.consts.length cap1, .slice A2 pg.procs.length cap2, .slice none 0 0] 27 (0,0)), .blk br (.cells #[.slice none 0 0, .slice none 0 0, .slice none 0 0] 27 (0,0))]) (fun x=>pg.procs.length - x.1)
  (fun x=>x.1≤pg.procs.length∧G1.le x.2.1∧∃cs,Vec 47 6 A2 pg.procs.length cap2 cs x.2.2∧∀i p,pg.procs[i]? =some p→Kd.prc.K x.2.1 p ((cs.drop (i*6)).take 6))
  (0,G1,x2) ⟨by simp,Gh.le_refl _,csP,hx2,fun i p hp=>Kd.prc.mono hG1 (hkP i p hp)⟩ (by exact⟨rfl,rfl,rfl,rfl,trivial⟩) rfl (List.Sublist.refl _) fun x hx=>?_
 obtain⟨j,Gj,xj⟩:=x
 obtain⟨hj,hGj,cs,hvj,hkj⟩:=hx
 simp only at hj hGj hvj hkj
 refine WC.seq ?_
 refine WC.region ?_
 refine zw.lt ?_
 refine WL.nil ?_
 refine WK.un ?_
 refine WC.seq ?_
 refine WC.cond rfl (fun hc8=>?_) (fun hc8=>?_)
 ·-- yes
  have hlt:j<pg.procs.length:=by have h:=of_decide_eq_true hc8;simp only at h;omega
  obtain⟨pr,hpr⟩:∃pr,pg.procs[j]? =some pr:=⟨_,List.getElem?_eq_getElem hlt⟩
  obtain⟨QA,qc,IA,ic,hes,hQ,hI⟩:=hkj j pr hpr
  obtain⟨hlv,⟨h1,h2,h3,h4⟩ | ⟨pb,c,rfl,rfl,hv1,hv2,hv3⟩⟩:=id hvj
  ·omega
  have hvv:=hvj
  obtain⟨csQ,hrQ,hlQ,h1Q,hkQ⟩:=Sl.rds (H:=[]) (by decide:0<(Kd.int .i64).n) hQ
  refine WC.skip ?_
  refine WK.un ?_
  refine WC.seq ?_
  refine WC.block ?_  -- 1
  refine WC.seq ?_
  refine WC.region ?_
  refine zw.move ?_
  refine zw.assign ?_
  refine WL.nil ?_
  refine WK.un ?_
  refine WC.seq ?_
  refine WC.drawS (Hs:=[.blk bq (.cells #[.slice A1 pg.consts.length cap1, .slice (some ⟨pb,0,none⟩) pg.procs.length cap2, .slice none 0 0] 27 (0,0))]) mixed pkA ?_
  refine zb.fa 0 ?_
  refine zb.move 2 ?_
  refine zb.fa 3 ?_
  refine zb.move 5 ?_
  refine zb.ld 1 ?_
  refine zb.ld 4 ?_
  refine zb.ix 6 ?_
  refine zb.fa 7 ?_
  refine WB.oo 8 rfl (OW.gv (Gv.load1 rfl atA (elem_cell (k:=2) hv3 hes rfl)) rfl ?_)
  refine⟨fun w hw=>hw.pk pkA,?_⟩
  refine WB.oo 9 rfl (OW.callK rfl (clone_types Gj [] QA pr.params.length _ csQ hrQ hlQ h1Q hQ.none_zero (hB.params pr (List.mem_of_getElem? hpr))) rfl fun v' G' H' h hg=>?_)
  obtain⟨QA1,qc1,y1,he,rfl,rfl,hy1⟩:=h
  cases he
  refine⟨fun w hw=>hw.pk pkA,?_⟩
  obtain⟨_,hfitQ,hputQ⟩:=Vec.put1 hvv (o:=j*6+2) (by omega) (.slice QA1 pr.params.length qc1)
  refine zb.ix 10 ?_
  refine zb.fa 11 ?_
  refine WB.oo 12 rfl (OW.store (n:=1) (c':=splice c (j*6+2) [.slice QA1 pr.params.length qc1]) rfl rfl atA rfl rfl rfl (Nat.ble_eq_true_of_le (by simp;omega)) (by simp;rfl) ?_ rfl)
  refine⟨fun w hw=>hw.pk pkA,?_⟩
  refine WB.done kr ?_
  refine WK.un ?_
  refine WC.frozenVec hy1 atA fun G2 hG2 hzQ=>?_
  have hQ2:Sl (Kd.int .i64) G2 QA1 pr.params:=Sl.ofCs hzQ hlQ (by decide) fun i x hx=>(Kd.int .i64).mono hG2 (hkQ i x hx)
  have hI2:Sl Kd.ins G2 IA pr.code:=hI.mono hG2
  obtain⟨csI,hrI,hlI,h1I,hkI⟩:=Sl.rds (H:=[]) (by decide:0<Kd.ins.n) hI2
  have hes2:((cs.set (j*6+2) (.slice QA1 pr.params.length qc1)).drop (j*6)).take 6=[.string pr.name, .bool pr.exp, .slice QA1 pr.params.length qc1, .int .i64 pr.locals, .int .i64 pr.result, .slice IA pr.code.length ic]:=by
   rw[set_elem (by omega),if_pos rfl,hes];rfl
  obtain⟨c2,hc2⟩:∃c2,c2=splice c (j*6+2) [.slice QA1 pr.params.length qc1]:=⟨_,rfl⟩
  rw[←hc2]at hputQ
  have hvv2:=hputQ
  obtain⟨hlv2,⟨h1,h2,h3,h4⟩ | ⟨pb2,c2',hpb,hxx,hv12,hv22,hv32⟩⟩:=id hputQ
  ·omega
  cases hxx
  refine WC.pk (H':=[.blk pb (.cells c2 47 (0,0)), .blk bq (.cells #[.slice A1 pg.consts.length cap1, .slice (some ⟨pb,0,none⟩) pg.procs.length cap2, .slice none 0 0] 27 (0,0)), .blk br (.cells #[.slice none 0 0, .slice none 0 0, .slice none 0 0] 27 (0,0))]) (by subst hc2;exact pkA) ?_
  refine WC.drawS (Hs:=[.blk bq (.cells #[.slice A1 pg.consts.length cap1, .slice (some ⟨pb,0,none⟩) pg.procs.length cap2, .slice none 0 0] 27 (0,0))]) mixed pkA ?_
  refine zb.fa 0 ?_
  refine zb.move 2 ?_
  refine zb.fa 3 ?_
  refine zb.move 5 ?_
  refine zb.ld 1 ?_
  refine zb.ld 4 ?_
  refine zb.ix 6 ?_
  refine zb.fa 7 ?_
  refine WB.oo 8 rfl (OW.gv (Gv.load1 rfl atA (elem_cell (k:=5) hv32 hes2 rfl)) rfl ?_)
  refine⟨fun w hw=>hw.pk pkA,?_⟩
  refine WB.oo 9 rfl (OW.callK rfl (clone_instrs G2 [] IA pr.code.length _ csI hrI hlI h1I hI2.none_zero (hB.code pr (List.mem_of_getElem? hpr))) rfl fun v' G' H' h hg=>?_)
  obtain⟨IA1,ic1,z1,he,rfl,rfl,hz1'⟩:=h
  cases he
  refine⟨fun w hw=>hw.pk pkA,?_⟩
  obtain⟨_,hfitI,hputI⟩:=Vec.put1 hvv2 (o:=j*6+5) (by omega) (.slice IA1 pr.code.length ic1)
  refine zb.ix 10 ?_
  refine zb.fa 11 ?_
  refine WB.oo 12 rfl (OW.store (n:=1) (c':=splice c2 (j*6+5) [.slice IA1 pr.code.length ic1]) rfl rfl atA rfl rfl rfl (Nat.ble_eq_true_of_le (by simp;omega)) (by simp;rfl) ?_ rfl)
  refine⟨fun w hw=>hw.pk pkA,?_⟩
  refine WB.done kr ?_
  refine WK.un ?_
  refine WC.frozenVec hz1' atA fun G3 hG3 hzI=>?_
  have hI3:Sl Kd.ins G3 IA1 pr.code:=Sl.ofCs hzI hlI (by decide) fun i x hx=>Kd.ins.mono hG3 (hkI i x hx)
  have hes3:(((cs.set (j*6+2) (.slice QA1 pr.params.length qc1)).set (j*6+5) (.slice IA1 pr.code.length ic1)).drop (j*6)).take 6=[.string pr.name, .bool pr.exp, .slice QA1 pr.params.length qc1, .int .i64 pr.locals, .int .i64 pr.result, .slice IA1 pr.code.length ic1]:=by
   rw[set_elem (by omega),if_pos rfl,hes2];rfl
  refine WC.region ?_
  refine zw.add ?_
  refine zw.move ?_
  refine WL.nil ?_
  refine WK.un ?_
  refine WK.pk (H':=[.blk pb (.cells (splice c2 (j*6+5) [.slice IA1 pr.code.length ic1]) 47 (0,0)), .blk bq (.cells #[.slice A1 pg.consts.length cap1, .slice (some ⟨pb,0,none⟩) pg.procs.length cap2, .slice none 0 0] 27 (0,0)), .blk br (.cells #[.slice none 0 0, .slice none 0 0, .slice none 0 0] 27 (0,0))]) pkA ?_
  exact WK.again (j+1,G3, .blk pb (.cells (splice c2 (j*6+5) [.slice IA1 pr.code.length ic1]) 47 (0,0))) (show pg.procs.length - (j+1)<pg.procs.length - j by omega)
   ⟨show j+1≤pg.procs.length by omega,Gh.le_trans hGj (Gh.le_trans hG2 hG3),_,hputI,fun i p hp=>by
    by_cases hij:i=j
    ·subst hij
     rw[hpr]at hp;cases hp
     exact⟨QA1,qc1,IA1,ic1,hes3,hQ2.mono hG3,hI3⟩
    ·rw[set_elem (by omega),if_neg hij,set_elem (by omega),if_neg hij]
     exact Kd.prc.mono (Gh.le_trans hG2 hG3) (hkj i p hp)⟩ (by refine⟨?_,rfl,rfl,rfl,trivial⟩;show some _=some _;rw[wrap_small (by omega) (by omega)];rfl) rfl (List.Sublist.refl _)
 ·-- no
  have hge:j=pg.procs.length:=by have h:=of_decide_eq_false hc8;simp only at h;omega
  refine WC.exit ?_
  refine WK.un ?_
  refine WC.frozenVec hvj .here fun G4 hG4 hz4=>?_
  have hP4:Sl Kd.prc G4 A2 pg.procs:=Sl.ofCs hz4 hvj.1 (by decide) fun i x hx=>Kd.prc.mono hG4 (hkj i x hx)
  refine WC.seq ?_
  refine WC.region ?_
  refine WL.vv (Gv.loadN rfl atA rfl rfl) ?_
  refine zw.st ?_
  refine WL.nil ?_
  refine WK.un ?_
  refine WC.rt ?_
  exact QF.p1 (.inl rfl) rfl (.cell rfl inferInstance inferInstance atA rfl rfl) (⟨A1,A2,cap1,cap2,rfl,Gh.le_trans hG1 (Gh.le_trans hGj hG4),hC1.mono (Gh.le_trans hGj hG4),hP4,rfl⟩)
end
end Go.Proofs.YtcnlkfocbbkdhaaGreatDoor.Gb
