/- A procedure's head, an object's head: walked. All procedures of a world: walked. All procedures of a world: walked. Objects, what is ahead of their instructions: walked. What is ahead of a procedure's instructions: walked. Heights and Types: walked. The small object, which must be taken; and what is wrong with it when it gives another type. Pairs of numbers, compared. What must come, whatever else is so: walked. What must come, whatever else is so: walked. Names of instructions: walked. Numbers in bytes: walked. Instructions in bytes: walked. Instructions in bytes: walked. Arguments of the statements about instructions: opened. Lines of instructions: walked. CodeLines: walked. A line cut at its first blank: walked. Digits and numbers (no program in sight). A line read as an instruction: what both answers say (no program in sight). A line read as an instruction: both answers agree (no program in sight). Lines read by the program: walked. Digits, as the document reads them: walked. Lines, as the document reads them: walked. CodeParses: walked. A reader of bytes: small things, walked. A reader's numbers: walked. Bytes read as instructions: the law, no program in sight; there and back. Layer 22: what objects come to when they are put together (no program in sight). Slices of ours whose elements have parts that stay. Maps whose keys are structs. Layer 22: what is exported, laid up by path and name (no program in sight). Layer 22: one more exported procedure among those laid up (no program in sight). Layer 22: a path and a name as a key. Layer 22: exported, walked. -/
import Derived.Test.YtcnlkfocbbkdhaaGreatDoorVd
import Derived.Lib.ItoaLen
import Derived.Lib.AtoiAllCases
import Derived.Laws.StructEq
set_option linter.unusedVariables false
set_option linter.unusedSimpArgs false
set_option linter.unusedSectionVars false
namespace Go.Proofs.YtcnlkfocbbkdhaaGreatDoor.Gb
open Go Go.Proofs
section
attribute [local irreducible] Tryz.prog
def procR (p:Pr):Bool:=wordR p.name&&(headR p.params p.result&&(decide ((p.params.length:Int)≤p.locals)&&(decide (p.locals≤64)&&(decide (1≤(p.code.length:Int))&&decide ((p.code.length:Int)≤16384)))))
theorem proc_fn (G:Gh) (hE:Env G) (p:Pr) (QA IA:Option Addr) (qc ic:Nat) (hq:Sl (Kd.int .i64) G QA p.params) (hl:p.name.size≤100000000000000) (hql:p.params.length≤100000000000000):
  Fn Tryz.prog 89 #[.agg (prC p QA qc IA ic)] G [] fun e G' H'=>e= .returned (.bool (procR p))∧G=G'∧H'=[]:=by
 refine Fn.enter Tryz.func89 rfl rfl fun w0=>?_
 refine WC.seq ?_
 refine WC.region ?_
 refine WL.oo (OW.box rfl rfl fun b1=>?_)
 refine gom ?_
 refine WL.oo (OW.callK rfl (word_fn G hE p.name hl) rfl fun v' G' H' h hg=>?_)
 obtain⟨he,rfl,rfl⟩:=h
 cases he
 cases h1:wordR p.name with
 | false=>
  have hr:procR p=false:=by rw[procR,h1,Bool.false_and]
  rw[hr]
  refine gom ?_
  refine WC.rt ?_
  exact QF.p1 (.inl rfl) rfl (.tmp rfl) (⟨rfl,rfl,rfl⟩)
 | true=>
 refine gom ?_
 refine WL.oo (OW.callK rfl (head_fn G QA p.params qc p.result hq hql) rfl fun v' G' H' h hg=>?_)
 obtain⟨he,rfl,rfl⟩:=h
 cases he
 cases h2:headR p.params p.result with
 | false=>
  have hr:procR p=false:=by rw[procR,h1,h2,Bool.true_and,Bool.false_and]
  rw[hr]
  refine gom ?_
  refine WC.rt ?_
  exact QF.p1 (.inl rfl) rfl (.tmp rfl) (⟨rfl,rfl,rfl⟩)
 | true=>
 cases h3:decide ((p.params.length:Int)≤p.locals)with
 | false=>
  have hr:procR p=false:=by rw[procR,h1,h2,h3,Bool.true_and,Bool.true_and,Bool.false_and]
  rw[hr]
  refine gom ?_
  refine WC.rt ?_
  exact QF.p1 (.inl rfl) rfl (.tmp rfl) (⟨rfl,rfl,rfl⟩)
 | true=>
 cases h4:decide (p.locals≤64)with
 | false=>
  have hr:procR p=false:=by rw[procR,h1,h2,h3,h4,Bool.true_and,Bool.true_and,Bool.true_and,Bool.false_and]
  rw[hr]
  refine gom ?_
  refine WC.rt ?_
  exact QF.p1 (.inl rfl) rfl (.tmp rfl) (⟨rfl,rfl,rfl⟩)
 | true=>
 cases h5:decide (1≤(p.code.length:Int))with
 | false=>
  have hr:procR p=false:=by rw[procR,h1,h2,h3,h4,h5,Bool.true_and,Bool.true_and,Bool.true_and,Bool.true_and,Bool.false_and]
  rw[hr]
  refine gom ?_
  refine WC.rt ?_
  exact QF.p1 (.inl rfl) rfl (.tmp rfl) (⟨rfl,rfl,rfl⟩)
 | true=>
 have hr:procR p=decide ((p.code.length:Int)≤16384):=by rw[procR,h1,h2,h3,h4,h5,Bool.true_and,Bool.true_and,Bool.true_and,Bool.true_and,Bool.true_and]
 rw[hr]
 refine gom ?_
 refine WC.rt ?_
 exact QF.p1 (.inl rfl) rfl (.tmp rfl) (⟨rfl,rfl,rfl⟩)
structure Ob where
 path:ByteArray
 consts:List V
 needs:List Nd
 procs:List Pr
def Ob.wd (o:Ob):Wd:=⟨o.consts,o.needs,o.procs⟩
def obC (o:Ob) (CA NA PA:Option Addr) (cc nc pc:Nat):Array Value:= #[.string o.path, .slice CA o.consts.length cc, .slice NA o.needs.length nc, .slice PA o.procs.length pc]
structure OLim (o:Ob):Prop where
 path:o.path.size≤4000000000
 cl:o.consts.length≤100000000000000
 nl:o.needs.length≤100000000000000
 pl:o.procs.length≤100000000000000
 nd:∀q∈o.needs,q.params.length≤100000000000000∧q.path.size≤4000000000∧q.name.size≤100000000000000
 pr:∀q∈o.procs,q.params.length≤100000000000000∧q.code.length≤100000000000000∧q.name.size≤100000000000000
structure ORep (G:Gh) (o:Ob) (CA NA PA:Option Addr):Prop where
 consts:Sl Kd.val G CA o.consts
 needs:Sl Kd.ned G NA o.needs
 procs:Sl Kd.prc G PA o.procs
theorem ORep.mono {G G':Gh} {o:Ob} {CA NA PA:Option Addr} (h:ORep G o CA NA PA) (hg:G.le G'):ORep G' o CA NA PA:=⟨h.consts.mono hg,h.needs.mono hg,h.procs.mono hg⟩
def needR (n:Nd):Bool:=fileR n.path&&(wordR n.name&&headR n.params n.result)
def objR (o:Ob):Bool:=fileR o.path&&(o.consts.all valueR&&(decide ((o.consts.length:Int)≤4096)&&(decide ((o.needs.length:Int)≤4096)&&(decide ((o.procs.length:Int)≤128)&&o.needs.all needR))))
theorem dgt {a b:Int} {q:Bool} (h:decide (a≤b)=q):decide (b<a)= !q:=by
 cases q with
 | true=>have:=of_decide_eq_true h;exact decide_eq_false (by omega)
 | false=>have:=of_decide_eq_false h;exact decide_eq_true (by omega)
theorem object_fn (G:Gh) (hE:Env G) (o:Ob) (CA NA PA:Option Addr) (cc nc pc:Nat) (hO:ORep G o CA NA PA) (hL:OLim o):
  Fn Tryz.prog 41 #[.agg (obC o CA NA PA cc nc pc)] G [] fun e G' H'=>e= .returned (.bool (objR o))∧G.le G'∧H'=[]:=by
 have hnl:=hL.nl
 refine Fn.enter Tryz.func41 rfl rfl fun w0=>?_
 refine WC.seq ?_
 refine WC.region ?_
 refine WL.oo (OW.box rfl rfl fun b1=>?_)
 refine gom ?_
 refine WL.oo (OW.callK rfl (file_fn G hE o.path hL.path) rfl fun v' G' H' h hg=>?_)
 obtain⟨he,hg1,rfl⟩:=h
 cases he
 have hO1:=hO.mono hg1
 cases h1:fileR o.path with
 | false=>
  have hr:objR o=false:=by rw[objR,h1,Bool.false_and]
  rw[hr]
  refine gom ?_
  refine WC.rt ?_
  exact QF.p1 (.inl rfl) rfl (.tmp rfl) (⟨rfl,hg1,rfl⟩)
 | true=>
 refine gom ?_
 refine WL.oo (OW.callK rfl (values_fn G' CA o.consts cc hO1.consts hL.cl) rfl fun v' G' H' h hg=>?_)
 obtain⟨he,rfl,rfl⟩:=h
 cases he
 cases h2:o.consts.all valueR with
 | false=>
  have hr:objR o=false:=by rw[objR,h1,h2,Bool.true_and,Bool.false_and]
  rw[hr]
  refine gom ?_
  refine WC.rt ?_
  exact QF.p1 (.inl rfl) rfl (.tmp rfl) (⟨rfl,hg1,rfl⟩)
 | true=>
 cases h3:decide ((o.consts.length:Int)≤4096)with
 | false=>
  have hr:objR o=false:=by rw[objR,h1,h2,h3,Bool.true_and,Bool.true_and,Bool.false_and]
  have y3:=dgt h3
  rw[hr]
  refine gom ?_
  refine WC.rt ?_
  exact QF.p1 (.inl rfl) rfl (.tmp rfl) (⟨rfl,hg1,rfl⟩)
 | true=>
 have y3:=dgt h3
 cases h4:decide ((o.needs.length:Int)≤4096)with
 | false=>
  have hr:objR o=false:=by rw[objR,h1,h2,h3,h4,Bool.true_and,Bool.true_and,Bool.true_and,Bool.false_and]
  have y4:=dgt h4
  rw[hr]
  refine gom ?_
  refine WC.rt ?_
  exact QF.p1 (.inl rfl) rfl (.tmp rfl) (⟨rfl,hg1,rfl⟩)
 | true=>
 have y4:=dgt h4
 cases h5:decide ((o.procs.length:Int)≤128)with
 | false=>
  have hr:objR o=false:=by rw[objR,h1,h2,h3,h4,h5,Bool.true_and,Bool.true_and,Bool.true_and,Bool.true_and,Bool.false_and]
  have y5:=dgt h5
  rw[hr]
  refine gom ?_
  refine WC.rt ?_
  exact QF.p1 (.inl rfl) rfl (.tmp rfl) (⟨rfl,hg1,rfl⟩)
 | true=>
 have y5:=dgt h5
 have hr:objR o=o.needs.all needR:=by rw[objR,h1,h2,h3,h4,h5,Bool.true_and,Bool.true_and,Bool.true_and,Bool.true_and,Bool.true_and]
 rw[hr]
 refine gom ?_
 refine WC.loop (X:=Nat×Gh) (fun x=>[(34, .slice NA o.needs.length nc),(35, .int .i64 o.needs.length),(36, .int .i64 x.1)]) (fun x=>x.2) (fun _=>[]) (fun x=>o.needs.length - x.1) (fun x=>x.1≤o.needs.length∧G.le x.2∧∀j y,j<x.1→o.needs[j]? =some y→needR y=true) (0,G') ⟨Nat.zero_le _,hg1,fun j y h=>by omega⟩ (by exact⟨rfl,rfl,rfl,trivial⟩) rfl (List.nil_sublist _) fun x hx=>?_
 obtain⟨i,G1⟩:=x
 obtain⟨hi,hg1,hall⟩:=hx
 dsimp only at hi hg1 hall
 have x2:=wrapS i (by omega)
 by_cases hlt:i<o.needs.length
 rotate_left
 ·have e2:decide ((i:Int)<(o.needs.length:Int))=false:=decide_eq_false (by omega)
  rw[all_of hall (by omega)]
  refine gom ?_
  refine WC.rt ?_
  exact QF.p1 (.inl rfl) rfl (.tmp rfl) (⟨rfl,hg1,rfl⟩)
 have e2:decide ((i:Int)<(o.needs.length:Int))=true:=decide_eq_true (by omega)
 obtain⟨c,hc⟩:∃c,o.needs[i]? =some c:=⟨_,List.getElem?_eq_getElem (by omega)⟩
 obtain⟨hcp,hcf,hcn⟩:=hL.nd c (List.mem_of_getElem? hc)
 have hO2:=hO.mono hg1
 obtain⟨b,ofs,cs,rfl,hk,hcs⟩:=hO2.needs i c hc
 obtain⟨QA,qc,rfl,hQ⟩:=hk
 have x0:(0:Int)≤(i:Int):=by omega
 have x1:(i:Int)<(o.needs.length:Int):=by omega
 refine gom ?_
 refine WL.oo (OW.alloc rfl fun b4=>?_)
 refine gom ?_
 refine WL.oo (OW.callK rfl (file_fn G1 (hE.mono hg1) c.path hcf) rfl fun v' G' H' h hg=>?_)
 obtain⟨he,hg2,rfl⟩:=h
 cases he
 have hg3:=Gh.le_trans hg1 hg2
 cases h6:fileR c.path with
 | false=>
  rw[all_not hc (show needR c=false by rw[needR,h6,Bool.false_and])]
  refine gom ?_
  refine WC.rt ?_
  exact QF.p1 (.inl rfl) rfl (.tmp rfl) (⟨rfl,hg3,rfl⟩)
 | true=>
 refine gom ?_
 refine WL.oo (OW.callK rfl (word_fn _ (hE.mono hg3) c.name hcn) rfl fun v' G' H' h hg=>?_)
 obtain⟨he,rfl,rfl⟩:=h
 cases he
 cases h7:wordR c.name with
 | false=>
  rw[all_not hc (show needR c=false by rw[needR,h6,h7,Bool.true_and,Bool.false_and])]
  refine gom ?_
  refine WC.rt ?_
  exact QF.p1 (.inl rfl) rfl (.tmp rfl) (⟨rfl,hg3,rfl⟩)
 | true=>
 refine gom ?_
 refine WL.oo (OW.callK rfl (head_fn _ QA c.params qc c.result (hQ.mono hg2) hcp) rfl fun v' G' H' h hg=>?_)
 obtain⟨he,rfl,rfl⟩:=h
 cases he
 cases h8:headR c.params c.result with
 | false=>
  rw[all_not hc (show needR c=false by rw[needR,h6,h7,h8];rfl)]
  refine gom ?_
  refine WC.rt ?_
  exact QF.p1 (.inl rfl) rfl (.tmp rfl) (⟨rfl,hg3,rfl⟩)
 | true=>
  refine gom ?_
  exact WK.again (i+1,_) (by dsimp only;omega) ⟨by dsimp only;omega,hg3,all_step hc hall (by rw[needR,h6,h7,h8];rfl)⟩ (by exact⟨rfl,rfl,rfl,trivial⟩) rfl (List.nil_sublist _)
end
section
open Go.MapKept
attribute [local irreducible] Tryz.prog
open Classical in
noncomputable def flowOf (w:Wd) (p:Pr):List SS:=if h:∃l,Least w p l then h.choose else []
theorem Least.flow {w:Wd} {p:Pr} {l:List SS} (h:Least w p l):flowOf w p=l:=by
 have hx:∃l,Least w p l:=⟨l,h⟩
 unfold flowOf
 rw[dif_pos hx]
 exact Least.unique hx.choose_spec h
def aloneAt (w:Wd) (p:Pr) (k:Nat):Int:=match p.code[k]? with | some i=>aloneR w p i | none=>0
open Classical in
noncomputable def procOut (w:Wd) (seen:List ByteArray) (p:Pr):Int×Int:=
 if procR p=false∨p.name∈seen then(0,185)
 else if(firstR p.code.length (aloneAt w p)).2≠0 then firstR p.code.length (aloneAt w p)
 else wrongR w p (flowOf w p)
noncomputable def outAt (w:Wd) (k:Nat):Int×Int:=match w.procs[k]? with | some p=>procOut w ((w.procs.take k).map (·.name)) p | none=>(0,0)
noncomputable def allR (w:Wd):Int×Int×Int:=
 match (List.range w.procs.length).find? (fun k=>(outAt w k).2 != 0)with
 | some k=>((k:Int),(outAt w k).1,(outAt w k).2)
 | none=>(0,0,0)
theorem allR_at {w:Wd} {k:Nat} (hk:k<w.procs.length) (h0:∀j,j<k→(outAt w j).2=0) (h1:(outAt w k).2≠0):allR w=((k:Int),(outAt w k).1,(outAt w k).2):=by
 unfold allR
 rw[find_range hk (fun j hj=>by simp[h0 j hj]) (by simpa using h1)]
theorem allR_none {w:Wd} (h0:∀j,j<w.procs.length→(outAt w j).2=0):allR w=(0,0,0):=by
 unfold allR
 rw[List.find?_eq_none.2 (fun j hj=>by simp[h0 j (by simpa using hj)])]
theorem alone_ok {w:Wd} {p:Pr} {i:Int×Int} (h:aloneR w p i=0):0≤i.2∧EOk w p.locals.toNat i.1 i.2.toNat:=by
 have hm:mayR i.1 i.2=true:=by
  cases hm:mayR i.1 i.2 with
  | true=>rfl
  | false=>unfold aloneR at h;rw[if_pos hm]at h;cases h
 have h0:0≤i.2:=by
  unfold mayR at hm
  simp only[Bool.and_eq_true,decide_eq_true_eq]at hm
  exact hm.2.1
 unfold aloneR at h
 rw[if_neg (by rw[hm];simp)]at h
 have hn:¬(if i.1=1 then(w.consts.length:Int)else if i.1=2∨i.1=3 then p.locals else if i.1=7 then(w.procs.length:Int)else if i.1=8 then(w.needs.length:Int)else 2147483647)≤i.2:=fun hc=>by
  rw[if_pos hc]at h
  exact absurd h (by split<;>decide)
 refine⟨h0,⟨fun e=>?_,fun e=>?_,fun e=>?_,fun e=>?_,fun e=>?_⟩⟩<;>rw[e]at hn<;>simp at hn<;>omega
theorem procR_head {p:Pr} (h:procR p=true):(p.params.length:Int)≤p.locals∧p.locals≤64∧0<p.code.length∧p.code.length≤16384:=by
 unfold procR at h
 simp only[Bool.and_eq_true,decide_eq_true_eq]at h
 obtain⟨_,_,h1,h2,h3,h4⟩:=h
 exact⟨h1,h2,by omega,by omega⟩
theorem pok_of {w:Wd} {p:Pr} (h:procR p=true) (ha:∀(k:Nat) (i:Int×Int),p.code[k]? =some i→aloneR w p i=0):POk w p:=
 let ⟨h1,h2,h3,h4⟩:=procR_head h
 ⟨h1,h2,h3,h4,fun k i hi=>alone_ok (ha k i hi)⟩
def namesM (l:List Pr):List (ByteArray×Value):=l.map fun p=>(p.name, .int .i64 1)
theorem namesM_keys (l:List Pr):(namesM l).map (·.1)=l.map (·.name):=by rw[namesM,List.map_map];rfl
theorem getA_namesM {l:List Pr} {n:ByteArray} (h:n∈l.map (·.name)):getA (namesM l) n=some (.int .i64 1):=by
 unfold getA
 cases hf:(namesM l).find? (fun p=>decide (p.1=n))with
 | none=>
  rw[List.find?_eq_none]at hf
  obtain⟨p,hp,rfl⟩:=List.mem_map.1 h
  exact absurd (decide_eq_true rfl) (hf (p.name, .int .i64 1) (List.mem_map.2 ⟨p,hp,rfl⟩))
 | some q=>
  have:=List.mem_of_find?_eq_some hf
  obtain⟨p,hp,rfl⟩:=List.mem_map.1 this
  rfl
theorem getA_setA {κ:Type} [DecidableEq κ] (m:List (κ×Value)) (k:κ) (v:Value):getA (setA m k v) k=some v:=by
 unfold setA getA
 split
 ·rename_i h
  obtain⟨p,hp,hk⟩:=List.mem_map.1 h
  cases hf:(m.map (fun p=>if p.1=k then(k,v)else p)).find? (fun p=>decide (p.1=k))with
  | none=>
   rw[List.find?_eq_none]at hf
   exact absurd (decide_eq_true rfl) (hf (k,v) (List.mem_map.2 ⟨p,hp,by simp[hk]⟩))
  | some q=>
   have h1:=List.mem_of_find?_eq_some hf
   have h2:=List.find?_some hf
   obtain⟨r,hr,rfl⟩:=List.mem_map.1 h1
   by_cases hrk:r.1=k
   ·simp[hrk]
   ·simp[hrk]at h2
 ·rename_i h
  have hn:m.find? (fun p=>decide (p.1=k))=none:=by
   rw[List.find?_eq_none]
   intro p hp hk
   exact h (List.mem_map.2 ⟨p,hp,by simpa using hk⟩)
  rw[List.find?_append,hn]
  simp
theorem outAt_eq {w:Wd} {k:Nat} {p:Pr} (h:w.procs[k]? =some p):outAt w k=procOut w ((w.procs.take k).map (·.name)) p:=by unfold outAt;rw[h]
theorem take_snoc' {α:Type} {l:List α} {k:Nat} {x:α} (h:l[k]? =some x):l.take (k+1)=l.take k++[x]:=by
 rw[List.take_add_one,h];rfl
end
section
open Go.MapKept
attribute [local irreducible] Tryz.prog
structure AL where
 k:Nat
 G:Gh
 es:Array MapEntry
 ck:Nat
def okSoFar (w:Wd) (k:Nat):Prop:=∀j,j<k→(outAt w j).2=0
abbrev spB (b:Nat):Own:= .blk b (.cells #[.int .i64 0, .int .i64 0] 34 (0,0))
theorem name_new {w:Wd} {k:Nat} {p:Pr} (hp:w.procs[k]? =some p) (h:(outAt w k).2=0):p.name∉(w.procs.take k).map (·.name):=fun hm=>by
 rw[outAt_eq hp,procOut,if_pos (.inr hm)]at h
 cases h
theorem okSoFar_nodup {w:Wd} :∀ {k:Nat},k≤w.procs.length→okSoFar w k→((w.procs.take k).map (·.name)).Nodup
 | 0,_,_=>by simp
 | k+1,hk,h=>by
  obtain⟨p,hp⟩:∃p,w.procs[k]? =some p:=⟨_,List.getElem?_eq_getElem (by omega)⟩
  rw[take_snoc' hp,List.map_append,List.nodup_append]
  refine⟨okSoFar_nodup (by omega) fun j hj=>h j (by omega),by simp,fun a ha b hb e=>?_⟩
  obtain rfl:b=p.name:=by simpa using hb
  exact name_new hp (h k (by omega)) (e▸ha)
set_option maxHeartbeats 4000000 in
theorem wall_fn (G:Gh) (hE:Env G) (w:Wd) (bw:Nat) (CA NA PA:Option Addr) (cc nc pc:Nat) (hW:WRep G w bw CA NA PA cc nc pc) (hpr:∀q∈w.procs,q.code.length≤100000000000000∧q.name.size≤100000000000000):
  Fn Tryz.prog 42 #[.pointer (some ⟨bw,0,none⟩), .bool false] G [] fun e G' H'=>e= .returned (.tuple #[.agg #[.int .i64 (allR w).1, .int .i64 (allR w).2.1], .int .i64 (allR w).2.2])∧G.le G'∧H'=[]:=by
 have hwc:=hW.cells
 have hpl:=hW.pl
 refine Fn.enter Tryz.func42 rfl rfl fun w0=>?_
 refine WC.seq ?_
 refine WC.region ?_
 refine WL.oo (OW.alloc rfl fun b4=>?_)
 refine gom ?_
 refine WL.oo (OW.makeMap rfl fun bm=>?_)
 refine gom ?_
 refine WC.loop (X:=AL) (fun x=>[(0, .pointer (some ⟨bw,0,none⟩)),(1, .bool false),(4, .pointer (some ⟨b4,0,none⟩)),(6, .map (some bm)),(18, .slice PA w.procs.length pc),(19, .int .i64 w.procs.length),(20, .int .i64 x.k)]) (fun x=>x.G) (fun x=>[.blk bm (.map x.es x.ck),spB b4]) (fun x=>w.procs.length - x.k) (fun x=>x.k≤w.procs.length∧G.le x.G∧okSoFar w x.k∧MRel Value.string .string x.es x.ck (namesM (w.procs.take x.k))) ⟨0,G, #[],0⟩ ⟨Nat.zero_le _,Gh.le_refl _,(fun j h=>absurd h (Nat.not_lt_zero _)),MRel.empty⟩ (by exact⟨rfl,rfl,rfl,rfl,rfl,rfl,rfl,trivial⟩) rfl (List.Sublist.refl _) fun x hx=>?_
 obtain⟨k,G1,es,ck⟩:=x
 obtain⟨hk,hg1,hok,hm⟩:=hx
 dsimp only at hk hg1 hok hm
 have x2:=wrapS k (by omega)
 by_cases hlt:k<w.procs.length
 rotate_left
 ·have e2:decide ((k:Int)<(w.procs.length:Int))=false:=decide_eq_false (by omega)
  refine gom ?_
  refine WC.rt ?_
  exact QF.p2 (.inl rfl) rfl (.cell rfl inferInstance inferInstance atA rfl rfl) (.tmp rfl) (⟨by rw[allR_none fun j hj=>hok j (by omega)];rfl,hg1,rfl⟩)
 have e2:decide ((k:Int)<(w.procs.length:Int))=true:=decide_eq_true (by omega)
 obtain⟨p,hp⟩:∃p,w.procs[k]? =some p:=⟨_,List.getElem?_eq_getElem (by omega)⟩
 have hW1:=hW.mono hg1
 obtain⟨b,ofs,cs,rfl,hks,hcs⟩:=hW1.procs k p hp
 obtain⟨QA,qc,IA,ic,rfl,hQ,hI⟩:=hks
 have hpm:=List.mem_of_getElem? hp
 obtain⟨hpc,hpn⟩:=hpr p hpm
 have hpq:=hW.pp p hpm
 have x0:(0:Int)≤(k:Int):=by omega
 have x1:(k:Int)<(w.procs.length:Int):=by omega
 have hnd:=okSoFar_nodup hk hok
 have hout:=outAt_eq hp
 have w1:IntKind.i64.wrap (1+1)=2:=rfl
 have w2:IntKind.i64.wrap (0+1)=1:=rfl
 refine gom ?_
 refine WL.oo (OW.alloc rfl fun b8=>?_)
 refine gom ?_
 by_cases hin:p.name∈(w.procs.take k).map (·.name)
 ·have hr:allR w=((k:Int),0,185):=by
   have h0:outAt w k=(0,185):=by rw[hout,procOut,if_pos (.inr hin)]
   rw[allR_at hlt hok (by rw[h0];decide),h0]
  rw[hr]
  refine WL.vv (Gv.lookup (emb:=Value.string) (z:= .int .i64 0) (v:= .int .i64 1) rfl rfl atA hm (by rw[getA_namesM hin];rfl)) ?_
  refine gom ?_
  refine WL.oo (OW.mapSet (emb:=Value.string) rfl rfl rfl atA hm rfl fun es1 ck1 hm1=>?_)
  refine gom ?_
  refine WL.oo (OW.callK rfl (proc_fn G1 (hE.mono hg1) p QA IA qc ic hQ hpn hpq) rfl fun v' G' H' h hg=>?_)
  obtain⟨he,rfl,rfl⟩:=h
  cases he
  cases h1:procR p with
  | false=>
   refine gom ?_
   refine WC.rt ?_
   exact QF.p2 (.inl rfl) rfl (.cell rfl inferInstance inferInstance atA rfl rfl) (.tmp rfl) (⟨rfl,hg1,rfl⟩)
  | true=>
   refine gom ?_
   refine WL.vv (Gv.lookup (emb:=Value.string) (z:= .int .i64 0) (v:= .int .i64 2) rfl rfl atA hm1 (by rw[getA_setA];rfl)) ?_
   refine gom ?_
   refine WC.rt ?_
   exact QF.p2 (.inl rfl) rfl (.cell rfl inferInstance inferInstance atA rfl rfl) (.tmp rfl) (⟨rfl,hg1,rfl⟩)
 refine WL.vv (Gv.lookup (emb:=Value.string) (z:= .int .i64 0) (v:= .int .i64 0) rfl rfl atA hm (by rw[getA_absent (by rw[namesM_keys];exact hin)];rfl)) ?_
 refine gom ?_
 refine WL.oo (OW.mapSet (emb:=Value.string) rfl rfl rfl atA hm rfl fun es1 ck1 hm1=>?_)
 have hset:setA (namesM (w.procs.take k)) p.name (.int .i64 1)=namesM (w.procs.take (k+1)):=by
  rw[setA,if_neg (by rw[namesM_keys];exact hin),take_snoc' hp];simp[namesM]
 refine gom ?_
 refine WL.oo (OW.callK rfl (proc_fn G1 (hE.mono hg1) p QA IA qc ic hQ hpn hpq) rfl fun v' G' H' h hg=>?_)
 obtain⟨he,rfl,rfl⟩:=h
 cases he
 cases h1:procR p with
 | false=>
  have hr:allR w=((k:Int),0,185):=by
   have h0:outAt w k=(0,185):=by rw[hout,procOut,if_pos (.inl h1)]
   rw[allR_at hlt hok (by rw[h0];decide),h0]
  rw[hr]
  refine gom ?_
  refine WC.rt ?_
  exact QF.p2 (.inl rfl) rfl (.cell rfl inferInstance inferInstance atA rfl rfl) (.tmp rfl) (⟨rfl,hg1,rfl⟩)
 | true=>
 refine gom ?_
 refine WL.vv (Gv.lookup (emb:=Value.string) (z:= .int .i64 0) (v:= .int .i64 1) rfl rfl atA hm1 (by rw[getA_setA];rfl)) ?_
 refine gom ?_
 have hnp:¬(procR p=false∨p.name∈(w.procs.take k).map (·.name)):=fun h=>h.elim (fun h=>by rw[h1]at h;cases h) hin
 refine WC.loop (X:=Nat) (fun j=>[(0, .pointer (some ⟨bw,0,none⟩)),(1, .bool false),(4, .pointer (some ⟨b4,0,none⟩)),(6, .map (some bm)),(7, .int .i64 k),(8, .pointer (some ⟨b8,0,none⟩)),(18, .slice (some ⟨b,ofs,none⟩) w.procs.length pc),(19, .int .i64 w.procs.length),(20, .int .i64 k),(47, .slice IA p.code.length ic),(48, .int .i64 p.code.length),(49, .int .i64 j)]) (fun _=>G1) (fun _=>[prB b8 p QA qc IA ic, .blk bm (.map es1 ck1),spB b4]) (fun j=>p.code.length - j) (fun j=>j≤p.code.length∧∀i,i<j→aloneAt w p i=0) 0 ⟨Nat.zero_le _,(fun j h=>absurd h (Nat.not_lt_zero _))⟩ (by exact⟨rfl,rfl,rfl,rfl,rfl,rfl,rfl,rfl,rfl,rfl,rfl,rfl,trivial⟩) rfl (List.Sublist.refl _) fun j hx=>?_
 obtain⟨hj,hal⟩:=hx
 have z2:=wrapS j (by omega)
 by_cases hjl:j<p.code.length
 ·have e3:decide ((j:Int)<(p.code.length:Int))=true:=decide_eq_true (by omega)
  obtain⟨i,hi⟩:∃i,p.code[j]? =some i:=⟨_,List.getElem?_eq_getElem (by omega)⟩
  obtain⟨ib,io,ics,rfl,hik,hic⟩:=hI j i hi
  obtain rfl:ics=[.int .i64 i.1, .int .i64 i.2]:=hik
  have z0:(0:Int)≤(j:Int):=by omega
  have z1:(j:Int)<(p.code.length:Int):=by omega
  have haa:aloneAt w p j=aloneR w p i:=by unfold aloneAt;rw[hi]
  refine gom ?_
  refine WL.oo (OW.alloc rfl fun b10=>?_)
  refine gom ?_
  refine WL.oo (OW.callK rfl (alone_fn G1 w p bw CA NA (some ⟨b,ofs,none⟩) cc nc pc hW1 QA (some ⟨ib,io,none⟩) qc ic i) rfl fun v' G' H' h hg=>?_)
  obtain⟨he,rfl,rfl⟩:=h
  cases he
  by_cases ha:aloneR w p i=0
  ·have e4:(aloneR w p i != 0)=false:=by simpa using ha
   refine gom ?_
   exact WK.again (j+1) (by omega) ⟨by omega,fun i' hi'=>by
    rcases Nat.lt_or_ge i' j with h | h
    ·exact hal i' h
    ·obtain rfl:i'=j:=by omega
     rw[haa];exact ha⟩ (by exact⟨rfl,rfl,rfl,rfl,rfl,rfl,rfl,rfl,rfl,rfl,rfl,rfl,trivial⟩) rfl (List.sublist_cons_self _ _)
  ·have e4:(aloneR w p i != 0)=true:=by simpa using ha
   have hr:allR w=((k:Int),(j:Int),aloneR w p i):=by
    have hf:firstR p.code.length (aloneAt w p)=((j:Int),aloneR w p i):=by rw[firstR_at hjl hal (by rw[haa];exact ha),haa]
    have h0:outAt w k=((j:Int),aloneR w p i):=by rw[hout,procOut,if_neg hnp,hf,if_pos ha]
    rw[allR_at hlt hok (by rw[h0];exact ha),h0]
   rw[hr]
   refine gom ?_
   refine WC.rt ?_
   exact QF.p2 (.inl rfl) rfl (.cell rfl inferInstance inferInstance atA rfl rfl) (.tmp rfl) (⟨rfl,hg1,rfl⟩)
 have e3:decide ((j:Int)<(p.code.length:Int))=false:=decide_eq_false (by omega)
 have hpk:POk w p:=pok_of h1 fun i v hv=>by
  have:=hal i (by have:=(List.getElem?_eq_some_iff.1 hv).1;omega)
  unfold aloneAt at this;rw[hv]at this;exact this
 have hf0:firstR p.code.length (aloneAt w p)=(0,0):=firstR_none fun i hi=>hal i (by omega)
 refine gom ?_
 refine WL.oo (OW.callK rfl (flow_fn G1 w p bw CA NA (some ⟨b,ofs,none⟩) cc nc pc QA IA qc ic hW1 hQ hI hpk) rfl fun v' G' H' h hg=>?_)
 obtain⟨bf,TA,tc,l,he,hg2,hF,hT,htc,hL,rfl⟩:=h
 cases he
 have hg3:=Gh.le_trans hg1 hg2
 refine gom ?_
 refine WL.oo (OW.callK rfl (wrong_fn _ w p bf bw CA NA (some ⟨b,ofs,none⟩) cc nc pc QA IA qc ic TA tc l (hW.mono hg3) hF hT hpk hL.closed) rfl fun v' G' H' h hg=>?_)
 obtain⟨he,hg4,rfl⟩:=h
 cases he
 have hg5:=Gh.le_trans hg3 hg4
 have h0:outAt w k=wrongR w p l:=by rw[hout,procOut,if_neg hnp,hf0,if_neg (by simp),hL.flow]
 obtain⟨at',wy,hw⟩:∃a y,wrongR w p l=(a,y):=⟨_,_,rfl⟩
 rw[hw]
 by_cases ha:wy=0
 ·have e5:(wy != 0)=false:=by simpa using ha
  refine gom ?_
  exact WK.again ⟨k+1,_,es1,ck1⟩ (by dsimp only;omega) ⟨by dsimp only;omega,hg5,fun i' hi'=>by
   rcases Nat.lt_or_ge i' k with h | h
   ·exact hok i' h
   ·obtain rfl:i'=k:=by dsimp only at hi';omega
    rw[h0,hw];exact ha,by dsimp only;rw[←hset];exact hm1⟩ (by exact⟨rfl,rfl,rfl,rfl,rfl,rfl,rfl,trivial⟩) rfl (List.sublist_cons_self _ _)
 ·have e5:(wy != 0)=true:=by simpa using ha
  have hr:allR w=((k:Int),at',wy):=by
   rw[allR_at hlt hok (by rw[h0,hw];exact ha),h0,hw]
  rw[hr]
  refine gom ?_
  refine WC.rt ?_
  exact QF.p2 (.inl rfl) rfl (.cell rfl inferInstance inferInstance atA rfl rfl) (.tmp rfl) (⟨rfl,hg5,rfl⟩)
end
section
open Go.MapKept
attribute [local irreducible] Tryz.prog
noncomputable def objAns (o:Ob):Int×Int×Int:=if objR o then allR o.wd else(0,0,185)
theorem WRep.ofO {G:Gh} {o:Ob} {CA NA PA:Option Addr} {cc nc pc b:Nat} (hO:ORep G o CA NA PA) (hL:OLim o) (hf:Cs G b 0 [.slice CA o.consts.length cc, .slice NA o.needs.length nc, .slice PA o.procs.length pc]):WRep G o.wd b CA NA PA cc nc pc:=
 ⟨hf,hO.consts,hO.needs,hO.procs,hL.cl,hL.nl,hL.pl,fun q hq=>(hL.nd q hq).1,fun q hq=>(hL.pr q hq).1⟩
section
variable (G:Gh) (hE:Env G) (o:Ob) (CA NA PA:Option Addr) (cc nc pc:Nat) (hO:ORep G o CA NA PA) (hL:OLim o)
include hE hO hL
theorem Object_fn:Fn Tryz.prog 14 #[.agg (obC o CA NA PA cc nc pc)] G [] fun e G' H'=>e= .returned (.tuple #[.agg #[.int .i64 (objAns o).1, .int .i64 (objAns o).2.1], .int .i64 (objAns o).2.2])∧G.le G'∧H'=[]:=by
 refine Fn.enter Tryz.func14 rfl rfl fun w0=>?_
 refine WC.seq ?_
 refine WC.region ?_
 refine WL.oo (OW.box rfl rfl fun b1=>?_)
 refine WL.oo (OW.alloc rfl fun b2=>?_)
 refine gom ?_
 refine WL.oo (OW.callK rfl (object_fn G hE o CA NA PA cc nc pc hO hL) rfl fun v' G' H' h hg=>?_)
 obtain⟨he,hg1,rfl⟩:=h
 cases he
 cases h1:objR o with
 | false=>
  have hr:objAns o=(0,0,185):=by rw[objAns,h1];rfl
  rw[hr]
  refine gom ?_
  refine WC.rt ?_
  exact QF.p2 (.inl rfl) rfl (.cell rfl inferInstance inferInstance atA rfl rfl) (.tmp rfl) (⟨rfl,hg1,rfl⟩)
 | true=>
 have hr:objAns o=allR o.wd:=by rw[objAns,h1];rfl
 rw[hr]
 refine gom ?_
 refine WL.oo (OW.box rfl rfl fun b16=>?_)
 refine zw.assign ?_
 refine WL.nil ?_
 refine WK.un ?_
 refine WC.pick [.blk b16 (.cells #[.slice CA o.consts.length cc, .slice NA o.needs.length nc, .slice PA o.procs.length pc] 97 (0,0)),spB b2] ?_
 refine WC.freezeC .here rfl fun G1 hg2 hf1=>?_
 have hg3:=Gh.le_trans hg1 hg2
 have hW:=WRep.ofO (hO.mono hg3) hL hf1
 refine gom ?_
 refine WL.oo (OW.callK rfl (wall_fn G1 (hE.mono hg3) o.wd b16 CA NA PA cc nc pc hW (fun q hq=>(hL.pr q hq).2)) rfl fun v' G' H' h hg=>?_)
 obtain⟨he,hg4,rfl⟩:=h
 cases he
 refine gom ?_
 refine WC.rt ?_
 exact QF.p2 (.inl rfl) rfl (.cell rfl inferInstance inferInstance atA rfl rfl) (.tmp rfl) (⟨rfl,Gh.le_trans hg3 hg4,rfl⟩)
end
end
section
open Go.MapKept
attribute [local irreducible] Tryz.prog
theorem allR_zero {w:Wd} (h:(allR w).2.2=0):∀j,j<w.procs.length→(outAt w j).2=0:=by
 unfold allR at h
 split at h
 ·rename_i k hk
  have:=List.find?_some hk
  simp at this
  exact absurd h this
 ·rename_i hk
  intro j hj
  have:=List.find?_eq_none.1 hk j (by simpa using hj)
  simpa using this
theorem outAt_zero {w:Wd} {k:Nat} {p:Pr} (hp:w.procs[k]? =some p) (h:(outAt w k).2=0):procR p=true∧p.name∉(w.procs.take k).map (·.name)∧(∀(j:Nat) (i:Int×Int),p.code[j]? =some i→aloneR w p i=0)∧(wrongR w p (flowOf w p)).2=0:=by
 rw[outAt_eq hp]at h
 unfold procOut at h
 split at h
 ·cases h
 rename_i hn
 split at h
 ·rename_i ha;exact absurd h ha
 rename_i ha
 refine⟨?_,fun hm=>hn (.inr hm),fun j i hi=>?_,h⟩
 ·cases hq:procR p with
  | true=>rfl
  | false=>exact absurd (.inl hq) hn
 ·have ha':(firstR p.code.length (aloneAt w p)).2=0:=by simpa using ha
  unfold firstR at ha'
  split at ha'
  ·rename_i k hk
   have:=List.find?_some hk
   simp at this
   exact absurd ha' this
  ·rename_i hk
   have:=List.find?_eq_none.1 hk j (by simpa using(List.getElem?_eq_some_iff.1 hi).1)
   have h2:aloneAt w p j=0:=by simpa using this
   unfold aloneAt at h2
   rw[hi]at h2
   exact h2
theorem objAns_zero {o:Ob} (h:(objAns o).2.2=0):objR o=true∧(allR o.wd).2.2=0:=by
 unfold objAns at h
 split at h
 ·exact⟨by assumption,h⟩
 ·cases h
theorem objAns_pok {o:Ob} (h:(objAns o).2.2=0) {k:Nat} {p:Pr} (hp:o.procs[k]? =some p):POk o.wd p:=by
 have h1:=allR_zero (objAns_zero h).2 k (List.getElem?_eq_some_iff.1 hp).1
 have h2:=outAt_zero (w:=o.wd) hp h1
 exact pok_of h2.1 h2.2.2.1
noncomputable def findE (o:Ob) (n:Int):Int:=if(objAns o).2.2≠0 then(objAns o).2.2 else if n<0∨(o.procs.length:Int)≤n then 1 else 0
section
variable (G:Gh) (hE:Env G) (o:Ob) (CA NA PA:Option Addr) (cc nc pc:Nat) (hO:ORep G o CA NA PA) (hL:OLim o) (n:Int)
include hE hO hL
end
end
section
open Go.MapKept
attribute [local irreducible] Tryz.prog
def hghR (s:SS):Int:=if s.reached then(s.stack.length:Int)else -1
noncomputable def statesR (o:Ob) (n:Int):List SS:=match o.procs[n.toNat]? with | some p=>flowOf o.wd p | none=>[]
noncomputable def heightsR (o:Ob) (n:Int):List Int:=if findE o n=0 then(statesR o n).map hghR else []
section
variable (G:Gh) (hE:Env G) (o:Ob) (CA NA PA:Option Addr) (cc nc pc:Nat) (hO:ORep G o CA NA PA) (hL:OLim o) (n:Int)
include hE hO hL
noncomputable def typesE (o:Ob) (n k:Int):Int:=if findE o n≠0 then findE o n else if k<0∨((statesR o n).length:Int)≤k then 1 else 0
noncomputable def typesR (o:Ob) (n k:Int):List Int×List Int:=if typesE o n k=0 then(match (statesR o n)[k.toNat]? with | some s=>(s.vars,s.stack) | none=>([],[]))else([],[])
end
end
section
open Go.MapKept
attribute [local irreducible] Tryz.prog
def pS:Pr:=⟨⟨#[102]⟩,false,[],0,1,[(1,0),(10,0)]⟩
def vS:V:=⟨1,5,false,⟨#[]⟩⟩
def vT:V:=⟨2,0,true,⟨#[]⟩⟩
def oS (v:V):Ob:=⟨⟨#[97]⟩,[v],[],[pS]⟩
def lS (t:Int):List SS:=[⟨true,false,[],[]⟩,⟨true,false,[],[t]⟩]
end
section
section
variable {L:List (Nat×Value)} {d:Option Tmp} {ty:TypeId} {pos:String} {af:Array Edge} {gu:Option (Nat×Bool)}
theorem Gp.eqIns {x y:Operand} {t':TypeId} {a b c e:Int} (hx:ev L x=some (.agg #[.int .i64 a, .int .i64 b])) (hy:ev L y=some (.agg #[.int .i64 c, .int .i64 e])):
  Gp Tryz.prog L ⟨d, .binOp .eql 50 x y t',ty,pos,af,gu⟩ (.bool (decide ((a,b)=(c,e)))):=fun g st w=>by
 have h1:Tryz.prog.eqGuardType Tryz.prog.depth 50=false:=by kernel_rfl
 have h2:Tryz.prog.underlying 50=some (.struct (Tryz.prog.fieldsOf 50)):=by kernel_rfl
 have h3:Tryz.prog.stoodInHeld 50=false:=by kernel_rfl
 have key:(Op.eqFields 9999 #[.int .i64 a, .int .i64 b] #[.int .i64 c, .int .i64 e] (Tryz.prog.fieldsOf 50).toList).run Tryz.prog w= .ok (decide ((a,b)=(c,e))) w:=by
  have a0:=fun w=>(inferInstance:Agg Tryz.prog 48 false).h w
  have a1:=fun w=>(inferInstance:Agg Tryz.prog 3 false).h w
  have u0:Tryz.prog.underlying 48=some (.int .i64):=Und.h
  have u1:Tryz.prog.underlying 3=some (.int .i64):=Und.h
  have hh:decide ((a,b)=(c,e))=(a==c&&b==e):=by
   rw[Bool.eq_iff_iff]
   simp
  rw[hh]
  simp only[Program.fieldsOf,Tryz.underlying50]
  simp only[Op.eqFields,part,Sem.run_bind,a0,a1,Result.andThen_ok,Sem.run_ite]
  simp[run_equalIn_int _ _ _ _ _ _ _ u0,run_equalIn_int _ _ _ _ _ _ _ u1]
  by_cases q0:a=c<;>by_cases q1:b=e<;>simp[q0,q1]
 simp only[execOp,Sem.run_bind,st.eval hx,st.eval hy,run_eqGuard_agg w .eql _ x y _ _ h1,Result.andThen_ok,run_eql_struct,run_equalIn_agg w 9999 _ _ _ h2 h3,key]
 rfl
theorem Gp.neIns {x y:Operand} {t':TypeId} {a b c e:Int} (hx:ev L x=some (.agg #[.int .i64 a, .int .i64 b])) (hy:ev L y=some (.agg #[.int .i64 c, .int .i64 e])):
  Gp Tryz.prog L ⟨d, .binOp .neq 50 x y t',ty,pos,af,gu⟩ (.bool (!decide ((a,b)=(c,e)))):=fun g st w=>by
 have h1:Tryz.prog.eqGuardType Tryz.prog.depth 50=false:=by kernel_rfl
 have h2:Tryz.prog.underlying 50=some (.struct (Tryz.prog.fieldsOf 50)):=by kernel_rfl
 have h3:Tryz.prog.stoodInHeld 50=false:=by kernel_rfl
 have key:(Op.eqFields 9999 #[.int .i64 a, .int .i64 b] #[.int .i64 c, .int .i64 e] (Tryz.prog.fieldsOf 50).toList).run Tryz.prog w= .ok (decide ((a,b)=(c,e))) w:=by
  have a0:=fun w=>(inferInstance:Agg Tryz.prog 48 false).h w
  have a1:=fun w=>(inferInstance:Agg Tryz.prog 3 false).h w
  have u0:Tryz.prog.underlying 48=some (.int .i64):=Und.h
  have u1:Tryz.prog.underlying 3=some (.int .i64):=Und.h
  have hh:decide ((a,b)=(c,e))=(a==c&&b==e):=by
   rw[Bool.eq_iff_iff]
   simp
  rw[hh]
  simp only[Program.fieldsOf,Tryz.underlying50]
  simp only[Op.eqFields,part,Sem.run_bind,a0,a1,Result.andThen_ok,Sem.run_ite]
  simp[run_equalIn_int _ _ _ _ _ _ _ u0,run_equalIn_int _ _ _ _ _ _ _ u1]
  by_cases q0:a=c<;>by_cases q1:b=e<;>simp[q0,q1]
 simp only[execOp,Sem.run_bind,st.eval hx,st.eval hy,run_eqGuard_agg w .neq _ x y _ _ h1,Result.andThen_ok,run_neq_struct,run_equalIn_agg w 9999 _ _ _ h2 h3,key]
 rfl
theorem Gp.eqFault {x y:Operand} {t':TypeId} {a b c e:Int} (hx:ev L x=some (.agg #[.int .i64 a, .int .i64 b])) (hy:ev L y=some (.agg #[.int .i64 c, .int .i64 e])):
  Gp Tryz.prog L ⟨d, .binOp .eql 77 x y t',ty,pos,af,gu⟩ (.bool (decide ((a,b)=(c,e)))):=fun g st w=>by
 have h1:Tryz.prog.eqGuardType Tryz.prog.depth 77=false:=by kernel_rfl
 have h2:Tryz.prog.underlying 77=some (.struct (Tryz.prog.fieldsOf 77)):=by kernel_rfl
 have h3:Tryz.prog.stoodInHeld 77=false:=by kernel_rfl
 have key:(Op.eqFields 9999 #[.int .i64 a, .int .i64 b] #[.int .i64 c, .int .i64 e] (Tryz.prog.fieldsOf 77).toList).run Tryz.prog w= .ok (decide ((a,b)=(c,e))) w:=by
  have a0:=fun w=>(inferInstance:Agg Tryz.prog 28 false).h w
  have a1:=fun w=>(inferInstance:Agg Tryz.prog 3 false).h w
  have u0:Tryz.prog.underlying 28=some (.int .i64):=Und.h
  have u1:Tryz.prog.underlying 3=some (.int .i64):=Und.h
  have hh:decide ((a,b)=(c,e))=(a==c&&b==e):=by
   rw[Bool.eq_iff_iff]
   simp
  rw[hh]
  simp only[Program.fieldsOf,Tryz.underlying77]
  simp only[Op.eqFields,part,Sem.run_bind,a0,a1,Result.andThen_ok,Sem.run_ite]
  simp[run_equalIn_int _ _ _ _ _ _ _ u0,run_equalIn_int _ _ _ _ _ _ _ u1]
  by_cases q0:a=c<;>by_cases q1:b=e<;>simp[q0,q1]
 simp only[execOp,Sem.run_bind,st.eval hx,st.eval hy,run_eqGuard_agg w .eql _ x y _ _ h1,Result.andThen_ok,run_eql_struct,run_equalIn_agg w 9999 _ _ _ h2 h3,key]
 rfl
theorem Gp.neFault {x y:Operand} {t':TypeId} {a b c e:Int} (hx:ev L x=some (.agg #[.int .i64 a, .int .i64 b])) (hy:ev L y=some (.agg #[.int .i64 c, .int .i64 e])):
  Gp Tryz.prog L ⟨d, .binOp .neq 77 x y t',ty,pos,af,gu⟩ (.bool (!decide ((a,b)=(c,e)))):=fun g st w=>by
 have h1:Tryz.prog.eqGuardType Tryz.prog.depth 77=false:=by kernel_rfl
 have h2:Tryz.prog.underlying 77=some (.struct (Tryz.prog.fieldsOf 77)):=by kernel_rfl
 have h3:Tryz.prog.stoodInHeld 77=false:=by kernel_rfl
 have key:(Op.eqFields 9999 #[.int .i64 a, .int .i64 b] #[.int .i64 c, .int .i64 e] (Tryz.prog.fieldsOf 77).toList).run Tryz.prog w= .ok (decide ((a,b)=(c,e))) w:=by
  have a0:=fun w=>(inferInstance:Agg Tryz.prog 28 false).h w
  have a1:=fun w=>(inferInstance:Agg Tryz.prog 3 false).h w
  have u0:Tryz.prog.underlying 28=some (.int .i64):=Und.h
  have u1:Tryz.prog.underlying 3=some (.int .i64):=Und.h
  have hh:decide ((a,b)=(c,e))=(a==c&&b==e):=by
   rw[Bool.eq_iff_iff]
   simp
  rw[hh]
  simp only[Program.fieldsOf,Tryz.underlying77]
  simp only[Op.eqFields,part,Sem.run_bind,a0,a1,Result.andThen_ok,Sem.run_ite]
  simp[run_equalIn_int _ _ _ _ _ _ _ u0,run_equalIn_int _ _ _ _ _ _ _ u1]
  by_cases q0:a=c<;>by_cases q1:b=e<;>simp[q0,q1]
 simp only[execOp,Sem.run_bind,st.eval hx,st.eval hy,run_eqGuard_agg w .neq _ x y _ _ h1,Result.andThen_ok,run_neq_struct,run_equalIn_agg w 9999 _ _ _ h2 h3,key]
 rfl
end
end
section
open Go.MapKept
attribute [local irreducible] Tryz.prog
theorem WL.freezeC {P:Program} {Q:Exit→Act→World→Prop} {cx:Cx} {L:List (Nat×Value)} {G:Gh} {H:List Own} {ops:Array Oper} {rest:List Oper} {j b:Nat} {c:Array Value} {T:TypeId} {cs:List Value} (hj:At H j (.blk b (.cells c T (0,0)))) (hc:c.toList=cs) (h:∀G',G.le G'→Cs G' b 0 cs→WL P ops Q rest cx L G' (H.eraseIdx j)):WL P ops Q rest cx L G H:=
 WK.freezeC (K:=fun a w=>wpList P ops Q rest a w) hj hc h
end
section
open Go.MapKept
attribute [local irreducible] Tryz.prog
end
section
open Go.MapKept
section
variable {L:List (Nat×Value)} {d:Option Tmp} {ty:TypeId} {pos:String} {af:Array Edge} {gu:Option (Nat×Bool)}
theorem Gp.rowN {x:Operand} {r:Rw} (hx:ev L x=some (.agg #[.string r.name, .bool r.n, .int .i64 r.takes, .int .i64 r.lays])):Gp Tryz.prog L ⟨d, .field 226 x 1,ty,pos,af,gu⟩ (.bool r.n):=fun a st w=>by
 have a0:=fun w=>(inferInstance:Agg Tryz.prog 4 false).h w
 simp[execOp,st.eval hx,Instr.field,part,asAgg,run_underlying Tryz.underlying226,a0,Result.andThen]
end
attribute [local irreducible] Tryz.prog
def nameE (c:Int):Int:=if(rowC c).name==⟨#[]⟩then 180 else 0
def findN (s:ByteArray):Int×Int:=match (List.range 26).find? (fun k:Nat=>(rowC ((k:Int)+1)).name==s)with | some k=>((k:Int)+1,0) | none=>(0,180)
def namesL:List ByteArray:=(rowsC.drop 1).map (·.name)
end
section
open Go.MapKept
section
variable {P:Program} {Q:Exit→Act→World→Prop} {cx:Cx} {L:List (Nat×Value)} {G:Gh} {H:List Own} {K:List (Nat×Value)→Gh→List Own→Prop} {ops:Array Oper} {rest:List Oper}
 {d:Option Tmp} {ty:TypeId} {pos:String} {af:Array Edge} {gu:Option (Nat×Bool)}
theorem OW.makeSlice2 {t e n by_:Nat} {z:Value} {x y:Operand} {k k':IntKind} {m c:Int} (hx:ev L x=some (.int k m)) (hy:ev L y=some (.int k' c)) [hu:Und P t (.slice e)] [hi:Inf P e n by_ z] (hz:z.cells.size=n)
  (h0:0≤m) (hmc:m≤c) (hb:(by_:Int)*c≤281474976710656) (h63:c≤9223372036854775807) (hd:dOk d cx.N=true)
  (kk:∀b x,Vec e n (some ⟨b,0,none⟩) m.toNat c.toNat (repS m.toNat z.cells.toList) x→K (putL d (.slice (some ⟨b,0,none⟩) m.toNat c.toNat) L) G (x::H)):OW P Q ⟨d, .makeSlice t x y,ty,pos,af,gu⟩ cx L G H K:=by
 refine OW.gives hd fun a w st=>?_
 obtain⟨ie,hi1,hi2,hi3,hi4⟩:=hi.info
 have hr:=run_make (P:=P) w t e ie z hu.h hi1 hi2 k k' m c h0 hmc (by rw[hi4];exact hb) h63
 have hc:madeCells z.cells (c.toNat*ie.size)=(repS c.toNat z.cells.toList).toArray:=by unfold madeCells;rw[hi3];exact base_repS z.cells n c.toNat hz
 rw[hc]at hr
 have hlen:∀q:Nat,(repS q z.cells.toList).length=q*n:=fun q=>by rw[repS_length,Array.length_toList,hz]
 have htk:(repS c.toNat z.cells.toList).take (m.toNat*n)=repS m.toNat z.cells.toList:=by
  obtain⟨r,hr⟩:∃r,c.toNat=m.toNat+r:=⟨c.toNat - m.toNat,by omega⟩
  rw[hr]
  have:∀q:Nat,repS (q+r) z.cells.toList=repS q z.cells.toList++repS r z.cells.toList:=fun q=>by
   induction q with
   | zero=>rw[Nat.zero_add];rfl
   | succ q ih=>rw[show q+1+r=(q+r)+1 by omega];simp only[repS];rw[ih,List.append_assoc]
  rw[this,List.take_append_of_le_length (by rw[hlen];exact Nat.le_refl _),List.take_of_length_le (by rw[hlen];exact Nat.le_refl _)]
 refine⟨_,_,G,_, .inl ?_,st.sat.alloc _,Stp.alloc _,kk w.heap.size (.blk w.heap.size (.cells (repS c.toNat z.cells.toList).toArray e (0,0))) ⟨hlen _, .inr ⟨_,_,rfl,rfl,by omega,by simp[hlen],by simpa using htk⟩⟩⟩
 simp only[execOp,Sem.run_bind,st.eval hx,st.eval hy,hr,Result.andThen_ok]
 rfl
end
section
variable {P:Program} {L:List (Nat×Value)} {d:Option Tmp} {ty:TypeId} {pos:String} {af:Array Edge} {gu:Option (Nat×Bool)}
theorem Gp.shrTo {t t':TypeId} {x y:Operand} {k k':IntKind} {m n r:Int} (hx:ev L x=some (.int k m)) (hy:ev L y=some (.int k' n)) (hn:0≤n) (hr:m / 2^min n.toNat k.bits=r):Gp P L ⟨d, .binOp .shr t x y t',ty,pos,af,gu⟩ (.int k r):=
 fun a st w=>by subst hr;simp[execOp,st.eval hx,st.eval hy,eqGuard_shr,binOp_shr,shift_shr_any k k' m n hn]
theorem Gp.orTo {t t':TypeId} {x y:Operand} {k:IntKind} {m n r:Int} (hx:ev L x=some (.int k m)) (hy:ev L y=some (.int k n)) (hr:bits .or k m n=r):Gp P L ⟨d, .binOp .or t x y t',ty,pos,af,gu⟩ (.int k r):=hr▸Gp.or hx hy
theorem Gp.convTo {s t:TypeId} {x:Operand} {k k':IntKind} {m r:Int} {ds:TypeDesc} (hx:ev L x=some (.int k m)) [hs:Und P s ds] [ht:Und P t (.int k')] (h:k'.wrap m=r):Gp P L ⟨d, .convert s t x,ty,pos,af,gu⟩ (.int k' r):=h▸Gp.convI hx
end
attribute [local irreducible] Tryz.prog
def uintL (n:Nat):List Int:=if h:n<128 then [(n:Int)]else((n%128+128:Nat):Int)::uintL (n / 128)
 termination_by n
 decreasing_by exact Nat.div_lt_self (by omega) (by omega)
theorem uintL_lt {n:Nat} (h:n<128):uintL n=[(n:Int)]:=by rw[uintL,dif_pos h]
theorem uintL_ge {n:Nat} (h:¬n<128):uintL n=((n%128+128:Nat):Int)::uintL (n / 128):=by rw[uintL,dif_neg h]
theorem uintL_length:∀(k n:Nat),n<128^(k+1)→(uintL n).length≤k+1
 | 0,n,h=>by rw[uintL_lt (by simpa using h)];simp
 | k+1,n,h=>by
  by_cases hn:n<128
  ·rw[uintL_lt hn];simp
  ·rw[uintL_ge hn,List.length_cons]
   have:=uintL_length k (n / 128) (by rw[Nat.div_lt_iff_lt_mul (by decide)];rw[Nat.pow_succ]at h;exact h)
   omega
theorem uintL_len10 {n:Nat} (h:n<18446744073709551616):(uintL n).length≤10:=uintL_length 9 n (by omega)
theorem or128:∀m:Nat,m<256→bits .or .u8 (m:Int) 128=((m%128+128:Nat):Int):=by decide+kernel
def u8s (l:List Int):List Value:=l.map (.int .u8)
abbrev BVec (A:Option Addr) (l:List Int) (cap:Nat) (x:Own):Prop:=Vec 5 1 A l.length cap (u8s l) x
theorem BVec.nil:BVec none [] 0 (.spare 0 0 0):=⟨rfl, .inl ⟨rfl,rfl,rfl,rfl⟩⟩
theorem u8s_length (l:List Int):(u8s l).length=l.length*1:=by simp[u8s]
theorem u8s_one (l:List Int):(u8s l).all (·.oneCell')=true:=by induction l with | nil=>rfl | cons b l ih=>simp[u8s,Value.oneCell']
theorem u8s_append (a b:List Int):u8s (a++b)=u8s a++u8s b:=by simp[u8s]
theorem BVec.snoc {A:Option Addr} {l:List Int} {cap:Nat} {x:Own} {z:Int} (h:Vec 5 1 A (l.length+1) cap (u8s l++[.int .u8 z]) x):BVec A (l++[z]) cap x:=by
 unfold BVec;rw[u8s_append,List.length_append];exact h
theorem u8w (m:Nat):IntKind.u8.wrap (m:Int)=((m%256:Nat):Int):=by simp[IntKind.wrap,IntKind.signed,IntKind.bits]
theorem short_fn (G:Gh) (A:Option Addr) (l:List Int) (cap:Nat) (x:Own) (hx:BVec A l cap x) (n:Nat) (hn:n<18446744073709551616) (hl:l.length≤100000000000000):
  Fn Tryz.prog 152 #[.slice A l.length cap, .int .u64 n] G [x] fun e G' H'=>∃A' cap' x',e= .returned (.slice A' (l++uintL n).length cap')∧G=G'∧BVec A' (l++uintL n) cap' x'∧H'=[x']:=by
 refine Fn.enter Tryz.func152 rfl rfl fun w0=>?_
 refine gom ?_
 have hlen0:=uintL_len10 hn
 refine WC.loop (X:=List Int×Nat×Option Addr×Nat×Own) (fun s=>[(0, .slice s.2.2.1 s.1.length s.2.2.2.1),(1, .int .u64 (s.2.1:Int))]) (fun _=>G) (fun s=>[s.2.2.2.2]) (fun s=>s.2.1) (fun s=>BVec s.2.2.1 s.1 s.2.2.2.1 s.2.2.2.2∧s.1++uintL s.2.1=l++uintL n∧s.2.1<18446744073709551616) (l,n,A,cap,x) ⟨hx,rfl,hn⟩ (by exact⟨rfl,rfl,trivial⟩) rfl (List.Sublist.refl _) fun s hs=>?_
 obtain⟨xs,m,B,c,o⟩:=s
 obtain⟨hv,heq,hm⟩:=hs
 dsimp only at hv heq hm
 have hlen:xs.length+(uintL m).length=l.length+(uintL n).length:=by rw[←List.length_append,heq,List.length_append]
 by_cases hlt:m<128
 ·have e2:decide ((128:Int)≤(m:Int))=false:=decide_eq_false (by omega)
  rw[uintL_lt hlt]at heq hlen
  simp at hlen
  refine gom ?_
  refine WL.pp (Gp.convTo (r:=(m:Int)) rfl (by rw[u8w,Nat.mod_eq_of_lt (by first | omega | (dsimp only;omega))])) ?_
  refine WL.op kr (OW.buildSlice rfl kr kr (by rfl) rfl fun b18=>?_)
  refine WL.oo (OW.append rfl rfl kr kr hv atA (Rds.blk0 (cs:=[.int .u8 (m:Int)]) .here rfl) rfl rfl (by dsimp only;omega) (by dsimp only;omega) rfl fun A3 c3 o3 hv3=>?_)
  have h3:=BVec.snoc hv3
  rw[heq]at h3
  have hl3:xs.length+1=(l++uintL n).length:=by rw[←heq,List.length_append];rfl
  refine gom ?_
  refine WC.rt ?_
  exact QF.p1 (.inl rfl) rfl (.tmp rfl) (⟨A3,c3,o3,by rw[hl3],rfl,h3,rfl⟩)
 ·have e2:decide ((128:Int)≤(m:Int))=true:=decide_eq_true (by omega)
  rw[uintL_ge hlt]at heq hlen
  rw[List.length_cons]at hlen
  refine gom ?_
  refine WL.pp (Gp.convTo (r:=((m%256:Nat):Int)) rfl (u8w m)) ?_
  refine WL.pp (Gp.orTo (r:=((m%128+128:Nat):Int)) rfl rfl (by rw[or128 _ (Nat.mod_lt _ (by decide)),Nat.mod_mod_of_dvd _ (by decide)])) ?_
  refine WL.op kr (OW.buildSlice rfl kr kr (by rfl) rfl fun b13=>?_)
  refine WL.oo (OW.append rfl rfl kr kr hv atA (Rds.blk0 (cs:=[.int .u8 ((m%128+128:Nat):Int)]) .here rfl) rfl rfl (by dsimp only;omega) (by dsimp only;omega) rfl fun A3 c3 o3 hv3=>?_)
  have h3:=BVec.snoc hv3
  refine gom ?_
  refine WL.pp (Gp.shrTo (r:=((m / 128:Nat):Int)) rfl rfl (by decide) (by show(m:Int) / 128=_;omega)) ?_
  refine gom ?_
  refine WK.pick [o3] ?_
  have hl3:xs.length+1=(xs++[((m%128+128:Nat):Int)]).length:=by rw[List.length_append];rfl
  exact WK.again (xs++[((m%128+128:Nat):Int)],m / 128,A3,c3,o3) (by dsimp only;omega) ⟨h3,by dsimp only;rw[←heq,List.append_assoc];rfl,by dsimp only;omega⟩ (by exact⟨by show _=some (Value.slice A3 _ c3);rw[←hl3];rfl,rfl,trivial⟩) rfl (List.Sublist.refl _)
end
section
open Go.MapKept
attribute [local irreducible] Tryz.prog
theorem fresh_fn (G:Gh) (A:Option Addr) (l:List Int) (cap:Nat) (x:Own) (hx:BVec A l cap x) (hl:l.length≤100000000000000):
  Fn Tryz.prog 151 #[.slice A l.length cap, .int .i64 10] G [x] fun e G' H'=>∃A' cap' x',e= .returned (.slice A' l.length cap')∧G=G'∧BVec A' l cap' x'∧H'=[x']:=by
 refine Fn.enter Tryz.func151 rfl rfl fun w0=>?_
 have x2:IntKind.i64.wrap ((l.length:Int)+10)=((l.length+10:Nat):Int):=by rw[wrapI (by omega) (by omega)];rfl
 refine gom ?_
 refine WL.oo (OW.makeSlice2 (n:=1) (z:= .int .u8 0) (m:=(l.length:Int)) (c:=((l.length+10:Nat):Int)) rfl rfl rfl (by omega) (by omega) (by omega) (by omega) rfl fun tb o1 ho1=>?_)
 rw[Int.toNat_natCast,Int.toNat_natCast]at ho1⊢
 refine gom ?_
 refine WL.oo (OW.copy rfl rfl kr ho1 .here (hx.rds (.there .here)) (u8s_length l) (u8s_one l) (Nat.le_refl _) rfl fun o2 ho2=>?_)
 have h2:BVec (some ⟨tb,0,none⟩) l (l.length+10) o2:=by
  unfold BVec
  rw[List.drop_eq_nil_of_le (by rw[repS_length];exact Nat.le_refl _),List.append_nil]at ho2
  exact ho2
 refine gom ?_
 refine WC.rt ?_
 exact QF.p1 (.inl rfl) rfl (.tmp rfl) (⟨_,_,o2,rfl,rfl,h2,rfl⟩)
theorem putUint_fn (G:Gh) (A:Option Addr) (l:List Int) (cap:Nat) (x:Own) (hx:BVec A l cap x) (n:Nat) (hn:n<18446744073709551616) (hl:l.length≤100000000000000):
  Fn Tryz.prog 108 #[.slice A l.length cap, .int .u64 n] G [x] fun e G' H'=>∃A' cap' x',e= .returned (.slice A' (l++uintL n).length cap')∧G=G'∧BVec A' (l++uintL n) cap' x'∧H'=[x']:=by
 refine Fn.enter Tryz.func108 rfl rfl fun w0=>?_
 refine gom ?_
 refine WL.oo (OW.callK rfl (fresh_fn G A l cap x hx hl) rfl fun v' G' H' h hg=>?_)
 obtain⟨A1,c1,x1,he,rfl,h1,rfl⟩:=h
 cases he
 refine gom ?_
 refine WL.oo (OW.callK rfl (short_fn G A1 l c1 x1 h1 n hn hl) rfl fun v' G' H' h hg=>?_)
 obtain⟨A2,c2,x2,he,rfl,h2,rfl⟩:=h
 cases he
 refine gom ?_
 refine WC.rt ?_
 exact QF.p1 (.inl rfl) rfl (.tmp rfl) (⟨_,_,x2,rfl,rfl,h2,rfl⟩)
theorem rowC_out {c:Int} (h:¬(1≤c∧c≤26)):rowC c=rw0:=by
 unfold rowC
 split
 ·rfl
 ·rw[List.getElem?_eq_none (by show 27≤c.toNat;omega)];rfl
theorem is_row (c:Int):(decide (1≤c)&&decide (c≤26))=((rowC c).name != ⟨#[]⟩):=by
 by_cases h:1≤c∧c≤26
 ·have hd:∀k:Nat,k<26→((rowC ((k:Int)+1)).name != ⟨#[]⟩)=true:=by decide+kernel
  obtain⟨k,rfl⟩:∃k:Nat,c=(k:Int)+1:=⟨(c - 1).toNat,by omega⟩
  rw[hd k (by omega),decide_eq_true h.1,decide_eq_true h.2];rfl
 ·rw[rowC_out h]
  rw[show(decide (1≤c)&&decide (c≤26))=false by simp;omega];rfl
def numbR (c:Int):Bool:=c==1 || c==2 || c==3 || c==5 || c==6 || c==7 || c==8
end
section
open Go.MapKept
attribute [local irreducible] Tryz.prog
def mayI (i:Int×Int):Bool:=mayR i.1 i.2
def encI (i:Int×Int):List Int:=i.1::(if(rowC i.1).n then uintL i.2.toNat else [])
def encP (l:List (Int×Int)) (k:Nat):List Int:=uintL l.length++(l.take k).flatMap encI
def bytesR (l:List (Int×Int)):List Int×Int:=if l.all mayI then(encP l l.length,0)else([],180)
theorem mayI_bounds {i:Int×Int} (h:mayI i=true):1≤i.1∧i.1≤26∧0≤i.2∧i.2≤2147483647:=by
 unfold mayI mayR at h
 simp only[Bool.and_eq_true,decide_eq_true_eq]at h
 obtain⟨h1,h2,h3,_⟩:=h
 rw[←is_row]at h1
 simp at h1
 exact⟨h1.1,h1.2,h2,h3⟩
theorem encI_length {i:Int×Int} (h:mayI i=true):(encI i).length≤6:=by
 obtain⟨_,_,h1,h2⟩:=mayI_bounds h
 unfold encI
 rw[List.length_cons]
 split
 ·have:=uintL_length 4 i.2.toNat (by omega);omega
 ·simp
theorem flat_le {l:List (Int×Int)} :∀ {k:Nat},(∀j i,j<k→l[j]? =some i→mayI i=true)→((l.take k).flatMap encI).length≤6*k
 | 0,_=>by simp
 | k+1,h=>by
  have ih:=flat_le (l:=l) (k:=k) fun j i hj hi=>h j i (by omega) hi
  cases hk:l[k]? with
  | none=>
   rw[List.getElem?_eq_none_iff]at hk
   rw[List.take_of_length_le (by omega),←List.take_of_length_le hk];omega
  | some i=>
   rw[take_snoc' hk,List.flatMap_append,List.length_append]
   have:=encI_length (h k i (by omega) hk)
   simp only[List.flatMap_cons,List.flatMap_nil,List.append_nil]
   omega
theorem encP_snoc {l:List (Int×Int)} {k:Nat} {i:Int×Int} (h:l[k]? =some i):encP l (k+1)=encP l k++encI i:=by
 unfold encP
 rw[take_snoc' h,List.flatMap_append,List.append_assoc]
 simp
theorem u8code {c:Int} (h:1≤c∧c≤26):IntKind.u8.wrap c=c:=by
 obtain⟨k,rfl⟩:∃k:Nat,c=k:=⟨c.toNat,by omega⟩
 rw[u8w,Nat.mod_eq_of_lt (by omega)]
theorem u64n {n:Int} (h:0≤n∧n≤9223372036854775807):IntKind.u64.wrap n=((n.toNat:Nat):Int):=by
 obtain⟨k,rfl⟩:∃k:Nat,n=k:=⟨n.toNat,by omega⟩
 simp[IntKind.wrap,IntKind.signed,IntKind.bits];omega
set_option maxHeartbeats 2000000 in
theorem Bytes_fn (G:Gh) (A:Option Addr) (l:List (Int×Int)) (cap:Nat) (hA:Sl Kd.ins G A l) (hl:l.length≤9000000000000):
  Fn Tryz.prog 109 #[.slice A l.length cap] G [] fun e G' H'=>∃A' cap' x',e= .returned (.tuple #[.slice A' (bytesR l).1.length cap', .int .i64 (bytesR l).2])∧G=G'∧BVec A' (bytesR l).1 cap' x'∧H'=[x']:=by
 refine Fn.enter Tryz.func109 rfl rfl fun w0=>?_
 refine gom ?_
 refine WL.pp (Gp.convTo (r:=((l.length:Nat):Int)) rfl (by rw[u64n ⟨by omega,by omega⟩];rfl)) ?_
 refine WL.nothing ?_
 refine WL.oo (OW.callK rfl (putUint_fn G none [] 0 (.spare 0 0 0) BVec.nil l.length (by omega) (by decide)) rfl fun v' G' H' h hg=>?_)
 obtain⟨A1,c1,x1,he,rfl,h1,rfl⟩:=h
 cases he
 have hbase:[]++uintL l.length=encP l 0:=by simp[encP]
 rw[hbase]at h1⊢
 refine gom ?_
 refine WC.loop (X:=Nat×Option Addr×Nat×Own) (fun s=>[(4, .slice s.2.1 (encP l s.1).length s.2.2.1),(11, .slice A l.length cap),(12, .int .i64 l.length),(13, .int .i64 s.1)]) (fun _=>G) (fun s=>[s.2.2.2]) (fun s=>l.length - s.1) (fun s=>s.1≤l.length∧BVec s.2.1 (encP l s.1) s.2.2.1 s.2.2.2∧∀j i,j<s.1→l[j]? =some i→mayI i=true) (0,A1,c1,x1) ⟨Nat.zero_le _,h1,(fun j i h=>absurd h (Nat.not_lt_zero _))⟩ (by exact⟨rfl,rfl,rfl,rfl,trivial⟩) rfl (List.Sublist.refl _) fun s hs=>?_
 obtain⟨k,B,c,o⟩:=s
 obtain⟨hk,hv,hall⟩:=hs
 dsimp only at hk hv hall
 have x2:=wrapS k (by omega)
 by_cases hlt:k<l.length
 rotate_left
 ·have e2:decide ((k:Int)<(l.length:Int))=false:=decide_eq_false (by omega)
  obtain rfl:k=l.length:=by omega
  have hr:bytesR l=(encP l l.length,0):=by rw[bytesR,all_of hall (by omega),if_pos rfl]
  rw[hr]
  refine gom ?_
  refine WC.rt ?_
  exact QF.p2 (.inl rfl) rfl (.tmp rfl) (.tmp rfl) (⟨B,c,o,rfl,rfl,hv,rfl⟩)
 have e2:decide ((k:Int)<(l.length:Int))=true:=decide_eq_true (by omega)
 obtain⟨i,hi⟩:∃i,l[k]? =some i:=⟨_,List.getElem?_eq_getElem (by omega)⟩
 obtain⟨ib,io,ics,rfl,hik,hic⟩:=hA k i hi
 obtain rfl:ics=[.int .i64 i.1, .int .i64 i.2]:=hik
 have x0:(0:Int)≤(k:Int):=by omega
 have x1':(k:Int)<(l.length:Int):=by omega
 refine gom ?_
 refine WL.oo (OW.alloc rfl fun b6=>?_)
 refine gom ?_
 refine WL.oo (OW.callK rfl (may_fn G i.1 i.2) rfl fun v' G' H' h hg=>?_)
 obtain⟨he,rfl,rfl⟩:=h
 cases he
 cases hm:mayR i.1 i.2 with
 | false=>
  have hr:bytesR l=([],180):=by rw[bytesR,all_not hi (show mayI i=false from hm)];rfl
  rw[hr]
  refine gom ?_
  refine WC.nothing ?_
  refine WC.rt ?_
  exact QF.p2 (.inl rfl) rfl (.tmp rfl) (.tmp rfl) (⟨none,0,_,rfl,rfl,BVec.nil,rfl⟩)
 | true=>
 obtain⟨b1,b2,b3,b4⟩:=mayI_bounds (i:=i) hm
 have hle:=flat_le hall
 have hlu:=uintL_len10 (n:=l.length) (by omega)
 have hel:(encP l k).length=(uintL l.length).length+((l.take k).flatMap encI).length:=by rw[encP,List.length_append]
 refine gom ?_
 refine WL.pp (Gp.convTo (r:=i.1) rfl (u8code ⟨b1,b2⟩)) ?_
 refine WL.op kr (OW.buildSlice rfl kr kr (by rfl) rfl fun b24=>?_)
 refine WL.oo (OW.append rfl rfl kr kr hv atA (Rds.blk0 (cs:=[.int .u8 i.1]) .here rfl) rfl rfl (by dsimp only;omega) (by dsimp only;omega) rfl fun A3 c3 o3 hv3=>?_)
 have h3:=BVec.snoc hv3
 refine gom ?_
 refine WL.oo (OW.callK rfl (rowOf_fn G i.1) rfl fun v' G' H' h hg=>?_)
 obtain⟨he,rfl,rfl⟩:=h
 cases he
 refine WL.pp (Gp.rowN (r:=rowC i.1) rfl) ?_
 have hl3:(encP l k).length+1=(encP l k++[i.1]).length:=by rw[List.length_append];rfl
 have hst:=all_step (f:=mayI) hi hall hm
 cases hn:(rowC i.1).n with
 | true=>
  have hen:encP l (k+1)=encP l k++[i.1]++uintL i.2.toNat:=by rw[encP_snoc hi,encI,hn,List.append_assoc];rfl
  refine gom ?_
  refine WL.pp (Gp.convTo (r:=((i.2.toNat:Nat):Int)) rfl (u64n ⟨b3,by omega⟩)) ?_
  rw[hl3]
  refine WL.oo (OW.callK rfl (putUint_fn G A3 (encP l k++[i.1]) c3 o3 h3 i.2.toNat (by omega) (by omega)) rfl fun v' G' H' h hg=>?_)
  obtain⟨A4,c4,x4,he,rfl,h4,rfl⟩:=h
  cases he
  rw[←hen]at h4⊢
  refine gom ?_
  exact WK.again (k+1,A4,c4,x4) (by dsimp only;omega) ⟨by dsimp only;omega,h4,hst⟩ (by exact⟨rfl,rfl,rfl,rfl,trivial⟩) rfl (by first | exact List.Sublist.refl _ | simp)
 | false=>
  have hen:encP l (k+1)=encP l k++[i.1]:=by rw[encP_snoc hi,encI,hn];rfl
  rw[←hen]at h3 hl3
  refine gom ?_
  refine WK.pick [o3] ?_
  exact WK.again (k+1,A3,c3,o3) (by dsimp only;omega) ⟨by dsimp only;omega,h3,hst⟩ (by exact⟨by show _=some (Value.slice A3 _ c3);rw[←hl3];rfl,rfl,rfl,rfl,trivial⟩) rfl (List.Sublist.refl _)
end
section
open Go.RowKit Go.ChangeShapes Go.WideShapes Go.MapKept
section
attribute [local irreducible] Tryz.prog
variable {H:Type} (enc:TypeId×Value→H) (w:World)
end
attribute [local irreducible] Tryz.prog
end
section
open Go.MapKept
attribute [local irreducible] Tryz.prog
def decS (n:Nat):ByteArray:=⟨(Lib.decDigits n).toArray⟩
def lineR (i:Int×Int):ByteArray:=if(rowC i.1).n then(rowC i.1).name++⟨#[32]⟩++decS i.2.toNat else(rowC i.1).name
end
section
open Go.MapKept
attribute [local irreducible] Tryz.prog
def strV (l:List ByteArray):List Value:=l.map Value.string
abbrev TxVec (A:Option Addr) (l:List ByteArray) (cap:Nat) (x:Own):Prop:=Vec 9 1 A l.length cap (strV l) x
def linesR (l:List (Int×Int)):List ByteArray×Int:=if l.all mayI then(l.map lineR,0)else([],180)
end
section
open Go.MapKept
attribute [local irreducible] Tryz.prog
def nspN (n:Int):Bool:=n != 32
def spK (s:ByteArray):Nat:=runL nspN (bytesL s)
def cutA (s:ByteArray):ByteArray:=s.extract 0 (spK s)
def cutB (s:ByteArray):ByteArray:=if spK s<s.size then s.extract (spK s+1) s.size else⟨#[]⟩
end
def isD (c:UInt8):Bool:=decide (48≤c.toNat)&&decide (c.toNat≤57)
def valS (a:Nat) (c:UInt8):Nat:=10*a+(c.toNat - 48)
def valL (l:List UInt8):Nat:=l.foldl valS 0

def digR (s:ByteArray):Int×Bool:=
 if s.size=0∨10<s.size∨(1<s.size∧(bytesL s).head?=some 48)then(0,false)
 else if(bytesL s).all isD then((valL (bytesL s):Int),decide ((valL (bytesL s):Int)≤2147483647))else(0,false)
def atoiV (s:ByteArray):Int:=match Lib.atoiAll s.data.toList with | .ok v=>v | .range=>Lib.atoiSat s.data.toList | _=>0
def refR (s:ByteArray):Bool×(Int×Int):=
 if(((findN (cutA s)).2==0)&&((rowC (findN (cutA s)).1).n==decide (spK s<s.size)))=true then
  if spK s<s.size then((digR (cutB s)).2,((findN (cutA s)).1,(digR (cutB s)).1))else(true,((findN (cutA s)).1,0))
 else(false,((findN (cutA s)).1,0))
def codeC (s:ByteArray):Int×Int:=((findN (cutA s)).1,if cutB s=⟨#[]⟩then 0 else atoiV (cutB s))
def parsesR (l:List ByteArray):List (Int×Int)×Int×Int:=
 match (List.range l.length).find? (fun k=>match l[k]? with | some s=> !(refR s).1 | none=>false)with
 | some k=>([],180,(k:Int))
 | none=>(l.map fun s=>(refR s).2,0,0)
section
open Go.MapKept
attribute [local irreducible] Tryz.prog
def icells (i:Int×Int):List Value:=[.int .i64 i.1, .int .i64 i.2]
def iflat (l:List (Int×Int)):List Value:=l.flatMap icells
abbrev InsV (A:Option Addr) (l:List (Int×Int)) (cap:Nat) (x:Own):Prop:=Vec 50 2 A l.length cap (iflat l) x
attribute [local irreducible] lineR refR cutA cutB findN atoiV parsesR mayR
end
section
open Go.MapKept
section
variable {P:Program} {L:List (Nat×Value)} {d:Option Tmp} {ty:TypeId} {pos:String} {af:Array Edge} {gu:Option (Nat×Bool)}
theorem Gp.mulTo {t t':TypeId} {x y:Operand} {k:IntKind} {m n r:Int} (hx:ev L x=some (.int k m)) (hy:ev L y=some (.int k n)) (h:k.wrap (m*n)=r):Gp P L ⟨d, .binOp .mul t x y t',ty,pos,af,gu⟩ (.int k r):=h▸Gp.mul hx hy
theorem Gp.subTo {t t':TypeId} {x y:Operand} {k:IntKind} {m n r:Int} (hx:ev L x=some (.int k m)) (hy:ev L y=some (.int k n)) (h:k.wrap (m - n)=r):Gp P L ⟨d, .binOp .sub t x y t',ty,pos,af,gu⟩ (.int k r):=h▸Gp.sub hx hy
end
attribute [local irreducible] Tryz.prog
attribute [local irreducible] digR valL
end
section
open Go.MapKept
attribute [local irreducible] Tryz.prog
attribute [local irreducible] lineR refR cutA cutB findN parsesR digR spK rowC
end
section
open Go.MapKept
attribute [local irreducible] Tryz.prog
attribute [local irreducible] parsesR
end
section
open Go.MapKept
attribute [local irreducible] Tryz.prog
def rdC (BA:Option Addr) (n bc:Nat) (k:Nat) (f:Int×Int):Array Value:= #[.slice BA n bc, .int .i64 (k:Int), .bool true, .int .i64 f.1, .int .i64 f.2]
abbrev rdB (b:Nat) (BA:Option Addr) (n bc:Nat) (k:Nat) (f:Int×Int):Own:= .blk b (.cells (rdC BA n bc k f) 184 (0,0))
theorem well_fn (G:Gh) (b:Nat) (BA:Option Addr) (n bc k:Nat) (f:Int×Int):Fn Tryz.prog 115 #[.pointer (some ⟨b,0,none⟩)] G [rdB b BA n bc k f] fun e G' H'=>e= .returned (.bool (decide (f=(0,0))))∧G=G'∧H'=[rdB b BA n bc k f]:=by
 refine Fn.enter Tryz.func115 rfl rfl fun w0=>?_
 refine gom ?_
 refine WL.pp (Gp.nePtrNil rfl kr) ?_
 refine gom ?_
 refine WL.pp (Gp.eqFault rfl rfl) ?_
 refine gom ?_
 refine WC.rt ?_
 exact QF.p1 (.inl rfl) rfl (.tmp rfl) (⟨rfl,rfl,rfl⟩)
theorem fails_fn (G:Gh) (b:Nat) (BA:Option Addr) (n bc k:Nat) (f:Int×Int) (e0 a0:Int):Fn Tryz.prog 116 #[.pointer (some ⟨b,0,none⟩), .int .i64 e0, .int .i64 a0] G [rdB b BA n bc k f] fun e G' H'=>e= .returned (.tuple #[])∧G=G'∧H'=[rdB b BA n bc k (e0,a0)]:=by
 refine Fn.enter Tryz.func116 rfl rfl fun w0=>?_
 refine gom ?_
 refine WK.un ?_
 exact QF.p0 (.inr rfl) rfl  (⟨rfl,rfl,rfl⟩)
theorem left_fn (G:Gh) (b:Nat) (BA:Option Addr) (n bc k:Nat) (f:Int×Int) (hk:k≤n) (hn:n≤1000000000000000):Fn Tryz.prog 123 #[.pointer (some ⟨b,0,none⟩)] G [rdB b BA n bc k f] fun e G' H'=>e= .returned (.int .i64 ((n - k:Nat):Int))∧G=G'∧H'=[rdB b BA n bc k f]:=by
 refine Fn.enter Tryz.func123 rfl rfl fun w0=>?_
 have x2:IntKind.i64.wrap ((n:Int) - (k:Int))=((n - k:Nat):Int):=by rw[wrapI (by omega) (by omega)];omega
 refine gom ?_
 refine WC.rt ?_
 exact QF.p1 (.inl rfl) rfl (.tmp rfl) (⟨rfl,rfl,rfl⟩)
theorem rfault_fn (G:Gh) (b:Nat) (BA:Option Addr) (n bc k:Nat) (f:Int×Int):Fn Tryz.prog 121 #[.pointer (some ⟨b,0,none⟩)] G [rdB b BA n bc k f] fun e G' H'=>e= .returned (.agg #[.int .i64 f.1, .int .i64 f.2])∧G=G'∧H'=[rdB b BA n bc k f]:=by
 refine Fn.enter Tryz.func121 rfl rfl fun w0=>?_
 refine WC.seq ?_
 refine WC.region ?_
 refine WL.oo (OW.alloc rfl fun b2=>?_)
 refine gom ?_
 refine WL.pp (Gp.eqPtrNil rfl kr) ?_
 refine gom ?_
 refine WC.rt ?_
 exact QF.p1 (.inl rfl) rfl (.cell rfl inferInstance inferInstance atA rfl rfl) (⟨rfl,rfl,rfl⟩)
def endF (n k:Nat) (f:Int×Int):Int×Int:=if f=(0,0)∧k<n then(6,(k:Int))else f
theorem rend_fn (G:Gh) (b:Nat) (BA:Option Addr) (n bc k:Nat) (f:Int×Int) (hk:k≤n) (hn:n≤1000000000000000):Fn Tryz.prog 77 #[.pointer (some ⟨b,0,none⟩)] G [rdB b BA n bc k f] fun e G' H'=>e= .returned (.agg #[.int .i64 (endF n k f).1, .int .i64 (endF n k f).2])∧G=G'∧H'=[rdB b BA n bc k (endF n k f)]:=by
 refine Fn.enter Tryz.func77 rfl rfl fun w0=>?_
 refine WC.seq ?_
 refine WC.region ?_
 refine WL.oo (OW.alloc rfl fun b2=>?_)
 refine gom ?_
 refine WL.oo (OW.callK rfl (well_fn G b BA n bc k f) rfl fun v' G' H' h hg=>?_)
 obtain⟨he,rfl,rfl⟩:=h
 cases he
 by_cases hf:f=(0,0)
 ·rw[decide_eq_true hf]
  refine gom ?_
  refine WL.oo (OW.callK rfl (left_fn G b BA n bc k f hk hn) rfl fun v' G' H' h hg=>?_)
  obtain⟨he,rfl,rfl⟩:=h
  cases he
  by_cases hlt:k<n
  ·have e2:decide ((0:Int)<((n - k:Nat):Int))=true:=decide_eq_true (by omega)
   have hr:endF n k f=(6,(k:Int)):=by unfold endF;rw[if_pos ⟨hf,hlt⟩]
   rw[hr]
   refine gom ?_
   refine WL.oo (OW.callK rfl (fails_fn G b BA n bc k f 6 (k:Int)) rfl fun v' G' H' h hg=>?_)
   obtain⟨he,rfl,rfl⟩:=h
   cases he
   refine gom ?_
   refine WL.oo (OW.callK rfl (rfault_fn G b BA n bc k (6,(k:Int))) rfl fun v' G' H' h hg=>?_)
   obtain⟨he,rfl,rfl⟩:=h
   cases he
   refine gom ?_
   refine WC.rt ?_
   exact QF.p1 (.inl rfl) rfl (.cell rfl inferInstance inferInstance atA rfl rfl) (⟨rfl,rfl,rfl⟩)
  ·have e2:decide ((0:Int)<((n - k:Nat):Int))=false:=decide_eq_false (by omega)
   have hr:endF n k f=f:=by unfold endF;rw[if_neg (fun h=>hlt h.2)]
   rw[hr]
   refine gom ?_
   refine WL.oo (OW.callK rfl (rfault_fn G b BA n bc k f) rfl fun v' G' H' h hg=>?_)
   obtain⟨he,rfl,rfl⟩:=h
   cases he
   refine gom ?_
   refine WC.rt ?_
   exact QF.p1 (.inl rfl) rfl (.cell rfl inferInstance inferInstance atA rfl rfl) (⟨rfl,rfl,rfl⟩)
 ·have hr:endF n k f=f:=by unfold endF;rw[if_neg (fun h=>hf h.1)]
  rw[decide_eq_false hf,hr]
  refine gom ?_
  refine WL.oo (OW.callK rfl (rfault_fn G b BA n bc k f) rfl fun v' G' H' h hg=>?_)
  obtain⟨he,rfl,rfl⟩:=h
  cases he
  refine gom ?_
  refine WC.rt ?_
  exact QF.p1 (.inl rfl) rfl (.cell rfl inferInstance inferInstance atA rfl rfl) (⟨rfl,rfl,rfl⟩)
def byteR (bs:List Int) (k:Nat) (f:Int×Int):Int×Nat×(Int×Int):=
 if f=(0,0)then(match bs[k]? with | some c=>(c,k+1,f) | none=>(0,k,(4,(k:Int))))else(0,k,f)
theorem rbyte_fn (G:Gh) (b:Nat) (BA:Option Addr) (bs:List Int) (bc k:Nat) (f:Int×Int) (hB:Sl (Kd.int .u8) G BA bs) (hk:k≤bs.length) (hn:bs.length≤1000000000000000 - 1):
  Fn Tryz.prog 156 #[.pointer (some ⟨b,0,none⟩)] G [rdB b BA bs.length bc k f] fun e G' H'=>e= .returned (.int .u8 (byteR bs k f).1)∧G=G'∧H'=[rdB b BA bs.length bc (byteR bs k f).2.1 (byteR bs k f).2.2]:=by
 refine Fn.enter Tryz.func156 rfl rfl fun w0=>?_
 refine gom ?_
 refine WL.oo (OW.callK rfl (well_fn G b BA bs.length bc k f) rfl fun v' G' H' h hg=>?_)
 obtain⟨he,rfl,rfl⟩:=h
 cases he
 by_cases hf:f=(0,0)
 rotate_left
 ·have hr:byteR bs k f=(0,k,f):=by unfold byteR;rw[if_neg hf]
  rw[decide_eq_false hf,hr]
  refine gom ?_
  refine WC.rt ?_
  exact QF.p1 (.inl rfl) rfl (.tmp rfl) (⟨rfl,rfl,rfl⟩)
 rw[decide_eq_true hf]
 refine gom ?_
 refine WL.oo (OW.callK rfl (left_fn G b BA bs.length bc k f hk (by omega)) rfl fun v' G' H' h hg=>?_)
 obtain⟨he,rfl,rfl⟩:=h
 cases he
 by_cases hlt:k<bs.length
 ·have e2:decide (((bs.length - k:Nat):Int)<1)=false:=decide_eq_false (by omega)
  obtain⟨c,hc⟩:∃c,bs[k]? =some c:=⟨_,List.getElem?_eq_getElem hlt⟩
  obtain⟨bb,bo,cs,rfl,hks,hcs⟩:=hB k c hc
  obtain rfl:cs=[.int .u8 c]:=hks
  have hr:byteR bs k f=(c,k+1,f):=by unfold byteR;rw[if_pos hf,hc]
  have x2:IntKind.i64.wrap ((k:Int)+1)=((k+1:Nat):Int):=by rw[wrapI (by omega) (by omega)];rfl
  have x3:IntKind.i64.wrap (((k+1:Nat):Int) - 1)=(k:Int):=by rw[wrapI (by omega) (by omega)];omega
  have x0:(0:Int)≤(k:Int):=by omega
  have x1:(k:Int)<(bs.length:Int):=by omega
  rw[hr]
  refine go ?_
  refine WC.pick [rdB b (some ⟨bb,bo,none⟩) bs.length bc (k+1) f] ?_
  refine WC.drawS (Hs:=[rdB b (some ⟨bb,bo,none⟩) bs.length bc (k+1) f]) mixed pkA ?_
  refine zb.move 0 ?_
  refine zb.nil 1 ?_
  refine zb.fa 2 ?_
  refine zb.fa 3 ?_
  refine zb.move 5 ?_
  refine zb.nil 6 ?_
  refine zb.fa 7 ?_
  refine zb.fa 8 ?_
  refine zb.ld 9 ?_
  refine WB.pp 10 rfl (Gp.subTo rfl rfl x3) ?_
  refine zb.ld 4 ?_
  refine zb.ix 11 ?_
  refine WB.vv 12 rfl (Gv.loadG1 (i:=0) rfl hcs rfl) ?_
  refine zb.assign 13 ?_
  refine WB.done kr ?_
  refine WK.un ?_
  refine WC.rt ?_
  exact QF.p1 (.inl rfl) rfl (.tmp rfl) (⟨rfl,rfl,rfl⟩)
 ·have e2:decide (((bs.length - k:Nat):Int)<1)=true:=decide_eq_true (by omega)
  have hr:byteR bs k f=(0,k,(4,(k:Int))):=by unfold byteR;rw[if_pos hf,List.getElem?_eq_none (by omega)]
  rw[hr]
  refine gom ?_
  refine WL.oo (OW.callK rfl (fails_fn G b (BA) bs.length bc k f 4 (k:Int)) rfl fun v' G' H' h hg=>?_)
  obtain⟨he,rfl,rfl⟩:=h
  cases he
  refine gom ?_
  refine WC.rt ?_
  exact QF.p1 (.inl rfl) rfl (.tmp rfl) (⟨rfl,rfl,rfl⟩)
end
section
open Go.MapKept
attribute [local irreducible] Tryz.prog
def numL (n k:Nat):List Int→Int×Int×Int
 | []=>(0,0,4)
 | c::r=>
  if k=9∧1<c then(0,0,10)
  else if c<128 then(if c=0∧0<k then(0,0,5)else(((n+c.toNat%128*128^k:Nat):Int),((k+1:Nat):Int),0))
  else numL (n+c.toNat%128*128^k) (k+1) r
theorem or_u64 (n m k:Nat) (hn:n<128^k) (h:n+m*128^k<18446744073709551616):bits .or .u64 (n:Int) ((m*128^k:Nat):Int)=((n+m*128^k:Nat):Int):=by
 have hp:(128:Nat)^k=2^(7*k):=by rw[Nat.pow_mul]
 have h1:m*128^k ||| n=m*128^k+n:=by
  rw[hp]at hn⊢
  rw[←Nat.shiftLeft_eq,←Nat.shiftLeft_add_eq_or_of_lt hn]
 have h2:n ||| m*128^k=n+m*128^k:=by rw[Nat.or_comm,h1,Nat.add_comm]
 have e1:∀q:Nat,BitVec.ofInt IntKind.u64.bits (q:Int)=BitVec.ofNat 64 q:=fun q=>BitVec.ofInt_natCast ..
 unfold bits
 dsimp only
 rw[e1,e1]
 have e2:(BitVec.ofNat 64 n ||| BitVec.ofNat 64 (m*128^k)).toNat=n+m*128^k:=by
  rw[BitVec.toNat_or,BitVec.toNat_ofNat,BitVec.toNat_ofNat,Nat.mod_eq_of_lt (by omega),Nat.mod_eq_of_lt (by omega),h2]
 show IntKind.u64.wrap (((BitVec.ofNat 64 n ||| BitVec.ofNat 64 (m*128^k)).toNat:Nat):Int)=_
 rw[e2]
 obtain⟨q,hq⟩:∃q:Nat,q=n+m*128^k:=⟨_,rfl⟩
 rw[←hq]at h⊢
 simp[IntKind.wrap,IntKind.signed,IntKind.bits]
 omega
end
section
open Go.MapKept
theorem numL_uintL (rest:List Int):∀(m n k:Nat),m*128^k<18446744073709551616→k≤9→(k=0∨0<m)→
  numL n k (uintL m++rest)=(((n+m*128^k:Nat):Int),((k+(uintL m).length:Nat):Int),0):=by
 intro m
 induction m using Nat.strongRecOn with
 | _ m ih=>
  intro n k hm hk h0
  have h9:k=9→m≤1:=fun e=>by subst e;simp at hm;omega
  by_cases hlt:m<128
  ·rw[uintL_lt hlt]
   simp only[List.cons_append,List.nil_append,numL]
   rw[if_neg (by rintro ⟨h1,h2⟩;have:=h9 h1;omega),if_pos (by omega),if_neg (by rintro ⟨h1,h2⟩;omega)]
   rw[Int.toNat_natCast,Nat.mod_eq_of_lt hlt]
   simp
  ·rw[uintL_ge hlt]
   simp only[List.cons_append,numL]
   have hk9:k≠9:=fun e=>by have:=h9 e;omega
   rw[if_neg (fun h=>hk9 h.1),if_neg (by omega),Int.toNat_natCast]
   have h1:(m%128+128)%128=m%128:=by omega
   rw[h1]
   have h2:m / 128*128^(k+1)+m%128*128^k=m*128^k:=by
    rw[Nat.pow_succ,Nat.mul_comm (128^k) 128,←Nat.mul_assoc,←Nat.add_mul]
    congr 1;omega
   rw[ih (m / 128) (by omega) _ (k+1) (by omega) (by omega) (.inr (by omega))]
   simp only[List.length_cons,Prod.mk.injEq,and_true]
   exact⟨by omega,by omega⟩
theorem uintL_numL:∀(bs:List Int) (n k r w:Nat),(∀c∈bs,0≤c∧c<256)→numL n k bs=((r:Int),(w:Int),0)→
  ∃m,uintL m=bs.take (w - k)∧r=n+m*128^k∧(0<k→0<m)∧k<w∧w - k≤bs.length
 | [],n,k,r,w,_,h=>by simp[numL]at h
 | c::bs,n,k,r,w,hb,h=>by
  have hc:=hb c (List.mem_cons_self ..)
  simp only[numL]at h
  split at h
  ·simp at h
  ·split at h
   ·split at h
    ·simp at h
    ·rename_i h1 h2 h3
     simp only[Prod.mk.injEq,and_true]at h
     have hcm:c.toNat%128=c.toNat:=Nat.mod_eq_of_lt (by omega)
     rw[hcm]at h
     refine⟨c.toNat,?_,by omega,fun hk=>?_,by omega,by simp;omega⟩
     ·rw[uintL_lt (by omega),show w - k=1 by omega]
      simp;omega
     ·rcases Nat.eq_zero_or_pos c.toNat with h0 | h0
      ·exact absurd ⟨by omega,hk⟩ h3
      ·exact h0
   ·rename_i h1 h2
    obtain⟨m,e1,e2,e3,e4,e5⟩:=uintL_numL bs _ (k+1) r w (fun x hx=>hb x (List.mem_cons_of_mem _ hx)) h
    have hm:=e3 (by omega)
    have hq:(c.toNat%128+128*m) / 128=m:=by omega
    have hr:(c.toNat%128+128*m)%128=c.toNat%128:=by omega
    refine⟨c.toNat%128+128*m,?_,?_,fun _=>by omega,by omega,by simp;omega⟩
    ·rw[uintL_ge (by omega),hq,hr,show w - k=(w - (k+1))+1 by omega,List.take_succ_cons,e1]
     congr 1;omega
    ·rw[e2,Nat.pow_succ,Nat.add_mul]
     have:m*(128^k*128)=128*m*128^k:=by rw[Nat.mul_comm (128^k) 128,←Nat.mul_assoc,Nat.mul_comm m 128]
     omega
theorem numL_pos:∀(bs:List Int) (n k:Nat),(∀c∈bs,0≤c∧c<256)→∃(r w:Nat) (e:Int),numL n k bs=((r:Int),(w:Int),e)∧(e≠0→r=0∧w=0)
 | [],n,k,_=>⟨0,0,4,rfl,fun _=>⟨rfl,rfl⟩⟩
 | c::bs,n,k,hb=>by
  simp only[numL]
  split
  ·exact⟨0,0,10,rfl,fun _=>⟨rfl,rfl⟩⟩
  ·split
   ·split
    ·exact⟨0,0,5,rfl,fun _=>⟨rfl,rfl⟩⟩
    ·exact⟨_,_,0,rfl,fun h=>absurd rfl h⟩
   ·exact numL_pos bs _ _ fun x hx=>hb x (List.mem_cons_of_mem _ hx)
def cntR (bs:List Int) (most:Int) (k:Nat) (f:Int×Int):Int×Nat×(Int×Int):=
 if f=(0,0)then
  (if(numL 0 0 (bs.drop k)).2.2=0 then
   (if most<(numL 0 0 (bs.drop k)).1 then(0,k,(11,(k:Int)))else((numL 0 0 (bs.drop k)).1,k+(numL 0 0 (bs.drop k)).2.1.toNat,(0,0)))
   else(0,k,((numL 0 0 (bs.drop k)).2.2,(k:Int))))
 else(0,k,f)
def stepR (bs:List Int) (k:Nat):(Int×Int)×Nat×(Int×Int):=
 let b:=byteR bs k (0,0)
 if b.2.2=(0,0)then
  (if(rowC b.1).name=⟨#[]⟩then((b.1,0),k,(5,(k:Int)))
   else if(rowC b.1).n then(let c:=cntR bs 2147483647 b.2.1 (0,0);((b.1,c.1),c.2.1,c.2.2))
   else((b.1,0),b.2.1,(0,0)))
 else((b.1,0),b.2.1,b.2.2)
def readL (bs:List Int):Nat→Nat→List (Int×Int)×Nat×(Int×Int)
 | 0,k=>([],k,(0,0))
 | m+1,k=>if(stepR bs k).2.2=(0,0)then(let r:=readL bs m (stepR bs k).2.1;((stepR bs k).1::r.1,r.2))else([],(stepR bs k).2)
def readR (bs:List Int):List (Int×Int)×(Int×Int):=
 let c:=cntR bs 16384 0 (0,0)
 let r:=readL bs c.1.toNat c.2.1
 let fin:=if c.2.2=(0,0)then r.2 else(c.2.1,c.2.2)
 let e:=endF bs.length fin.1 fin.2
 if e=(0,0)then(r.1,(0,0))else([],e)
theorem cntR_ok {bs:List Int} {most:Int} {k k':Nat} {n:Int} (hb:∀c∈bs,0≤c∧c<256) (hk:k≤bs.length) (h:cntR bs most k (0,0)=(n,k',(0,0))):
  ∃m:Nat,n=(m:Int)∧n≤most∧bs.drop k=uintL m++bs.drop k'∧k<k'∧k'≤bs.length:=by
 unfold cntR at h
 rw[if_pos rfl]at h
 obtain⟨r,w,e,he,_⟩:=numL_pos (bs.drop k) 0 0 fun c hc=>hb c (List.mem_of_mem_drop hc)
 rw[he]at h
 dsimp only at h
 split at h
 ·rename_i h0
  subst h0
  split at h
  ·simp at h
  ·rename_i hm
   obtain⟨m,e1,e2,_,e4,e5⟩:=uintL_numL (bs.drop k) 0 0 r w (fun c hc=>hb c (List.mem_of_mem_drop hc)) he
   simp only[Prod.mk.injEq,and_true,Int.toNat_natCast]at h
   obtain⟨rfl,rfl⟩:=h
   rw[List.length_drop]at e5
   refine⟨r,rfl,by omega,?_,by omega,by omega⟩
   have:r=m:=by simpa using e2
   rw[this,e1,←List.drop_drop,Nat.sub_zero,List.take_append_drop]
 ·rename_i h0
  simp only[Prod.mk.injEq]at h
  exact absurd h.2.2.1 h0
theorem cntR_le {bs:List Int} {most:Int} {k:Nat} {f:Int×Int} (hb:∀c∈bs,0≤c∧c<256) (hk:k≤bs.length) (hm:0≤most):(cntR bs most k f).2.1≤bs.length∧0≤(cntR bs most k f).1∧(cntR bs most k f).1≤most∧(f≠(0,0)→(cntR bs most k f).2.2=f)∧((cntR bs most k f).2.2≠(0,0)→(cntR bs most k f).1=0∧(cntR bs most k f).2.1=k):=by
 by_cases hf:f=(0,0)
 ·subst hf
  by_cases h0:(cntR bs most k (0,0)).2.2=(0,0)
  ·obtain⟨m,e1,e2,e3,e4,e5⟩:=cntR_ok (n:=(cntR bs most k (0,0)).1) (k':=(cntR bs most k (0,0)).2.1) hb hk (Prod.ext rfl (Prod.ext rfl h0))
   exact⟨e5,by omega,e2,fun h=>absurd rfl h,fun h=>absurd h0 h⟩
  ·have:cntR bs most k (0,0)=(0,k,(cntR bs most k (0,0)).2.2):=by
    unfold cntR at h0⊢
    rw[if_pos rfl]at h0⊢
    split at h0
    ·rename_i h1
     rw[if_pos h1]
     split at h0
     ·rename_i h2;rw[if_pos h2]
     ·exact absurd rfl h0
    ·rename_i h1;rw[if_neg h1]
   rw[this]
   exact⟨hk,Int.le_refl 0,hm,fun h=>absurd rfl h,fun _=>⟨rfl,rfl⟩⟩
 ·have:cntR bs most k f=(0,k,f):=by unfold cntR;rw[if_neg hf]
  rw[this]
  exact⟨hk,Int.le_refl 0,hm,fun _=>rfl,fun _=>⟨rfl,rfl⟩⟩
theorem cntR_uintL {pre rest:List Int} {m:Nat} {most:Int} (h:m<18446744073709551616) (hm:(m:Int)≤most):
  cntR (pre++uintL m++rest) most pre.length (0,0)=((m:Int),(pre++uintL m).length,(0,0)):=by
 unfold cntR
 rw[if_pos rfl,List.append_assoc,List.drop_left',numL_uintL rest m 0 0 (by omega) (by omega) (.inl rfl),if_pos rfl]
 simp only[Nat.zero_add,Nat.pow_zero,Nat.mul_one]
 rw[if_neg (by omega),Int.toNat_natCast,List.length_append]
 rfl
end
abbrev Ky:=ByteArray×ByteArray
structure Pt where
 path:ByteArray
 name:ByteArray
 proc:Int
def expL (l:List Ob) (k:Ky):List Pr:=match l.find? (fun o=>o.path==k.1)with
 | none=>[]
 | some o=>o.procs.filter fun p=>p.exp&&p.name==k.2
def fitN (n:Nd) (p:Pr):Bool:=p.result==n.result&&p.params==n.params
def metL (l:List Ob) (n:Nd):Bool:=(expL l (n.path,n.name)).any (fitN n)
def sameN (a b:Nd):Bool:=a.path==b.path&&(a.name==b.name&&(a.result==b.result&&a.params==b.params))
def missStep (l:List Ob) (acc:List Nd) (n:Nd):List Nd:=if metL l n || acc.any (fun x=>sameN x n)then acc else acc++[n]
def missL (l:List Ob):List Nd:=(l.flatMap (·.needs)).foldl (missStep l) []
noncomputable def errL:List Ob→Int
 | []=>0
 | o::r=>if(objAns o).2.2≠0 then(objAns o).2.2 else errL r
def sumP (l:List Ob):Nat:=(l.map (·.procs.length)).sum
def sumC (l:List Ob):Nat:=(l.map (·.consts.length)).sum
noncomputable def linkE (l:List Ob):Int:=
 if errL l≠0 then errL l
 else if¬(l.map (·.path)).Nodup then 222
 else if missL l≠ []then 221
 else if 4096<sumP l∨65536<sumC l then 53 else 0
def allPr (l:List Ob):List (ByteArray×Pr):=l.flatMap fun o=>o.procs.map fun p=>(o.path,p)
def atL (l:List (ByteArray×Pr)) (k:Ky):Int:=
 match (List.range l.length).reverse.find? (fun j=>decide ((l[j]?).map (fun q=>(q.1,q.2.name))=some k))with
 | some j=>(j:Int)
 | none=>0
def moveI (l:List (ByteArray×Pr)) (o:Ob) (cs ps:Nat) (i:Int×Int):Int×Int:=
 if i.1=1 then(1,i.2+cs)else if i.1=7 then(7,i.2+ps)
 else if i.1=8 then(7,match o.needs[i.2.toNat]? with | some n=>atL l (n.path,n.name) | none=>0)else i
def moveP (l:List (ByteArray×Pr)) (o:Ob) (cs ps:Nat) (p:Pr):Pr:= { p with code:=p.code.map (moveI l o cs ps) }
def joinP (l:List (ByteArray×Pr)):List Ob→Nat→Nat→List Pr
 | [],_,_=>[]
 | o::r,cs,ps=>o.procs.map (moveP l o cs ps)++joinP l r (cs+o.consts.length) (ps+o.procs.length)
def ptsO (path:ByteArray):List Pr→Nat→List Pt
 | [],_=>[]
 | p::r,k=>if p.exp then⟨path,p.name,(k:Int)⟩::ptsO path r (k+1)else ptsO path r (k+1)
def joinT':List Ob→Nat→List Pt
 | [],_=>[]
 | o::r,ps=>ptsO o.path o.procs ps++joinT' r (ps+o.procs.length)
theorem errL_zero {l:List Ob} :errL l=0↔∀o∈l,(objAns o).2.2=0:=by
 induction l with
 | nil=>simp[errL]
 | cons o r ih=>
  unfold errL
  by_cases h:(objAns o).2.2=0
  ·simp[h,ih]
  ·simp[h]
theorem errL_mem {l:List Ob} (h:errL l≠0):∃o∈l,errL l=(objAns o).2.2:=by
 induction l with
 | nil=>simp[errL]at h
 | cons o r ih=>
  unfold errL at h⊢
  by_cases h1:(objAns o).2.2=0
  ·simp only[h1,ne_eq,not_true,if_false]at h⊢
   obtain⟨o',ho',e⟩:=ih h
   exact⟨o',List.mem_cons_of_mem _ ho',e⟩
  ·simp only[ne_eq,h1,not_false_eq_true,if_true]
   exact⟨o,List.mem_cons_self ..,rfl⟩
theorem firstR_in {n:Nat} {f:Nat→Int} {p:Int→Prop} (h0:p 0) (hf:∀k,p (f k)):p (firstR n f).2:=by
 unfold firstR
 split
 ·exact hf _
 ·exact h0
def codeE (x:Int):Prop:=x=0∨(180≤x∧x≤185)
theorem metR_in (w:Wd) (p:Pr) (k:Nat) (i:Int×Int) (s:SS):codeE (metR w p k i s):=by
 unfold metR codeE
 repeat (first | omega | split)
theorem aloneR_in (w:Wd) (p:Pr) (i:Int×Int):codeE (aloneR w p i):=by
 unfold aloneR codeE
 repeat (first | omega | split)
theorem outAt_in (w:Wd) (k:Nat):codeE (outAt w k).2:=by
 unfold outAt
 split
 ·unfold procOut
  split
  ·exact .inr ⟨by decide,by decide⟩
  ·split
   ·refine firstR_in (.inl rfl) fun j=>?_
    unfold aloneAt
    split
    ·exact aloneR_in _ _ _
    ·exact .inl rfl
   ·unfold wrongR
    refine firstR_in (.inl rfl) fun j=>?_
    unfold badAt
    split
    ·split
     ·exact metR_in _ _ _ _ _
     ·exact .inl rfl
    ·exact .inl rfl
 ·exact .inl rfl
theorem objAns_in (o:Ob):codeE (objAns o).2.2:=by
 unfold objAns
 split
 ·unfold allR
  split
  ·exact outAt_in _ _
  ·exact .inl rfl
 ·exact .inr ⟨by decide,by decide⟩
theorem linkE_miss {l:List Ob} :(linkE l=221)↔((∀o∈l,(objAns o).2.2=0)∧(l.map (·.path)).Nodup∧missL l≠ []):=by
 unfold linkE
 by_cases h:errL l=0
 ·rw [if_neg (by simpa using h)]
  have h1:=errL_zero.1 h
  by_cases h2:(l.map (·.path)).Nodup
  ·rw[if_neg (by simpa using h2)]
   by_cases h3:missL l=[]
   ·rw[if_neg (by simpa using h3)]
    constructor
    ·intro h4;split at h4<;>cases h4
    ·exact fun h4=>absurd h3 h4.2.2
   ·rw[if_pos h3]
    exact⟨fun _=>⟨h1,h2,h3⟩,fun _=>rfl⟩
  ·rw[if_pos h2]
   exact⟨fun h4=>(by cases h4),fun h4=>absurd h4.2.1 h2⟩
 ·rw[if_pos h]
  constructor
  ·intro h4
   obtain⟨o,_,e⟩:=errL_mem h
   have:=objAns_in o
   rw[←e,h4]at this
   rcases this with h | h<;>omega
  ·exact fun h4=>absurd (errL_zero.2 h4.1) h
theorem linkE_zero {l:List Ob} (h:linkE l=0):(∀o∈l,(objAns o).2.2=0)∧(l.map (·.path)).Nodup∧missL l=[]∧sumP l≤4096∧sumC l≤65536:=by
 unfold linkE at h
 split at h
 ·rename_i h1;exact absurd h h1
 split at h
 ·cases h
 split at h
 ·cases h
 split at h
 ·cases h
 rename_i h1 h2 h3 h4
 have h1':errL l=0:=by simpa using h1
 simp only[not_or,Nat.not_lt]at h4
 exact⟨errL_zero.1 h1',by simpa using h2,by simpa using h3,h4.1,h4.2⟩
section
open Go
section
variable {α:Type} {k:Kd α} {G G':Gh} {T cap:Nat} {A:Option Addr} {l m:List α} {cs ds:List Value} {x:Own}
structure KFl (k:Kd α) (G:Gh) (l:List α) (cs:List Value):Prop where
 len:cs.length=l.length*k.n
 at_:∀i x,l[i]? =some x→k.K G x ((cs.drop (i*k.n)).take k.n)
theorem KFl.nil:KFl k G [] []:=⟨by simp,fun i x h=>by simp at h⟩
theorem KFl.mono (h:KFl k G l cs) (hg:G.le G'):KFl k G' l cs:=⟨h.len,fun i x e=>k.mono hg (h.at_ i x e)⟩
theorem KFl.one {x:α} (h:k.K G x cs):KFl k G [x] cs:=by
 have hl:=k.len h
 refine⟨by simp[hl],fun i y e=>?_⟩
 cases i with
 | zero=>cases e;rw[Nat.zero_mul,List.drop_zero,List.take_of_length_le (by omega)];exact h
 | succ i=>simp at e
theorem KFl.append (h:KFl k G l cs) (h':KFl k G m ds):KFl k G (l++m) (cs++ds):=by
 refine⟨by rw[List.length_append,List.length_append,h.len,h'.len,Nat.add_mul],fun i y e=>?_⟩
 rcases Nat.lt_or_ge i l.length with hi | hi
 ·rw[List.getElem?_append_left hi]at e
  have h1:=h.at_ i y e
  have h2:(i+1)*k.n≤l.length*k.n:=Nat.mul_le_mul_right _ hi
  rw[Nat.add_mul]at h2
  have h3:=h.len
  rw[List.drop_append_of_le_length (by omega),List.take_append_of_le_length (by rw[List.length_drop];omega)]
  exact h1
 ·rw[List.getElem?_append_right hi]at e
  have h1:=h'.at_ _ y e
  obtain⟨j,rfl⟩:∃j,i=l.length+j:=⟨i - l.length,by omega⟩
  rw[Nat.add_sub_cancel_left]at h1
  have h3:=h.len
  rw[Nat.add_mul,←h3,←List.drop_drop,List.drop_left]
  exact h1
theorem KFl.one' (h:KFl k G l cs):cs.all (·.oneCell')=true:=by
 have key:∀(l:List α) (cs:List Value),KFl k G l cs→cs.all (·.oneCell')=true:=by
  intro l
  induction l with
  | nil=>intro cs h;have:=h.len;simp at this;subst this;rfl
  | cons a l ih=>
   intro cs h
   have h0:=h.at_ 0 a rfl
   rw[Nat.zero_mul,List.drop_zero]at h0
   have h1:=ih (cs.drop k.n) ⟨by rw[List.length_drop,h.len,List.length_cons,Nat.add_mul];omega,fun i y e=>by
    have:=h.at_ (i+1) y (by simpa using e)
    rw[List.drop_drop,show k.n+i*k.n=(i+1)*k.n by rw[Nat.add_mul];omega];exact this⟩
   rw[←List.take_append_drop k.n cs,List.all_append,k.one h0,h1];rfl
 exact key l cs h
theorem KFl.sl (hn:0<k.n) (h:KFl k G l cs) (hz:cs=[]∨∃b,A=some ⟨b,0,none⟩∧Cs G b 0 cs):Sl k G A l:=Sl.ofCs hz h.len hn h.at_
theorem Sl.kfl {H:List Own} (hn:0<k.n) (h:Sl k G A l):∃cs,Rds G H A cs∧KFl k G l cs:=by
 obtain⟨cs,h1,h2,_,h3⟩:=Sl.rds (H:=H) hn h
 exact⟨cs,h1,h2,h3⟩
def KVec (k:Kd α) (T:Nat) (G:Gh) (A:Option Addr) (cap:Nat) (l:List α) (x:Own):Prop:=∃cs,Vec T k.n A l.length cap cs x∧KFl k G l cs
theorem KVec.nil:KVec k T G none 0 [] (.spare 0 0 0):=⟨[],⟨by simp, .inl ⟨rfl,rfl,rfl,rfl⟩⟩,KFl.nil⟩
theorem KVec.mono (h:KVec k T G A cap l x) (hg:G.le G'):KVec k T G' A cap l x:=let ⟨cs,h1,h2⟩:=h;⟨cs,h1,h2.mono hg⟩
theorem KVec.rds {H:List Own} {j:Nat} (h:KVec k T G A cap l x) (hj:At H j x):∃cs,Rds G H A cs∧KFl k G l cs:=let ⟨cs,h1,h2⟩:=h;⟨cs,h1.rds hj,h2⟩
end
section
variable {P:Program} {Q:Exit→Act→World→Prop} {cx:Cx} {L:List (Nat×Value)} {G:Gh} {H:List Own} {K:List (Nat×Value)→Gh→List Own→Prop} {d:Option Tmp} {ty:TypeId} {pos:String} {af:Array Edge} {gu:Option (Nat×Bool)}
variable {α:Type} {k:Kd α} {T cap j:Nat} {A:Option Addr} {l m:List α} {news:List Value} {o:Own}
theorem OW.appendK {t e by_:Nat} {z:Value} {x y:Operand} {B:Option Addr} {cy:Nat} (hx:ev L x=some (.slice A l.length cap)) (hy:ev L y=some (.slice B m.length cy)) [hu:Und P t (.slice e)] [hi:Inf P e k.n by_ z]
  (hz:z.cells.size=k.n) (hs0:Nat.blt 0 k.n=true) (hv:KVec k e G A cap l o) (hj:At H j o) (hr:Rds G H B news) (hm:KFl k G m news)
  (hb:(l.length+m.length)*by_≤140737488355328) (h63:l.length+m.length≤9223372036854775807) (hd:dOk d cx.N=true)
  (kk:∀A' cap' o',KVec k e G A' cap' (l++m) o'→K (putL d (.slice A' (l++m).length cap') L) G (H.set j o')):
  OW P Q ⟨d, .call { callee:= .builtin .append,args:= #[x,y],argTypes:= #[t,t] },ty,pos,af,gu⟩ cx L G H K:=by
 obtain⟨cs,h1,h2⟩:=hv
 refine OW.append hx hy hz hs0 h1 hj hr hm.len hm.one' hb h63 hd fun A' cap' o' h3=>?_
 have h4:=kk A' cap' o' ⟨cs++news,by rw[List.length_append];exact h3,h2.append hm⟩
 rwa [List.length_append]at h4
theorem OW.appendS {t e by_:Nat} {z:Value} {x y:Operand} {B:Option Addr} {cy:Nat} (hx:ev L x=some (.slice A l.length cap)) (hy:ev L y=some (.slice B m.length cy)) [hu:Und P t (.slice e)] [hi:Inf P e k.n by_ z]
  (hz:z.cells.size=k.n) (hs0:Nat.blt 0 k.n=true) (hv:KVec k e G A cap l o) (hj:At H j o) (hm:Sl k G B m)
  (hb:(l.length+m.length)*by_≤140737488355328) (h63:l.length+m.length≤9223372036854775807) (hd:dOk d cx.N=true)
  (kk:∀A' cap' o',KVec k e G A' cap' (l++m) o'→K (putL d (.slice A' (l++m).length cap') L) G (H.set j o')):
  OW P Q ⟨d, .call { callee:= .builtin .append,args:= #[x,y],argTypes:= #[t,t] },ty,pos,af,gu⟩ cx L G H K:=by
 obtain⟨cs,h1,h2⟩:=Sl.kfl (H:=H) (Nat.le_of_ble_eq_true hs0) hm
 exact OW.appendK hx hy hz hs0 hv hj h1 h2 hb h63 hd kk
theorem OW.append1 {t e by_:Nat} {z:Value} {x y:Operand} {b cy i:Nat} {c:Array Value} {T2:TypeId} {u:α} (hx:ev L x=some (.slice A l.length cap)) (hy:ev L y=some (.slice (some ⟨b,0,none⟩) 1 cy)) [hu:Und P t (.slice e)] [hi:Inf P e k.n by_ z]
  (hz:z.cells.size=k.n) (hs0:Nat.blt 0 k.n=true) (hv:KVec k e G A cap l o) (hj:At H j o) (hi2:At H i (.blk b (.cells c T2 (0,0)))) (hc:c.toList=news) (hk:k.K G u news)
  (hb:(l.length+1)*by_≤140737488355328) (h63:l.length+1≤9223372036854775807) (hd:dOk d cx.N=true)
  (kk:∀A' cap' o',KVec k e G A' cap' (l++[u]) o'→K (putL d (.slice A' (l++[u]).length cap') L) G (H.set j o')):
  OW P Q ⟨d, .call { callee:= .builtin .append,args:= #[x,y],argTypes:= #[t,t] },ty,pos,af,gu⟩ cx L G H K:=
 OW.appendK (m:=[u]) hx hy hz hs0 hv hj (Rds.blk0 hi2 hc) (KFl.one hk) hb h63 hd kk
end
section
variable {P:Program} {Q:Exit→Act→World→Prop} {cx:Cx} {L:List (Nat×Value)} {G:Gh} {H:List Own}
variable {α:Type} {k:Kd α} {T cap j:Nat} {A:Option Addr} {l:List α} {x:Own}
theorem WK.freezeK {K:Act→World→Prop} (hn:0<k.n) (hv:KVec k T G A cap l x) (hj:At H j x) (h:∀G',G.le G'→Sl k G' A l→WK K cx L G' (H.eraseIdx j)):WK K cx L G H:=by
 obtain⟨cs,h1,h2⟩:=hv
 exact WK.frozenVec h1 hj fun G' hg hz=>h G' hg ((h2.mono hg).sl hn hz)
theorem WC.freezeK {c:Code} (hn:0<k.n) (hv:KVec k T G A cap l x) (hj:At H j x) (h:∀G',G.le G'→Sl k G' A l→WC P c Q cx L G' (H.eraseIdx j)):WC P c Q cx L G H:=WK.freezeK (K:=c.wp P Q) hn hv hj h
theorem WL.freezeK {ops:Array Oper} {rest:List Oper} (hn:0<k.n) (hv:KVec k T G A cap l x) (hj:At H j x) (h:∀G',G.le G'→Sl k G' A l→WL P ops Q rest cx L G' (H.eraseIdx j)):WL P ops Q rest cx L G H:=WK.freezeK (K:=fun a w=>wpList P ops Q rest a w) hn hv hj h
end
end
section
open Go Go.MapKept Go.Proofs
structure MK {κ:Type} (emb:κ→Value) (es:Array MapEntry) (clock:Nat) (m:List (κ×Value)):Prop where
 ents:es.toList.map (fun e=>(e.key,e.val))=m.map (fun p=>(emb p.1,p.2))
 keys:(m.map (·.1)).Nodup
 borns:(es.toList.map (·.born)).Nodup
 old:∀e∈es.toList,e.born<clock
class KeyK (P:Program) (kt:TypeId) {κ:Type} (emb:κ→Value):Prop where
 inj:∀ {a b:κ},emb a=emb b→a=b
 check:∀(a:κ) (e:Bool) (w:World),(Instr.checkKey e 10000 kt (emb a)).run P w= .ok () w
 stay:∀a:κ,Instr.sameBits 10000 (emb a) (emb a)=true
 find:∀(k:κ) (l:List MapEntry) (w:World),(∀x∈l,∃a:κ,x.key=emb a)→
  ((∀x∈l,x.key≠emb k)∧(Instr.findKey kt (emb k) l).run P w= .ok none w)∨∃j e,l[j]? =some e∧e.key=emb k∧(Instr.findKey kt (emb k) l).run P w= .ok (some (j,e.val)) w
section
variable {κ:Type} [DecidableEq κ] {emb:κ→Value} {es:Array MapEntry} {clock:Nat} {m:List (κ×Value)}
theorem MK.empty:MK emb #[] 0 []:=⟨rfl,by simp,by simp,by simp⟩
theorem MK.isKey (h:MK emb es clock m):∀e∈es.toList,∃a,e.key=emb a:=fun e hm=>by
 have h1:(e.key,e.val)∈es.toList.map (fun e=>(e.key,e.val)):=List.mem_map_of_mem hm
 rw[h.ents]at h1
 obtain⟨p,_,hp⟩:=List.mem_map.1 h1
 exact⟨p.1,(congrArg Prod.fst hp).symm⟩
theorem MK.at (h:MK emb es clock m) {j:Nat} {e:MapEntry} (hj:es.toList[j]? =some e):∃p,m[j]? =some p∧e.key=emb p.1∧e.val=p.2:=by
 have h1:=congrArg (fun l=>l[j]?) h.ents
 simp only[List.getElem?_map,hj,Option.map_some]at h1
 cases hp:m[j]? with
 | none=>rw[hp]at h1;cases h1
 | some p=>
  rw[hp]at h1
  simp only[Option.map_some,Option.some.injEq,Prod.mk.injEq]at h1
  exact⟨p,rfl,h1⟩
theorem MK.absent (h:MK emb es clock m) {k:κ} (hk:∀x∈es.toList,x.key≠emb k):k∉m.map (·.1):=fun hm=>by
 obtain⟨p,hp,rfl⟩:=List.mem_map.1 hm
 have h1:(emb p.1,p.2)∈m.map (fun p=>(emb p.1,p.2)):=List.mem_map.2 ⟨p,hp,rfl⟩
 rw[←h.ents]at h1
 obtain⟨e,hm,hx⟩:=List.mem_map.1 h1
 exact hk e hm (congrArg Prod.fst hx)
theorem MK.setNew (h:MK emb es clock m) {k:κ} {v:Value} (hk:k∉m.map (·.1)):MK emb (es.push ⟨emb k,v,clock⟩) (clock+1) (setA m k v):=by
 rw[setA,if_neg hk]
 refine⟨by simp[h.ents],?_,?_,?_⟩
 ·rw[List.map_append,List.nodup_append]
  refine⟨h.keys,by simp,fun a ha b hb=>?_⟩
  simp at hb;subst hb;exact fun e=>hk (e▸ha)
 ·rw[Array.toList_push,List.map_append,List.nodup_append]
  refine⟨h.borns,by simp,fun a ha b hb=>?_⟩
  simp at hb;subst hb
  obtain⟨e,he,rfl⟩:=List.mem_map.1 ha
  have:=h.old e he;omega
 ·intro e hm
  simp at hm
  rcases hm with hm | rfl
  ·have:=h.old e (by simpa using hm);omega
  ·show clock<clock+1;omega
theorem MK.setOld (hinj:∀ {a b:κ},emb a=emb b→a=b) (h:MK emb es clock m) {k:κ} {v:Value} {j:Nat} {e:MapEntry} (hj:es.toList[j]? =some e) (hk:e.key=emb k):MK emb (es.modify j fun e=> { e with key:=emb k,val:=v }) clock (setA m k v):=by
 obtain⟨p,hp,h1,h2⟩:=h.at hj
 have hpk:p.1=k:=hinj (h1.symm.trans hk)
 have hmem:k∈m.map (·.1):=List.mem_map.2 ⟨p,List.mem_of_getElem? hp,hpk⟩
 rw[setA,if_pos hmem]
 have hjl:j<es.size:=by simpa using(List.getElem?_eq_some_iff.1 hj).1
 refine⟨?_,by rw[keys_set];exact h.keys,?_,?_⟩
 ·apply List.ext_getElem?
  intro i
  simp only[List.getElem?_map,Array.getElem?_toList,Array.getElem?_modify]
  by_cases hij:j=i
  ·subst hij
   have:es[j]? =some e:=by simpa using hj
   simp only[if_true,this,hp,Option.map_some,if_pos hpk]
  ·rw [if_neg hij]
   have h3:=congrArg (fun l=>l[i]?) h.ents
   simp only[List.getElem?_map,Array.getElem?_toList]at h3
   rw[h3]
   cases hq:m[i]? with
   | none=>rfl
   | some q=>
    have hne:q.1≠k:=fun e'=>by
     have hn:=h.keys
     have h4:(m.map (·.1))[i]? =some k:=by rw[List.getElem?_map,hq];simp[e']
     have h5:(m.map (·.1))[j]? =some k:=by rw[List.getElem?_map,hp];simp[hpk]
     have hi1:=(List.getElem?_eq_some_iff.1 h4).1
     have:=(List.getElem?_inj hi1 hn).1 (h4.trans h5.symm)
     exact hij this.symm
    simp only[Option.map_some,if_neg hne]
 ·have:(es.modify j fun e=> { e with key:=emb k,val:=v }).toList.map (·.born)=es.toList.map (·.born):=by
   apply List.ext_getElem?
   intro i
   simp only[List.getElem?_map,Array.getElem?_toList,Array.getElem?_modify]
   by_cases hij:j=i
   ·subst hij;simp
    cases es[j]? <;>rfl
   ·rw[if_neg hij]
  rw[this];exact h.borns
 ·intro x hx
  obtain⟨i,hi⟩:=List.getElem?_of_mem hx
  rw[Array.getElem?_toList,Array.getElem?_modify]at hi
  by_cases hij:j=i
  ·subst hij
   rw[if_pos rfl]at hi
   have hj':es[j]? =some e:=by simpa using hj
   rw[hj']at hi
   simp at hi
   subst hi
   exact h.old e (List.mem_of_getElem? hj)
  ·rw[if_neg hij]at hi
   exact h.old x (by rw[Array.mem_toList_iff];exact Array.mem_of_getElem? hi)
end
section
variable {P:Program} {Q:Exit→Act→World→Prop} {cx:Cx} {L:List (Nat×Value)} {G:Gh} {H:List Own} {K:List (Nat×Value)→Gh→List Own→Prop}
 {d:Option Tmp} {ty:TypeId} {pos:String} {af:Array Edge} {gu:Option (Nat×Bool)}
 {κ:Type} [DecidableEq κ] {emb:κ→Value} {t kt et:TypeId} [he:KeyK P kt emb]
theorem run_mapSetK {w:World} {b:Nat} {es:Array MapEntry} {clock:Nat} {l:List (κ×Value)} (hu:P.underlying t=some (.map kt et)) (hb:w.heap[b]? =some (.map es clock)) (hr:MK emb es clock l) (key:κ) (v:Value):
  ∃es' clock',MK emb es' clock' (setA l key v)∧(Instr.mapUpdate t (.map (some b)) (emb key) v).run P w= .ok () { w with heap:=w.heap.setIfInBounds b (.map es' clock') } :=by
 rcases he.find key es.toList w hr.isKey with⟨h2,h1⟩ | ⟨j,e,h2,h3,h1⟩
 ·exact⟨_,_,hr.setNew (v:=v) (hr.absent h2),by simp[Instr.mapUpdate,run_underlying hu,Go.MapKept.run_getObj_map hb,he.check,h1,run_setObj_map _ hb,Result.andThen]⟩
 ·have hj:es[j]? =some e:=by simpa using h2
  have hs:(Instr.keyThatStays (emb key) (emb key)).run P w= .ok (emb key) w:=by simp[Instr.keyThatStays,he.stay key]
  exact⟨_,_,MK.setOld (v:=v) he.inj hr h2 h3,by simp[Instr.mapUpdate,run_underlying hu,Go.MapKept.run_getObj_map hb,he.check,h1,hj,h3,hs,run_setObj_map _ hb,Result.andThen]⟩
theorem OW.mapSetK {m x y:Operand} {b j:Nat} {key:κ} {v:Value} {es:Array MapEntry} {clock:Nat} {l:List (κ×Value)} (hm:ev L m=some (.map (some b))) (hx:ev L x=some (emb key)) (hy:ev L y=some v) [hu:Und P t (.map kt et)]
  (hj:At H j (.blk b (.map es clock))) (hr:MK emb es clock l) (hd:dOk d cx.N=true) (k:∀es' clock',MK emb es' clock' (setA l key v)→K (putL d undef L) G (H.set j (.blk b (.map es' clock')))):
  OW P Q ⟨d, .mapUpdate t m x y,ty,pos,af,gu⟩ cx L G H K:=
 OW.gives hd fun a w st=>by
  obtain⟨es',clock',h1,h2⟩:=run_mapSetK (v:=v) hu.h (st.sat.hold _ (List.mem_of_getElem? hj.get)) hr key
  have hs:=st.swapObj (o':= .map es' clock') hj rfl rfl
  exact⟨undef,_,G,_, .inr ⟨rfl,by simp[execOp,st.eval hm,st.eval hx,st.eval hy,h2]⟩,hs.1,hs.2,k _ _ h1⟩
theorem Gv.lookupK {m x:Operand} {b j n by_:Nat} {z:Value} {key:κ} {v:Value} {es:Array MapEntry} {clock:Nat} {l:List (κ×Value)} (hm:ev L m=some (.map (some b))) (hx:ev L x=some (emb key)) [hu:Und P t (.map kt et)] [hi:Inf P et n by_ z]
  (hj:At H j (.blk b (.map es clock))) (hr:MK emb es clock l) (hv:(getA l key).getD z=v):Gv P L G H ⟨d, .lookup t m x false,ty,pos,af,gu⟩ v:=fun a w sk s=>by
 have hb:w.heap[b]? =some (.map es clock):=s.hold _ (List.mem_of_getElem? hj.get)
 subst hv
 rcases he.find key es.toList w hr.isKey with⟨h2,h1⟩ | ⟨i,e,h2,h3,h1⟩
 ·rw[getA_absent (hr.absent h2)]
  simp[execOp,sk.eval hm,sk.eval hx,Instr.lookup,run_underlying hu.h,Go.MapKept.run_getObj_map hb,he.check,h1,Result.andThen,hi.zeroValue]
 ·obtain⟨p,hp,hp1,hp2⟩:=hr.at h2
  have hpk:p.1=key:=he.inj (hp1.symm.trans h3)
  have hg:=getA_at hr.keys hp
  rw[hpk]at hg
  rw[hg]
  simp[execOp,sk.eval hm,sk.eval hx,Instr.lookup,run_underlying hu.h,Go.MapKept.run_getObj_map hb,he.check,h1,Result.andThen,hp2]
end
theorem KeyK.ofEqual {P:Program} {kt:TypeId} {κ:Type} [DecidableEq κ] {emb:κ→Value} {ds:TypeDesc} (hu:P.underlying kt=some ds) (hn:∀a b:κ,Instr.sameNow ds (emb a) (emb b)=none) (inj:∀ {a b:κ},emb a=emb b→a=b)
  (check:∀(a:κ) (e:Bool) (w:World),(Instr.checkKey e 10000 kt (emb a)).run P w= .ok () w) (stay:∀a:κ,Instr.sameBits 10000 (emb a) (emb a)=true) (eq:∀(a b:κ) (w:World),(Op.equal kt (emb a) (emb b)).run P w= .ok (decide (a=b)) w):KeyK P kt emb where
 inj:=inj
 check:=check
 stay:=stay
 find k l w hl:=by
  have ask:∀(l:List MapEntry) (i:Nat),(∀x∈l,∃a:κ,x.key=emb a)→
    ((∀x∈l,x.key≠emb k)∧(Instr.findAsking kt (emb k) l i).run P w= .ok none w)∨∃j e,l[j]? =some e∧e.key=emb k∧(Instr.findAsking kt (emb k) l i).run P w= .ok (some (i+j,e.val)) w:=by
   intro l
   induction l with
   | nil=>intro i _;exact .inl ⟨by simp,by simp[Instr.findAsking]⟩
   | cons x r ih=>
    intro i hx
    obtain⟨a,ha⟩:=hx x (List.mem_cons_self ..)
    by_cases hka:k=a
    ·subst hka
     exact .inr ⟨0,x,rfl,ha,by simp[Instr.findAsking,ha,eq]⟩
    ·have hne:x.key≠emb k:=fun e=>hka (inj (e.symm.trans ha))
     rcases ih (i+1) (fun y hy=>hx y (List.mem_cons_of_mem _ hy))with⟨h1,h2⟩ | ⟨j,e,h1,h2,h3⟩
     ·refine .inl ⟨fun y hy=>?_,by simp[Instr.findAsking,ha,eq,hka,h2]⟩
      rcases List.mem_cons.1 hy with rfl | hy
      ·exact hne
      ·exact h1 y hy
     ·exact .inr ⟨j+1,e,by simpa using h1,h2,by simp[Instr.findAsking,ha,eq,hka,h3];omega⟩
  cases l with
  | nil=>exact .inl ⟨by simp,by simp[Instr.findKey,run_underlying hu,Instr.findNow]⟩
  | cons x r=>
   obtain⟨a,ha⟩:=hl x (List.mem_cons_self ..)
   have hnow:Instr.findNow ds (emb k) (x::r) 0=none:=by simp[Instr.findNow,ha,hn]
   rcases ask (x::r) 0 hl with⟨h1,h2⟩ | ⟨j,e,h1,h2,h3⟩
   ·exact .inl ⟨h1,by simp[Instr.findKey,run_underlying hu,hnow,h2]⟩
   ·rw[Nat.zero_add]at h3
    exact .inr ⟨j,e,h1,h2,by simp[Instr.findKey,run_underlying hu,hnow,h3]⟩
def StampK {κ:Type} (emb:κ→Value) (es:Array MapEntry) (n:Nat) (key:κ):Prop:=∃(j:Nat) (e:MapEntry),es.toList[j]? =some e∧e.key=emb key∧e.born=n
theorem modify_alike {es:Array MapEntry} {j:Nat} {e:MapEntry} (hj:es[j]? =some e) {f g:MapEntry→MapEntry} (h:f e=g e):es.modify j f=es.modify j g:=by
 apply Array.ext_getElem?
 intro i
 rw[Array.getElem?_modify,Array.getElem?_modify]
 by_cases e2:j=i
 ·subst e2;rw[if_pos rfl,if_pos rfl,hj];simp[h]
 ·rw[if_neg e2,if_neg e2]
section
variable {P:Program} {Q:Exit→Act→World→Prop} {cx:Cx} {L:List (Nat×Value)} {G:Gh} {H:List Own} {K:List (Nat×Value)→Gh→List Own→Prop}
 {d:Option Tmp} {ty:TypeId} {pos:String} {af:Array Edge} {gu:Option (Nat×Bool)}
 {κ:Type} [DecidableEq κ] {emb:κ→Value} {t kt et:TypeId} [he:KeyK P kt emb]
theorem run_mapEntryK {w:World} {b n0 by_:Nat} {z:Value} {es:Array MapEntry} {clock:Nat} {l:List (κ×Value)} (hu:P.underlying t=some (.map kt et)) [hi:Inf P et n0 by_ z] (hb:w.heap[b]? =some (.map es clock)) (hr:MK emb es clock l) (key:κ):
  ∃es' clock' n,MK emb es' clock' (setA l key ((getA l key).getD z))∧StampK emb es' n key∧(Instr.mapEntry t (.map (some b)) (emb key)).run P w= .ok (.tuple #[(getA l key).getD z, .int .i64 (n:Int)]) { w with heap:=w.heap.setIfInBounds b (.map es' clock') } :=by
 rcases he.find key es.toList w hr.isKey with⟨h2,h1⟩ | ⟨j,e,h2,h3,h1⟩
 ·rw[getA_absent (hr.absent h2)]
  refine⟨_,_,clock,hr.setNew (v:=z) (hr.absent h2),⟨es.size,_,by simp;rfl,rfl,rfl⟩,by simp[Instr.mapEntry,run_underlying hu,Go.MapKept.run_getObj_map hb,he.check,h1,run_setObj_map _ hb,Result.andThen,hi.zeroValue,goInt]⟩
 ·have hj:es[j]? =some e:=by simpa using h2
  have hs:(Instr.keyThatStays (emb key) (emb key)).run P w= .ok (emb key) w:=by simp[Instr.keyThatStays,he.stay key]
  obtain⟨p,hp,hp1,hp2⟩:=hr.at h2
  have hpk:p.1=key:=he.inj (hp1.symm.trans h3)
  have hg:=getA_at hr.keys hp
  rw[hpk]at hg
  rw[hg]
  have hm:es.modify j (fun e=> { e with key:=emb key })=es.modify j (fun e=> { e with key:=emb key,val:=p.2 }):=modify_alike hj (by rw[←hp2])
  refine⟨es.modify j (fun e=> { e with key:=emb key,val:=p.2 }),clock,e.born,MK.setOld (v:=p.2) he.inj hr h2 h3,⟨j, { e with key:=emb key,val:=p.2 },by rw[Array.getElem?_toList,Array.getElem?_modify,if_pos rfl,hj];rfl,rfl,rfl⟩,?_⟩
  rw[←hm]
  simp[Instr.mapEntry,run_underlying hu,Go.MapKept.run_getObj_map hb,he.check,h1,hj,h3,hs,run_setObj_map _ hb,Result.andThen,goInt,hp2]
theorem OW.mapEntryK {m x:Operand} {b j n0 by_:Nat} {z:Value} {key:κ} {es:Array MapEntry} {clock:Nat} {l:List (κ×Value)} (hm:ev L m=some (.map (some b))) (hx:ev L x=some (emb key)) [hu:Und P t (.map kt et)] [hi:Inf P et n0 by_ z]
  (hj:At H j (.blk b (.map es clock))) (hr:MK emb es clock l) {v:Value} (hv:(getA l key).getD z=v) (hd:dOk d cx.N=true)
  (k:∀es' clock' n,MK emb es' clock' (setA l key v)→StampK emb es' n key→K (putL d (.tuple #[v, .int .i64 (n:Int)]) L) G (H.set j (.blk b (.map es' clock')))):
  OW P Q ⟨d, .mapEntry t m x,ty,pos,af,gu⟩ cx L G H K:=
 OW.gives hd fun a w st=>by
  obtain⟨es',clock',n,h1,h2,h3⟩:=run_mapEntryK hu.h (st.sat.hold _ (List.mem_of_getElem? hj.get)) hr key
  have hs:=st.swapObj (o':= .map es' clock') hj rfl rfl
  subst hv
  exact⟨_,_,G,_, .inl (by simp[execOp,st.eval hm,st.eval hx,h3]),hs.1,hs.2,k _ _ _ h1 h2⟩
theorem run_entryStoreK {w:World} {b n:Nat} {es:Array MapEntry} {clock:Nat} {l:List (κ×Value)} (hinj:∀ {a b:κ},emb a=emb b→a=b) (hb:w.heap[b]? =some (.map es clock)) (hr:MK emb es clock l) {key:κ} (hst:StampK emb es n key) (v:Value):
  ∃es',MK emb es' clock (setA l key v)∧(Instr.entryStore t (.map (some b)) (.int .i64 (n:Int)) v).run P w= .ok () { w with heap:=w.heap.setIfInBounds b (.map es' clock) } :=by
 obtain⟨j,e,h1,h2,h3⟩:=hst
 have hj:es[j]? =some e:=by simpa using h1
 have hm:es.modify j (fun e=> { e with val:=v })=es.modify j (fun e=> { e with key:=emb key,val:=v }):=modify_alike hj (by rw[←h2])
 have hf:es.findIdx? (fun e=>((e.born:Nat):Int)==(n:Int))=some j:=by
  have hjl:j<es.size:=(Array.getElem?_eq_some_iff.1 hj).1
  have hej:es[j]=e:=(Array.getElem?_eq_some_iff.1 hj).2
  rw[Array.findIdx?_eq_some_iff_getElem]
  refine⟨hjl,by rw[hej,h3];simp,fun i hi=>?_⟩
  simp only[beq_iff_eq]
  intro hb2
  have hbi:es[i].born=n:=by omega
  have e1:(es.toList.map (·.born))[i]? =some n:=by rw[List.getElem?_map,Array.getElem?_toList,Array.getElem?_eq_getElem (by omega)];simp[hbi]
  have e2:(es.toList.map (·.born))[j]? =some n:=by rw[List.getElem?_map,h1];simp[h3]
  have:=(List.getElem?_inj (List.getElem?_eq_some_iff.1 e1).1 hr.borns).1 (e1.trans e2.symm)
  omega
 refine⟨_,MK.setOld (v:=v) hinj hr h1 h2,?_⟩
 rw[←hm]
 simp[Instr.entryStore,Go.MapKept.run_getObj_map hb,asInt,asIntOf,hf,run_setObj_map _ hb,Result.andThen]
theorem OW.entryStoreK {m x y:Operand} {b j n:Nat} {key:κ} {v:Value} {es:Array MapEntry} {clock:Nat} {l:List (κ×Value)} (hm:ev L m=some (.map (some b))) (hx:ev L x=some (.int .i64 (n:Int))) (hy:ev L y=some v)
  (hj:At H j (.blk b (.map es clock))) (hr:MK emb es clock l) (hst:StampK emb es n key) (he:KeyK P kt emb) (hd:dOk d cx.N=true) (k:∀es',MK emb es' clock (setA l key v)→K (putL d undef L) G (H.set j (.blk b (.map es' clock)))):
  OW P Q ⟨d, .entryStore t m x y,ty,pos,af,gu⟩ cx L G H K:=
 OW.gives hd fun a w st=>by
  obtain⟨es',h1,h2⟩:=run_entryStoreK (P:=P) (t:=t) he.inj (st.sat.hold _ (List.mem_of_getElem? hj.get)) hr hst v
  have hs:=st.swapObj (o':= .map es' clock) hj rfl rfl
  exact⟨undef,_,G,_, .inr ⟨rfl,by simp[execOp,st.eval hm,st.eval hx,st.eval hy,h2]⟩,hs.1,hs.2,k _ h1⟩
end
end
theorem bb_iff {a b:ByteArray} :(a==b)=true↔a=b:=Go.MapKept.bytes_beq a b
theorem bb_false {a b:ByteArray} (h:a≠b):(a==b)=false:=by
 cases e:(a==b)with
 | false=>rfl
 | true=>exact absurd (bb_iff.1 e) h
theorem bb_refl (a:ByteArray):(a==a)=true:=bb_iff.2 rfl
instance:LawfulBEq ByteArray where
 eq_of_beq h:=bb_iff.1 h
 rfl:=bb_refl _
def pairsO (o:Ob) (ps:List Pr):List (Ky×Pr):=(ps.filter (·.exp)).map fun p=>((o.path,p.name),p)
def pairsL:List ByteArray→List Ob→List (Ky×Pr)
 | _,[]=>[]
 | seen,o::r=>(if o.path∈seen then []else pairsO o o.procs)++pairsL (seen++[o.path]) r
def expOf (ps:List (Ky×Pr)) (k:Ky):List Pr:=(ps.filter (fun q=>decide (q.1=k))).map (·.2)
theorem expOf_nil (k:Ky):expOf [] k=[]:=rfl
theorem expOf_append (a b:List (Ky×Pr)) (k:Ky):expOf (a++b) k=expOf a k++expOf b k:=by simp[expOf]
theorem expOf_one (k':Ky) (p:Pr) (k:Ky):expOf [(k',p)] k=if k'=k then [p]else []:=by
 unfold expOf
 by_cases h:k'=k<;>simp[h]
theorem expOf_pairsO (o:Ob) (ps:List Pr) (k:Ky):expOf (pairsO o ps) k=if o.path=k.1 then ps.filter (fun p=>p.exp&&p.name==k.2)else []:=by
 induction ps with
 | nil=>simp[expOf,pairsO]
 | cons p r ih=>
  have h1:pairsO o (p::r)=(if p.exp=true then [((o.path,p.name),p)]else [])++pairsO o r:=by
   unfold pairsO
   cases hx:p.exp<;>simp[List.filter_cons,hx]
  rw[h1,expOf_append,ih]
  by_cases hp:p.exp=true
  ·rw[if_pos hp,expOf_one]
   by_cases hk:o.path=k.1
   ·by_cases hn:p.name=k.2
    ·rw[if_pos (by rw[hk,hn]),if_pos hk,List.filter_cons_of_pos (by simp[hp,hn,bb_refl])];rw[if_pos hk];rfl
    ·rw[if_neg (fun e=>hn (congrArg Prod.snd e)),if_pos hk,if_pos hk,List.filter_cons_of_neg (by simp[bb_false hn])];rfl
   ·rw[if_neg (fun e=>hk (congrArg Prod.fst e)),if_neg hk,if_neg hk];rfl
  ·rw[if_neg hp,expOf_nil,List.nil_append]
   by_cases hk:o.path=k.1
   ·rw[if_pos hk,if_pos hk,List.filter_cons_of_neg (by simp[hp])]
   ·rw[if_neg hk,if_neg hk]
theorem expOf_pairsL:∀(l:List Ob) (seen:List ByteArray) (k:Ky),expOf (pairsL seen l) k=if k.1∈seen then []else expL l k
 | [],seen,k=>by simp[pairsL,expOf,expL]
 | o::r,seen,k=>by
  have ih:=expOf_pairsL r (seen++[o.path]) k
  have hX:expOf (if o.path∈seen then []else pairsO o o.procs) k=if o.path∈seen then []else if o.path=k.1 then o.procs.filter (fun p=>p.exp&&p.name==k.2)else []:=by
   by_cases h:o.path∈seen
   ·rw[if_pos h,if_pos h];rfl
   ·rw[if_neg h,if_neg h,expOf_pairsO]
  have hY:(if k.1∈seen++[o.path]then []else expL r k)=if k.1∈seen then []else if o.path=k.1 then []else expL r k:=by
   by_cases h:k.1∈seen
   ·rw[if_pos (List.mem_append_left _ h),if_pos h]
   ·rw[if_neg h]
    by_cases e:o.path=k.1
    ·rw[if_pos (by simp[e]),if_pos e]
    ·rw[if_neg (by simp[h,Ne.symm e]),if_neg e]
  have hE:expL (o::r) k=if o.path=k.1 then o.procs.filter (fun p=>p.exp&&p.name==k.2)else expL r k:=by
   unfold expL
   by_cases e:o.path=k.1
   ·rw[if_pos e,List.find?_cons_of_pos (by rw[e];exact bb_refl _)]
   ·rw[if_neg e,List.find?_cons_of_neg (by simp[bb_false e])]
  rw[pairsL,expOf_append,ih,hX,hY,hE]
  by_cases hs:k.1∈seen
  ·rw[if_pos hs,if_pos hs,List.append_nil]
   by_cases ho:o.path∈seen
   ·rw[if_pos ho]
   ·rw[if_neg ho,if_neg (fun e:o.path=k.1=>ho (by rw[e];exact hs))]
  ·rw[if_neg hs,if_neg hs]
   by_cases e:o.path=k.1
   ·rw[if_neg (by rw[e];exact hs),if_pos e,if_pos e,if_pos e,List.append_nil]
   ·rw[if_neg e,if_neg e,if_neg e]
    by_cases ho:o.path∈seen
    ·rw[if_pos ho];rfl
    ·rw[if_neg ho];rfl
theorem expOf_all (l:List Ob) (k:Ky):expOf (pairsL [] l) k=expL l k:=by rw[expOf_pairsL,if_neg (by simp)]
theorem pairsL_snoc:∀(l:List Ob) (seen:List ByteArray) (o:Ob),pairsL seen (l++[o])=pairsL seen l++(if o.path∈seen++l.map (·.path)then []else pairsO o o.procs)
 | [],seen,o=>by simp[pairsL]
 | a::r,seen,o=>by
  rw[List.cons_append,pairsL,pairsL,pairsL_snoc r,List.map_cons,List.append_assoc,List.append_assoc]
  rfl
def lookC (c:List (Ky×List Pr)) (k:Ky):List Pr:=match c.find? (fun q=>decide (q.1=k))with | some q=>q.2 | none=>[]
def addC (c:List (Ky×List Pr)) (k:Ky) (p:Pr):List (Ky×List Pr):=if k∈c.map (·.1)then c.map (fun q=>if q.1=k then(k,q.2++[p])else q)else c++[(k,[p])]
theorem lookC_at {c:List (Ky×List Pr)} {j:Nat} {q:Ky×List Pr} (hn:(c.map (·.1)).Nodup) (hj:c[j]? =some q):lookC c q.1=q.2:=by
 unfold lookC
 induction c generalizing j with
 | nil=>simp at hj
 | cons a c ih=>
  cases j with
  | zero=>simp at hj;subst hj;simp
  | succ j=>
   simp only[List.getElem?_cons_succ]at hj
   simp only[List.map_cons,List.nodup_cons]at hn
   have hne:a.1≠q.1:=fun e=>hn.1 (e▸List.mem_map_of_mem (List.mem_of_getElem? hj))
   rw[List.find?_cons_of_neg (by simpa using hne)]
   exact ih hn.2 hj
inductive Fam (G:Gh) (T:Nat):List (Ky×Value)→List (Ky×List Pr)→List Own→Prop where
 | nil:Fam G T [] [] []
 | cons {k:Ky} {A:Option Addr} {cap:Nat} {l:List Pr} {x:Own} {m:List (Ky×Value)} {c:List (Ky×List Pr)} {xs:List Own} (h:KVec Kd.prc T G A cap l x) (t:Fam G T m c xs):Fam G T ((k, .slice A l.length cap)::m) ((k,l)::c) (x::xs)
theorem Fam.keys {G:Gh} {T:Nat} {m:List (Ky×Value)} {c:List (Ky×List Pr)} {xs:List Own} (h:Fam G T m c xs):m.map (·.1)=c.map (·.1):=by
 induction h with
 | nil=>rfl
 | cons h t ih=>simp[ih]
theorem Fam.mono {G G':Gh} {T:Nat} {m:List (Ky×Value)} {c:List (Ky×List Pr)} {xs:List Own} (h:Fam G T m c xs) (hg:G.le G'):Fam G' T m c xs:=by
 induction h with
 | nil=>exact .nil
 | cons h t ih=>exact .cons (h.mono hg) ih
theorem Fam.snoc {G:Gh} {T:Nat} {m:List (Ky×Value)} {c:List (Ky×List Pr)} {xs:List Own} (h:Fam G T m c xs) {k:Ky} {A:Option Addr} {cap:Nat} {l:List Pr} {x:Own} (hx:KVec Kd.prc T G A cap l x):
  Fam G T (m++[(k, .slice A l.length cap)]) (c++[(k,l)]) (xs++[x]):=by
 induction h with
 | nil=>exact .cons hx .nil
 | cons h t ih=>exact .cons h ih
theorem Fam.find {G:Gh} {T:Nat} {m:List (Ky×Value)} {c:List (Ky×List Pr)} {xs:List Own} (h:Fam G T m c xs) {k:Ky} (hk:k∈m.map (·.1)):
  ∃(j:Nat) (A:Option Addr) (cap:Nat) (l:List Pr) (x:Own),m[j]? =some (k, .slice A l.length cap)∧c[j]? =some (k,l)∧xs[j]? =some x∧KVec Kd.prc T G A cap l x:=by
 induction h with
 | nil=>cases hk
 | @cons k' A cap l x m c xs hv t ih=>
  simp only[List.map_cons,List.mem_cons]at hk
  by_cases e:k=k'
  ·subst e;exact⟨0,A,cap,l,x,rfl,rfl,rfl,hv⟩
  ·obtain⟨j,h⟩:=ih (hk.resolve_left e)
   exact⟨j+1,h⟩
theorem Fam.set {G:Gh} {T:Nat} {m:List (Ky×Value)} {c:List (Ky×List Pr)} {xs:List Own} (h:Fam G T m c xs) (hn:(m.map (·.1)).Nodup) {k:Ky} {j:Nat} {v:Value} (hj:m[j]? =some (k,v)) {A:Option Addr} {cap:Nat} {l:List Pr} {x:Own} (hx:KVec Kd.prc T G A cap l x):
  Fam G T (m.map fun p=>if p.1=k then(k, .slice A l.length cap)else p) (c.map fun q=>if q.1=k then(k,l)else q) (xs.set j x):=by
 induction h generalizing j with
 | nil=>simp at hj
 | @cons k' A' cap' l' x' m c xs hv t ih=>
  simp only[List.map_cons,List.nodup_cons]at hn
  cases j with
  | zero=>
   simp only[List.getElem?_cons_zero,Option.some.injEq,Prod.mk.injEq]at hj
   obtain⟨rfl,_⟩:=hj
   have e1:m.map (fun p=>if p.1=k' then(k',Value.slice A l.length cap)else p)=m:=by
    conv=>rhs;rw[←List.map_id m]
    exact List.map_congr_left fun p hp=>if_neg fun e=>hn.1 (List.mem_map.2 ⟨p,hp,e⟩)
   have e2:c.map (fun q=>if q.1=k' then(k',l)else q)=c:=by
    conv=>rhs;rw[←List.map_id c]
    exact List.map_congr_left fun p hp=>if_neg fun e=>hn.1 (by rw[t.keys];exact List.mem_map.2 ⟨p,hp,e⟩)
   simp only[List.map_cons,if_true,e1,e2,List.set_cons_zero]
   exact .cons hx t
  | succ j=>
   simp only[List.getElem?_cons_succ]at hj
   have hne:k'≠k:=fun e=>hn.1 (List.mem_map.2 ⟨_,List.mem_of_getElem? hj,e.symm⟩)
   simp only[List.map_cons,if_neg hne,List.set_cons_succ]
   exact .cons hv (ih hn.2 hj)
section
theorem lookC_addC (c:List (Ky×List Pr)) (k:Ky) (p:Pr) (k':Ky):lookC (addC c k p) k'=if k'=k then lookC c k++[p]else lookC c k':=by
 unfold addC
 by_cases hk:k∈c.map (·.1)
 ·rw [if_pos hk]
  have hf:∀x:Ky,(c.map fun q=>if q.1=k then(k,q.2++[p])else q).find? (fun q=>decide (q.1=x))=(c.find? (fun q=>decide (q.1=x))).map fun q=>if q.1=k then(k,q.2++[p])else q:=by
   intro x
   rw[List.find?_map]
   congr 2
   funext q
   simp only[Function.comp]
   by_cases e:q.1=k<;>simp[e]
  unfold lookC
  rw[hf]
  by_cases e:k'=k
  ·subst e
   rw[if_pos rfl]
   cases hx:c.find? (fun q=>decide (q.1=k'))with
   | none=>
    rw[List.find?_eq_none]at hx
    obtain⟨q,hq,e⟩:=List.mem_map.1 hk
    exact absurd (decide_eq_true e) (hx q hq)
   | some q=>
    have:=of_decide_eq_true (List.find?_some (p:=fun q:Ky×List Pr=>decide (q.1=k')) hx)
    simp[this]
  ·rw[if_neg e]
   cases hx:c.find? (fun q=>decide (q.1=k'))with
   | none=>rfl
   | some q=>
    have:=of_decide_eq_true (List.find?_some (p:=fun q:Ky×List Pr=>decide (q.1=k')) hx)
    have h2:q.1≠k:=fun h=>e (this.symm.trans h)
    simp[h2]
 ·rw [if_neg hk]
  unfold lookC
  rw[List.find?_append]
  by_cases e:k'=k
  ·subst e
   have hn:c.find? (fun q=>decide (q.1=k'))=none:=by
    rw[List.find?_eq_none]
    intro q hq h
    exact hk (List.mem_map.2 ⟨q,hq,of_decide_eq_true h⟩)
   rw[if_pos rfl,hn]
   simp
  ·rw[if_neg e]
   have:([(k,[p])]:List (Ky×List Pr)).find? (fun q=>decide (q.1=k'))=none:=by simp[Ne.symm e]
   rw[this,Option.or_none]
theorem setA_twice {m:List (Ky×Value)} {k:Ky} (h:k∈m.map (·.1)) (v v':Value):setA (setA m k v) k v'=m.map fun p=>if p.1=k then(k,v')else p:=by
 have h1:setA m k v=m.map fun p=>if p.1=k then(k,v)else p:=by unfold setA;rw[if_pos h]
 have h2:k∈(setA m k v).map (·.1):=by rw[h1,keys_set];exact h
 rw[setA,if_pos h2,h1,List.map_map]
 apply List.map_congr_left
 intro p _
 simp only[Function.comp]
 by_cases e:p.1=k<;>simp[e]
theorem setA_fresh {m:List (Ky×Value)} {k:Ky} (h:k∉m.map (·.1)) (v v':Value):setA (setA m k v) k v'=m++[(k,v')]:=by
 have h1:setA m k v=m++[(k,v)]:=by unfold setA;rw[if_neg h]
 have h2:k∈(setA m k v).map (·.1):=by rw[h1];simp
 rw[setA,if_pos h2,h1,List.map_append]
 congr 1
 ·conv=>rhs;rw[←List.map_id m]
  exact List.map_congr_left fun p hp=>if_neg fun e=>h (List.mem_map.2 ⟨p,hp,e⟩)
 ·simp
theorem Fam.old {G:Gh} {T:Nat} {m:List (Ky×Value)} {c:List (Ky×List Pr)} {xs:List Own} (h:Fam G T m c xs) (hn:(m.map (·.1)).Nodup) {k:Ky} (hk:k∈m.map (·.1)) (p:Pr):
  ∃(j:Nat) (A:Option Addr) (cap:Nat) (l:List Pr) (x:Own),getA m k=some (.slice A l.length cap)∧xs[j]? =some x∧KVec Kd.prc T G A cap l x∧lookC c k=l∧
   ∀v A' cap' x',KVec Kd.prc T G A' cap' (l++[p]) x'→Fam G T (setA (setA m k v) k (.slice A' (l++[p]).length cap')) (addC c k p) (xs.set j x'):=by
 obtain⟨j,A,cap,l,x,h1,h2,h3,h4⟩:=h.find hk
 have hcn:(c.map (·.1)).Nodup:=by rw[←h.keys];exact hn
 refine⟨j,A,cap,l,x,getA_at hn h1,h3,h4,lookC_at hcn h2,fun v A' cap' x' hx=>?_⟩
 have hadd:addC c k p=c.map fun q=>if q.1=k then(k,l++[p])else q:=by
  unfold addC
  rw[if_pos (by rw[←h.keys];exact hk)]
  apply List.map_congr_left
  intro q hq
  by_cases e:q.1=k
  ·obtain⟨i,hi⟩:=List.mem_iff_getElem?.1 hq
   have e1:(c.map (·.1))[i]? =some k:=by rw[List.getElem?_map,hi];simp[e]
   have e2:(c.map (·.1))[j]? =some k:=by rw[List.getElem?_map,h2];rfl
   have:=(List.getElem?_inj (List.getElem?_eq_some_iff.1 e1).1 hcn).1 (e1.trans e2.symm)
   subst this
   have:=Option.some.inj (hi.symm.trans h2)
   subst this
   simp
  ·simp[e]
 rw[setA_twice hk,hadd]
 exact h.set hn h1 hx
theorem Fam.new {G:Gh} {T:Nat} {m:List (Ky×Value)} {c:List (Ky×List Pr)} {xs:List Own} (h:Fam G T m c xs) {k:Ky} (hk:k∉m.map (·.1)) (p:Pr) (v:Value) {A':Option Addr} {cap':Nat} {x':Own} (hx:KVec Kd.prc T G A' cap' [p] x'):
  Fam G T (setA (setA m k v) k (.slice A' [p].length cap')) (addC c k p) (xs++[x']):=by
 rw[setA_fresh hk]
 unfold addC
 rw[if_neg (by rw[←h.keys];exact hk)]
 exact h.snoc hx
def ExpM (G:Gh) (l:List Ob) (m:List (Ky×Value)):Prop:=∀k,∃A cap,(getA m k).getD (.slice none 0 0)= .slice A (expL l k).length cap∧Sl Kd.prc G A (expL l k)
theorem At.ofGet {l:List Own} {j:Nat} {x:Own} (h:l[j]? =some x):At l j x:=by
 induction l generalizing j with
 | nil=>simp at h
 | cons a l ih=>
  cases j with
  | zero=>simp at h;subst h;exact .here
  | succ j=>exact .there (ih (by simpa using h))
section
variable {P:Program} {Q:Exit→Act→World→Prop} {cx:Cx} {L:List (Nat×Value)}
theorem WK.freezeFam {K:Act→World→Prop} {T:Nat} {F:List Own} :∀(xs:List Own) {m:List (Ky×Value)} {c:List (Ky×List Pr)} {G:Gh},Fam G T m c xs→
  (∀G',G.le G'→(∀k,∃A cap,(getA m k).getD (.slice none 0 0)= .slice A (lookC c k).length cap∧Sl Kd.prc G' A (lookC c k))→WK K cx L G' F)→WK K cx L G (xs++F)
 | [],m,c,G,hf,h=>by
  cases hf
  exact h G (Gh.le_refl _) fun k=>⟨none,0,rfl,Sl.nil _ _ _⟩
 | x::xs,m,c,G,hf,h=>by
  cases hf with
  | @cons k0 A cap l _ m c _ hv t=>
   refine WK.freezeK (by decide) hv .here fun G1 hg1 hs=>?_
   refine WK.freezeFam xs (t.mono hg1) fun G2 hg2 hk=>h G2 (Gh.le_trans hg1 hg2) fun k=>?_
   by_cases e:k0=k
   ·subst e
    refine⟨A,cap,?_,?_⟩
    ·simp[getA,lookC]
    ·have:lookC ((k0,l)::c) k0=l:=by simp[lookC]
     rw[this];exact hs.mono hg2
   ·obtain⟨A1,c1,h1,h2⟩:=hk k
    have e1:getA ((k0,Value.slice A l.length cap)::m) k=getA m k:=by simp[getA,e]
    have e2:lookC ((k0,l)::c) k=lookC c k:=by simp[lookC,e]
    rw[e1,e2]
    exact⟨A1,c1,h1,h2⟩
end
end
section
open Go.MapKept
def kyV (k:Ky):Value:= .agg #[.string k.1, .string k.2]
theorem lists_ne {a b:ByteArray} (h:a≠b):(a.toList==b.toList)=false:=by
 cases e:(a.toList==b.toList)with
 | false=>rfl
 | true=>rw[←beq_toListBytes]at e;exact absurd (bb_iff.1 e) h
theorem spot_eq (a b:Ky) (w:World):(Op.equal 140 (kyV a) (kyV b)).run Tryz.prog w= .ok (decide (a=b)) w:=by
 obtain⟨a1,a2⟩:=a
 obtain⟨b1,b2⟩:=b
 have h2:Tryz.prog.underlying 140=some (.struct (Tryz.prog.fieldsOf 140)):=by kernel_rfl
 have h3:Tryz.prog.stoodInHeld 140=false:=by kernel_rfl
 have key:(Op.eqFields 9999 #[.string a1, .string a2] #[.string b1, .string b2] (Tryz.prog.fieldsOf 140).toList).run Tryz.prog w= .ok (decide ((a1,a2)=(b1,b2))) w:=by
  have a0:=fun w=>(inferInstance:Agg Tryz.prog 9 false).h w
  have u0:Tryz.prog.underlying 9=some .string:=Und.h
  simp only[Program.fieldsOf,Tryz.underlying140]
  simp only[Op.eqFields,part,Sem.run_bind,a0,Result.andThen_ok,Sem.run_ite]
  have r:=fun(x y:ByteArray) (w:World)=>run_equalIn_string (P:=Tryz.prog) w 9998 9 x y u0
  by_cases q1:a1=b1<;>by_cases q2:a2=b2
  ·subst q1 q2;simp[r]
  ·subst q1
   have:(a2.toList==b2.toList)=false:=lists_ne q2
   simp[r,this,q2]
  ·subst q2
   have:(a1.toList==b1.toList)=false:=lists_ne q1
   simp[r,this,q1]
  ·have:(a1.toList==b1.toList)=false:=lists_ne q1
   simp[r,this,q1]
 unfold Op.equal
 show(Op.equalIn (9999+1) _ (.agg _) (.agg _)).run _ w=_
 rw[run_equalIn_agg w 9999 _ _ _ h2 h3,key]
theorem str_check (n:Nat) (e:Bool) (x:ByteArray) (w:World):(Instr.checkKey e (n+1) 9 (.string x)).run Tryz.prog w= .ok () w:=by
 have u0:Tryz.prog.underlying 9=some .string:=Und.h
 exact run_checkKey u0 (by exact trivial) e n
theorem spot_check_n (n:Nat) (a:Ky) (e:Bool) (w:World):(Instr.checkKey e (n+1+1) 140 (kyV a)).run Tryz.prog w= .ok () w:=by
 have a0:=fun w=>(inferInstance:Agg Tryz.prog 9 false).h w
 rw[Instr.checkKey.eq_def]
 simp[kyV,run_underlying Tryz.underlying140,part,a0,str_check,Result.andThen]
theorem spot_check (a:Ky) (e:Bool) (w:World):(Instr.checkKey e 10000 140 (kyV a)).run Tryz.prog w= .ok () w:=spot_check_n 9998 a e w
theorem spot_inj {a b:Ky} (h:kyV a=kyV b):a=b:=by
 obtain⟨a1,a2⟩:=a
 obtain⟨b1,b2⟩:=b
 simp[kyV]at h
 rw[h.1,h.2]
theorem spot_stay_n (n:Nat) (a:Ky):Instr.sameBits (n+1+1) (kyV a) (kyV a)=true:=by simp[kyV,Instr.sameBits,bb_refl]
theorem spot_stay (a:Ky):Instr.sameBits 10000 (kyV a) (kyV a)=true:=spot_stay_n 9998 a
instance:KeyK Tryz.prog 140 kyV:=KeyK.ofEqual (ds:= .struct (Tryz.prog.fieldsOf 140)) kr (fun a b=>rfl) spot_inj spot_check spot_stay spot_eq
end
section
open Go.MapKept
attribute [local irreducible] Tryz.prog pairsL expOf
def Kd.ob:Kd Ob where
 n:=4
 K G o cs:=∃CA cc NA nc PA pc,cs=[.string o.path, .slice CA o.consts.length cc, .slice NA o.needs.length nc, .slice PA o.procs.length pc]∧ORep G o CA NA PA
 mono hg h:=let ⟨CA,cc,NA,nc,PA,pc,h1,h2⟩:=h;⟨CA,cc,NA,nc,PA,pc,h1,h2.mono hg⟩
 len h:=by obtain⟨CA,cc,NA,nc,PA,pc,h1,_⟩:=h;rw[h1];rfl
 one h:=by obtain⟨CA,cc,NA,nc,PA,pc,h1,_⟩:=h;rw[h1];rfl
theorem getA_setA_ne {κ:Type} [DecidableEq κ] (m:List (κ×Value)) {k k':κ} (v:Value) (h:k'≠k):getA (setA m k v) k'=getA m k':=by
 unfold setA
 split
 ·unfold getA
  rw[List.find?_map]
  have e:((fun p:κ×Value=>decide (p.1=k'))∘fun p=>if p.1=k then(k,v)else p)=fun p=>decide (p.1=k'):=by
   funext p
   simp only[Function.comp]
   by_cases e:p.1=k<;>simp[e]
  rw[e]
  cases hx:m.find? (fun p=>decide (p.1=k'))with
  | none=>rfl
  | some q=>
   have h1:=of_decide_eq_true (List.find?_some (p:=fun p:κ×Value=>decide (p.1=k')) hx)
   have h2:q.1≠k:=fun e=>h (h1.symm.trans e)
   simp[h2]
 ·unfold getA
  rw[List.find?_append]
  have:([(k,v)]:List (κ×Value)).find? (fun p=>decide (p.1=k'))=none:=by simp[Ne.symm h]
  rw[this,Option.or_none]
theorem pairsO_len (o:Ob) (ps:List Pr):(pairsO o ps).length≤ps.length:=by
 unfold pairsO
 rw[List.length_map]
 exact List.length_filter_le _ _
theorem pairsL_len:∀(l:List Ob) (seen:List ByteArray),(pairsL seen l).length≤(l.map (·.procs.length)).sum
 | [],_=>by rw[pairsL];simp
 | o::r,seen=>by
  rw[pairsL,List.length_append,List.map_cons,List.sum_cons]
  have h1:=pairsL_len r (seen++[o.path])
  have h2:=pairsO_len o o.procs
  split
  ·simp only[List.length_nil];omega
  ·omega
theorem expOf_len (ps:List (Ky×Pr)) (k:Ky):(expOf ps k).length≤ps.length:=by
 unfold expOf
 rw[List.length_map]
 exact List.length_filter_le _ _
theorem pairsO_snoc {o:Ob} {j:Nat} {p:Pr} (hp:o.procs[j]? =some p):pairsO o (o.procs.take (j+1))=pairsO o (o.procs.take j)++(if p.exp=true then [((o.path,p.name),p)]else []):=by
 rw[take_snoc' hp]
 unfold pairsO
 rw[List.filter_append,List.map_append]
 cases h:p.exp<;>simp[List.filter_cons,h]
def cntS (l:List ByteArray) (s:ByteArray):Nat:=(l.filter (· ==s)).length
theorem cntS_snoc (l:List ByteArray) (a s:ByteArray):cntS (l++[a]) s=cntS l s+(if a=s then 1 else 0):=by
 unfold cntS
 rw[List.filter_append,List.length_append]
 by_cases h:a=s
 ·subst h;simp[List.filter_cons,bb_refl]
 ·simp[List.filter_cons,bb_false h,h]
theorem cntS_zero {l:List ByteArray} {s:ByteArray} :cntS l s=0↔s∉l:=by
 unfold cntS
 rw[List.length_eq_zero_iff,List.filter_eq_nil_iff]
 constructor
 ·exact fun h hm=>h s hm (bb_refl s)
 ·intro h a ha e;exact h ((bb_iff.1 e)▸ha)
theorem cntS_le (l:List ByteArray) (s:ByteArray):cntS l s≤l.length:=List.length_filter_le _ _
def CntM (pm:List (ByteArray×Value)) (l:List ByteArray):Prop:=∀s,(getA pm s).getD (.int .i64 0)= .int .i64 (cntS l s:Int)
theorem CntM.nil:CntM [] []:=fun s=>rfl
theorem CntM.snoc {pm:List (ByteArray×Value)} {l:List ByteArray} (h:CntM pm l) (a:ByteArray):CntM (setA pm a (.int .i64 ((cntS l a+1:Nat):Int))) (l++[a]):=fun s=>by
 rw[cntS_snoc]
 by_cases e:a=s
 ·subst e;rw[getA_setA,if_pos rfl];rfl
 ·rw[getA_setA_ne pm _ (Ne.symm e),if_neg e];exact h s
theorem WK.tailFirst {cx:Cx} {L:List (Nat×Value)} {G:Gh} {K:Act→World→Prop} {x y:Own} {xs:List Own} (h:WK K cx L G (xs++[y])):WK K cx L G (x::y::xs):=fun a w st=>
 h a w ((st.weaken (fun _ _ e=>e) (List.sublist_cons_self ..)).perm (List.perm_append_singleton y xs).symm)
theorem sumP_mem {l:List Ob} {o:Ob} (h:o∈l):o.procs.length≤sumP l:=by
 induction l with
 | nil=>cases h
 | cons a r ih=>
  unfold sumP at ih⊢
  rw[List.map_cons,List.sum_cons]
  rcases List.mem_cons.1 h with rfl | h
  ·omega
  ·have:=ih h;omega
theorem sumP_snoc_le {l:List Ob} {i:Nat} {o:Ob} (h:l[i]? =some o):sumP (l.take i)+o.procs.length≤sumP l:=by
 induction l generalizing i with
 | nil=>simp at h
 | cons a r ih=>
  unfold sumP at ih⊢
  cases i with
  | zero=>simp at h;subst h;simp
  | succ i=>rw[List.take_succ_cons,List.map_cons,List.sum_cons,List.map_cons,List.sum_cons];have:=ih (by simpa using h);omega
theorem WK.lastOne {cx:Cx} {L:List (Nat×Value)} {G:Gh} {K:Act→World→Prop} {x a b c:Own} {xs:List Own} (h:WK K cx L G (a::b::c::(xs++[x]))):WK K cx L G (x::a::b::c::xs):=fun a' w st=>
 h a' w (st.perm (List.perm_append_singleton x (a::b::c::xs)).symm)
structure EL where
 i:Nat
 pes:Array MapEntry
 pck:Nat
 pm:List (ByteArray×Value)
 es:Array MapEntry
 ck:Nat
 m:List (Ky×Value)
 c:List (Ky×List Pr)
 xs:List Own
structure EI where
 j:Nat
 es:Array MapEntry
 ck:Nat
 m:List (Ky×Value)
 c:List (Ky×List Pr)
 xs:List Own
set_option maxRecDepth 20000 in
set_option maxHeartbeats 4000000 in
theorem exported_fn (G:Gh) (A:Option Addr) (cap:Nat) (l:List Ob) (hl:Sl Kd.ob G A l) (hlen:l.length≤1048576) (hsum:sumP l≤1048576):
  Fn Tryz.prog 35 #[.slice A l.length cap] G [] fun e G' H'=>∃mb es ck m,e= .returned (.map (some mb))∧G.le G'∧MK kyV es ck m∧ExpM G' l m∧H'=[.blk mb (.map es ck)]:=by
 refine Fn.enter Tryz.func35 rfl rfl fun w0=>?_
 refine gom ?_
 refine WL.oo (OW.makeMap rfl fun b10=>?_)
 refine gom ?_
 refine WL.oo (OW.makeMap rfl fun b11=>?_)
 refine gom ?_
 refine WC.loop (X:=EL) (fun x=>[(3, .map (some b10)),(4, .map (some b11)),(12, .slice A l.length cap),(13, .int .i64 l.length),(14, .int .i64 x.i)]) (fun _=>G) (fun x=> .blk b11 (.map x.pes x.pck):: .blk b10 (.map x.es x.ck)::x.xs) (fun x=>l.length - x.i)
  (fun x=>x.i≤l.length∧MRel Value.string .string x.pes x.pck x.pm∧CntM x.pm ((l.take x.i).map (·.path))∧MK kyV x.es x.ck x.m∧Fam G 47 x.m x.c x.xs∧∀k,lookC x.c k=expOf (pairsL [] (l.take x.i)) k)
  ⟨0, #[],0,[], #[],0,[],[],[]⟩ ⟨Nat.zero_le _,MRel.empty,CntM.nil,MK.empty, .nil,fun k=>by show lookC [] k=expOf (pairsL [] (l.take 0)) k;rw[List.take_zero,pairsL,expOf_nil];rfl⟩ (by exact⟨rfl,rfl,rfl,rfl,rfl,trivial⟩) rfl (List.Sublist.refl _) fun x hx=>?_
 obtain⟨i,pes,pck,pm,es,ck,m,c,xs⟩:=x
 obtain⟨hi,hP,hN,hM,hF,hC⟩:=hx
 dsimp only at hi hP hN hM hF hC
 have x2:=wrapS i (by omega)
 by_cases hlt:i<l.length
 rotate_left
 ·have e2:decide ((i:Int)<(l.length:Int))=false:=decide_eq_false (by omega)
  have hil:i=l.length:=by omega
  subst hil
  rw[List.take_length]at hC
  refine gom ?_
  refine WK.tailFirst ?_
  refine WK.freezeFam xs hF fun G1 hg1 hk=>?_
  refine WC.rt ?_
  exact QF.p1 (.inl rfl) rfl (.tmp rfl) (⟨b10,es,ck,m,rfl,hg1,hM,fun k=>by have:=hk k;rw[hC k,expOf_all]at this;exact this,rfl⟩)
 have e2:decide ((i:Int)<(l.length:Int))=true:=decide_eq_true (by omega)
 obtain⟨o,ho⟩:∃o,l[i]? =some o:=⟨_,List.getElem?_eq_getElem (by omega)⟩
 have x0:(0:Int)≤(i:Int):=by omega
 have x1:(i:Int)<(l.length:Int):=by omega
 obtain⟨ab,ao,cs,rfl,hks,hcs⟩:=hl i o ho
 obtain⟨CA,cc,NA,nc,PA,pc,rfl,hO⟩:=hks
 have htk:l.take (i+1)=l.take i++[o]:=take_snoc' ho
 have hmap:(l.take (i+1)).map (·.path)=(l.take i).map (·.path)++[o.path]:=by rw[htk,List.map_append];rfl
 obtain⟨N,hNe⟩:∃N,N=cntS ((l.take i).map (·.path)) o.path:=⟨_,rfl⟩
 have hNl:N≤1048576:=by have:=cntS_le ((l.take i).map (·.path)) o.path;rw[←hNe]at this;simp at this;omega
 have hNv:=hN o.path
 rw[←hNe]at hNv
 have hw:=wrapS N (by omega)
 have hN1:=hN.snoc o.path
 rw[←hNe,←hmap]at hN1
 refine gom ?_
 refine WL.oo (OW.alloc rfl fun b6=>?_)
 refine gom ?_
 refine WL.vv (Gv.lookup (emb:=Value.string) (z:= .int .i64 0) rfl rfl atA hP hNv) ?_
 refine gom ?_
 refine WL.oo (OW.mapSet (emb:=Value.string) rfl rfl rfl atA hP rfl fun pes1 pck1 hP1=>?_)
 refine gom ?_
 refine WL.vv (Gv.lookup (emb:=Value.string) (z:= .int .i64 0) (v:= .int .i64 ((N+1:Nat):Int)) rfl rfl atA hP1 (by rw[getA_setA];rfl)) ?_
 by_cases hin:o.path∈(l.take i).map (·.path)
 ·have hN0:N≠0:=fun e=>by rw[e]at hNe;exact cntS_zero.1 hNe.symm hin
  have e3:decide ((1:Int)<((N+1:Nat):Int))=true:=decide_eq_true (by omega)
  refine gom ?_
  refine WK.pick (.blk b11 (.map pes1 pck1):: .blk b10 (.map es ck)::xs) ?_
  exact WK.again ⟨i+1,pes1,pck1,_,es,ck,m,c,xs⟩ (by dsimp only;omega) ⟨by show i+1≤_;omega,hP1,hN1,hM,hF,fun k=>by dsimp only;rw[hC k,htk,pairsL_snoc,if_pos (by simpa using hin),List.append_nil]⟩ (by exact⟨rfl,rfl,rfl,rfl,rfl,trivial⟩) rfl (List.Sublist.refl _)
 have hN0:N=0:=by rw[hNe];exact cntS_zero.2 hin
 have e3:decide ((1:Int)<((N+1:Nat):Int))=false:=decide_eq_false (by omega)
 have hpl:o.procs.length≤1048576:=by
  have h1:=sumP_mem (List.mem_of_getElem? ho)
  omega
 have hprev:(pairsL [] (l.take i)).length+o.procs.length≤1048576:=by
  have h1:=pairsL_len (l.take i) []
  have h2:=sumP_snoc_le ho
  unfold sumP at h2 hsum
  omega
 refine gom ?_
 refine WC.pick (.blk b6 (.cells #[.string o.path, .slice CA o.consts.length cc, .slice NA o.needs.length nc, .slice PA o.procs.length pc] 38 (0,0)):: .blk b11 (.map pes1 pck1):: .blk b10 (.map es ck)::xs) ?_
 refine WC.loop (X:=EI) (fun x=>[(3, .map (some b10)),(4, .map (some b11)),(6, .pointer (some ⟨b6,0,none⟩)),(12, .slice (some ⟨ab,ao,none⟩) l.length cap),(13, .int .i64 l.length),(14, .int .i64 i),(29, .slice PA o.procs.length pc),(30, .int .i64 o.procs.length),(31, .int .i64 x.j)]) (fun _=>G)
  (fun x=> .blk b6 (.cells #[.string o.path, .slice CA o.consts.length cc, .slice NA o.needs.length nc, .slice PA o.procs.length pc] 38 (0,0)):: .blk b11 (.map pes1 pck1):: .blk b10 (.map x.es x.ck)::x.xs) (fun x=>o.procs.length - x.j)
  (fun x=>x.j≤o.procs.length∧MK kyV x.es x.ck x.m∧Fam G 47 x.m x.c x.xs∧∀k,lookC x.c k=expOf (pairsL [] (l.take i)++pairsO o (o.procs.take x.j)) k)
  ⟨0,es,ck,m,c,xs⟩ ⟨Nat.zero_le _,hM,hF,fun k=>by dsimp only;rw[hC k,List.take_zero,expOf_append,show pairsO o []=[]from rfl,show expOf [] k=[] by unfold expOf;rfl,List.append_nil]⟩ (by exact⟨rfl,rfl,rfl,rfl,rfl,rfl,rfl,rfl,rfl,trivial⟩) rfl (List.Sublist.refl _) fun x hx=>?_
 obtain⟨j,es,ck,m,c,xs⟩:=x
 obtain⟨hj,hM,hF,hC⟩:=hx
 dsimp only at hj hM hF hC
 have y2:=wrapS j (by omega)
 by_cases hjl:j<o.procs.length
 rotate_left
 ·have e4:decide ((j:Int)<(o.procs.length:Int))=false:=decide_eq_false (by omega)
  have htj:o.procs.take j=o.procs:=List.take_of_length_le (by omega)
  refine gom ?_
  refine WK.pick (.blk b11 (.map pes1 pck1):: .blk b10 (.map es ck)::xs) ?_
  exact WK.again ⟨i+1,pes1,pck1,_,es,ck,m,c,xs⟩ (by dsimp only;omega) ⟨by show i+1≤_;omega,hP1,hN1,hM,hF,fun k=>by dsimp only;rw[hC k,htk,pairsL_snoc,if_neg (by simpa using hin),htj]⟩ (by exact⟨rfl,rfl,rfl,rfl,rfl,trivial⟩) rfl (List.Sublist.refl _)
 have e4:decide ((j:Int)<(o.procs.length:Int))=true:=decide_eq_true (by omega)
 obtain⟨p,hp⟩:∃p,o.procs[j]? =some p:=⟨_,List.getElem?_eq_getElem hjl⟩
 have y0:(0:Int)≤(j:Int):=by omega
 have y1:(j:Int)<(o.procs.length:Int):=by omega
 obtain⟨pb,po,cs2,rfl,hks2,hcs2⟩:=hO.procs j p hp
 obtain⟨QA,qc,IA,ic,rfl,hQ,hI⟩:=hks2
 have hsn:=pairsO_snoc hp
 refine gom ?_
 refine WL.oo (OW.alloc rfl fun b8=>?_)
 refine gom ?_
 refine WL.oo (OW.alloc rfl fun b9=>?_)
 cases hx:p.exp with
 | false=>
  rw[hx]at hsn
  refine gom ?_
  refine WK.pick (.blk b6 (.cells #[.string o.path, .slice CA o.consts.length cc, .slice NA o.needs.length nc, .slice (some ⟨pb,po,none⟩) o.procs.length pc] 38 (0,0)):: .blk b11 (.map pes1 pck1):: .blk b10 (.map es ck)::xs) ?_
  exact WK.again ⟨j+1,es,ck,m,c,xs⟩ (by dsimp only;omega) ⟨by show j+1≤_;omega,hM,hF,fun k=>by dsimp only;rw[hC k,hsn,if_neg (by simp),List.append_nil]⟩ (by exact⟨rfl,rfl,rfl,rfl,rfl,rfl,rfl,rfl,rfl,trivial⟩) rfl (List.Sublist.refl _)
 | true=>
 rw[hx,if_pos rfl]at hsn
 have hlk:(lookC c (o.path,p.name)).length≤1048576:=by
  rw[hC (o.path,p.name)]
  have h1:=expOf_len (pairsL [] (l.take i)++pairsO o (o.procs.take j)) (o.path,p.name)
  have h2:=pairsO_len o (o.procs.take j)
  rw[List.length_append]at h1
  rw[List.length_take]at h2
  omega
 refine gom ?_
 refine WL.op kr (OW.buildSlice rfl kr kr (by rfl) rfl fun b46=>?_)
 have hlook:∀k,lookC (addC c (o.path,p.name) p) k=expOf (pairsL [] (l.take i)++pairsO o (o.procs.take (j+1))) k:=fun k=>by
  rw[lookC_addC,hsn,←List.append_assoc,expOf_append,expOf_one,←hC k]
  by_cases e:k=(o.path,p.name)
  ·rw[if_pos e,if_pos e.symm,e]
  ·rw[if_neg e,if_neg (Ne.symm e),List.append_nil]
 by_cases hkey:(o.path,p.name)∈m.map (·.1)
 ·obtain⟨jj,A1,c1,lp,x,hg,hxj,hv,hlc,hnew⟩:=hF.old hM.keys hkey p
  rw[hlc]at hlk
  refine WL.oo (OW.mapEntryK (emb:=kyV) (key:=(o.path,p.name)) (kt:=140) (z:= .slice none 0 0) (v:= .slice A1 lp.length c1) rfl rfl atA hM (by rw[hg];rfl) rfl fun es2 ck2 n2 hM2 hS2=>?_)
  refine gom ?_
  refine WL.oo (OW.append1 (k:=Kd.prc) (news:=[.string p.name, .bool true, .slice QA p.params.length qc, .int .i64 p.locals, .int .i64 p.result, .slice IA p.code.length ic]) (u:=p) rfl rfl kr rfl hv (by repeat (first | exact At.ofGet hxj | apply At.there)) .here rfl ⟨QA,qc,IA,ic,by rw[hx],hQ,hI⟩ (by omega) (by omega) rfl fun A3 c3 o3 hv3=>?_)
  refine gom ?_
  refine WL.oo (OW.entryStoreK (emb:=kyV) (kt:=140) (key:=(o.path,p.name)) rfl rfl rfl atA hM2 hS2 inferInstance rfl fun es3 hM3=>?_)
  refine gom ?_
  refine WK.pick (.blk b6 (.cells #[.string o.path, .slice CA o.consts.length cc, .slice NA o.needs.length nc, .slice (some ⟨pb,po,none⟩) o.procs.length pc] 38 (0,0)):: .blk b11 (.map pes1 pck1):: .blk b10 (.map es3 ck2)::xs.set jj o3) ?_
  exact WK.again ⟨j+1,es3,ck2,_,addC c (o.path,p.name) p,xs.set jj o3⟩ (by dsimp only;omega) ⟨by show j+1≤_;omega,hM3,hnew _ _ _ _ hv3,hlook⟩ (by exact⟨rfl,rfl,rfl,rfl,rfl,rfl,rfl,rfl,rfl,trivial⟩) rfl (List.Sublist.refl _)
 ·
  refine WL.oo (OW.mapEntryK (emb:=kyV) (key:=(o.path,p.name)) (kt:=140) (z:= .slice none 0 0) (v:= .slice none 0 0) rfl rfl atA hM (by rw[getA_absent hkey];rfl) rfl fun es2 ck2 n2 hM2 hS2=>?_)
  refine gom ?_
  refine WL.nothing ?_
  refine WL.oo (OW.append1 (k:=Kd.prc) (l:=[]) (news:=[.string p.name, .bool true, .slice QA p.params.length qc, .int .i64 p.locals, .int .i64 p.result, .slice IA p.code.length ic]) (u:=p) rfl rfl kr rfl KVec.nil .here (.there .here) rfl ⟨QA,qc,IA,ic,by rw[hx],hQ,hI⟩ (by show(0+1)*_≤_;decide) (by decide) rfl fun A3 c3 o3 hv3=>?_)
  refine gom ?_
  refine WL.oo (OW.entryStoreK (emb:=kyV) (kt:=140) (key:=(o.path,p.name)) rfl rfl rfl atA hM2 hS2 inferInstance rfl fun es3 hM3=>?_)
  refine gom ?_
  refine WK.pick (o3:: .blk b6 (.cells #[.string o.path, .slice CA o.consts.length cc, .slice NA o.needs.length nc, .slice (some ⟨pb,po,none⟩) o.procs.length pc] 38 (0,0)):: .blk b11 (.map pes1 pck1):: .blk b10 (.map es3 ck2)::xs) ?_
  refine WK.lastOne ?_
  exact WK.again ⟨j+1,es3,ck2,_,addC c (o.path,p.name) p,xs++[o3]⟩ (by dsimp only;omega) ⟨by show j+1≤_;omega,hM3,hF.new hkey p _ hv3,hlook⟩ (by exact⟨rfl,rfl,rfl,rfl,rfl,rfl,rfl,rfl,rfl,trivial⟩) rfl (List.Sublist.refl _)
end
end Go.Proofs.YtcnlkfocbbkdhaaGreatDoor.Gb
