/- Layer 22: Missing, walked. Layer 22: which procedure meets a need, by the document (no program in sight). Layer 22: joining: what lies in memory is turned in place; how the lists grow. What a row tells of its arguments, opened: the data behind slices and structs, with the bounds that their weights give. A slice that a row hands in: opened. The small object, which must be taken; and what is wrong with it when it gives another type. Pairs of numbers, compared. What must come, whatever else is so: walked. What must come, whatever else is so: walked. What a row of this seat tells of the library's variables, opened. Arguments of a bounded bulk, opened: texts, lists, structs. The machine's stack and its small helpers: what each comes to. Layer 22: joined, walked. Layer 22: Link, walked. Names of instructions: walked. Numbers in bytes: walked. Instructions in bytes: walked. Instructions in bytes: walked. A string appended to bytes of ours. Layer 22: wire: texts, numbers, truths, put. Layer 22: the writer: walked. -/
import Derived.Test.YtcnlkfocbbkdhaaGreatDoorWe
import Derived.SizedLaws
import Derived.ChangeSlices
import Derived.Carry
import Derived.Test.YtcnlkfocbbkdhaaGreatDoorRows
import Derived.ProofKit
import Derived.OpenShut
import Derived.Lay
import Derived.LaidMore
import Derived.Lib.LaidU8
import Derived.Shelf.Vars
import Derived.HandedShaped
import Derived.Deep.DeepHandedRow
import Derived.Lib.AppendStr
set_option linter.unusedVariables false
set_option linter.unusedSimpArgs false
set_option linter.unusedSectionVars false
namespace Go.Proofs.YtcnlkfocbbkdhaaGreatDoor.Gb
open Go Go.Proofs
section
open Go.MapKept
attribute [local irreducible] Tryz.prog expL metL
structure LLim (l:List Ob):Prop where
 len:l.length≤1048576
 sumP:sumP l≤1048576
 sumN:(l.map (·.needs.length)).sum≤1048576
 sumC:sumC l≤1048576
 lim:∀o∈l,OLim o
 pp:∀o∈l,∀p∈o.procs,p.params.length≤1048576∧p.code.length≤1048576
 np:∀o∈l,∀n∈o.needs,n.params.length≤1048576
theorem expL_len {l:List Ob} (h:LLim l) (k:Ky):(expL l k).length≤1000000000:=by
 rw[←expOf_all]
 have h1:=expOf_len (pairsL [] l) k
 have h2:=pairsL_len l []
 have h3:=h.sumP
 unfold Gb.sumP at h3
 omega
structure ML where
 i:Nat
 A:Option Addr
 cap:Nat
 acc:List Nd
 x:Own
 G:Gh
theorem missStep_len (l:List Ob) (acc:List Nd) (n:Nd):(missStep l acc n).length≤acc.length+1:=by
 unfold missStep
 split
 ·omega
 ·simp
theorem foldl_len (l:List Ob):∀(ns:List Nd) (acc:List Nd),(ns.foldl (missStep l) acc).length≤acc.length+ns.length
 | [],acc=>by simp
 | n::ns,acc=>by
  rw[List.foldl_cons]
  have h1:=foldl_len l ns (missStep l acc n)
  have h2:=missStep_len l acc n
  rw[List.length_cons];omega
theorem foldl_mem (l:List Ob):∀(ns:List Nd) (acc:List Nd),∀x∈ns.foldl (missStep l) acc,x∈acc∨x∈ns
 | [],acc,x,h=> .inl h
 | n::ns,acc,x,h=>by
  rw[List.foldl_cons]at h
  rcases foldl_mem l ns _ x h with h | h
  ·unfold missStep at h
   split at h
   ·exact .inl h
   ·rcases List.mem_append.1 h with h | h
    ·exact .inl h
    ·exact .inr (by rw[List.mem_singleton.1 h];exact List.mem_cons_self ..)
  ·exact .inr (List.mem_cons_of_mem _ h)
theorem sumN_take {l:List Ob} {i:Nat} {o:Ob} (h:l[i]? =some o):((l.take i).flatMap (·.needs)).length+o.needs.length≤(l.map (·.needs.length)).sum:=by
 induction l generalizing i with
 | nil=>simp at h
 | cons a r ih=>
  cases i with
  | zero=>simp at h;subst h;simp
  | succ i=>rw[List.take_succ_cons,List.flatMap_cons,List.length_append,List.map_cons,List.sum_cons];have:=ih (by simpa using h);omega
set_option maxRecDepth 20000 in
set_option maxHeartbeats 4000000 in
theorem Missing_fn (G:Gh) (A:Option Addr) (cap:Nat) (l:List Ob) (hl:Sl Kd.ob G A l) (hL:LLim l):
  Fn Tryz.prog 13 #[.slice A l.length cap] G [] fun e G' H'=>∃MA mc x,e= .returned (.slice MA (missL l).length mc)∧G.le G'∧KVec Kd.ned 56 G' MA mc (missL l) x∧H'=[x]:=by
 have hlen:=hL.len
 refine Fn.enter Tryz.func13 rfl rfl fun w0=>?_
 refine gom ?_
 refine WL.oo (OW.callK rfl (exported_fn G A cap l hl hL.len hL.sumP) rfl fun v' G' H' h hg=>?_)
 obtain⟨mb,es,ck,m,he,hg0,hM,hE,rfl⟩:=h
 cases he
 obtain⟨G1,rfl⟩:∃G1,G1=G':=⟨_,rfl⟩
 refine gom ?_
 refine WC.nothing ?_
 refine WC.loop (X:=ML) (fun x=>[(3, .map (some mb)),(4, .slice x.A x.acc.length x.cap),(12, .slice A l.length cap),(13, .int .i64 l.length),(14, .int .i64 x.i)]) (fun x=>x.G) (fun x=>[x.x, .blk mb (.map es ck)]) (fun x=>l.length - x.i)
  (fun x=>x.i≤l.length∧G1.le x.G∧KVec Kd.ned 56 x.G x.A x.cap x.acc x.x∧x.acc=((l.take x.i).flatMap (·.needs)).foldl (missStep l) []) ⟨0,none,0,[], .spare 0 0 0,G1⟩ ⟨Nat.zero_le _,Gh.le_refl _,KVec.nil,rfl⟩ (by exact⟨rfl,rfl,rfl,rfl,rfl,trivial⟩) rfl (List.Sublist.refl _) fun x hx=>?_
 obtain⟨i,B,cb,acc,xo,G2⟩:=x
 obtain⟨hi,hg2,hK,hacc⟩:=hx
 dsimp only at hi hg2 hK hacc
 have x2:=wrapS i (by omega)
 by_cases hlt:i<l.length
 rotate_left
 ·have e2:decide ((i:Int)<(l.length:Int))=false:=decide_eq_false (by omega)
  have hm:acc=missL l:=by rw[hacc,List.take_of_length_le (by omega)];rfl
  subst hm
  refine gom ?_
  refine WC.rt ?_
  exact QF.p1 (.inl rfl) rfl (.tmp rfl) (⟨B,cb,xo,rfl,Gh.le_trans hg0 hg2,hK,rfl⟩)
 have e2:decide ((i:Int)<(l.length:Int))=true:=decide_eq_true (by omega)
 obtain⟨o,ho⟩:∃o,l[i]? =some o:=⟨_,List.getElem?_eq_getElem (by omega)⟩
 have hom:=List.mem_of_getElem? ho
 have x0:(0:Int)≤(i:Int):=by omega
 have x1:(i:Int)<(l.length:Int):=by omega
 have hl2:=hl.mono (Gh.le_trans hg0 hg2)
 obtain⟨ab,ao,cs,rfl,hks,hcs⟩:=hl2 i o ho
 obtain⟨CA,cc,NA,nc,PA,pc,rfl,hO⟩:=hks
 have hfl:(l.take (i+1)).flatMap (·.needs)=(l.take i).flatMap (·.needs)++o.needs:=by rw[take_snoc' ho,List.flatMap_append];simp
 have hsn:=sumN_take ho
 have hsl:=hL.sumN
 refine gom ?_
 refine WL.oo (OW.alloc rfl fun b6=>?_)
 refine gom ?_
 refine WC.pick [xo, .blk mb (.map es ck)] ?_
 refine WC.loop (X:=ML) (fun x=>[(3, .map (some mb)),(4, .slice x.A x.acc.length x.cap),(12, .slice (some ⟨ab,ao,none⟩) l.length cap),(13, .int .i64 l.length),(14, .int .i64 i),(19, .slice NA o.needs.length nc),(20, .int .i64 o.needs.length),(21, .int .i64 x.i)]) (fun x=>x.G) (fun x=>[x.x, .blk mb (.map es ck)]) (fun x=>o.needs.length - x.i)
  (fun x=>x.i≤o.needs.length∧G2.le x.G∧KVec Kd.ned 56 x.G x.A x.cap x.acc x.x∧x.acc=((l.take i).flatMap (·.needs)++o.needs.take x.i).foldl (missStep l) []) ⟨0,B,cb,acc,xo,G2⟩ ⟨Nat.zero_le _,Gh.le_refl _,hK,by dsimp only;rw[List.take_zero,List.append_nil];exact hacc⟩ (by exact⟨rfl,rfl,rfl,rfl,rfl,rfl,rfl,rfl,trivial⟩) rfl (List.Sublist.refl _) fun x hx=>?_
 obtain⟨j,B,cb,acc,xo,G3⟩:=x
 obtain⟨hj,hg3,hK,hacc⟩:=hx
 dsimp only at hj hg3 hK hacc
 have y2:=wrapS j (by omega)
 by_cases hjl:j<o.needs.length
 rotate_left
 ·have e4:decide ((j:Int)<(o.needs.length:Int))=false:=decide_eq_false (by omega)
  have htj:o.needs.take j=o.needs:=List.take_of_length_le (by omega)
  refine gom ?_
  refine WK.pick [xo, .blk mb (.map es ck)] ?_
  exact WK.again ⟨i+1,B,cb,acc,xo,G3⟩ (by dsimp only;omega) ⟨by show i+1≤_;omega,Gh.le_trans hg2 hg3,hK,by dsimp only;rw[hacc,hfl,htj]⟩ (by exact⟨rfl,rfl,rfl,rfl,rfl,trivial⟩) rfl (List.Sublist.refl _)
 have e4:decide ((j:Int)<(o.needs.length:Int))=true:=decide_eq_true (by omega)
 obtain⟨n,hn⟩:∃n,o.needs[j]? =some n:=⟨_,List.getElem?_eq_getElem hjl⟩
 have hnm:=List.mem_of_getElem? hn
 have y0:(0:Int)≤(j:Int):=by omega
 have y1:(j:Int)<(o.needs.length:Int):=by omega
 have hO3:=hO.mono hg3
 obtain⟨nb,no,cs2,rfl,hks2,hcs2⟩:=hO3.needs j n hn
 obtain⟨QA,qc,rfl,hQ⟩:=hks2
 have hqn:(o.needs.take (j+1))=o.needs.take j++[n]:=take_snoc' hn
 have hstep:((l.take i).flatMap (·.needs)++o.needs.take (j+1)).foldl (missStep l) []=missStep l acc n:=by rw[hqn,←List.append_assoc,List.foldl_append,←hacc];rfl
 have hal:acc.length≤1048576:=by
  have:=foldl_len l ((l.take i).flatMap (·.needs)++o.needs.take j) []
  rw[←hacc,List.length_append,List.length_take,List.length_nil]at this
  omega
 have hap:∀x∈acc,x.params.length≤1000000000:=fun x hx=>by
  rw[hacc]at hx
  rcases foldl_mem l _ _ x hx with h | h
  ·cases h
  ·rcases List.mem_append.1 h with h | h
   ·obtain⟨o',ho',hx'⟩:=List.mem_flatMap.1 h
    have:=hL.np o' (List.mem_of_mem_take ho') x hx';omega
   ·have:=hL.np o hom x (List.mem_of_mem_take h);omega
 have hnp:=hL.np o hom n hnm
 refine gom ?_
 refine WL.oo (OW.alloc rfl fun b8=>?_)
 refine gom ?_
 refine WL.pp (Gp.makeFunc rfl rfl) ?_
 obtain⟨cs0,hr0,hk0⟩:=hK.rds (H:=[xo, .blk b8 (.cells (ndC n QA qc) 56 (0,0))]) .here
 refine WL.oo (OW.callK rfl (hasN_fn G3 B cb acc [xo, .blk b8 (.cells (ndC n QA qc) 56 (0,0))] cs0 hr0 hk0 (by omega) 37 #[.pointer (some ⟨b8,0,none⟩)] (fun x=>sameN x n) (fun x cs hx hk=>miss1_fn G3 _ b8 1 n QA qc hQ (.there .here) x cs hk (hap x hx))) rfl fun v' G' H' h hg=>?_)
 obtain⟨he,rfl,rfl⟩:=h
 cases he
 refine WL.pick [xo, .blk b8 (.cells (ndC n QA qc) 56 (0,0)), .blk mb (.map es ck)] ?_
 refine gom ?_
 have hg03:=Gh.le_trans hg2 hg3
 have hE3:ExpM G3 l m:=fun k=>by obtain⟨a,b,h1,h2⟩:=hE k;exact⟨a,b,h1,h2.mono hg03⟩
 refine WL.oo (OW.callK rfl (met_fn G3 mb es ck m hM l hE3 (expL_len hL) (fun o ho p hp=>by have:=(hL.pp o ho p hp).1;omega) n QA qc hQ) rfl fun v' G' H' h hg=>?_)
 obtain⟨he,rfl,rfl⟩:=h
 cases he
 refine WL.pick [xo, .blk b8 (.cells (ndC n QA qc) 56 (0,0)), .blk mb (.map es ck)] ?_
 have hno:∀(h:(metL l n || acc.any (fun x=>sameN x n))=true),missStep l acc n=acc:=fun h=>by unfold missStep;rw[if_pos h]
 cases hmet:metL l n with
 | true=>
  have hst:=hno (by rw[hmet];rfl)
  refine gom ?_
  refine WK.pick [xo, .blk mb (.map es ck)] ?_
  exact WK.again ⟨j+1,B,cb,acc,xo,G3⟩ (by dsimp only;omega) ⟨by show j+1≤_;omega,hg3,hK,by dsimp only;rw[hstep,hst]⟩ (by exact⟨rfl,rfl,rfl,rfl,rfl,rfl,rfl,rfl,trivial⟩) rfl (List.Sublist.refl _)
 | false=>
 cases hany:acc.any (fun x=>sameN x n)with
 | true=>
  have hst:=hno (by rw[hmet,hany];rfl)
  refine gom ?_
  refine WK.pick [xo, .blk mb (.map es ck)] ?_
  exact WK.again ⟨j+1,B,cb,acc,xo,G3⟩ (by dsimp only;omega) ⟨by show j+1≤_;omega,hg3,hK,by dsimp only;rw[hstep,hst]⟩ (by exact⟨rfl,rfl,rfl,rfl,rfl,rfl,rfl,rfl,trivial⟩) rfl (List.Sublist.refl _)
 | false=>
 have hst:missStep l acc n=acc++[n]:=by unfold missStep;rw[hmet,hany];rfl
 refine gom ?_
 refine WL.oo (OW.callK rfl (clone_types G3 [] QA n.params.length qc (ints n.params) hQ.ints (ints_length _) (ints_one _) hQ.none_len (by omega)) rfl fun v' G' H' h hg=>?_)
 obtain⟨A4,cap4,x4,he,rfl,rfl,hx4⟩:=h
 cases he
 refine WL.frozenVec hx4 atA fun G4 hg4 z4=>?_
 have hQ4:Sl (Kd.int .i64) G4 A4 n.params:=IVec.sl z4
 refine WL.pick [.blk b8 (.cells (ndC n QA qc) 56 (0,0)),xo, .blk mb (.map es ck)] ?_
 refine gom ?_
 refine WL.op kr (OW.buildSlice rfl kr kr (by rfl) rfl fun b42=>?_)
 refine WL.oo (OW.append1 (k:=Kd.ned) (u:=n) rfl rfl kr rfl (hK.mono hg4) atA .here rfl ⟨A4,cap4,rfl,hQ4⟩ (by dsimp only;omega) (by dsimp only;omega) rfl fun A5 c5 o5 hv5=>?_)
 refine gom ?_
 refine WK.pick [o5, .blk mb (.map es ck)] ?_
 exact WK.again ⟨j+1,A5,c5,acc++[n],o5,G4⟩ (by dsimp only;omega) ⟨by show j+1≤_;omega,Gh.le_trans hg3 hg4,hv5,by dsimp only;rw[hstep,hst]⟩ (by exact⟨rfl,rfl,rfl,rfl,rfl,rfl,rfl,rfl,trivial⟩) rfl (List.Sublist.refl _)
end
def fitX (n:Nd) (p:Pr):Bool:=p.exp&&(p.name==n.name&&(p.result==n.result&&p.params==n.params))
def metJ (n:Nd) (ps:List Pr):Option Nat:=(List.range ps.length).find? fun k=>match ps[k]? with | some p=>fitX n p | none=>false
def pathJ (l:List Ob) (path:ByteArray):Option Nat:=(List.range l.length).find? fun i=>match l[i]? with | some o=>o.path==path | none=>false
def metI (l:List Ob) (n:Nd):Option (Nat×Nat):=(pathJ l n.path).bind fun i=>(l[i]?).bind fun o=>(metJ n o.procs).map fun k=>(i,k)
def metA (l:List Ob) (n:Nd):Int×Int:=match metI l n with | some (i,k)=>((i:Int),(k:Int)) | none=>(-1, -1)
theorem pathJ_at {l:List Ob} {path:ByteArray} {i:Nat} {o:Ob} (h0:∀(j:Nat) y,j<i→l[j]? =some y→y.path≠path) (hi:l[i]? =some o) (ho:o.path=path):pathJ l path=some i:=by
 refine find_range (List.getElem?_eq_some_iff.1 hi).1 (fun j hj=>?_) (by rw[hi];exact bb_iff.2 ho)
 cases hy:l[j]? with
 | none=>rfl
 | some y=>
  show(y.path==path)=false
  cases e:(y.path==path)with
  | false=>rfl
  | true=>exact absurd (bb_iff.1 e) (h0 j y hj hy)
theorem pathJ_none {l:List Ob} {path:ByteArray} (h0:∀(j:Nat) y,l[j]? =some y→y.path≠path):pathJ l path=none:=by
 unfold pathJ
 rw[List.find?_eq_none]
 intro j _
 cases hy:l[j]? with
 | none=>simp
 | some y=>
  show¬(y.path==path)=true
  exact fun e=>h0 j y hy (bb_iff.1 e)
theorem metJ_at {n:Nd} {ps:List Pr} {k:Nat} {p:Pr} (h0:∀(j:Nat) y,j<k→ps[j]? =some y→fitX n y=false) (hi:ps[k]? =some p) (ho:fitX n p=true):metJ n ps=some k:=by
 refine find_range (List.getElem?_eq_some_iff.1 hi).1 (fun j hj=>?_) (by rw[hi];exact ho)
 cases hy:ps[j]? with
 | none=>rfl
 | some y=>exact h0 j y hj hy
theorem metJ_none {n:Nd} {ps:List Pr} (h0:∀(j:Nat) y,ps[j]? =some y→fitX n y=false):metJ n ps=none:=by
 unfold metJ
 rw[List.find?_eq_none]
 intro j _
 cases hy:ps[j]? with
 | none=>simp
 | some y=>simp[h0 j y hy]
theorem metJ_some {n:Nd} {ps:List Pr} {k:Nat} (h:metJ n ps=some k):∃p,ps[k]? =some p∧fitX n p=true:=by
 have h1:=List.find?_some h
 cases hy:ps[k]? with
 | none=>rw[hy]at h1;cases h1
 | some p=>rw[hy]at h1;exact⟨p,rfl,h1⟩
theorem pathJ_some {l:List Ob} {path:ByteArray} {i:Nat} (h:pathJ l path=some i):∃o,l[i]? =some o∧o.path=path∧l.find? (fun o=>o.path==path)=some o:=by
 have h1:=List.find?_some h
 cases hy:l[i]? with
 | none=>rw[hy]at h1;cases h1
 | some o=>
  rw[hy]at h1
  refine⟨o,rfl,bb_iff.1 h1,?_⟩
  have hlt:=(List.getElem?_eq_some_iff.1 hy).1
  rw[List.find?_eq_some_iff_append]
  refine⟨h1,l.take i,l.drop (i+1),?_,fun y hyy=>?_⟩
  ·have:=List.drop_eq_getElem_cons hlt
   rw[(List.getElem?_eq_some_iff.1 hy).2]at this
   rw[←this,List.take_append_drop]
  ·obtain⟨j,hj⟩:=List.getElem?_of_mem hyy
   rw[List.getElem?_take]at hj
   split at hj
   ·rename_i hlt2
    unfold pathJ at h
    rw[List.find?_eq_some_iff_getElem]at h
    obtain⟨_,m,hm,hme,hall⟩:=h
    rw[List.getElem_range]at hme
    subst hme
    have h3:=hall j hlt2
    rw[List.getElem_range]at h3
    rw[hj]at h3
    exact h3
   ·cases hj
theorem pathJ_find {l:List Ob} {path:ByteArray} (h:pathJ l path=none):l.find? (fun o=>o.path==path)=none:=by
 unfold pathJ at h
 rw[List.find?_eq_none]at h⊢
 intro o ho
 obtain⟨i,hi⟩:=List.getElem?_of_mem ho
 have:=h i (by simpa using(List.getElem?_eq_some_iff.1 hi).1)
 rw[hi]at this
 exact this
theorem metI_iff (l:List Ob) (n:Nd):(metI l n).isSome=metL l n:=by
 unfold metI metL expL
 dsimp only
 cases hp:pathJ l n.path with
 | none=>rw[pathJ_find hp];rfl
 | some i=>
  obtain⟨o,ho,_,hf⟩:=pathJ_some hp
  rw[hf,Option.bind_some,ho,Option.bind_some]
  dsimp only
  rw[List.any_filter]
  cases hm:metJ n o.procs with
  | none=>
   unfold metJ at hm
   rw[List.find?_eq_none]at hm
   symm
   rw[Option.map_none,Option.isSome_none,List.any_eq_false]
   intro p hp
   obtain⟨k,hk⟩:=List.getElem?_of_mem hp
   have:=hm k (by simpa using(List.getElem?_eq_some_iff.1 hk).1)
   rw[hk]at this
   unfold fitX at this
   unfold fitN
   simpa [Bool.and_assoc]using this
  | some k=>
   obtain⟨p,hk,hfx⟩:=metJ_some hm
   symm
   rw[Option.map_some,Option.isSome_some,List.any_eq_true]
   refine⟨p,List.mem_of_getElem? hk,?_⟩
   unfold fitX at hfx
   unfold fitN
   simpa [Bool.and_assoc]using hfx
theorem metA_neg (l:List Ob) (n:Nd):decide (0≤(metA l n).1)=metL l n:=by
 rw[←metI_iff]
 unfold metA
 cases metI l n with
 | none=>rfl
 | some p=>exact decide_eq_true (by show(0:Int)≤(p.1:Int);omega)
theorem metA_at {l:List Ob} (hv:∀o∈l,(objAns o).2.2=0) (hp:(l.map (·.path)).Nodup) {n:Nd} (h:metL l n=true):∃(i k:Nat) (o:Ob),metA l n=((i:Int),(k:Int))∧l[i]? =some o∧k<o.procs.length∧atL (allPr l) (n.path,n.name)=((sumP (l.take i)+k:Nat):Int):=by
 rw[←metI_iff]at h
 unfold metI at h
 cases hq:pathJ l n.path with
 | none=>rw[hq]at h;cases h
 | some i=>
  obtain⟨o,ho,hop,_⟩:=pathJ_some hq
  cases hm:metJ n o.procs with
  | none=>rw[hq,Option.bind_some,ho,Option.bind_some,hm]at h;cases h
  | some k=>
   obtain⟨p,hk,hfx⟩:=metJ_some hm
   refine⟨i,k,o,?_,ho,(List.getElem?_eq_some_iff.1 hk).1,?_⟩
   ·unfold metA metI;rw[hq,Option.bind_some,ho,Option.bind_some,hm];rfl
   ·have h8:=atL_of (all_nodup hp fun o ho=>names_nodup (hv o ho)) (all_at l ho hk)
    rw[←h8]
    unfold fitX at hfx
    simp only[Bool.and_eq_true]at hfx
    unfold keyP
    rw[hop,bb_iff.1 hfx.2.1]
section
open Go.MapKept
section
variable {α:Type} {k:Kd α} {G:Gh} {T cap b:Nat} {A:Option Addr} {l:List α} {c:Array Value}
theorem KVec.isBlk {x:Own} (h:KVec k T G A cap l x) (hn:0<l.length):∃b c,A=some ⟨b,0,none⟩∧x= .blk b (.cells c T (0,0)):=by
 obtain⟨cs,h1,_⟩:=h
 obtain⟨b,c,h2,h3⟩:=h1.isBlk hn
 exact⟨b,c,h2,h3⟩
theorem KVec.put1 (h:KVec k T G A cap l (.blk b (.cells c T (0,0)))) {i j:Nat} {y0 y:α} {v:Value} (hi:l[i]? =some y0) (hj:j<k.n) (hy:∀es,k.K G y0 es→k.K G y (es.set j v)):
  A=some ⟨b,0,none⟩∧Nat.ble (i*k.n+j+1) c.size=true∧KVec k T G A cap (l.set i y) (.blk b (.cells (splice c (i*k.n+j) [v]) T (0,0))):=by
 obtain⟨cs,h1,h2⟩:=h
 have hil:=(List.getElem?_eq_some_iff.1 hi).1
 have hlt:i*k.n+j<l.length*k.n:=by
  have:(i+1)*k.n≤l.length*k.n:=Nat.mul_le_mul_right _ hil
  rw[Nat.add_mul]at this;omega
 obtain⟨a1,a2,a3⟩:=Vec.put1 h1 hlt v
 refine⟨a1,Nat.ble_eq_true_of_le a2,cs.set (i*k.n+j) v,by rw[List.length_set];exact a3,by rw[List.length_set,List.length_set,h2.len],fun m z hz=>?_⟩
 rw[set_elem hj]
 by_cases e:m=i
 ·subst e
  rw[if_pos rfl]
  rw[List.getElem?_set_self hil]at hz
  obtain rfl:=Option.some.inj hz
  exact hy _ (h2.at_ m y0 hi)
 ·rw[if_neg e]
  rw[List.getElem?_set_ne (Ne.symm e)]at hz
  exact h2.at_ m z hz
end
theorem splice_two {c:Array Value} {o:Nat} {u v:Value} (h:o+2≤c.size):splice (splice c o [u]) (o+1) [v]=splice c o [u,v]:=by
 have hs:(splice c o [u]).size=c.size:=size_splice (by simp;omega)
 have e1:(splice (splice c o [u]) (o+1) [v]).toList=(c.toList.set o u).set (o+1) v:=by
  rw[splice_one (by omega),splice_one (by omega)]
 apply Array.toList_inj.1
 rw[e1]
 unfold splice
 apply List.ext_getElem?
 intro j
 simp only[List.getElem?_append,List.length_append,List.length_take,Array.length_toList,List.getElem?_take,List.getElem?_drop,List.getElem?_set,List.length_set,List.length_cons,List.length_nil]
 have m1:min o c.size=o:=by omega
 rw[m1]
 by_cases h1:j<o
 ·simp[h1,show j<o+2 by omega,show o≠j by omega,show o+1≠j by omega]
 ·by_cases h2:o=j
  ·subst h2;simp[show o<c.size by omega]
  ·by_cases h3:o+1=j
   ·subst h3;simp[show o+1<c.size by omega,show¬o+1<o by omega]
   ·simp[h1,h2,h3,show¬j<o+2 by omega,show o+2+(j - (o+2))=j by omega]
theorem InsK.put {G:Gh} {T cap b:Nat} {A:Option Addr} {l:List (Int×Int)} {c:Array Value} (h:KVec Kd.ins T G A cap l (.blk b (.cells c T (0,0)))) {i:Nat} {y0 y:Int×Int} (hi:l[i]? =some y0):
  A=some ⟨b,0,none⟩∧Nat.ble (i*2+2) c.size=true∧KVec Kd.ins T G A cap (l.set i y) (.blk b (.cells (splice c (i*2) [.int .i64 y.1, .int .i64 y.2]) T (0,0))):=by
 have hil:=(List.getElem?_eq_some_iff.1 hi).1
 obtain⟨a1,a2,a3⟩:=KVec.put1 (y:=(y.1,y0.2)) (v:= .int .i64 y.1) (j:=0) h hi (by decide) (fun es he=>by have he':es=[.int .i64 y0.1, .int .i64 y0.2]:=he;rw[he'];rfl)
 have hi2:(l.set i (y.1,y0.2))[i]? =some (y.1,y0.2):=List.getElem?_set_self hil
 obtain⟨b1,b2,b3⟩:=KVec.put1 (y:=y) (v:= .int .i64 y.2) (j:=1) a3 hi2 (by decide) (fun es he=>by have he':es=[.int .i64 y.1, .int .i64 y0.2]:=he;rw[he'];rfl)
 have e0:Kd.ins.n=2:=rfl
 rw[e0]at a2 b2 b3 a3
 have a2':=Nat.le_of_ble_eq_true a2
 have hs:(splice c (i*2+0) [Value.int .i64 y.1]).size=c.size:=size_splice (by simp;omega)
 have b2':=Nat.le_of_ble_eq_true b2
 rw[hs]at b2'
 refine⟨a1,Nat.ble_eq_true_of_le (by omega),?_⟩
 rw[List.set_set]at b3
 rw[Nat.add_zero,splice_two (by omega)]at b3
 exact b3
theorem join_snoc (L:List (ByteArray×Pr)):∀(l:List Ob) (o:Ob) (cs ps:Nat),joinP L (l++[o]) cs ps=joinP L l cs ps++o.procs.map (moveP L o (cs+sumC l) (ps+sumP l))
 | [],o,cs,ps=>by simp[joinP,sumC,sumP]
 | a::r,o,cs,ps=>by rw[List.cons_append,joinP,joinP,join_snoc L r,sumC_cons,sumP_cons,List.append_assoc,Nat.add_assoc,Nat.add_assoc]
theorem pts_snoc (path:ByteArray):∀(ps:List Pr) (p:Pr) (k:Nat),ptsO path (ps++[p]) k=ptsO path ps k++(if p.exp=true then [⟨path,p.name,((k+ps.length:Nat):Int)⟩]else [])
 | [],p,k=>by cases h:p.exp<;>simp[ptsO,h]
 | a::r,p,k=>by
  rw[List.cons_append,ptsO,ptsO,pts_snoc path r p (k+1),List.length_cons,show k+1+r.length=k+(r.length+1) by omega]
  split<;>simp
theorem joinT_snoc:∀(l:List Ob) (o:Ob) (ps:Nat),joinT' (l++[o]) ps=joinT' l ps++ptsO o.path o.procs (ps+sumP l)
 | [],o,ps=>by simp[joinT',sumP]
 | a::r,o,ps=>by rw[List.cons_append,joinT',joinT',joinT_snoc r,sumP_cons,List.append_assoc,Nat.add_assoc]
theorem pts_len (path:ByteArray):∀(ps:List Pr) (k:Nat),(ptsO path ps k).length≤ps.length
 | [],k=>Nat.le_refl _
 | a::r,k=>by
  have:=pts_len path r (k+1)
  rw[ptsO]
  split
  ·rw[List.length_cons,List.length_cons];omega
  ·rw[List.length_cons];omega
theorem joinT_len:∀(l:List Ob) (ps:Nat),(joinT' l ps).length≤sumP l
 | [],ps=>Nat.le_refl _
 | a::r,ps=>by
  have h1:=joinT_len r (ps+a.procs.length)
  have h2:=pts_len a.path a.procs ps
  rw[joinT',List.length_append,sumP_cons];omega
theorem atL_snoc (L:List (ByteArray×Pr)) (q:ByteArray×Pr) (k:Ky):atL (L++[q]) k=if(q.1,q.2.name)=k then(L.length:Int)else atL L k:=by
 unfold atL
 rw[List.length_append,List.length_singleton,List.range_succ,List.reverse_append,List.reverse_singleton,List.singleton_append]
 have hl:(L++[q])[L.length]? =some q:=by rw[List.getElem?_append_right (Nat.le_refl _)];simp
 have hr:(List.range L.length).reverse.find? (fun j=>decide (((L++[q])[j]?).map (fun q=>(q.1,q.2.name))=some k))=(List.range L.length).reverse.find? (fun j=>decide ((L[j]?).map (fun q=>(q.1,q.2.name))=some k)):=by
  have:∀(xs:List Nat),(∀j∈xs,j<L.length)→xs.find? (fun j=>decide (((L++[q])[j]?).map (fun q=>(q.1,q.2.name))=some k))=xs.find? (fun j=>decide ((L[j]?).map (fun q=>(q.1,q.2.name))=some k)):=by
   intro xs
   induction xs with
   | nil=>intro _;rfl
   | cons a r ih=>
    intro h
    have h1:=ih fun j hj=>h j (List.mem_cons_of_mem _ hj)
    have h2:=h a (List.mem_cons_self ..)
    rw[List.find?_cons,List.find?_cons,h1,List.getElem?_append_left h2]
  exact this _ fun j hj=>by simpa using hj
 by_cases e:(q.1,q.2.name)=k
 ·rw[if_pos e,List.find?_cons_of_pos (by rw[hl];simp[e])]
 ·rw[if_neg e,List.find?_cons_of_neg (by rw[hl];simp[e]),hr]
def AtM (m:List (Ky×Value)) (L:List (ByteArray×Pr)):Prop:=∀k,(getA m k).getD (.int .i64 0)= .int .i64 (atL L k)
theorem AtM.nil:AtM [] []:=fun k=>rfl
theorem AtM.snoc {m:List (Ky×Value)} {L:List (ByteArray×Pr)} (h:AtM m L) (path:ByteArray) (p:Pr):AtM (setA m (path,p.name) (.int .i64 (L.length:Int))) (L++[(path,p)]):=fun k=>by
 rw[atL_snoc]
 by_cases e:(path,p.name)=k
 ·subst e;rw[getA_setA,if_pos rfl];rfl
 ·rw[getA_setA_ne m _ (Ne.symm e),if_neg e];exact h k
def Kd.pnt:Kd Pt where
 n:=3
 K _ x cs:=cs=[.string x.path, .string x.name, .int .i64 x.proc]
 mono _ h:=h
 len h:=by rw[h];rfl
 one h:=by rw[h];rfl
def mvT (f:Int×Int→Int×Int) (l:List (Int×Int)) (k:Nat):List (Int×Int):=(l.take k).map f++l.drop k
theorem mvT_len (f:Int×Int→Int×Int) (l:List (Int×Int)) (k:Nat):(mvT f l k).length=l.length:=by unfold mvT;simp;omega
theorem mvT_zero (f:Int×Int→Int×Int) (l:List (Int×Int)):mvT f l 0=l:=by simp[mvT]
theorem mvT_all (f:Int×Int→Int×Int) {l:List (Int×Int)} {k:Nat} (h:l.length≤k):mvT f l k=l.map f:=by unfold mvT;rw[List.take_of_length_le h,List.drop_eq_nil_of_le h,List.append_nil]
theorem mvT_at (f:Int×Int→Int×Int) {l:List (Int×Int)} {k:Nat} {x:Int×Int} (h:l[k]? =some x):(mvT f l k)[k]? =some x:=by
 have hk:=(List.getElem?_eq_some_iff.1 h).1
 unfold mvT
 rw[List.getElem?_append_right (by simp;omega),List.length_map,List.length_take,List.getElem?_drop,show k+(k - min k l.length)=k by omega,h]
theorem mvT_step (f:Int×Int→Int×Int) {l:List (Int×Int)} {k:Nat} {x:Int×Int} (h:l[k]? =some x):(mvT f l k).set k (f x)=mvT f l (k+1):=by
 have hk:=(List.getElem?_eq_some_iff.1 h).1
 unfold mvT
 have e:l.drop k=x::l.drop (k+1):=by
  rw[List.drop_eq_getElem_cons hk]
  rw[(List.getElem?_eq_some_iff.1 h).2]
 rw[take_snoc' h,List.map_append,List.append_assoc,List.set_append_right _ _ (by simp;omega),List.length_map,List.length_take,show k - min k l.length=0 by omega,e]
 rfl
theorem mvT_same (f:Int×Int→Int×Int) {l:List (Int×Int)} {k:Nat} {x:Int×Int} (h:l[k]? =some x) (hf:f x=x):mvT f l k=mvT f l (k+1):=by
 rw[←mvT_step f h,hf]
 apply List.ext_getElem?
 intro j
 rw[List.getElem?_set]
 by_cases e:k=j
 ·subst e
  have hk:=(List.getElem?_eq_some_iff.1 h).1
  rw[if_pos rfl,if_pos (by rw[mvT_len];exact hk),mvT_at f h]
 ·rw[if_neg e]
theorem InsK.at {G:Gh} {T cap b:Nat} {A:Option Addr} {l:List (Int×Int)} {c:Array Value} (h:KVec Kd.ins T G A cap l (.blk b (.cells c T (0,0)))) {i:Nat} {y:Int×Int} (hi:l[i]? =some y):
  c[i*2]? =some (.int .i64 y.1)∧c[i*2+1]? =some (.int .i64 y.2):=by
 obtain⟨cs,⟨h1,h2⟩,h3⟩:=h
 have hil:=(List.getElem?_eq_some_iff.1 hi).1
 rcases h2 with⟨_,e,_,_⟩ | ⟨b',c',_,e,h4,h5,h6⟩
 ·omega
 ·cases e
  have h7:(cs.drop (i*2)).take 2=[.int .i64 y.1, .int .i64 y.2]:=h3.at_ i y hi
  have e0:Kd.ins.n=2:=rfl
  rw[e0]at h6
  have g0:=congrArg (fun l=>l[0]?) h7
  have g1:=congrArg (fun l=>l[1]?) h7
  simp only[List.getElem?_take,List.getElem?_drop,List.getElem?_cons_zero,List.getElem?_cons_succ]at g0 g1
  rw[if_pos (by decide)]at g0 g1
  rw[←h6]at g0 g1
  simp only[List.getElem?_take,Array.getElem?_toList]at g0 g1
  rw[if_pos (by omega)]at g0 g1
  exact⟨by simpa using g0,g1⟩
theorem InsK.put2 {G:Gh} {T cap b:Nat} {A:Option Addr} {l:List (Int×Int)} {c:Array Value} (h:KVec Kd.ins T G A cap l (.blk b (.cells c T (0,0)))) {i:Nat} {a n z:Int} (hi:l[i]? =some (a,n)):
  Nat.ble (i*2+1+1) c.size=true∧KVec Kd.ins T G A cap (l.set i (a,z)) (.blk b (.cells (splice c (i*2+1) [.int .i64 z]) T (0,0))):=by
 obtain⟨_,h2,h3⟩:=KVec.put1 (y:=(a,z)) (v:= .int .i64 z) (j:=1) h hi (by decide) (fun es he=>by have he':es=[.int .i64 a, .int .i64 n]:=he;rw[he'];rfl)
 exact⟨h2,h3⟩
theorem all_snoc (l:List Ob) (o:Ob):allPr (l++[o])=allPr l++o.procs.map fun p=>(o.path,p):=by unfold allPr;simp
end
section
open Go Go.RowKit Go.ChangeShapes Go.WideShapes
section
variable {H:Type} (enc:TypeId×Value→H) (P:Program) (w:World)
def Opens (t:TypeId) {α:Type} (k:Kd α) (B:α→Prop):Prop:=
 ∀fuel cs d ps,DataW.trod enc P w 0 (fun _=>true) true fuel t cs=some (d,ps)→(∀n∈d.weights P t,n≤reachBytes)→∃a,k.K (Gw w) a cs∧B a
theorem mapM_cells {a:Addr} :∀ {l:List Nat} {cs:List Value},(l.mapM fun i=>w.cell? (a.add i))=some cs→cs.length=l.length∧∀(j i:Nat) (v:Value),l[j]? =some i→cs[j]? =some v→w.cell? (a.add i)=some v
 | [],cs,h=>by
  simp at h;subst h
  exact⟨rfl,fun j i v e=>by simp at e⟩
 | i0::l,cs,h=>by
  rw[List.mapM_cons]at h
  cases h0:w.cell? (a.add i0)with
  | none=>rw[h0]at h;simp at h
  | some v0=>
   rw[h0]at h
   cases h1:l.mapM (fun i=>w.cell? (a.add i))with
   | none=>rw[h1]at h;simp at h
   | some cs'=>
    rw[h1]at h
    simp at h
    subst h
    obtain⟨h2,h3⟩:=mapM_cells h1
    refine⟨by simp[h2],fun j i v ej ev=>?_⟩
    cases j with
    | zero=>simp at ej ev;subst ej ev;exact h0
    | succ j=>simp at ej ev;exact h3 j i v ej ev
theorem cells_get {b:Nat} {a:Addr} {n:Nat} {cs:List Value} (h:w.cells? b a n=some cs):cs.length=n∧∀(j:Nat) (v:Value),cs[j]? =some v→w.cell? (a.add j)=some v:=by
 unfold World.cells? at h
 split at h
 ·obtain⟨h1,h2⟩:=mapM_cells w h
  rw[List.length_range]at h1
  refine⟨h1,fun j v e=>h2 j j v ?_ e⟩
  have hj:=(List.getElem?_eq_some_iff.1 e).1
  rw[List.getElem?_range (by omega)]
 ·cases h
theorem cell_plain {a:Addr} {v:Value} (h:w.cell? a=some v):a.spot=none:=by
 unfold World.cell? at h
 split at h
 ·split at h
  ·cases h
  ·rename_i hs;simpa using hs
 ·cases h
end
theorem Kept.same {W W':World} (h:Kept W W') {p:MemPlace} (hp:p.block<W.heap.size):W.sameAt W' p:=by
 cases p with
 | cell b o=>exact World.cell?_of_block (w:=W) (h.heap b hp)
 | map b=>exact h.heap b hp
theorem Kept.trod {H:Type} {enc:TypeId×Value→H} {P:Program} {t:TypeId} (hl:laidOutB P=true) (hr:P.readableRec t=true) (hrow:t<P.types.size) {W W':World} {v:Value} {d:DataW H} {ps:List MemPlace}
  (h:DataW.Trod enc P W 0 (fun _=>true) true t v d ps) (hb:Kept W W'):
  DataW.Trod enc P W' 0 (fun b=>decide (b<W.heap.size)) true t v d ps:=by
 have hlt:∀x∈ps,x.block<W.heap.size:=by obtain⟨m,hm⟩:=h;exact DataW.trod_lt m _ _ _ hm
 exact WideElems.Trod_stays hl hr hrow h (fun x hx=>hb.same (hlt x hx)) (fun x hx=>by simpa using hlt x hx)
end
section
open Go.RowKit Go.ChangeShapes Go.WideShapes
section
variable {H:Type} (enc:TypeId×Value→H) (P:Program) (w:World)
end
end
section
open Go.MapKept
attribute [local irreducible] Tryz.prog
def pS:Pr:=⟨⟨#[102]⟩,false,[],0,1,[(1,0),(10,0)]⟩
def vS:V:=⟨1,5,false,⟨#[]⟩⟩
def vT:V:=⟨2,0,true,⟨#[]⟩⟩
def oS (v:V):Ob:=⟨⟨#[97]⟩,[v],[],[pS]⟩
def lS (t:Int):List SS:=[⟨true,false,[],[]⟩,⟨true,false,[],[t]⟩]
end
section
section
variable {L:List (Nat×Value)} {d:Option Tmp} {ty:TypeId} {pos:String} {af:Array Edge} {gu:Option (Nat×Bool)}
theorem Gp.eqIns {x y:Operand} {t':TypeId} {a b c e:Int} (hx:ev L x=some (.agg #[.int .i64 a, .int .i64 b])) (hy:ev L y=some (.agg #[.int .i64 c, .int .i64 e])):
  Gp Tryz.prog L ⟨d, .binOp .eql 50 x y t',ty,pos,af,gu⟩ (.bool (decide ((a,b)=(c,e)))):=fun g st w=>by
 have h1:Tryz.prog.eqGuardType Tryz.prog.depth 50=false:=by kernel_rfl
 have h2:Tryz.prog.underlying 50=some (.struct (Tryz.prog.fieldsOf 50)):=by kernel_rfl
 have h3:Tryz.prog.stoodInHeld 50=false:=by kernel_rfl
 have key:(Op.eqFields 9999 #[.int .i64 a, .int .i64 b] #[.int .i64 c, .int .i64 e] (Tryz.prog.fieldsOf 50).toList).run Tryz.prog w= .ok (decide ((a,b)=(c,e))) w:=by
  have a0:=fun w=>(inferInstance:Agg Tryz.prog 48 false).h w
  have a1:=fun w=>(inferInstance:Agg Tryz.prog 3 false).h w
  have u0:Tryz.prog.underlying 48=some (.int .i64):=Und.h
  have u1:Tryz.prog.underlying 3=some (.int .i64):=Und.h
  have hh:decide ((a,b)=(c,e))=(a==c&&b==e):=by
   rw[Bool.eq_iff_iff]
   simp
  rw[hh]
  simp only[Program.fieldsOf,Tryz.underlying50]
  simp only[Op.eqFields,part,Sem.run_bind,a0,a1,Result.andThen_ok,Sem.run_ite]
  simp[run_equalIn_int _ _ _ _ _ _ _ u0,run_equalIn_int _ _ _ _ _ _ _ u1]
  by_cases q0:a=c<;>by_cases q1:b=e<;>simp[q0,q1]
 simp only[execOp,Sem.run_bind,st.eval hx,st.eval hy,run_eqGuard_agg w .eql _ x y _ _ h1,Result.andThen_ok,run_eql_struct,run_equalIn_agg w 9999 _ _ _ h2 h3,key]
 rfl
theorem Gp.neIns {x y:Operand} {t':TypeId} {a b c e:Int} (hx:ev L x=some (.agg #[.int .i64 a, .int .i64 b])) (hy:ev L y=some (.agg #[.int .i64 c, .int .i64 e])):
  Gp Tryz.prog L ⟨d, .binOp .neq 50 x y t',ty,pos,af,gu⟩ (.bool (!decide ((a,b)=(c,e)))):=fun g st w=>by
 have h1:Tryz.prog.eqGuardType Tryz.prog.depth 50=false:=by kernel_rfl
 have h2:Tryz.prog.underlying 50=some (.struct (Tryz.prog.fieldsOf 50)):=by kernel_rfl
 have h3:Tryz.prog.stoodInHeld 50=false:=by kernel_rfl
 have key:(Op.eqFields 9999 #[.int .i64 a, .int .i64 b] #[.int .i64 c, .int .i64 e] (Tryz.prog.fieldsOf 50).toList).run Tryz.prog w= .ok (decide ((a,b)=(c,e))) w:=by
  have a0:=fun w=>(inferInstance:Agg Tryz.prog 48 false).h w
  have a1:=fun w=>(inferInstance:Agg Tryz.prog 3 false).h w
  have u0:Tryz.prog.underlying 48=some (.int .i64):=Und.h
  have u1:Tryz.prog.underlying 3=some (.int .i64):=Und.h
  have hh:decide ((a,b)=(c,e))=(a==c&&b==e):=by
   rw[Bool.eq_iff_iff]
   simp
  rw[hh]
  simp only[Program.fieldsOf,Tryz.underlying50]
  simp only[Op.eqFields,part,Sem.run_bind,a0,a1,Result.andThen_ok,Sem.run_ite]
  simp[run_equalIn_int _ _ _ _ _ _ _ u0,run_equalIn_int _ _ _ _ _ _ _ u1]
  by_cases q0:a=c<;>by_cases q1:b=e<;>simp[q0,q1]
 simp only[execOp,Sem.run_bind,st.eval hx,st.eval hy,run_eqGuard_agg w .neq _ x y _ _ h1,Result.andThen_ok,run_neq_struct,run_equalIn_agg w 9999 _ _ _ h2 h3,key]
 rfl
end
end
section
open Go.MapKept
attribute [local irreducible] Tryz.prog
theorem WL.freezeC {P:Program} {Q:Exit→Act→World→Prop} {cx:Cx} {L:List (Nat×Value)} {G:Gh} {H:List Own} {ops:Array Oper} {rest:List Oper} {j b:Nat} {c:Array Value} {T:TypeId} {cs:List Value} (hj:At H j (.blk b (.cells c T (0,0)))) (hc:c.toList=cs) (h:∀G',G.le G'→Cs G' b 0 cs→WL P ops Q rest cx L G' (H.eraseIdx j)):WL P ops Q rest cx L G H:=
 WK.freezeC (K:=fun a w=>wpList P ops Q rest a w) hj hc h
end
section
open Go.MapKept
attribute [local irreducible] Tryz.prog
end
section
attribute [local irreducible] Tryz.prog
theorem gSyn:Tryz.prog.globalNamed "strconv.ErrSyntax" =some 1:=by kernel_rfl
theorem gRng:Tryz.prog.globalNamed "strconv.ErrRange" =some 2:=by kernel_rfl
theorem cell_of_iface {W:World} {n nm:String} {g t:Nat} {ms:Array (String×TypeId)} {d:DataW Unit} (hg:Tryz.prog.globalNamed n=some g) (ht:(Tryz.prog.globals[g]?).map (·.type)=some t) (hu:Tryz.prog.underlying t=some (.interface ms)) (h:Lib.VarReads Tryz.prog W n (.iface nm d)):
  ∃te pe,Gw W g 0=some (.iface te pe):=by
 obtain⟨g',t',cs,fuel,p,h1,h2,h3,h4⟩:=h
 obtain rfl:=Option.some.inj (hg.symm.trans h1)
 obtain rfl:=Option.some.inj (ht.symm.trans h2)
 obtain⟨_,u,v,hc,_⟩:=iface_of_trod hu h4
 refine⟨u,v,?_⟩
 have:=World.var?_cell h1 h3 0
 unfold Gw
 rw[this,←Array.getElem?_toList,hc];rfl
theorem tSyn:(Tryz.prog.globals[1]?).map (·.type)=some 285:=by kernel_rfl
theorem tRng:(Tryz.prog.globals[2]?).map (·.type)=some 285:=by kernel_rfl
theorem uErr:Tryz.prog.underlying 285=some (.interface (Tryz.prog.methodsAt 285)):=by kernel_rfl
theorem tTab:(Tryz.prog.globals[3]?).map (·.type)=some 327:=by kernel_rfl
theorem ex_of {W:World} (h:Lib.VarReads Tryz.prog W "internal/strconv.uint64pow10" Rows.laid_internal_strconv_uint64pow10):Ex (covs []) W:=by
 obtain⟨g',t',cs,fuel,p,h1,h2,h3,h4⟩:=h
 obtain rfl:=Option.some.inj (gTab.symm.trans h1)
 obtain rfl:=Option.some.inj (tTab.symm.trans h2)
 have hc:=Lib.cells_of_tab (k:= .u64) (zs:=Lib.pow10Tab) (show Tryz.prog.underlying 327=some (.array 20 124) by kernel_rfl) kr kr kr h4
 intro q hq
 obtain rfl:q=(3,_):=by simpa [exL]using hq
 refine⟨?_,fun o ⟨x,hx,_⟩=>by cases hx⟩
 unfold World.var? at h3
 rw[gTab]at h3
 simp only[Option.bind_some]at h3
 cases ho:W.heap[3]? with
 | none=>rw[ho]at h3;cases h3
 | some ob=>
  rw[ho]at h3
  cases ob<;>simp at h3
  rename_i c T fr
  subst h3
  exact⟨T,fr,by rw[show c=(Lib.pow10Tab.map fun z=>Value.int .u64 z).toArray from Array.toList_inj.1 hc];rfl⟩
theorem env_of {W:World} (h1:Lib.VarReads Tryz.prog W "strconv.ErrSyntax" Rows.laid_strconv_ErrSyntax) (h2:Lib.VarReads Tryz.prog W "strconv.ErrRange" Rows.laid_strconv_ErrRange) (hs:W.ShapedOpen Tryz.prog):Env (Gw W) where
 syn:=cell_of_iface gSyn tSyn uErr h1
 rng:=cell_of_iface gRng tRng uErr h2
 mxl:=by
  have h:=cell_of_shapedOpen_int (P:=Tryz.prog) (w:=W) (g:=0) (t:=3) (zero:= #[.int .i64 0]) (k:= .i64) hs (of_decide_eq_true kr) kr rfl kr kr kr
  obtain⟨m,hm⟩:=h
  exact⟨m,hm⟩
end
section
open Go.RowKit Go.ChangeShapes Go.WideShapes Go.MapKept
theorem bulk_part {H:Type} {d:DataW H} {l:List (DataW H)} (h:d∈l):Rows.uptoBulk d≤Rows.uptoBulkAll l:=by
 induction l with
 | nil=>cases h
 | cons x r ih=>
  simp only[Rows.uptoBulkAll]
  rcases List.mem_cons.1 h with rfl | h
  ·omega
  ·have:=ih h;omega
theorem bulk_one {H:Type} (d:DataW H):1≤Rows.uptoBulk d:=by
 cases d with
 | lit l=>cases l<;>simp[Rows.uptoBulk]
 | nil=>simp[Rows.uptoBulk]
 | ptr d=>simp[Rows.uptoBulk]
 | slice elems spare=>simp[Rows.uptoBulk]
 | agg parts=>simp[Rows.uptoBulk]
 | iface t d=>simp[Rows.uptoBulk]
 | map entries=>simp[Rows.uptoBulk]
 | held h=>simp[Rows.uptoBulk]
theorem bulk_of {H:Type} {l:List (DataW H)} (h:Rows.uptoSmall H l=true) {d:DataW H} (hd:d∈l):Rows.uptoBulk d≤1048576:=
 Nat.le_trans (bulk_part hd) (of_decide_eq_true h)
section
variable {H:Type} (enc:TypeId×Value→H) (P:Program) (w:World)
def OpensU (t:TypeId) {α:Type} (k:Kd α) (B:α→Prop):Prop:=
 ∀fuel cs d ps,DataW.trod enc P w 0 (fun _=>true) true fuel t cs=some (d,ps)→Rows.uptoBulk d≤1048576→∃a,k.K (Gw w) a cs∧B a
end
theorem witness_row {H:Type} {enc:TypeId×Value→H} {C:Checked} {os:Os} {f:FuncId} {fn:Func} {s:OpenSpec} {conds:List PathCond} {apart:Bool} {laid:List (String×DataW Unit)} (modest:Bool) (w0:World) (args:Array Value) (hos:w0.os=os)
  (hsh:(w0.forCall (fun _ _=>0) ⟨#[],args,[]⟩).Shaped C.prog) (hok:Input.okWideB C.prog (w0.forCall (fun _ _=>0) ⟨#[],args,[]⟩) f ⟨#[],args,[]⟩=true)
  (hrow:s.preRow enc C.prog fn conds apart laid (w0.forCall (fun _ _=>0) ⟨#[],args,[]⟩).memory args):
  ∃(w:World) (tape:Tape) (i:Input),w.os=os∧(w.forCall tape i).Shaped C.prog∧i.vars=[]∧Input.okWide C.prog (w.forCall tape i) .any w.heap.size f i∧
   s.preRow enc C.prog fn conds apart laid (w.forCall tape i).memory i.args∧({ modest:=modest } :Assume).holds C.prog (lone (Frame.enter C.prog f i.args .normal) [] (w.forCall tape i)):=
 ⟨w0,fun _ _=>0,⟨#[],args,[]⟩,hos,hsh,(Input.okWide_of_okWideB (base:=0) hok).1,(Input.okWide_of_okWideB hok).2,hrow,by
  simp only[Assume.holds]
  exact⟨by simp,by simp,fun _=>Modest.zero,by simp,by simp⟩⟩
theorem elist2 {α:Type} {l:List α} (h:l.length=2):∃a b,l=[a,b]:=match l,h with | [a,b],_=>⟨a,b,rfl⟩
theorem elist4 {α:Type} {l:List α} (h:l.length=4):∃a b c d,l=[a,b,c,d]:=match l,h with | [a,b,c,d],_=>⟨a,b,c,d,rfl⟩
theorem elist6 {α:Type} {l:List α} (h:l.length=6):∃a b c d e f,l=[a,b,c,d,e,f]:=match l,h with | [a,b,c,d,e,f],_=>⟨a,b,c,d,e,f,rfl⟩
theorem ecellsV:Tryz.prog.cellsOf 52=4:=by kernel_rfl
theorem ecellsI:Tryz.prog.cellsOf 50=2:=by kernel_rfl
theorem ecellsP:Tryz.prog.cellsOf 47=6:=by kernel_rfl
theorem ecellsN:Tryz.prog.cellsOf 56=4:=by kernel_rfl
theorem ecellsO:Tryz.prog.cellsOf 38=4:=by kernel_rfl
theorem ecells_int:Tryz.prog.cellsOf 3=1:=by kernel_rfl
theorem ecells_typ:Tryz.prog.cellsOf 44=1:=by kernel_rfl
theorem ecells_cod:Tryz.prog.cellsOf 48=1:=by kernel_rfl
theorem ecells_i64:Tryz.prog.cellsOf 2=1:=by kernel_rfl
theorem ecells_bool:Tryz.prog.cellsOf 4=1:=by kernel_rfl
theorem ecells_str:Tryz.prog.cellsOf 9=1:=by kernel_rfl
theorem ecells_lv:Tryz.prog.cellsOf 23=1:=by kernel_rfl
theorem ecells_ln:Tryz.prog.cellsOf 31=1:=by kernel_rfl
theorem ecells_lp:Tryz.prog.cellsOf 24=1:=by kernel_rfl
theorem ecells_li:Tryz.prog.cellsOf 45=1:=by kernel_rfl
theorem ecells_lt:Tryz.prog.cellsOf 43=1:=by kernel_rfl
section
attribute [local irreducible] Tryz.prog
variable {H:Type} (enc:TypeId×Value→H) (w:World)
end
end
section
attribute [local irreducible] Tryz.prog
theorem clone_vals (G:Gh) (H:List Own) (A:Option Addr) (n cap:Nat) (cs:List Value) (hr:Rds G H A cs) (hl:cs.length=n*4) (h1:cs.all (·.oneCell')=true) (hA:A=none→n=0) (hb:n*40≤140737488355328):
  Fn Tryz.prog 143 #[.slice A n cap] G H fun e G' H'=>∃A' cap' x',e= .returned (.slice A' n cap')∧G=G'∧H'=x'::H∧Vec 52 4 A' n cap' cs x':=by
 refine Fn.enter Tryz.func143 rfl rfl fun w0=>?_
 refine WC.seq ?_
 refine WC.region ?_
 refine zw.assign ?_
 refine WL.nil ?_
 refine WK.un ?_
 refine WC.seq ?_
 refine WC.seq ?_
 refine WC.region ?_
 refine zw.move ?_
 refine zw.eq ?_
 refine WL.nil ?_
 refine WK.un ?_
 refine WC.cond rfl (fun hc=>?_) (fun hc=>?_)
 ·refine WC.seq ?_
  refine WC.region ?_
  refine zw.assign ?_
  refine WL.nil ?_
  refine WK.un ?_
  refine WC.ret ?_
  have hA':A=none:=by simpa using hc
  have hn:=hA hA'
  subst hn
  have hcs:cs=[]:=List.eq_nil_of_length_eq_zero (by simpa using hl)
  subst hcs
  exact WK.nothing (QF.ret1 (.inl rfl) rfl (.tmp rfl) (List.Sublist.refl _) ⟨none,0,_,rfl,rfl,rfl,⟨by simp, .inl ⟨rfl,rfl,rfl,rfl⟩⟩⟩)
 ·
  refine WC.skip ?_
  refine WK.un ?_
  refine WC.seq ?_
  refine WC.region ?_
  refine WL.op kr (OW.buildSlice rfl kr kr (by rfl) rfl fun b1=>?_)
  refine zw.move ?_
  refine WL.oo (OW.append rfl rfl kr kr (Vec.empty rfl) .here (hr.cons _) hl h1 (by omega) (by omega) rfl fun A' cap' o' hv=>?_)
  refine zw.assign ?_
  refine WL.nil ?_
  refine WK.un ?_
  refine WC.ret ?_
  (refine WK.un ?_)
  exact QF.ret1 (.inl rfl) rfl (.tmp rfl) (List.Sublist.refl _) ⟨A',cap',o',by rw[Nat.zero_add],rfl,rfl,by simpa using hv⟩
theorem clone_procs (G:Gh) (H:List Own) (A:Option Addr) (n cap:Nat) (cs:List Value) (hr:Rds G H A cs) (hl:cs.length=n*6) (h1:cs.all (·.oneCell')=true) (hA:A=none→n=0) (hb:n*88≤140737488355328):
  Fn Tryz.prog 163 #[.slice A n cap] G H fun e G' H'=>∃A' cap' x',e= .returned (.slice A' n cap')∧G=G'∧H'=x'::H∧Vec 47 6 A' n cap' cs x':=by
 refine Fn.enter Tryz.func163 rfl rfl fun w0=>?_
 refine WC.seq ?_
 refine WC.region ?_
 refine zw.assign ?_
 refine WL.nil ?_
 refine WK.un ?_
 refine WC.seq ?_
 refine WC.seq ?_
 refine WC.region ?_
 refine zw.move ?_
 refine zw.eq ?_
 refine WL.nil ?_
 refine WK.un ?_
 refine WC.cond rfl (fun hc=>?_) (fun hc=>?_)
 ·refine WC.seq ?_
  refine WC.region ?_
  refine zw.assign ?_
  refine WL.nil ?_
  refine WK.un ?_
  refine WC.ret ?_
  have hA':A=none:=by simpa using hc
  have hn:=hA hA'
  subst hn
  have hcs:cs=[]:=List.eq_nil_of_length_eq_zero (by simpa using hl)
  subst hcs
  exact WK.nothing (QF.ret1 (.inl rfl) rfl (.tmp rfl) (List.Sublist.refl _) ⟨none,0,_,rfl,rfl,rfl,⟨by simp, .inl ⟨rfl,rfl,rfl,rfl⟩⟩⟩)
 ·
  refine WC.skip ?_
  refine WK.un ?_
  refine WC.seq ?_
  refine WC.region ?_
  refine WL.op kr (OW.buildSlice rfl kr kr (by rfl) rfl fun b1=>?_)
  refine zw.move ?_
  refine WL.oo (OW.append rfl rfl kr kr (Vec.empty rfl) .here (hr.cons _) hl h1 (by omega) (by omega) rfl fun A' cap' o' hv=>?_)
  refine zw.assign ?_
  refine WL.nil ?_
  refine WK.un ?_
  refine WC.ret ?_
  (refine WK.un ?_)
  exact QF.ret1 (.inl rfl) rfl (.tmp rfl) (List.Sublist.refl _) ⟨A',cap',o',by rw[Nat.zero_add],rfl,rfl,by simpa using hv⟩
theorem clone_instrs (G:Gh) (H:List Own) (A:Option Addr) (n cap:Nat) (cs:List Value) (hr:Rds G H A cs) (hl:cs.length=n*2) (h1:cs.all (·.oneCell')=true) (hA:A=none→n=0) (hb:n*16≤140737488355328):
  Fn Tryz.prog 80 #[.slice A n cap] G H fun e G' H'=>∃A' cap' x',e= .returned (.slice A' n cap')∧G=G'∧H'=x'::H∧Vec 50 2 A' n cap' cs x':=by
 refine Fn.enter Tryz.func80 rfl rfl fun w0=>?_
 refine WC.seq ?_
 refine WC.region ?_
 refine zw.assign ?_
 refine WL.nil ?_
 refine WK.un ?_
 refine WC.seq ?_
 refine WC.seq ?_
 refine WC.region ?_
 refine zw.move ?_
 refine zw.eq ?_
 refine WL.nil ?_
 refine WK.un ?_
 refine WC.cond rfl (fun hc=>?_) (fun hc=>?_)
 ·refine WC.seq ?_
  refine WC.region ?_
  refine zw.assign ?_
  refine WL.nil ?_
  refine WK.un ?_
  refine WC.ret ?_
  have hA':A=none:=by simpa using hc
  have hn:=hA hA'
  subst hn
  have hcs:cs=[]:=List.eq_nil_of_length_eq_zero (by simpa using hl)
  subst hcs
  exact WK.nothing (QF.ret1 (.inl rfl) rfl (.tmp rfl) (List.Sublist.refl _) ⟨none,0,_,rfl,rfl,rfl,⟨by simp, .inl ⟨rfl,rfl,rfl,rfl⟩⟩⟩)
 ·
  refine WC.skip ?_
  refine WK.un ?_
  refine WC.seq ?_
  refine WC.region ?_
  refine WL.op kr (OW.buildSlice rfl kr kr (by rfl) rfl fun b1=>?_)
  refine zw.move ?_
  refine WL.oo (OW.append rfl rfl kr kr (Vec.empty rfl) .here (hr.cons _) hl h1 (by omega) (by omega) rfl fun A' cap' o' hv=>?_)
  refine zw.assign ?_
  refine WL.nil ?_
  refine WK.un ?_
  refine WC.ret ?_
  (refine WK.un ?_)
  exact QF.ret1 (.inl rfl) rfl (.tmp rfl) (List.Sublist.refl _) ⟨A',cap',o',by rw[Nat.zero_add],rfl,rfl,by simpa using hv⟩
abbrev frC (A:Option Addr) (n cap:Nat) (p a:Int) (B:Option Addr) (m cm:Nat):Array Value:= #[.slice A n cap, .int .i64 p, .int .i64 a, .slice B m cm]
theorem high_fn (G:Gh) (b:Nat) (A:Option Addr) (n cap:Nat) (p a:Int) (B:Option Addr) (m cm:Nat):
  Fn Tryz.prog 210 #[.pointer (some ⟨b,0,none⟩)] G [.blk b (.cells (frC A n cap p a B m cm) 245 (0,0))] fun e G' H'=>e= .returned (.int .i64 n)∧G=G'∧H'=[.blk b (.cells (frC A n cap p a B m cm) 245 (0,0))]:=by
 refine Fn.enter Tryz.func210 rfl rfl fun w0=>?_
 refine WC.seq ?_
 refine WC.region ?_
 refine zw.assign ?_
 refine WL.nil ?_
 refine WK.un ?_
 refine WC.seq ?_
 refine WC.region ?_
 refine zw.move ?_
 refine zw.nil ?_
 refine zw.fa ?_
 refine zw.ld ?_
 refine zw.len ?_
 refine zw.assign ?_
 refine WL.nil ?_
 refine WK.un ?_
 refine WC.ret ?_
 (refine WK.un ?_)
 exact QF.ret1 (.inl rfl) rfl (.tmp rfl) (List.Sublist.refl _) ⟨rfl,rfl,rfl⟩
theorem push_fn (G:Gh) (b:Nat) (A:Option Addr) (n cap:Nat) (p a:Int) (B:Option Addr) (m cm:Nat) (cs:List Value) (x:Own) (v:V) (hv:Vec 52 4 A n cap cs x) (hb:n≤1000000000):
  Fn Tryz.prog 211 #[.pointer (some ⟨b,0,none⟩), .agg #[.int .i64 v.t, .int .i64 v.i, .bool v.b, .string v.s]] G [.blk b (.cells (frC A n cap p a B m cm) 245 (0,0)),x]
   fun e G' H'=>∃A' cap' x',e= .returned (.tuple #[])∧G=G'∧H'=[.blk b (.cells (frC A' (n+1) cap' p a B m cm) 245 (0,0)),x']∧Vec 52 4 A' (n+1) cap' (cs++vcells v) x':=by
 refine Fn.enter Tryz.func211 rfl rfl fun w0=>?_
 refine WC.seq ?_
 refine WC.region ?_
 refine WL.oo (OW.box rfl rfl fun b2=>?_)
 refine WL.nil ?_
 refine WK.un ?_
 refine WC.draw mixed ?_
 refine za.move 0 ?_
 refine za.move 1 ?_
 refine za.nil 2 ?_
 refine za.fa 3 ?_
 refine za.ld 4 ?_
 refine za.ld 5 ?_
 refine WA.one (i:=6) kr rfl kr (OW.buildSlice rfl kr kr (by rfl) rfl fun b3=>?_)
 refine WA.oo 7 rfl (OW.append rfl rfl kr kr hv atA (Rds.blk0 (cs:=vcells v) .here rfl) rfl rfl (by omega) (by omega) rfl fun A' cap' o' hv'=>?_)
 refine za.nil 8 ?_
 refine za.fa 9 ?_
 refine za.st 10 ?_
 exact WA.done kr (QF.ret0 (.inr rfl) rfl (.cons _ (.cons _ (List.Sublist.refl _))) ⟨A',cap',o',rfl,rfl,rfl,hv'⟩)
end
section
open Go.MapKept
attribute [local irreducible] Tryz.prog expL metL atL allPr joinP joinT' ptsO sumP sumC moveI
theorem sumC_snoc_le {l:List Ob} {i:Nat} {o:Ob} (h:l[i]? =some o):sumC (l.take i)+o.consts.length≤sumC l:=by
 induction l generalizing i with
 | nil=>simp at h
 | cons a r ih=>
  unfold sumC at ih⊢
  cases i with
  | zero=>simp at h;subst h;simp
  | succ i=>rw[List.take_succ_cons,List.map_cons,List.sum_cons,List.map_cons,List.sum_cons];have:=ih (by simpa using h);omega
structure JA where
 i:Nat
 es:Array MapEntry
 ck:Nat
 m:List (Ky×Value)
structure JL where
 i:Nat
 A1:Option Addr
 c1:Nat
 x1:Own
 A2:Option Addr
 c2:Nat
 x2:Own
 A3:Option Addr
 c3:Nat
 x3:Own
 G:Gh
abbrev pgmB (b:Nat) (A1 A2 A3:Option Addr) (n1 n2 n3 c1 c2 c3:Nat):Own:= .blk b (.cells #[.slice A1 n1 c1, .slice A2 n2 c2, .slice A3 n3 c3] 27 (0,0))
set_option maxRecDepth 20000 in
set_option maxHeartbeats 8000000 in
theorem ojoined_fn (G:Gh) (A:Option Addr) (cap:Nat) (l:List Ob) (hl:Sl Kd.ob G A l) (hL:LLim l) (hv:∀o∈l,(objAns o).2.2=0):
  Fn Tryz.prog 34 #[.slice A l.length cap] G [] fun e G' H'=>∃CA cc PA pc QA qc x1 x2 x3,e= .returned (.agg #[.slice CA (l.flatMap (·.consts)).length cc, .slice PA (joinP (allPr l) l 0 0).length pc, .slice QA (joinT' l 0).length qc])∧G.le G'∧
   KVec Kd.val 52 G' CA cc (l.flatMap (·.consts)) x1∧KVec Kd.prc 47 G' PA pc (joinP (allPr l) l 0 0) x2∧KVec Kd.pnt 54 G' QA qc (joinT' l 0) x3∧H'=[x1,x2,x3]:=by
 have hlen:=hL.len
 have hsp:=hL.sumP
 have hsc:=hL.sumC
 refine Fn.enter Tryz.func34 rfl rfl fun w0=>?_
 refine WC.seq ?_
 refine WC.region ?_
 refine WL.oo (OW.alloc rfl fun b2=>?_)
 refine gom ?_
 refine WL.oo (OW.alloc rfl fun b3=>?_)
 refine gom ?_
 refine WL.oo (OW.makeMap rfl fun bm=>?_)
 refine gom ?_
 refine WC.pick [.blk bm (.map #[] 0),pgmB b2 none none none 0 0 0 0 0 0,pgmB b3 none none none 0 0 0 0 0 0] ?_
 refine WC.loop (X:=JA) (fun x=>[(0, .slice A l.length cap),(2, .pointer (some ⟨b2,0,none⟩)),(3, .pointer (some ⟨b3,0,none⟩)),(4, .map (some bm)),(5, .int .i64 (sumP (l.take x.i):Int)),(20, .slice A l.length cap),(21, .int .i64 l.length),(22, .int .i64 x.i)]) (fun _=>G) (fun x=>[.blk bm (.map x.es x.ck),pgmB b2 none none none 0 0 0 0 0 0,pgmB b3 none none none 0 0 0 0 0 0]) (fun x=>l.length - x.i)
  (fun x=>x.i≤l.length∧MK kyV x.es x.ck x.m∧AtM x.m (allPr (l.take x.i))) ⟨0, #[],0,[]⟩ ⟨Nat.zero_le _,MK.empty,by dsimp only;rw[List.take_zero,show allPr []=[] by unfold allPr;rfl];exact AtM.nil⟩ (by exact⟨rfl,rfl,rfl,rfl,by rw[List.take_zero,show sumP []=0 by unfold sumP;rfl];rfl,rfl,rfl,rfl,trivial⟩) rfl (List.Sublist.refl _) fun x hx=>?_
 obtain⟨i,es,ck,m⟩:=x
 obtain⟨hi,hM,hA⟩:=hx
 dsimp only at hi hM hA
 have x2:=wrapS i (by omega)
 by_cases hlt:i<l.length
 rotate_left
 ·have e2:decide ((i:Int)<(l.length:Int))=false:=decide_eq_false (by omega)
  rw[List.take_of_length_le (by omega)]at hA
  refine gom ?_
  refine WC.nothing ?_
  refine WC.nothing ?_
  refine WC.nothing ?_
  refine WC.pick [.blk bm (.map es ck),pgmB b2 none none none 0 0 0 0 0 0,pgmB b3 none none none 0 0 0 0 0 0, .spare 0 0 0, .spare 0 0 0, .spare 0 0 0] ?_
  have hAM:=hA
  have hMM:=hM
  refine WC.loop (X:=JL) (fun x=>[(2, .pointer (some ⟨b2,0,none⟩)),(3, .pointer (some ⟨b3,0,none⟩)),(4, .map (some bm)),(44, .slice A l.length cap),(45, .int .i64 l.length),(46, .int .i64 x.i)]) (fun x=>x.G)
   (fun x=>[.blk bm (.map es ck),pgmB b2 none none none 0 0 0 0 0 0,pgmB b3 x.A1 x.A2 x.A3 ((l.take x.i).flatMap (·.consts)).length (joinP (allPr l) (l.take x.i) 0 0).length (joinT' (l.take x.i) 0).length x.c1 x.c2 x.c3,x.x1,x.x2,x.x3]) (fun x=>l.length - x.i)
   (fun x=>x.i≤l.length∧G.le x.G∧KVec Kd.val 52 x.G x.A1 x.c1 ((l.take x.i).flatMap (·.consts)) x.x1∧KVec Kd.prc 47 x.G x.A2 x.c2 (joinP (allPr l) (l.take x.i) 0 0) x.x2∧KVec Kd.pnt 54 x.G x.A3 x.c3 (joinT' (l.take x.i) 0) x.x3)
   ⟨0,none,0, .spare 0 0 0,none,0, .spare 0 0 0,none,0, .spare 0 0 0,G⟩ ⟨Nat.zero_le _,Gh.le_refl _,KVec.nil,by dsimp only;rw[List.take_zero,joinP];exact KVec.nil,by dsimp only;rw[List.take_zero,joinT'];exact KVec.nil⟩ (by exact⟨rfl,rfl,rfl,rfl,rfl,rfl,trivial⟩) rfl (by dsimp only;rw[List.take_zero,joinP,joinT'];exact List.Sublist.refl _) fun x hx=>?_
  obtain⟨i,A1,c1,x1,A2,c2,x2,A3,c3,x3,G1⟩:=x
  obtain⟨hi,hg1,hk1,hk2,hk3⟩:=hx
  dsimp only at hi hg1 hk1 hk2 hk3
  have z2:=wrapS i (by omega)
  by_cases hlt:i<l.length
  rotate_left
  ·have e2:decide ((i:Int)<(l.length:Int))=false:=decide_eq_false (by omega)
   have htl:l.take i=l:=List.take_of_length_le (by omega)
   rw[htl]at hk1 hk2 hk3
   refine gom ?_
   refine WC.rt ?_
   exact QF.p1 (.inl rfl) rfl (.cell rfl inferInstance inferInstance atA rfl rfl) (⟨A1,c1,A2,c2,A3,c3,x1,x2,x3,by rw[htl];rfl,hg1,hk1,hk2,hk3,rfl⟩)
  have e2:decide ((i:Int)<(l.length:Int))=true:=decide_eq_true (by omega)
  obtain⟨o,ho⟩:∃o,l[i]? =some o:=⟨_,List.getElem?_eq_getElem (by omega)⟩
  have hom:=List.mem_of_getElem? ho
  have x0:(0:Int)≤(i:Int):=by omega
  have x1':(i:Int)<(l.length:Int):=by omega
  have hl1:=hl.mono hg1
  obtain⟨ab,ao,cs,rfl,hks,hcs⟩:=hl1 i o ho
  obtain⟨CA,cc,NA,nc,PA,pc,rfl,hO⟩:=hks
  have htk:l.take (i+1)=l.take i++[o]:=take_snoc' ho
  have hsn:=sumP_snoc_le ho
  have hcn:=sumC_snoc_le ho
  have hfl:(l.take (i+1)).flatMap (·.consts)=(l.take i).flatMap (·.consts)++o.consts:=by rw[htk,List.flatMap_append];simp
  have hjs:joinP (allPr l) (l.take (i+1)) 0 0=joinP (allPr l) (l.take i) 0 0++o.procs.map (moveP (allPr l) o (sumC (l.take i)) (sumP (l.take i))):=by rw[htk,join_snoc,Nat.zero_add,Nat.zero_add]
  have hts:joinT' (l.take (i+1)) 0=joinT' (l.take i) 0++ptsO o.path o.procs (sumP (l.take i)):=by rw[htk,joinT_snoc,Nat.zero_add]
  have hcl:=consts_len (l.take i)
  have hjl:=join_len (allPr l) (l.take i) 0 0
  have htl:=joinT_len (l.take i) 0
  refine gom ?_
  refine WL.oo (OW.alloc rfl fun b11=>?_)
  refine gom ?_
  refine WL.oo (OW.appendS (k:=Kd.val) rfl rfl kr rfl hk1 atA hO.consts (by rw[hcl];omega) (by rw[hcl];omega) rfl fun A4 c4 x4 hk4=>?_)
  refine gom ?_
  refine WC.pick [.blk bm (.map es ck),pgmB b2 none none none 0 0 0 0 0 0,pgmB b3 A4 A2 A3 ((l.take i).flatMap (·.consts)++o.consts).length (joinP (allPr l) (l.take i) 0 0).length (joinT' (l.take i) 0).length c4 c2 c3, .blk b11 (.cells #[.string o.path, .slice CA o.consts.length cc, .slice NA o.needs.length nc, .slice PA o.procs.length pc] 38 (0,0)),x4,x2,x3] ?_
  refine WC.loop (X:=JL) (fun x=>[(2, .pointer (some ⟨b2,0,none⟩)),(3, .pointer (some ⟨b3,0,none⟩)),(4, .map (some bm)),(11, .pointer (some ⟨b11,0,none⟩)),(12, .int .i64 ((l.take i).flatMap (·.consts)).length),(13, .int .i64 (joinP (allPr l) (l.take i) 0 0).length),(44, .slice (some ⟨ab,ao,none⟩) l.length cap),(45, .int .i64 l.length),(46, .int .i64 i),(63, .slice PA o.procs.length pc),(64, .int .i64 o.procs.length),(65, .int .i64 x.i)]) (fun x=>x.G)
   (fun x=>[.blk bm (.map es ck),pgmB b2 none none none 0 0 0 0 0 0,pgmB b3 A4 x.A2 x.A3 ((l.take i).flatMap (·.consts)++o.consts).length (joinP (allPr l) (l.take i) 0 0++(o.procs.take x.i).map (moveP (allPr l) o (sumC (l.take i)) (sumP (l.take i)))).length (joinT' (l.take i) 0++ptsO o.path (o.procs.take x.i) (sumP (l.take i))).length c4 x.c2 x.c3, .blk b11 (.cells #[.string o.path, .slice CA o.consts.length cc, .slice NA o.needs.length nc, .slice PA o.procs.length pc] 38 (0,0)),x4,x.x2,x.x3]) (fun x=>o.procs.length - x.i)
   (fun x=>x.i≤o.procs.length∧G1.le x.G∧KVec Kd.prc 47 x.G x.A2 x.c2 (joinP (allPr l) (l.take i) 0 0++(o.procs.take x.i).map (moveP (allPr l) o (sumC (l.take i)) (sumP (l.take i)))) x.x2∧KVec Kd.pnt 54 x.G x.A3 x.c3 (joinT' (l.take i) 0++ptsO o.path (o.procs.take x.i) (sumP (l.take i))) x.x3)
   ⟨0,none,0, .spare 0 0 0,A2,c2,x2,A3,c3,x3,G1⟩ ⟨Nat.zero_le _,Gh.le_refl _,by dsimp only;rw[List.take_zero,List.map_nil,List.append_nil];exact hk2,by dsimp only;rw[List.take_zero,ptsO,List.append_nil];exact hk3⟩ (by exact⟨rfl,rfl,rfl,rfl,rfl,rfl,rfl,rfl,rfl,rfl,rfl,rfl,trivial⟩) rfl (by dsimp only;rw[List.take_zero,ptsO,List.map_nil,List.append_nil,List.append_nil];exact List.Sublist.refl _) fun x hx=>?_
  obtain⟨j,_,_,_,A2,c2,x2,A3,c3,x3,G2⟩:=x
  obtain⟨hj,hg2,hk2,hk3⟩:=hx
  dsimp only at hj hg2 hk2 hk3
  have y2:=wrapS j (by omega)
  by_cases hjlt:j<o.procs.length
  rotate_left
  ·have e4:decide ((j:Int)<(o.procs.length:Int))=false:=decide_eq_false (by omega)
   have htj:o.procs.take j=o.procs:=List.take_of_length_le (by omega)
   rw[htj,←hjs]at hk2
   rw[htj,←hts]at hk3
   refine gom ?_
   refine WK.pick [.blk bm (.map es ck),pgmB b2 none none none 0 0 0 0 0 0,pgmB b3 A4 A2 A3 ((l.take i).flatMap (·.consts)++o.consts).length (joinP (allPr l) (l.take i) 0 0++(o.procs.take j).map (moveP (allPr l) o (sumC (l.take i)) (sumP (l.take i)))).length (joinT' (l.take i) 0++ptsO o.path (o.procs.take j) (sumP (l.take i))).length c4 c2 c3,x4,x2,x3] ?_
   exact WK.again ⟨i+1,A4,c4,x4,A2,c2,x2,A3,c3,x3,G2⟩ (by dsimp only;omega) ⟨by show i+1≤_;omega,Gh.le_trans hg1 hg2,by dsimp only;rw[hfl];exact hk4.mono hg2,hk2,hk3⟩ (by exact⟨rfl,rfl,rfl,rfl,rfl,rfl,trivial⟩) rfl (by dsimp only;rw[hfl,hjs,hts,htj];exact List.Sublist.refl _)
  have e4:decide ((j:Int)<(o.procs.length:Int))=true:=decide_eq_true (by omega)
  obtain⟨p,hp⟩:∃p,o.procs[j]? =some p:=⟨_,List.getElem?_eq_getElem hjlt⟩
  have y0:(0:Int)≤(j:Int):=by omega
  have y1:(j:Int)<(o.procs.length:Int):=by omega
  have hO2:=hO.mono hg2
  obtain⟨pb,po,cs2,rfl,hks2,hcs2⟩:=hO2.procs j p hp
  obtain⟨QA,qc,IA,ic,rfl,hQ,hI⟩:=hks2
  have hpl:=hL.pp o hom p (List.mem_of_getElem? hp)
  refine gom ?_
  refine WL.oo (OW.alloc rfl fun b15=>?_)
  refine gom ?_
  refine WL.oo (OW.callK rfl (clone_types G2 [] QA p.params.length qc (ints p.params) hQ.ints (ints_length _) (ints_one _) hQ.none_len (by omega)) rfl fun v' G' H' h hg=>?_)
  obtain⟨QA',qc',xq,he,rfl,rfl,hxq⟩:=h
  cases he
  refine WL.frozenVec hxq atA fun G3 hg3 z3=>?_
  have hQ3:Sl (Kd.int .i64) G3 QA' p.params:=IVec.sl z3
  refine WL.pick [.blk b15 (.cells #[.string p.name, .bool p.exp, .slice QA p.params.length qc, .int .i64 p.locals, .int .i64 p.result, .slice IA p.code.length ic] 47 (0,0)), .blk bm (.map es ck),pgmB b2 none none none 0 0 0 0 0 0,pgmB b3 A4 A2 A3 ((l.take i).flatMap (·.consts)++o.consts).length (joinP (allPr l) (l.take i) 0 0++(o.procs.take j).map (moveP (allPr l) o (sumC (l.take i)) (sumP (l.take i)))).length (joinT' (l.take i) 0++ptsO o.path (o.procs.take j) (sumP (l.take i))).length c4 c2 c3, .blk b11 (.cells #[.string o.path, .slice CA o.consts.length cc, .slice NA o.needs.length nc, .slice (some ⟨pb,po,none⟩) o.procs.length pc] 38 (0,0)),x4,x2,x3] ?_
  refine gom ?_
  have hI3:=hI.mono hg3
  obtain⟨ics,hir,hik⟩:=Sl.kfl (H:=[]) (by decide) hI3
  refine WL.oo (OW.callK rfl (clone_instrs G3 [] IA p.code.length ic ics hir hik.len hik.one' hI3.none_zero (by omega)) rfl fun v' G' H' h hg=>?_)
  obtain⟨IA',ic',x5,he,rfl,rfl,hx5⟩:=h
  cases he
  have hk5:KVec Kd.ins 50 G3 IA' ic' (mvT (moveI (allPr l) o (sumC (l.take i)) (sumP (l.take i))) p.code 0) x5:=by rw[mvT_zero];exact⟨ics,hx5,hik⟩
  refine WL.pick [x5, .blk b15 (.cells #[.string p.name, .bool p.exp, .slice QA' p.params.length qc', .int .i64 p.locals, .int .i64 p.result, .slice IA p.code.length ic] 47 (0,0)), .blk bm (.map es ck),pgmB b2 none none none 0 0 0 0 0 0,pgmB b3 A4 A2 A3 ((l.take i).flatMap (·.consts)++o.consts).length (joinP (allPr l) (l.take i) 0 0++(o.procs.take j).map (moveP (allPr l) o (sumC (l.take i)) (sumP (l.take i)))).length (joinT' (l.take i) 0++ptsO o.path (o.procs.take j) (sumP (l.take i))).length c4 c2 c3, .blk b11 (.cells #[.string o.path, .slice CA o.consts.length cc, .slice NA o.needs.length nc, .slice (some ⟨pb,po,none⟩) o.procs.length pc] 38 (0,0)),x4,x2,x3] ?_
  refine gom ?_
  refine WC.pick [x5, .blk b15 (.cells #[.string p.name, .bool p.exp, .slice QA' p.params.length qc', .int .i64 p.locals, .int .i64 p.result, .slice IA' p.code.length ic'] 47 (0,0)), .blk bm (.map es ck),pgmB b2 none none none 0 0 0 0 0 0,pgmB b3 A4 A2 A3 ((l.take i).flatMap (·.consts)++o.consts).length (joinP (allPr l) (l.take i) 0 0++(o.procs.take j).map (moveP (allPr l) o (sumC (l.take i)) (sumP (l.take i)))).length (joinT' (l.take i) 0++ptsO o.path (o.procs.take j) (sumP (l.take i))).length c4 c2 c3, .blk b11 (.cells #[.string o.path, .slice CA o.consts.length cc, .slice NA o.needs.length nc, .slice (some ⟨pb,po,none⟩) o.procs.length pc] 38 (0,0)),x4,x2,x3] ?_
  refine WC.loop (X:=Nat×Own) (fun x=>[(2, .pointer (some ⟨b2,0,none⟩)),(3, .pointer (some ⟨b3,0,none⟩)),(4, .map (some bm)),(11, .pointer (some ⟨b11,0,none⟩)),(12, .int .i64 ((l.take i).flatMap (·.consts)).length),(13, .int .i64 (joinP (allPr l) (l.take i) 0 0).length),(15, .pointer (some ⟨b15,0,none⟩)),(44, .slice (some ⟨ab,ao,none⟩) l.length cap),(45, .int .i64 l.length),(46, .int .i64 i),(63, .slice (some ⟨pb,po,none⟩) o.procs.length pc),(64, .int .i64 o.procs.length),(65, .int .i64 j),(79, .int .i64 p.code.length),(80, .int .i64 x.1)]) (fun _=>G3)
   (fun x=>[x.2, .blk b15 (.cells #[.string p.name, .bool p.exp, .slice QA' p.params.length qc', .int .i64 p.locals, .int .i64 p.result, .slice IA' p.code.length ic'] 47 (0,0)), .blk bm (.map es ck),pgmB b2 none none none 0 0 0 0 0 0,pgmB b3 A4 A2 A3 ((l.take i).flatMap (·.consts)++o.consts).length (joinP (allPr l) (l.take i) 0 0++(o.procs.take j).map (moveP (allPr l) o (sumC (l.take i)) (sumP (l.take i)))).length (joinT' (l.take i) 0++ptsO o.path (o.procs.take j) (sumP (l.take i))).length c4 c2 c3, .blk b11 (.cells #[.string o.path, .slice CA o.consts.length cc, .slice NA o.needs.length nc, .slice (some ⟨pb,po,none⟩) o.procs.length pc] 38 (0,0)),x4,x2,x3]) (fun x=>p.code.length - x.1)
   (fun x=>x.1≤p.code.length∧KVec Kd.ins 50 G3 IA' ic' (mvT (moveI (allPr l) o (sumC (l.take i)) (sumP (l.take i))) p.code x.1) x.2) (0,x5) ⟨Nat.zero_le _,hk5⟩ (by exact⟨rfl,rfl,rfl,rfl,rfl,rfl,rfl,rfl,rfl,rfl,rfl,rfl,rfl,rfl,rfl,trivial⟩) rfl (List.Sublist.refl _) fun x hx=>?_
  obtain⟨k,x5⟩:=x
  obtain⟨hk,hk5⟩:=hx
  dsimp only at hk hk5
  have w2:=wrapS k (by omega)
  by_cases hklt:k<p.code.length
  rotate_left
  ·have e5:decide ((k:Int)<(p.code.length:Int))=false:=decide_eq_false (by omega)
   rw[mvT_all _ (by omega)]at hk5
   refine WC.freezeK (by decide) hk5 .here fun G4 hg4 hI4=>?_
   have hg24:=Gh.le_trans hg3 hg4
   have hlp1:(joinP (allPr l) (l.take i) 0 0++(o.procs.take j).map (moveP (allPr l) o (sumC (l.take i)) (sumP (l.take i)))).length=sumP (l.take i)+j:=by rw[List.length_append,hjl,List.length_map,List.length_take];omega
   have hxp1:(joinP (allPr l) (l.take i) 0 0++(o.procs.take (j+1)).map (moveP (allPr l) o (sumC (l.take i)) (sumP (l.take i))))=(joinP (allPr l) (l.take i) 0 0++(o.procs.take j).map (moveP (allPr l) o (sumC (l.take i)) (sumP (l.take i))))++[moveP (allPr l) o (sumC (l.take i)) (sumP (l.take i)) p]:=by rw[take_snoc' hp,List.map_append,List.append_assoc];rfl
   have hlq1:(joinT' (l.take i) 0++ptsO o.path (o.procs.take j) (sumP (l.take i))).length≤sumP (l.take i)+j:=by
    have:=pts_len o.path (o.procs.take j) (sumP (l.take i))
    rw[List.length_take]at this
    rw[List.length_append];omega
   cases hx:p.exp with
   | false=>
    have hxq1:(joinT' (l.take i) 0++ptsO o.path (o.procs.take (j+1)) (sumP (l.take i)))=(joinT' (l.take i) 0++ptsO o.path (o.procs.take j) (sumP (l.take i))):=by rw[take_snoc' hp,pts_snoc,hx,if_neg (by decide),List.append_nil]
    refine gom ?_
    refine WL.op kr (OW.buildSlice rfl kr kr (by rfl) rfl fun b150=>?_)
    refine WL.oo (OW.append1 (k:=Kd.prc) (news:=[.string p.name, .bool false, .slice QA' p.params.length qc', .int .i64 p.locals, .int .i64 p.result, .slice IA' p.code.length ic']) (u:=moveP (allPr l) o (sumC (l.take i)) (sumP (l.take i)) p) rfl rfl kr rfl (hk2.mono hg24) atA .here rfl ⟨QA',qc',IA',ic',by simp[moveP,hx],hQ3.mono hg4,hI4⟩ (by rw[hlp1];omega) (by rw[hlp1];omega) rfl fun A6 c6 x6 hk6=>?_)
    refine gom ?_
    refine WK.pick [.blk bm (.map es ck),pgmB b2 none none none 0 0 0 0 0 0,pgmB b3 A4 A6 A3 ((l.take i).flatMap (·.consts)++o.consts).length ((joinP (allPr l) (l.take i) 0 0++(o.procs.take j).map (moveP (allPr l) o (sumC (l.take i)) (sumP (l.take i))))++[moveP (allPr l) o (sumC (l.take i)) (sumP (l.take i)) p]).length (joinT' (l.take i) 0++ptsO o.path (o.procs.take j) (sumP (l.take i))).length c4 c6 c3, .blk b11 (.cells #[.string o.path, .slice CA o.consts.length cc, .slice NA o.needs.length nc, .slice (some ⟨pb,po,none⟩) o.procs.length pc] 38 (0,0)),x4,x6,x3] ?_
    exact WK.again ⟨j+1,none,0, .spare 0 0 0,A6,c6,x6,A3,c3,x3,G4⟩ (by dsimp only;omega) ⟨by show j+1≤_;omega,Gh.le_trans hg2 hg24,by dsimp only;rw[hxp1];exact hk6,by dsimp only;rw[hxq1];exact hk3.mono hg24⟩ (by exact⟨rfl,rfl,rfl,rfl,rfl,rfl,rfl,rfl,rfl,rfl,rfl,rfl,trivial⟩) rfl (by dsimp only;rw[hxp1,hxq1];exact List.Sublist.refl _)
   | true=>
    have hxq1:(joinT' (l.take i) 0++ptsO o.path (o.procs.take (j+1)) (sumP (l.take i)))=(joinT' (l.take i) 0++ptsO o.path (o.procs.take j) (sumP (l.take i)))++[⟨o.path,p.name,((sumP (l.take i)+j:Nat):Int)⟩]:=by rw[take_snoc' hp,pts_snoc,hx,if_pos rfl,List.length_take,←List.append_assoc,show min j o.procs.length=j by omega]
    refine gom ?_
    refine WL.op kr (OW.buildSlice rfl kr kr (by rfl) rfl fun b144=>?_)
    refine WL.oo (OW.append1 (k:=Kd.pnt) (news:=[.string o.path, .string p.name, .int .i64 ((joinP (allPr l) (l.take i) 0 0++(o.procs.take j).map (moveP (allPr l) o (sumC (l.take i)) (sumP (l.take i)))).length:Int)]) (u:=⟨o.path,p.name,((sumP (l.take i)+j:Nat):Int)⟩) rfl rfl kr rfl (hk3.mono hg24) atA .here rfl (by show _=[_,_,_];rw[hlp1]) (by omega) (by omega) rfl fun A7 c7 x7 hk7=>?_)
    refine gom ?_
    refine WL.op kr (OW.buildSlice rfl kr kr (by rfl) rfl fun b150=>?_)
    refine WL.oo (OW.append1 (k:=Kd.prc) (news:=[.string p.name, .bool true, .slice QA' p.params.length qc', .int .i64 p.locals, .int .i64 p.result, .slice IA' p.code.length ic']) (u:=moveP (allPr l) o (sumC (l.take i)) (sumP (l.take i)) p) rfl rfl kr rfl (hk2.mono hg24) atA .here rfl ⟨QA',qc',IA',ic',by simp[moveP,hx],hQ3.mono hg4,hI4⟩ (by rw[hlp1];omega) (by rw[hlp1];omega) rfl fun A6 c6 x6 hk6=>?_)
    refine gom ?_
    refine WK.pick [.blk bm (.map es ck),pgmB b2 none none none 0 0 0 0 0 0,pgmB b3 A4 A6 A7 ((l.take i).flatMap (·.consts)++o.consts).length ((joinP (allPr l) (l.take i) 0 0++(o.procs.take j).map (moveP (allPr l) o (sumC (l.take i)) (sumP (l.take i))))++[moveP (allPr l) o (sumC (l.take i)) (sumP (l.take i)) p]).length ((joinT' (l.take i) 0++ptsO o.path (o.procs.take j) (sumP (l.take i)))++[(⟨o.path,p.name,((sumP (l.take i)+j:Nat):Int)⟩:Pt)]).length c4 c6 c7, .blk b11 (.cells #[.string o.path, .slice CA o.consts.length cc, .slice NA o.needs.length nc, .slice (some ⟨pb,po,none⟩) o.procs.length pc] 38 (0,0)),x4,x6,x7] ?_
    exact WK.again ⟨j+1,none,0, .spare 0 0 0,A6,c6,x6,A7,c7,x7,G4⟩ (by dsimp only;omega) ⟨by show j+1≤_;omega,Gh.le_trans hg2 hg24,by dsimp only;rw[hxp1];exact hk6,by dsimp only;rw[hxq1];exact hk7⟩ (by exact⟨rfl,rfl,rfl,rfl,rfl,rfl,rfl,rfl,rfl,rfl,rfl,rfl,trivial⟩) rfl (by dsimp only;rw[hxp1,hxq1];exact List.Sublist.refl _)
  have e5:decide ((k:Int)<(p.code.length:Int))=true:=decide_eq_true (by omega)
  obtain⟨ins,hins⟩:∃ins,p.code[k]? =some ins:=⟨_,List.getElem?_eq_getElem hklt⟩
  have w0':(0:Int)≤(k:Int):=by omega
  have w1':(k:Int)<(p.code.length:Int):=by omega
  have hmv:=mvT_at (moveI (allPr l) o (sumC (l.take i)) (sumP (l.take i))) hins
  have hst:=mvT_step (moveI (allPr l) o (sumC (l.take i)) (sumP (l.take i))) hins
  have hal:aloneR o.wd p ins=0:=(outAt_zero (w:=o.wd) hp (allR_zero (objAns_zero (hv o hom)).2 j (List.getElem?_eq_some_iff.1 hp).1)).2.2.1 k ins hins
  obtain⟨c,n⟩:=ins
  obtain⟨al1,al2,al3⟩:=aloneR_zero hal
  obtain⟨am1,am2,am3⟩:=mayR_le al1
  dsimp only at am1 am2
  obtain⟨cb,cd,rfl,rfl⟩:=hk5.isBlk (by rw[mvT_len];omega)
  have hat:=InsK.at hk5 hmv
  have hidx0:0+((k:Nat):Int).toNat*2+0=k*2:=by simp
  have hidx:0+((k:Nat):Int).toNat*2+1=k*2+1:=by simp
  have hidw:0+((k:Nat):Int).toNat*2=k*2:=by simp
  refine gom ?_
  refine WL.vv (Gv.load1 rfl atA (show cd[0+((k:Nat):Int).toNat*2+0]? =_ by rw[hidx0];exact hat.1)) ?_
  have hcn':sumC (l.take i)≤1048576:=by omega
  by_cases c1':c=1
  ·subst c1'
   have e6:((1:Int)==1)=true:=rfl
   have hmi:(moveI (allPr l) o (sumC (l.take i)) (sumP (l.take i))) (1,n)=(1,n+(((l.take i).flatMap (·.consts)).length:Int)):=by unfold moveI;rw[if_pos rfl,hcl]
   have hw6:IntKind.i64.wrap (n+(((l.take i).flatMap (·.consts)).length:Int))=n+(((l.take i).flatMap (·.consts)).length:Int):=wrapI (by omega) (by omega)
   have hp2:=InsK.put2 (z:=n+(((l.take i).flatMap (·.consts)).length:Int)) hk5 hmv
   have hp3:=hp2.2
   rw[←hmi,hst]at hp3
   refine gom ?_
   refine WL.vv (Gv.load1 rfl atA (show cd[0+((k:Nat):Int).toNat*2+1]? =_ by rw[hidx];exact hat.2)) ?_
   refine gom ?_
   refine WL.oo (OW.store rfl rfl atA rfl (by rfl) (by rfl) (show Nat.ble (0+((k:Nat):Int).toNat*2+1+1) cd.size=true by rw[hidx];exact hp2.1) (by rfl) ?_ rfl)
   refine gom ?_
   rw[hidx]
   refine WK.pick [.blk cb (.cells (splice cd (k*2+1) [.int .i64 (n+(((l.take i).flatMap (·.consts)).length:Int))]) 50 (0,0)), .blk b15 (.cells #[.string p.name, .bool p.exp, .slice QA' p.params.length qc', .int .i64 p.locals, .int .i64 p.result, .slice (some ⟨cb,0,none⟩) p.code.length ic'] 47 (0,0)), .blk bm (.map es ck),pgmB b2 none none none 0 0 0 0 0 0,pgmB b3 A4 A2 A3 ((l.take i).flatMap (·.consts)++o.consts).length (joinP (allPr l) (l.take i) 0 0++(o.procs.take j).map (moveP (allPr l) o (sumC (l.take i)) (sumP (l.take i)))).length (joinT' (l.take i) 0++ptsO o.path (o.procs.take j) (sumP (l.take i))).length c4 c2 c3, .blk b11 (.cells #[.string o.path, .slice CA o.consts.length cc, .slice NA o.needs.length nc, .slice (some ⟨pb,po,none⟩) o.procs.length pc] 38 (0,0)),x4,x2,x3] ?_
   exact WK.again ⟨k+1,_⟩ (by dsimp only;omega) ⟨by show k+1≤_;omega,hp3⟩ (by exact⟨rfl,rfl,rfl,rfl,rfl,rfl,rfl,rfl,rfl,rfl,rfl,rfl,rfl,rfl,rfl,trivial⟩) rfl (List.Sublist.refl _)
  by_cases c7':c=7
  ·subst c7'
   have e6:((7:Int)==1)=false:=rfl
   have e7:((7:Int)==7)=true:=rfl
   have hmi:(moveI (allPr l) o (sumC (l.take i)) (sumP (l.take i))) (7,n)=(7,n+((joinP (allPr l) (l.take i) 0 0).length:Int)):=by unfold moveI;rw[if_neg (by dsimp only;decide),if_pos rfl,hjl]
   have hw6:IntKind.i64.wrap (n+((joinP (allPr l) (l.take i) 0 0).length:Int))=n+((joinP (allPr l) (l.take i) 0 0).length:Int):=wrapI (by omega) (by omega)
   have hp2:=InsK.put2 (z:=n+((joinP (allPr l) (l.take i) 0 0).length:Int)) hk5 hmv
   have hp3:=hp2.2
   rw[←hmi,hst]at hp3
   refine gom ?_
   refine WL.vv (Gv.load1 rfl atA (show cd[0+((k:Nat):Int).toNat*2+1]? =_ by rw[hidx];exact hat.2)) ?_
   refine gom ?_
   refine WL.oo (OW.store rfl rfl atA rfl (by rfl) (by rfl) (show Nat.ble (0+((k:Nat):Int).toNat*2+1+1) cd.size=true by rw[hidx];exact hp2.1) (by rfl) ?_ rfl)
   refine gom ?_
   rw[hidx]
   refine WK.pick [.blk cb (.cells (splice cd (k*2+1) [.int .i64 (n+((joinP (allPr l) (l.take i) 0 0).length:Int))]) 50 (0,0)), .blk b15 (.cells #[.string p.name, .bool p.exp, .slice QA' p.params.length qc', .int .i64 p.locals, .int .i64 p.result, .slice (some ⟨cb,0,none⟩) p.code.length ic'] 47 (0,0)), .blk bm (.map es ck),pgmB b2 none none none 0 0 0 0 0 0,pgmB b3 A4 A2 A3 ((l.take i).flatMap (·.consts)++o.consts).length (joinP (allPr l) (l.take i) 0 0++(o.procs.take j).map (moveP (allPr l) o (sumC (l.take i)) (sumP (l.take i)))).length (joinT' (l.take i) 0++ptsO o.path (o.procs.take j) (sumP (l.take i))).length c4 c2 c3, .blk b11 (.cells #[.string o.path, .slice CA o.consts.length cc, .slice NA o.needs.length nc, .slice (some ⟨pb,po,none⟩) o.procs.length pc] 38 (0,0)),x4,x2,x3] ?_
   exact WK.again ⟨k+1,_⟩ (by dsimp only;omega) ⟨by show k+1≤_;omega,hp3⟩ (by exact⟨rfl,rfl,rfl,rfl,rfl,rfl,rfl,rfl,rfl,rfl,rfl,rfl,rfl,rfl,rfl,trivial⟩) rfl (List.Sublist.refl _)
  by_cases c8':c=8
  ·subst c8'
   have e6:((8:Int)==1)=false:=rfl
   have e7:((8:Int)==7)=false:=rfl
   have e8:((8:Int)==8)=true:=rfl
   have hn8:n<(o.needs.length:Int):=by simpa [Ob.wd]using al3
   obtain⟨nd,hnd⟩:∃nd,o.needs[n.toNat]? =some nd:=⟨_,List.getElem?_eq_getElem (by omega)⟩
   have hO3:=hO2.mono hg3
   obtain⟨nb,no,cs3,rfl,hks3,hcs3⟩:=hO3.needs n.toNat nd hnd
   obtain⟨NQ,nqc,rfl,hNQ⟩:=hks3
   have hmi:(moveI (allPr l) o (sumC (l.take i)) (sumP (l.take i))) (8,n)=(7,atL (allPr l) (nd.path,nd.name)):=by unfold moveI;rw[if_neg (by dsimp only;decide),if_neg (by dsimp only;decide),if_pos rfl,hnd]
   have hp2:=InsK.put (y:=(7,atL (allPr l) (nd.path,nd.name))) hk5 hmv
   have hp3:KVec Kd.ins 50 G3 (some ⟨cb,0,none⟩) ic' (mvT (moveI (allPr l) o (sumC (l.take i)) (sumP (l.take i))) p.code (k+1)) (.blk cb (.cells (splice cd (k*2) [.int .i64 7, .int .i64 (atL (allPr l) (nd.path,nd.name))]) 50 (0,0))):=by
    rw[←hst,hmi];exact hp2.2.2
   refine gom ?_
   refine WQ.tv (Gv.load1 rfl atA (show cd[0+((k:Nat):Int).toNat*2+1]? =_ by rw[hidx];exact hat.2)) kr kr rfl ?_
   refine gom ?_
   refine WQ.one kr kr (OW.alloc rfl fun b18=>?_)
   refine WQ.one kr kr (OW.store rfl rfl atA rfl (by rfl) (by rfl) kr (by rfl) ?_ rfl)
   refine gom ?_
   refine WL.vv (Gv.lookupK (emb:=kyV) (key:=(nd.path,nd.name)) (kt:=140) (z:= .int .i64 0) rfl rfl atA hMM (hAM _)) ?_
   refine gom ?_
   refine WL.oo (OW.store rfl rfl atA rfl (by rfl) (by rfl) (show Nat.ble (0+((k:Nat):Int).toNat*2+2) cd.size=true by rw[hidw];exact hp2.2.1) (by rfl) ?_ rfl)
   refine gom ?_
   rw[hidw]
   refine WK.pick [.blk cb (.cells (splice cd (k*2) [.int .i64 7, .int .i64 (atL (allPr l) (nd.path,nd.name))]) 50 (0,0)), .blk b15 (.cells #[.string p.name, .bool p.exp, .slice QA' p.params.length qc', .int .i64 p.locals, .int .i64 p.result, .slice (some ⟨cb,0,none⟩) p.code.length ic'] 47 (0,0)), .blk bm (.map es ck),pgmB b2 none none none 0 0 0 0 0 0,pgmB b3 A4 A2 A3 ((l.take i).flatMap (·.consts)++o.consts).length (joinP (allPr l) (l.take i) 0 0++(o.procs.take j).map (moveP (allPr l) o (sumC (l.take i)) (sumP (l.take i)))).length (joinT' (l.take i) 0++ptsO o.path (o.procs.take j) (sumP (l.take i))).length c4 c2 c3, .blk b11 (.cells #[.string o.path, .slice CA o.consts.length cc, .slice (some ⟨nb,no,none⟩) o.needs.length nc, .slice (some ⟨pb,po,none⟩) o.procs.length pc] 38 (0,0)),x4,x2,x3] ?_
   exact WK.again ⟨k+1,_⟩ (by dsimp only;omega) ⟨by show k+1≤_;omega,hp3⟩ (by exact⟨rfl,rfl,rfl,rfl,rfl,rfl,rfl,rfl,rfl,rfl,rfl,rfl,rfl,rfl,rfl,trivial⟩) rfl (List.Sublist.refl _)
  have e6:(c==1)=false:=by simpa using c1'
  have e7:(c==7)=false:=by simpa using c7'
  have e8:(c==8)=false:=by simpa using c8'
  have hsame:(moveI (allPr l) o (sumC (l.take i)) (sumP (l.take i))) (c,n)=(c,n):=by unfold moveI;rw[if_neg c1',if_neg c7',if_neg c8']
  rw[mvT_same _ hins hsame]at hk5
  refine gom ?_
  refine WK.pick [.blk cb (.cells cd 50 (0,0)), .blk b15 (.cells #[.string p.name, .bool p.exp, .slice QA' p.params.length qc', .int .i64 p.locals, .int .i64 p.result, .slice (some ⟨cb,0,none⟩) p.code.length ic'] 47 (0,0)), .blk bm (.map es ck),pgmB b2 none none none 0 0 0 0 0 0,pgmB b3 A4 A2 A3 ((l.take i).flatMap (·.consts)++o.consts).length (joinP (allPr l) (l.take i) 0 0++(o.procs.take j).map (moveP (allPr l) o (sumC (l.take i)) (sumP (l.take i)))).length (joinT' (l.take i) 0++ptsO o.path (o.procs.take j) (sumP (l.take i))).length c4 c2 c3, .blk b11 (.cells #[.string o.path, .slice CA o.consts.length cc, .slice NA o.needs.length nc, .slice (some ⟨pb,po,none⟩) o.procs.length pc] 38 (0,0)),x4,x2,x3] ?_
  exact WK.again ⟨k+1,_⟩ (by dsimp only;omega) ⟨by show k+1≤_;omega,hk5⟩ (by exact⟨rfl,rfl,rfl,rfl,rfl,rfl,rfl,rfl,rfl,rfl,rfl,rfl,rfl,rfl,rfl,trivial⟩) rfl (List.Sublist.refl _)
 have e2:decide ((i:Int)<(l.length:Int))=true:=decide_eq_true (by omega)
 obtain⟨o,ho⟩:∃o,l[i]? =some o:=⟨_,List.getElem?_eq_getElem (by omega)⟩
 have x0:(0:Int)≤(i:Int):=by omega
 have x1:(i:Int)<(l.length:Int):=by omega
 obtain⟨ab,ao,cs,rfl,hks,hcs⟩:=hl i o ho
 obtain⟨CA,cc,NA,nc,PA,pc,rfl,hO⟩:=hks
 have htk:l.take (i+1)=l.take i++[o]:=take_snoc' ho
 have hsum:sumP (l.take (i+1))=sumP (l.take i)+o.procs.length:=by rw[htk];unfold sumP;simp
 have hsn:=sumP_snoc_le ho
 refine gom ?_
 refine WL.oo (OW.alloc rfl fun b7=>?_)
 refine gom ?_
 refine WC.pick [.blk b7 (.cells #[.string o.path, .slice CA o.consts.length cc, .slice NA o.needs.length nc, .slice PA o.procs.length pc] 38 (0,0)), .blk bm (.map es ck),pgmB b2 none none none 0 0 0 0 0 0,pgmB b3 none none none 0 0 0 0 0 0] ?_
 refine WC.loop (X:=JA) (fun x=>[(0, .slice (some ⟨ab,ao,none⟩) l.length cap),(2, .pointer (some ⟨b2,0,none⟩)),(3, .pointer (some ⟨b3,0,none⟩)),(4, .map (some bm)),(5, .int .i64 ((sumP (l.take i)+x.i:Nat):Int)),(7, .pointer (some ⟨b7,0,none⟩)),(20, .slice (some ⟨ab,ao,none⟩) l.length cap),(21, .int .i64 l.length),(22, .int .i64 i),(27, .slice PA o.procs.length pc),(28, .int .i64 o.procs.length),(29, .int .i64 x.i)]) (fun _=>G)
  (fun x=>[.blk b7 (.cells #[.string o.path, .slice CA o.consts.length cc, .slice NA o.needs.length nc, .slice PA o.procs.length pc] 38 (0,0)), .blk bm (.map x.es x.ck),pgmB b2 none none none 0 0 0 0 0 0,pgmB b3 none none none 0 0 0 0 0 0]) (fun x=>o.procs.length - x.i)
  (fun x=>x.i≤o.procs.length∧MK kyV x.es x.ck x.m∧AtM x.m (allPr (l.take i)++(o.procs.take x.i).map fun p=>(o.path,p))) ⟨0,es,ck,m⟩ ⟨Nat.zero_le _,hM,by dsimp only;rw[List.take_zero,List.map_nil,List.append_nil];exact hA⟩ (by exact⟨rfl,rfl,rfl,rfl,rfl,rfl,rfl,rfl,rfl,rfl,rfl,rfl,trivial⟩) rfl (List.Sublist.refl _) fun x hx=>?_
 obtain⟨j,es,ck,m⟩:=x
 obtain⟨hj,hM,hA⟩:=hx
 dsimp only at hj hM hA
 have y2:=wrapS j (by omega)
 by_cases hjl:j<o.procs.length
 rotate_left
 ·have e4:decide ((j:Int)<(o.procs.length:Int))=false:=decide_eq_false (by omega)
  obtain rfl:j=o.procs.length:=by omega
  refine gom ?_
  refine WK.pick [.blk bm (.map es ck),pgmB b2 none none none 0 0 0 0 0 0,pgmB b3 none none none 0 0 0 0 0 0] ?_
  exact WK.again ⟨i+1,es,ck,m⟩ (by dsimp only;omega) ⟨by show i+1≤_;omega,hM,by dsimp only;rw[htk,all_snoc];rw[List.take_length]at hA;exact hA⟩ (by exact⟨rfl,rfl,rfl,rfl,by rw[hsum];rfl,rfl,rfl,rfl,trivial⟩) rfl (List.Sublist.refl _)
 have e4:decide ((j:Int)<(o.procs.length:Int))=true:=decide_eq_true (by omega)
 obtain⟨p,hp⟩:∃p,o.procs[j]? =some p:=⟨_,List.getElem?_eq_getElem hjl⟩
 have y0:(0:Int)≤(j:Int):=by omega
 have y1:(j:Int)<(o.procs.length:Int):=by omega
 obtain⟨pb,po,cs2,rfl,hks2,hcs2⟩:=hO.procs j p hp
 obtain⟨QA,qc,IA,ic,rfl,hQ,hI⟩:=hks2
 have hlenA:(allPr (l.take i)++(o.procs.take j).map fun p=>(o.path,p)).length=sumP (l.take i)+j:=by rw[List.length_append,all_len,List.length_map,List.length_take];omega
 have hA1:=hA.snoc o.path p
 rw[hlenA,List.append_assoc]at hA1
 have hw3:IntKind.i64.wrap (((sumP (l.take i)+j:Nat):Int)+1)=((sumP (l.take i)+(j+1):Nat):Int):=wrapS _ (by omega)
 refine gom ?_
 refine WL.oo (OW.alloc rfl fun b9=>?_)
 refine gom ?_
 refine WL.oo (OW.mapSetK (emb:=kyV) (key:=(o.path,p.name)) (kt:=140) rfl rfl rfl atA hM rfl fun es2 ck2 hM2=>?_)
 refine gom ?_
 refine WK.pick [.blk b7 (.cells #[.string o.path, .slice CA o.consts.length cc, .slice NA o.needs.length nc, .slice (some ⟨pb,po,none⟩) o.procs.length pc] 38 (0,0)), .blk bm (.map es2 ck2),pgmB b2 none none none 0 0 0 0 0 0,pgmB b3 none none none 0 0 0 0 0 0] ?_
 exact WK.again ⟨j+1,es2,ck2,_⟩ (by dsimp only;omega) ⟨by show j+1≤_;omega,hM2,by dsimp only;rw[take_snoc' hp,List.map_append];exact hA1⟩ (by exact⟨rfl,rfl,rfl,rfl,rfl,rfl,rfl,rfl,rfl,rfl,rfl,rfl,trivial⟩) rfl (List.Sublist.refl _)
end
section
open Go.MapKept
attribute [local irreducible] Tryz.prog expL metL atL allPr joinP joinT' ptsO sumP sumC objAns
theorem errL_at:∀ {l:List Ob} {i:Nat} {o:Ob},(∀(j:Nat) y,j<i→l[j]? =some y→(objAns y).2.2=0)→l[i]? =some o→(objAns o).2.2≠0→errL l=(objAns o).2.2
 | [],i,o,_,h,_=>by simp at h
 | a::r,0,o,_,h,h1=>by
  simp at h;subst h
  unfold errL;rw[if_pos h1]
 | a::r,i+1,o,h0,h,h1=>by
  have ha:=h0 0 a (by omega) rfl
  unfold errL
  rw[if_neg (by simpa using ha)]
  exact errL_at (i:=i) (fun j y hj hy=>h0 (j+1) y (by omega) (by simpa using hy)) (by simpa using h) h1
def LinkP (G:Gh) (l:List Ob) (e:Ending) (G':Gh) (H':List Own):Prop:=
 G.le G'∧((linkE l≠0∧e= .returned (.tuple #[.agg #[.slice none 0 0, .slice none 0 0, .slice none 0 0], .int .i64 (linkE l)])∧H'=[])∨
  (linkE l=0∧∃CA cc PA pc QA qc x1 x2 x3,e= .returned (.tuple #[.agg #[.slice CA (l.flatMap (·.consts)).length cc, .slice PA (joinP (allPr l) l 0 0).length pc, .slice QA (joinT' l 0).length qc], .int .i64 0])∧
   KVec Kd.val 52 G' CA cc (l.flatMap (·.consts)) x1∧KVec Kd.prc 47 G' PA pc (joinP (allPr l) l 0 0) x2∧KVec Kd.pnt 54 G' QA qc (joinT' l 0) x3∧H'=[x1,x2,x3]))
structure LK where
 i:Nat
 G:Gh
structure LP where
 i:Nat
 pes:Array MapEntry
 pck:Nat
 pm:List (ByteArray×Value)
theorem sumP_snoc {l:List Ob} {i:Nat} {o:Ob} (h:l[i]? =some o):sumP (l.take (i+1))=sumP (l.take i)+o.procs.length:=by rw[take_snoc' h];unfold sumP;simp
theorem sumC_snoc {l:List Ob} {i:Nat} {o:Ob} (h:l[i]? =some o):sumC (l.take (i+1))=sumC (l.take i)+o.consts.length:=by rw[take_snoc' h];unfold sumC;simp
set_option maxRecDepth 20000 in
set_option maxHeartbeats 4000000 in
theorem Link_fn (G:Gh) (hE:Env G) (A:Option Addr) (cap:Nat) (l:List Ob) (hl:Sl Kd.ob G A l) (hL:LLim l):
  Fn Tryz.prog 12 #[.slice A l.length cap] G [] (LinkP G l):=by
 have hlen:=hL.len
 have hsp:=hL.sumP
 have hsc:=hL.sumC
 refine Fn.enter Tryz.func12 rfl rfl fun w0=>?_
 refine WC.seq ?_
 refine WC.region ?_
 refine WL.oo (OW.alloc rfl fun b2=>?_)
 refine gom ?_
 refine WL.oo (OW.makeMap rfl fun bm=>?_)
 refine gom ?_
 refine WC.loop (X:=LK) (fun x=>[(0, .slice A l.length cap),(2, .pointer (some ⟨b2,0,none⟩)),(4, .map (some bm)),(5, .int .i64 (sumP (l.take x.i):Int)),(6, .int .i64 (sumC (l.take x.i):Int)),(14, .slice A l.length cap),(15, .int .i64 l.length),(16, .int .i64 x.i)]) (fun x=>x.G) (fun x=>[.blk bm (.map #[] 0),pgmB b2 none none none 0 0 0 0 0 0]) (fun x=>l.length - x.i)
  (fun x=>x.i≤l.length∧G.le x.G∧∀(j:Nat) y,j<x.i→l[j]? =some y→(objAns y).2.2=0) ⟨0,G⟩ ⟨Nat.zero_le _,Gh.le_refl _,fun j y h=>absurd h (Nat.not_lt_zero _)⟩ (by exact⟨rfl,rfl,rfl,by rw[List.take_zero,show sumP []=0 by unfold sumP;rfl];rfl,by rw[List.take_zero,show sumC []=0 by unfold sumC;rfl];rfl,rfl,rfl,rfl,trivial⟩) rfl (List.Sublist.refl _) fun x hx=>?_
 obtain⟨i,G1⟩:=x
 obtain⟨hi,hg1,hok⟩:=hx
 dsimp only at hi hg1 hok
 have x2:=wrapS i (by omega)
 by_cases hlt:i<l.length
 rotate_left
 ·have e2:decide ((i:Int)<(l.length:Int))=false:=decide_eq_false (by omega)
  have hil:i=l.length:=by omega
  have hall:∀o∈l,(objAns o).2.2=0:=fun o ho=>by obtain⟨j,hj⟩:=List.mem_iff_getElem?.1 ho;exact hok j o (by have:=(List.getElem?_eq_some_iff.1 hj).1;omega) hj
  have hz:=errL_zero.2 hall
  refine gom ?_
  rw[List.take_of_length_le (show l.length≤i by omega)]
  refine WC.loop (X:=LP) (fun x=>[(0, .slice A l.length cap),(2, .pointer (some ⟨b2,0,none⟩)),(4, .map (some bm)),(5, .int .i64 (sumP l:Int)),(6, .int .i64 (sumC l:Int)),(40, .slice A l.length cap),(41, .int .i64 l.length),(42, .int .i64 x.i)]) (fun _=>G1) (fun x=>[.blk bm (.map x.pes x.pck),pgmB b2 none none none 0 0 0 0 0 0]) (fun x=>l.length - x.i)
   (fun x=>x.i≤l.length∧MRel Value.string .string x.pes x.pck x.pm∧CntM x.pm ((l.take x.i).map (·.path))∧((l.take x.i).map (·.path)).Nodup) ⟨0, #[],0,[]⟩ ⟨Nat.zero_le _,MRel.empty,CntM.nil,by simp⟩ (by exact⟨rfl,rfl,rfl,rfl,rfl,rfl,rfl,rfl,trivial⟩) rfl (List.Sublist.refl _) fun x hx=>?_
  obtain⟨i,pes,pck,pm⟩:=x
  obtain⟨hi,hP,hN,hnd⟩:=hx
  dsimp only at hi hP hN hnd
  have x2:=wrapS i (by omega)
  by_cases hlt:i<l.length
  rotate_left
  ·have e2:decide ((i:Int)<(l.length:Int))=false:=decide_eq_false (by omega)
   rw[List.take_of_length_le (by omega)]at hnd
   refine gom ?_
   refine WL.oo (OW.callK rfl (Missing_fn G1 A cap l (hl.mono hg1) hL) rfl fun v' G' H' h hg=>?_)
   obtain⟨MA,mc,xm,he,hg2,hK,rfl⟩:=h
   cases he
   have hmu:IntKind.i64.wrap 0=0:=rfl
   by_cases hm:missL l=[]
   rotate_left
   ·have e5:decide (0<((missL l).length:Int))=true:=decide_eq_true (by have:=List.length_pos_iff.2 hm;omega)
    have hle:linkE l=221:=linkE_miss.2 ⟨hall,hnd,hm⟩
    refine gom ?_
    refine WC.rt ?_
    exact QF.p2 (.inl rfl) rfl (.cell rfl inferInstance inferInstance atA rfl rfl) (.tmp rfl) (⟨Gh.le_trans hg1 hg2, .inl ⟨by rw[hle];decide,by rw[hle];rfl,rfl⟩⟩)
   have e5:decide (0<((missL l).length:Int))=false:=decide_eq_false (by rw[hm];decide)
   by_cases h1:4096<sumP l
   ·have e6:decide ((4096:Int)<(sumP l:Int))=true:=decide_eq_true (by omega)
    have hle:linkE l=53:=by unfold linkE;rw[if_neg (by simpa using hz),if_neg (by simpa using hnd),if_neg (by simpa using hm),if_pos (.inl h1)]
    refine gom ?_
    refine WC.rt ?_
    exact QF.p2 (.inl rfl) rfl (.cell rfl inferInstance inferInstance atA rfl rfl) (.tmp rfl) (⟨Gh.le_trans hg1 hg2, .inl ⟨by rw[hle];decide,by rw[hle];rfl,rfl⟩⟩)
   have e6:decide ((4096:Int)<(sumP l:Int))=false:=decide_eq_false (by omega)
   by_cases h2:65536<sumC l
   ·have e7:decide ((65536:Int)<(sumC l:Int))=true:=decide_eq_true (by omega)
    have hle:linkE l=53:=by unfold linkE;rw[if_neg (by simpa using hz),if_neg (by simpa using hnd),if_neg (by simpa using hm),if_pos (.inr h2)]
    refine gom ?_
    refine WC.rt ?_
    exact QF.p2 (.inl rfl) rfl (.cell rfl inferInstance inferInstance atA rfl rfl) (.tmp rfl) (⟨Gh.le_trans hg1 hg2, .inl ⟨by rw[hle];decide,by rw[hle];rfl,rfl⟩⟩)
   have e7:decide ((65536:Int)<(sumC l:Int))=false:=decide_eq_false (by omega)
   have hle:linkE l=0:=by unfold linkE;rw[if_neg (by simpa using hz),if_neg (by simpa using hnd),if_neg (by simpa using hm),if_neg (by omega)]
   refine gom ?_
   refine WL.pick [pgmB b2 none none none 0 0 0 0 0 0] ?_
   refine WL.oo (OW.callK rfl (ojoined_fn _ A cap l (hl.mono (Gh.le_trans hg1 hg2)) hL hall) rfl fun v' G' H' h hg=>?_)
   obtain⟨CA,cc,PA,pc,QA,qc,y1,y2,y3,he,hg3,k1,k2,k3,rfl⟩:=h
   cases he
   refine gom ?_
   refine WC.rt ?_
   exact QF.p2 (.inl rfl) rfl (.cell rfl inferInstance inferInstance atA rfl rfl) (.tmp rfl) (⟨Gh.le_trans hg1 (Gh.le_trans hg2 hg3), .inr ⟨hle,CA,cc,PA,pc,QA,qc,y1,y2,y3,rfl,k1,k2,k3,rfl⟩⟩)
  have e2:decide ((i:Int)<(l.length:Int))=true:=decide_eq_true (by omega)
  obtain⟨o,ho⟩:∃o,l[i]? =some o:=⟨_,List.getElem?_eq_getElem (by omega)⟩
  have x0:(0:Int)≤(i:Int):=by omega
  have x1:(i:Int)<(l.length:Int):=by omega
  have hl1:=hl.mono hg1
  obtain⟨ab,ao,cs,rfl,hks,hcs⟩:=hl1 i o ho
  obtain⟨CA,cc,NA,nc,PA,pc,rfl,hO⟩:=hks
  have hmap:(l.take (i+1)).map (·.path)=(l.take i).map (·.path)++[o.path]:=by rw[take_snoc' ho,List.map_append];rfl
  obtain⟨N,hNe⟩:∃N,N=cntS ((l.take i).map (·.path)) o.path:=⟨_,rfl⟩
  have hNl:N≤1048576:=by have:=cntS_le ((l.take i).map (·.path)) o.path;rw[←hNe]at this;simp at this;omega
  have hNv:=hN o.path
  rw[←hNe]at hNv
  have hw:=wrapS N (by omega)
  have hN1:=hN.snoc o.path
  rw[←hNe,←hmap]at hN1
  refine gom ?_
  refine WL.oo (OW.alloc rfl fun b12=>?_)
  refine gom ?_
  refine WL.vv (Gv.lookup (emb:=Value.string) (z:= .int .i64 0) rfl rfl atA hP hNv) ?_
  refine gom ?_
  refine WL.oo (OW.mapSet (emb:=Value.string) rfl rfl rfl atA hP rfl fun pes1 pck1 hP1=>?_)
  refine gom ?_
  refine WL.vv (Gv.lookup (emb:=Value.string) (z:= .int .i64 0) (v:= .int .i64 ((N+1:Nat):Int)) rfl rfl atA hP1 (by rw[getA_setA];rfl)) ?_
  by_cases hin:o.path∈(l.take i).map (·.path)
  ·have hN0:N≠0:=fun e=>by rw[e]at hNe;exact cntS_zero.1 hNe.symm hin
   have e3:decide ((1:Int)<((N+1:Nat):Int))=true:=decide_eq_true (by omega)
   have hnn:¬(l.map (·.path)).Nodup:=fun h=>by
    have h1:((l.take (i+1)).map (·.path)).Nodup:=h.sublist ((List.take_sublist _ _).map _)
    rw[hmap,List.nodup_append]at h1
    exact h1.2.2 _ hin _ (by simp) rfl
   have hle:linkE l=222:=by unfold linkE;rw[if_neg (by simpa using hz),if_pos hnn]
   refine gom ?_
   refine WC.rt ?_
   exact QF.p2 (.inl rfl) rfl (.cell rfl inferInstance inferInstance atA rfl rfl) (.tmp rfl) (⟨hg1, .inl ⟨by rw[hle];decide,by rw[hle];rfl,rfl⟩⟩)
  have hN0:N=0:=by rw[hNe];exact cntS_zero.2 hin
  have e3:decide ((1:Int)<((N+1:Nat):Int))=false:=decide_eq_false (by omega)
  have hnd1:((l.take (i+1)).map (·.path)).Nodup:=by
   rw[hmap,List.nodup_append]
   refine⟨hnd,by simp,fun a ha b hb e=>?_⟩
   obtain rfl:b=o.path:=by simpa using hb
   exact hin (e▸ha)
  refine gom ?_
  refine WK.pick [.blk bm (.map pes1 pck1),pgmB b2 none none none 0 0 0 0 0 0] ?_
  exact WK.again ⟨i+1,pes1,pck1,_⟩ (by dsimp only;omega) ⟨by show i+1≤_;omega,hP1,hN1,hnd1⟩ (by exact⟨rfl,rfl,rfl,rfl,rfl,rfl,rfl,rfl,trivial⟩) rfl (List.Sublist.refl _)
 have e2:decide ((i:Int)<(l.length:Int))=true:=decide_eq_true (by omega)
 obtain⟨o,ho⟩:∃o,l[i]? =some o:=⟨_,List.getElem?_eq_getElem (by omega)⟩
 have hom:=List.mem_of_getElem? ho
 have x0:(0:Int)≤(i:Int):=by omega
 have x1:(i:Int)<(l.length:Int):=by omega
 have hl1:=hl.mono hg1
 obtain⟨ab,ao,cs,rfl,hks,hcs⟩:=hl1 i o ho
 obtain⟨CA,cc,NA,nc,PA,pc,rfl,hO⟩:=hks
 have s1:=sumP_snoc ho
 have s2:=sumC_snoc ho
 have s3:=sumP_take_le l (i+1)
 have s4:=sumC_take_le l (i+1)
 have w1:IntKind.i64.wrap ((sumP (l.take i):Int)+(o.procs.length:Int))=(sumP (l.take (i+1)):Int):=by rw[wrapI (by omega) (by omega)];omega
 have w2:IntKind.i64.wrap ((sumC (l.take i):Int)+(o.consts.length:Int))=(sumC (l.take (i+1)):Int):=by rw[wrapI (by omega) (by omega)];omega
 refine gom ?_
 refine WL.oo (OW.alloc rfl fun b8=>?_)
 refine gom ?_
 refine WL.oo (OW.callK rfl (Object_fn G1 (hE.mono hg1) o CA NA PA cc nc pc hO (hL.lim o hom)) rfl fun v' G' H' h hg=>?_)
 obtain⟨he,hg2,rfl⟩:=h
 cases he
 refine gom ?_
 refine WL.oo (OW.alloc rfl fun b9=>?_)
 by_cases hz:(objAns o).2.2=0
 rotate_left
 ·have e3:((objAns o).2.2 != 0)=true:=by simpa using hz
  have hle:linkE l=(objAns o).2.2:=by unfold linkE;rw[errL_at hok ho hz,if_pos hz]
  refine gom ?_
  refine WC.rt ?_
  exact QF.p2 (.inl rfl) rfl (.cell rfl inferInstance inferInstance atA rfl rfl) (.tmp rfl) (⟨Gh.le_trans hg1 hg2, .inl ⟨by rw[hle];exact hz,by rw[hle];rfl,rfl⟩⟩)
 have e3:((objAns o).2.2 != 0)=false:=by simpa using hz
 refine gom ?_
 refine WK.pick [.blk bm (.map #[] 0),pgmB b2 none none none 0 0 0 0 0 0] ?_
 exact WK.again ⟨i+1,_⟩ (by dsimp only;omega) ⟨by show i+1≤_;omega,Gh.le_trans hg1 hg2,fun j y hj hy=>by
  rcases Nat.lt_or_ge j i with h | h
  ·exact hok j y h hy
  ·obtain rfl:j=i:=by dsimp only at hj;omega
   rw[ho]at hy;cases hy;exact hz⟩ (by exact⟨rfl,rfl,rfl,rfl,rfl,rfl,rfl,rfl,trivial⟩) rfl (List.Sublist.refl _)
end
section
open Go.MapKept
section
variable {L:List (Nat×Value)} {d:Option Tmp} {ty:TypeId} {pos:String} {af:Array Edge} {gu:Option (Nat×Bool)}
theorem Gp.rowN {x:Operand} {r:Rw} (hx:ev L x=some (.agg #[.string r.name, .bool r.n, .int .i64 r.takes, .int .i64 r.lays])):Gp Tryz.prog L ⟨d, .field 226 x 1,ty,pos,af,gu⟩ (.bool r.n):=fun a st w=>by
 have a0:=fun w=>(inferInstance:Agg Tryz.prog 4 false).h w
 simp[execOp,st.eval hx,Instr.field,part,asAgg,run_underlying Tryz.underlying226,a0,Result.andThen]
end
attribute [local irreducible] Tryz.prog
def nameE (c:Int):Int:=if(rowC c).name==⟨#[]⟩then 180 else 0
def findN (s:ByteArray):Int×Int:=match (List.range 26).find? (fun k:Nat=>(rowC ((k:Int)+1)).name==s)with | some k=>((k:Int)+1,0) | none=>(0,180)
def namesL:List ByteArray:=(rowsC.drop 1).map (·.name)
theorem ris_fn (G:Gh) (c:Int):Fn Tryz.prog 179 #[.int .i64 c] G [] fun e G' H'=>e= .returned (.bool (decide (1≤c)&&decide (c≤26)))∧G=G'∧H'=[]:=by
 refine Fn.enter Tryz.func179 rfl rfl fun w0=>?_
 cases h1:decide (1≤c)with
 | false=>
  refine gom ?_
  refine WC.rt ?_
  exact QF.p1 (.inl rfl) rfl (.tmp rfl) (⟨rfl,rfl,rfl⟩)
 | true=>
  refine gom ?_
  refine WC.rt ?_
  exact QF.p1 (.inl rfl) rfl (.tmp rfl) (⟨by rw[Bool.true_and],rfl,rfl⟩)
end
section
open Go.MapKept
section
variable {P:Program} {Q:Exit→Act→World→Prop} {cx:Cx} {L:List (Nat×Value)} {G:Gh} {H:List Own} {K:List (Nat×Value)→Gh→List Own→Prop} {ops:Array Oper} {rest:List Oper}
 {d:Option Tmp} {ty:TypeId} {pos:String} {af:Array Edge} {gu:Option (Nat×Bool)}
theorem OW.makeSlice2 {t e n by_:Nat} {z:Value} {x y:Operand} {k k':IntKind} {m c:Int} (hx:ev L x=some (.int k m)) (hy:ev L y=some (.int k' c)) [hu:Und P t (.slice e)] [hi:Inf P e n by_ z] (hz:z.cells.size=n)
  (h0:0≤m) (hmc:m≤c) (hb:(by_:Int)*c≤281474976710656) (h63:c≤9223372036854775807) (hd:dOk d cx.N=true)
  (kk:∀b x,Vec e n (some ⟨b,0,none⟩) m.toNat c.toNat (repS m.toNat z.cells.toList) x→K (putL d (.slice (some ⟨b,0,none⟩) m.toNat c.toNat) L) G (x::H)):OW P Q ⟨d, .makeSlice t x y,ty,pos,af,gu⟩ cx L G H K:=by
 refine OW.gives hd fun a w st=>?_
 obtain⟨ie,hi1,hi2,hi3,hi4⟩:=hi.info
 have hr:=run_make (P:=P) w t e ie z hu.h hi1 hi2 k k' m c h0 hmc (by rw[hi4];exact hb) h63
 have hc:madeCells z.cells (c.toNat*ie.size)=(repS c.toNat z.cells.toList).toArray:=by unfold madeCells;rw[hi3];exact base_repS z.cells n c.toNat hz
 rw[hc]at hr
 have hlen:∀q:Nat,(repS q z.cells.toList).length=q*n:=fun q=>by rw[repS_length,Array.length_toList,hz]
 have htk:(repS c.toNat z.cells.toList).take (m.toNat*n)=repS m.toNat z.cells.toList:=by
  obtain⟨r,hr⟩:∃r,c.toNat=m.toNat+r:=⟨c.toNat - m.toNat,by omega⟩
  rw[hr]
  have:∀q:Nat,repS (q+r) z.cells.toList=repS q z.cells.toList++repS r z.cells.toList:=fun q=>by
   induction q with
   | zero=>rw[Nat.zero_add];rfl
   | succ q ih=>rw[show q+1+r=(q+r)+1 by omega];simp only[repS];rw[ih,List.append_assoc]
  rw[this,List.take_append_of_le_length (by rw[hlen];exact Nat.le_refl _),List.take_of_length_le (by rw[hlen];exact Nat.le_refl _)]
 refine⟨_,_,G,_, .inl ?_,st.sat.alloc _,Stp.alloc _,kk w.heap.size (.blk w.heap.size (.cells (repS c.toNat z.cells.toList).toArray e (0,0))) ⟨hlen _, .inr ⟨_,_,rfl,rfl,by omega,by simp[hlen],by simpa using htk⟩⟩⟩
 simp only[execOp,Sem.run_bind,st.eval hx,st.eval hy,hr,Result.andThen_ok]
 rfl
end
section
variable {P:Program} {L:List (Nat×Value)} {d:Option Tmp} {ty:TypeId} {pos:String} {af:Array Edge} {gu:Option (Nat×Bool)}
theorem Gp.shrTo {t t':TypeId} {x y:Operand} {k k':IntKind} {m n r:Int} (hx:ev L x=some (.int k m)) (hy:ev L y=some (.int k' n)) (hn:0≤n) (hr:m / 2^min n.toNat k.bits=r):Gp P L ⟨d, .binOp .shr t x y t',ty,pos,af,gu⟩ (.int k r):=
 fun a st w=>by subst hr;simp[execOp,st.eval hx,st.eval hy,eqGuard_shr,binOp_shr,shift_shr_any k k' m n hn]
theorem Gp.orTo {t t':TypeId} {x y:Operand} {k:IntKind} {m n r:Int} (hx:ev L x=some (.int k m)) (hy:ev L y=some (.int k n)) (hr:bits .or k m n=r):Gp P L ⟨d, .binOp .or t x y t',ty,pos,af,gu⟩ (.int k r):=hr▸Gp.or hx hy
theorem Gp.convTo {s t:TypeId} {x:Operand} {k k':IntKind} {m r:Int} {ds:TypeDesc} (hx:ev L x=some (.int k m)) [hs:Und P s ds] [ht:Und P t (.int k')] (h:k'.wrap m=r):Gp P L ⟨d, .convert s t x,ty,pos,af,gu⟩ (.int k' r):=h▸Gp.convI hx
end
attribute [local irreducible] Tryz.prog
def uintL (n:Nat):List Int:=if h:n<128 then [(n:Int)]else((n%128+128:Nat):Int)::uintL (n / 128)
 termination_by n
 decreasing_by exact Nat.div_lt_self (by omega) (by omega)
theorem uintL_lt {n:Nat} (h:n<128):uintL n=[(n:Int)]:=by rw[uintL,dif_pos h]
theorem uintL_ge {n:Nat} (h:¬n<128):uintL n=((n%128+128:Nat):Int)::uintL (n / 128):=by rw[uintL,dif_neg h]
theorem uintL_length:∀(k n:Nat),n<128^(k+1)→(uintL n).length≤k+1
 | 0,n,h=>by rw[uintL_lt (by simpa using h)];simp
 | k+1,n,h=>by
  by_cases hn:n<128
  ·rw[uintL_lt hn];simp
  ·rw[uintL_ge hn,List.length_cons]
   have:=uintL_length k (n / 128) (by rw[Nat.div_lt_iff_lt_mul (by decide)];rw[Nat.pow_succ]at h;exact h)
   omega
theorem uintL_len10 {n:Nat} (h:n<18446744073709551616):(uintL n).length≤10:=uintL_length 9 n (by omega)
theorem or128:∀m:Nat,m<256→bits .or .u8 (m:Int) 128=((m%128+128:Nat):Int):=by decide+kernel
def u8s (l:List Int):List Value:=l.map (.int .u8)
abbrev BVec (A:Option Addr) (l:List Int) (cap:Nat) (x:Own):Prop:=Vec 5 1 A l.length cap (u8s l) x
theorem BVec.nil:BVec none [] 0 (.spare 0 0 0):=⟨rfl, .inl ⟨rfl,rfl,rfl,rfl⟩⟩
theorem u8s_length (l:List Int):(u8s l).length=l.length*1:=by simp[u8s]
theorem u8s_one (l:List Int):(u8s l).all (·.oneCell')=true:=by induction l with | nil=>rfl | cons b l ih=>simp[u8s,Value.oneCell']
theorem u8s_append (a b:List Int):u8s (a++b)=u8s a++u8s b:=by simp[u8s]
theorem BVec.snoc {A:Option Addr} {l:List Int} {cap:Nat} {x:Own} {z:Int} (h:Vec 5 1 A (l.length+1) cap (u8s l++[.int .u8 z]) x):BVec A (l++[z]) cap x:=by
 unfold BVec;rw[u8s_append,List.length_append];exact h
theorem u8w (m:Nat):IntKind.u8.wrap (m:Int)=((m%256:Nat):Int):=by simp[IntKind.wrap,IntKind.signed,IntKind.bits]
theorem short_fn (G:Gh) (A:Option Addr) (l:List Int) (cap:Nat) (x:Own) (hx:BVec A l cap x) (n:Nat) (hn:n<18446744073709551616) (hl:l.length≤100000000000000):
  Fn Tryz.prog 152 #[.slice A l.length cap, .int .u64 n] G [x] fun e G' H'=>∃A' cap' x',e= .returned (.slice A' (l++uintL n).length cap')∧G=G'∧BVec A' (l++uintL n) cap' x'∧H'=[x']:=by
 refine Fn.enter Tryz.func152 rfl rfl fun w0=>?_
 refine gom ?_
 have hlen0:=uintL_len10 hn
 refine WC.loop (X:=List Int×Nat×Option Addr×Nat×Own) (fun s=>[(0, .slice s.2.2.1 s.1.length s.2.2.2.1),(1, .int .u64 (s.2.1:Int))]) (fun _=>G) (fun s=>[s.2.2.2.2]) (fun s=>s.2.1) (fun s=>BVec s.2.2.1 s.1 s.2.2.2.1 s.2.2.2.2∧s.1++uintL s.2.1=l++uintL n∧s.2.1<18446744073709551616) (l,n,A,cap,x) ⟨hx,rfl,hn⟩ (by exact⟨rfl,rfl,trivial⟩) rfl (List.Sublist.refl _) fun s hs=>?_
 obtain⟨xs,m,B,c,o⟩:=s
 obtain⟨hv,heq,hm⟩:=hs
 dsimp only at hv heq hm
 have hlen:xs.length+(uintL m).length=l.length+(uintL n).length:=by rw[←List.length_append,heq,List.length_append]
 by_cases hlt:m<128
 ·have e2:decide ((128:Int)≤(m:Int))=false:=decide_eq_false (by omega)
  rw[uintL_lt hlt]at heq hlen
  simp at hlen
  refine gom ?_
  refine WL.pp (Gp.convTo (r:=(m:Int)) rfl (by rw[u8w,Nat.mod_eq_of_lt (by first | omega | (dsimp only;omega))])) ?_
  refine WL.op kr (OW.buildSlice rfl kr kr (by rfl) rfl fun b18=>?_)
  refine WL.oo (OW.append rfl rfl kr kr hv atA (Rds.blk0 (cs:=[.int .u8 (m:Int)]) .here rfl) rfl rfl (by dsimp only;omega) (by dsimp only;omega) rfl fun A3 c3 o3 hv3=>?_)
  have h3:=BVec.snoc hv3
  rw[heq]at h3
  have hl3:xs.length+1=(l++uintL n).length:=by rw[←heq,List.length_append];rfl
  refine gom ?_
  refine WC.rt ?_
  exact QF.p1 (.inl rfl) rfl (.tmp rfl) (⟨A3,c3,o3,by rw[hl3],rfl,h3,rfl⟩)
 ·have e2:decide ((128:Int)≤(m:Int))=true:=decide_eq_true (by omega)
  rw[uintL_ge hlt]at heq hlen
  rw[List.length_cons]at hlen
  refine gom ?_
  refine WL.pp (Gp.convTo (r:=((m%256:Nat):Int)) rfl (u8w m)) ?_
  refine WL.pp (Gp.orTo (r:=((m%128+128:Nat):Int)) rfl rfl (by rw[or128 _ (Nat.mod_lt _ (by decide)),Nat.mod_mod_of_dvd _ (by decide)])) ?_
  refine WL.op kr (OW.buildSlice rfl kr kr (by rfl) rfl fun b13=>?_)
  refine WL.oo (OW.append rfl rfl kr kr hv atA (Rds.blk0 (cs:=[.int .u8 ((m%128+128:Nat):Int)]) .here rfl) rfl rfl (by dsimp only;omega) (by dsimp only;omega) rfl fun A3 c3 o3 hv3=>?_)
  have h3:=BVec.snoc hv3
  refine gom ?_
  refine WL.pp (Gp.shrTo (r:=((m / 128:Nat):Int)) rfl rfl (by decide) (by show(m:Int) / 128=_;omega)) ?_
  refine gom ?_
  refine WK.pick [o3] ?_
  have hl3:xs.length+1=(xs++[((m%128+128:Nat):Int)]).length:=by rw[List.length_append];rfl
  exact WK.again (xs++[((m%128+128:Nat):Int)],m / 128,A3,c3,o3) (by dsimp only;omega) ⟨h3,by dsimp only;rw[←heq,List.append_assoc];rfl,by dsimp only;omega⟩ (by exact⟨by show _=some (Value.slice A3 _ c3);rw[←hl3];rfl,rfl,trivial⟩) rfl (List.Sublist.refl _)
end
section
open Go.MapKept
attribute [local irreducible] Tryz.prog
theorem fresh_fn (G:Gh) (A:Option Addr) (l:List Int) (cap:Nat) (x:Own) (hx:BVec A l cap x) (hl:l.length≤100000000000000):
  Fn Tryz.prog 151 #[.slice A l.length cap, .int .i64 10] G [x] fun e G' H'=>∃A' cap' x',e= .returned (.slice A' l.length cap')∧G=G'∧BVec A' l cap' x'∧H'=[x']:=by
 refine Fn.enter Tryz.func151 rfl rfl fun w0=>?_
 have x2:IntKind.i64.wrap ((l.length:Int)+10)=((l.length+10:Nat):Int):=by rw[wrapI (by omega) (by omega)];rfl
 refine gom ?_
 refine WL.oo (OW.makeSlice2 (n:=1) (z:= .int .u8 0) (m:=(l.length:Int)) (c:=((l.length+10:Nat):Int)) rfl rfl rfl (by omega) (by omega) (by omega) (by omega) rfl fun tb o1 ho1=>?_)
 rw[Int.toNat_natCast,Int.toNat_natCast]at ho1⊢
 refine gom ?_
 refine WL.oo (OW.copy rfl rfl kr ho1 .here (hx.rds (.there .here)) (u8s_length l) (u8s_one l) (Nat.le_refl _) rfl fun o2 ho2=>?_)
 have h2:BVec (some ⟨tb,0,none⟩) l (l.length+10) o2:=by
  unfold BVec
  rw[List.drop_eq_nil_of_le (by rw[repS_length];exact Nat.le_refl _),List.append_nil]at ho2
  exact ho2
 refine gom ?_
 refine WC.rt ?_
 exact QF.p1 (.inl rfl) rfl (.tmp rfl) (⟨_,_,o2,rfl,rfl,h2,rfl⟩)
theorem putUint_fn (G:Gh) (A:Option Addr) (l:List Int) (cap:Nat) (x:Own) (hx:BVec A l cap x) (n:Nat) (hn:n<18446744073709551616) (hl:l.length≤100000000000000):
  Fn Tryz.prog 108 #[.slice A l.length cap, .int .u64 n] G [x] fun e G' H'=>∃A' cap' x',e= .returned (.slice A' (l++uintL n).length cap')∧G=G'∧BVec A' (l++uintL n) cap' x'∧H'=[x']:=by
 refine Fn.enter Tryz.func108 rfl rfl fun w0=>?_
 refine gom ?_
 refine WL.oo (OW.callK rfl (fresh_fn G A l cap x hx hl) rfl fun v' G' H' h hg=>?_)
 obtain⟨A1,c1,x1,he,rfl,h1,rfl⟩:=h
 cases he
 refine gom ?_
 refine WL.oo (OW.callK rfl (short_fn G A1 l c1 x1 h1 n hn hl) rfl fun v' G' H' h hg=>?_)
 obtain⟨A2,c2,x2,he,rfl,h2,rfl⟩:=h
 cases he
 refine gom ?_
 refine WC.rt ?_
 exact QF.p1 (.inl rfl) rfl (.tmp rfl) (⟨_,_,x2,rfl,rfl,h2,rfl⟩)
theorem rowC_out {c:Int} (h:¬(1≤c∧c≤26)):rowC c=rw0:=by
 unfold rowC
 split
 ·rfl
 ·rw[List.getElem?_eq_none (by show 27≤c.toNat;omega)];rfl
theorem is_row (c:Int):(decide (1≤c)&&decide (c≤26))=((rowC c).name != ⟨#[]⟩):=by
 by_cases h:1≤c∧c≤26
 ·have hd:∀k:Nat,k<26→((rowC ((k:Int)+1)).name != ⟨#[]⟩)=true:=by decide+kernel
  obtain⟨k,rfl⟩:∃k:Nat,c=(k:Int)+1:=⟨(c - 1).toNat,by omega⟩
  rw[hd k (by omega),decide_eq_true h.1,decide_eq_true h.2];rfl
 ·rw[rowC_out h]
  rw[show(decide (1≤c)&&decide (c≤26))=false by simp;omega];rfl
def numbR (c:Int):Bool:=c==1 || c==2 || c==3 || c==5 || c==6 || c==7 || c==8
theorem numbR_row (c:Int):numbR c=(rowC c).n:=by
 by_cases h:1≤c∧c≤26
 ·have hd:∀k:Nat,k<26→numbR ((k:Int)+1)=(rowC ((k:Int)+1)).n:=by decide+kernel
  obtain⟨k,rfl⟩:∃k:Nat,c=(k:Int)+1:=⟨(c - 1).toNat,by omega⟩
  exact hd k (by omega)
 ·rw[rowC_out h]
  unfold numbR
  simp[rw0];omega
theorem numb_fn (G:Gh) (H:List Own) (c:Int):Fn Tryz.prog 155 #[.int .i64 c] G H fun e G' H'=>e= .returned (.bool (rowC c).n)∧G=G'∧H'=H:=by
 rw[←numbR_row]
 refine Fn.enter Tryz.func155 rfl rfl fun w0=>?_
 unfold numbR
 cases y1:(c==1)with
 | true=>
  refine gom ?_
  refine WC.rt ?_
  exact QF.p1 (.inl rfl) rfl (.tmp rfl) (⟨rfl,rfl,rfl⟩)
 | false=>
 cases y2:(c==2)with
 | true=>
  refine gom ?_
  refine WC.rt ?_
  exact QF.p1 (.inl rfl) rfl (.tmp rfl) (⟨rfl,rfl,rfl⟩)
 | false=>
 cases y3:(c==3)with
 | true=>
  refine gom ?_
  refine WC.rt ?_
  exact QF.p1 (.inl rfl) rfl (.tmp rfl) (⟨rfl,rfl,rfl⟩)
 | false=>
 cases y5:(c==5)with
 | true=>
  refine gom ?_
  refine WC.rt ?_
  exact QF.p1 (.inl rfl) rfl (.tmp rfl) (⟨rfl,rfl,rfl⟩)
 | false=>
 cases y6:(c==6)with
 | true=>
  refine gom ?_
  refine WC.rt ?_
  exact QF.p1 (.inl rfl) rfl (.tmp rfl) (⟨rfl,rfl,rfl⟩)
 | false=>
 cases y7:(c==7)with
 | true=>
  refine gom ?_
  refine WC.rt ?_
  exact QF.p1 (.inl rfl) rfl (.tmp rfl) (⟨rfl,rfl,rfl⟩)
 | false=>
  refine gom ?_
  refine WC.rt ?_
  exact QF.p1 (.inl rfl) rfl (.tmp rfl) (⟨by simp,rfl,rfl⟩)
theorem lone_fn (G:Gh) (c n:Int):Fn Tryz.prog 154 #[.agg #[.int .i64 c, .int .i64 n]] G [] fun e G' H'=>e= .returned (.bool (mayR c n))∧G=G'∧H'=[]:=by
 refine Fn.enter Tryz.func154 rfl rfl fun w0=>?_
 refine WC.seq ?_
 refine WC.region ?_
 refine WL.oo (OW.box rfl rfl fun b1=>?_)
 refine gom ?_
 refine WL.oo (OW.callK rfl (ris_fn G c) rfl fun v' G' H' h hg=>?_)
 obtain⟨he,rfl,rfl⟩:=h
 cases he
 rw[is_row,mayR]
 cases hb:((rowC c).name != ⟨#[]⟩)with
 | false=>
  refine gom ?_
  refine WC.rt ?_
  exact QF.p1 (.inl rfl) rfl (.tmp rfl) (⟨by simp,rfl,rfl⟩)
 | true=>
 cases h0:decide (0≤n)with
 | false=>
  refine gom ?_
  refine WC.rt ?_
  exact QF.p1 (.inl rfl) rfl (.tmp rfl) (⟨by simp,rfl,rfl⟩)
 | true=>
 cases h1:decide (n≤2147483647)with
 | false=>
  refine gom ?_
  refine WC.rt ?_
  exact QF.p1 (.inl rfl) rfl (.tmp rfl) (⟨by simp,rfl,rfl⟩)
 | true=>
 refine gom ?_
 refine WL.oo (OW.callK rfl (numb_fn G [] c) rfl fun v' G' H' h hg=>?_)
 obtain⟨he,rfl,rfl⟩:=h
 cases he
 cases h2:(rowC c).n with
 | true=>
  refine gom ?_
  refine WC.rt ?_
  exact QF.p1 (.inl rfl) rfl (.tmp rfl) (⟨by simp,rfl,rfl⟩)
 | false=>
  refine gom ?_
  refine WC.rt ?_
  exact QF.p1 (.inl rfl) rfl (.tmp rfl) (⟨by simp,rfl,rfl⟩)
end
section
open Go.MapKept
attribute [local irreducible] Tryz.prog
def mayI (i:Int×Int):Bool:=mayR i.1 i.2
def encI (i:Int×Int):List Int:=i.1::(if(rowC i.1).n then uintL i.2.toNat else [])
def encP (l:List (Int×Int)) (k:Nat):List Int:=uintL l.length++(l.take k).flatMap encI
def bytesR (l:List (Int×Int)):List Int×Int:=if l.all mayI then(encP l l.length,0)else([],180)
theorem mayI_bounds {i:Int×Int} (h:mayI i=true):1≤i.1∧i.1≤26∧0≤i.2∧i.2≤2147483647:=by
 unfold mayI mayR at h
 simp only[Bool.and_eq_true,decide_eq_true_eq]at h
 obtain⟨h1,h2,h3,_⟩:=h
 rw[←is_row]at h1
 simp at h1
 exact⟨h1.1,h1.2,h2,h3⟩
theorem encI_length {i:Int×Int} (h:mayI i=true):(encI i).length≤6:=by
 obtain⟨_,_,h1,h2⟩:=mayI_bounds h
 unfold encI
 rw[List.length_cons]
 split
 ·have:=uintL_length 4 i.2.toNat (by omega);omega
 ·simp
theorem flat_le {l:List (Int×Int)} :∀ {k:Nat},(∀j i,j<k→l[j]? =some i→mayI i=true)→((l.take k).flatMap encI).length≤6*k
 | 0,_=>by simp
 | k+1,h=>by
  have ih:=flat_le (l:=l) (k:=k) fun j i hj hi=>h j i (by omega) hi
  cases hk:l[k]? with
  | none=>
   rw[List.getElem?_eq_none_iff]at hk
   rw[List.take_of_length_le (by omega),←List.take_of_length_le hk];omega
  | some i=>
   rw[take_snoc' hk,List.flatMap_append,List.length_append]
   have:=encI_length (h k i (by omega) hk)
   simp only[List.flatMap_cons,List.flatMap_nil,List.append_nil]
   omega
theorem encP_snoc {l:List (Int×Int)} {k:Nat} {i:Int×Int} (h:l[k]? =some i):encP l (k+1)=encP l k++encI i:=by
 unfold encP
 rw[take_snoc' h,List.flatMap_append,List.append_assoc]
 simp
theorem u8code {c:Int} (h:1≤c∧c≤26):IntKind.u8.wrap c=c:=by
 obtain⟨k,rfl⟩:∃k:Nat,c=k:=⟨c.toNat,by omega⟩
 rw[u8w,Nat.mod_eq_of_lt (by omega)]
theorem u64n {n:Int} (h:0≤n∧n≤9223372036854775807):IntKind.u64.wrap n=((n.toNat:Nat):Int):=by
 obtain⟨k,rfl⟩:∃k:Nat,n=k:=⟨n.toNat,by omega⟩
 simp[IntKind.wrap,IntKind.signed,IntKind.bits];omega
set_option maxHeartbeats 2000000 in
theorem Bytes_fn (G:Gh) (A:Option Addr) (l:List (Int×Int)) (cap:Nat) (hA:Sl Kd.ins G A l) (hl:l.length≤9000000000000):
  Fn Tryz.prog 109 #[.slice A l.length cap] G [] fun e G' H'=>∃A' cap' x',e= .returned (.tuple #[.slice A' (bytesR l).1.length cap', .int .i64 (bytesR l).2])∧G=G'∧BVec A' (bytesR l).1 cap' x'∧H'=[x']:=by
 refine Fn.enter Tryz.func109 rfl rfl fun w0=>?_
 refine gom ?_
 refine WL.pp (Gp.convTo (r:=((l.length:Nat):Int)) rfl (by rw[u64n ⟨by omega,by omega⟩];rfl)) ?_
 refine WL.nothing ?_
 refine WL.oo (OW.callK rfl (putUint_fn G none [] 0 (.spare 0 0 0) BVec.nil l.length (by omega) (by decide)) rfl fun v' G' H' h hg=>?_)
 obtain⟨A1,c1,x1,he,rfl,h1,rfl⟩:=h
 cases he
 have hbase:[]++uintL l.length=encP l 0:=by simp[encP]
 rw[hbase]at h1⊢
 refine gom ?_
 refine WC.loop (X:=Nat×Option Addr×Nat×Own) (fun s=>[(4, .slice s.2.1 (encP l s.1).length s.2.2.1),(11, .slice A l.length cap),(12, .int .i64 l.length),(13, .int .i64 s.1)]) (fun _=>G) (fun s=>[s.2.2.2]) (fun s=>l.length - s.1) (fun s=>s.1≤l.length∧BVec s.2.1 (encP l s.1) s.2.2.1 s.2.2.2∧∀j i,j<s.1→l[j]? =some i→mayI i=true) (0,A1,c1,x1) ⟨Nat.zero_le _,h1,(fun j i h=>absurd h (Nat.not_lt_zero _))⟩ (by exact⟨rfl,rfl,rfl,rfl,trivial⟩) rfl (List.Sublist.refl _) fun s hs=>?_
 obtain⟨k,B,c,o⟩:=s
 obtain⟨hk,hv,hall⟩:=hs
 dsimp only at hk hv hall
 have x2:=wrapS k (by omega)
 by_cases hlt:k<l.length
 rotate_left
 ·have e2:decide ((k:Int)<(l.length:Int))=false:=decide_eq_false (by omega)
  obtain rfl:k=l.length:=by omega
  have hr:bytesR l=(encP l l.length,0):=by rw[bytesR,all_of hall (by omega),if_pos rfl]
  rw[hr]
  refine gom ?_
  refine WC.rt ?_
  exact QF.p2 (.inl rfl) rfl (.tmp rfl) (.tmp rfl) (⟨B,c,o,rfl,rfl,hv,rfl⟩)
 have e2:decide ((k:Int)<(l.length:Int))=true:=decide_eq_true (by omega)
 obtain⟨i,hi⟩:∃i,l[k]? =some i:=⟨_,List.getElem?_eq_getElem (by omega)⟩
 obtain⟨ib,io,ics,rfl,hik,hic⟩:=hA k i hi
 obtain rfl:ics=[.int .i64 i.1, .int .i64 i.2]:=hik
 have x0:(0:Int)≤(k:Int):=by omega
 have x1':(k:Int)<(l.length:Int):=by omega
 refine gom ?_
 refine WL.oo (OW.alloc rfl fun b6=>?_)
 refine gom ?_
 refine WL.oo (OW.callK rfl (may_fn G i.1 i.2) rfl fun v' G' H' h hg=>?_)
 obtain⟨he,rfl,rfl⟩:=h
 cases he
 cases hm:mayR i.1 i.2 with
 | false=>
  have hr:bytesR l=([],180):=by rw[bytesR,all_not hi (show mayI i=false from hm)];rfl
  rw[hr]
  refine gom ?_
  refine WC.nothing ?_
  refine WC.rt ?_
  exact QF.p2 (.inl rfl) rfl (.tmp rfl) (.tmp rfl) (⟨none,0,_,rfl,rfl,BVec.nil,rfl⟩)
 | true=>
 obtain⟨b1,b2,b3,b4⟩:=mayI_bounds (i:=i) hm
 have hle:=flat_le hall
 have hlu:=uintL_len10 (n:=l.length) (by omega)
 have hel:(encP l k).length=(uintL l.length).length+((l.take k).flatMap encI).length:=by rw[encP,List.length_append]
 refine gom ?_
 refine WL.pp (Gp.convTo (r:=i.1) rfl (u8code ⟨b1,b2⟩)) ?_
 refine WL.op kr (OW.buildSlice rfl kr kr (by rfl) rfl fun b24=>?_)
 refine WL.oo (OW.append rfl rfl kr kr hv atA (Rds.blk0 (cs:=[.int .u8 i.1]) .here rfl) rfl rfl (by dsimp only;omega) (by dsimp only;omega) rfl fun A3 c3 o3 hv3=>?_)
 have h3:=BVec.snoc hv3
 refine gom ?_
 refine WL.oo (OW.callK rfl (rowOf_fn G i.1) rfl fun v' G' H' h hg=>?_)
 obtain⟨he,rfl,rfl⟩:=h
 cases he
 refine WL.pp (Gp.rowN (r:=rowC i.1) rfl) ?_
 have hl3:(encP l k).length+1=(encP l k++[i.1]).length:=by rw[List.length_append];rfl
 have hst:=all_step (f:=mayI) hi hall hm
 cases hn:(rowC i.1).n with
 | true=>
  have hen:encP l (k+1)=encP l k++[i.1]++uintL i.2.toNat:=by rw[encP_snoc hi,encI,hn,List.append_assoc];rfl
  refine gom ?_
  refine WL.pp (Gp.convTo (r:=((i.2.toNat:Nat):Int)) rfl (u64n ⟨b3,by omega⟩)) ?_
  rw[hl3]
  refine WL.oo (OW.callK rfl (putUint_fn G A3 (encP l k++[i.1]) c3 o3 h3 i.2.toNat (by omega) (by omega)) rfl fun v' G' H' h hg=>?_)
  obtain⟨A4,c4,x4,he,rfl,h4,rfl⟩:=h
  cases he
  rw[←hen]at h4⊢
  refine gom ?_
  exact WK.again (k+1,A4,c4,x4) (by dsimp only;omega) ⟨by dsimp only;omega,h4,hst⟩ (by exact⟨rfl,rfl,rfl,rfl,trivial⟩) rfl (by first | exact List.Sublist.refl _ | simp)
 | false=>
  have hen:encP l (k+1)=encP l k++[i.1]:=by rw[encP_snoc hi,encI,hn];rfl
  rw[←hen]at h3 hl3
  refine gom ?_
  refine WK.pick [o3] ?_
  exact WK.again (k+1,A3,c3,o3) (by dsimp only;omega) ⟨by dsimp only;omega,h3,hst⟩ (by exact⟨by show _=some (Value.slice A3 _ c3);rw[←hl3];rfl,rfl,rfl,rfl,trivial⟩) rfl (List.Sublist.refl _)
end
section
open Go.MapKept
section
variable {P:Program} {Q:Exit→Act→World→Prop} {cx:Cx} {L:List (Nat×Value)} {G:Gh} {H:List Own} {K:List (Nat×Value)→Gh→List Own→Prop}
 {d:Option Tmp} {ty:TypeId} {pos:String} {af:Array Edge} {gu:Option (Nat×Bool)}
theorem OW.appendStr {t u e:TypeId} {x y:Operand} {A:Option Addr} {n cap j:Nat} {cs:List Value} {s:ByteArray} {o:Own} (hx:ev L x=some (.slice A n cap)) (hy:ev L y=some (.string s)) [hu:Und P t (.slice e)] [hu2:Und P u .string] [hi:Inf P e 1 1 (.int .u8 0)]
  (hv:Vec e 1 A n cap cs o) (hj:At H j o) (hb:n+s.size≤140737488355328) (hd:dOk d cx.N=true)
  (k:∀A' cap' o',Vec e 1 A' (n+s.size) cap' (cs++Lib.strCells s) o'→K (putL d (.slice A' (n+s.size) cap') L) G (H.set j o')):
  OW P Q ⟨d, .call { callee:= .builtin .append,args:= #[x,y],argTypes:= #[t,u] },ty,pos,af,gu⟩ cx L G H K:=by
 refine OW.gives hd fun a w st=>?_
 obtain⟨ie,hi1,hi2,hi3,hi4⟩:=hi.info
 have hu':=hu.h
 have hu2':=hu2.h
 have hl:=Lib.strCells_length s
 have h1:=Lib.strCells_oneCell s
 have hrun:∀v w',(Builtin.append_ #[t,u] ty #[.slice A n cap, .string s]).run P w= .ok v w'→(execOp a.eval ⟨d, .call { callee:= .builtin .append,args:= #[x,y],argTypes:= #[t,u] },ty,pos,af,gu⟩).run P w= .ok (.value v) w':=by
  intro v w' h
  simp only[execOp,resolve,invoke,builtin,Sem.run_bind,Sem.run_pure,Result.andThen_ok,List.map_toArray,List.map_cons,List.map_nil,st.eval hx,st.eval hy,h]
 by_cases hm:s.size=0
 ·have hn:Lib.strCells s=[]:=List.eq_nil_of_length_eq_zero (by rw[hl,hm])
  have hda:s.data= #[]:=Array.eq_empty_of_size_eq_zero hm
  refine⟨.slice A n cap,w,G,H, .inl (hrun _ _ ?_),st.sat,Stp.drew rfl,?_⟩
  ·have hle:=hv.le
   cases A with
   | none=>simp[Builtin.append_,run_underlying hu',run_underlying hu2',sizeOf,typeInfo,hi1,Builtin.lenOf,Builtin.firstCells,hle,hm,hda]
   | some ad=>simp[Builtin.append_,run_underlying hu',run_underlying hu2',sizeOf,typeInfo,hi1,Builtin.lenOf,Builtin.firstCells,hle,hm,hda,storeCells]
  ·have:=k A cap o (by rw[hm,hn,List.append_nil];exact hv)
   rw[set_same H j o hj.get,hm]at this
   exact this
 ·have hm0:0<s.size:=by omega
  have hcl:=hv.1
  obtain⟨_,⟨rfl,rfl,rfl,rfl⟩ | ⟨b,c,rfl,rfl,hnc,hcs,htk⟩⟩:=hv
  ·have hcs0:cs=[]:=List.eq_nil_of_length_eq_zero (by simpa using hcl)
   subst hcs0
   have hr:=run_append_nil_string (P:=P) w t u ty e ie (.int .u8 0) hu' hu2' hi1 hi2 s hm0 (by omega) (by rw[hi4];omega)
   have hg:=grownCap_ge w s.size 0 e
   have hsw:=st.sat.swap hj (.cells (s.data.map (fun b=>Value.int .u8 b.toNat)++Builtin.zeroCells (Value.int .u8 0).cells (grownCap w s.size 0 e - s.size)) e) rfl
   have hz:(Value.int IntKind.u8 0).cells.size=1:=rfl
   have hcl':(s.data.map (fun b=>Value.int IntKind.u8 b.toNat)).size=s.size:=by rw[Array.size_map];rfl
   refine⟨_,_,G,_, .inl (hrun _ _ hr),hsw.1,hsw.2,?_⟩
   have:=k (some ⟨w.heap.size,0,none⟩) (grownCap w s.size 0 e) (.blk w.heap.size (.cells (s.data.map (fun b=>Value.int .u8 b.toNat)++Builtin.zeroCells (Value.int .u8 0).cells (grownCap w s.size 0 e - s.size)) e)) ⟨by simp[hl], .inr ⟨_,_,rfl,rfl,by omega,?_,?_⟩⟩
   ·simpa using this
   ·rw[Array.size_append,hcl',zeroCells_size hz];omega
   ·have he:(s.data.map (fun b=>Value.int IntKind.u8 b.toNat)).toList=Lib.strCells s:=by simp[Lib.strCells]
    simp only[Array.toList_append,List.nil_append,Nat.zero_add,he]
    rw[Nat.mul_one,←hl];exact List.take_left
  ·have hbw:w.heap[b]? =some (.cells c e (0,0)):=st.sat.hold _ (List.mem_of_getElem? hj.get)
   by_cases hroom:n+s.size≤cap
   ·have hfit:n+(Lib.strCells s).length≤c.size:=by rw[hl,hcs];omega
    have hr:=Lib.run_append_room_string (P:=P) w t u ty e ie hu' hu2' hi1 hi3 b n cap c hbw s hroom (by rw[hl]at hfit;exact hfit)
    have hsp:=st.sat.splice (o:=n) (cs:=Lib.strCells s) hj hfit
    have hrow:(List.take n c.toList++Lib.strCells s++List.drop (n+s.size) c.toList).toArray=splice c n (Lib.strCells s):=by unfold splice;rw[hl]
    rw[hrow]at hr
    refine⟨_,_,G,_, .inl (hrun _ _ hr),hsp.1,hsp.2,k _ _ _ ⟨by rw[List.length_append,hcl,hl,Nat.add_mul];omega, .inr ⟨b,_,rfl,rfl,hroom,by rw[size_splice hfit,hcs],?_⟩⟩⟩
    simp only[splice]
    rw[Nat.mul_one]at htk
    rw[htk,show(n+s.size)*1=(cs++Lib.strCells s).length by rw[List.length_append,hcl,hl];omega]
    exact List.take_left
   ·have holds:∀j v,cs[j]? =some v→w.cell? ((⟨b,0,none⟩:Addr).add j)=some v:=fun j v e=>by
     rw[cell_add,cell_of_row w b _ c _ _ hbw,←htk]at*
     rw[List.getElem?_take]at e
     split at e
     ·simpa using e
     ·cases e
    have hr:=Lib.run_append_grow_string (P:=P) w t u ty e ie (.int .u8 0) hu' hu2' hi1 hi2 ⟨b,0,none⟩ n cap cs (by rw[hi3];exact hcl) holds s (by omega) (by omega) (growslice_fits (by omega) (by rw[hi4];omega))
    have hg:=grownCap_ge w (n+s.size) cap e
    have hsw:=st.sat.swap hj (.cells (cs.toArray++(Lib.strCells s).toArray++Builtin.zeroCells (Value.int .u8 0).cells (grownCap w (n+s.size) cap e - (n+s.size))) e) rfl
    have hz:(Value.int IntKind.u8 0).cells.size=1:=rfl
    refine⟨_,_,G,_, .inl (hrun _ _ hr),hsw.1,hsw.2,k _ _ _ ⟨by rw[List.length_append,hcl,hl,Nat.add_mul];omega, .inr ⟨_,_,rfl,rfl,hg,?_,?_⟩⟩⟩
    ·simp only[Array.size_append,List.size_toArray,zeroCells_size hz,hl,hcl];omega
    ·simp only[Array.toList_append]
     rw[show(n+s.size)*1=(cs++Lib.strCells s).length by rw[List.length_append,hcl,hl];omega]
     exact List.take_left
end
def strI (s:ByteArray):List Int:=s.data.toList.map fun b=>(b.toNat:Int)
theorem strI_length (s:ByteArray):(strI s).length=s.size:=by rw[strI,List.length_map,Array.length_toList];rfl
theorem strI_cells (s:ByteArray):Lib.strCells s=u8s (strI s):=by simp[Lib.strCells,u8s,strI]
theorem BVec.str {A:Option Addr} {l:List Int} {cap:Nat} {x:Own} {s:ByteArray} (h:Vec 5 1 A (l.length+s.size) cap (u8s l++Lib.strCells s) x):BVec A (l++strI s) cap x:=by
 unfold BVec;rw[u8s_append,List.length_append,strI_length,←strI_cells];exact h
theorem BVec.more {A:Option Addr} {l m:List Int} {cap:Nat} {x:Own} (h:Vec 5 1 A (l.length+m.length) cap (u8s l++u8s m) x):BVec A (l++m) cap x:=by
 unfold BVec;rw[u8s_append,List.length_append];exact h
end
section
open Go.MapKept
section
variable {P:Program} {L:List (Nat×Value)} {d:Option Tmp} {ty:TypeId} {pos:String} {af:Array Edge} {gu:Option (Nat×Bool)}
theorem Gp.shlT {t t':TypeId} {x y:Operand} {k k':IntKind} {m n r:Int} (hx:ev L x=some (.int k m)) (hy:ev L y=some (.int k' n)) (hn:0≤n) (hr:k.wrap (m*2^min n.toNat k.bits)=r):Gp P L ⟨d, .binOp .shl t x y t',ty,pos,af,gu⟩ (.int k r):=
 fun a st w=>by subst hr;simp[execOp,st.eval hx,st.eval hy,eqGuard_shl,binOp_shl,shift_shl_any k k' m n hn]
theorem Gp.xorT {t t':TypeId} {x y:Operand} {k:IntKind} {m n r:Int} (hx:ev L x=some (.int k m)) (hy:ev L y=some (.int k n)) (hr:bits .xor k m n=r):Gp P L ⟨d, .binOp .xor t x y t',ty,pos,af,gu⟩ (.int k r):=
 fun a st w=>by subst hr;simp[execOp,st.eval hx,st.eval hy,eqGuard_xor,binOp_xor,intBits_xor]
end
attribute [local irreducible] Tryz.prog
def zzN (n:Int):Nat:=if 0≤n then(2*n).toNat else(-2*n - 1).toNat
theorem zz_step {n:Int} (h: -9223372036854775808≤n∧n≤9223372036854775807):
  bits .xor .u64 (IntKind.u64.wrap (IntKind.u64.wrap n*2^min (1:Int).toNat IntKind.u64.bits)) (IntKind.u64.wrap (n / 2^min (63:Int).toNat IntKind.i64.bits))=((zzN n:Nat):Int):=by
 have e1:min (1:Int).toNat IntKind.u64.bits=1:=rfl
 have e2:min (63:Int).toNat IntKind.i64.bits=63:=rfl
 have w:∀z:Int,IntKind.u64.wrap z=z%18446744073709551616:=fun z=>by simp[IntKind.wrap,IntKind.signed,IntKind.bits]
 rw[e1,e2,w,w,w]
 unfold zzN
 by_cases h0:0≤n
 ·rw[if_pos h0]
  have a1:n%18446744073709551616*2^1%18446744073709551616=(((2*n).toNat:Nat):Int):=by omega
  have a2:n / 2^63%18446744073709551616=((0:Nat):Int):=by omega
  rw[a1,a2,bits_xor_u64_nat _ _ (by omega) (by omega),Nat.xor_zero]
 ·rw [if_neg h0]
  have a1:n%18446744073709551616*2^1%18446744073709551616=(((2*n+18446744073709551616).toNat:Nat):Int):=by omega
  have a2:n / 2^63%18446744073709551616=((18446744073709551615:Nat):Int):=by omega
  rw[a1,a2,bits_xor_u64_nat _ _ (by omega) (by omega)]
  have hx:∀m:Nat,m<2^64→m^^^(2^64 - 1)=2^64 - 1 - m:=fun m hm=>by
   apply Nat.eq_of_testBit_eq
   intro i
   rw[Nat.testBit_xor,Nat.testBit_two_pow_sub_one,show 2^64 - 1 - m=2^64 - (m+1) by omega,Nat.testBit_two_pow_sub_succ hm]
   by_cases hi:i<64
   ·simp[hi]
   ·have:m.testBit i=false:=Nat.testBit_lt_two_pow (Nat.lt_of_lt_of_le hm (Nat.pow_le_pow_right (by decide) (by omega)))
    simp[hi,this]
  have:=hx (2*n+18446744073709551616).toNat (by omega)
  rw[show(2:Nat)^64 - 1=18446744073709551615 by decide]at this
  rw[this];omega
theorem zzN_lt {n:Int} (h: -9223372036854775808≤n∧n≤9223372036854775807):zzN n<18446744073709551616:=by unfold zzN;split<;>omega
def strsI (ss:List ByteArray):List Int:=ss.flatMap fun s=>uintL s.size++strI s
theorem strsI_snoc {ss:List ByteArray} {k:Nat} {s:ByteArray} (h:ss[k]? =some s):strsI (ss.take (k+1))=strsI (ss.take k)++uintL s.size++strI s:=by
 unfold strsI
 rw[take_snoc' h,List.flatMap_append];simp[List.append_assoc]
theorem strsI_take {ss:List ByteArray} (k:Nat):(strsI (ss.take k)).length≤(strsI ss).length:=by
 conv=>rhs;rw[←List.take_append_drop k ss]
 unfold strsI
 rw[List.flatMap_append,List.length_append];omega
theorem freshN_fn (G:Gh) (A:Option Addr) (l:List Int) (cap:Nat) (x:Own) (hx:BVec A l cap x) (hl:l.length≤100000000000000) (k:Nat) (hk:k≤1000):
  Fn Tryz.prog 151 #[.slice A l.length cap, .int .i64 k] G [x] fun e G' H'=>∃A' cap' x',e= .returned (.slice A' l.length cap')∧G=G'∧BVec A' l cap' x'∧H'=[x']:=by
 refine Fn.enter Tryz.func151 rfl rfl fun w0=>?_
 have x2:IntKind.i64.wrap ((l.length:Int)+k)=((l.length+k:Nat):Int):=by rw[wrapI (by omega) (by omega)];rfl
 refine gom ?_
 refine WL.oo (OW.makeSlice2 (n:=1) (z:= .int .u8 0) (m:=(l.length:Int)) (c:=((l.length+k:Nat):Int)) rfl rfl rfl (by omega) (by omega) (by omega) (by omega) rfl fun tb o1 ho1=>?_)
 rw[Int.toNat_natCast,Int.toNat_natCast]at ho1⊢
 refine gom ?_
 refine WL.oo (OW.copy rfl rfl kr ho1 .here (hx.rds (.there .here)) (u8s_length l) (u8s_one l) (Nat.le_refl _) rfl fun o2 ho2=>?_)
 have h2:BVec (some ⟨tb,0,none⟩) l (l.length+k) o2:=by
  unfold BVec
  rw[List.drop_eq_nil_of_le (by rw[repS_length];exact Nat.le_refl _),List.append_nil]at ho2
  exact ho2
 refine gom ?_
 refine WC.rt ?_
 exact QF.p1 (.inl rfl) rfl (.tmp rfl) (⟨_,_,o2,rfl,rfl,h2,rfl⟩)
theorem texts_fn (G:Gh) (A:Option Addr) (l:List Int) (cap:Nat) (x:Own) (hx:BVec A l cap x) (SA:Option Addr) (ss:List ByteArray) (sc:Nat) (hS:Sl Kd.str G SA ss) (hsl:ss.length≤1000) (hl:l.length+(strsI ss).length≤100000000000000):
  Fn Tryz.prog 150 #[.slice A l.length cap, .slice SA ss.length sc] G [x] fun e G' H'=>∃A' cap' x',e= .returned (.slice A' (l++strsI ss).length cap')∧G=G'∧BVec A' (l++strsI ss) cap' x'∧H'=[x']:=by
 refine Fn.enter Tryz.func150 rfl rfl fun w0=>?_
 refine gom ?_
 have hnil:l++strsI (ss.take 0)=l:=by simp[strsI]
 refine WC.loop (X:=Nat×Option Addr×Nat×Own) (fun s=>[(0, .slice s.2.1 (l++strsI (ss.take s.1)).length s.2.2.1),(7, .slice SA ss.length sc),(8, .int .i64 ss.length),(9, .int .i64 s.1)]) (fun _=>G) (fun s=>[s.2.2.2]) (fun s=>ss.length - s.1) (fun s=>s.1≤ss.length∧BVec s.2.1 (l++strsI (ss.take s.1)) s.2.2.1 s.2.2.2) (0,A,cap,x) ⟨Nat.zero_le _,by rw[hnil];exact hx⟩ (by exact⟨by show _=some (Value.slice A _ cap);rw[hnil];rfl,rfl,rfl,rfl,trivial⟩) rfl (List.Sublist.refl _) (fun s hs=>?_)
 obtain⟨k,B,c,o⟩:=s
 obtain⟨hk,hv⟩:=hs
 dsimp only at hk hv
 have x2:=wrapS k (by omega)
 by_cases hlt:k<ss.length
 rotate_left
 ·have e2:decide ((k:Int)<(ss.length:Int))=false:=decide_eq_false (by omega)
  rw[List.take_of_length_le (by omega)]at hv
  have ht:ss.take k=ss:=List.take_of_length_le (by omega)
  refine gom ?_
  refine WC.rt ?_
  exact QF.p1 (.inl rfl) rfl (.tmp rfl) (⟨B,c,o,by dsimp only;rw[ht],rfl,hv,rfl⟩)
 have e2:decide ((k:Int)<(ss.length:Int))=true:=decide_eq_true (by omega)
 obtain⟨s,hs⟩:∃s,ss[k]? =some s:=⟨_,List.getElem?_eq_getElem (by omega)⟩
 obtain⟨ib,io,ics,rfl,hik,hic⟩:=hS k s hs
 obtain rfl:ics=[.string s]:=hik
 have x0:(0:Int)≤(k:Int):=by omega
 have x1':(k:Int)<(ss.length:Int):=by omega
 have hle:=strsI_take (ss:=ss) (k+1)
 rw[strsI_snoc hs,List.length_append,List.length_append,strI_length]at hle
 have hal:(l++strsI (ss.take k)).length=l.length+(strsI (ss.take k)).length:=List.length_append
 refine gom ?_
 refine WL.pp (Gp.convTo (r:=((s.size:Nat):Int)) rfl (by rw[u64n ⟨by omega,by omega⟩];rfl)) ?_
 refine WL.oo (OW.callK rfl (short_fn G B (l++strsI (ss.take k)) c o hv s.size (by omega) (by omega)) rfl fun v' G' H' h hg=>?_)
 obtain⟨A1,c1,x1,he,rfl,h1,rfl⟩:=h
 cases he
 have hb1:(l++strsI (ss.take k)++uintL s.size).length=l.length+(strsI (ss.take k)).length+(uintL s.size).length:=by rw[List.length_append,hal]
 refine gom ?_
 refine WL.oo (OW.appendStr rfl rfl h1 atA (by omega) rfl fun A2 c2 o2 hv2=>?_)
 have h2:=BVec.str hv2
 have hen:l++strsI (ss.take k)++uintL s.size++strI s=l++strsI (ss.take (k+1)):=by rw[strsI_snoc hs];simp only[List.append_assoc]
 have hl2:(l++strsI (ss.take k)++uintL s.size).length+s.size=(l++strsI (ss.take (k+1))).length:=by rw[←hen,List.length_append (bs:=strI s),strI_length]
 rw[hen]at h2
 refine gom ?_
 refine WK.pick [o2] ?_
 exact WK.again (k+1,A2,c2,o2) (by dsimp only;omega) ⟨by dsimp only;omega,h2⟩ (by exact⟨by show _=some (Value.slice A2 _ c2);rw[←hl2];rfl,rfl,rfl,rfl,trivial⟩) rfl (List.Sublist.refl _)
theorem putText_fn (G:Gh) (A:Option Addr) (l:List Int) (cap:Nat) (x:Own) (hx:BVec A l cap x) (SA:Option Addr) (ss:List ByteArray) (sc:Nat) (hS:Sl Kd.str G SA ss) (hsl:ss.length≤1000) (hl:l.length+(strsI ss).length≤100000000000000):
  Fn Tryz.prog 104 #[.slice A l.length cap, .slice SA ss.length sc] G [x] fun e G' H'=>∃A' cap' x',e= .returned (.slice A' (l++strsI ss).length cap')∧G=G'∧BVec A' (l++strsI ss) cap' x'∧H'=[x']:=by
 refine Fn.enter Tryz.func104 rfl rfl fun w0=>?_
 refine gom ?_
 refine WL.oo (OW.callK rfl (freshN_fn G A l cap x hx (by omega) 16 (by decide)) rfl fun v' G' H' h hg=>?_)
 obtain⟨A1,c1,x1,he,rfl,h1,rfl⟩:=h
 cases he
 refine gom ?_
 refine WL.oo (OW.callK rfl (texts_fn G A1 l c1 x1 h1 SA ss sc hS hsl hl) rfl fun v' G' H' h hg=>?_)
 obtain⟨A2,c2,x2,he,rfl,h2,rfl⟩:=h
 cases he
 refine gom ?_
 refine WC.rt ?_
 exact QF.p1 (.inl rfl) rfl (.tmp rfl) (⟨_,_,x2,rfl,rfl,h2,rfl⟩)
theorem putInt_fn (G:Gh) (A:Option Addr) (l:List Int) (cap:Nat) (x:Own) (hx:BVec A l cap x) (n:Int) (hn: -9223372036854775808≤n∧n≤9223372036854775807) (hl:l.length≤100000000000000):
  Fn Tryz.prog 106 #[.slice A l.length cap, .int .i64 n] G [x] fun e G' H'=>∃A' cap' x',e= .returned (.slice A' (l++uintL (zzN n)).length cap')∧G=G'∧BVec A' (l++uintL (zzN n)) cap' x'∧H'=[x']:=by
 refine Fn.enter Tryz.func106 rfl rfl fun w0=>?_
 refine gom ?_
 refine WL.oo (OW.callK rfl (fresh_fn G A l cap x hx (by omega)) rfl fun v' G' H' h hg=>?_)
 obtain⟨A1,c1,x1,he,rfl,h1,rfl⟩:=h
 cases he
 refine gom ?_
 refine WL.pp (Gp.convTo (r:=IntKind.u64.wrap n) rfl rfl) ?_
 refine WL.pp (Gp.shlT (r:=IntKind.u64.wrap (IntKind.u64.wrap n*2^min (1:Int).toNat IntKind.u64.bits)) rfl rfl (by decide) rfl) ?_
 refine gom ?_
 refine WL.pp (Gp.shrTo (r:=n / 2^min (63:Int).toNat IntKind.i64.bits) rfl rfl (by decide) rfl) ?_
 refine WL.pp (Gp.convTo (r:=IntKind.u64.wrap (n / 2^min (63:Int).toNat IntKind.i64.bits)) rfl rfl) ?_
 refine WL.pp (Gp.xorT (r:=((zzN n:Nat):Int)) rfl rfl (zz_step hn)) ?_
 refine WL.oo (OW.callK rfl (short_fn G A1 l c1 x1 h1 (zzN n) (zzN_lt hn) hl) rfl fun v' G' H' h hg=>?_)
 obtain⟨A2,c2,x2,he,rfl,h2,rfl⟩:=h
 cases he
 refine gom ?_
 refine WC.rt ?_
 exact QF.p1 (.inl rfl) rfl (.tmp rfl) (⟨_,_,x2,rfl,rfl,h2,rfl⟩)
def boolI (b:Bool):Int:=if b then 1 else 0
theorem putBool_fn (G:Gh) (A:Option Addr) (l:List Int) (cap:Nat) (x:Own) (hx:BVec A l cap x) (b:Bool) (hl:l.length≤100000000000000):
  Fn Tryz.prog 107 #[.slice A l.length cap, .bool b] G [x] fun e G' H'=>∃A' cap' x',e= .returned (.slice A' (l++[boolI b]).length cap')∧G=G'∧BVec A' (l++[boolI b]) cap' x'∧H'=[x']:=by
 refine Fn.enter Tryz.func107 rfl rfl fun w0=>?_
 cases b with
 | true=>
  refine gom ?_
  refine WL.oo (OW.callK rfl (freshN_fn G A l cap x hx (by omega) 1 (by decide)) rfl fun v' G' H' h hg=>?_)
  obtain⟨A1,c1,x1,he,rfl,h1,rfl⟩:=h
  cases he
  refine WL.op kr (OW.buildSlice rfl kr kr (by rfl) rfl fun b8=>?_)
  refine WL.oo (OW.append rfl rfl kr kr h1 atA (Rds.blk0 (cs:=[.int .u8 1]) .here rfl) rfl rfl (by omega) (by omega) rfl fun A3 c3 o3 hv3=>?_)
  have h3:=BVec.snoc hv3
  have hl3:l.length+1=(l++[(1:Int)]).length:=by rw[List.length_append];rfl
  refine gom ?_
  refine WC.rt ?_
  exact QF.p1 (.inl rfl) rfl (.tmp rfl) (⟨A3,c3,o3,by rw[show boolI true=1 from rfl,←hl3],rfl,h3,rfl⟩)
 | false=>
  refine gom ?_
  refine WL.oo (OW.callK rfl (freshN_fn G A l cap x hx (by omega) 1 (by decide)) rfl fun v' G' H' h hg=>?_)
  obtain⟨A1,c1,x1,he,rfl,h1,rfl⟩:=h
  cases he
  refine WL.op kr (OW.buildSlice rfl kr kr (by rfl) rfl fun b12=>?_)
  refine WL.oo (OW.append rfl rfl kr kr h1 atA (Rds.blk0 (cs:=[.int .u8 0]) .here rfl) rfl rfl (by omega) (by omega) rfl fun A3 c3 o3 hv3=>?_)
  have h3:=BVec.snoc hv3
  have hl3:l.length+1=(l++[(0:Int)]).length:=by rw[List.length_append];rfl
  refine gom ?_
  refine WC.rt ?_
  exact QF.p1 (.inl rfl) rfl (.tmp rfl) (⟨A3,c3,o3,by rw[show boolI false=0 from rfl,←hl3],rfl,h3,rfl⟩)
end
section
open Go.MapKept
attribute [local irreducible] Tryz.prog
abbrev wrB (wb:Nat) (A:Option Addr) (n cap:Nat):Own:= .blk wb (.cells #[.slice A n cap] 115 (0,0))
def WrP (wb:Nat) (l more:List Int) (G:Gh) (e:Ending) (G':Gh) (H':List Own):Prop:=
 ∃A' cap' x',e= .returned (.tuple #[])∧G.le G'∧BVec A' (l++more) cap' x'∧H'=[wrB wb A' (l++more).length cap',x']
def txtI (s:ByteArray):List Int:=uintL s.size++strI s
def uI (n:Int):List Int:=uintL (IntKind.u64.wrap n).toNat
theorem u64_wrap (n:Int):IntKind.u64.wrap n=(((IntKind.u64.wrap n).toNat:Nat):Int)∧(IntKind.u64.wrap n).toNat<18446744073709551616:=by
 have w:IntKind.u64.wrap n=n%18446744073709551616:=by simp[IntKind.wrap,IntKind.signed,IntKind.bits]
 rw[w];omega
theorem uI_len (n:Int):(uI n).length≤10:=uintL_len10 (u64_wrap n).2
def kindI (t:Int):List Int:=[IntKind.u8.wrap t]
theorem uint_fn (G:Gh) (wb:Nat) (A:Option Addr) (l:List Int) (cap:Nat) (x:Own) (hx:BVec A l cap x) (n:Int) (hl:l.length≤100000000000000):
  Fn Tryz.prog 61 #[.pointer (some ⟨wb,0,none⟩), .int .i64 n] G [wrB wb A l.length cap,x] (WrP wb l (uI n) G):=by
 refine Fn.enter Tryz.func61 rfl rfl fun w0=>?_
 refine gom ?_
 refine WL.pp (Gp.convTo (r:=(((IntKind.u64.wrap n).toNat:Nat):Int)) rfl (u64_wrap n).1) ?_
 refine WL.oo (OW.callK rfl (putUint_fn G A l cap x hx (IntKind.u64.wrap n).toNat (u64_wrap n).2 hl) rfl fun v' G' H' h hg=>?_)
 obtain⟨A1,c1,x1,he,rfl,h1,rfl⟩:=h
 cases he
 refine gom ?_
 refine WK.un ?_
 exact QF.p0 (.inr rfl) rfl  (⟨A1,c1,x1,rfl,Gh.le_refl _,h1,rfl⟩)
theorem text_fn (G:Gh) (wb:Nat) (A:Option Addr) (l:List Int) (cap:Nat) (x:Own) (hx:BVec A l cap x) (s:ByteArray) (hl:l.length+s.size≤90000000000000):
  Fn Tryz.prog 59 #[.pointer (some ⟨wb,0,none⟩), .string s] G [wrB wb A l.length cap,x] (WrP wb l (txtI s) G):=by
 refine Fn.enter Tryz.func59 rfl rfl fun w0=>?_
 have hst:strsI [s]=txtI s:=by simp[strsI,txtI]
 have h10:=uintL_len10 (n:=s.size) (by omega)
 have hlt:(txtI s).length≤s.size+10:=by rw[txtI,List.length_append,strI_length];omega
 refine gom ?_
 refine WL.op kr (OW.buildSlice rfl kr kr (by rfl) rfl fun b6=>?_)
 refine WL.freezeK (k:=Kd.str) (A:=some ⟨_,0,none⟩) (T:=9) (cap:=1) (l:=[s]) (by decide) ⟨[.string s],⟨rfl, .inr ⟨_,_,rfl,rfl,Nat.le_refl _,rfl,rfl⟩⟩,KFl.one (k:=Kd.str) rfl⟩ .here fun G1 hg1 hS=>?_
 refine gom ?_
 refine WL.oo (OW.callK rfl (putText_fn G1 A l cap x hx _ [s] 1 hS (by simp) (by rw[hst];omega)) rfl fun v' G' H' h hg=>?_)
 obtain⟨A1,c1,x1,he,rfl,h1,rfl⟩:=h
 cases he
 rw[hst]at h1⊢
 refine gom ?_
 refine WK.un ?_
 exact QF.p0 (.inr rfl) rfl  (⟨A1,c1,x1,rfl,hg1,h1,rfl⟩)
theorem kind_fn (G:Gh) (wb:Nat) (A:Option Addr) (l:List Int) (cap:Nat) (x:Own) (hx:BVec A l cap x) (t:Int) (hl:l.length≤100000000000000):
  Fn Tryz.prog 105 #[.pointer (some ⟨wb,0,none⟩), .int .i64 t] G [wrB wb A l.length cap,x] (WrP wb l (kindI t) G):=by
 refine Fn.enter Tryz.func105 rfl rfl fun w0=>?_
 refine gom ?_
 refine WL.pp (Gp.convTo (r:=IntKind.u8.wrap t) rfl rfl) ?_
 refine WL.op kr (OW.buildSlice rfl kr kr (by rfl) rfl fun b7=>?_)
 refine WL.oo (OW.append rfl rfl kr kr hx atA (Rds.blk0 (cs:=[.int .u8 (IntKind.u8.wrap t)]) .here rfl) rfl rfl (by omega) (by omega) rfl fun A3 c3 o3 hv3=>?_)
 have h3:=BVec.snoc hv3
 have hl3:l.length+1=(l++kindI t).length:=by rw[List.length_append];rfl
 refine gom ?_
 refine WK.un ?_
 exact QF.p0 (.inr rfl) rfl  (⟨A3,c3,o3,rfl,Gh.le_refl _,h3,by rw[←hl3]⟩)
end
end Go.Proofs.YtcnlkfocbbkdhaaGreatDoor.Gb
