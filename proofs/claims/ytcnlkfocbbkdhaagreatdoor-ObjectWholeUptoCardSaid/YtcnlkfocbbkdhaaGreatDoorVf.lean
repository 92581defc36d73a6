/- slices.IndexFunc and slices.ContainsFunc, walked. Layer 22: needs met, and missing: walked. Layer 22: Missing, walked. Layer 22: linked code is verified as it was (no program in sight). Verified code does not get stuck: the law, no program in sight. The least states are there; what is known of an object that was taken: no program in sight. Layer 22: what is linked of verified objects is verified (no program in sight). Layer 22: joining: what lies in memory is turned in place; how the lists grow. What a row of this seat tells of the library's variables, opened. Arguments of a bounded bulk, opened: texts, lists, structs. The machine's stack and its small helpers: what each comes to. Layer 22: joined, walked. Layer 22: Link, walked. A string appended to bytes of ours. -/
import Derived.Test.YtcnlkfocbbkdhaaGreatDoorVe
import Derived.Test.YtcnlkfocbbkdhaaGreatDoorRows
import Derived.ProofKit
import Derived.OpenShut
import Derived.Lay
import Derived.LaidMore
import Derived.Lib.LaidU8
import Derived.Shelf.Vars
import Derived.HandedShaped
import Derived.Deep.DeepHandedRow
import Derived.Lib.AppendStr
set_option linter.unusedVariables false
set_option linter.unusedSimpArgs false
set_option linter.unusedSectionVars false
namespace Go.Proofs.YtcnlkfocbbkdhaaGreatDoor.Gb
open Go Go.Proofs
section
open Go.MapKept
attribute [local irreducible] Tryz.prog
def idxR {α:Type} (q:α→Bool) (l:List α):Int:=match (List.range l.length).find? (fun i=>((l[i]?).map q).getD false)with
 | some i=>(i:Int)
 | none=> -1
theorem idxR_at {α:Type} {q:α→Bool} {l:List α} {i:Nat} {x:α} (h0:∀j y,j<i→l[j]? =some y→q y=false) (hx:l[i]? =some x) (h:q x=true):idxR q l=(i:Int):=by
 have hi:=(List.getElem?_eq_some_iff.1 hx).1
 unfold idxR
 rw[find_range hi (fun j hj=>by rw[List.getElem?_eq_getElem (by omega)];exact h0 j _ hj (List.getElem?_eq_getElem (by omega))) (by rw[hx];exact h)]
theorem idxR_none {α:Type} {q:α→Bool} {l:List α} (h0:∀j y,j<l.length→l[j]? =some y→q y=false):idxR q l= -1:=by
 unfold idxR
 rw[List.find?_eq_none.2 (fun j hj=>by
  have hj':j<l.length:=by simpa using hj
  rw[List.getElem?_eq_getElem hj']
  simpa using h0 j _ hj' (List.getElem?_eq_getElem hj'))]
theorem idxR_any {α:Type} (q:α→Bool) (l:List α):decide ((0:Int)≤idxR q l)=l.any q:=by
 cases ha:l.any q with
 | false=>
  rw[idxR_none (fun j y hj hy=>?_)]
  ·rfl
  ·cases hq:q y with
   | false=>rfl
   | true=>rw[List.any_eq_true.2 ⟨y,List.mem_of_getElem? hy,hq⟩]at ha;cases ha
 | true=>
  obtain⟨y,hy,hq⟩:=List.any_eq_true.1 ha
  obtain⟨i,hi⟩:=List.mem_iff_getElem?.1 hy
  unfold idxR
  cases hf:(List.range l.length).find? (fun i=>((l[i]?).map q).getD false)with
  | none=>
   rw[List.find?_eq_none]at hf
   have:=hf i (by simpa using(List.getElem?_eq_some_iff.1 hi).1)
   rw[hi]at this
   exact absurd hq (by simpa using this)
  | some j=>simp
set_option maxHeartbeats 1000000 in
theorem idxP_fn (G:Gh) (A:Option Addr) (cap:Nat) (l:List Pr) (Hc:List Own) (cs0:List Value) (hr:Rds G Hc A cs0) (hk0:KFl Kd.prc G l cs0) (hlen:l.length≤1000000000) (f:Nat) [hB:Body Tryz.prog f] (fc:Array Value) (q:Pr→Bool) (hf:∀x cs,x∈l→Kd.prc.K G x cs→Fn Tryz.prog f (#[.agg cs.toArray]++fc) G Hc fun e G' H'=>e= .returned (.bool (q x))∧G=G'∧H'=Hc):
  Fn Tryz.prog 125 #[.slice A l.length cap, .func (.func f) #[] fc] G Hc fun e G' H'=>e= .returned (.int .i64 (idxR q l))∧G=G'∧H'=Hc:=by
 refine Fn.enter Tryz.func125 rfl rfl fun w0=>?_
 refine gom ?_
 refine WC.loop (X:=Nat) (fun i=>[(0, .slice A l.length cap),(1, .func (.func f) #[] fc),(7, .int .i64 l.length),(8, .int .i64 i)]) (fun _=>G) (fun _=>Hc) (fun i=>l.length - i) (fun i=>i≤l.length∧∀j y,j<i→l[j]? =some y→q y=false) 0 ⟨Nat.zero_le _,fun j y h=>absurd h (Nat.not_lt_zero _)⟩ (by exact⟨rfl,rfl,rfl,rfl,trivial⟩) rfl (List.Sublist.refl _) fun i hi=>?_
 obtain⟨hi,h0⟩:=hi
 have x2:=wrapS i (by omega)
 by_cases hlt:i<l.length
 rotate_left
 ·have e2:decide ((i:Int)<(l.length:Int))=false:=decide_eq_false (by omega)
  have hr:idxR q l= -1:=idxR_none fun j y hj=>h0 j y (by omega)
  rw[hr]
  refine gom ?_
  refine WC.rt ?_
  exact QF.p1 (.inl rfl) rfl (.tmp rfl) (⟨rfl,rfl,rfl⟩)
 have e2:decide ((i:Int)<(l.length:Int))=true:=decide_eq_true (by omega)
 obtain⟨x,hx⟩:∃x,l[i]? =some x:=⟨_,List.getElem?_eq_getElem (by omega)⟩
 have x0:(0:Int)≤(i:Int):=by omega
 have x1:(i:Int)<(l.length:Int):=by omega
 have hks:=hk0.at_ i x hx
 obtain⟨rb,ro,hrr,hread⟩:=hr.resolve_left (fun h=>by have h1:=hk0.len;rw[h,show Kd.prc.n=6 from rfl,List.length_nil]at h1;omega)
 subst hrr
 refine gom ?_
 refine WL.vv (Gv.loadRN (i:=((i:Nat):Int).toNat*6) rfl hread (List.Sublist.refl _) rfl (Kd.prc.len hks)) ?_
 refine WL.oo (OW.callVK rfl rfl rfl (hf x _ (List.mem_of_getElem? hx) hks) rfl fun v' G' H' h hg=>?_)
 obtain⟨he,rfl,hh⟩:=h
 cases hh.symm
 cases he
 cases hq:q x with
 | true=>
  rw[idxR_at h0 hx hq]
  refine gom ?_
  refine WC.rt ?_
  exact QF.p1 (.inl rfl) rfl (.tmp rfl) (⟨rfl,rfl,rfl⟩)
 | false=>
  refine gom ?_
  refine WK.pick Hc ?_
  exact WK.again (i+1) (by omega) ⟨by omega,fun j y hj hy=>by
   rcases Nat.lt_or_ge j i with h | h
   ·exact h0 j y h hy
   ·obtain rfl:j=i:=by omega
    rw[hx]at hy;cases hy;exact hq⟩ (by exact⟨rfl,rfl,rfl,rfl,trivial⟩) rfl (List.Sublist.refl _)
theorem hasP_fn (G:Gh) (A:Option Addr) (cap:Nat) (l:List Pr) (Hc:List Own) (cs0:List Value) (hr:Rds G Hc A cs0) (hk0:KFl Kd.prc G l cs0) (hlen:l.length≤1000000000) (f:Nat) [hB:Body Tryz.prog f] (fc:Array Value) (q:Pr→Bool) (hf:∀x cs,x∈l→Kd.prc.K G x cs→Fn Tryz.prog f (#[.agg cs.toArray]++fc) G Hc fun e G' H'=>e= .returned (.bool (q x))∧G=G'∧H'=Hc):
  Fn Tryz.prog 83 #[.slice A l.length cap, .func (.func f) #[] fc] G Hc fun e G' H'=>e= .returned (.bool (l.any q))∧G=G'∧H'=Hc:=by
 refine Fn.enter Tryz.func83 rfl rfl fun w0=>?_
 refine gom ?_
 refine WL.oo (OW.callK rfl (idxP_fn G A cap l Hc cs0 hr hk0 hlen f fc q hf) rfl fun v' G' H' h hg=>?_)
 obtain⟨he,rfl,hh⟩:=h
 cases hh.symm
 cases he
 rw[←idxR_any]
 refine gom ?_
 refine WK.pick Hc ?_
 refine WC.rt ?_
 exact QF.p1 (.inl rfl) rfl (.tmp rfl) (⟨rfl,rfl,rfl⟩)
set_option maxHeartbeats 1000000 in
theorem idxN_fn (G:Gh) (A:Option Addr) (cap:Nat) (l:List Nd) (Hc:List Own) (cs0:List Value) (hr:Rds G Hc A cs0) (hk0:KFl Kd.ned G l cs0) (hlen:l.length≤1000000000) (f:Nat) [hB:Body Tryz.prog f] (fc:Array Value) (q:Nd→Bool) (hf:∀x cs,x∈l→Kd.ned.K G x cs→Fn Tryz.prog f (#[.agg cs.toArray]++fc) G Hc fun e G' H'=>e= .returned (.bool (q x))∧G=G'∧H'=Hc):
  Fn Tryz.prog 81 #[.slice A l.length cap, .func (.func f) #[] fc] G Hc fun e G' H'=>e= .returned (.int .i64 (idxR q l))∧G=G'∧H'=Hc:=by
 refine Fn.enter Tryz.func81 rfl rfl fun w0=>?_
 refine gom ?_
 refine WC.loop (X:=Nat) (fun i=>[(0, .slice A l.length cap),(1, .func (.func f) #[] fc),(7, .int .i64 l.length),(8, .int .i64 i)]) (fun _=>G) (fun _=>Hc) (fun i=>l.length - i) (fun i=>i≤l.length∧∀j y,j<i→l[j]? =some y→q y=false) 0 ⟨Nat.zero_le _,fun j y h=>absurd h (Nat.not_lt_zero _)⟩ (by exact⟨rfl,rfl,rfl,rfl,trivial⟩) rfl (List.Sublist.refl _) fun i hi=>?_
 obtain⟨hi,h0⟩:=hi
 have x2:=wrapS i (by omega)
 by_cases hlt:i<l.length
 rotate_left
 ·have e2:decide ((i:Int)<(l.length:Int))=false:=decide_eq_false (by omega)
  have hr:idxR q l= -1:=idxR_none fun j y hj=>h0 j y (by omega)
  rw[hr]
  refine gom ?_
  refine WC.rt ?_
  exact QF.p1 (.inl rfl) rfl (.tmp rfl) (⟨rfl,rfl,rfl⟩)
 have e2:decide ((i:Int)<(l.length:Int))=true:=decide_eq_true (by omega)
 obtain⟨x,hx⟩:∃x,l[i]? =some x:=⟨_,List.getElem?_eq_getElem (by omega)⟩
 have x0:(0:Int)≤(i:Int):=by omega
 have x1:(i:Int)<(l.length:Int):=by omega
 have hks:=hk0.at_ i x hx
 obtain⟨rb,ro,hrr,hread⟩:=hr.resolve_left (fun h=>by have h1:=hk0.len;rw[h,show Kd.ned.n=4 from rfl,List.length_nil]at h1;omega)
 subst hrr
 refine gom ?_
 refine WL.vv (Gv.loadRN (i:=((i:Nat):Int).toNat*4) rfl hread (List.Sublist.refl _) rfl (Kd.ned.len hks)) ?_
 refine WL.oo (OW.callVK rfl rfl rfl (hf x _ (List.mem_of_getElem? hx) hks) rfl fun v' G' H' h hg=>?_)
 obtain⟨he,rfl,hh⟩:=h
 cases hh.symm
 cases he
 cases hq:q x with
 | true=>
  rw[idxR_at h0 hx hq]
  refine gom ?_
  refine WC.rt ?_
  exact QF.p1 (.inl rfl) rfl (.tmp rfl) (⟨rfl,rfl,rfl⟩)
 | false=>
  refine gom ?_
  refine WK.pick Hc ?_
  exact WK.again (i+1) (by omega) ⟨by omega,fun j y hj hy=>by
   rcases Nat.lt_or_ge j i with h | h
   ·exact h0 j y h hy
   ·obtain rfl:j=i:=by omega
    rw[hx]at hy;cases hy;exact hq⟩ (by exact⟨rfl,rfl,rfl,rfl,trivial⟩) rfl (List.Sublist.refl _)
theorem hasN_fn (G:Gh) (A:Option Addr) (cap:Nat) (l:List Nd) (Hc:List Own) (cs0:List Value) (hr:Rds G Hc A cs0) (hk0:KFl Kd.ned G l cs0) (hlen:l.length≤1000000000) (f:Nat) [hB:Body Tryz.prog f] (fc:Array Value) (q:Nd→Bool) (hf:∀x cs,x∈l→Kd.ned.K G x cs→Fn Tryz.prog f (#[.agg cs.toArray]++fc) G Hc fun e G' H'=>e= .returned (.bool (q x))∧G=G'∧H'=Hc):
  Fn Tryz.prog 36 #[.slice A l.length cap, .func (.func f) #[] fc] G Hc fun e G' H'=>e= .returned (.bool (l.any q))∧G=G'∧H'=Hc:=by
 refine Fn.enter Tryz.func36 rfl rfl fun w0=>?_
 refine gom ?_
 refine WL.oo (OW.callK rfl (idxN_fn G A cap l Hc cs0 hr hk0 hlen f fc q hf) rfl fun v' G' H' h hg=>?_)
 obtain⟨he,rfl,hh⟩:=h
 cases hh.symm
 cases he
 rw[←idxR_any]
 refine gom ?_
 refine WK.pick Hc ?_
 refine WC.rt ?_
 exact QF.p1 (.inl rfl) rfl (.tmp rfl) (⟨rfl,rfl,rfl⟩)
end
section
open Go.MapKept
attribute [local irreducible] Tryz.prog
abbrev ndC (n:Nd) (QA:Option Addr) (qc:Nat):Array Value:= #[.string n.path, .string n.name, .slice QA n.params.length qc, .int .i64 n.result]
theorem met1_fn (G:Gh) (H:List Own) (b j:Nat) (n:Nd) (QA:Option Addr) (qc:Nat) (hQ:Sl (Kd.int .i64) G QA n.params) (hb:At H j (.blk b (.cells (ndC n QA qc) 56 (0,0)))) (p:Pr) (cs:List Value) (hp:Kd.prc.K G p cs) (hpl:p.params.length≤1000000000):
  Fn Tryz.prog 84 #[.agg cs.toArray, .pointer (some ⟨b,0,none⟩)] G H fun e G' H'=>e= .returned (.bool (fitN n p))∧G=G'∧H'=H:=by
 obtain⟨PA,pc,IA,ic,rfl,hP,hI⟩:=hp
 refine Fn.enter Tryz.func84 rfl rfl fun w0=>?_
 refine WC.seq ?_
 refine WC.region ?_
 refine WL.oo (OW.box rfl rfl fun b2=>?_)
 refine gom ?_
 refine WL.vv (Gv.load1 rfl (.there hb) rfl) ?_
 cases hr:(p.result==n.result)with
 | false=>
  rw[show fitN n p=false by unfold fitN;rw[hr];rfl]
  refine gom ?_
  refine WC.rt ?_
  exact QF.p1 (.inl rfl) rfl (.tmp rfl) (⟨rfl,rfl,rfl⟩)
 | true=>
  rw[show fitN n p=(p.params==n.params) by unfold fitN;rw[hr];rfl]
  refine gom ?_
  refine WL.vv (Gv.load1 rfl (.there hb) rfl) ?_
  refine WL.oo (OW.callK rfl (equal_types G [] PA QA pc qc p.params n.params hP hQ (by omega)) rfl fun v' G' H' h hg=>?_)
  obtain⟨he,rfl,rfl⟩:=h
  cases he
  refine gom ?_
  refine WK.pick H ?_
  refine WC.rt ?_
  exact QF.p1 (.inl rfl) rfl (.tmp rfl) (⟨rfl,rfl,rfl⟩)
theorem met_fn (G:Gh) (mb:Nat) (es:Array MapEntry) (ck:Nat) (m:List (Ky×Value)) (hM:MK kyV es ck m) (l:List Ob) (hE:ExpM G l m) (hle:∀k,(expL l k).length≤1000000000) (hpl:∀o∈l,∀p∈o.procs,p.params.length≤1000000000) (n:Nd) (QA:Option Addr) (qc:Nat) (hQ:Sl (Kd.int .i64) G QA n.params):
  Fn Tryz.prog 39 #[.map (some mb), .agg (ndC n QA qc)] G [.blk mb (.map es ck)] fun e G' H'=>e= .returned (.bool (metL l n))∧G=G'∧H'=[.blk mb (.map es ck)]:=by
 refine Fn.enter Tryz.func39 rfl rfl fun w0=>?_
 refine WC.seq ?_
 refine WC.region ?_
 refine WL.oo (OW.box rfl rfl fun b3=>?_)
 refine gom ?_
 obtain⟨A,cap,hv,hS⟩:=hE (n.path,n.name)
 refine WL.vv (Gv.lookupK (emb:=kyV) (key:=(n.path,n.name)) (kt:=140) (z:= .slice none 0 0) rfl rfl atA hM hv) ?_
 refine gom ?_
 refine WL.pp (Gp.makeFunc rfl rfl) ?_
 obtain⟨cs0,hr,hk⟩:=Sl.kfl (H:=[.blk b3 (.cells (ndC n QA qc) 56 (0,0))]) (by decide) hS
 have hmem:∀p∈expL l (n.path,n.name),p.params.length≤1000000000:=fun p hp=>by
  unfold expL at hp
  split at hp
  ·cases hp
  ·rename_i o ho
   exact hpl o (List.mem_of_find?_eq_some ho) p (List.mem_filter.1 hp).1
 refine WL.oo (OW.callK rfl (hasP_fn G A cap (expL l (n.path,n.name)) [.blk b3 (.cells (ndC n QA qc) 56 (0,0))] cs0 hr hk (hle _) 84 #[.pointer (some ⟨b3,0,none⟩)] (fitN n) (fun x cs hx hK=>met1_fn G _ b3 0 n QA qc hQ .here x cs hK (hmem x hx))) rfl fun v' G' H' h hg=>?_)
 obtain⟨he,rfl,rfl⟩:=h
 cases he
 refine gom ?_
 refine WC.rt ?_
 exact QF.p1 (.inl rfl) rfl (.tmp rfl) (⟨rfl,rfl,rfl⟩)
theorem sameNeed_fn (G:Gh) (a b:Nd) (QA RA:Option Addr) (qc rc:Nat) (hQ:Sl (Kd.int .i64) G QA a.params) (hR:Sl (Kd.int .i64) G RA b.params) (hl:a.params.length≤100000000000000):
  Fn Tryz.prog 38 #[.agg (ndC a QA qc), .agg (ndC b RA rc)] G [] fun e G' H'=>e= .returned (.bool (sameN a b))∧G=G'∧H'=[]:=by
 refine Fn.enter Tryz.func38 rfl rfl fun w0=>?_
 refine WC.seq ?_
 refine WC.region ?_
 refine WL.oo (OW.box rfl rfl fun b2=>?_)
 refine WL.oo (OW.box rfl rfl fun b3=>?_)
 refine gom ?_
 cases h1:(a.path==b.path)with
 | false=>
  rw[show sameN a b=false by unfold sameN;rw[h1];rfl]
  refine gom ?_
  refine WC.rt ?_
  exact QF.p1 (.inl rfl) rfl (.tmp rfl) (⟨rfl,rfl,rfl⟩)
 | true=>
 refine gom ?_
 cases h2:(a.name==b.name)with
 | false=>
  rw[show sameN a b=false by unfold sameN;rw[h1,h2];rfl]
  refine gom ?_
  refine WC.rt ?_
  exact QF.p1 (.inl rfl) rfl (.tmp rfl) (⟨rfl,rfl,rfl⟩)
 | true=>
 cases h3:(a.result==b.result)with
 | false=>
  rw[show sameN a b=false by unfold sameN;rw[h1,h2,h3];rfl]
  refine gom ?_
  refine WC.rt ?_
  exact QF.p1 (.inl rfl) rfl (.tmp rfl) (⟨rfl,rfl,rfl⟩)
 | true=>
 rw[show sameN a b=(a.params==b.params) by unfold sameN;rw[h1,h2,h3];rfl]
 refine gom ?_
 refine WL.oo (OW.callK rfl (equal_types G [] QA RA qc rc a.params b.params hQ hR (by omega)) rfl fun v' G' H' h hg=>?_)
 obtain⟨he,rfl,rfl⟩:=h
 cases he
 refine gom ?_
 refine WC.rt ?_
 exact QF.p1 (.inl rfl) rfl (.tmp rfl) (⟨rfl,rfl,rfl⟩)
theorem miss1_fn (G:Gh) (H:List Own) (b j:Nat) (n:Nd) (QA:Option Addr) (qc:Nat) (hQ:Sl (Kd.int .i64) G QA n.params) (hb:At H j (.blk b (.cells (ndC n QA qc) 56 (0,0)))) (x:Nd) (cs:List Value) (hx:Kd.ned.K G x cs) (hl:x.params.length≤1000000000):
  Fn Tryz.prog 37 #[.agg cs.toArray, .pointer (some ⟨b,0,none⟩)] G H fun e G' H'=>e= .returned (.bool (sameN x n))∧G=G'∧H'=H:=by
 obtain⟨XA,xc,rfl,hX⟩:=hx
 refine Fn.enter Tryz.func37 rfl rfl fun w0=>?_
 refine WC.seq ?_
 refine WC.region ?_
 refine WL.oo (OW.box rfl rfl fun b2=>?_)
 refine gom ?_
 refine WL.vv (Gv.loadN rfl (.there hb) rfl rfl) ?_
 refine WL.oo (OW.callK rfl (sameNeed_fn G x n XA QA xc qc hX hQ (by omega)) rfl fun v' G' H' h hg=>?_)
 obtain⟨he,rfl,rfl⟩:=h
 cases he
 refine gom ?_
 refine WK.pick H ?_
 refine WC.rt ?_
 exact QF.p1 (.inl rfl) rfl (.tmp rfl) (⟨rfl,rfl,rfl⟩)
end
section
open Go.MapKept
attribute [local irreducible] Tryz.prog expL metL
structure LLim (l:List Ob):Prop where
 len:l.length≤1048576
 sumP:sumP l≤1048576
 sumN:(l.map (·.needs.length)).sum≤1048576
 sumC:sumC l≤1048576
 lim:∀o∈l,OLim o
 pp:∀o∈l,∀p∈o.procs,p.params.length≤1048576∧p.code.length≤1048576
 np:∀o∈l,∀n∈o.needs,n.params.length≤1048576
theorem expL_len {l:List Ob} (h:LLim l) (k:Ky):(expL l k).length≤1000000000:=by
 rw[←expOf_all]
 have h1:=expOf_len (pairsL [] l) k
 have h2:=pairsL_len l []
 have h3:=h.sumP
 unfold Gb.sumP at h3
 omega
structure ML where
 i:Nat
 A:Option Addr
 cap:Nat
 acc:List Nd
 x:Own
 G:Gh
theorem missStep_len (l:List Ob) (acc:List Nd) (n:Nd):(missStep l acc n).length≤acc.length+1:=by
 unfold missStep
 split
 ·omega
 ·simp
theorem foldl_len (l:List Ob):∀(ns:List Nd) (acc:List Nd),(ns.foldl (missStep l) acc).length≤acc.length+ns.length
 | [],acc=>by simp
 | n::ns,acc=>by
  rw[List.foldl_cons]
  have h1:=foldl_len l ns (missStep l acc n)
  have h2:=missStep_len l acc n
  rw[List.length_cons];omega
theorem foldl_mem (l:List Ob):∀(ns:List Nd) (acc:List Nd),∀x∈ns.foldl (missStep l) acc,x∈acc∨x∈ns
 | [],acc,x,h=> .inl h
 | n::ns,acc,x,h=>by
  rw[List.foldl_cons]at h
  rcases foldl_mem l ns _ x h with h | h
  ·unfold missStep at h
   split at h
   ·exact .inl h
   ·rcases List.mem_append.1 h with h | h
    ·exact .inl h
    ·exact .inr (by rw[List.mem_singleton.1 h];exact List.mem_cons_self ..)
  ·exact .inr (List.mem_cons_of_mem _ h)
theorem sumN_take {l:List Ob} {i:Nat} {o:Ob} (h:l[i]? =some o):((l.take i).flatMap (·.needs)).length+o.needs.length≤(l.map (·.needs.length)).sum:=by
 induction l generalizing i with
 | nil=>simp at h
 | cons a r ih=>
  cases i with
  | zero=>simp at h;subst h;simp
  | succ i=>rw[List.take_succ_cons,List.flatMap_cons,List.length_append,List.map_cons,List.sum_cons];have:=ih (by simpa using h);omega
set_option maxRecDepth 20000 in
set_option maxHeartbeats 4000000 in
theorem Missing_fn (G:Gh) (A:Option Addr) (cap:Nat) (l:List Ob) (hl:Sl Kd.ob G A l) (hL:LLim l):
  Fn Tryz.prog 13 #[.slice A l.length cap] G [] fun e G' H'=>∃MA mc x,e= .returned (.slice MA (missL l).length mc)∧G.le G'∧KVec Kd.ned 56 G' MA mc (missL l) x∧H'=[x]:=by
 have hlen:=hL.len
 refine Fn.enter Tryz.func13 rfl rfl fun w0=>?_
 refine gom ?_
 refine WL.oo (OW.callK rfl (exported_fn G A cap l hl hL.len hL.sumP) rfl fun v' G' H' h hg=>?_)
 obtain⟨mb,es,ck,m,he,hg0,hM,hE,rfl⟩:=h
 cases he
 obtain⟨G1,rfl⟩:∃G1,G1=G':=⟨_,rfl⟩
 refine gom ?_
 refine WC.nothing ?_
 refine WC.loop (X:=ML) (fun x=>[(3, .map (some mb)),(4, .slice x.A x.acc.length x.cap),(12, .slice A l.length cap),(13, .int .i64 l.length),(14, .int .i64 x.i)]) (fun x=>x.G) (fun x=>[x.x, .blk mb (.map es ck)]) (fun x=>l.length - x.i)
  (fun x=>x.i≤l.length∧G1.le x.G∧KVec Kd.ned 56 x.G x.A x.cap x.acc x.x∧x.acc=((l.take x.i).flatMap (·.needs)).foldl (missStep l) []) ⟨0,none,0,[], .spare 0 0 0,G1⟩ ⟨Nat.zero_le _,Gh.le_refl _,KVec.nil,rfl⟩ (by exact⟨rfl,rfl,rfl,rfl,rfl,trivial⟩) rfl (List.Sublist.refl _) fun x hx=>?_
 obtain⟨i,B,cb,acc,xo,G2⟩:=x
 obtain⟨hi,hg2,hK,hacc⟩:=hx
 dsimp only at hi hg2 hK hacc
 have x2:=wrapS i (by omega)
 by_cases hlt:i<l.length
 rotate_left
 ·have e2:decide ((i:Int)<(l.length:Int))=false:=decide_eq_false (by omega)
  have hm:acc=missL l:=by rw[hacc,List.take_of_length_le (by omega)];rfl
  subst hm
  refine gom ?_
  refine WC.rt ?_
  exact QF.p1 (.inl rfl) rfl (.tmp rfl) (⟨B,cb,xo,rfl,Gh.le_trans hg0 hg2,hK,rfl⟩)
 have e2:decide ((i:Int)<(l.length:Int))=true:=decide_eq_true (by omega)
 obtain⟨o,ho⟩:∃o,l[i]? =some o:=⟨_,List.getElem?_eq_getElem (by omega)⟩
 have hom:=List.mem_of_getElem? ho
 have x0:(0:Int)≤(i:Int):=by omega
 have x1:(i:Int)<(l.length:Int):=by omega
 have hl2:=hl.mono (Gh.le_trans hg0 hg2)
 obtain⟨ab,ao,cs,rfl,hks,hcs⟩:=hl2 i o ho
 obtain⟨CA,cc,NA,nc,PA,pc,rfl,hO⟩:=hks
 have hfl:(l.take (i+1)).flatMap (·.needs)=(l.take i).flatMap (·.needs)++o.needs:=by rw[take_snoc' ho,List.flatMap_append];simp
 have hsn:=sumN_take ho
 have hsl:=hL.sumN
 refine gom ?_
 refine WL.oo (OW.alloc rfl fun b6=>?_)
 refine gom ?_
 refine WC.pick [xo, .blk mb (.map es ck)] ?_
 refine WC.loop (X:=ML) (fun x=>[(3, .map (some mb)),(4, .slice x.A x.acc.length x.cap),(12, .slice (some ⟨ab,ao,none⟩) l.length cap),(13, .int .i64 l.length),(14, .int .i64 i),(19, .slice NA o.needs.length nc),(20, .int .i64 o.needs.length),(21, .int .i64 x.i)]) (fun x=>x.G) (fun x=>[x.x, .blk mb (.map es ck)]) (fun x=>o.needs.length - x.i)
  (fun x=>x.i≤o.needs.length∧G2.le x.G∧KVec Kd.ned 56 x.G x.A x.cap x.acc x.x∧x.acc=((l.take i).flatMap (·.needs)++o.needs.take x.i).foldl (missStep l) []) ⟨0,B,cb,acc,xo,G2⟩ ⟨Nat.zero_le _,Gh.le_refl _,hK,by dsimp only;rw[List.take_zero,List.append_nil];exact hacc⟩ (by exact⟨rfl,rfl,rfl,rfl,rfl,rfl,rfl,rfl,trivial⟩) rfl (List.Sublist.refl _) fun x hx=>?_
 obtain⟨j,B,cb,acc,xo,G3⟩:=x
 obtain⟨hj,hg3,hK,hacc⟩:=hx
 dsimp only at hj hg3 hK hacc
 have y2:=wrapS j (by omega)
 by_cases hjl:j<o.needs.length
 rotate_left
 ·have e4:decide ((j:Int)<(o.needs.length:Int))=false:=decide_eq_false (by omega)
  have htj:o.needs.take j=o.needs:=List.take_of_length_le (by omega)
  refine gom ?_
  refine WK.pick [xo, .blk mb (.map es ck)] ?_
  exact WK.again ⟨i+1,B,cb,acc,xo,G3⟩ (by dsimp only;omega) ⟨by show i+1≤_;omega,Gh.le_trans hg2 hg3,hK,by dsimp only;rw[hacc,hfl,htj]⟩ (by exact⟨rfl,rfl,rfl,rfl,rfl,trivial⟩) rfl (List.Sublist.refl _)
 have e4:decide ((j:Int)<(o.needs.length:Int))=true:=decide_eq_true (by omega)
 obtain⟨n,hn⟩:∃n,o.needs[j]? =some n:=⟨_,List.getElem?_eq_getElem hjl⟩
 have hnm:=List.mem_of_getElem? hn
 have y0:(0:Int)≤(j:Int):=by omega
 have y1:(j:Int)<(o.needs.length:Int):=by omega
 have hO3:=hO.mono hg3
 obtain⟨nb,no,cs2,rfl,hks2,hcs2⟩:=hO3.needs j n hn
 obtain⟨QA,qc,rfl,hQ⟩:=hks2
 have hqn:(o.needs.take (j+1))=o.needs.take j++[n]:=take_snoc' hn
 have hstep:((l.take i).flatMap (·.needs)++o.needs.take (j+1)).foldl (missStep l) []=missStep l acc n:=by rw[hqn,←List.append_assoc,List.foldl_append,←hacc];rfl
 have hal:acc.length≤1048576:=by
  have:=foldl_len l ((l.take i).flatMap (·.needs)++o.needs.take j) []
  rw[←hacc,List.length_append,List.length_take,List.length_nil]at this
  omega
 have hap:∀x∈acc,x.params.length≤1000000000:=fun x hx=>by
  rw[hacc]at hx
  rcases foldl_mem l _ _ x hx with h | h
  ·cases h
  ·rcases List.mem_append.1 h with h | h
   ·obtain⟨o',ho',hx'⟩:=List.mem_flatMap.1 h
    have:=hL.np o' (List.mem_of_mem_take ho') x hx';omega
   ·have:=hL.np o hom x (List.mem_of_mem_take h);omega
 have hnp:=hL.np o hom n hnm
 refine gom ?_
 refine WL.oo (OW.alloc rfl fun b8=>?_)
 refine gom ?_
 refine WL.pp (Gp.makeFunc rfl rfl) ?_
 obtain⟨cs0,hr0,hk0⟩:=hK.rds (H:=[xo, .blk b8 (.cells (ndC n QA qc) 56 (0,0))]) .here
 refine WL.oo (OW.callK rfl (hasN_fn G3 B cb acc [xo, .blk b8 (.cells (ndC n QA qc) 56 (0,0))] cs0 hr0 hk0 (by omega) 37 #[.pointer (some ⟨b8,0,none⟩)] (fun x=>sameN x n) (fun x cs hx hk=>miss1_fn G3 _ b8 1 n QA qc hQ (.there .here) x cs hk (hap x hx))) rfl fun v' G' H' h hg=>?_)
 obtain⟨he,rfl,rfl⟩:=h
 cases he
 refine WL.pick [xo, .blk b8 (.cells (ndC n QA qc) 56 (0,0)), .blk mb (.map es ck)] ?_
 refine gom ?_
 have hg03:=Gh.le_trans hg2 hg3
 have hE3:ExpM G3 l m:=fun k=>by obtain⟨a,b,h1,h2⟩:=hE k;exact⟨a,b,h1,h2.mono hg03⟩
 refine WL.oo (OW.callK rfl (met_fn G3 mb es ck m hM l hE3 (expL_len hL) (fun o ho p hp=>by have:=(hL.pp o ho p hp).1;omega) n QA qc hQ) rfl fun v' G' H' h hg=>?_)
 obtain⟨he,rfl,rfl⟩:=h
 cases he
 refine WL.pick [xo, .blk b8 (.cells (ndC n QA qc) 56 (0,0)), .blk mb (.map es ck)] ?_
 have hno:∀(h:(metL l n || acc.any (fun x=>sameN x n))=true),missStep l acc n=acc:=fun h=>by unfold missStep;rw[if_pos h]
 cases hmet:metL l n with
 | true=>
  have hst:=hno (by rw[hmet];rfl)
  refine gom ?_
  refine WK.pick [xo, .blk mb (.map es ck)] ?_
  exact WK.again ⟨j+1,B,cb,acc,xo,G3⟩ (by dsimp only;omega) ⟨by show j+1≤_;omega,hg3,hK,by dsimp only;rw[hstep,hst]⟩ (by exact⟨rfl,rfl,rfl,rfl,rfl,rfl,rfl,rfl,trivial⟩) rfl (List.Sublist.refl _)
 | false=>
 cases hany:acc.any (fun x=>sameN x n)with
 | true=>
  have hst:=hno (by rw[hmet,hany];rfl)
  refine gom ?_
  refine WK.pick [xo, .blk mb (.map es ck)] ?_
  exact WK.again ⟨j+1,B,cb,acc,xo,G3⟩ (by dsimp only;omega) ⟨by show j+1≤_;omega,hg3,hK,by dsimp only;rw[hstep,hst]⟩ (by exact⟨rfl,rfl,rfl,rfl,rfl,rfl,rfl,rfl,trivial⟩) rfl (List.Sublist.refl _)
 | false=>
 have hst:missStep l acc n=acc++[n]:=by unfold missStep;rw[hmet,hany];rfl
 refine gom ?_
 refine WL.oo (OW.callK rfl (clone_types G3 [] QA n.params.length qc (ints n.params) hQ.ints (ints_length _) (ints_one _) hQ.none_len (by omega)) rfl fun v' G' H' h hg=>?_)
 obtain⟨A4,cap4,x4,he,rfl,rfl,hx4⟩:=h
 cases he
 refine WL.frozenVec hx4 atA fun G4 hg4 z4=>?_
 have hQ4:Sl (Kd.int .i64) G4 A4 n.params:=IVec.sl z4
 refine WL.pick [.blk b8 (.cells (ndC n QA qc) 56 (0,0)),xo, .blk mb (.map es ck)] ?_
 refine gom ?_
 refine WL.op kr (OW.buildSlice rfl kr kr (by rfl) rfl fun b42=>?_)
 refine WL.oo (OW.append1 (k:=Kd.ned) (u:=n) rfl rfl kr rfl (hK.mono hg4) atA .here rfl ⟨A4,cap4,rfl,hQ4⟩ (by dsimp only;omega) (by dsimp only;omega) rfl fun A5 c5 o5 hv5=>?_)
 refine gom ?_
 refine WK.pick [o5, .blk mb (.map es ck)] ?_
 exact WK.again ⟨j+1,A5,c5,acc++[n],o5,G4⟩ (by dsimp only;omega) ⟨by show j+1≤_;omega,Gh.le_trans hg3 hg4,hv5,by dsimp only;rw[hstep,hst]⟩ (by exact⟨rfl,rfl,rfl,rfl,rfl,rfl,rfl,rfl,trivial⟩) rfl (List.Sublist.refl _)
end
section
def lkI (w w':Wd) (i i':Int×Int):Prop:=
 if i.1=1 then i'.1=1∧(w'.consts[i'.2.toNat]?).map (·.t)=(w.consts[i.2.toNat]?).map (·.t)
 else if i.1=7 then i'.1=7∧(w'.procs[i'.2.toNat]?).map (fun p=>(p.params,p.result))=(w.procs[i.2.toNat]?).map (fun p=>(p.params,p.result))
 else if i.1=8 then i'.1=7∧(w'.procs[i'.2.toNat]?).map (fun p=>(p.params,p.result))=(w.needs[i.2.toNat]?).map (fun p=>(p.params,p.result))
 else i'=i
theorem map_hd {α β:Type} {a:Option α} {b:Option β} {f:α→List Int×Int} {g:β→List Int×Int} (h:a.map f=b.map g) {γ:Type} (k:List Int×Int→γ):a.map (fun x=>k (f x))=b.map (fun x=>k (g x)):=by
 cases a with
 | none=>cases b with | none=>rfl | some y=>cases h
 | some x=>cases b with | none=>cases h | some y=>simp at h⊢;rw[h]
section
variable {w w':Wd} {i i':Int×Int} (h:lkI w w' i i')
include h
theorem lkI.eff (vars:List Int):effC w' vars i'=effC w vars i:=by
 unfold lkI at h
 split at h
 ·rename_i h1;unfold effC;rw[if_pos h.1,if_pos h1,h.2]
 split at h
 ·rename_i h1 h2
  unfold effC
  rw[if_neg (by rw[h.1];decide),if_neg (by rw[h.1];decide),if_pos h.1,if_neg h1,if_neg (by rw[h2];decide),if_pos h2]
  have:=map_hd h.2 (fun q=>hdE q.1 q.2)
  rw[this]
 split at h
 ·rename_i h1 h2 h3
  unfold effC
  rw[if_neg (by rw[h.1];decide),if_neg (by rw[h.1];decide),if_pos h.1,if_neg h1,if_neg (by rw[h3];decide),if_neg h2,if_pos h3]
  have:=map_hd h.2 (fun q=>hdE q.1 q.2)
  rw[this]
 ·rename_i h1 h2 h3
  rw[h]
  unfold effC
  rw[if_neg h1,if_neg h2,if_neg h3,if_neg h1,if_neg h2,if_neg h3]
theorem lkI.cases:(i'.1=i.1∧(i.1=1∨i.1=7))∨(i.1=8∧i'.1=7)∨i'=i:=by
 unfold lkI at h
 split at h
 ·rename_i h1;exact .inl ⟨h.1.trans h1.symm, .inl h1⟩
 split at h
 ·rename_i h2;exact .inl ⟨h.1.trans h2.symm, .inr h2⟩
 split at h
 ·rename_i h3;exact .inr (.inl ⟨h3,h.1⟩)
 ·exact .inr (.inr h)
theorem lkI.next (k:Nat):nextR i' k=nextR i k:=by
 rcases h.cases with⟨h1,h2⟩ | ⟨h1,h2⟩ | h1
 ·unfold nextR
  rcases h2 with h2 | h2<;>simp[h1,h2]
 ·unfold nextR;simp[h1,h2]
 ·rw[h1]
theorem lkI.vars (s:SS):varsR i' s=varsR i s:=by
 rcases h.cases with⟨h1,h2⟩ | ⟨h1,h2⟩ | h1
 ·unfold varsR
  rcases h2 with h2 | h2<;>simp[h1,h2]
 ·unfold varsR;simp[h1,h2]
 ·rw[h1]
theorem lkI.bad (s:SS):badS w' i' s↔badS w i s:=by unfold badS;rw[h.eff]
theorem lkI.beh (s:SS):behR w' i' s=behR w i s:=by
 unfold behR
 rw[h.vars,h.eff]
 by_cases hb:badS w i s
 ·rw[if_pos hb,if_pos ((h.bad s).2 hb)]
 ·rw[if_neg hb,if_neg (fun x=>hb ((h.bad s).1 x))]
end
structure lkP (w w':Wd) (p p':Pr):Prop where
 name:p'.name=p.name
 params:p'.params=p.params
 locals:p'.locals=p.locals
 result:p'.result=p.result
 len:p'.code.length=p.code.length
 ins:∀(k:Nat) i,p.code[k]? =some i→∃i',p'.code[k]? =some i'∧lkI w w' i i'
section
variable {w w':Wd} {p p':Pr} (h:lkP w w' p p')
include h
theorem lkP.back {k:Nat} {i':Int×Int} (hi:p'.code[k]? =some i'):∃i,p.code[k]? =some i∧lkI w w' i i':=by
 have hk:k<p.code.length:=by have:=(List.getElem?_eq_some_iff.1 hi).1;have:=h.len;omega
 obtain⟨j,hj,hl⟩:=h.ins k _ (List.getElem?_eq_getElem hk)
 rw[hi]at hj
 obtain rfl:=Option.some.inj hj
 exact⟨_,List.getElem?_eq_getElem hk,hl⟩
theorem lkP.begin:beginS p'=beginS p:=by unfold beginS;rw[h.params,h.locals]
theorem lkP.closed {l:List SS} (hc:Closed w p l):Closed w' p' l where
 len:=hc.len.trans h.len.symm
 wf:=by rw[h.locals];exact hc.wf
 zero:=by rw[h.begin];exact hc.zero
 step k i' s hi hs hr x hx j t hj ht:=by
  obtain⟨i,hi0,hl⟩:=h.back hi
  rw[hl.next]at hx
  rw[hl.beh]
  exact hc.step k i s hi0 hs hr x hx j t hj ht
theorem lkP.closed' {l:List SS} (hc:Closed w' p' l):Closed w p l where
 len:=hc.len.trans h.len
 wf:=by have:=hc.wf;rw[h.locals]at this;exact this
 zero:=by have:=hc.zero;rw[h.begin]at this;exact this
 step k i s hi hs hr x hx j t hj ht:=by
  obtain⟨i',hi0,hl⟩:=h.ins k i hi
  rw[←hl.beh]
  exact hc.step k i' s hi0 hs hr x (by rw[hl.next];exact hx) j t hj ht
theorem lkP.least {l:List SS} (hl:Least w p l):Least w' p' l:=⟨h.closed hl.closed,fun m hm=>hl.low m (h.closed' hm)⟩
theorem lkP.kinds {i i':Int×Int} (hi:lkI w w' i i') (s:SS) (top:List Int):kindsR w' p' i' s top=kindsR w p i s top:=by
 unfold lkI at hi
 split at hi
 ·rename_i h1;unfold kindsR;simp[h1,hi.1]
 split at hi
 ·rename_i h1 h2
  have:=map_hd hi.2 (fun q=>q.1)
  unfold kindsR;simp[h2,hi.1,this]
 split at hi
 ·rename_i h1 h2 h3
  have:=map_hd hi.2 (fun q=>q.1)
  unfold kindsR;simp[h3,hi.1,this]
 ·rename_i h1 h2 h3
  rw[hi]
  unfold kindsR
  simp only[h2,h3,if_false,h.result]
theorem lkP.met {k:Nat} {i i':Int×Int} (hi:lkI w w' i i') (s:SS):metR w' p' k i' s=metR w p k i s:=by
 have h9:(i'.1=9∧p'.result≠0∨i'.1=10∧p'.result=0)↔(i.1=9∧p.result≠0∨i.1=10∧p.result=0):=by
  rw[h.result]
  rcases hi.cases with⟨h1,h2⟩ | ⟨h1,h2⟩ | h1
  ·rw[h1]
  ·rw[h1,h2];simp
  ·rw[h1]
 unfold metR
 rw[hi.next,h.len,h.kinds hi,hi.eff]
 simp only[h9,hi.bad]
theorem lkP.badAt (l:List SS) (k:Nat):badAt w' p' l k=badAt w p l k:=by
 unfold Gb.badAt
 cases hs:l[k]? with
 | none=>rfl
 | some s=>
  cases hi:p.code[k]? with
  | none=>
   have:p'.code[k]? =none:=by rw[List.getElem?_eq_none_iff]at hi⊢;rw[h.len];exact hi
   rw[this]
  | some i=>
   obtain⟨i',hi',hl⟩:=h.ins k i hi
   rw[hi']
   dsimp only
   rw[h.met hl]
theorem lkP.wrong (l:List SS):wrongR w' p' l=wrongR w p l:=by
 unfold wrongR
 rw[show Gb.badAt w' p' l=Gb.badAt w p l from funext fun k=>h.badAt l k]
theorem lkP.procR:procR p'=procR p:=by unfold Gb.procR;rw[h.name,h.params,h.result,h.locals,h.len]
end
end
section
open Go.MapKept
def wayS (v st:List Int):SS:=⟨true,false,v,st⟩
structure Taken (w:Wd) (p:Pr) (l:List SS):Prop where
 pok:POk w p
 clo:Closed w p l
 par:∀q∈w.procs,∀x∈q.params,x≠0
 npar:∀q∈w.needs,∀x∈q.params,x≠0
 cons:∀v∈w.consts,v.t≠0
 may:∀(k:Nat) (i:Int×Int),p.code[k]? =some i→mayR i.1 i.2=true
 well:∀(k:Nat) (s:SS) (i:Int×Int),l[k]? =some s→p.code[k]? =some i→s.reached=true→metR w p k i s=0
structure Way (w:Wd) (p:Pr) (l:List SS) (k:Nat) (v st:List Int):Prop where
 at_:∃t,l[k]? =some t∧(wayS v st).le t
structure Stand (w:Wd) (p:Pr) (l:List SS) (k:Nat) (v st:List Int) (t:SS) (i:Int×Int):Prop where
 told:l[k]? =some t
 ins:p.code[k]? =some i
 vars:LeR v t.vars
 stack:LeR st t.stack
 unl:t.unlike=false
 rch:t.reached=true
 wf:t.wf p.locals.toNat
 vlen:v.length=p.locals.toNat
 bad:¬badS w i (wayS v st)
 kinds:kindsR w p i (wayS v st) (st.drop (st.length - (effC w v i).1))=true
 ret:i.1=9→p.result=0
 give:i.1=10→p.result≠0
 jumps:∀x∈nextR i k,x<p.code.length
def layR (w:Wd) (v:List Int) (i:Int×Int):Int:=
 if i.1=1 then((w.consts[i.2.toNat]?).map (·.t)).getD 0
 else if i.1=2 then(v[i.2.toNat]?).getD 0
 else if i.1=7 then((w.procs[i.2.toNat]?).map (·.result)).getD 0
 else if i.1=8 then((w.needs[i.2.toNat]?).map (·.result)).getD 0
 else if i.1=20 then 3
 else if 12≤i.1∧i.1≤17 then 2
 else if i.1=25 then 2
 else(rowC i.1).lays
end
section
open Go.MapKept
theorem FIn.all {w:Wd} {p:Pr} {q:Nat} {i:Int×Int} {s0:SS} :∀(xs:List Int) (l:List SS) (T ds:List Int),FIn w p l T q i s0 ds→(∀x∈xs,x∈nextR i q∧0≤x)→
  ∃l' T' ds',FIn w p l' T' q i s0 ds'∧(∀x∈xs,x∈ds'∨(p.code.length:Int)≤x)∧(∀x∈ds,x∈ds')∧(sumW p.locals.toNat l'<sumW p.locals.toNat l∨(l'=l∧T'=T))
 | [],l,T,ds,h,_=>⟨l,T,ds,h,by simp,fun _ h=>h, .inr ⟨rfl,rfl⟩⟩
 | x::xs,l,T,ds,h,hx=>by
  obtain⟨hxn,hx0⟩:=hx x (List.mem_cons_self ..)
  have hrest:∀y∈xs,y∈nextR i q∧0≤y:=fun y hy=>hx y (List.mem_cons_of_mem _ hy)
  by_cases hle:(p.code.length:Int)≤x
  ·obtain⟨l',T',ds',h1,h2,h3,h4⟩:=FIn.all xs l T ds h hrest
   exact⟨l',T',ds',h1,fun y hy=>by
    rcases List.mem_cons.1 hy with rfl | hy
    ·exact .inr hle
    ·exact h2 y hy,h3,h4⟩
  obtain⟨k,rfl⟩:∃k:Nat,x=(k:Int):=⟨x.toNat,by omega⟩
  have hkl:k<l.length:=by rw[h.len];omega
  have hs:l[k]? =some l[k]:=List.getElem?_eq_getElem hkl
  by_cases hj:joinS l[k] (behR w i s0)=l[k]
  ·obtain⟨l',T',ds',h1,h2,h3,h4⟩:=FIn.all xs l T _ (h.same hs hj) hrest
   exact⟨l',T',ds',h1,fun y hy=>by
    rcases List.mem_cons.1 hy with rfl | hy
    ·exact .inl (h3 _ (List.mem_cons_self ..))
    ·exact h2 y hy,fun y hy=>h3 y (List.mem_cons_of_mem _ hy),h4⟩
  ·have hri:=h.rises hs hj
   obtain⟨l',T',ds',h1,h2,h3,h4⟩:=FIn.all xs _ ((k:Int)::T) _ (h.turn hxn hs (T':=(k:Int)::T) (fun y=>by simp[or_comm])) hrest
   refine⟨l',T',ds',h1,fun y hy=>?_,fun y hy=>h3 y (List.mem_cons_of_mem _ hy), .inl ?_⟩
   ·rcases List.mem_cons.1 hy with rfl | hy
    ·exact .inl (h3 _ (List.mem_cons_self ..))
    ·exact h2 y hy
   ·rcases h4 with h4 | ⟨h4,_⟩
    ·omega
    ·rw[h4];exact hri
theorem least_go {w:Wd} {p:Pr} (hp:POk w p):∀(N M:Nat) (l:List SS) (T:List Int),FInv w p l T→sumW p.locals.toNat l≤N→T.length≤M→∃l',Least w p l':=by
 intro N
 induction N using Nat.strongRecOn with
 | _ N ihN=>
  intro M
  induction M with
  | zero=>
   intro l T h _ hM
   have:T=[]:=List.eq_nil_of_length_eq_zero (by omega)
   subst this
   exact⟨l,h.least⟩
  | succ M ihM=>
   intro l T h hN hM
   cases T with
   | nil=>exact⟨l,h.least⟩
   | cons x T=>
    obtain⟨q,s,rfl,hs,hr⟩:=h.todo x (List.mem_cons_self ..)
    have hql:=(List.getElem?_eq_some_iff.1 hs).1
    rw[h.len]at hql
    obtain⟨i,hi⟩:∃i,p.code[q]? =some i:=⟨_,List.getElem?_eq_getElem hql⟩
    have h0:=h.into (T':=T) (List.mem_cons_self ..) hi hs (fun y hy=>List.mem_cons_of_mem _ hy) (fun y hy hne=>(List.mem_cons.1 hy).resolve_left hne)
    have hi0:=(hp.ins q i hi).1
    have hnn:∀y∈nextR i q,y∈nextR i q∧0≤y:=fun y hy=>⟨hy,by
     obtain⟨c,n⟩:=i
     obtain⟨m,rfl⟩:∃m:Nat,n=(m:Int):=⟨n.toNat,by dsimp only at hi0;omega⟩
     exact nextR_nonneg hy⟩
    obtain⟨l',T',ds',h1,h2,_,h4⟩:=FIn.all (nextR i q) l T [] h0 hnn
    have h5:=h1.done h2
    rcases h4 with h4 | ⟨rfl,rfl⟩
    ·exact ihN (sumW p.locals.toNat l') (by omega) T'.length l' T' h5 (Nat.le_refl _) (Nat.le_refl _)
    ·exact ihM l' T' h5 hN (by simp at hM;omega)
theorem POk.least {w:Wd} {p:Pr} (hp:POk w p):Least w p (flowOf w p):=by
 obtain⟨l,h⟩:=least_go hp _ _ _ _ (FInv.first hp.par hp.pos) (Nat.le_refl _) (Nat.le_refl _)
 rw[h.flow];exact h
theorem typedR_nz {x:Int} (h:typedR x=true):x≠0:=by
 unfold typedR at h
 simp at h
 omega
theorem headR_nz {ps:List Int} {r:Int} (h:headR ps r=true):∀x∈ps,x≠0:=fun x hx=>by
 unfold headR at h
 simp only[Bool.and_eq_true]at h
 exact typedR_nz (List.all_eq_true.1 h.1 x hx)
theorem valueR_nz {v:V} (h:valueR v=true):v.t≠0:=fun e=>by
 unfold valueR at h
 rw[e]at h
 simp at h
theorem procR_parts {p:Pr} (h:procR p=true):headR p.params p.result=true:=by
 unfold procR at h
 simp only[Bool.and_eq_true]at h
 exact h.2.1
theorem wrong_zero {w:Wd} {p:Pr} {l:List SS} (h:(wrongR w p l).2=0):∀(k:Nat) (s:SS) (i:Int×Int),l[k]? =some s→p.code[k]? =some i→s.reached=true→metR w p k i s=0:=by
 intro k s i hs hi hr
 unfold wrongR firstR at h
 split at h
 ·rename_i j hj
  have:=List.find?_some hj
  simp at this
  exact absurd h this
 ·rename_i hj
  have:=List.find?_eq_none.1 hj k (by simpa using(List.getElem?_eq_some_iff.1 hs).1)
  have h2:badAt w p l k=0:=by simpa using this
  unfold badAt at h2
  rw[hs,hi]at h2
  dsimp only at h2
  rwa [if_pos hr]at h2
theorem taken_of {o:Ob} (h:(objAns o).2.2=0) {k:Nat} {p:Pr} (hp:o.procs[k]? =some p):Taken o.wd p (flowOf o.wd p)∧Least o.wd p (flowOf o.wd p):=by
 obtain⟨h1,h2⟩:=objAns_zero h
 have hk:=objAns_pok h hp
 have hl:=hk.least
 have hz:=outAt_zero (w:=o.wd) hp (allR_zero h2 k (List.getElem?_eq_some_iff.1 hp).1)
 unfold objR at h1
 simp only[Bool.and_eq_true]at h1
 refine⟨⟨hk,hl.closed,fun q hq=>?_,fun q hq=>?_,fun v hv=>?_,fun j i hi=>?_,wrong_zero hz.2.2.2⟩,hl⟩
 ·obtain⟨j,hj⟩:=List.getElem?_of_mem hq
  have:=outAt_zero (w:=o.wd) hj (allR_zero h2 j (List.getElem?_eq_some_iff.1 hj).1)
  exact headR_nz (procR_parts this.1)
 ·have:=List.all_eq_true.1 h1.2.2.2.2.2 q hq
  unfold needR at this
  simp only[Bool.and_eq_true]at this
  exact headR_nz this.2.2
 ·exact valueR_nz (List.all_eq_true.1 h1.2.1 v hv)
 ·have:=hz.2.2.1 j i hi
  cases hm:mayR i.1 i.2 with
  | true=>rfl
  | false=>unfold aloneR at this;rw[if_pos hm]at this;cases this
end
section
theorem sumP_cons (o:Ob) (l:List Ob):sumP (o::l)=o.procs.length+sumP l:=by simp[sumP]
theorem sumC_cons (o:Ob) (l:List Ob):sumC (o::l)=o.consts.length+sumC l:=by simp[sumC]
theorem join_len (L:List (ByteArray×Pr)):∀(l:List Ob) (cs ps:Nat),(joinP L l cs ps).length=sumP l
 | [],_,_=>rfl
 | o::r,cs,ps=>by rw[joinP,List.length_append,List.length_map,join_len L r,sumP_cons]
theorem join_at (L:List (ByteArray×Pr)):∀(l:List Ob) (cs ps:Nat) {k j:Nat} {o:Ob} {p:Pr},l[k]? =some o→o.procs[j]? =some p→
  (joinP L l cs ps)[sumP (l.take k)+j]? =some (moveP L o (cs+sumC (l.take k)) (ps+sumP (l.take k)) p)
 | [],_,_,k,j,o,p,hk,_=>by simp at hk
 | a::r,cs,ps,0,j,o,p,hk,hj=>by
  simp only[List.getElem?_cons_zero,Option.some.injEq]at hk
  subst hk
  have hl:=(List.getElem?_eq_some_iff.1 hj).1
  rw[joinP,List.take_zero,show sumP []=0 from rfl,show sumC []=0 from rfl,Nat.zero_add,List.getElem?_append_left (by simpa using hl),List.getElem?_map,hj]
  rfl
 | a::r,cs,ps,k+1,j,o,p,hk,hj=>by
  simp only[List.getElem?_cons_succ]at hk
  have ih:=join_at L r (cs+a.consts.length) (ps+a.procs.length) hk hj
  rw[joinP,List.take_succ_cons,sumP_cons,sumC_cons,List.getElem?_append_right (by simp;omega),List.length_map,show a.procs.length+sumP (r.take k)+j - a.procs.length=sumP (r.take k)+j by omega,ih]
  rw[Nat.add_assoc,Nat.add_assoc]
theorem all_at:∀(l:List Ob) {k j:Nat} {o:Ob} {p:Pr},l[k]? =some o→o.procs[j]? =some p→(allPr l)[sumP (l.take k)+j]? =some (o.path,p)
 | [],k,j,o,p,hk,_=>by simp at hk
 | a::r,0,j,o,p,hk,hj=>by
  simp only[List.getElem?_cons_zero,Option.some.injEq]at hk
  subst hk
  have hl:=(List.getElem?_eq_some_iff.1 hj).1
  unfold allPr
  rw[List.flatMap_cons,List.take_zero,show sumP []=0 from rfl,Nat.zero_add,List.getElem?_append_left (by simpa using hl),List.getElem?_map,hj]
  rfl
 | a::r,k+1,j,o,p,hk,hj=>by
  simp only[List.getElem?_cons_succ]at hk
  have ih:=all_at r hk hj
  unfold allPr at ih⊢
  rw[List.flatMap_cons,List.take_succ_cons,sumP_cons,List.getElem?_append_right (by simp;omega),List.length_map,show a.procs.length+sumP (r.take k)+j - a.procs.length=sumP (r.take k)+j by omega,ih]
theorem all_len (l:List Ob):(allPr l).length=sumP l:=by
 induction l with
 | nil=>rfl
 | cons a r ih=>unfold allPr at ih⊢;rw[List.flatMap_cons,List.length_append,ih,sumP_cons,List.length_map]
theorem idx_split:∀(l:List Ob) {n:Nat},n<sumP l→∃(k j:Nat) (o:Ob) (p:Pr),l[k]? =some o∧o.procs[j]? =some p∧n=sumP (l.take k)+j
 | [],n,h=>by simp[sumP]at h
 | a::r,n,h=>by
  rw[sumP_cons]at h
  by_cases hn:n<a.procs.length
  ·exact⟨0,n,a,_,rfl,List.getElem?_eq_getElem hn,by simp[sumP]⟩
  ·obtain⟨k,j,o,p,h1,h2,h3⟩:=idx_split r (n:=n - a.procs.length) (by omega)
   exact⟨k+1,j,o,p,by simpa using h1,h2,by rw[List.take_succ_cons,sumP_cons];omega⟩
theorem consts_at:∀(l:List Ob) {k c:Nat} {o:Ob} {v:V},l[k]? =some o→o.consts[c]? =some v→(l.flatMap (·.consts))[sumC (l.take k)+c]? =some v
 | [],k,c,o,v,hk,_=>by simp at hk
 | a::r,0,c,o,v,hk,hc=>by
  simp only[List.getElem?_cons_zero,Option.some.injEq]at hk
  subst hk
  have hl:=(List.getElem?_eq_some_iff.1 hc).1
  rw[List.flatMap_cons,List.take_zero,show sumC []=0 from rfl,Nat.zero_add,List.getElem?_append_left hl,hc]
 | a::r,k+1,c,o,v,hk,hc=>by
  simp only[List.getElem?_cons_succ]at hk
  rw[List.flatMap_cons,List.take_succ_cons,sumC_cons,List.getElem?_append_right (by omega),show a.consts.length+sumC (r.take k)+c - a.consts.length=sumC (r.take k)+c by omega,consts_at r hk hc]
theorem consts_len (l:List Ob):(l.flatMap (·.consts)).length=sumC l:=by
 induction l with
 | nil=>rfl
 | cons a r ih=>rw[List.flatMap_cons,List.length_append,ih,sumC_cons]
theorem sumP_take_le (l:List Ob) (k:Nat):sumP (l.take k)≤sumP l:=by
 induction l generalizing k with
 | nil=>simp[sumP]
 | cons a r ih=>cases k with
  | zero=>simp[sumP]
  | succ k=>rw[List.take_succ_cons,sumP_cons,sumP_cons];have:=ih k;omega
theorem sumC_take_le (l:List Ob) (k:Nat):sumC (l.take k)≤sumC l:=by
 induction l generalizing k with
 | nil=>simp[sumC]
 | cons a r ih=>cases k with
  | zero=>simp[sumC]
  | succ k=>rw[List.take_succ_cons,sumC_cons,sumC_cons];have:=ih k;omega
theorem sumP_at {l:List Ob} {k j:Nat} {o:Ob} (hk:l[k]? =some o) (hj:j<o.procs.length):sumP (l.take k)+j<sumP l:=by
 have h:=all_at l hk (List.getElem?_eq_getElem hj)
 have:=(List.getElem?_eq_some_iff.1 h).1
 rw[all_len]at this;exact this
theorem sumC_at {l:List Ob} {k j:Nat} {o:Ob} (hk:l[k]? =some o) (hj:j<o.consts.length):sumC (l.take k)+j<sumC l:=by
 have h:=consts_at l hk (List.getElem?_eq_getElem hj)
 have:=(List.getElem?_eq_some_iff.1 h).1
 rw[consts_len]at this;exact this
def keyP (q:ByteArray×Pr):Ky:=(q.1,q.2.name)
theorem atL_of {L:List (ByteArray×Pr)} (hn:(L.map keyP).Nodup) {n:Nat} {q:ByteArray×Pr} (h:L[n]? =some q):atL L (keyP q)=(n:Int):=by
 have hl:=(List.getElem?_eq_some_iff.1 h).1
 unfold atL
 have huniq:∀j,(decide ((L[j]?).map (fun q=>(q.1,q.2.name))=some (keyP q)))=true→j=n:=by
  intro j hj
  have h1:(L.map keyP)[j]? =some (keyP q):=by rw[List.getElem?_map];exact of_decide_eq_true hj
  have h2:(L.map keyP)[n]? =some (keyP q):=by rw[List.getElem?_map,h];rfl
  exact(List.getElem?_inj (List.getElem?_eq_some_iff.1 h1).1 hn).1 (h1.trans h2.symm)
 cases hf:(List.range L.length).reverse.find? (fun j=>decide ((L[j]?).map (fun q=>(q.1,q.2.name))=some (keyP q)))with
 | none=>
  rw[List.find?_eq_none]at hf
  exact absurd (decide_eq_true (by rw[h];rfl)) (hf n (by simpa using hl))
 | some j=>
  have h9:=List.find?_some hf
  obtain rfl:j=n:=huniq j h9
  rfl
theorem all_nodup {l:List Ob} (hp:(l.map (·.path)).Nodup) (hn:∀o∈l,(o.procs.map (·.name)).Nodup):((allPr l).map keyP).Nodup:=by
 induction l with
 | nil=>exact List.nodup_nil
 | cons a r ih=>
  simp only[List.map_cons,List.nodup_cons]at hp
  unfold allPr
  rw[List.flatMap_cons,List.map_append,List.nodup_append]
  refine⟨?_,ih hp.2 fun o ho=>hn o (List.mem_cons_of_mem _ ho),fun x hx y hy e=>?_⟩
  ·rw[List.map_map]
   have h1:=hn a (List.mem_cons_self ..)
   have h2:(a.procs.map (keyP∘fun p=>(a.path,p)))=(a.procs.map (·.name)).map fun n=>(a.path,n):=by rw[List.map_map];rfl
   rw[h2]
   exact List.Pairwise.map _ (fun x y h e=>h (congrArg Prod.snd e)) h1
  ·subst e
   obtain⟨q,hq,rfl⟩:=List.mem_map.1 hx
   obtain⟨p,_,rfl⟩:=List.mem_map.1 hq
   obtain⟨q2,hq2,e2⟩:=List.mem_map.1 hy
   obtain⟨o,ho,hq3⟩:=List.mem_flatMap.1 hq2
   obtain⟨p2,_,rfl⟩:=List.mem_map.1 hq3
   exact hp.1 (List.mem_map.2 ⟨o,ho,congrArg Prod.fst e2⟩)
theorem missStep_ne {l:List Ob} {acc:List Nd} (h:acc≠ []) (n:Nd):missStep l acc n≠ []:=by
 unfold missStep
 split
 ·exact h
 ·simp
theorem foldl_ne {l:List Ob} :∀(ns:List Nd) {acc:List Nd},acc≠ []→ns.foldl (missStep l) acc≠ []
 | [],_,h=>h
 | n::ns,_,h=>foldl_ne ns (missStep_ne h n)
theorem foldl_met {l:List Ob} :∀(ns:List Nd),ns.foldl (missStep l) []=[]→∀n∈ns,metL l n=true
 | [],_,_,h=>by cases h
 | a::ns,h,n,hn=>by
  rw[List.foldl_cons]at h
  have h1:metL l a=true:=by
   cases hm:metL l a with
   | true=>rfl
   | false=>
    refine absurd h (foldl_ne ns ?_)
    unfold missStep
    rw[hm];simp
  have h2:missStep l [] a=[]:=by unfold missStep;rw[h1];rfl
  rw[h2]at h
  rcases List.mem_cons.1 hn with rfl | hn
  ·exact h1
  ·exact foldl_met ns h n hn
theorem met_at {l:List Ob} {n:Nd} (h:metL l n=true):∃(k j:Nat) (o:Ob) (p:Pr),l[k]? =some o∧o.procs[j]? =some p∧o.path=n.path∧p.name=n.name∧p.exp=true∧p.result=n.result∧p.params=n.params:=by
 unfold metL at h
 obtain⟨p,hp,hf⟩:=List.any_eq_true.1 h
 unfold expL at hp
 split at hp
 ·cases hp
 ·rename_i o ho
  obtain⟨hp1,hp2⟩:=List.mem_filter.1 hp
  simp only[Bool.and_eq_true]at hp2
  have h1:=List.find?_some ho
  have h2:=List.mem_of_find?_eq_some ho
  obtain⟨k,hk⟩:=List.mem_iff_getElem?.1 h2
  obtain⟨j,hj⟩:=List.mem_iff_getElem?.1 hp1
  unfold fitN at hf
  simp only[Bool.and_eq_true,beq_iff_eq]at hf
  exact⟨k,j,o,p,hk,hj,bb_iff.1 h1,bb_iff.1 hp2.2,hp2.1,hf.1,hf.2⟩
theorem names_nodup {o:Ob} (h:(objAns o).2.2=0):(o.procs.map (·.name)).Nodup:=by
 have h1:=allR_zero (objAns_zero h).2
 have h2:=okSoFar_nodup (w:=o.wd) (k:=o.procs.length) (Nat.le_refl _) (fun j hj=>h1 j hj)
 rwa [show o.wd.procs=o.procs from rfl,List.take_length]at h2
theorem aloneR_zero {w:Wd} {p:Pr} {i:Int×Int} (h:aloneR w p i=0):mayR i.1 i.2=true∧((i.1=5∨i.1=6)→i.2<(p.code.length:Int))∧
  i.2<(if i.1=1 then(w.consts.length:Int)else if i.1=2∨i.1=3 then p.locals else if i.1=7 then(w.procs.length:Int)else if i.1=8 then(w.needs.length:Int)else 2147483647):=by
 unfold aloneR at h
 by_cases h1:mayR i.1 i.2=false
 ·rw[if_pos h1]at h;cases h
 rw[if_neg h1]at h
 by_cases h2:(i.1=5∨i.1=6)∧(p.code.length:Int)≤i.2
 ·rw[if_pos h2]at h;cases h
 rw[if_neg h2]at h
 refine⟨by simpa using h1,fun h4=>by have:=fun x=>h2 ⟨h4,x⟩;omega,?_⟩
 apply Int.lt_of_not_ge
 intro h3
 rw[if_pos h3]at h
 cases h
theorem mayR_le {c n:Int} (h:mayR c n=true):0≤n∧n≤2147483647∧((rowC c).name != ⟨#[]⟩)=true:=by
 unfold mayR at h
 simp only[Bool.and_eq_true,decide_eq_true_eq]at h
 exact⟨h.2.1,h.2.2.1,h.1⟩
theorem mayR_n {c n:Int} (h:((rowC c).name != ⟨#[]⟩)=true) (hn:(rowC c).n=true) (h0:0≤n) (h1:n≤2147483647):mayR c n=true:=by
 unfold mayR
 rw[h,hn];simp[h0,h1]
theorem alone1 {w:Wd} {p:Pr} {n:Int} (h0:0≤n) (h2:n≤2147483647) (h1:n<(w.consts.length:Int)):aloneR w p (1,n)=0:=by
 unfold aloneR
 have hm:mayR 1 n=true:=mayR_n (by decide+kernel) (by decide+kernel) h0 h2
 simp only[hm]
 rw[if_neg (by decide),if_neg (by simp),if_neg]
 simp;omega
theorem alone7 {w:Wd} {p:Pr} {n:Int} (h0:0≤n) (h2:n≤2147483647) (h1:n<(w.procs.length:Int)):aloneR w p (7,n)=0:=by
 unfold aloneR
 have hm:mayR 7 n=true:=mayR_n (by decide+kernel) (by decide+kernel) h0 h2
 simp only[hm]
 rw[if_neg (by decide),if_neg (by simp),if_neg]
 simp;omega
def linkW (l:List Ob):Wd:=⟨l.flatMap (·.consts),[],joinP (allPr l) l 0 0⟩
section
variable {l:List Ob} (hv:∀o∈l,(objAns o).2.2=0) (hp:(l.map (·.path)).Nodup) (hm:missL l=[])
include hv hp hm
theorem need_at {o:Ob} (ho:o∈l) {n:Nd} (hn:n∈o.needs):∃(k j:Nat) (o':Ob) (q:Pr),l[k]? =some o'∧o'.procs[j]? =some q∧q.result=n.result∧q.params=n.params∧q.name=n.name∧o'.path=n.path∧q.exp=true∧atL (allPr l) (n.path,n.name)=((sumP (l.take k)+j:Nat):Int):=by
 obtain⟨k,j,o',q,h1,h2,h3,h4,h5,h6,h7⟩:=met_at (foldl_met _ hm n (List.mem_flatMap.2 ⟨o,ho,hn⟩))
 refine⟨k,j,o',q,h1,h2,h6,h7,h4,h3,h5,?_⟩
 have h8:=atL_of (all_nodup hp fun o ho=>names_nodup (hv o ho)) (all_at l h1 h2)
 rw[←h8]
 unfold keyP
 rw[h3,h4]
theorem link_ins {k:Nat} {o:Ob} (hk:l[k]? =some o) {p:Pr} {i:Int×Int} (hi:aloneR o.wd p i=0):
  lkI o.wd (linkW l) i (moveI (allPr l) o (sumC (l.take k)) (sumP (l.take k)) i)∧
  (i.1=8→∃n,o.needs[i.2.toNat]? =some n):=by
 obtain⟨h1,h2,h3⟩:=aloneR_zero hi
 obtain⟨m1,m2,m3⟩:=mayR_le h1
 have ho:=List.mem_of_getElem? hk
 by_cases c1:i.1=1
 ·rw[if_pos c1]at h3
  refine⟨?_,fun h=>absurd (c1.symm.trans h) (by decide)⟩
  unfold lkI moveI
  rw[if_pos c1,if_pos c1]
  refine⟨rfl,?_⟩
  have hlt:i.2.toNat<o.consts.length:=by have:i.2<(o.consts.length:Int):=h3;omega
  have h4:=consts_at l hk (List.getElem?_eq_getElem hlt)
  rw[show(i.2+(sumC (l.take k):Int)).toNat=sumC (l.take k)+i.2.toNat by omega]
  show((l.flatMap (·.consts))[_]?).map _=(o.consts[_]?).map _
  rw[h4,List.getElem?_eq_getElem hlt]
 by_cases c7:i.1=7
 ·rw[if_neg c1,if_neg (by rw[c7];decide),if_pos c7]at h3
  refine⟨?_,fun h=>absurd (c7.symm.trans h) (by decide)⟩
  unfold lkI moveI
  rw[if_neg c1,if_pos c7,if_neg c1,if_pos c7]
  refine⟨rfl,?_⟩
  have hlt:i.2.toNat<o.procs.length:=by have:i.2<(o.procs.length:Int):=h3;omega
  have h4:=join_at (allPr l) l 0 0 hk (List.getElem?_eq_getElem hlt)
  rw[show(i.2+(sumP (l.take k):Int)).toNat=sumP (l.take k)+i.2.toNat by omega]
  show((joinP (allPr l) l 0 0)[_]?).map _=(o.procs[_]?).map _
  rw[h4,List.getElem?_eq_getElem hlt];rfl
 by_cases c8:i.1=8
 ·rw[if_neg c1,if_neg (by rw[c8];decide),if_neg c7,if_pos c8]at h3
  have hlt:i.2.toNat<o.needs.length:=by have:i.2<(o.needs.length:Int):=h3;omega
  refine⟨?_,fun _=>⟨_,List.getElem?_eq_getElem hlt⟩⟩
  obtain⟨n,hn⟩:∃n,o.needs[i.2.toNat]? =some n:=⟨_,List.getElem?_eq_getElem hlt⟩
  obtain⟨k',j,o',q,a1,a2,a3,a4,a5,a6,a7,a8⟩:=need_at hv hp hm ho (List.mem_of_getElem? hn)
  unfold lkI moveI
  rw[if_neg c1,if_neg c7,if_pos c8,if_neg c1,if_neg c7,if_pos c8,hn]
  refine⟨rfl,?_⟩
  dsimp only
  rw[a8,Int.toNat_natCast]
  have h4:=join_at (allPr l) l 0 0 a1 a2
  show((joinP (allPr l) l 0 0)[_]?).map _=(o.needs[_]?).map _
  rw[h4,hn]
  simp[moveP,a3,a4]
 ·refine⟨?_,fun h=>absurd h c8⟩
  unfold lkI moveI
  rw[if_neg c1,if_neg c7,if_neg c8,if_neg c1,if_neg c7,if_neg c8]
theorem link_lkP {k j:Nat} {o:Ob} {p:Pr} (hk:l[k]? =some o) (hj:o.procs[j]? =some p):lkP o.wd (linkW l) p (moveP (allPr l) o (sumC (l.take k)) (sumP (l.take k)) p) where
 name:=rfl
 params:=rfl
 locals:=rfl
 result:=rfl
 len:=by simp[moveP]
 ins k' i hi:=by
  have h1:=allR_zero (objAns_zero (hv o (List.mem_of_getElem? hk))).2 j (List.getElem?_eq_some_iff.1 hj).1
  have h2:=(outAt_zero (w:=o.wd) hj h1).2.2.1 k' i hi
  exact⟨_,by simp[moveP,hi],(link_ins hv hp hm hk h2).1⟩
theorem link_alone (hP:sumP l≤4096) (hC:sumC l≤65536) {k j:Nat} {o:Ob} {p:Pr} (hk:l[k]? =some o) (hj:o.procs[j]? =some p) {k':Nat} {i:Int×Int} (hi:p.code[k']? =some i):
  aloneR (linkW l) (moveP (allPr l) o (sumC (l.take k)) (sumP (l.take k)) p) (moveI (allPr l) o (sumC (l.take k)) (sumP (l.take k)) i)=0:=by
 have h1:=allR_zero (objAns_zero (hv o (List.mem_of_getElem? hk))).2 j (List.getElem?_eq_some_iff.1 hj).1
 have h2:=(outAt_zero (w:=o.wd) hj h1).2.2.1 k' i hi
 obtain⟨a1,a2,a3⟩:=aloneR_zero h2
 obtain⟨m1,m2,m3⟩:=mayR_le a1
 have hlen:(moveP (allPr l) o (sumC (l.take k)) (sumP (l.take k)) p).code.length=p.code.length:=by simp[moveP]
 by_cases c1:i.1=1
 ·rw[if_pos c1]at a3
  have hlt:i.2.toNat<o.consts.length:=by have:i.2<(o.consts.length:Int):=a3;omega
  have h4:=sumC_at hk hlt
  unfold moveI
  rw[if_pos c1]
  refine alone1 (by omega) (by omega) ?_
  show _<(((l.flatMap (·.consts)).length:Nat):Int)
  rw[consts_len];omega
 by_cases c7:i.1=7
 ·rw[if_neg c1,if_neg (by rw[c7];decide),if_pos c7]at a3
  have hlt:i.2.toNat<o.procs.length:=by have:i.2<(o.procs.length:Int):=a3;omega
  have h4:=sumP_at hk hlt
  unfold moveI
  rw[if_neg c1,if_pos c7]
  refine alone7 (by omega) (by omega) ?_
  show _<(((joinP (allPr l) l 0 0).length:Nat):Int)
  rw[join_len];omega
 by_cases c8:i.1=8
 ·obtain⟨n,hn⟩:=(link_ins hv hp hm hk h2).2 c8
  obtain⟨k',j',o',q,b1,b2,b3,b4,b5,b6,b7,b8⟩:=need_at hv hp hm (List.mem_of_getElem? hk) (List.mem_of_getElem? hn)
  have h4:=sumP_at b1 (List.getElem?_eq_some_iff.1 b2).1
  unfold moveI
  rw[if_neg c1,if_neg c7,if_pos c8,hn]
  dsimp only
  rw[b8]
  refine alone7 (by omega) (by omega) ?_
  show _<(((joinP (allPr l) l 0 0).length:Nat):Int)
  rw[join_len];omega
 ·unfold moveI
  rw[if_neg c1,if_neg c7,if_neg c8]
  unfold aloneR
  rw[if_neg (by rw[a1];decide),if_neg (fun h=>by have:=a2 h.1;rw[hlen]at h;omega),if_neg]
  rw[if_neg c1,if_neg c7,if_neg c8]at a3⊢
  show¬(if i.1=2∨i.1=3 then p.locals else 2147483647)≤i.2
  omega
theorem link_out (hP:sumP l≤4096) (hC:sumC l≤65536) {n:Nat} {q:Pr} (hq:(linkW l).procs[n]? =some q):procOut (linkW l) [] q=(0,0):=by
 have hn:n<sumP l:=by have:=(List.getElem?_eq_some_iff.1 hq).1;rw[←join_len (allPr l) l 0 0];exact this
 obtain⟨k,j,o,p,hk,hj,rfl⟩:=idx_split l hn
 have h4:=join_at (allPr l) l 0 0 hk hj
 rw[Nat.zero_add,Nat.zero_add]at h4
 obtain rfl:=Option.some.inj (h4.symm.trans hq)
 have h0:=hv o (List.mem_of_getElem? hk)
 have h1:=allR_zero (objAns_zero h0).2 j (List.getElem?_eq_some_iff.1 hj).1
 have h2:=outAt_zero (w:=o.wd) hj h1
 have hl:=link_lkP hv hp hm hk hj
 have hf:flowOf (linkW l) (moveP (allPr l) o (sumC (l.take k)) (sumP (l.take k)) p)=flowOf o.wd p:=(hl.least (taken_of h0 hj).2).flow
 unfold procOut
 rw[if_neg (by rw[hl.procR,h2.1];simp),firstR_none,if_neg (by decide),hf,hl.wrong]
 ·have h5:=h2.2.2.2
  unfold wrongR at h5⊢
  unfold firstR at h5⊢
  split at h5
  ·rename_i hx
   have:=List.find?_some hx
   simp at this
   exact absurd h5 this
  ·rfl
 ·intro k' hk'
  unfold aloneAt
  have hlt:k'<p.code.length:=by simpa [moveP]using hk'
  have:(moveP (allPr l) o (sumC (l.take k)) (sumP (l.take k)) p).code[k']? =some (moveI (allPr l) o (sumC (l.take k)) (sumP (l.take k)) p.code[k']):=by simp[moveP,hlt]
  rw[this]
  exact link_alone hv hp hm hP hC hk hj (List.getElem?_eq_getElem hlt)
end
end
section
open Go.MapKept
section
variable {α:Type} {k:Kd α} {G:Gh} {T cap b:Nat} {A:Option Addr} {l:List α} {c:Array Value}
theorem KVec.isBlk {x:Own} (h:KVec k T G A cap l x) (hn:0<l.length):∃b c,A=some ⟨b,0,none⟩∧x= .blk b (.cells c T (0,0)):=by
 obtain⟨cs,h1,_⟩:=h
 obtain⟨b,c,h2,h3⟩:=h1.isBlk hn
 exact⟨b,c,h2,h3⟩
theorem KVec.put1 (h:KVec k T G A cap l (.blk b (.cells c T (0,0)))) {i j:Nat} {y0 y:α} {v:Value} (hi:l[i]? =some y0) (hj:j<k.n) (hy:∀es,k.K G y0 es→k.K G y (es.set j v)):
  A=some ⟨b,0,none⟩∧Nat.ble (i*k.n+j+1) c.size=true∧KVec k T G A cap (l.set i y) (.blk b (.cells (splice c (i*k.n+j) [v]) T (0,0))):=by
 obtain⟨cs,h1,h2⟩:=h
 have hil:=(List.getElem?_eq_some_iff.1 hi).1
 have hlt:i*k.n+j<l.length*k.n:=by
  have:(i+1)*k.n≤l.length*k.n:=Nat.mul_le_mul_right _ hil
  rw[Nat.add_mul]at this;omega
 obtain⟨a1,a2,a3⟩:=Vec.put1 h1 hlt v
 refine⟨a1,Nat.ble_eq_true_of_le a2,cs.set (i*k.n+j) v,by rw[List.length_set];exact a3,by rw[List.length_set,List.length_set,h2.len],fun m z hz=>?_⟩
 rw[set_elem hj]
 by_cases e:m=i
 ·subst e
  rw[if_pos rfl]
  rw[List.getElem?_set_self hil]at hz
  obtain rfl:=Option.some.inj hz
  exact hy _ (h2.at_ m y0 hi)
 ·rw[if_neg e]
  rw[List.getElem?_set_ne (Ne.symm e)]at hz
  exact h2.at_ m z hz
end
theorem splice_two {c:Array Value} {o:Nat} {u v:Value} (h:o+2≤c.size):splice (splice c o [u]) (o+1) [v]=splice c o [u,v]:=by
 have hs:(splice c o [u]).size=c.size:=size_splice (by simp;omega)
 have e1:(splice (splice c o [u]) (o+1) [v]).toList=(c.toList.set o u).set (o+1) v:=by
  rw[splice_one (by omega),splice_one (by omega)]
 apply Array.toList_inj.1
 rw[e1]
 unfold splice
 apply List.ext_getElem?
 intro j
 simp only[List.getElem?_append,List.length_append,List.length_take,Array.length_toList,List.getElem?_take,List.getElem?_drop,List.getElem?_set,List.length_set,List.length_cons,List.length_nil]
 have m1:min o c.size=o:=by omega
 rw[m1]
 by_cases h1:j<o
 ·simp[h1,show j<o+2 by omega,show o≠j by omega,show o+1≠j by omega]
 ·by_cases h2:o=j
  ·subst h2;simp[show o<c.size by omega]
  ·by_cases h3:o+1=j
   ·subst h3;simp[show o+1<c.size by omega,show¬o+1<o by omega]
   ·simp[h1,h2,h3,show¬j<o+2 by omega,show o+2+(j - (o+2))=j by omega]
theorem InsK.put {G:Gh} {T cap b:Nat} {A:Option Addr} {l:List (Int×Int)} {c:Array Value} (h:KVec Kd.ins T G A cap l (.blk b (.cells c T (0,0)))) {i:Nat} {y0 y:Int×Int} (hi:l[i]? =some y0):
  A=some ⟨b,0,none⟩∧Nat.ble (i*2+2) c.size=true∧KVec Kd.ins T G A cap (l.set i y) (.blk b (.cells (splice c (i*2) [.int .i64 y.1, .int .i64 y.2]) T (0,0))):=by
 have hil:=(List.getElem?_eq_some_iff.1 hi).1
 obtain⟨a1,a2,a3⟩:=KVec.put1 (y:=(y.1,y0.2)) (v:= .int .i64 y.1) (j:=0) h hi (by decide) (fun es he=>by have he':es=[.int .i64 y0.1, .int .i64 y0.2]:=he;rw[he'];rfl)
 have hi2:(l.set i (y.1,y0.2))[i]? =some (y.1,y0.2):=List.getElem?_set_self hil
 obtain⟨b1,b2,b3⟩:=KVec.put1 (y:=y) (v:= .int .i64 y.2) (j:=1) a3 hi2 (by decide) (fun es he=>by have he':es=[.int .i64 y.1, .int .i64 y0.2]:=he;rw[he'];rfl)
 have e0:Kd.ins.n=2:=rfl
 rw[e0]at a2 b2 b3 a3
 have a2':=Nat.le_of_ble_eq_true a2
 have hs:(splice c (i*2+0) [Value.int .i64 y.1]).size=c.size:=size_splice (by simp;omega)
 have b2':=Nat.le_of_ble_eq_true b2
 rw[hs]at b2'
 refine⟨a1,Nat.ble_eq_true_of_le (by omega),?_⟩
 rw[List.set_set]at b3
 rw[Nat.add_zero,splice_two (by omega)]at b3
 exact b3
theorem join_snoc (L:List (ByteArray×Pr)):∀(l:List Ob) (o:Ob) (cs ps:Nat),joinP L (l++[o]) cs ps=joinP L l cs ps++o.procs.map (moveP L o (cs+sumC l) (ps+sumP l))
 | [],o,cs,ps=>by simp[joinP,sumC,sumP]
 | a::r,o,cs,ps=>by rw[List.cons_append,joinP,joinP,join_snoc L r,sumC_cons,sumP_cons,List.append_assoc,Nat.add_assoc,Nat.add_assoc]
theorem pts_snoc (path:ByteArray):∀(ps:List Pr) (p:Pr) (k:Nat),ptsO path (ps++[p]) k=ptsO path ps k++(if p.exp=true then [⟨path,p.name,((k+ps.length:Nat):Int)⟩]else [])
 | [],p,k=>by cases h:p.exp<;>simp[ptsO,h]
 | a::r,p,k=>by
  rw[List.cons_append,ptsO,ptsO,pts_snoc path r p (k+1),List.length_cons,show k+1+r.length=k+(r.length+1) by omega]
  split<;>simp
theorem joinT_snoc:∀(l:List Ob) (o:Ob) (ps:Nat),joinT' (l++[o]) ps=joinT' l ps++ptsO o.path o.procs (ps+sumP l)
 | [],o,ps=>by simp[joinT',sumP]
 | a::r,o,ps=>by rw[List.cons_append,joinT',joinT',joinT_snoc r,sumP_cons,List.append_assoc,Nat.add_assoc]
theorem pts_len (path:ByteArray):∀(ps:List Pr) (k:Nat),(ptsO path ps k).length≤ps.length
 | [],k=>Nat.le_refl _
 | a::r,k=>by
  have:=pts_len path r (k+1)
  rw[ptsO]
  split
  ·rw[List.length_cons,List.length_cons];omega
  ·rw[List.length_cons];omega
theorem joinT_len:∀(l:List Ob) (ps:Nat),(joinT' l ps).length≤sumP l
 | [],ps=>Nat.le_refl _
 | a::r,ps=>by
  have h1:=joinT_len r (ps+a.procs.length)
  have h2:=pts_len a.path a.procs ps
  rw[joinT',List.length_append,sumP_cons];omega
theorem atL_snoc (L:List (ByteArray×Pr)) (q:ByteArray×Pr) (k:Ky):atL (L++[q]) k=if(q.1,q.2.name)=k then(L.length:Int)else atL L k:=by
 unfold atL
 rw[List.length_append,List.length_singleton,List.range_succ,List.reverse_append,List.reverse_singleton,List.singleton_append]
 have hl:(L++[q])[L.length]? =some q:=by rw[List.getElem?_append_right (Nat.le_refl _)];simp
 have hr:(List.range L.length).reverse.find? (fun j=>decide (((L++[q])[j]?).map (fun q=>(q.1,q.2.name))=some k))=(List.range L.length).reverse.find? (fun j=>decide ((L[j]?).map (fun q=>(q.1,q.2.name))=some k)):=by
  have:∀(xs:List Nat),(∀j∈xs,j<L.length)→xs.find? (fun j=>decide (((L++[q])[j]?).map (fun q=>(q.1,q.2.name))=some k))=xs.find? (fun j=>decide ((L[j]?).map (fun q=>(q.1,q.2.name))=some k)):=by
   intro xs
   induction xs with
   | nil=>intro _;rfl
   | cons a r ih=>
    intro h
    have h1:=ih fun j hj=>h j (List.mem_cons_of_mem _ hj)
    have h2:=h a (List.mem_cons_self ..)
    rw[List.find?_cons,List.find?_cons,h1,List.getElem?_append_left h2]
  exact this _ fun j hj=>by simpa using hj
 by_cases e:(q.1,q.2.name)=k
 ·rw[if_pos e,List.find?_cons_of_pos (by rw[hl];simp[e])]
 ·rw[if_neg e,List.find?_cons_of_neg (by rw[hl];simp[e]),hr]
def AtM (m:List (Ky×Value)) (L:List (ByteArray×Pr)):Prop:=∀k,(getA m k).getD (.int .i64 0)= .int .i64 (atL L k)
theorem AtM.nil:AtM [] []:=fun k=>rfl
theorem AtM.snoc {m:List (Ky×Value)} {L:List (ByteArray×Pr)} (h:AtM m L) (path:ByteArray) (p:Pr):AtM (setA m (path,p.name) (.int .i64 (L.length:Int))) (L++[(path,p)]):=fun k=>by
 rw[atL_snoc]
 by_cases e:(path,p.name)=k
 ·subst e;rw[getA_setA,if_pos rfl];rfl
 ·rw[getA_setA_ne m _ (Ne.symm e),if_neg e];exact h k
def Kd.pnt:Kd Pt where
 n:=3
 K _ x cs:=cs=[.string x.path, .string x.name, .int .i64 x.proc]
 mono _ h:=h
 len h:=by rw[h];rfl
 one h:=by rw[h];rfl
def mvT (f:Int×Int→Int×Int) (l:List (Int×Int)) (k:Nat):List (Int×Int):=(l.take k).map f++l.drop k
theorem mvT_len (f:Int×Int→Int×Int) (l:List (Int×Int)) (k:Nat):(mvT f l k).length=l.length:=by unfold mvT;simp;omega
theorem mvT_zero (f:Int×Int→Int×Int) (l:List (Int×Int)):mvT f l 0=l:=by simp[mvT]
theorem mvT_all (f:Int×Int→Int×Int) {l:List (Int×Int)} {k:Nat} (h:l.length≤k):mvT f l k=l.map f:=by unfold mvT;rw[List.take_of_length_le h,List.drop_eq_nil_of_le h,List.append_nil]
theorem mvT_at (f:Int×Int→Int×Int) {l:List (Int×Int)} {k:Nat} {x:Int×Int} (h:l[k]? =some x):(mvT f l k)[k]? =some x:=by
 have hk:=(List.getElem?_eq_some_iff.1 h).1
 unfold mvT
 rw[List.getElem?_append_right (by simp;omega),List.length_map,List.length_take,List.getElem?_drop,show k+(k - min k l.length)=k by omega,h]
theorem mvT_step (f:Int×Int→Int×Int) {l:List (Int×Int)} {k:Nat} {x:Int×Int} (h:l[k]? =some x):(mvT f l k).set k (f x)=mvT f l (k+1):=by
 have hk:=(List.getElem?_eq_some_iff.1 h).1
 unfold mvT
 have e:l.drop k=x::l.drop (k+1):=by
  rw[List.drop_eq_getElem_cons hk]
  rw[(List.getElem?_eq_some_iff.1 h).2]
 rw[take_snoc' h,List.map_append,List.append_assoc,List.set_append_right _ _ (by simp;omega),List.length_map,List.length_take,show k - min k l.length=0 by omega,e]
 rfl
theorem mvT_same (f:Int×Int→Int×Int) {l:List (Int×Int)} {k:Nat} {x:Int×Int} (h:l[k]? =some x) (hf:f x=x):mvT f l k=mvT f l (k+1):=by
 rw[←mvT_step f h,hf]
 apply List.ext_getElem?
 intro j
 rw[List.getElem?_set]
 by_cases e:k=j
 ·subst e
  have hk:=(List.getElem?_eq_some_iff.1 h).1
  rw[if_pos rfl,if_pos (by rw[mvT_len];exact hk),mvT_at f h]
 ·rw[if_neg e]
theorem InsK.at {G:Gh} {T cap b:Nat} {A:Option Addr} {l:List (Int×Int)} {c:Array Value} (h:KVec Kd.ins T G A cap l (.blk b (.cells c T (0,0)))) {i:Nat} {y:Int×Int} (hi:l[i]? =some y):
  c[i*2]? =some (.int .i64 y.1)∧c[i*2+1]? =some (.int .i64 y.2):=by
 obtain⟨cs,⟨h1,h2⟩,h3⟩:=h
 have hil:=(List.getElem?_eq_some_iff.1 hi).1
 rcases h2 with⟨_,e,_,_⟩ | ⟨b',c',_,e,h4,h5,h6⟩
 ·omega
 ·cases e
  have h7:(cs.drop (i*2)).take 2=[.int .i64 y.1, .int .i64 y.2]:=h3.at_ i y hi
  have e0:Kd.ins.n=2:=rfl
  rw[e0]at h6
  have g0:=congrArg (fun l=>l[0]?) h7
  have g1:=congrArg (fun l=>l[1]?) h7
  simp only[List.getElem?_take,List.getElem?_drop,List.getElem?_cons_zero,List.getElem?_cons_succ]at g0 g1
  rw[if_pos (by decide)]at g0 g1
  rw[←h6]at g0 g1
  simp only[List.getElem?_take,Array.getElem?_toList]at g0 g1
  rw[if_pos (by omega)]at g0 g1
  exact⟨by simpa using g0,g1⟩
theorem InsK.put2 {G:Gh} {T cap b:Nat} {A:Option Addr} {l:List (Int×Int)} {c:Array Value} (h:KVec Kd.ins T G A cap l (.blk b (.cells c T (0,0)))) {i:Nat} {a n z:Int} (hi:l[i]? =some (a,n)):
  Nat.ble (i*2+1+1) c.size=true∧KVec Kd.ins T G A cap (l.set i (a,z)) (.blk b (.cells (splice c (i*2+1) [.int .i64 z]) T (0,0))):=by
 obtain⟨_,h2,h3⟩:=KVec.put1 (y:=(a,z)) (v:= .int .i64 z) (j:=1) h hi (by decide) (fun es he=>by have he':es=[.int .i64 a, .int .i64 n]:=he;rw[he'];rfl)
 exact⟨h2,h3⟩
theorem all_snoc (l:List Ob) (o:Ob):allPr (l++[o])=allPr l++o.procs.map fun p=>(o.path,p):=by unfold allPr;simp
end
section
attribute [local irreducible] Tryz.prog
theorem gSyn:Tryz.prog.globalNamed "strconv.ErrSyntax" =some 1:=by kernel_rfl
theorem gRng:Tryz.prog.globalNamed "strconv.ErrRange" =some 2:=by kernel_rfl
theorem cell_of_iface {W:World} {n nm:String} {g t:Nat} {ms:Array (String×TypeId)} {d:DataW Unit} (hg:Tryz.prog.globalNamed n=some g) (ht:(Tryz.prog.globals[g]?).map (·.type)=some t) (hu:Tryz.prog.underlying t=some (.interface ms)) (h:Lib.VarReads Tryz.prog W n (.iface nm d)):
  ∃te pe,Gw W g 0=some (.iface te pe):=by
 obtain⟨g',t',cs,fuel,p,h1,h2,h3,h4⟩:=h
 obtain rfl:=Option.some.inj (hg.symm.trans h1)
 obtain rfl:=Option.some.inj (ht.symm.trans h2)
 obtain⟨_,u,v,hc,_⟩:=iface_of_trod hu h4
 refine⟨u,v,?_⟩
 have:=World.var?_cell h1 h3 0
 unfold Gw
 rw[this,←Array.getElem?_toList,hc];rfl
theorem tSyn:(Tryz.prog.globals[1]?).map (·.type)=some 285:=by kernel_rfl
theorem tRng:(Tryz.prog.globals[2]?).map (·.type)=some 285:=by kernel_rfl
theorem uErr:Tryz.prog.underlying 285=some (.interface (Tryz.prog.methodsAt 285)):=by kernel_rfl
theorem tTab:(Tryz.prog.globals[3]?).map (·.type)=some 327:=by kernel_rfl
theorem ex_of {W:World} (h:Lib.VarReads Tryz.prog W "internal/strconv.uint64pow10" Rows.laid_internal_strconv_uint64pow10):Ex (covs []) W:=by
 obtain⟨g',t',cs,fuel,p,h1,h2,h3,h4⟩:=h
 obtain rfl:=Option.some.inj (gTab.symm.trans h1)
 obtain rfl:=Option.some.inj (tTab.symm.trans h2)
 have hc:=Lib.cells_of_tab (k:= .u64) (zs:=Lib.pow10Tab) (show Tryz.prog.underlying 327=some (.array 20 124) by kernel_rfl) kr kr kr h4
 intro q hq
 obtain rfl:q=(3,_):=by simpa [exL]using hq
 refine⟨?_,fun o ⟨x,hx,_⟩=>by cases hx⟩
 unfold World.var? at h3
 rw[gTab]at h3
 simp only[Option.bind_some]at h3
 cases ho:W.heap[3]? with
 | none=>rw[ho]at h3;cases h3
 | some ob=>
  rw[ho]at h3
  cases ob<;>simp at h3
  rename_i c T fr
  subst h3
  exact⟨T,fr,by rw[show c=(Lib.pow10Tab.map fun z=>Value.int .u64 z).toArray from Array.toList_inj.1 hc];rfl⟩
theorem env_of {W:World} (h1:Lib.VarReads Tryz.prog W "strconv.ErrSyntax" Rows.laid_strconv_ErrSyntax) (h2:Lib.VarReads Tryz.prog W "strconv.ErrRange" Rows.laid_strconv_ErrRange) (hs:W.ShapedOpen Tryz.prog):Env (Gw W) where
 syn:=cell_of_iface gSyn tSyn uErr h1
 rng:=cell_of_iface gRng tRng uErr h2
 mxl:=by
  have h:=cell_of_shapedOpen_int (P:=Tryz.prog) (w:=W) (g:=0) (t:=3) (zero:= #[.int .i64 0]) (k:= .i64) hs (of_decide_eq_true kr) kr rfl kr kr kr
  obtain⟨m,hm⟩:=h
  exact⟨m,hm⟩
end
section
open Go.RowKit Go.ChangeShapes Go.WideShapes Go.MapKept
theorem bulk_part {H:Type} {d:DataW H} {l:List (DataW H)} (h:d∈l):Rows.uptoBulk d≤Rows.uptoBulkAll l:=by
 induction l with
 | nil=>cases h
 | cons x r ih=>
  simp only[Rows.uptoBulkAll]
  rcases List.mem_cons.1 h with rfl | h
  ·omega
  ·have:=ih h;omega
theorem bulk_one {H:Type} (d:DataW H):1≤Rows.uptoBulk d:=by
 cases d with
 | lit l=>cases l<;>simp[Rows.uptoBulk]
 | nil=>simp[Rows.uptoBulk]
 | ptr d=>simp[Rows.uptoBulk]
 | slice elems spare=>simp[Rows.uptoBulk]
 | agg parts=>simp[Rows.uptoBulk]
 | iface t d=>simp[Rows.uptoBulk]
 | map entries=>simp[Rows.uptoBulk]
 | held h=>simp[Rows.uptoBulk]
theorem bulk_length {H:Type} (l:List (DataW H)):l.length≤Rows.uptoBulkAll l:=by
 induction l with
 | nil=>simp[Rows.uptoBulkAll]
 | cons x r ih=>have:=bulk_one x;simp only[Rows.uptoBulkAll,List.length_cons];omega
theorem bulk_of {H:Type} {l:List (DataW H)} (h:Rows.uptoSmall H l=true) {d:DataW H} (hd:d∈l):Rows.uptoBulk d≤1048576:=
 Nat.le_trans (bulk_part hd) (of_decide_eq_true h)
section
variable {H:Type} (enc:TypeId×Value→H) (P:Program) (w:World)
def OpensU (t:TypeId) {α:Type} (k:Kd α) (B:α→Prop):Prop:=
 ∀fuel cs d ps,DataW.trod enc P w 0 (fun _=>true) true fuel t cs=some (d,ps)→Rows.uptoBulk d≤1048576→∃a,k.K (Gw w) a cs∧B a
theorem OpensU.int {t:TypeId} {i:IntKind} (ht:P.underlying t=some (.int i)):OpensU enc P w t (Kd.int i) (fun n=>(Lit.int i n).wf=true):=
 fun fuel cs d ps e _=>let ⟨n,h1,_,h3⟩:=DataW.trod_int ht e;⟨n,h1,h3⟩
theorem OpensU.slice {t e:TypeId} {α:Type} {k:Kd α} {B:α→Prop} (ht:P.underlying t=some (.slice e)) (hc:P.cellsOf e=k.n) (h0:0<k.n) (h:OpensU enc P w e k B):
  OpensU enc P w t (Kd.slice k) (fun xs=>xs.length≤1048576∧∀x∈xs,B x):=by
 intro fuel cs d ps hd hw
 rcases DataW.trod_slice ht hd with⟨rfl,_⟩ | ⟨a,len,cap,elems,rest,n,_,rfl,hx,_,hl,_,hlen,hel,_,_⟩
 ·exact⟨[],⟨none,0,rfl,Nat.le_refl _,Sl.nil _ _ _⟩,by simp,by simp⟩
 ·obtain ⟨rfl,rfl⟩:=Prod.mk.inj hx
  simp only[Rows.uptoBulk]at hw
  have hlb:=bulk_length (elems.map (·.1))
  rw[List.length_map]at hlb
  have hwe:∀(j:Nat) (d':DataW H),(elems.map (·.1))[j]? =some d'→Rows.uptoBulk d'≤1048576:=fun j d' hj=>by
   have:=bulk_part (List.mem_of_getElem? hj);omega
  have one:∀i,i<len→∃y cs',w.cells? 0 (a.add (i*P.cellsOf e)) (P.cellsOf e)=some cs'∧k.K (Gw w) y cs'∧B y:=by
   intro i hi
   have hi':=hel i hi
   cases hcs:w.cells? 0 (a.add (i*P.cellsOf e)) (P.cellsOf e)with
   | none=>
    rw[hcs,List.getElem?_eq_getElem (by omega)]at hi'
    cases hi'
   | some cs'=>
    rw[hcs,List.getElem?_eq_getElem (by omega:i<elems.length)]at hi'
    simp only[Option.bind_some]at hi'
    obtain⟨y,h1,h2⟩:=h n cs' _ _ hi' (hwe i _ (by rw[List.getElem?_map,List.getElem?_eq_getElem (by omega:i<elems.length)];rfl))
    exact⟨y,cs',rfl,h1,h2⟩
  have all:∀m,m≤len→∃xs:List α,xs.length=m∧(∀x∈xs,B x)∧∀i x,xs[i]? =some x→∃cs',w.cells? 0 (a.add (i*P.cellsOf e)) (P.cellsOf e)=some cs'∧k.K (Gw w) x cs':=by
   intro m
   induction m with
   | zero=>exact fun _=>⟨[],rfl,by simp,by simp⟩
   | succ m ih=>
    intro hm
    obtain⟨xs,e1,e2,e3⟩:=ih (by omega)
    obtain⟨y,cs',h1,h2,h3⟩:=one m (by omega)
    refine⟨xs++[y],by simp[e1],fun x hx=>?_,fun i x hx=>?_⟩
    ·rcases List.mem_append.1 hx with hx | hx
     ·exact e2 x hx
     ·simp at hx;subst hx;exact h3
    ·rcases Nat.lt_or_ge i xs.length with hi | hi
     ·rw[List.getElem?_append_left hi]at hx;exact e3 i x hx
     ·have:i=m:=by have:=(List.getElem?_eq_some_iff.1 hx).1;simp at this;omega
      subst this
      rw[List.getElem?_append_right hi]at hx
      simp[e1]at hx
      subst hx
      exact⟨cs',h1,h2⟩
  obtain⟨xs,e1,e2,e3⟩:=all len (Nat.le_refl _)
  refine⟨xs,⟨some a,cap,by rw[e1],by omega,fun i x hx=>?_⟩,by omega,e2⟩
  have hi:=(List.getElem?_eq_some_iff.1 hx).1
  obtain⟨cs0,h10,h20⟩:=e3 0 _ (List.getElem?_eq_getElem (by omega:0<xs.length))
  obtain⟨h30,h40⟩:=cells_get w h10
  have hsp:=cell_plain w (h40 0 _ (List.getElem?_eq_getElem (by rw[h30,hc];exact h0)))
  obtain⟨cs',h1,h2⟩:=e3 i x hx
  obtain⟨h3,h4⟩:=cells_get w h1
  obtain⟨ab,ao,asp⟩:=a
  obtain rfl:asp=none:=by simpa [Addr.add]using hsp
  refine⟨ab,ao,cs',rfl,h2,fun j v e=>?_⟩
  have h5:=h4 j v e
  rw[hc]at h5
  have e5:((⟨ab,ao,none⟩:Addr).add (i*k.n)).add j=⟨ab,ao+i*k.n+j,none⟩:=by
   unfold Addr.add
   split<;>split<;>simp_all
  rw[e5]at h5
  exact h5
theorem open_sliceU {t e:TypeId} {α:Type} {k:Kd α} {B:α→Prop} (ht:P.underlying t=some (.slice e)) (hc:P.cellsOf e=k.n) (h0:0<k.n) (h:OpensU enc P w e k B)
  {v:Value} {d:DataW H} {ps:List MemPlace} {base:Nat} (hval:Value.okWide P w .any base t v) (hd:DataW.Trod enc P w 0 (fun _=>true) true t v d ps) (hw:Rows.uptoBulk d≤1048576):
  ∃(A:Option Addr) (cap:Nat) (xs:List α),v= .slice A xs.length cap∧xs.length≤cap∧Sl k (Gw w) A xs∧xs.length≤1048576∧∀x∈xs,B x:=by
 obtain⟨A,len,cap,rfl⟩:=okWide_slice ht hval
 obtain⟨fuel,hd⟩:=hd
 obtain⟨xs,⟨A',cap',h1,hle,h2⟩,h3,h4⟩:=OpensU.slice enc P w ht hc h0 h fuel _ d ps hd hw
 have e1:[Value.slice A len cap]=[Value.slice A' xs.length cap']:=h1
 cases e1
 exact⟨_,_,xs,rfl,hle,h2,h3,h4⟩
end
theorem witness_row {H:Type} {enc:TypeId×Value→H} {C:Checked} {os:Os} {f:FuncId} {fn:Func} {s:OpenSpec} {conds:List PathCond} {apart:Bool} {laid:List (String×DataW Unit)} (modest:Bool) (w0:World) (args:Array Value) (hos:w0.os=os)
  (hsh:(w0.forCall (fun _ _=>0) ⟨#[],args,[]⟩).Shaped C.prog) (hok:Input.okWideB C.prog (w0.forCall (fun _ _=>0) ⟨#[],args,[]⟩) f ⟨#[],args,[]⟩=true)
  (hrow:s.preRow enc C.prog fn conds apart laid (w0.forCall (fun _ _=>0) ⟨#[],args,[]⟩).memory args):
  ∃(w:World) (tape:Tape) (i:Input),w.os=os∧(w.forCall tape i).Shaped C.prog∧i.vars=[]∧Input.okWide C.prog (w.forCall tape i) .any w.heap.size f i∧
   s.preRow enc C.prog fn conds apart laid (w.forCall tape i).memory i.args∧({ modest:=modest } :Assume).holds C.prog (lone (Frame.enter C.prog f i.args .normal) [] (w.forCall tape i)):=
 ⟨w0,fun _ _=>0,⟨#[],args,[]⟩,hos,hsh,(Input.okWide_of_okWideB (base:=0) hok).1,(Input.okWide_of_okWideB hok).2,hrow,by
  simp only[Assume.holds]
  exact⟨by simp,by simp,fun _=>Modest.zero,by simp,by simp⟩⟩
theorem elist2 {α:Type} {l:List α} (h:l.length=2):∃a b,l=[a,b]:=match l,h with | [a,b],_=>⟨a,b,rfl⟩
theorem elist4 {α:Type} {l:List α} (h:l.length=4):∃a b c d,l=[a,b,c,d]:=match l,h with | [a,b,c,d],_=>⟨a,b,c,d,rfl⟩
theorem elist6 {α:Type} {l:List α} (h:l.length=6):∃a b c d e f,l=[a,b,c,d,e,f]:=match l,h with | [a,b,c,d,e,f],_=>⟨a,b,c,d,e,f,rfl⟩
theorem ecellsV:Tryz.prog.cellsOf 52=4:=by kernel_rfl
theorem ecellsI:Tryz.prog.cellsOf 50=2:=by kernel_rfl
theorem ecellsP:Tryz.prog.cellsOf 47=6:=by kernel_rfl
theorem ecellsN:Tryz.prog.cellsOf 56=4:=by kernel_rfl
theorem ecellsO:Tryz.prog.cellsOf 38=4:=by kernel_rfl
theorem ecells_int:Tryz.prog.cellsOf 3=1:=by kernel_rfl
theorem ecells_typ:Tryz.prog.cellsOf 44=1:=by kernel_rfl
theorem ecells_cod:Tryz.prog.cellsOf 48=1:=by kernel_rfl
theorem ecells_i64:Tryz.prog.cellsOf 2=1:=by kernel_rfl
theorem ecells_bool:Tryz.prog.cellsOf 4=1:=by kernel_rfl
theorem ecells_str:Tryz.prog.cellsOf 9=1:=by kernel_rfl
theorem ecells_lv:Tryz.prog.cellsOf 23=1:=by kernel_rfl
theorem ecells_ln:Tryz.prog.cellsOf 31=1:=by kernel_rfl
theorem ecells_lp:Tryz.prog.cellsOf 24=1:=by kernel_rfl
theorem ecells_li:Tryz.prog.cellsOf 45=1:=by kernel_rfl
theorem ecells_lt:Tryz.prog.cellsOf 43=1:=by kernel_rfl
section
attribute [local irreducible] Tryz.prog
variable {H:Type} (enc:TypeId×Value→H) (w:World)
end
end
section
attribute [local irreducible] Tryz.prog
theorem clone_vals (G:Gh) (H:List Own) (A:Option Addr) (n cap:Nat) (cs:List Value) (hr:Rds G H A cs) (hl:cs.length=n*4) (h1:cs.all (·.oneCell')=true) (hA:A=none→n=0) (hb:n*40≤140737488355328):
  Fn Tryz.prog 143 #[.slice A n cap] G H fun e G' H'=>∃A' cap' x',e= .returned (.slice A' n cap')∧G=G'∧H'=x'::H∧Vec 52 4 A' n cap' cs x':=by
 refine Fn.enter Tryz.func143 rfl rfl fun w0=>?_
 refine WC.seq ?_
 refine WC.region ?_
 refine zw.assign ?_
 refine WL.nil ?_
 refine WK.un ?_
 refine WC.seq ?_
 refine WC.seq ?_
 refine WC.region ?_
 refine zw.move ?_
 refine zw.eq ?_
 refine WL.nil ?_
 refine WK.un ?_
 refine WC.cond rfl (fun hc=>?_) (fun hc=>?_)
 ·refine WC.seq ?_
  refine WC.region ?_
  refine zw.assign ?_
  refine WL.nil ?_
  refine WK.un ?_
  refine WC.ret ?_
  have hA':A=none:=by simpa using hc
  have hn:=hA hA'
  subst hn
  have hcs:cs=[]:=List.eq_nil_of_length_eq_zero (by simpa using hl)
  subst hcs
  exact WK.nothing (QF.ret1 (.inl rfl) rfl (.tmp rfl) (List.Sublist.refl _) ⟨none,0,_,rfl,rfl,rfl,⟨by simp, .inl ⟨rfl,rfl,rfl,rfl⟩⟩⟩)
 ·
  refine WC.skip ?_
  refine WK.un ?_
  refine WC.seq ?_
  refine WC.region ?_
  refine WL.op kr (OW.buildSlice rfl kr kr (by rfl) rfl fun b1=>?_)
  refine zw.move ?_
  refine WL.oo (OW.append rfl rfl kr kr (Vec.empty rfl) .here (hr.cons _) hl h1 (by omega) (by omega) rfl fun A' cap' o' hv=>?_)
  refine zw.assign ?_
  refine WL.nil ?_
  refine WK.un ?_
  refine WC.ret ?_
  (refine WK.un ?_)
  exact QF.ret1 (.inl rfl) rfl (.tmp rfl) (List.Sublist.refl _) ⟨A',cap',o',by rw[Nat.zero_add],rfl,rfl,by simpa using hv⟩
theorem clone_procs (G:Gh) (H:List Own) (A:Option Addr) (n cap:Nat) (cs:List Value) (hr:Rds G H A cs) (hl:cs.length=n*6) (h1:cs.all (·.oneCell')=true) (hA:A=none→n=0) (hb:n*88≤140737488355328):
  Fn Tryz.prog 163 #[.slice A n cap] G H fun e G' H'=>∃A' cap' x',e= .returned (.slice A' n cap')∧G=G'∧H'=x'::H∧Vec 47 6 A' n cap' cs x':=by
 refine Fn.enter Tryz.func163 rfl rfl fun w0=>?_
 refine WC.seq ?_
 refine WC.region ?_
 refine zw.assign ?_
 refine WL.nil ?_
 refine WK.un ?_
 refine WC.seq ?_
 refine WC.seq ?_
 refine WC.region ?_
 refine zw.move ?_
 refine zw.eq ?_
 refine WL.nil ?_
 refine WK.un ?_
 refine WC.cond rfl (fun hc=>?_) (fun hc=>?_)
 ·refine WC.seq ?_
  refine WC.region ?_
  refine zw.assign ?_
  refine WL.nil ?_
  refine WK.un ?_
  refine WC.ret ?_
  have hA':A=none:=by simpa using hc
  have hn:=hA hA'
  subst hn
  have hcs:cs=[]:=List.eq_nil_of_length_eq_zero (by simpa using hl)
  subst hcs
  exact WK.nothing (QF.ret1 (.inl rfl) rfl (.tmp rfl) (List.Sublist.refl _) ⟨none,0,_,rfl,rfl,rfl,⟨by simp, .inl ⟨rfl,rfl,rfl,rfl⟩⟩⟩)
 ·
  refine WC.skip ?_
  refine WK.un ?_
  refine WC.seq ?_
  refine WC.region ?_
  refine WL.op kr (OW.buildSlice rfl kr kr (by rfl) rfl fun b1=>?_)
  refine zw.move ?_
  refine WL.oo (OW.append rfl rfl kr kr (Vec.empty rfl) .here (hr.cons _) hl h1 (by omega) (by omega) rfl fun A' cap' o' hv=>?_)
  refine zw.assign ?_
  refine WL.nil ?_
  refine WK.un ?_
  refine WC.ret ?_
  (refine WK.un ?_)
  exact QF.ret1 (.inl rfl) rfl (.tmp rfl) (List.Sublist.refl _) ⟨A',cap',o',by rw[Nat.zero_add],rfl,rfl,by simpa using hv⟩
theorem clone_instrs (G:Gh) (H:List Own) (A:Option Addr) (n cap:Nat) (cs:List Value) (hr:Rds G H A cs) (hl:cs.length=n*2) (h1:cs.all (·.oneCell')=true) (hA:A=none→n=0) (hb:n*16≤140737488355328):
  Fn Tryz.prog 80 #[.slice A n cap] G H fun e G' H'=>∃A' cap' x',e= .returned (.slice A' n cap')∧G=G'∧H'=x'::H∧Vec 50 2 A' n cap' cs x':=by
 refine Fn.enter Tryz.func80 rfl rfl fun w0=>?_
 refine WC.seq ?_
 refine WC.region ?_
 refine zw.assign ?_
 refine WL.nil ?_
 refine WK.un ?_
 refine WC.seq ?_
 refine WC.seq ?_
 refine WC.region ?_
 refine zw.move ?_
 refine zw.eq ?_
 refine WL.nil ?_
 refine WK.un ?_
 refine WC.cond rfl (fun hc=>?_) (fun hc=>?_)
 ·refine WC.seq ?_
  refine WC.region ?_
  refine zw.assign ?_
  refine WL.nil ?_
  refine WK.un ?_
  refine WC.ret ?_
  have hA':A=none:=by simpa using hc
  have hn:=hA hA'
  subst hn
  have hcs:cs=[]:=List.eq_nil_of_length_eq_zero (by simpa using hl)
  subst hcs
  exact WK.nothing (QF.ret1 (.inl rfl) rfl (.tmp rfl) (List.Sublist.refl _) ⟨none,0,_,rfl,rfl,rfl,⟨by simp, .inl ⟨rfl,rfl,rfl,rfl⟩⟩⟩)
 ·
  refine WC.skip ?_
  refine WK.un ?_
  refine WC.seq ?_
  refine WC.region ?_
  refine WL.op kr (OW.buildSlice rfl kr kr (by rfl) rfl fun b1=>?_)
  refine zw.move ?_
  refine WL.oo (OW.append rfl rfl kr kr (Vec.empty rfl) .here (hr.cons _) hl h1 (by omega) (by omega) rfl fun A' cap' o' hv=>?_)
  refine zw.assign ?_
  refine WL.nil ?_
  refine WK.un ?_
  refine WC.ret ?_
  (refine WK.un ?_)
  exact QF.ret1 (.inl rfl) rfl (.tmp rfl) (List.Sublist.refl _) ⟨A',cap',o',by rw[Nat.zero_add],rfl,rfl,by simpa using hv⟩
abbrev frC (A:Option Addr) (n cap:Nat) (p a:Int) (B:Option Addr) (m cm:Nat):Array Value:= #[.slice A n cap, .int .i64 p, .int .i64 a, .slice B m cm]
theorem high_fn (G:Gh) (b:Nat) (A:Option Addr) (n cap:Nat) (p a:Int) (B:Option Addr) (m cm:Nat):
  Fn Tryz.prog 210 #[.pointer (some ⟨b,0,none⟩)] G [.blk b (.cells (frC A n cap p a B m cm) 245 (0,0))] fun e G' H'=>e= .returned (.int .i64 n)∧G=G'∧H'=[.blk b (.cells (frC A n cap p a B m cm) 245 (0,0))]:=by
 refine Fn.enter Tryz.func210 rfl rfl fun w0=>?_
 refine WC.seq ?_
 refine WC.region ?_
 refine zw.assign ?_
 refine WL.nil ?_
 refine WK.un ?_
 refine WC.seq ?_
 refine WC.region ?_
 refine zw.move ?_
 refine zw.nil ?_
 refine zw.fa ?_
 refine zw.ld ?_
 refine zw.len ?_
 refine zw.assign ?_
 refine WL.nil ?_
 refine WK.un ?_
 refine WC.ret ?_
 (refine WK.un ?_)
 exact QF.ret1 (.inl rfl) rfl (.tmp rfl) (List.Sublist.refl _) ⟨rfl,rfl,rfl⟩
theorem push_fn (G:Gh) (b:Nat) (A:Option Addr) (n cap:Nat) (p a:Int) (B:Option Addr) (m cm:Nat) (cs:List Value) (x:Own) (v:V) (hv:Vec 52 4 A n cap cs x) (hb:n≤1000000000):
  Fn Tryz.prog 211 #[.pointer (some ⟨b,0,none⟩), .agg #[.int .i64 v.t, .int .i64 v.i, .bool v.b, .string v.s]] G [.blk b (.cells (frC A n cap p a B m cm) 245 (0,0)),x]
   fun e G' H'=>∃A' cap' x',e= .returned (.tuple #[])∧G=G'∧H'=[.blk b (.cells (frC A' (n+1) cap' p a B m cm) 245 (0,0)),x']∧Vec 52 4 A' (n+1) cap' (cs++vcells v) x':=by
 refine Fn.enter Tryz.func211 rfl rfl fun w0=>?_
 refine WC.seq ?_
 refine WC.region ?_
 refine WL.oo (OW.box rfl rfl fun b2=>?_)
 refine WL.nil ?_
 refine WK.un ?_
 refine WC.draw mixed ?_
 refine za.move 0 ?_
 refine za.move 1 ?_
 refine za.nil 2 ?_
 refine za.fa 3 ?_
 refine za.ld 4 ?_
 refine za.ld 5 ?_
 refine WA.one (i:=6) kr rfl kr (OW.buildSlice rfl kr kr (by rfl) rfl fun b3=>?_)
 refine WA.oo 7 rfl (OW.append rfl rfl kr kr hv atA (Rds.blk0 (cs:=vcells v) .here rfl) rfl rfl (by omega) (by omega) rfl fun A' cap' o' hv'=>?_)
 refine za.nil 8 ?_
 refine za.fa 9 ?_
 refine za.st 10 ?_
 exact WA.done kr (QF.ret0 (.inr rfl) rfl (.cons _ (.cons _ (List.Sublist.refl _))) ⟨A',cap',o',rfl,rfl,rfl,hv'⟩)
end
section
open Go.MapKept
attribute [local irreducible] Tryz.prog expL metL atL allPr joinP joinT' ptsO sumP sumC moveI
theorem sumC_snoc_le {l:List Ob} {i:Nat} {o:Ob} (h:l[i]? =some o):sumC (l.take i)+o.consts.length≤sumC l:=by
 induction l generalizing i with
 | nil=>simp at h
 | cons a r ih=>
  unfold sumC at ih⊢
  cases i with
  | zero=>simp at h;subst h;simp
  | succ i=>rw[List.take_succ_cons,List.map_cons,List.sum_cons,List.map_cons,List.sum_cons];have:=ih (by simpa using h);omega
structure JA where
 i:Nat
 es:Array MapEntry
 ck:Nat
 m:List (Ky×Value)
structure JL where
 i:Nat
 A1:Option Addr
 c1:Nat
 x1:Own
 A2:Option Addr
 c2:Nat
 x2:Own
 A3:Option Addr
 c3:Nat
 x3:Own
 G:Gh
abbrev pgmB (b:Nat) (A1 A2 A3:Option Addr) (n1 n2 n3 c1 c2 c3:Nat):Own:= .blk b (.cells #[.slice A1 n1 c1, .slice A2 n2 c2, .slice A3 n3 c3] 27 (0,0))
set_option maxRecDepth 20000 in
set_option maxHeartbeats 8000000 in
theorem ojoined_fn (G:Gh) (A:Option Addr) (cap:Nat) (l:List Ob) (hl:Sl Kd.ob G A l) (hL:LLim l) (hv:∀o∈l,(objAns o).2.2=0):
  Fn Tryz.prog 34 #[.slice A l.length cap] G [] fun e G' H'=>∃CA cc PA pc QA qc x1 x2 x3,e= .returned (.agg #[.slice CA (l.flatMap (·.consts)).length cc, .slice PA (joinP (allPr l) l 0 0).length pc, .slice QA (joinT' l 0).length qc])∧G.le G'∧
   KVec Kd.val 52 G' CA cc (l.flatMap (·.consts)) x1∧KVec Kd.prc 47 G' PA pc (joinP (allPr l) l 0 0) x2∧KVec Kd.pnt 54 G' QA qc (joinT' l 0) x3∧H'=[x1,x2,x3]:=by
 have hlen:=hL.len
 have hsp:=hL.sumP
 have hsc:=hL.sumC
 refine Fn.enter Tryz.func34 rfl rfl fun w0=>?_
 refine WC.seq ?_
 refine WC.region ?_
 refine WL.oo (OW.alloc rfl fun b2=>?_)
 refine gom ?_
 refine WL.oo (OW.alloc rfl fun b3=>?_)
 refine gom ?_
 refine WL.oo (OW.makeMap rfl fun bm=>?_)
 refine gom ?_
 refine WC.pick [.blk bm (.map #[] 0),pgmB b2 none none none 0 0 0 0 0 0,pgmB b3 none none none 0 0 0 0 0 0] ?_
 refine WC.loop (X:=JA) (fun x=>[(0, .slice A l.length cap),(2, .pointer (some ⟨b2,0,none⟩)),(3, .pointer (some ⟨b3,0,none⟩)),(4, .map (some bm)),(5, .int .i64 (sumP (l.take x.i):Int)),(20, .slice A l.length cap),(21, .int .i64 l.length),(22, .int .i64 x.i)]) (fun _=>G) (fun x=>[.blk bm (.map x.es x.ck),pgmB b2 none none none 0 0 0 0 0 0,pgmB b3 none none none 0 0 0 0 0 0]) (fun x=>l.length - x.i)
  (fun x=>x.i≤l.length∧MK kyV x.es x.ck x.m∧AtM x.m (allPr (l.take x.i))) ⟨0, #[],0,[]⟩ ⟨Nat.zero_le _,MK.empty,by dsimp only;rw[List.take_zero,show allPr []=[] by unfold allPr;rfl];exact AtM.nil⟩ (by exact⟨rfl,rfl,rfl,rfl,by rw[List.take_zero,show sumP []=0 by unfold sumP;rfl];rfl,rfl,rfl,rfl,trivial⟩) rfl (List.Sublist.refl _) fun x hx=>?_
 obtain⟨i,es,ck,m⟩:=x
 obtain⟨hi,hM,hA⟩:=hx
 dsimp only at hi hM hA
 have x2:=wrapS i (by omega)
 by_cases hlt:i<l.length
 rotate_left
 ·have e2:decide ((i:Int)<(l.length:Int))=false:=decide_eq_false (by omega)
  rw[List.take_of_length_le (by omega)]at hA
  refine gom ?_
  refine WC.nothing ?_
  refine WC.nothing ?_
  refine WC.nothing ?_
  refine WC.pick [.blk bm (.map es ck),pgmB b2 none none none 0 0 0 0 0 0,pgmB b3 none none none 0 0 0 0 0 0, .spare 0 0 0, .spare 0 0 0, .spare 0 0 0] ?_
  have hAM:=hA
  have hMM:=hM
  refine WC.loop (X:=JL) (fun x=>[(2, .pointer (some ⟨b2,0,none⟩)),(3, .pointer (some ⟨b3,0,none⟩)),(4, .map (some bm)),(44, .slice A l.length cap),(45, .int .i64 l.length),(46, .int .i64 x.i)]) (fun x=>x.G)
   (fun x=>[.blk bm (.map es ck),pgmB b2 none none none 0 0 0 0 0 0,pgmB b3 x.A1 x.A2 x.A3 ((l.take x.i).flatMap (·.consts)).length (joinP (allPr l) (l.take x.i) 0 0).length (joinT' (l.take x.i) 0).length x.c1 x.c2 x.c3,x.x1,x.x2,x.x3]) (fun x=>l.length - x.i)
   (fun x=>x.i≤l.length∧G.le x.G∧KVec Kd.val 52 x.G x.A1 x.c1 ((l.take x.i).flatMap (·.consts)) x.x1∧KVec Kd.prc 47 x.G x.A2 x.c2 (joinP (allPr l) (l.take x.i) 0 0) x.x2∧KVec Kd.pnt 54 x.G x.A3 x.c3 (joinT' (l.take x.i) 0) x.x3)
   ⟨0,none,0, .spare 0 0 0,none,0, .spare 0 0 0,none,0, .spare 0 0 0,G⟩ ⟨Nat.zero_le _,Gh.le_refl _,KVec.nil,by dsimp only;rw[List.take_zero,joinP];exact KVec.nil,by dsimp only;rw[List.take_zero,joinT'];exact KVec.nil⟩ (by exact⟨rfl,rfl,rfl,rfl,rfl,rfl,trivial⟩) rfl (by dsimp only;rw[List.take_zero,joinP,joinT'];exact List.Sublist.refl _) fun x hx=>?_
  obtain⟨i,A1,c1,x1,A2,c2,x2,A3,c3,x3,G1⟩:=x
  obtain⟨hi,hg1,hk1,hk2,hk3⟩:=hx
  dsimp only at hi hg1 hk1 hk2 hk3
  have z2:=wrapS i (by omega)
  by_cases hlt:i<l.length
  rotate_left
  ·have e2:decide ((i:Int)<(l.length:Int))=false:=decide_eq_false (by omega)
   have htl:l.take i=l:=List.take_of_length_le (by omega)
   rw[htl]at hk1 hk2 hk3
   refine gom ?_
   refine WC.rt ?_
   exact QF.p1 (.inl rfl) rfl (.cell rfl inferInstance inferInstance atA rfl rfl) (⟨A1,c1,A2,c2,A3,c3,x1,x2,x3,by rw[htl];rfl,hg1,hk1,hk2,hk3,rfl⟩)
  have e2:decide ((i:Int)<(l.length:Int))=true:=decide_eq_true (by omega)
  obtain⟨o,ho⟩:∃o,l[i]? =some o:=⟨_,List.getElem?_eq_getElem (by omega)⟩
  have hom:=List.mem_of_getElem? ho
  have x0:(0:Int)≤(i:Int):=by omega
  have x1':(i:Int)<(l.length:Int):=by omega
  have hl1:=hl.mono hg1
  obtain⟨ab,ao,cs,rfl,hks,hcs⟩:=hl1 i o ho
  obtain⟨CA,cc,NA,nc,PA,pc,rfl,hO⟩:=hks
  have htk:l.take (i+1)=l.take i++[o]:=take_snoc' ho
  have hsn:=sumP_snoc_le ho
  have hcn:=sumC_snoc_le ho
  have hfl:(l.take (i+1)).flatMap (·.consts)=(l.take i).flatMap (·.consts)++o.consts:=by rw[htk,List.flatMap_append];simp
  have hjs:joinP (allPr l) (l.take (i+1)) 0 0=joinP (allPr l) (l.take i) 0 0++o.procs.map (moveP (allPr l) o (sumC (l.take i)) (sumP (l.take i))):=by rw[htk,join_snoc,Nat.zero_add,Nat.zero_add]
  have hts:joinT' (l.take (i+1)) 0=joinT' (l.take i) 0++ptsO o.path o.procs (sumP (l.take i)):=by rw[htk,joinT_snoc,Nat.zero_add]
  have hcl:=consts_len (l.take i)
  have hjl:=join_len (allPr l) (l.take i) 0 0
  have htl:=joinT_len (l.take i) 0
  refine gom ?_
  refine WL.oo (OW.alloc rfl fun b11=>?_)
  refine gom ?_
  refine WL.oo (OW.appendS (k:=Kd.val) rfl rfl kr rfl hk1 atA hO.consts (by rw[hcl];omega) (by rw[hcl];omega) rfl fun A4 c4 x4 hk4=>?_)
  refine gom ?_
  refine WC.pick [.blk bm (.map es ck),pgmB b2 none none none 0 0 0 0 0 0,pgmB b3 A4 A2 A3 ((l.take i).flatMap (·.consts)++o.consts).length (joinP (allPr l) (l.take i) 0 0).length (joinT' (l.take i) 0).length c4 c2 c3, .blk b11 (.cells #[.string o.path, .slice CA o.consts.length cc, .slice NA o.needs.length nc, .slice PA o.procs.length pc] 38 (0,0)),x4,x2,x3] ?_
  refine WC.loop (X:=JL) (fun x=>[(2, .pointer (some ⟨b2,0,none⟩)),(3, .pointer (some ⟨b3,0,none⟩)),(4, .map (some bm)),(11, .pointer (some ⟨b11,0,none⟩)),(12, .int .i64 ((l.take i).flatMap (·.consts)).length),(13, .int .i64 (joinP (allPr l) (l.take i) 0 0).length),(44, .slice (some ⟨ab,ao,none⟩) l.length cap),(45, .int .i64 l.length),(46, .int .i64 i),(63, .slice PA o.procs.length pc),(64, .int .i64 o.procs.length),(65, .int .i64 x.i)]) (fun x=>x.G)
   (fun x=>[.blk bm (.map es ck),pgmB b2 none none none 0 0 0 0 0 0,pgmB b3 A4 x.A2 x.A3 ((l.take i).flatMap (·.consts)++o.consts).length (joinP (allPr l) (l.take i) 0 0++(o.procs.take x.i).map (moveP (allPr l) o (sumC (l.take i)) (sumP (l.take i)))).length (joinT' (l.take i) 0++ptsO o.path (o.procs.take x.i) (sumP (l.take i))).length c4 x.c2 x.c3, .blk b11 (.cells #[.string o.path, .slice CA o.consts.length cc, .slice NA o.needs.length nc, .slice PA o.procs.length pc] 38 (0,0)),x4,x.x2,x.x3]) (fun x=>o.procs.length - x.i)
   (fun x=>x.i≤o.procs.length∧G1.le x.G∧KVec Kd.prc 47 x.G x.A2 x.c2 (joinP (allPr l) (l.take i) 0 0++(o.procs.take x.i).map (moveP (allPr l) o (sumC (l.take i)) (sumP (l.take i)))) x.x2∧KVec Kd.pnt 54 x.G x.A3 x.c3 (joinT' (l.take i) 0++ptsO o.path (o.procs.take x.i) (sumP (l.take i))) x.x3)
   ⟨0,none,0, .spare 0 0 0,A2,c2,x2,A3,c3,x3,G1⟩ ⟨Nat.zero_le _,Gh.le_refl _,by dsimp only;rw[List.take_zero,List.map_nil,List.append_nil];exact hk2,by dsimp only;rw[List.take_zero,ptsO,List.append_nil];exact hk3⟩ (by exact⟨rfl,rfl,rfl,rfl,rfl,rfl,rfl,rfl,rfl,rfl,rfl,rfl,trivial⟩) rfl (by dsimp only;rw[List.take_zero,ptsO,List.map_nil,List.append_nil,List.append_nil];exact List.Sublist.refl _) fun x hx=>?_
  obtain⟨j,_,_,_,A2,c2,x2,A3,c3,x3,G2⟩:=x
  obtain⟨hj,hg2,hk2,hk3⟩:=hx
  dsimp only at hj hg2 hk2 hk3
  have y2:=wrapS j (by omega)
  by_cases hjlt:j<o.procs.length
  rotate_left
  ·have e4:decide ((j:Int)<(o.procs.length:Int))=false:=decide_eq_false (by omega)
   have htj:o.procs.take j=o.procs:=List.take_of_length_le (by omega)
   rw[htj,←hjs]at hk2
   rw[htj,←hts]at hk3
   refine gom ?_
   refine WK.pick [.blk bm (.map es ck),pgmB b2 none none none 0 0 0 0 0 0,pgmB b3 A4 A2 A3 ((l.take i).flatMap (·.consts)++o.consts).length (joinP (allPr l) (l.take i) 0 0++(o.procs.take j).map (moveP (allPr l) o (sumC (l.take i)) (sumP (l.take i)))).length (joinT' (l.take i) 0++ptsO o.path (o.procs.take j) (sumP (l.take i))).length c4 c2 c3,x4,x2,x3] ?_
   exact WK.again ⟨i+1,A4,c4,x4,A2,c2,x2,A3,c3,x3,G2⟩ (by dsimp only;omega) ⟨by show i+1≤_;omega,Gh.le_trans hg1 hg2,by dsimp only;rw[hfl];exact hk4.mono hg2,hk2,hk3⟩ (by exact⟨rfl,rfl,rfl,rfl,rfl,rfl,trivial⟩) rfl (by dsimp only;rw[hfl,hjs,hts,htj];exact List.Sublist.refl _)
  have e4:decide ((j:Int)<(o.procs.length:Int))=true:=decide_eq_true (by omega)
  obtain⟨p,hp⟩:∃p,o.procs[j]? =some p:=⟨_,List.getElem?_eq_getElem hjlt⟩
  have y0:(0:Int)≤(j:Int):=by omega
  have y1:(j:Int)<(o.procs.length:Int):=by omega
  have hO2:=hO.mono hg2
  obtain⟨pb,po,cs2,rfl,hks2,hcs2⟩:=hO2.procs j p hp
  obtain⟨QA,qc,IA,ic,rfl,hQ,hI⟩:=hks2
  have hpl:=hL.pp o hom p (List.mem_of_getElem? hp)
  refine gom ?_
  refine WL.oo (OW.alloc rfl fun b15=>?_)
  refine gom ?_
  refine WL.oo (OW.callK rfl (clone_types G2 [] QA p.params.length qc (ints p.params) hQ.ints (ints_length _) (ints_one _) hQ.none_len (by omega)) rfl fun v' G' H' h hg=>?_)
  obtain⟨QA',qc',xq,he,rfl,rfl,hxq⟩:=h
  cases he
  refine WL.frozenVec hxq atA fun G3 hg3 z3=>?_
  have hQ3:Sl (Kd.int .i64) G3 QA' p.params:=IVec.sl z3
  refine WL.pick [.blk b15 (.cells #[.string p.name, .bool p.exp, .slice QA p.params.length qc, .int .i64 p.locals, .int .i64 p.result, .slice IA p.code.length ic] 47 (0,0)), .blk bm (.map es ck),pgmB b2 none none none 0 0 0 0 0 0,pgmB b3 A4 A2 A3 ((l.take i).flatMap (·.consts)++o.consts).length (joinP (allPr l) (l.take i) 0 0++(o.procs.take j).map (moveP (allPr l) o (sumC (l.take i)) (sumP (l.take i)))).length (joinT' (l.take i) 0++ptsO o.path (o.procs.take j) (sumP (l.take i))).length c4 c2 c3, .blk b11 (.cells #[.string o.path, .slice CA o.consts.length cc, .slice NA o.needs.length nc, .slice (some ⟨pb,po,none⟩) o.procs.length pc] 38 (0,0)),x4,x2,x3] ?_
  refine gom ?_
  have hI3:=hI.mono hg3
  obtain⟨ics,hir,hik⟩:=Sl.kfl (H:=[]) (by decide) hI3
  refine WL.oo (OW.callK rfl (clone_instrs G3 [] IA p.code.length ic ics hir hik.len hik.one' hI3.none_zero (by omega)) rfl fun v' G' H' h hg=>?_)
  obtain⟨IA',ic',x5,he,rfl,rfl,hx5⟩:=h
  cases he
  have hk5:KVec Kd.ins 50 G3 IA' ic' (mvT (moveI (allPr l) o (sumC (l.take i)) (sumP (l.take i))) p.code 0) x5:=by rw[mvT_zero];exact⟨ics,hx5,hik⟩
  refine WL.pick [x5, .blk b15 (.cells #[.string p.name, .bool p.exp, .slice QA' p.params.length qc', .int .i64 p.locals, .int .i64 p.result, .slice IA p.code.length ic] 47 (0,0)), .blk bm (.map es ck),pgmB b2 none none none 0 0 0 0 0 0,pgmB b3 A4 A2 A3 ((l.take i).flatMap (·.consts)++o.consts).length (joinP (allPr l) (l.take i) 0 0++(o.procs.take j).map (moveP (allPr l) o (sumC (l.take i)) (sumP (l.take i)))).length (joinT' (l.take i) 0++ptsO o.path (o.procs.take j) (sumP (l.take i))).length c4 c2 c3, .blk b11 (.cells #[.string o.path, .slice CA o.consts.length cc, .slice NA o.needs.length nc, .slice (some ⟨pb,po,none⟩) o.procs.length pc] 38 (0,0)),x4,x2,x3] ?_
  refine gom ?_
  refine WC.pick [x5, .blk b15 (.cells #[.string p.name, .bool p.exp, .slice QA' p.params.length qc', .int .i64 p.locals, .int .i64 p.result, .slice IA' p.code.length ic'] 47 (0,0)), .blk bm (.map es ck),pgmB b2 none none none 0 0 0 0 0 0,pgmB b3 A4 A2 A3 ((l.take i).flatMap (·.consts)++o.consts).length (joinP (allPr l) (l.take i) 0 0++(o.procs.take j).map (moveP (allPr l) o (sumC (l.take i)) (sumP (l.take i)))).length (joinT' (l.take i) 0++ptsO o.path (o.procs.take j) (sumP (l.take i))).length c4 c2 c3, .blk b11 (.cells #[.string o.path, .slice CA o.consts.length cc, .slice NA o.needs.length nc, .slice (some ⟨pb,po,none⟩) o.procs.length pc] 38 (0,0)),x4,x2,x3] ?_
  refine WC.loop (X:=Nat×Own) (fun x=>[(2, .pointer (some ⟨b2,0,none⟩)),(3, .pointer (some ⟨b3,0,none⟩)),(4, .map (some bm)),(11, .pointer (some ⟨b11,0,none⟩)),(12, .int .i64 ((l.take i).flatMap (·.consts)).length),(13, .int .i64 (joinP (allPr l) (l.take i) 0 0).length),(15, .pointer (some ⟨b15,0,none⟩)),(44, .slice (some ⟨ab,ao,none⟩) l.length cap),(45, .int .i64 l.length),(46, .int .i64 i),(63, .slice (some ⟨pb,po,none⟩) o.procs.length pc),(64, .int .i64 o.procs.length),(65, .int .i64 j),(79, .int .i64 p.code.length),(80, .int .i64 x.1)]) (fun _=>G3)
   (fun x=>[x.2, .blk b15 (.cells #[.string p.name, .bool p.exp, .slice QA' p.params.length qc', .int .i64 p.locals, .int .i64 p.result, .slice IA' p.code.length ic'] 47 (0,0)), .blk bm (.map es ck),pgmB b2 none none none 0 0 0 0 0 0,pgmB b3 A4 A2 A3 ((l.take i).flatMap (·.consts)++o.consts).length (joinP (allPr l) (l.take i) 0 0++(o.procs.take j).map (moveP (allPr l) o (sumC (l.take i)) (sumP (l.take i)))).length (joinT' (l.take i) 0++ptsO o.path (o.procs.take j) (sumP (l.take i))).length c4 c2 c3, .blk b11 (.cells #[.string o.path, .slice CA o.consts.length cc, .slice NA o.needs.length nc, .slice (some ⟨pb,po,none⟩) o.procs.length pc] 38 (0,0)),x4,x2,x3]) (fun x=>p.code.length - x.1)
   (fun x=>x.1≤p.code.length∧KVec Kd.ins 50 G3 IA' ic' (mvT (moveI (allPr l) o (sumC (l.take i)) (sumP (l.take i))) p.code x.1) x.2) (0,x5) ⟨Nat.zero_le _,hk5⟩ (by exact⟨rfl,rfl,rfl,rfl,rfl,rfl,rfl,rfl,rfl,rfl,rfl,rfl,rfl,rfl,rfl,trivial⟩) rfl (List.Sublist.refl _) fun x hx=>?_
  obtain⟨k,x5⟩:=x
  obtain⟨hk,hk5⟩:=hx
  dsimp only at hk hk5
  have w2:=wrapS k (by omega)
  by_cases hklt:k<p.code.length
  rotate_left
  ·have e5:decide ((k:Int)<(p.code.length:Int))=false:=decide_eq_false (by omega)
   rw[mvT_all _ (by omega)]at hk5
   refine WC.freezeK (by decide) hk5 .here fun G4 hg4 hI4=>?_
   have hg24:=Gh.le_trans hg3 hg4
   have hlp1:(joinP (allPr l) (l.take i) 0 0++(o.procs.take j).map (moveP (allPr l) o (sumC (l.take i)) (sumP (l.take i)))).length=sumP (l.take i)+j:=by rw[List.length_append,hjl,List.length_map,List.length_take];omega
   have hxp1:(joinP (allPr l) (l.take i) 0 0++(o.procs.take (j+1)).map (moveP (allPr l) o (sumC (l.take i)) (sumP (l.take i))))=(joinP (allPr l) (l.take i) 0 0++(o.procs.take j).map (moveP (allPr l) o (sumC (l.take i)) (sumP (l.take i))))++[moveP (allPr l) o (sumC (l.take i)) (sumP (l.take i)) p]:=by rw[take_snoc' hp,List.map_append,List.append_assoc];rfl
   have hlq1:(joinT' (l.take i) 0++ptsO o.path (o.procs.take j) (sumP (l.take i))).length≤sumP (l.take i)+j:=by
    have:=pts_len o.path (o.procs.take j) (sumP (l.take i))
    rw[List.length_take]at this
    rw[List.length_append];omega
   cases hx:p.exp with
   | false=>
    have hxq1:(joinT' (l.take i) 0++ptsO o.path (o.procs.take (j+1)) (sumP (l.take i)))=(joinT' (l.take i) 0++ptsO o.path (o.procs.take j) (sumP (l.take i))):=by rw[take_snoc' hp,pts_snoc,hx,if_neg (by decide),List.append_nil]
    refine gom ?_
    refine WL.op kr (OW.buildSlice rfl kr kr (by rfl) rfl fun b150=>?_)
    refine WL.oo (OW.append1 (k:=Kd.prc) (news:=[.string p.name, .bool false, .slice QA' p.params.length qc', .int .i64 p.locals, .int .i64 p.result, .slice IA' p.code.length ic']) (u:=moveP (allPr l) o (sumC (l.take i)) (sumP (l.take i)) p) rfl rfl kr rfl (hk2.mono hg24) atA .here rfl ⟨QA',qc',IA',ic',by simp[moveP,hx],hQ3.mono hg4,hI4⟩ (by rw[hlp1];omega) (by rw[hlp1];omega) rfl fun A6 c6 x6 hk6=>?_)
    refine gom ?_
    refine WK.pick [.blk bm (.map es ck),pgmB b2 none none none 0 0 0 0 0 0,pgmB b3 A4 A6 A3 ((l.take i).flatMap (·.consts)++o.consts).length ((joinP (allPr l) (l.take i) 0 0++(o.procs.take j).map (moveP (allPr l) o (sumC (l.take i)) (sumP (l.take i))))++[moveP (allPr l) o (sumC (l.take i)) (sumP (l.take i)) p]).length (joinT' (l.take i) 0++ptsO o.path (o.procs.take j) (sumP (l.take i))).length c4 c6 c3, .blk b11 (.cells #[.string o.path, .slice CA o.consts.length cc, .slice NA o.needs.length nc, .slice (some ⟨pb,po,none⟩) o.procs.length pc] 38 (0,0)),x4,x6,x3] ?_
    exact WK.again ⟨j+1,none,0, .spare 0 0 0,A6,c6,x6,A3,c3,x3,G4⟩ (by dsimp only;omega) ⟨by show j+1≤_;omega,Gh.le_trans hg2 hg24,by dsimp only;rw[hxp1];exact hk6,by dsimp only;rw[hxq1];exact hk3.mono hg24⟩ (by exact⟨rfl,rfl,rfl,rfl,rfl,rfl,rfl,rfl,rfl,rfl,rfl,rfl,trivial⟩) rfl (by dsimp only;rw[hxp1,hxq1];exact List.Sublist.refl _)
   | true=>
    have hxq1:(joinT' (l.take i) 0++ptsO o.path (o.procs.take (j+1)) (sumP (l.take i)))=(joinT' (l.take i) 0++ptsO o.path (o.procs.take j) (sumP (l.take i)))++[⟨o.path,p.name,((sumP (l.take i)+j:Nat):Int)⟩]:=by rw[take_snoc' hp,pts_snoc,hx,if_pos rfl,List.length_take,←List.append_assoc,show min j o.procs.length=j by omega]
    refine gom ?_
    refine WL.op kr (OW.buildSlice rfl kr kr (by rfl) rfl fun b144=>?_)
    refine WL.oo (OW.append1 (k:=Kd.pnt) (news:=[.string o.path, .string p.name, .int .i64 ((joinP (allPr l) (l.take i) 0 0++(o.procs.take j).map (moveP (allPr l) o (sumC (l.take i)) (sumP (l.take i)))).length:Int)]) (u:=⟨o.path,p.name,((sumP (l.take i)+j:Nat):Int)⟩) rfl rfl kr rfl (hk3.mono hg24) atA .here rfl (by show _=[_,_,_];rw[hlp1]) (by omega) (by omega) rfl fun A7 c7 x7 hk7=>?_)
    refine gom ?_
    refine WL.op kr (OW.buildSlice rfl kr kr (by rfl) rfl fun b150=>?_)
    refine WL.oo (OW.append1 (k:=Kd.prc) (news:=[.string p.name, .bool true, .slice QA' p.params.length qc', .int .i64 p.locals, .int .i64 p.result, .slice IA' p.code.length ic']) (u:=moveP (allPr l) o (sumC (l.take i)) (sumP (l.take i)) p) rfl rfl kr rfl (hk2.mono hg24) atA .here rfl ⟨QA',qc',IA',ic',by simp[moveP,hx],hQ3.mono hg4,hI4⟩ (by rw[hlp1];omega) (by rw[hlp1];omega) rfl fun A6 c6 x6 hk6=>?_)
    refine gom ?_
    refine WK.pick [.blk bm (.map es ck),pgmB b2 none none none 0 0 0 0 0 0,pgmB b3 A4 A6 A7 ((l.take i).flatMap (·.consts)++o.consts).length ((joinP (allPr l) (l.take i) 0 0++(o.procs.take j).map (moveP (allPr l) o (sumC (l.take i)) (sumP (l.take i))))++[moveP (allPr l) o (sumC (l.take i)) (sumP (l.take i)) p]).length ((joinT' (l.take i) 0++ptsO o.path (o.procs.take j) (sumP (l.take i)))++[(⟨o.path,p.name,((sumP (l.take i)+j:Nat):Int)⟩:Pt)]).length c4 c6 c7, .blk b11 (.cells #[.string o.path, .slice CA o.consts.length cc, .slice NA o.needs.length nc, .slice (some ⟨pb,po,none⟩) o.procs.length pc] 38 (0,0)),x4,x6,x7] ?_
    exact WK.again ⟨j+1,none,0, .spare 0 0 0,A6,c6,x6,A7,c7,x7,G4⟩ (by dsimp only;omega) ⟨by show j+1≤_;omega,Gh.le_trans hg2 hg24,by dsimp only;rw[hxp1];exact hk6,by dsimp only;rw[hxq1];exact hk7⟩ (by exact⟨rfl,rfl,rfl,rfl,rfl,rfl,rfl,rfl,rfl,rfl,rfl,rfl,trivial⟩) rfl (by dsimp only;rw[hxp1,hxq1];exact List.Sublist.refl _)
  have e5:decide ((k:Int)<(p.code.length:Int))=true:=decide_eq_true (by omega)
  obtain⟨ins,hins⟩:∃ins,p.code[k]? =some ins:=⟨_,List.getElem?_eq_getElem hklt⟩
  have w0':(0:Int)≤(k:Int):=by omega
  have w1':(k:Int)<(p.code.length:Int):=by omega
  have hmv:=mvT_at (moveI (allPr l) o (sumC (l.take i)) (sumP (l.take i))) hins
  have hst:=mvT_step (moveI (allPr l) o (sumC (l.take i)) (sumP (l.take i))) hins
  have hal:aloneR o.wd p ins=0:=(outAt_zero (w:=o.wd) hp (allR_zero (objAns_zero (hv o hom)).2 j (List.getElem?_eq_some_iff.1 hp).1)).2.2.1 k ins hins
  obtain⟨c,n⟩:=ins
  obtain⟨al1,al2,al3⟩:=aloneR_zero hal
  obtain⟨am1,am2,am3⟩:=mayR_le al1
  dsimp only at am1 am2
  obtain⟨cb,cd,rfl,rfl⟩:=hk5.isBlk (by rw[mvT_len];omega)
  have hat:=InsK.at hk5 hmv
  have hidx0:0+((k:Nat):Int).toNat*2+0=k*2:=by simp
  have hidx:0+((k:Nat):Int).toNat*2+1=k*2+1:=by simp
  have hidw:0+((k:Nat):Int).toNat*2=k*2:=by simp
  refine gom ?_
  refine WL.vv (Gv.load1 rfl atA (show cd[0+((k:Nat):Int).toNat*2+0]? =_ by rw[hidx0];exact hat.1)) ?_
  have hcn':sumC (l.take i)≤1048576:=by omega
  by_cases c1':c=1
  ·subst c1'
   have e6:((1:Int)==1)=true:=rfl
   have hmi:(moveI (allPr l) o (sumC (l.take i)) (sumP (l.take i))) (1,n)=(1,n+(((l.take i).flatMap (·.consts)).length:Int)):=by unfold moveI;rw[if_pos rfl,hcl]
   have hw6:IntKind.i64.wrap (n+(((l.take i).flatMap (·.consts)).length:Int))=n+(((l.take i).flatMap (·.consts)).length:Int):=wrapI (by omega) (by omega)
   have hp2:=InsK.put2 (z:=n+(((l.take i).flatMap (·.consts)).length:Int)) hk5 hmv
   have hp3:=hp2.2
   rw[←hmi,hst]at hp3
   refine gom ?_
   refine WL.vv (Gv.load1 rfl atA (show cd[0+((k:Nat):Int).toNat*2+1]? =_ by rw[hidx];exact hat.2)) ?_
   refine gom ?_
   refine WL.oo (OW.store rfl rfl atA rfl (by rfl) (by rfl) (show Nat.ble (0+((k:Nat):Int).toNat*2+1+1) cd.size=true by rw[hidx];exact hp2.1) (by rfl) ?_ rfl)
   refine gom ?_
   rw[hidx]
   refine WK.pick [.blk cb (.cells (splice cd (k*2+1) [.int .i64 (n+(((l.take i).flatMap (·.consts)).length:Int))]) 50 (0,0)), .blk b15 (.cells #[.string p.name, .bool p.exp, .slice QA' p.params.length qc', .int .i64 p.locals, .int .i64 p.result, .slice (some ⟨cb,0,none⟩) p.code.length ic'] 47 (0,0)), .blk bm (.map es ck),pgmB b2 none none none 0 0 0 0 0 0,pgmB b3 A4 A2 A3 ((l.take i).flatMap (·.consts)++o.consts).length (joinP (allPr l) (l.take i) 0 0++(o.procs.take j).map (moveP (allPr l) o (sumC (l.take i)) (sumP (l.take i)))).length (joinT' (l.take i) 0++ptsO o.path (o.procs.take j) (sumP (l.take i))).length c4 c2 c3, .blk b11 (.cells #[.string o.path, .slice CA o.consts.length cc, .slice NA o.needs.length nc, .slice (some ⟨pb,po,none⟩) o.procs.length pc] 38 (0,0)),x4,x2,x3] ?_
   exact WK.again ⟨k+1,_⟩ (by dsimp only;omega) ⟨by show k+1≤_;omega,hp3⟩ (by exact⟨rfl,rfl,rfl,rfl,rfl,rfl,rfl,rfl,rfl,rfl,rfl,rfl,rfl,rfl,rfl,trivial⟩) rfl (List.Sublist.refl _)
  by_cases c7':c=7
  ·subst c7'
   have e6:((7:Int)==1)=false:=rfl
   have e7:((7:Int)==7)=true:=rfl
   have hmi:(moveI (allPr l) o (sumC (l.take i)) (sumP (l.take i))) (7,n)=(7,n+((joinP (allPr l) (l.take i) 0 0).length:Int)):=by unfold moveI;rw[if_neg (by dsimp only;decide),if_pos rfl,hjl]
   have hw6:IntKind.i64.wrap (n+((joinP (allPr l) (l.take i) 0 0).length:Int))=n+((joinP (allPr l) (l.take i) 0 0).length:Int):=wrapI (by omega) (by omega)
   have hp2:=InsK.put2 (z:=n+((joinP (allPr l) (l.take i) 0 0).length:Int)) hk5 hmv
   have hp3:=hp2.2
   rw[←hmi,hst]at hp3
   refine gom ?_
   refine WL.vv (Gv.load1 rfl atA (show cd[0+((k:Nat):Int).toNat*2+1]? =_ by rw[hidx];exact hat.2)) ?_
   refine gom ?_
   refine WL.oo (OW.store rfl rfl atA rfl (by rfl) (by rfl) (show Nat.ble (0+((k:Nat):Int).toNat*2+1+1) cd.size=true by rw[hidx];exact hp2.1) (by rfl) ?_ rfl)
   refine gom ?_
   rw[hidx]
   refine WK.pick [.blk cb (.cells (splice cd (k*2+1) [.int .i64 (n+((joinP (allPr l) (l.take i) 0 0).length:Int))]) 50 (0,0)), .blk b15 (.cells #[.string p.name, .bool p.exp, .slice QA' p.params.length qc', .int .i64 p.locals, .int .i64 p.result, .slice (some ⟨cb,0,none⟩) p.code.length ic'] 47 (0,0)), .blk bm (.map es ck),pgmB b2 none none none 0 0 0 0 0 0,pgmB b3 A4 A2 A3 ((l.take i).flatMap (·.consts)++o.consts).length (joinP (allPr l) (l.take i) 0 0++(o.procs.take j).map (moveP (allPr l) o (sumC (l.take i)) (sumP (l.take i)))).length (joinT' (l.take i) 0++ptsO o.path (o.procs.take j) (sumP (l.take i))).length c4 c2 c3, .blk b11 (.cells #[.string o.path, .slice CA o.consts.length cc, .slice NA o.needs.length nc, .slice (some ⟨pb,po,none⟩) o.procs.length pc] 38 (0,0)),x4,x2,x3] ?_
   exact WK.again ⟨k+1,_⟩ (by dsimp only;omega) ⟨by show k+1≤_;omega,hp3⟩ (by exact⟨rfl,rfl,rfl,rfl,rfl,rfl,rfl,rfl,rfl,rfl,rfl,rfl,rfl,rfl,rfl,trivial⟩) rfl (List.Sublist.refl _)
  by_cases c8':c=8
  ·subst c8'
   have e6:((8:Int)==1)=false:=rfl
   have e7:((8:Int)==7)=false:=rfl
   have e8:((8:Int)==8)=true:=rfl
   have hn8:n<(o.needs.length:Int):=by simpa [Ob.wd]using al3
   obtain⟨nd,hnd⟩:∃nd,o.needs[n.toNat]? =some nd:=⟨_,List.getElem?_eq_getElem (by omega)⟩
   have hO3:=hO2.mono hg3
   obtain⟨nb,no,cs3,rfl,hks3,hcs3⟩:=hO3.needs n.toNat nd hnd
   obtain⟨NQ,nqc,rfl,hNQ⟩:=hks3
   have hmi:(moveI (allPr l) o (sumC (l.take i)) (sumP (l.take i))) (8,n)=(7,atL (allPr l) (nd.path,nd.name)):=by unfold moveI;rw[if_neg (by dsimp only;decide),if_neg (by dsimp only;decide),if_pos rfl,hnd]
   have hp2:=InsK.put (y:=(7,atL (allPr l) (nd.path,nd.name))) hk5 hmv
   have hp3:KVec Kd.ins 50 G3 (some ⟨cb,0,none⟩) ic' (mvT (moveI (allPr l) o (sumC (l.take i)) (sumP (l.take i))) p.code (k+1)) (.blk cb (.cells (splice cd (k*2) [.int .i64 7, .int .i64 (atL (allPr l) (nd.path,nd.name))]) 50 (0,0))):=by
    rw[←hst,hmi];exact hp2.2.2
   refine gom ?_
   refine WQ.tv (Gv.load1 rfl atA (show cd[0+((k:Nat):Int).toNat*2+1]? =_ by rw[hidx];exact hat.2)) kr kr rfl ?_
   refine gom ?_
   refine WQ.one kr kr (OW.alloc rfl fun b18=>?_)
   refine WQ.one kr kr (OW.store rfl rfl atA rfl (by rfl) (by rfl) kr (by rfl) ?_ rfl)
   refine gom ?_
   refine WL.vv (Gv.lookupK (emb:=kyV) (key:=(nd.path,nd.name)) (kt:=140) (z:= .int .i64 0) rfl rfl atA hMM (hAM _)) ?_
   refine gom ?_
   refine WL.oo (OW.store rfl rfl atA rfl (by rfl) (by rfl) (show Nat.ble (0+((k:Nat):Int).toNat*2+2) cd.size=true by rw[hidw];exact hp2.2.1) (by rfl) ?_ rfl)
   refine gom ?_
   rw[hidw]
   refine WK.pick [.blk cb (.cells (splice cd (k*2) [.int .i64 7, .int .i64 (atL (allPr l) (nd.path,nd.name))]) 50 (0,0)), .blk b15 (.cells #[.string p.name, .bool p.exp, .slice QA' p.params.length qc', .int .i64 p.locals, .int .i64 p.result, .slice (some ⟨cb,0,none⟩) p.code.length ic'] 47 (0,0)), .blk bm (.map es ck),pgmB b2 none none none 0 0 0 0 0 0,pgmB b3 A4 A2 A3 ((l.take i).flatMap (·.consts)++o.consts).length (joinP (allPr l) (l.take i) 0 0++(o.procs.take j).map (moveP (allPr l) o (sumC (l.take i)) (sumP (l.take i)))).length (joinT' (l.take i) 0++ptsO o.path (o.procs.take j) (sumP (l.take i))).length c4 c2 c3, .blk b11 (.cells #[.string o.path, .slice CA o.consts.length cc, .slice (some ⟨nb,no,none⟩) o.needs.length nc, .slice (some ⟨pb,po,none⟩) o.procs.length pc] 38 (0,0)),x4,x2,x3] ?_
   exact WK.again ⟨k+1,_⟩ (by dsimp only;omega) ⟨by show k+1≤_;omega,hp3⟩ (by exact⟨rfl,rfl,rfl,rfl,rfl,rfl,rfl,rfl,rfl,rfl,rfl,rfl,rfl,rfl,rfl,trivial⟩) rfl (List.Sublist.refl _)
  have e6:(c==1)=false:=by simpa using c1'
  have e7:(c==7)=false:=by simpa using c7'
  have e8:(c==8)=false:=by simpa using c8'
  have hsame:(moveI (allPr l) o (sumC (l.take i)) (sumP (l.take i))) (c,n)=(c,n):=by unfold moveI;rw[if_neg c1',if_neg c7',if_neg c8']
  rw[mvT_same _ hins hsame]at hk5
  refine gom ?_
  refine WK.pick [.blk cb (.cells cd 50 (0,0)), .blk b15 (.cells #[.string p.name, .bool p.exp, .slice QA' p.params.length qc', .int .i64 p.locals, .int .i64 p.result, .slice (some ⟨cb,0,none⟩) p.code.length ic'] 47 (0,0)), .blk bm (.map es ck),pgmB b2 none none none 0 0 0 0 0 0,pgmB b3 A4 A2 A3 ((l.take i).flatMap (·.consts)++o.consts).length (joinP (allPr l) (l.take i) 0 0++(o.procs.take j).map (moveP (allPr l) o (sumC (l.take i)) (sumP (l.take i)))).length (joinT' (l.take i) 0++ptsO o.path (o.procs.take j) (sumP (l.take i))).length c4 c2 c3, .blk b11 (.cells #[.string o.path, .slice CA o.consts.length cc, .slice NA o.needs.length nc, .slice (some ⟨pb,po,none⟩) o.procs.length pc] 38 (0,0)),x4,x2,x3] ?_
  exact WK.again ⟨k+1,_⟩ (by dsimp only;omega) ⟨by show k+1≤_;omega,hk5⟩ (by exact⟨rfl,rfl,rfl,rfl,rfl,rfl,rfl,rfl,rfl,rfl,rfl,rfl,rfl,rfl,rfl,trivial⟩) rfl (List.Sublist.refl _)
 have e2:decide ((i:Int)<(l.length:Int))=true:=decide_eq_true (by omega)
 obtain⟨o,ho⟩:∃o,l[i]? =some o:=⟨_,List.getElem?_eq_getElem (by omega)⟩
 have x0:(0:Int)≤(i:Int):=by omega
 have x1:(i:Int)<(l.length:Int):=by omega
 obtain⟨ab,ao,cs,rfl,hks,hcs⟩:=hl i o ho
 obtain⟨CA,cc,NA,nc,PA,pc,rfl,hO⟩:=hks
 have htk:l.take (i+1)=l.take i++[o]:=take_snoc' ho
 have hsum:sumP (l.take (i+1))=sumP (l.take i)+o.procs.length:=by rw[htk];unfold sumP;simp
 have hsn:=sumP_snoc_le ho
 refine gom ?_
 refine WL.oo (OW.alloc rfl fun b7=>?_)
 refine gom ?_
 refine WC.pick [.blk b7 (.cells #[.string o.path, .slice CA o.consts.length cc, .slice NA o.needs.length nc, .slice PA o.procs.length pc] 38 (0,0)), .blk bm (.map es ck),pgmB b2 none none none 0 0 0 0 0 0,pgmB b3 none none none 0 0 0 0 0 0] ?_
 refine WC.loop (X:=JA) (fun x=>[(0, .slice (some ⟨ab,ao,none⟩) l.length cap),(2, .pointer (some ⟨b2,0,none⟩)),(3, .pointer (some ⟨b3,0,none⟩)),(4, .map (some bm)),(5, .int .i64 ((sumP (l.take i)+x.i:Nat):Int)),(7, .pointer (some ⟨b7,0,none⟩)),(20, .slice (some ⟨ab,ao,none⟩) l.length cap),(21, .int .i64 l.length),(22, .int .i64 i),(27, .slice PA o.procs.length pc),(28, .int .i64 o.procs.length),(29, .int .i64 x.i)]) (fun _=>G)
  (fun x=>[.blk b7 (.cells #[.string o.path, .slice CA o.consts.length cc, .slice NA o.needs.length nc, .slice PA o.procs.length pc] 38 (0,0)), .blk bm (.map x.es x.ck),pgmB b2 none none none 0 0 0 0 0 0,pgmB b3 none none none 0 0 0 0 0 0]) (fun x=>o.procs.length - x.i)
  (fun x=>x.i≤o.procs.length∧MK kyV x.es x.ck x.m∧AtM x.m (allPr (l.take i)++(o.procs.take x.i).map fun p=>(o.path,p))) ⟨0,es,ck,m⟩ ⟨Nat.zero_le _,hM,by dsimp only;rw[List.take_zero,List.map_nil,List.append_nil];exact hA⟩ (by exact⟨rfl,rfl,rfl,rfl,rfl,rfl,rfl,rfl,rfl,rfl,rfl,rfl,trivial⟩) rfl (List.Sublist.refl _) fun x hx=>?_
 obtain⟨j,es,ck,m⟩:=x
 obtain⟨hj,hM,hA⟩:=hx
 dsimp only at hj hM hA
 have y2:=wrapS j (by omega)
 by_cases hjl:j<o.procs.length
 rotate_left
 ·have e4:decide ((j:Int)<(o.procs.length:Int))=false:=decide_eq_false (by omega)
  obtain rfl:j=o.procs.length:=by omega
  refine gom ?_
  refine WK.pick [.blk bm (.map es ck),pgmB b2 none none none 0 0 0 0 0 0,pgmB b3 none none none 0 0 0 0 0 0] ?_
  exact WK.again ⟨i+1,es,ck,m⟩ (by dsimp only;omega) ⟨by show i+1≤_;omega,hM,by dsimp only;rw[htk,all_snoc];rw[List.take_length]at hA;exact hA⟩ (by exact⟨rfl,rfl,rfl,rfl,by rw[hsum];rfl,rfl,rfl,rfl,trivial⟩) rfl (List.Sublist.refl _)
 have e4:decide ((j:Int)<(o.procs.length:Int))=true:=decide_eq_true (by omega)
 obtain⟨p,hp⟩:∃p,o.procs[j]? =some p:=⟨_,List.getElem?_eq_getElem hjl⟩
 have y0:(0:Int)≤(j:Int):=by omega
 have y1:(j:Int)<(o.procs.length:Int):=by omega
 obtain⟨pb,po,cs2,rfl,hks2,hcs2⟩:=hO.procs j p hp
 obtain⟨QA,qc,IA,ic,rfl,hQ,hI⟩:=hks2
 have hlenA:(allPr (l.take i)++(o.procs.take j).map fun p=>(o.path,p)).length=sumP (l.take i)+j:=by rw[List.length_append,all_len,List.length_map,List.length_take];omega
 have hA1:=hA.snoc o.path p
 rw[hlenA,List.append_assoc]at hA1
 have hw3:IntKind.i64.wrap (((sumP (l.take i)+j:Nat):Int)+1)=((sumP (l.take i)+(j+1):Nat):Int):=wrapS _ (by omega)
 refine gom ?_
 refine WL.oo (OW.alloc rfl fun b9=>?_)
 refine gom ?_
 refine WL.oo (OW.mapSetK (emb:=kyV) (key:=(o.path,p.name)) (kt:=140) rfl rfl rfl atA hM rfl fun es2 ck2 hM2=>?_)
 refine gom ?_
 refine WK.pick [.blk b7 (.cells #[.string o.path, .slice CA o.consts.length cc, .slice NA o.needs.length nc, .slice (some ⟨pb,po,none⟩) o.procs.length pc] 38 (0,0)), .blk bm (.map es2 ck2),pgmB b2 none none none 0 0 0 0 0 0,pgmB b3 none none none 0 0 0 0 0 0] ?_
 exact WK.again ⟨j+1,es2,ck2,_⟩ (by dsimp only;omega) ⟨by show j+1≤_;omega,hM2,by dsimp only;rw[take_snoc' hp,List.map_append];exact hA1⟩ (by exact⟨rfl,rfl,rfl,rfl,rfl,rfl,rfl,rfl,rfl,rfl,rfl,rfl,trivial⟩) rfl (List.Sublist.refl _)
end
section
open Go.MapKept
attribute [local irreducible] Tryz.prog expL metL atL allPr joinP joinT' ptsO sumP sumC objAns
theorem errL_at:∀ {l:List Ob} {i:Nat} {o:Ob},(∀(j:Nat) y,j<i→l[j]? =some y→(objAns y).2.2=0)→l[i]? =some o→(objAns o).2.2≠0→errL l=(objAns o).2.2
 | [],i,o,_,h,_=>by simp at h
 | a::r,0,o,_,h,h1=>by
  simp at h;subst h
  unfold errL;rw[if_pos h1]
 | a::r,i+1,o,h0,h,h1=>by
  have ha:=h0 0 a (by omega) rfl
  unfold errL
  rw[if_neg (by simpa using ha)]
  exact errL_at (i:=i) (fun j y hj hy=>h0 (j+1) y (by omega) (by simpa using hy)) (by simpa using h) h1
def LinkP (G:Gh) (l:List Ob) (e:Ending) (G':Gh) (H':List Own):Prop:=
 G.le G'∧((linkE l≠0∧e= .returned (.tuple #[.agg #[.slice none 0 0, .slice none 0 0, .slice none 0 0], .int .i64 (linkE l)])∧H'=[])∨
  (linkE l=0∧∃CA cc PA pc QA qc x1 x2 x3,e= .returned (.tuple #[.agg #[.slice CA (l.flatMap (·.consts)).length cc, .slice PA (joinP (allPr l) l 0 0).length pc, .slice QA (joinT' l 0).length qc], .int .i64 0])∧
   KVec Kd.val 52 G' CA cc (l.flatMap (·.consts)) x1∧KVec Kd.prc 47 G' PA pc (joinP (allPr l) l 0 0) x2∧KVec Kd.pnt 54 G' QA qc (joinT' l 0) x3∧H'=[x1,x2,x3]))
structure LK where
 i:Nat
 G:Gh
structure LP where
 i:Nat
 pes:Array MapEntry
 pck:Nat
 pm:List (ByteArray×Value)
theorem sumP_snoc {l:List Ob} {i:Nat} {o:Ob} (h:l[i]? =some o):sumP (l.take (i+1))=sumP (l.take i)+o.procs.length:=by rw[take_snoc' h];unfold sumP;simp
theorem sumC_snoc {l:List Ob} {i:Nat} {o:Ob} (h:l[i]? =some o):sumC (l.take (i+1))=sumC (l.take i)+o.consts.length:=by rw[take_snoc' h];unfold sumC;simp
set_option maxRecDepth 20000 in
set_option maxHeartbeats 4000000 in
theorem Link_fn (G:Gh) (hE:Env G) (A:Option Addr) (cap:Nat) (l:List Ob) (hl:Sl Kd.ob G A l) (hL:LLim l):
  Fn Tryz.prog 12 #[.slice A l.length cap] G [] (LinkP G l):=by
 have hlen:=hL.len
 have hsp:=hL.sumP
 have hsc:=hL.sumC
 refine Fn.enter Tryz.func12 rfl rfl fun w0=>?_
 refine WC.seq ?_
 refine WC.region ?_
 refine WL.oo (OW.alloc rfl fun b2=>?_)
 refine gom ?_
 refine WL.oo (OW.makeMap rfl fun bm=>?_)
 refine gom ?_
 refine WC.loop (X:=LK) (fun x=>[(0, .slice A l.length cap),(2, .pointer (some ⟨b2,0,none⟩)),(4, .map (some bm)),(5, .int .i64 (sumP (l.take x.i):Int)),(6, .int .i64 (sumC (l.take x.i):Int)),(14, .slice A l.length cap),(15, .int .i64 l.length),(16, .int .i64 x.i)]) (fun x=>x.G) (fun x=>[.blk bm (.map #[] 0),pgmB b2 none none none 0 0 0 0 0 0]) (fun x=>l.length - x.i)
  (fun x=>x.i≤l.length∧G.le x.G∧∀(j:Nat) y,j<x.i→l[j]? =some y→(objAns y).2.2=0) ⟨0,G⟩ ⟨Nat.zero_le _,Gh.le_refl _,fun j y h=>absurd h (Nat.not_lt_zero _)⟩ (by exact⟨rfl,rfl,rfl,by rw[List.take_zero,show sumP []=0 by unfold sumP;rfl];rfl,by rw[List.take_zero,show sumC []=0 by unfold sumC;rfl];rfl,rfl,rfl,rfl,trivial⟩) rfl (List.Sublist.refl _) fun x hx=>?_
 obtain⟨i,G1⟩:=x
 obtain⟨hi,hg1,hok⟩:=hx
 dsimp only at hi hg1 hok
 have x2:=wrapS i (by omega)
 by_cases hlt:i<l.length
 rotate_left
 ·have e2:decide ((i:Int)<(l.length:Int))=false:=decide_eq_false (by omega)
  have hil:i=l.length:=by omega
  have hall:∀o∈l,(objAns o).2.2=0:=fun o ho=>by obtain⟨j,hj⟩:=List.mem_iff_getElem?.1 ho;exact hok j o (by have:=(List.getElem?_eq_some_iff.1 hj).1;omega) hj
  have hz:=errL_zero.2 hall
  refine gom ?_
  rw[List.take_of_length_le (show l.length≤i by omega)]
  refine WC.loop (X:=LP) (fun x=>[(0, .slice A l.length cap),(2, .pointer (some ⟨b2,0,none⟩)),(4, .map (some bm)),(5, .int .i64 (sumP l:Int)),(6, .int .i64 (sumC l:Int)),(40, .slice A l.length cap),(41, .int .i64 l.length),(42, .int .i64 x.i)]) (fun _=>G1) (fun x=>[.blk bm (.map x.pes x.pck),pgmB b2 none none none 0 0 0 0 0 0]) (fun x=>l.length - x.i)
   (fun x=>x.i≤l.length∧MRel Value.string .string x.pes x.pck x.pm∧CntM x.pm ((l.take x.i).map (·.path))∧((l.take x.i).map (·.path)).Nodup) ⟨0, #[],0,[]⟩ ⟨Nat.zero_le _,MRel.empty,CntM.nil,by simp⟩ (by exact⟨rfl,rfl,rfl,rfl,rfl,rfl,rfl,rfl,trivial⟩) rfl (List.Sublist.refl _) fun x hx=>?_
  obtain⟨i,pes,pck,pm⟩:=x
  obtain⟨hi,hP,hN,hnd⟩:=hx
  dsimp only at hi hP hN hnd
  have x2:=wrapS i (by omega)
  by_cases hlt:i<l.length
  rotate_left
  ·have e2:decide ((i:Int)<(l.length:Int))=false:=decide_eq_false (by omega)
   rw[List.take_of_length_le (by omega)]at hnd
   refine gom ?_
   refine WL.oo (OW.callK rfl (Missing_fn G1 A cap l (hl.mono hg1) hL) rfl fun v' G' H' h hg=>?_)
   obtain⟨MA,mc,xm,he,hg2,hK,rfl⟩:=h
   cases he
   have hmu:IntKind.i64.wrap 0=0:=rfl
   by_cases hm:missL l=[]
   rotate_left
   ·have e5:decide (0<((missL l).length:Int))=true:=decide_eq_true (by have:=List.length_pos_iff.2 hm;omega)
    have hle:linkE l=221:=linkE_miss.2 ⟨hall,hnd,hm⟩
    refine gom ?_
    refine WC.rt ?_
    exact QF.p2 (.inl rfl) rfl (.cell rfl inferInstance inferInstance atA rfl rfl) (.tmp rfl) (⟨Gh.le_trans hg1 hg2, .inl ⟨by rw[hle];decide,by rw[hle];rfl,rfl⟩⟩)
   have e5:decide (0<((missL l).length:Int))=false:=decide_eq_false (by rw[hm];decide)
   by_cases h1:4096<sumP l
   ·have e6:decide ((4096:Int)<(sumP l:Int))=true:=decide_eq_true (by omega)
    have hle:linkE l=53:=by unfold linkE;rw[if_neg (by simpa using hz),if_neg (by simpa using hnd),if_neg (by simpa using hm),if_pos (.inl h1)]
    refine gom ?_
    refine WC.rt ?_
    exact QF.p2 (.inl rfl) rfl (.cell rfl inferInstance inferInstance atA rfl rfl) (.tmp rfl) (⟨Gh.le_trans hg1 hg2, .inl ⟨by rw[hle];decide,by rw[hle];rfl,rfl⟩⟩)
   have e6:decide ((4096:Int)<(sumP l:Int))=false:=decide_eq_false (by omega)
   by_cases h2:65536<sumC l
   ·have e7:decide ((65536:Int)<(sumC l:Int))=true:=decide_eq_true (by omega)
    have hle:linkE l=53:=by unfold linkE;rw[if_neg (by simpa using hz),if_neg (by simpa using hnd),if_neg (by simpa using hm),if_pos (.inr h2)]
    refine gom ?_
    refine WC.rt ?_
    exact QF.p2 (.inl rfl) rfl (.cell rfl inferInstance inferInstance atA rfl rfl) (.tmp rfl) (⟨Gh.le_trans hg1 hg2, .inl ⟨by rw[hle];decide,by rw[hle];rfl,rfl⟩⟩)
   have e7:decide ((65536:Int)<(sumC l:Int))=false:=decide_eq_false (by omega)
   have hle:linkE l=0:=by unfold linkE;rw[if_neg (by simpa using hz),if_neg (by simpa using hnd),if_neg (by simpa using hm),if_neg (by omega)]
   refine gom ?_
   refine WL.pick [pgmB b2 none none none 0 0 0 0 0 0] ?_
   refine WL.oo (OW.callK rfl (ojoined_fn _ A cap l (hl.mono (Gh.le_trans hg1 hg2)) hL hall) rfl fun v' G' H' h hg=>?_)
   obtain⟨CA,cc,PA,pc,QA,qc,y1,y2,y3,he,hg3,k1,k2,k3,rfl⟩:=h
   cases he
   refine gom ?_
   refine WC.rt ?_
   exact QF.p2 (.inl rfl) rfl (.cell rfl inferInstance inferInstance atA rfl rfl) (.tmp rfl) (⟨Gh.le_trans hg1 (Gh.le_trans hg2 hg3), .inr ⟨hle,CA,cc,PA,pc,QA,qc,y1,y2,y3,rfl,k1,k2,k3,rfl⟩⟩)
  have e2:decide ((i:Int)<(l.length:Int))=true:=decide_eq_true (by omega)
  obtain⟨o,ho⟩:∃o,l[i]? =some o:=⟨_,List.getElem?_eq_getElem (by omega)⟩
  have x0:(0:Int)≤(i:Int):=by omega
  have x1:(i:Int)<(l.length:Int):=by omega
  have hl1:=hl.mono hg1
  obtain⟨ab,ao,cs,rfl,hks,hcs⟩:=hl1 i o ho
  obtain⟨CA,cc,NA,nc,PA,pc,rfl,hO⟩:=hks
  have hmap:(l.take (i+1)).map (·.path)=(l.take i).map (·.path)++[o.path]:=by rw[take_snoc' ho,List.map_append];rfl
  obtain⟨N,hNe⟩:∃N,N=cntS ((l.take i).map (·.path)) o.path:=⟨_,rfl⟩
  have hNl:N≤1048576:=by have:=cntS_le ((l.take i).map (·.path)) o.path;rw[←hNe]at this;simp at this;omega
  have hNv:=hN o.path
  rw[←hNe]at hNv
  have hw:=wrapS N (by omega)
  have hN1:=hN.snoc o.path
  rw[←hNe,←hmap]at hN1
  refine gom ?_
  refine WL.oo (OW.alloc rfl fun b12=>?_)
  refine gom ?_
  refine WL.vv (Gv.lookup (emb:=Value.string) (z:= .int .i64 0) rfl rfl atA hP hNv) ?_
  refine gom ?_
  refine WL.oo (OW.mapSet (emb:=Value.string) rfl rfl rfl atA hP rfl fun pes1 pck1 hP1=>?_)
  refine gom ?_
  refine WL.vv (Gv.lookup (emb:=Value.string) (z:= .int .i64 0) (v:= .int .i64 ((N+1:Nat):Int)) rfl rfl atA hP1 (by rw[getA_setA];rfl)) ?_
  by_cases hin:o.path∈(l.take i).map (·.path)
  ·have hN0:N≠0:=fun e=>by rw[e]at hNe;exact cntS_zero.1 hNe.symm hin
   have e3:decide ((1:Int)<((N+1:Nat):Int))=true:=decide_eq_true (by omega)
   have hnn:¬(l.map (·.path)).Nodup:=fun h=>by
    have h1:((l.take (i+1)).map (·.path)).Nodup:=h.sublist ((List.take_sublist _ _).map _)
    rw[hmap,List.nodup_append]at h1
    exact h1.2.2 _ hin _ (by simp) rfl
   have hle:linkE l=222:=by unfold linkE;rw[if_neg (by simpa using hz),if_pos hnn]
   refine gom ?_
   refine WC.rt ?_
   exact QF.p2 (.inl rfl) rfl (.cell rfl inferInstance inferInstance atA rfl rfl) (.tmp rfl) (⟨hg1, .inl ⟨by rw[hle];decide,by rw[hle];rfl,rfl⟩⟩)
  have hN0:N=0:=by rw[hNe];exact cntS_zero.2 hin
  have e3:decide ((1:Int)<((N+1:Nat):Int))=false:=decide_eq_false (by omega)
  have hnd1:((l.take (i+1)).map (·.path)).Nodup:=by
   rw[hmap,List.nodup_append]
   refine⟨hnd,by simp,fun a ha b hb e=>?_⟩
   obtain rfl:b=o.path:=by simpa using hb
   exact hin (e▸ha)
  refine gom ?_
  refine WK.pick [.blk bm (.map pes1 pck1),pgmB b2 none none none 0 0 0 0 0 0] ?_
  exact WK.again ⟨i+1,pes1,pck1,_⟩ (by dsimp only;omega) ⟨by show i+1≤_;omega,hP1,hN1,hnd1⟩ (by exact⟨rfl,rfl,rfl,rfl,rfl,rfl,rfl,rfl,trivial⟩) rfl (List.Sublist.refl _)
 have e2:decide ((i:Int)<(l.length:Int))=true:=decide_eq_true (by omega)
 obtain⟨o,ho⟩:∃o,l[i]? =some o:=⟨_,List.getElem?_eq_getElem (by omega)⟩
 have hom:=List.mem_of_getElem? ho
 have x0:(0:Int)≤(i:Int):=by omega
 have x1:(i:Int)<(l.length:Int):=by omega
 have hl1:=hl.mono hg1
 obtain⟨ab,ao,cs,rfl,hks,hcs⟩:=hl1 i o ho
 obtain⟨CA,cc,NA,nc,PA,pc,rfl,hO⟩:=hks
 have s1:=sumP_snoc ho
 have s2:=sumC_snoc ho
 have s3:=sumP_take_le l (i+1)
 have s4:=sumC_take_le l (i+1)
 have w1:IntKind.i64.wrap ((sumP (l.take i):Int)+(o.procs.length:Int))=(sumP (l.take (i+1)):Int):=by rw[wrapI (by omega) (by omega)];omega
 have w2:IntKind.i64.wrap ((sumC (l.take i):Int)+(o.consts.length:Int))=(sumC (l.take (i+1)):Int):=by rw[wrapI (by omega) (by omega)];omega
 refine gom ?_
 refine WL.oo (OW.alloc rfl fun b8=>?_)
 refine gom ?_
 refine WL.oo (OW.callK rfl (Object_fn G1 (hE.mono hg1) o CA NA PA cc nc pc hO (hL.lim o hom)) rfl fun v' G' H' h hg=>?_)
 obtain⟨he,hg2,rfl⟩:=h
 cases he
 refine gom ?_
 refine WL.oo (OW.alloc rfl fun b9=>?_)
 by_cases hz:(objAns o).2.2=0
 rotate_left
 ·have e3:((objAns o).2.2 != 0)=true:=by simpa using hz
  have hle:linkE l=(objAns o).2.2:=by unfold linkE;rw[errL_at hok ho hz,if_pos hz]
  refine gom ?_
  refine WC.rt ?_
  exact QF.p2 (.inl rfl) rfl (.cell rfl inferInstance inferInstance atA rfl rfl) (.tmp rfl) (⟨Gh.le_trans hg1 hg2, .inl ⟨by rw[hle];exact hz,by rw[hle];rfl,rfl⟩⟩)
 have e3:((objAns o).2.2 != 0)=false:=by simpa using hz
 refine gom ?_
 refine WK.pick [.blk bm (.map #[] 0),pgmB b2 none none none 0 0 0 0 0 0] ?_
 exact WK.again ⟨i+1,_⟩ (by dsimp only;omega) ⟨by show i+1≤_;omega,Gh.le_trans hg1 hg2,fun j y hj hy=>by
  rcases Nat.lt_or_ge j i with h | h
  ·exact hok j y h hy
  ·obtain rfl:j=i:=by dsimp only at hj;omega
   rw[ho]at hy;cases hy;exact hz⟩ (by exact⟨rfl,rfl,rfl,rfl,rfl,rfl,rfl,rfl,trivial⟩) rfl (List.Sublist.refl _)
end
section
open Go.MapKept
section
variable {P:Program} {Q:Exit→Act→World→Prop} {cx:Cx} {L:List (Nat×Value)} {G:Gh} {H:List Own} {K:List (Nat×Value)→Gh→List Own→Prop}
 {d:Option Tmp} {ty:TypeId} {pos:String} {af:Array Edge} {gu:Option (Nat×Bool)}
theorem OW.appendStr {t u e:TypeId} {x y:Operand} {A:Option Addr} {n cap j:Nat} {cs:List Value} {s:ByteArray} {o:Own} (hx:ev L x=some (.slice A n cap)) (hy:ev L y=some (.string s)) [hu:Und P t (.slice e)] [hu2:Und P u .string] [hi:Inf P e 1 1 (.int .u8 0)]
  (hv:Vec e 1 A n cap cs o) (hj:At H j o) (hb:n+s.size≤140737488355328) (hd:dOk d cx.N=true)
  (k:∀A' cap' o',Vec e 1 A' (n+s.size) cap' (cs++Lib.strCells s) o'→K (putL d (.slice A' (n+s.size) cap') L) G (H.set j o')):
  OW P Q ⟨d, .call { callee:= .builtin .append,args:= #[x,y],argTypes:= #[t,u] },ty,pos,af,gu⟩ cx L G H K:=by
 refine OW.gives hd fun a w st=>?_
 obtain⟨ie,hi1,hi2,hi3,hi4⟩:=hi.info
 have hu':=hu.h
 have hu2':=hu2.h
 have hl:=Lib.strCells_length s
 have h1:=Lib.strCells_oneCell s
 have hrun:∀v w',(Builtin.append_ #[t,u] ty #[.slice A n cap, .string s]).run P w= .ok v w'→(execOp a.eval ⟨d, .call { callee:= .builtin .append,args:= #[x,y],argTypes:= #[t,u] },ty,pos,af,gu⟩).run P w= .ok (.value v) w':=by
  intro v w' h
  simp only[execOp,resolve,invoke,builtin,Sem.run_bind,Sem.run_pure,Result.andThen_ok,List.map_toArray,List.map_cons,List.map_nil,st.eval hx,st.eval hy,h]
 by_cases hm:s.size=0
 ·have hn:Lib.strCells s=[]:=List.eq_nil_of_length_eq_zero (by rw[hl,hm])
  have hda:s.data= #[]:=Array.eq_empty_of_size_eq_zero hm
  refine⟨.slice A n cap,w,G,H, .inl (hrun _ _ ?_),st.sat,Stp.drew rfl,?_⟩
  ·have hle:=hv.le
   cases A with
   | none=>simp[Builtin.append_,run_underlying hu',run_underlying hu2',sizeOf,typeInfo,hi1,Builtin.lenOf,Builtin.firstCells,hle,hm,hda]
   | some ad=>simp[Builtin.append_,run_underlying hu',run_underlying hu2',sizeOf,typeInfo,hi1,Builtin.lenOf,Builtin.firstCells,hle,hm,hda,storeCells]
  ·have:=k A cap o (by rw[hm,hn,List.append_nil];exact hv)
   rw[set_same H j o hj.get,hm]at this
   exact this
 ·have hm0:0<s.size:=by omega
  have hcl:=hv.1
  obtain⟨_,⟨rfl,rfl,rfl,rfl⟩ | ⟨b,c,rfl,rfl,hnc,hcs,htk⟩⟩:=hv
  ·have hcs0:cs=[]:=List.eq_nil_of_length_eq_zero (by simpa using hcl)
   subst hcs0
   have hr:=run_append_nil_string (P:=P) w t u ty e ie (.int .u8 0) hu' hu2' hi1 hi2 s hm0 (by omega) (by rw[hi4];omega)
   have hg:=grownCap_ge w s.size 0 e
   have hsw:=st.sat.swap hj (.cells (s.data.map (fun b=>Value.int .u8 b.toNat)++Builtin.zeroCells (Value.int .u8 0).cells (grownCap w s.size 0 e - s.size)) e) rfl
   have hz:(Value.int IntKind.u8 0).cells.size=1:=rfl
   have hcl':(s.data.map (fun b=>Value.int IntKind.u8 b.toNat)).size=s.size:=by rw[Array.size_map];rfl
   refine⟨_,_,G,_, .inl (hrun _ _ hr),hsw.1,hsw.2,?_⟩
   have:=k (some ⟨w.heap.size,0,none⟩) (grownCap w s.size 0 e) (.blk w.heap.size (.cells (s.data.map (fun b=>Value.int .u8 b.toNat)++Builtin.zeroCells (Value.int .u8 0).cells (grownCap w s.size 0 e - s.size)) e)) ⟨by simp[hl], .inr ⟨_,_,rfl,rfl,by omega,?_,?_⟩⟩
   ·simpa using this
   ·rw[Array.size_append,hcl',zeroCells_size hz];omega
   ·have he:(s.data.map (fun b=>Value.int IntKind.u8 b.toNat)).toList=Lib.strCells s:=by simp[Lib.strCells]
    simp only[Array.toList_append,List.nil_append,Nat.zero_add,he]
    rw[Nat.mul_one,←hl];exact List.take_left
  ·have hbw:w.heap[b]? =some (.cells c e (0,0)):=st.sat.hold _ (List.mem_of_getElem? hj.get)
   by_cases hroom:n+s.size≤cap
   ·have hfit:n+(Lib.strCells s).length≤c.size:=by rw[hl,hcs];omega
    have hr:=Lib.run_append_room_string (P:=P) w t u ty e ie hu' hu2' hi1 hi3 b n cap c hbw s hroom (by rw[hl]at hfit;exact hfit)
    have hsp:=st.sat.splice (o:=n) (cs:=Lib.strCells s) hj hfit
    have hrow:(List.take n c.toList++Lib.strCells s++List.drop (n+s.size) c.toList).toArray=splice c n (Lib.strCells s):=by unfold splice;rw[hl]
    rw[hrow]at hr
    refine⟨_,_,G,_, .inl (hrun _ _ hr),hsp.1,hsp.2,k _ _ _ ⟨by rw[List.length_append,hcl,hl,Nat.add_mul];omega, .inr ⟨b,_,rfl,rfl,hroom,by rw[size_splice hfit,hcs],?_⟩⟩⟩
    simp only[splice]
    rw[Nat.mul_one]at htk
    rw[htk,show(n+s.size)*1=(cs++Lib.strCells s).length by rw[List.length_append,hcl,hl];omega]
    exact List.take_left
   ·have holds:∀j v,cs[j]? =some v→w.cell? ((⟨b,0,none⟩:Addr).add j)=some v:=fun j v e=>by
     rw[cell_add,cell_of_row w b _ c _ _ hbw,←htk]at*
     rw[List.getElem?_take]at e
     split at e
     ·simpa using e
     ·cases e
    have hr:=Lib.run_append_grow_string (P:=P) w t u ty e ie (.int .u8 0) hu' hu2' hi1 hi2 ⟨b,0,none⟩ n cap cs (by rw[hi3];exact hcl) holds s (by omega) (by omega) (growslice_fits (by omega) (by rw[hi4];omega))
    have hg:=grownCap_ge w (n+s.size) cap e
    have hsw:=st.sat.swap hj (.cells (cs.toArray++(Lib.strCells s).toArray++Builtin.zeroCells (Value.int .u8 0).cells (grownCap w (n+s.size) cap e - (n+s.size))) e) rfl
    have hz:(Value.int IntKind.u8 0).cells.size=1:=rfl
    refine⟨_,_,G,_, .inl (hrun _ _ hr),hsw.1,hsw.2,k _ _ _ ⟨by rw[List.length_append,hcl,hl,Nat.add_mul];omega, .inr ⟨_,_,rfl,rfl,hg,?_,?_⟩⟩⟩
    ·simp only[Array.size_append,List.size_toArray,zeroCells_size hz,hl,hcl];omega
    ·simp only[Array.toList_append]
     rw[show(n+s.size)*1=(cs++Lib.strCells s).length by rw[List.length_append,hcl,hl];omega]
     exact List.take_left
end
def strI (s:ByteArray):List Int:=s.data.toList.map fun b=>(b.toNat:Int)
theorem strI_length (s:ByteArray):(strI s).length=s.size:=by rw[strI,List.length_map,Array.length_toList];rfl
theorem strI_cells (s:ByteArray):Lib.strCells s=u8s (strI s):=by simp[Lib.strCells,u8s,strI]
theorem BVec.str {A:Option Addr} {l:List Int} {cap:Nat} {x:Own} {s:ByteArray} (h:Vec 5 1 A (l.length+s.size) cap (u8s l++Lib.strCells s) x):BVec A (l++strI s) cap x:=by
 unfold BVec;rw[u8s_append,List.length_append,strI_length,←strI_cells];exact h
theorem BVec.more {A:Option Addr} {l m:List Int} {cap:Nat} {x:Own} (h:Vec 5 1 A (l.length+m.length) cap (u8s l++u8s m) x):BVec A (l++m) cap x:=by
 unfold BVec;rw[u8s_append,List.length_append];exact h
end
end Go.Proofs.YtcnlkfocbbkdhaaGreatDoor.Gb
