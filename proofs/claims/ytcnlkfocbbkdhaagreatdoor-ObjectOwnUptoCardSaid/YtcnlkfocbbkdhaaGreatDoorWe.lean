/- Paths: walked. A procedure's head, an object's head: walked. All procedures of a world: walked. All procedures of a world: walked. Objects, what is ahead of their instructions: walked. Layer 22: what objects come to when they are put together (no program in sight). Slices of ours whose elements have parts that stay. Maps whose keys are structs. Layer 22: what is exported, laid up by path and name (no program in sight). Layer 22: linked code is verified as it was (no program in sight). What is ahead of a procedure's instructions: walked. Heights and Types: walked. Verified code does not get stuck: the law, no program in sight. The least states are there; what is known of an object that was taken: no program in sight. Layer 22: what is linked of verified objects is verified (no program in sight). Layer 22: one more exported procedure among those laid up (no program in sight). Layer 22: a path and a name as a key. Layer 22: exported, walked. slices.IndexFunc and slices.ContainsFunc, walked. Layer 22: needs met, and missing: walked. -/
import Derived.Test.YtcnlkfocbbkdhaaGreatDoorWd
import Derived.Laws.StructEq
set_option linter.unusedVariables false
set_option linter.unusedSimpArgs false
set_option linter.unusedSectionVars false
namespace Go.Proofs.YtcnlkfocbbkdhaaGreatDoor.Gb
open Go Go.Proofs
section
attribute [local irreducible] Tryz.prog
def slashL (s:ByteArray):List ByteArray:=Lib.splitB ⟨#[47]⟩ 0 (Lib.countB s ⟨#[47]⟩) s
theorem slashL_length (s:ByteArray):(slashL s).length=Lib.countB s ⟨#[47]⟩+1:=Lib.splitB_all ⟨#[47]⟩ (by decide) 0 _ s rfl
theorem Cs.strs {G:Gh} {b:Nat} {l:List ByteArray} (h:Cs G b 0 (l.map Value.string)):Sl Kd.str G (some ⟨b,0,none⟩) l:=fun i x hx=>⟨b,0,[.string x],rfl,rfl,fun j v e=>by
 have h1:=h i (.string x) (by rw[List.getElem?_map,hx];rfl)
 cases j with
 | zero=>simp at e;subst e;show G b (0+i*1+0)=_;rw[Nat.mul_one,Nat.add_zero];exact h1
 | succ j=>simp at e⟩
theorem split_fn (G:Gh) (hE:Env G) (s:ByteArray) (hl:s.size≤4000000000):
  Fn Tryz.prog 180 #[.string s, .string ⟨#[47]⟩] G [] fun e G' H'=>∃A,e= .returned (.slice A (slashL s).length (slashL s).length)∧G.le G'∧Sl Kd.str G' A (slashL s)∧H'=[]:=fun w hs _=>by
 obtain⟨m,hm⟩:=hE.mxl
 refine(Tryz.strings_Split s ⟨#[47]⟩ m w (by omega) (hs.cell0 hm) (by decide)).mono fun e w' ⟨he,hw⟩=>?_
 subst hw
 have hal:=hs.alloc (.cells ((slashL s).map Value.string).toArray 9)
 have hst:Stp (covs []) G w G (.blk w.heap.size (.cells ((slashL s).map Value.string).toArray 9 (0,0))::[]) (w.alloc (.cells ((slashL s).map Value.string).toArray 9)):=Stp.alloc _
 have hfr:=hal.frozen .here
 refine⟨_,[],⟨some ⟨w.heap.size,0,none⟩,?_,hfr.1,Cs.strs fun i v e=>?_,rfl⟩,hfr.2,⟨hst.size,hst.keep,hfr.1,fun b o v e=>?_,fun x hx=>(by cases hx),hst.weq⟩⟩
 ·rw[he,slashL_length]
 ·rw[Nat.zero_add,Gh.add_at];simpa using e
 ·unfold Gh.add at e
  split at e
  ·rename_i hb;right;right;omega
  ·exact .inl e
def nameC (n:Int):Bool:=(decide (97≤n)&&decide (n≤122) || (decide (65≤n)&&decide (n≤90)) || (decide (48≤n)&&decide (n≤57))) || (n==46 || n==95 || n==45)
def nameR (s:ByteArray):Bool:=decide (1≤s.size)&&decide (s.size≤64)&& !(s==⟨#[46]⟩)&& !(s==⟨#[46,46]⟩)&&(bytesL s).all (fun c=>nameC c.toNat)
theorem splitB_size (sep:ByteArray):∀(k:Nat) (s:ByteArray) (x:ByteArray),x∈Lib.splitB sep 0 k s→x.size≤s.size
 | 0,s,x,h=>by rw[Lib.splitB_zero]at h;cases List.mem_singleton.mp h;exact Nat.le_refl _
 | k+1,s,x,h=>by
  rw[Lib.splitB]at h
  split at h
  ·cases List.mem_singleton.mp h;exact Nat.le_refl _
  ·rcases List.mem_cons.mp h with e | h
   ·rw[e,ByteArray.size_extract];omega
   ·have:=splitB_size sep k _ x h
    rw[ByteArray.size_extract]at this;omega
theorem nameB1 {n:Int} (h1:(n != 46)=true) (h2:(n != 95)=true) (h3:(n != 45)=true):(n==46 || n==95 || n==45)=false:=by
 simp only[bne_iff_ne,ne_eq]at h1 h2 h3
 simp[h1,h2,h3]
set_option maxHeartbeats 4000000 in
theorem name_fn (G:Gh) (s:ByteArray) (hl:s.size≤100000000000000):Fn Tryz.prog 181 #[.string s] G [] fun e G' H'=>e= .returned (.int .i64 (if nameR s then 0 else 42))∧G=G'∧H'=[]:=by
 have hbl:=bytesL_length s
 refine Fn.enter Tryz.func181 rfl rfl fun w0=>?_
 by_cases h1:s.size<1
 ·have y1:decide ((s.size:Int)<1)=true:=decide_eq_true (by omega)
  have hn:nameR s=false:=by unfold nameR;rw[decide_eq_false (show¬1≤s.size by omega)];rfl
  rw[hn]
  refine gom ?_
  refine WC.rt ?_
  exact QF.p1 (.inl rfl) rfl (.tmp rfl) (⟨rfl,rfl,rfl⟩)
 have y1:decide ((s.size:Int)<1)=false:=decide_eq_false (by omega)
 by_cases h2:64<s.size
 ·have y2:decide ((64:Int)<(s.size:Int))=true:=decide_eq_true (by omega)
  have hn:nameR s=false:=by unfold nameR;rw[decide_eq_false (show¬s.size≤64 by omega)];simp
  rw[hn]
  refine gom ?_
  refine WC.rt ?_
  exact QF.p1 (.inl rfl) rfl (.tmp rfl) (⟨rfl,rfl,rfl⟩)
 have y2:decide ((64:Int)<(s.size:Int))=false:=decide_eq_false (by omega)
 cases h3:(s==⟨#[46]⟩)with
 | true=>
  have hn:nameR s=false:=by unfold nameR;rw[h3];simp
  rw[hn]
  refine gom ?_
  rw[h3]
  refine gom ?_
  refine WC.rt ?_
  exact QF.p1 (.inl rfl) rfl (.tmp rfl) (⟨rfl,rfl,rfl⟩)
 | false=>
 cases h4:(s==⟨#[46,46]⟩)with
 | true=>
  have hn:nameR s=false:=by unfold nameR;rw[h4];simp
  rw[hn]
  refine gom ?_
  rw[h3]
  refine gom ?_
  rw[h4]
  refine gom ?_
  refine WC.rt ?_
  exact QF.p1 (.inl rfl) rfl (.tmp rfl) (⟨rfl,rfl,rfl⟩)
 | false=>
 have hn:nameR s=(bytesL s).all (fun c=>nameC c.toNat):=by
  unfold nameR;rw[h3,h4,decide_eq_true (show 1≤s.size by omega),decide_eq_true (show s.size≤64 by omega)];simp
 rw[hn]
 refine gom ?_
 rw[h3]
 refine gom ?_
 rw[h4]
 refine gom ?_
 refine WC.loop (X:=Nat) (fun i=>[(0, .string s),(23, .int .i64 s.size),(24, .int .i64 i)]) (fun _=>G) (fun _=>[]) (fun i=>s.size - i) (fun i=>i≤s.size∧∀j c,j<i→(bytesL s)[j]? =some c→nameC c.toNat=true) 0 ⟨Nat.zero_le _,fun j c h=>by omega⟩ (by exact⟨rfl,rfl,rfl,trivial⟩) rfl (List.Sublist.refl _) fun i hx=>?_
 obtain⟨hi,hall⟩:=hx
 have x2:=wrapS i (by omega)
 by_cases hlt:i<s.size
 rotate_left
 ·have e2:decide ((i:Int)<(s.size:Int))=false:=decide_eq_false (by omega)
  refine gom ?_
  refine WC.rt ?_
  exact QF.p1 (.inl rfl) rfl (.tmp rfl) (⟨by rw[all_of (f:=fun c:UInt8=>nameC c.toNat) hall (by omega)];rfl,rfl,rfl⟩)
 have e2:decide ((i:Int)<(s.size:Int))=true:=decide_eq_true (by omega)
 obtain⟨c,hc⟩:∃c,(bytesL s)[i]? =some c:=⟨_,List.getElem?_eq_getElem (by omega)⟩
 refine gom ?_
 refine WL.pp (Gp.indexS rfl rfl (by omega) hc) ?_
 refine WL.p (Gp.assign rfl) kr rfl ?_
 obtain⟨n,hnn⟩:∃n:Int,n=(c.toNat:Int):=⟨_,rfl⟩
 rw[←hnn]
 have good:nameC n=true→∀j d,j<i+1→(bytesL s)[j]? =some d→nameC d.toNat=true:=fun hg=>all_step (f:=fun c:UInt8=>nameC c.toNat) hc hall (by rw[←hnn];exact hg)
 have bad:nameC n=false→(bytesL s).all (fun c=>nameC c.toNat)=false:=fun hg=>all_not (f:=fun c:UInt8=>nameC c.toNat) hc (by rw[←hnn];exact hg)
 cases a1:decide (97≤n)with
 | true=>
  cases b1:decide (n≤122)with
  | true=>
   have hg:nameC n=true:=by unfold nameC;first | (rw[a1,b1];rfl) | (rw[a1,b1,a2,b2];rfl) | (rw[a1,a2,b2];rfl) | (rw[a1,b1,a2,b2,a3,b3];rfl) | (rw[a1,b1,a2,a3,b3];rfl) | (rw[a1,a2,b2,a3,b3];rfl) | (rw[a1,a2,a3,b3];rfl)
   refine gom ?_
   exact WK.again (i+1) (by omega) ⟨by omega,good hg⟩ (by exact⟨rfl,rfl,rfl,trivial⟩) rfl (List.Sublist.refl _)
  | false=>
   cases a2:decide (65≤n)with
   | true=>
    cases b2:decide (n≤90)with
    | true=>
     have hg:nameC n=true:=by unfold nameC;first | (rw[a1,b1];rfl) | (rw[a1,b1,a2,b2];rfl) | (rw[a1,a2,b2];rfl) | (rw[a1,b1,a2,b2,a3,b3];rfl) | (rw[a1,b1,a2,a3,b3];rfl) | (rw[a1,a2,b2,a3,b3];rfl) | (rw[a1,a2,a3,b3];rfl)
     refine gom ?_
     exact WK.again (i+1) (by omega) ⟨by omega,good hg⟩ (by exact⟨rfl,rfl,rfl,trivial⟩) rfl (List.Sublist.refl _)
    | false=>
     cases a3:decide (48≤n)with
     | true=>
      cases b3:decide (n≤57)with
      | true=>
       have hg:nameC n=true:=by unfold nameC;first | (rw[a1,b1];rfl) | (rw[a1,b1,a2,b2];rfl) | (rw[a1,a2,b2];rfl) | (rw[a1,b1,a2,b2,a3,b3];rfl) | (rw[a1,b1,a2,a3,b3];rfl) | (rw[a1,a2,b2,a3,b3];rfl) | (rw[a1,a2,a3,b3];rfl)
       refine gom ?_
       exact WK.again (i+1) (by omega) ⟨by omega,good hg⟩ (by exact⟨rfl,rfl,rfl,trivial⟩) rfl (List.Sublist.refl _)
      | false=>
       cases q46:(n != 46)with
       | false=>
        have hg : nameC n = true := by have:n=46:=by simpa using q46
                                       subst this;rfl
        refine gom ?_
        exact WK.again (i+1) (by omega) ⟨by omega,good hg⟩ (by exact⟨rfl,rfl,rfl,trivial⟩) rfl (List.Sublist.refl _)
       | true=>
       cases q95:(n != 95)with
       | false=>
        have hg : nameC n = true := by have:n=95:=by simpa using q95
                                       subst this;rfl
        refine gom ?_
        exact WK.again (i+1) (by omega) ⟨by omega,good hg⟩ (by exact⟨rfl,rfl,rfl,trivial⟩) rfl (List.Sublist.refl _)
       | true=>
       cases q45:(n != 45)with
       | false=>
        have hg : nameC n = true := by have:n=45:=by simpa using q45
                                       subst this;rfl
        refine gom ?_
        exact WK.again (i+1) (by omega) ⟨by omega,good hg⟩ (by exact⟨rfl,rfl,rfl,trivial⟩) rfl (List.Sublist.refl _)
       | true=>
       have hb:nameC n=false:=by unfold nameC;first | (rw[a1,b1,a2,b2,a3,b3,nameB1 q46 q95 q45];rfl) | (rw[a1,b1,a2,b2,a3,nameB1 q46 q95 q45];rfl) | (rw[a1,b1,a2,a3,b3,nameB1 q46 q95 q45];rfl) | (rw[a1,b1,a2,a3,nameB1 q46 q95 q45];rfl) | (rw[a1,a2,b2,a3,b3,nameB1 q46 q95 q45];rfl) | (rw[a1,a2,b2,a3,nameB1 q46 q95 q45];rfl) | (rw[a1,a2,a3,b3,nameB1 q46 q95 q45];rfl) | (rw[a1,a2,a3,nameB1 q46 q95 q45];rfl)
       refine gom ?_
       refine WC.rt ?_
       exact QF.p1 (.inl rfl) rfl (.tmp rfl) (⟨by rw[bad hb];rfl,rfl,rfl⟩)
     | false=>
      cases q46:(n != 46)with
      | false=>
       have hg : nameC n = true := by have:n=46:=by simpa using q46
                                      subst this;rfl
       refine gom ?_
       exact WK.again (i+1) (by omega) ⟨by omega,good hg⟩ (by exact⟨rfl,rfl,rfl,trivial⟩) rfl (List.Sublist.refl _)
      | true=>
      cases q95:(n != 95)with
      | false=>
       have hg : nameC n = true := by have:n=95:=by simpa using q95
                                      subst this;rfl
       refine gom ?_
       exact WK.again (i+1) (by omega) ⟨by omega,good hg⟩ (by exact⟨rfl,rfl,rfl,trivial⟩) rfl (List.Sublist.refl _)
      | true=>
      cases q45:(n != 45)with
      | false=>
       have hg : nameC n = true := by have:n=45:=by simpa using q45
                                      subst this;rfl
       refine gom ?_
       exact WK.again (i+1) (by omega) ⟨by omega,good hg⟩ (by exact⟨rfl,rfl,rfl,trivial⟩) rfl (List.Sublist.refl _)
      | true=>
      have hb:nameC n=false:=by unfold nameC;first | (rw[a1,b1,a2,b2,a3,b3,nameB1 q46 q95 q45];rfl) | (rw[a1,b1,a2,b2,a3,nameB1 q46 q95 q45];rfl) | (rw[a1,b1,a2,a3,b3,nameB1 q46 q95 q45];rfl) | (rw[a1,b1,a2,a3,nameB1 q46 q95 q45];rfl) | (rw[a1,a2,b2,a3,b3,nameB1 q46 q95 q45];rfl) | (rw[a1,a2,b2,a3,nameB1 q46 q95 q45];rfl) | (rw[a1,a2,a3,b3,nameB1 q46 q95 q45];rfl) | (rw[a1,a2,a3,nameB1 q46 q95 q45];rfl)
      refine gom ?_
      refine WC.rt ?_
      exact QF.p1 (.inl rfl) rfl (.tmp rfl) (⟨by rw[bad hb];rfl,rfl,rfl⟩)
   | false=>
    cases a3:decide (48≤n)with
    | true=>
     cases b3:decide (n≤57)with
     | true=>
      have hg:nameC n=true:=by unfold nameC;first | (rw[a1,b1];rfl) | (rw[a1,b1,a2,b2];rfl) | (rw[a1,a2,b2];rfl) | (rw[a1,b1,a2,b2,a3,b3];rfl) | (rw[a1,b1,a2,a3,b3];rfl) | (rw[a1,a2,b2,a3,b3];rfl) | (rw[a1,a2,a3,b3];rfl)
      refine gom ?_
      exact WK.again (i+1) (by omega) ⟨by omega,good hg⟩ (by exact⟨rfl,rfl,rfl,trivial⟩) rfl (List.Sublist.refl _)
     | false=>
      cases q46:(n != 46)with
      | false=>
       have hg : nameC n = true := by have:n=46:=by simpa using q46
                                      subst this;rfl
       refine gom ?_
       exact WK.again (i+1) (by omega) ⟨by omega,good hg⟩ (by exact⟨rfl,rfl,rfl,trivial⟩) rfl (List.Sublist.refl _)
      | true=>
      cases q95:(n != 95)with
      | false=>
       have hg : nameC n = true := by have:n=95:=by simpa using q95
                                      subst this;rfl
       refine gom ?_
       exact WK.again (i+1) (by omega) ⟨by omega,good hg⟩ (by exact⟨rfl,rfl,rfl,trivial⟩) rfl (List.Sublist.refl _)
      | true=>
      cases q45:(n != 45)with
      | false=>
       have hg : nameC n = true := by have:n=45:=by simpa using q45
                                      subst this;rfl
       refine gom ?_
       exact WK.again (i+1) (by omega) ⟨by omega,good hg⟩ (by exact⟨rfl,rfl,rfl,trivial⟩) rfl (List.Sublist.refl _)
      | true=>
      have hb:nameC n=false:=by unfold nameC;first | (rw[a1,b1,a2,b2,a3,b3,nameB1 q46 q95 q45];rfl) | (rw[a1,b1,a2,b2,a3,nameB1 q46 q95 q45];rfl) | (rw[a1,b1,a2,a3,b3,nameB1 q46 q95 q45];rfl) | (rw[a1,b1,a2,a3,nameB1 q46 q95 q45];rfl) | (rw[a1,a2,b2,a3,b3,nameB1 q46 q95 q45];rfl) | (rw[a1,a2,b2,a3,nameB1 q46 q95 q45];rfl) | (rw[a1,a2,a3,b3,nameB1 q46 q95 q45];rfl) | (rw[a1,a2,a3,nameB1 q46 q95 q45];rfl)
      refine gom ?_
      refine WC.rt ?_
      exact QF.p1 (.inl rfl) rfl (.tmp rfl) (⟨by rw[bad hb];rfl,rfl,rfl⟩)
    | false=>
     cases q46:(n != 46)with
     | false=>
      have hg : nameC n = true := by have:n=46:=by simpa using q46
                                     subst this;rfl
      refine gom ?_
      exact WK.again (i+1) (by omega) ⟨by omega,good hg⟩ (by exact⟨rfl,rfl,rfl,trivial⟩) rfl (List.Sublist.refl _)
     | true=>
     cases q95:(n != 95)with
     | false=>
      have hg : nameC n = true := by have:n=95:=by simpa using q95
                                     subst this;rfl
      refine gom ?_
      exact WK.again (i+1) (by omega) ⟨by omega,good hg⟩ (by exact⟨rfl,rfl,rfl,trivial⟩) rfl (List.Sublist.refl _)
     | true=>
     cases q45:(n != 45)with
     | false=>
      have hg : nameC n = true := by have:n=45:=by simpa using q45
                                     subst this;rfl
      refine gom ?_
      exact WK.again (i+1) (by omega) ⟨by omega,good hg⟩ (by exact⟨rfl,rfl,rfl,trivial⟩) rfl (List.Sublist.refl _)
     | true=>
     have hb:nameC n=false:=by unfold nameC;first | (rw[a1,b1,a2,b2,a3,b3,nameB1 q46 q95 q45];rfl) | (rw[a1,b1,a2,b2,a3,nameB1 q46 q95 q45];rfl) | (rw[a1,b1,a2,a3,b3,nameB1 q46 q95 q45];rfl) | (rw[a1,b1,a2,a3,nameB1 q46 q95 q45];rfl) | (rw[a1,a2,b2,a3,b3,nameB1 q46 q95 q45];rfl) | (rw[a1,a2,b2,a3,nameB1 q46 q95 q45];rfl) | (rw[a1,a2,a3,b3,nameB1 q46 q95 q45];rfl) | (rw[a1,a2,a3,nameB1 q46 q95 q45];rfl)
     refine gom ?_
     refine WC.rt ?_
     exact QF.p1 (.inl rfl) rfl (.tmp rfl) (⟨by rw[bad hb];rfl,rfl,rfl⟩)
 | false=>
  cases a2:decide (65≤n)with
  | true=>
   cases b2:decide (n≤90)with
   | true=>
    have hg:nameC n=true:=by unfold nameC;first | (rw[a1,b1];rfl) | (rw[a1,b1,a2,b2];rfl) | (rw[a1,a2,b2];rfl) | (rw[a1,b1,a2,b2,a3,b3];rfl) | (rw[a1,b1,a2,a3,b3];rfl) | (rw[a1,a2,b2,a3,b3];rfl) | (rw[a1,a2,a3,b3];rfl)
    refine gom ?_
    exact WK.again (i+1) (by omega) ⟨by omega,good hg⟩ (by exact⟨rfl,rfl,rfl,trivial⟩) rfl (List.Sublist.refl _)
   | false=>
    cases a3:decide (48≤n)with
    | true=>
     cases b3:decide (n≤57)with
     | true=>
      have hg:nameC n=true:=by unfold nameC;first | (rw[a1,b1];rfl) | (rw[a1,b1,a2,b2];rfl) | (rw[a1,a2,b2];rfl) | (rw[a1,b1,a2,b2,a3,b3];rfl) | (rw[a1,b1,a2,a3,b3];rfl) | (rw[a1,a2,b2,a3,b3];rfl) | (rw[a1,a2,a3,b3];rfl)
      refine gom ?_
      exact WK.again (i+1) (by omega) ⟨by omega,good hg⟩ (by exact⟨rfl,rfl,rfl,trivial⟩) rfl (List.Sublist.refl _)
     | false=>
      cases q46:(n != 46)with
      | false=>
       have hg : nameC n = true := by have:n=46:=by simpa using q46
                                      subst this;rfl
       refine gom ?_
       exact WK.again (i+1) (by omega) ⟨by omega,good hg⟩ (by exact⟨rfl,rfl,rfl,trivial⟩) rfl (List.Sublist.refl _)
      | true=>
      cases q95:(n != 95)with
      | false=>
       have hg : nameC n = true := by have:n=95:=by simpa using q95
                                      subst this;rfl
       refine gom ?_
       exact WK.again (i+1) (by omega) ⟨by omega,good hg⟩ (by exact⟨rfl,rfl,rfl,trivial⟩) rfl (List.Sublist.refl _)
      | true=>
      cases q45:(n != 45)with
      | false=>
       have hg : nameC n = true := by have:n=45:=by simpa using q45
                                      subst this;rfl
       refine gom ?_
       exact WK.again (i+1) (by omega) ⟨by omega,good hg⟩ (by exact⟨rfl,rfl,rfl,trivial⟩) rfl (List.Sublist.refl _)
      | true=>
      have hb:nameC n=false:=by unfold nameC;first | (rw[a1,b1,a2,b2,a3,b3,nameB1 q46 q95 q45];rfl) | (rw[a1,b1,a2,b2,a3,nameB1 q46 q95 q45];rfl) | (rw[a1,b1,a2,a3,b3,nameB1 q46 q95 q45];rfl) | (rw[a1,b1,a2,a3,nameB1 q46 q95 q45];rfl) | (rw[a1,a2,b2,a3,b3,nameB1 q46 q95 q45];rfl) | (rw[a1,a2,b2,a3,nameB1 q46 q95 q45];rfl) | (rw[a1,a2,a3,b3,nameB1 q46 q95 q45];rfl) | (rw[a1,a2,a3,nameB1 q46 q95 q45];rfl)
      refine gom ?_
      refine WC.rt ?_
      exact QF.p1 (.inl rfl) rfl (.tmp rfl) (⟨by rw[bad hb];rfl,rfl,rfl⟩)
    | false=>
     cases q46:(n != 46)with
     | false=>
      have hg : nameC n = true := by have:n=46:=by simpa using q46
                                     subst this;rfl
      refine gom ?_
      exact WK.again (i+1) (by omega) ⟨by omega,good hg⟩ (by exact⟨rfl,rfl,rfl,trivial⟩) rfl (List.Sublist.refl _)
     | true=>
     cases q95:(n != 95)with
     | false=>
      have hg : nameC n = true := by have:n=95:=by simpa using q95
                                     subst this;rfl
      refine gom ?_
      exact WK.again (i+1) (by omega) ⟨by omega,good hg⟩ (by exact⟨rfl,rfl,rfl,trivial⟩) rfl (List.Sublist.refl _)
     | true=>
     cases q45:(n != 45)with
     | false=>
      have hg : nameC n = true := by have:n=45:=by simpa using q45
                                     subst this;rfl
      refine gom ?_
      exact WK.again (i+1) (by omega) ⟨by omega,good hg⟩ (by exact⟨rfl,rfl,rfl,trivial⟩) rfl (List.Sublist.refl _)
     | true=>
     have hb:nameC n=false:=by unfold nameC;first | (rw[a1,b1,a2,b2,a3,b3,nameB1 q46 q95 q45];rfl) | (rw[a1,b1,a2,b2,a3,nameB1 q46 q95 q45];rfl) | (rw[a1,b1,a2,a3,b3,nameB1 q46 q95 q45];rfl) | (rw[a1,b1,a2,a3,nameB1 q46 q95 q45];rfl) | (rw[a1,a2,b2,a3,b3,nameB1 q46 q95 q45];rfl) | (rw[a1,a2,b2,a3,nameB1 q46 q95 q45];rfl) | (rw[a1,a2,a3,b3,nameB1 q46 q95 q45];rfl) | (rw[a1,a2,a3,nameB1 q46 q95 q45];rfl)
     refine gom ?_
     refine WC.rt ?_
     exact QF.p1 (.inl rfl) rfl (.tmp rfl) (⟨by rw[bad hb];rfl,rfl,rfl⟩)
  | false=>
   cases a3:decide (48≤n)with
   | true=>
    cases b3:decide (n≤57)with
    | true=>
     have hg:nameC n=true:=by unfold nameC;first | (rw[a1,b1];rfl) | (rw[a1,b1,a2,b2];rfl) | (rw[a1,a2,b2];rfl) | (rw[a1,b1,a2,b2,a3,b3];rfl) | (rw[a1,b1,a2,a3,b3];rfl) | (rw[a1,a2,b2,a3,b3];rfl) | (rw[a1,a2,a3,b3];rfl)
     refine gom ?_
     exact WK.again (i+1) (by omega) ⟨by omega,good hg⟩ (by exact⟨rfl,rfl,rfl,trivial⟩) rfl (List.Sublist.refl _)
    | false=>
     cases q46:(n != 46)with
     | false=>
      have hg : nameC n = true := by have:n=46:=by simpa using q46
                                     subst this;rfl
      refine gom ?_
      exact WK.again (i+1) (by omega) ⟨by omega,good hg⟩ (by exact⟨rfl,rfl,rfl,trivial⟩) rfl (List.Sublist.refl _)
     | true=>
     cases q95:(n != 95)with
     | false=>
      have hg : nameC n = true := by have:n=95:=by simpa using q95
                                     subst this;rfl
      refine gom ?_
      exact WK.again (i+1) (by omega) ⟨by omega,good hg⟩ (by exact⟨rfl,rfl,rfl,trivial⟩) rfl (List.Sublist.refl _)
     | true=>
     cases q45:(n != 45)with
     | false=>
      have hg : nameC n = true := by have:n=45:=by simpa using q45
                                     subst this;rfl
      refine gom ?_
      exact WK.again (i+1) (by omega) ⟨by omega,good hg⟩ (by exact⟨rfl,rfl,rfl,trivial⟩) rfl (List.Sublist.refl _)
     | true=>
     have hb:nameC n=false:=by unfold nameC;first | (rw[a1,b1,a2,b2,a3,b3,nameB1 q46 q95 q45];rfl) | (rw[a1,b1,a2,b2,a3,nameB1 q46 q95 q45];rfl) | (rw[a1,b1,a2,a3,b3,nameB1 q46 q95 q45];rfl) | (rw[a1,b1,a2,a3,nameB1 q46 q95 q45];rfl) | (rw[a1,a2,b2,a3,b3,nameB1 q46 q95 q45];rfl) | (rw[a1,a2,b2,a3,nameB1 q46 q95 q45];rfl) | (rw[a1,a2,a3,b3,nameB1 q46 q95 q45];rfl) | (rw[a1,a2,a3,nameB1 q46 q95 q45];rfl)
     refine gom ?_
     refine WC.rt ?_
     exact QF.p1 (.inl rfl) rfl (.tmp rfl) (⟨by rw[bad hb];rfl,rfl,rfl⟩)
   | false=>
    cases q46:(n != 46)with
    | false=>
     have hg : nameC n = true := by have:n=46:=by simpa using q46
                                    subst this;rfl
     refine gom ?_
     exact WK.again (i+1) (by omega) ⟨by omega,good hg⟩ (by exact⟨rfl,rfl,rfl,trivial⟩) rfl (List.Sublist.refl _)
    | true=>
    cases q95:(n != 95)with
    | false=>
     have hg : nameC n = true := by have:n=95:=by simpa using q95
                                    subst this;rfl
     refine gom ?_
     exact WK.again (i+1) (by omega) ⟨by omega,good hg⟩ (by exact⟨rfl,rfl,rfl,trivial⟩) rfl (List.Sublist.refl _)
    | true=>
    cases q45:(n != 45)with
    | false=>
     have hg : nameC n = true := by have:n=45:=by simpa using q45
                                    subst this;rfl
     refine gom ?_
     exact WK.again (i+1) (by omega) ⟨by omega,good hg⟩ (by exact⟨rfl,rfl,rfl,trivial⟩) rfl (List.Sublist.refl _)
    | true=>
    have hb:nameC n=false:=by unfold nameC;first | (rw[a1,b1,a2,b2,a3,b3,nameB1 q46 q95 q45];rfl) | (rw[a1,b1,a2,b2,a3,nameB1 q46 q95 q45];rfl) | (rw[a1,b1,a2,a3,b3,nameB1 q46 q95 q45];rfl) | (rw[a1,b1,a2,a3,nameB1 q46 q95 q45];rfl) | (rw[a1,a2,b2,a3,b3,nameB1 q46 q95 q45];rfl) | (rw[a1,a2,b2,a3,nameB1 q46 q95 q45];rfl) | (rw[a1,a2,a3,b3,nameB1 q46 q95 q45];rfl) | (rw[a1,a2,a3,nameB1 q46 q95 q45];rfl)
    refine gom ?_
    refine WC.rt ?_
    exact QF.p1 (.inl rfl) rfl (.tmp rfl) (⟨by rw[bad hb];rfl,rfl,rfl⟩)
theorem names_fn (G:Gh) (hE:Env G) (s:ByteArray) (hl:s.size≤4000000000):Fn Tryz.prog 158 #[.string s] G [] fun e G' H'=>∃A n cap,e= .returned (.tuple #[.slice A n cap, .int .i64 (if s==⟨#[]⟩ || (decide ((slashL s).length≤32)&&(slashL s).all nameR)then 0 else 45)])∧G.le G'∧H'=[]:=by
 refine Fn.enter Tryz.func158 rfl rfl fun w0=>?_
 cases h1:(s==⟨#[]⟩)with
 | true=>
  refine gom ?_
  rw[h1]
  refine gom ?_
  refine WC.rt ?_
  exact QF.p2 (.inl rfl) rfl (.tmp rfl) (.tmp rfl) (⟨none,0,0,rfl,Gh.le_refl _,rfl⟩)
 | false=>
 rw[Bool.false_or]
 refine gom ?_
 rw[h1]
 refine gom ?_
 refine WL.oo (OW.callK rfl (split_fn G hE s hl) rfl fun v' G' H' h hg=>?_)
 obtain⟨A,he,hg1,hA,rfl⟩:=h
 cases he
 have hpl:∀x∈slashL s,x.size≤100000000000000:=fun x hx=>by have:=splitB_size _ _ _ x hx;omega
 by_cases h2:32<(slashL s).length
 ·have y2:decide ((32:Int)<((slashL s).length:Int))=true:=decide_eq_true (by omega)
  rw[decide_eq_false (show¬(slashL s).length≤32 by omega),Bool.false_and]
  refine gom ?_
  refine WC.rt ?_
  exact QF.p2 (.inl rfl) rfl (.tmp rfl) (.tmp rfl) (⟨none,0,0,rfl,hg1,rfl⟩)
 have y2:decide ((32:Int)<((slashL s).length:Int))=false:=decide_eq_false (by omega)
 rw[decide_eq_true (show(slashL s).length≤32 by omega),Bool.true_and]
 refine gom ?_
 refine WC.loop (X:=Nat) (fun i=>[(4, .slice A (slashL s).length (slashL s).length),(14, .slice A (slashL s).length (slashL s).length),(15, .int .i64 (slashL s).length),(16, .int .i64 i)]) (fun _=>G') (fun _=>[]) (fun i=>(slashL s).length - i) (fun i=>i≤(slashL s).length∧∀j c,j<i→(slashL s)[j]? =some c→nameR c=true) 0 ⟨Nat.zero_le _,fun j c h=>by omega⟩ (by exact⟨rfl,rfl,rfl,rfl,trivial⟩) rfl (List.Sublist.refl _) fun i hx=>?_
 obtain⟨hi,hall⟩:=hx
 have x2:=wrapS i (by omega)
 by_cases hlt:i<(slashL s).length
 rotate_left
 ·have e2:decide ((i:Int)<((slashL s).length:Int))=false:=decide_eq_false (by omega)
  rw[all_of hall (by omega)]
  refine gom ?_
  refine WC.rt ?_
  exact QF.p2 (.inl rfl) rfl (.tmp rfl) (.tmp rfl) (⟨A,_,_,rfl,hg1,rfl⟩)
 have e2:decide ((i:Int)<((slashL s).length:Int))=true:=decide_eq_true (by omega)
 obtain⟨c,hc⟩:∃c,(slashL s)[i]? =some c:=⟨_,List.getElem?_eq_getElem (by omega)⟩
 obtain⟨b,o,cs,rfl,hk,hcs⟩:=hA i c hc
 obtain rfl:cs=[.string c]:=hk
 have x0:(0:Int)≤(i:Int):=by omega
 have x1:(i:Int)<((slashL s).length:Int):=by omega
 refine gom ?_
 refine WL.oo (OW.callK rfl (name_fn G' c (hpl c (List.mem_of_getElem? hc))) rfl fun v' G' H' h hg=>?_)
 obtain⟨he,rfl,rfl⟩:=h
 cases he
 cases h3:nameR c with
 | true=>
  refine gom ?_
  exact WK.again (i+1) (by omega) ⟨by omega,all_step hc hall h3⟩ (by exact⟨rfl,rfl,rfl,rfl,trivial⟩) rfl (List.nil_sublist _)
 | false=>
  rw[all_not hc h3]
  refine gom ?_
  refine WC.rt ?_
  exact QF.p2 (.inl rfl) rfl (.tmp rfl) (.tmp rfl) (⟨none,0,0,rfl,hg1,rfl⟩)
def pathR (s:ByteArray):Bool:=s==⟨#[]⟩ || (decide ((slashL s).length≤32)&&(slashL s).all nameR)
theorem pcheck_fn (G:Gh) (hE:Env G) (s:ByteArray) (hl:s.size≤4000000000):Fn Tryz.prog 126 #[.string s] G [] fun e G' H'=>e= .returned (.int .i64 (if pathR s then 0 else 45))∧G.le G'∧H'=[]:=by
 refine Fn.enter Tryz.func126 rfl rfl fun w0=>?_
 refine gom ?_
 refine WL.oo (OW.callK rfl (names_fn G hE s hl) rfl fun v' G' H' h hg=>?_)
 obtain⟨A,n,cap,he,hg1,rfl⟩:=h
 cases he
 refine gom ?_
 refine WC.rt ?_
 exact QF.p1 (.inl rfl) rfl (.tmp rfl) (⟨rfl,hg1,rfl⟩)
def fileR (s:ByteArray):Bool:= !(s==⟨#[]⟩)&&pathR s
theorem file_fn (G:Gh) (hE:Env G) (s:ByteArray) (hl:s.size≤4000000000):Fn Tryz.prog 85 #[.string s] G [] fun e G' H'=>e= .returned (.bool (fileR s))∧G.le G'∧H'=[]:=by
 refine Fn.enter Tryz.func85 rfl rfl fun w0=>?_
 cases h1:(s==⟨#[]⟩)with
 | true=>
  refine gom ?_
  rw[h1]
  refine gom ?_
  refine WC.rt ?_
  exact QF.p1 (.inl rfl) rfl (.tmp rfl) (⟨by rw[fileR,h1];rfl,Gh.le_refl _,rfl⟩)
 | false=>
  refine gom ?_
  rw[h1]
  refine gom ?_
  refine WL.oo (OW.callK rfl (pcheck_fn G hE s hl) rfl fun v' G' H' h hg=>?_)
  obtain⟨he,hg1,rfl⟩:=h
  cases he
  cases h2:pathR s with
  | true=>
   refine gom ?_
   refine WC.rt ?_
   exact QF.p1 (.inl rfl) rfl (.tmp rfl) (⟨by rw[fileR,h1,h2];rfl,hg1,rfl⟩)
  | false=>
   refine gom ?_
   refine WC.rt ?_
   exact QF.p1 (.inl rfl) rfl (.tmp rfl) (⟨by rw[fileR,h1,h2];rfl,hg1,rfl⟩)
end
section
attribute [local irreducible] Tryz.prog
def procR (p:Pr):Bool:=wordR p.name&&(headR p.params p.result&&(decide ((p.params.length:Int)≤p.locals)&&(decide (p.locals≤64)&&(decide (1≤(p.code.length:Int))&&decide ((p.code.length:Int)≤16384)))))
theorem proc_fn (G:Gh) (hE:Env G) (p:Pr) (QA IA:Option Addr) (qc ic:Nat) (hq:Sl (Kd.int .i64) G QA p.params) (hl:p.name.size≤100000000000000) (hql:p.params.length≤100000000000000):
  Fn Tryz.prog 89 #[.agg (prC p QA qc IA ic)] G [] fun e G' H'=>e= .returned (.bool (procR p))∧G=G'∧H'=[]:=by
 refine Fn.enter Tryz.func89 rfl rfl fun w0=>?_
 refine WC.seq ?_
 refine WC.region ?_
 refine WL.oo (OW.box rfl rfl fun b1=>?_)
 refine gom ?_
 refine WL.oo (OW.callK rfl (word_fn G hE p.name hl) rfl fun v' G' H' h hg=>?_)
 obtain⟨he,rfl,rfl⟩:=h
 cases he
 cases h1:wordR p.name with
 | false=>
  have hr:procR p=false:=by rw[procR,h1,Bool.false_and]
  rw[hr]
  refine gom ?_
  refine WC.rt ?_
  exact QF.p1 (.inl rfl) rfl (.tmp rfl) (⟨rfl,rfl,rfl⟩)
 | true=>
 refine gom ?_
 refine WL.oo (OW.callK rfl (head_fn G QA p.params qc p.result hq hql) rfl fun v' G' H' h hg=>?_)
 obtain⟨he,rfl,rfl⟩:=h
 cases he
 cases h2:headR p.params p.result with
 | false=>
  have hr:procR p=false:=by rw[procR,h1,h2,Bool.true_and,Bool.false_and]
  rw[hr]
  refine gom ?_
  refine WC.rt ?_
  exact QF.p1 (.inl rfl) rfl (.tmp rfl) (⟨rfl,rfl,rfl⟩)
 | true=>
 cases h3:decide ((p.params.length:Int)≤p.locals)with
 | false=>
  have hr:procR p=false:=by rw[procR,h1,h2,h3,Bool.true_and,Bool.true_and,Bool.false_and]
  rw[hr]
  refine gom ?_
  refine WC.rt ?_
  exact QF.p1 (.inl rfl) rfl (.tmp rfl) (⟨rfl,rfl,rfl⟩)
 | true=>
 cases h4:decide (p.locals≤64)with
 | false=>
  have hr:procR p=false:=by rw[procR,h1,h2,h3,h4,Bool.true_and,Bool.true_and,Bool.true_and,Bool.false_and]
  rw[hr]
  refine gom ?_
  refine WC.rt ?_
  exact QF.p1 (.inl rfl) rfl (.tmp rfl) (⟨rfl,rfl,rfl⟩)
 | true=>
 cases h5:decide (1≤(p.code.length:Int))with
 | false=>
  have hr:procR p=false:=by rw[procR,h1,h2,h3,h4,h5,Bool.true_and,Bool.true_and,Bool.true_and,Bool.true_and,Bool.false_and]
  rw[hr]
  refine gom ?_
  refine WC.rt ?_
  exact QF.p1 (.inl rfl) rfl (.tmp rfl) (⟨rfl,rfl,rfl⟩)
 | true=>
 have hr:procR p=decide ((p.code.length:Int)≤16384):=by rw[procR,h1,h2,h3,h4,h5,Bool.true_and,Bool.true_and,Bool.true_and,Bool.true_and,Bool.true_and]
 rw[hr]
 refine gom ?_
 refine WC.rt ?_
 exact QF.p1 (.inl rfl) rfl (.tmp rfl) (⟨rfl,rfl,rfl⟩)
structure Ob where
 path:ByteArray
 consts:List V
 needs:List Nd
 procs:List Pr
def Ob.wd (o:Ob):Wd:=⟨o.consts,o.needs,o.procs⟩
def obC (o:Ob) (CA NA PA:Option Addr) (cc nc pc:Nat):Array Value:= #[.string o.path, .slice CA o.consts.length cc, .slice NA o.needs.length nc, .slice PA o.procs.length pc]
structure OLim (o:Ob):Prop where
 path:o.path.size≤4000000000
 cl:o.consts.length≤100000000000000
 nl:o.needs.length≤100000000000000
 pl:o.procs.length≤100000000000000
 nd:∀q∈o.needs,q.params.length≤100000000000000∧q.path.size≤4000000000∧q.name.size≤100000000000000
 pr:∀q∈o.procs,q.params.length≤100000000000000∧q.code.length≤100000000000000∧q.name.size≤100000000000000
structure ORep (G:Gh) (o:Ob) (CA NA PA:Option Addr):Prop where
 consts:Sl Kd.val G CA o.consts
 needs:Sl Kd.ned G NA o.needs
 procs:Sl Kd.prc G PA o.procs
theorem ORep.mono {G G':Gh} {o:Ob} {CA NA PA:Option Addr} (h:ORep G o CA NA PA) (hg:G.le G'):ORep G' o CA NA PA:=⟨h.consts.mono hg,h.needs.mono hg,h.procs.mono hg⟩
def needR (n:Nd):Bool:=fileR n.path&&(wordR n.name&&headR n.params n.result)
def objR (o:Ob):Bool:=fileR o.path&&(o.consts.all valueR&&(decide ((o.consts.length:Int)≤4096)&&(decide ((o.needs.length:Int)≤4096)&&(decide ((o.procs.length:Int)≤128)&&o.needs.all needR))))
theorem dgt {a b:Int} {q:Bool} (h:decide (a≤b)=q):decide (b<a)= !q:=by
 cases q with
 | true=>have:=of_decide_eq_true h;exact decide_eq_false (by omega)
 | false=>have:=of_decide_eq_false h;exact decide_eq_true (by omega)
theorem object_fn (G:Gh) (hE:Env G) (o:Ob) (CA NA PA:Option Addr) (cc nc pc:Nat) (hO:ORep G o CA NA PA) (hL:OLim o):
  Fn Tryz.prog 41 #[.agg (obC o CA NA PA cc nc pc)] G [] fun e G' H'=>e= .returned (.bool (objR o))∧G.le G'∧H'=[]:=by
 have hnl:=hL.nl
 refine Fn.enter Tryz.func41 rfl rfl fun w0=>?_
 refine WC.seq ?_
 refine WC.region ?_
 refine WL.oo (OW.box rfl rfl fun b1=>?_)
 refine gom ?_
 refine WL.oo (OW.callK rfl (file_fn G hE o.path hL.path) rfl fun v' G' H' h hg=>?_)
 obtain⟨he,hg1,rfl⟩:=h
 cases he
 have hO1:=hO.mono hg1
 cases h1:fileR o.path with
 | false=>
  have hr:objR o=false:=by rw[objR,h1,Bool.false_and]
  rw[hr]
  refine gom ?_
  refine WC.rt ?_
  exact QF.p1 (.inl rfl) rfl (.tmp rfl) (⟨rfl,hg1,rfl⟩)
 | true=>
 refine gom ?_
 refine WL.oo (OW.callK rfl (values_fn G' CA o.consts cc hO1.consts hL.cl) rfl fun v' G' H' h hg=>?_)
 obtain⟨he,rfl,rfl⟩:=h
 cases he
 cases h2:o.consts.all valueR with
 | false=>
  have hr:objR o=false:=by rw[objR,h1,h2,Bool.true_and,Bool.false_and]
  rw[hr]
  refine gom ?_
  refine WC.rt ?_
  exact QF.p1 (.inl rfl) rfl (.tmp rfl) (⟨rfl,hg1,rfl⟩)
 | true=>
 cases h3:decide ((o.consts.length:Int)≤4096)with
 | false=>
  have hr:objR o=false:=by rw[objR,h1,h2,h3,Bool.true_and,Bool.true_and,Bool.false_and]
  have y3:=dgt h3
  rw[hr]
  refine gom ?_
  refine WC.rt ?_
  exact QF.p1 (.inl rfl) rfl (.tmp rfl) (⟨rfl,hg1,rfl⟩)
 | true=>
 have y3:=dgt h3
 cases h4:decide ((o.needs.length:Int)≤4096)with
 | false=>
  have hr:objR o=false:=by rw[objR,h1,h2,h3,h4,Bool.true_and,Bool.true_and,Bool.true_and,Bool.false_and]
  have y4:=dgt h4
  rw[hr]
  refine gom ?_
  refine WC.rt ?_
  exact QF.p1 (.inl rfl) rfl (.tmp rfl) (⟨rfl,hg1,rfl⟩)
 | true=>
 have y4:=dgt h4
 cases h5:decide ((o.procs.length:Int)≤128)with
 | false=>
  have hr:objR o=false:=by rw[objR,h1,h2,h3,h4,h5,Bool.true_and,Bool.true_and,Bool.true_and,Bool.true_and,Bool.false_and]
  have y5:=dgt h5
  rw[hr]
  refine gom ?_
  refine WC.rt ?_
  exact QF.p1 (.inl rfl) rfl (.tmp rfl) (⟨rfl,hg1,rfl⟩)
 | true=>
 have y5:=dgt h5
 have hr:objR o=o.needs.all needR:=by rw[objR,h1,h2,h3,h4,h5,Bool.true_and,Bool.true_and,Bool.true_and,Bool.true_and,Bool.true_and]
 rw[hr]
 refine gom ?_
 refine WC.loop (X:=Nat×Gh) (fun x=>[(34, .slice NA o.needs.length nc),(35, .int .i64 o.needs.length),(36, .int .i64 x.1)]) (fun x=>x.2) (fun _=>[]) (fun x=>o.needs.length - x.1) (fun x=>x.1≤o.needs.length∧G.le x.2∧∀j y,j<x.1→o.needs[j]? =some y→needR y=true) (0,G') ⟨Nat.zero_le _,hg1,fun j y h=>by omega⟩ (by exact⟨rfl,rfl,rfl,trivial⟩) rfl (List.nil_sublist _) fun x hx=>?_
 obtain⟨i,G1⟩:=x
 obtain⟨hi,hg1,hall⟩:=hx
 dsimp only at hi hg1 hall
 have x2:=wrapS i (by omega)
 by_cases hlt:i<o.needs.length
 rotate_left
 ·have e2:decide ((i:Int)<(o.needs.length:Int))=false:=decide_eq_false (by omega)
  rw[all_of hall (by omega)]
  refine gom ?_
  refine WC.rt ?_
  exact QF.p1 (.inl rfl) rfl (.tmp rfl) (⟨rfl,hg1,rfl⟩)
 have e2:decide ((i:Int)<(o.needs.length:Int))=true:=decide_eq_true (by omega)
 obtain⟨c,hc⟩:∃c,o.needs[i]? =some c:=⟨_,List.getElem?_eq_getElem (by omega)⟩
 obtain⟨hcp,hcf,hcn⟩:=hL.nd c (List.mem_of_getElem? hc)
 have hO2:=hO.mono hg1
 obtain⟨b,ofs,cs,rfl,hk,hcs⟩:=hO2.needs i c hc
 obtain⟨QA,qc,rfl,hQ⟩:=hk
 have x0:(0:Int)≤(i:Int):=by omega
 have x1:(i:Int)<(o.needs.length:Int):=by omega
 refine gom ?_
 refine WL.oo (OW.alloc rfl fun b4=>?_)
 refine gom ?_
 refine WL.oo (OW.callK rfl (file_fn G1 (hE.mono hg1) c.path hcf) rfl fun v' G' H' h hg=>?_)
 obtain⟨he,hg2,rfl⟩:=h
 cases he
 have hg3:=Gh.le_trans hg1 hg2
 cases h6:fileR c.path with
 | false=>
  rw[all_not hc (show needR c=false by rw[needR,h6,Bool.false_and])]
  refine gom ?_
  refine WC.rt ?_
  exact QF.p1 (.inl rfl) rfl (.tmp rfl) (⟨rfl,hg3,rfl⟩)
 | true=>
 refine gom ?_
 refine WL.oo (OW.callK rfl (word_fn _ (hE.mono hg3) c.name hcn) rfl fun v' G' H' h hg=>?_)
 obtain⟨he,rfl,rfl⟩:=h
 cases he
 cases h7:wordR c.name with
 | false=>
  rw[all_not hc (show needR c=false by rw[needR,h6,h7,Bool.true_and,Bool.false_and])]
  refine gom ?_
  refine WC.rt ?_
  exact QF.p1 (.inl rfl) rfl (.tmp rfl) (⟨rfl,hg3,rfl⟩)
 | true=>
 refine gom ?_
 refine WL.oo (OW.callK rfl (head_fn _ QA c.params qc c.result (hQ.mono hg2) hcp) rfl fun v' G' H' h hg=>?_)
 obtain⟨he,rfl,rfl⟩:=h
 cases he
 cases h8:headR c.params c.result with
 | false=>
  rw[all_not hc (show needR c=false by rw[needR,h6,h7,h8];rfl)]
  refine gom ?_
  refine WC.rt ?_
  exact QF.p1 (.inl rfl) rfl (.tmp rfl) (⟨rfl,hg3,rfl⟩)
 | true=>
  refine gom ?_
  exact WK.again (i+1,_) (by dsimp only;omega) ⟨by dsimp only;omega,hg3,all_step hc hall (by rw[needR,h6,h7,h8];rfl)⟩ (by exact⟨rfl,rfl,rfl,trivial⟩) rfl (List.nil_sublist _)
end
section
open Go.MapKept
attribute [local irreducible] Tryz.prog
open Classical in
noncomputable def flowOf (w:Wd) (p:Pr):List SS:=if h:∃l,Least w p l then h.choose else []
theorem Least.flow {w:Wd} {p:Pr} {l:List SS} (h:Least w p l):flowOf w p=l:=by
 have hx:∃l,Least w p l:=⟨l,h⟩
 unfold flowOf
 rw[dif_pos hx]
 exact Least.unique hx.choose_spec h
def aloneAt (w:Wd) (p:Pr) (k:Nat):Int:=match p.code[k]? with | some i=>aloneR w p i | none=>0
open Classical in
noncomputable def procOut (w:Wd) (seen:List ByteArray) (p:Pr):Int×Int:=
 if procR p=false∨p.name∈seen then(0,185)
 else if(firstR p.code.length (aloneAt w p)).2≠0 then firstR p.code.length (aloneAt w p)
 else wrongR w p (flowOf w p)
noncomputable def outAt (w:Wd) (k:Nat):Int×Int:=match w.procs[k]? with | some p=>procOut w ((w.procs.take k).map (·.name)) p | none=>(0,0)
noncomputable def allR (w:Wd):Int×Int×Int:=
 match (List.range w.procs.length).find? (fun k=>(outAt w k).2 != 0)with
 | some k=>((k:Int),(outAt w k).1,(outAt w k).2)
 | none=>(0,0,0)
theorem allR_at {w:Wd} {k:Nat} (hk:k<w.procs.length) (h0:∀j,j<k→(outAt w j).2=0) (h1:(outAt w k).2≠0):allR w=((k:Int),(outAt w k).1,(outAt w k).2):=by
 unfold allR
 rw[find_range hk (fun j hj=>by simp[h0 j hj]) (by simpa using h1)]
theorem allR_none {w:Wd} (h0:∀j,j<w.procs.length→(outAt w j).2=0):allR w=(0,0,0):=by
 unfold allR
 rw[List.find?_eq_none.2 (fun j hj=>by simp[h0 j (by simpa using hj)])]
theorem alone_ok {w:Wd} {p:Pr} {i:Int×Int} (h:aloneR w p i=0):0≤i.2∧EOk w p.locals.toNat i.1 i.2.toNat:=by
 have hm:mayR i.1 i.2=true:=by
  cases hm:mayR i.1 i.2 with
  | true=>rfl
  | false=>unfold aloneR at h;rw[if_pos hm]at h;cases h
 have h0:0≤i.2:=by
  unfold mayR at hm
  simp only[Bool.and_eq_true,decide_eq_true_eq]at hm
  exact hm.2.1
 unfold aloneR at h
 rw[if_neg (by rw[hm];simp)]at h
 have hn:¬(if i.1=1 then(w.consts.length:Int)else if i.1=2∨i.1=3 then p.locals else if i.1=7 then(w.procs.length:Int)else if i.1=8 then(w.needs.length:Int)else 2147483647)≤i.2:=fun hc=>by
  rw[if_pos hc]at h
  exact absurd h (by split<;>decide)
 refine⟨h0,⟨fun e=>?_,fun e=>?_,fun e=>?_,fun e=>?_,fun e=>?_⟩⟩<;>rw[e]at hn<;>simp at hn<;>omega
theorem procR_head {p:Pr} (h:procR p=true):(p.params.length:Int)≤p.locals∧p.locals≤64∧0<p.code.length∧p.code.length≤16384:=by
 unfold procR at h
 simp only[Bool.and_eq_true,decide_eq_true_eq]at h
 obtain⟨_,_,h1,h2,h3,h4⟩:=h
 exact⟨h1,h2,by omega,by omega⟩
theorem pok_of {w:Wd} {p:Pr} (h:procR p=true) (ha:∀(k:Nat) (i:Int×Int),p.code[k]? =some i→aloneR w p i=0):POk w p:=
 let ⟨h1,h2,h3,h4⟩:=procR_head h
 ⟨h1,h2,h3,h4,fun k i hi=>alone_ok (ha k i hi)⟩
def namesM (l:List Pr):List (ByteArray×Value):=l.map fun p=>(p.name, .int .i64 1)
theorem namesM_keys (l:List Pr):(namesM l).map (·.1)=l.map (·.name):=by rw[namesM,List.map_map];rfl
theorem getA_namesM {l:List Pr} {n:ByteArray} (h:n∈l.map (·.name)):getA (namesM l) n=some (.int .i64 1):=by
 unfold getA
 cases hf:(namesM l).find? (fun p=>decide (p.1=n))with
 | none=>
  rw[List.find?_eq_none]at hf
  obtain⟨p,hp,rfl⟩:=List.mem_map.1 h
  exact absurd (decide_eq_true rfl) (hf (p.name, .int .i64 1) (List.mem_map.2 ⟨p,hp,rfl⟩))
 | some q=>
  have:=List.mem_of_find?_eq_some hf
  obtain⟨p,hp,rfl⟩:=List.mem_map.1 this
  rfl
theorem getA_setA {κ:Type} [DecidableEq κ] (m:List (κ×Value)) (k:κ) (v:Value):getA (setA m k v) k=some v:=by
 unfold setA getA
 split
 ·rename_i h
  obtain⟨p,hp,hk⟩:=List.mem_map.1 h
  cases hf:(m.map (fun p=>if p.1=k then(k,v)else p)).find? (fun p=>decide (p.1=k))with
  | none=>
   rw[List.find?_eq_none]at hf
   exact absurd (decide_eq_true rfl) (hf (k,v) (List.mem_map.2 ⟨p,hp,by simp[hk]⟩))
  | some q=>
   have h1:=List.mem_of_find?_eq_some hf
   have h2:=List.find?_some hf
   obtain⟨r,hr,rfl⟩:=List.mem_map.1 h1
   by_cases hrk:r.1=k
   ·simp[hrk]
   ·simp[hrk]at h2
 ·rename_i h
  have hn:m.find? (fun p=>decide (p.1=k))=none:=by
   rw[List.find?_eq_none]
   intro p hp hk
   exact h (List.mem_map.2 ⟨p,hp,by simpa using hk⟩)
  rw[List.find?_append,hn]
  simp
theorem outAt_eq {w:Wd} {k:Nat} {p:Pr} (h:w.procs[k]? =some p):outAt w k=procOut w ((w.procs.take k).map (·.name)) p:=by unfold outAt;rw[h]
theorem take_snoc' {α:Type} {l:List α} {k:Nat} {x:α} (h:l[k]? =some x):l.take (k+1)=l.take k++[x]:=by
 rw[List.take_add_one,h];rfl
end
section
open Go.MapKept
attribute [local irreducible] Tryz.prog
structure AL where
 k:Nat
 G:Gh
 es:Array MapEntry
 ck:Nat
def okSoFar (w:Wd) (k:Nat):Prop:=∀j,j<k→(outAt w j).2=0
abbrev spB (b:Nat):Own:= .blk b (.cells #[.int .i64 0, .int .i64 0] 34 (0,0))
theorem name_new {w:Wd} {k:Nat} {p:Pr} (hp:w.procs[k]? =some p) (h:(outAt w k).2=0):p.name∉(w.procs.take k).map (·.name):=fun hm=>by
 rw[outAt_eq hp,procOut,if_pos (.inr hm)]at h
 cases h
theorem okSoFar_nodup {w:Wd} :∀ {k:Nat},k≤w.procs.length→okSoFar w k→((w.procs.take k).map (·.name)).Nodup
 | 0,_,_=>by simp
 | k+1,hk,h=>by
  obtain⟨p,hp⟩:∃p,w.procs[k]? =some p:=⟨_,List.getElem?_eq_getElem (by omega)⟩
  rw[take_snoc' hp,List.map_append,List.nodup_append]
  refine⟨okSoFar_nodup (by omega) fun j hj=>h j (by omega),by simp,fun a ha b hb e=>?_⟩
  obtain rfl:b=p.name:=by simpa using hb
  exact name_new hp (h k (by omega)) (e▸ha)
set_option maxHeartbeats 4000000 in
theorem wall_fn (G:Gh) (hE:Env G) (w:Wd) (bw:Nat) (CA NA PA:Option Addr) (cc nc pc:Nat) (hW:WRep G w bw CA NA PA cc nc pc) (hpr:∀q∈w.procs,q.code.length≤100000000000000∧q.name.size≤100000000000000):
  Fn Tryz.prog 42 #[.pointer (some ⟨bw,0,none⟩), .bool false] G [] fun e G' H'=>e= .returned (.tuple #[.agg #[.int .i64 (allR w).1, .int .i64 (allR w).2.1], .int .i64 (allR w).2.2])∧G.le G'∧H'=[]:=by
 have hwc:=hW.cells
 have hpl:=hW.pl
 refine Fn.enter Tryz.func42 rfl rfl fun w0=>?_
 refine WC.seq ?_
 refine WC.region ?_
 refine WL.oo (OW.alloc rfl fun b4=>?_)
 refine gom ?_
 refine WL.oo (OW.makeMap rfl fun bm=>?_)
 refine gom ?_
 refine WC.loop (X:=AL) (fun x=>[(0, .pointer (some ⟨bw,0,none⟩)),(1, .bool false),(4, .pointer (some ⟨b4,0,none⟩)),(6, .map (some bm)),(18, .slice PA w.procs.length pc),(19, .int .i64 w.procs.length),(20, .int .i64 x.k)]) (fun x=>x.G) (fun x=>[.blk bm (.map x.es x.ck),spB b4]) (fun x=>w.procs.length - x.k) (fun x=>x.k≤w.procs.length∧G.le x.G∧okSoFar w x.k∧MRel Value.string .string x.es x.ck (namesM (w.procs.take x.k))) ⟨0,G, #[],0⟩ ⟨Nat.zero_le _,Gh.le_refl _,(fun j h=>absurd h (Nat.not_lt_zero _)),MRel.empty⟩ (by exact⟨rfl,rfl,rfl,rfl,rfl,rfl,rfl,trivial⟩) rfl (List.Sublist.refl _) fun x hx=>?_
 obtain⟨k,G1,es,ck⟩:=x
 obtain⟨hk,hg1,hok,hm⟩:=hx
 dsimp only at hk hg1 hok hm
 have x2:=wrapS k (by omega)
 by_cases hlt:k<w.procs.length
 rotate_left
 ·have e2:decide ((k:Int)<(w.procs.length:Int))=false:=decide_eq_false (by omega)
  refine gom ?_
  refine WC.rt ?_
  exact QF.p2 (.inl rfl) rfl (.cell rfl inferInstance inferInstance atA rfl rfl) (.tmp rfl) (⟨by rw[allR_none fun j hj=>hok j (by omega)];rfl,hg1,rfl⟩)
 have e2:decide ((k:Int)<(w.procs.length:Int))=true:=decide_eq_true (by omega)
 obtain⟨p,hp⟩:∃p,w.procs[k]? =some p:=⟨_,List.getElem?_eq_getElem (by omega)⟩
 have hW1:=hW.mono hg1
 obtain⟨b,ofs,cs,rfl,hks,hcs⟩:=hW1.procs k p hp
 obtain⟨QA,qc,IA,ic,rfl,hQ,hI⟩:=hks
 have hpm:=List.mem_of_getElem? hp
 obtain⟨hpc,hpn⟩:=hpr p hpm
 have hpq:=hW.pp p hpm
 have x0:(0:Int)≤(k:Int):=by omega
 have x1:(k:Int)<(w.procs.length:Int):=by omega
 have hnd:=okSoFar_nodup hk hok
 have hout:=outAt_eq hp
 have w1:IntKind.i64.wrap (1+1)=2:=rfl
 have w2:IntKind.i64.wrap (0+1)=1:=rfl
 refine gom ?_
 refine WL.oo (OW.alloc rfl fun b8=>?_)
 refine gom ?_
 by_cases hin:p.name∈(w.procs.take k).map (·.name)
 ·have hr:allR w=((k:Int),0,185):=by
   have h0:outAt w k=(0,185):=by rw[hout,procOut,if_pos (.inr hin)]
   rw[allR_at hlt hok (by rw[h0];decide),h0]
  rw[hr]
  refine WL.vv (Gv.lookup (emb:=Value.string) (z:= .int .i64 0) (v:= .int .i64 1) rfl rfl atA hm (by rw[getA_namesM hin];rfl)) ?_
  refine gom ?_
  refine WL.oo (OW.mapSet (emb:=Value.string) rfl rfl rfl atA hm rfl fun es1 ck1 hm1=>?_)
  refine gom ?_
  refine WL.oo (OW.callK rfl (proc_fn G1 (hE.mono hg1) p QA IA qc ic hQ hpn hpq) rfl fun v' G' H' h hg=>?_)
  obtain⟨he,rfl,rfl⟩:=h
  cases he
  cases h1:procR p with
  | false=>
   refine gom ?_
   refine WC.rt ?_
   exact QF.p2 (.inl rfl) rfl (.cell rfl inferInstance inferInstance atA rfl rfl) (.tmp rfl) (⟨rfl,hg1,rfl⟩)
  | true=>
   refine gom ?_
   refine WL.vv (Gv.lookup (emb:=Value.string) (z:= .int .i64 0) (v:= .int .i64 2) rfl rfl atA hm1 (by rw[getA_setA];rfl)) ?_
   refine gom ?_
   refine WC.rt ?_
   exact QF.p2 (.inl rfl) rfl (.cell rfl inferInstance inferInstance atA rfl rfl) (.tmp rfl) (⟨rfl,hg1,rfl⟩)
 refine WL.vv (Gv.lookup (emb:=Value.string) (z:= .int .i64 0) (v:= .int .i64 0) rfl rfl atA hm (by rw[getA_absent (by rw[namesM_keys];exact hin)];rfl)) ?_
 refine gom ?_
 refine WL.oo (OW.mapSet (emb:=Value.string) rfl rfl rfl atA hm rfl fun es1 ck1 hm1=>?_)
 have hset:setA (namesM (w.procs.take k)) p.name (.int .i64 1)=namesM (w.procs.take (k+1)):=by
  rw[setA,if_neg (by rw[namesM_keys];exact hin),take_snoc' hp];simp[namesM]
 refine gom ?_
 refine WL.oo (OW.callK rfl (proc_fn G1 (hE.mono hg1) p QA IA qc ic hQ hpn hpq) rfl fun v' G' H' h hg=>?_)
 obtain⟨he,rfl,rfl⟩:=h
 cases he
 cases h1:procR p with
 | false=>
  have hr:allR w=((k:Int),0,185):=by
   have h0:outAt w k=(0,185):=by rw[hout,procOut,if_pos (.inl h1)]
   rw[allR_at hlt hok (by rw[h0];decide),h0]
  rw[hr]
  refine gom ?_
  refine WC.rt ?_
  exact QF.p2 (.inl rfl) rfl (.cell rfl inferInstance inferInstance atA rfl rfl) (.tmp rfl) (⟨rfl,hg1,rfl⟩)
 | true=>
 refine gom ?_
 refine WL.vv (Gv.lookup (emb:=Value.string) (z:= .int .i64 0) (v:= .int .i64 1) rfl rfl atA hm1 (by rw[getA_setA];rfl)) ?_
 refine gom ?_
 have hnp:¬(procR p=false∨p.name∈(w.procs.take k).map (·.name)):=fun h=>h.elim (fun h=>by rw[h1]at h;cases h) hin
 refine WC.loop (X:=Nat) (fun j=>[(0, .pointer (some ⟨bw,0,none⟩)),(1, .bool false),(4, .pointer (some ⟨b4,0,none⟩)),(6, .map (some bm)),(7, .int .i64 k),(8, .pointer (some ⟨b8,0,none⟩)),(18, .slice (some ⟨b,ofs,none⟩) w.procs.length pc),(19, .int .i64 w.procs.length),(20, .int .i64 k),(47, .slice IA p.code.length ic),(48, .int .i64 p.code.length),(49, .int .i64 j)]) (fun _=>G1) (fun _=>[prB b8 p QA qc IA ic, .blk bm (.map es1 ck1),spB b4]) (fun j=>p.code.length - j) (fun j=>j≤p.code.length∧∀i,i<j→aloneAt w p i=0) 0 ⟨Nat.zero_le _,(fun j h=>absurd h (Nat.not_lt_zero _))⟩ (by exact⟨rfl,rfl,rfl,rfl,rfl,rfl,rfl,rfl,rfl,rfl,rfl,rfl,trivial⟩) rfl (List.Sublist.refl _) fun j hx=>?_
 obtain⟨hj,hal⟩:=hx
 have z2:=wrapS j (by omega)
 by_cases hjl:j<p.code.length
 ·have e3:decide ((j:Int)<(p.code.length:Int))=true:=decide_eq_true (by omega)
  obtain⟨i,hi⟩:∃i,p.code[j]? =some i:=⟨_,List.getElem?_eq_getElem (by omega)⟩
  obtain⟨ib,io,ics,rfl,hik,hic⟩:=hI j i hi
  obtain rfl:ics=[.int .i64 i.1, .int .i64 i.2]:=hik
  have z0:(0:Int)≤(j:Int):=by omega
  have z1:(j:Int)<(p.code.length:Int):=by omega
  have haa:aloneAt w p j=aloneR w p i:=by unfold aloneAt;rw[hi]
  refine gom ?_
  refine WL.oo (OW.alloc rfl fun b10=>?_)
  refine gom ?_
  refine WL.oo (OW.callK rfl (alone_fn G1 w p bw CA NA (some ⟨b,ofs,none⟩) cc nc pc hW1 QA (some ⟨ib,io,none⟩) qc ic i) rfl fun v' G' H' h hg=>?_)
  obtain⟨he,rfl,rfl⟩:=h
  cases he
  by_cases ha:aloneR w p i=0
  ·have e4:(aloneR w p i != 0)=false:=by simpa using ha
   refine gom ?_
   exact WK.again (j+1) (by omega) ⟨by omega,fun i' hi'=>by
    rcases Nat.lt_or_ge i' j with h | h
    ·exact hal i' h
    ·obtain rfl:i'=j:=by omega
     rw[haa];exact ha⟩ (by exact⟨rfl,rfl,rfl,rfl,rfl,rfl,rfl,rfl,rfl,rfl,rfl,rfl,trivial⟩) rfl (List.sublist_cons_self _ _)
  ·have e4:(aloneR w p i != 0)=true:=by simpa using ha
   have hr:allR w=((k:Int),(j:Int),aloneR w p i):=by
    have hf:firstR p.code.length (aloneAt w p)=((j:Int),aloneR w p i):=by rw[firstR_at hjl hal (by rw[haa];exact ha),haa]
    have h0:outAt w k=((j:Int),aloneR w p i):=by rw[hout,procOut,if_neg hnp,hf,if_pos ha]
    rw[allR_at hlt hok (by rw[h0];exact ha),h0]
   rw[hr]
   refine gom ?_
   refine WC.rt ?_
   exact QF.p2 (.inl rfl) rfl (.cell rfl inferInstance inferInstance atA rfl rfl) (.tmp rfl) (⟨rfl,hg1,rfl⟩)
 have e3:decide ((j:Int)<(p.code.length:Int))=false:=decide_eq_false (by omega)
 have hpk:POk w p:=pok_of h1 fun i v hv=>by
  have:=hal i (by have:=(List.getElem?_eq_some_iff.1 hv).1;omega)
  unfold aloneAt at this;rw[hv]at this;exact this
 have hf0:firstR p.code.length (aloneAt w p)=(0,0):=firstR_none fun i hi=>hal i (by omega)
 refine gom ?_
 refine WL.oo (OW.callK rfl (flow_fn G1 w p bw CA NA (some ⟨b,ofs,none⟩) cc nc pc QA IA qc ic hW1 hQ hI hpk) rfl fun v' G' H' h hg=>?_)
 obtain⟨bf,TA,tc,l,he,hg2,hF,hT,htc,hL,rfl⟩:=h
 cases he
 have hg3:=Gh.le_trans hg1 hg2
 refine gom ?_
 refine WL.oo (OW.callK rfl (wrong_fn _ w p bf bw CA NA (some ⟨b,ofs,none⟩) cc nc pc QA IA qc ic TA tc l (hW.mono hg3) hF hT hpk hL.closed) rfl fun v' G' H' h hg=>?_)
 obtain⟨he,hg4,rfl⟩:=h
 cases he
 have hg5:=Gh.le_trans hg3 hg4
 have h0:outAt w k=wrongR w p l:=by rw[hout,procOut,if_neg hnp,hf0,if_neg (by simp),hL.flow]
 obtain⟨at',wy,hw⟩:∃a y,wrongR w p l=(a,y):=⟨_,_,rfl⟩
 rw[hw]
 by_cases ha:wy=0
 ·have e5:(wy != 0)=false:=by simpa using ha
  refine gom ?_
  exact WK.again ⟨k+1,_,es1,ck1⟩ (by dsimp only;omega) ⟨by dsimp only;omega,hg5,fun i' hi'=>by
   rcases Nat.lt_or_ge i' k with h | h
   ·exact hok i' h
   ·obtain rfl:i'=k:=by dsimp only at hi';omega
    rw[h0,hw];exact ha,by dsimp only;rw[←hset];exact hm1⟩ (by exact⟨rfl,rfl,rfl,rfl,rfl,rfl,rfl,trivial⟩) rfl (List.sublist_cons_self _ _)
 ·have e5:(wy != 0)=true:=by simpa using ha
  have hr:allR w=((k:Int),at',wy):=by
   rw[allR_at hlt hok (by rw[h0,hw];exact ha),h0,hw]
  rw[hr]
  refine gom ?_
  refine WC.rt ?_
  exact QF.p2 (.inl rfl) rfl (.cell rfl inferInstance inferInstance atA rfl rfl) (.tmp rfl) (⟨rfl,hg5,rfl⟩)
end
section
open Go.MapKept
attribute [local irreducible] Tryz.prog
noncomputable def objAns (o:Ob):Int×Int×Int:=if objR o then allR o.wd else(0,0,185)
theorem WRep.ofO {G:Gh} {o:Ob} {CA NA PA:Option Addr} {cc nc pc b:Nat} (hO:ORep G o CA NA PA) (hL:OLim o) (hf:Cs G b 0 [.slice CA o.consts.length cc, .slice NA o.needs.length nc, .slice PA o.procs.length pc]):WRep G o.wd b CA NA PA cc nc pc:=
 ⟨hf,hO.consts,hO.needs,hO.procs,hL.cl,hL.nl,hL.pl,fun q hq=>(hL.nd q hq).1,fun q hq=>(hL.pr q hq).1⟩
section
variable (G:Gh) (hE:Env G) (o:Ob) (CA NA PA:Option Addr) (cc nc pc:Nat) (hO:ORep G o CA NA PA) (hL:OLim o)
include hE hO hL
theorem Object_fn:Fn Tryz.prog 14 #[.agg (obC o CA NA PA cc nc pc)] G [] fun e G' H'=>e= .returned (.tuple #[.agg #[.int .i64 (objAns o).1, .int .i64 (objAns o).2.1], .int .i64 (objAns o).2.2])∧G.le G'∧H'=[]:=by
 refine Fn.enter Tryz.func14 rfl rfl fun w0=>?_
 refine WC.seq ?_
 refine WC.region ?_
 refine WL.oo (OW.box rfl rfl fun b1=>?_)
 refine WL.oo (OW.alloc rfl fun b2=>?_)
 refine gom ?_
 refine WL.oo (OW.callK rfl (object_fn G hE o CA NA PA cc nc pc hO hL) rfl fun v' G' H' h hg=>?_)
 obtain⟨he,hg1,rfl⟩:=h
 cases he
 cases h1:objR o with
 | false=>
  have hr:objAns o=(0,0,185):=by rw[objAns,h1];rfl
  rw[hr]
  refine gom ?_
  refine WC.rt ?_
  exact QF.p2 (.inl rfl) rfl (.cell rfl inferInstance inferInstance atA rfl rfl) (.tmp rfl) (⟨rfl,hg1,rfl⟩)
 | true=>
 have hr:objAns o=allR o.wd:=by rw[objAns,h1];rfl
 rw[hr]
 refine gom ?_
 refine WL.oo (OW.box rfl rfl fun b16=>?_)
 refine zw.assign ?_
 refine WL.nil ?_
 refine WK.un ?_
 refine WC.pick [.blk b16 (.cells #[.slice CA o.consts.length cc, .slice NA o.needs.length nc, .slice PA o.procs.length pc] 97 (0,0)),spB b2] ?_
 refine WC.freezeC .here rfl fun G1 hg2 hf1=>?_
 have hg3:=Gh.le_trans hg1 hg2
 have hW:=WRep.ofO (hO.mono hg3) hL hf1
 refine gom ?_
 refine WL.oo (OW.callK rfl (wall_fn G1 (hE.mono hg3) o.wd b16 CA NA PA cc nc pc hW (fun q hq=>(hL.pr q hq).2)) rfl fun v' G' H' h hg=>?_)
 obtain⟨he,hg4,rfl⟩:=h
 cases he
 refine gom ?_
 refine WC.rt ?_
 exact QF.p2 (.inl rfl) rfl (.cell rfl inferInstance inferInstance atA rfl rfl) (.tmp rfl) (⟨rfl,Gh.le_trans hg3 hg4,rfl⟩)
end
end
abbrev Ky:=ByteArray×ByteArray
structure Pt where
 path:ByteArray
 name:ByteArray
 proc:Int
def expL (l:List Ob) (k:Ky):List Pr:=match l.find? (fun o=>o.path==k.1)with
 | none=>[]
 | some o=>o.procs.filter fun p=>p.exp&&p.name==k.2
def fitN (n:Nd) (p:Pr):Bool:=p.result==n.result&&p.params==n.params
def metL (l:List Ob) (n:Nd):Bool:=(expL l (n.path,n.name)).any (fitN n)
def sameN (a b:Nd):Bool:=a.path==b.path&&(a.name==b.name&&(a.result==b.result&&a.params==b.params))
def missStep (l:List Ob) (acc:List Nd) (n:Nd):List Nd:=if metL l n || acc.any (fun x=>sameN x n)then acc else acc++[n]
def missL (l:List Ob):List Nd:=(l.flatMap (·.needs)).foldl (missStep l) []
noncomputable def errL:List Ob→Int
 | []=>0
 | o::r=>if(objAns o).2.2≠0 then(objAns o).2.2 else errL r
def sumP (l:List Ob):Nat:=(l.map (·.procs.length)).sum
def sumC (l:List Ob):Nat:=(l.map (·.consts.length)).sum
noncomputable def linkE (l:List Ob):Int:=
 if errL l≠0 then errL l
 else if¬(l.map (·.path)).Nodup then 222
 else if missL l≠ []then 221
 else if 4096<sumP l∨65536<sumC l then 53 else 0
def allPr (l:List Ob):List (ByteArray×Pr):=l.flatMap fun o=>o.procs.map fun p=>(o.path,p)
def atL (l:List (ByteArray×Pr)) (k:Ky):Int:=
 match (List.range l.length).reverse.find? (fun j=>decide ((l[j]?).map (fun q=>(q.1,q.2.name))=some k))with
 | some j=>(j:Int)
 | none=>0
def moveI (l:List (ByteArray×Pr)) (o:Ob) (cs ps:Nat) (i:Int×Int):Int×Int:=
 if i.1=1 then(1,i.2+cs)else if i.1=7 then(7,i.2+ps)
 else if i.1=8 then(7,match o.needs[i.2.toNat]? with | some n=>atL l (n.path,n.name) | none=>0)else i
def moveP (l:List (ByteArray×Pr)) (o:Ob) (cs ps:Nat) (p:Pr):Pr:= { p with code:=p.code.map (moveI l o cs ps) }
def joinP (l:List (ByteArray×Pr)):List Ob→Nat→Nat→List Pr
 | [],_,_=>[]
 | o::r,cs,ps=>o.procs.map (moveP l o cs ps)++joinP l r (cs+o.consts.length) (ps+o.procs.length)
def ptsO (path:ByteArray):List Pr→Nat→List Pt
 | [],_=>[]
 | p::r,k=>if p.exp then⟨path,p.name,(k:Int)⟩::ptsO path r (k+1)else ptsO path r (k+1)
def joinT':List Ob→Nat→List Pt
 | [],_=>[]
 | o::r,ps=>ptsO o.path o.procs ps++joinT' r (ps+o.procs.length)
theorem errL_zero {l:List Ob} :errL l=0↔∀o∈l,(objAns o).2.2=0:=by
 induction l with
 | nil=>simp[errL]
 | cons o r ih=>
  unfold errL
  by_cases h:(objAns o).2.2=0
  ·simp[h,ih]
  ·simp[h]
theorem errL_mem {l:List Ob} (h:errL l≠0):∃o∈l,errL l=(objAns o).2.2:=by
 induction l with
 | nil=>simp[errL]at h
 | cons o r ih=>
  unfold errL at h⊢
  by_cases h1:(objAns o).2.2=0
  ·simp only[h1,ne_eq,not_true,if_false]at h⊢
   obtain⟨o',ho',e⟩:=ih h
   exact⟨o',List.mem_cons_of_mem _ ho',e⟩
  ·simp only[ne_eq,h1,not_false_eq_true,if_true]
   exact⟨o,List.mem_cons_self ..,rfl⟩
theorem firstR_in {n:Nat} {f:Nat→Int} {p:Int→Prop} (h0:p 0) (hf:∀k,p (f k)):p (firstR n f).2:=by
 unfold firstR
 split
 ·exact hf _
 ·exact h0
def codeE (x:Int):Prop:=x=0∨(180≤x∧x≤185)
theorem metR_in (w:Wd) (p:Pr) (k:Nat) (i:Int×Int) (s:SS):codeE (metR w p k i s):=by
 unfold metR codeE
 repeat (first | omega | split)
theorem aloneR_in (w:Wd) (p:Pr) (i:Int×Int):codeE (aloneR w p i):=by
 unfold aloneR codeE
 repeat (first | omega | split)
theorem outAt_in (w:Wd) (k:Nat):codeE (outAt w k).2:=by
 unfold outAt
 split
 ·unfold procOut
  split
  ·exact .inr ⟨by decide,by decide⟩
  ·split
   ·refine firstR_in (.inl rfl) fun j=>?_
    unfold aloneAt
    split
    ·exact aloneR_in _ _ _
    ·exact .inl rfl
   ·unfold wrongR
    refine firstR_in (.inl rfl) fun j=>?_
    unfold badAt
    split
    ·split
     ·exact metR_in _ _ _ _ _
     ·exact .inl rfl
    ·exact .inl rfl
 ·exact .inl rfl
theorem objAns_in (o:Ob):codeE (objAns o).2.2:=by
 unfold objAns
 split
 ·unfold allR
  split
  ·exact outAt_in _ _
  ·exact .inl rfl
 ·exact .inr ⟨by decide,by decide⟩
theorem linkE_miss {l:List Ob} :(linkE l=221)↔((∀o∈l,(objAns o).2.2=0)∧(l.map (·.path)).Nodup∧missL l≠ []):=by
 unfold linkE
 by_cases h:errL l=0
 ·rw [if_neg (by simpa using h)]
  have h1:=errL_zero.1 h
  by_cases h2:(l.map (·.path)).Nodup
  ·rw[if_neg (by simpa using h2)]
   by_cases h3:missL l=[]
   ·rw[if_neg (by simpa using h3)]
    constructor
    ·intro h4;split at h4<;>cases h4
    ·exact fun h4=>absurd h3 h4.2.2
   ·rw[if_pos h3]
    exact⟨fun _=>⟨h1,h2,h3⟩,fun _=>rfl⟩
  ·rw[if_pos h2]
   exact⟨fun h4=>(by cases h4),fun h4=>absurd h4.2.1 h2⟩
 ·rw[if_pos h]
  constructor
  ·intro h4
   obtain⟨o,_,e⟩:=errL_mem h
   have:=objAns_in o
   rw[←e,h4]at this
   rcases this with h | h<;>omega
  ·exact fun h4=>absurd (errL_zero.2 h4.1) h
section
open Go
section
variable {α:Type} {k:Kd α} {G G':Gh} {T cap:Nat} {A:Option Addr} {l m:List α} {cs ds:List Value} {x:Own}
structure KFl (k:Kd α) (G:Gh) (l:List α) (cs:List Value):Prop where
 len:cs.length=l.length*k.n
 at_:∀i x,l[i]? =some x→k.K G x ((cs.drop (i*k.n)).take k.n)
theorem KFl.nil:KFl k G [] []:=⟨by simp,fun i x h=>by simp at h⟩
theorem KFl.mono (h:KFl k G l cs) (hg:G.le G'):KFl k G' l cs:=⟨h.len,fun i x e=>k.mono hg (h.at_ i x e)⟩
theorem KFl.one {x:α} (h:k.K G x cs):KFl k G [x] cs:=by
 have hl:=k.len h
 refine⟨by simp[hl],fun i y e=>?_⟩
 cases i with
 | zero=>cases e;rw[Nat.zero_mul,List.drop_zero,List.take_of_length_le (by omega)];exact h
 | succ i=>simp at e
theorem KFl.append (h:KFl k G l cs) (h':KFl k G m ds):KFl k G (l++m) (cs++ds):=by
 refine⟨by rw[List.length_append,List.length_append,h.len,h'.len,Nat.add_mul],fun i y e=>?_⟩
 rcases Nat.lt_or_ge i l.length with hi | hi
 ·rw[List.getElem?_append_left hi]at e
  have h1:=h.at_ i y e
  have h2:(i+1)*k.n≤l.length*k.n:=Nat.mul_le_mul_right _ hi
  rw[Nat.add_mul]at h2
  have h3:=h.len
  rw[List.drop_append_of_le_length (by omega),List.take_append_of_le_length (by rw[List.length_drop];omega)]
  exact h1
 ·rw[List.getElem?_append_right hi]at e
  have h1:=h'.at_ _ y e
  obtain⟨j,rfl⟩:∃j,i=l.length+j:=⟨i - l.length,by omega⟩
  rw[Nat.add_sub_cancel_left]at h1
  have h3:=h.len
  rw[Nat.add_mul,←h3,←List.drop_drop,List.drop_left]
  exact h1
theorem KFl.one' (h:KFl k G l cs):cs.all (·.oneCell')=true:=by
 have key:∀(l:List α) (cs:List Value),KFl k G l cs→cs.all (·.oneCell')=true:=by
  intro l
  induction l with
  | nil=>intro cs h;have:=h.len;simp at this;subst this;rfl
  | cons a l ih=>
   intro cs h
   have h0:=h.at_ 0 a rfl
   rw[Nat.zero_mul,List.drop_zero]at h0
   have h1:=ih (cs.drop k.n) ⟨by rw[List.length_drop,h.len,List.length_cons,Nat.add_mul];omega,fun i y e=>by
    have:=h.at_ (i+1) y (by simpa using e)
    rw[List.drop_drop,show k.n+i*k.n=(i+1)*k.n by rw[Nat.add_mul];omega];exact this⟩
   rw[←List.take_append_drop k.n cs,List.all_append,k.one h0,h1];rfl
 exact key l cs h
theorem KFl.sl (hn:0<k.n) (h:KFl k G l cs) (hz:cs=[]∨∃b,A=some ⟨b,0,none⟩∧Cs G b 0 cs):Sl k G A l:=Sl.ofCs hz h.len hn h.at_
theorem Sl.kfl {H:List Own} (hn:0<k.n) (h:Sl k G A l):∃cs,Rds G H A cs∧KFl k G l cs:=by
 obtain⟨cs,h1,h2,_,h3⟩:=Sl.rds (H:=H) hn h
 exact⟨cs,h1,h2,h3⟩
def KVec (k:Kd α) (T:Nat) (G:Gh) (A:Option Addr) (cap:Nat) (l:List α) (x:Own):Prop:=∃cs,Vec T k.n A l.length cap cs x∧KFl k G l cs
theorem KVec.nil:KVec k T G none 0 [] (.spare 0 0 0):=⟨[],⟨by simp, .inl ⟨rfl,rfl,rfl,rfl⟩⟩,KFl.nil⟩
theorem KVec.mono (h:KVec k T G A cap l x) (hg:G.le G'):KVec k T G' A cap l x:=let ⟨cs,h1,h2⟩:=h;⟨cs,h1,h2.mono hg⟩
theorem KVec.rds {H:List Own} {j:Nat} (h:KVec k T G A cap l x) (hj:At H j x):∃cs,Rds G H A cs∧KFl k G l cs:=let ⟨cs,h1,h2⟩:=h;⟨cs,h1.rds hj,h2⟩
end
section
variable {P:Program} {Q:Exit→Act→World→Prop} {cx:Cx} {L:List (Nat×Value)} {G:Gh} {H:List Own} {K:List (Nat×Value)→Gh→List Own→Prop} {d:Option Tmp} {ty:TypeId} {pos:String} {af:Array Edge} {gu:Option (Nat×Bool)}
variable {α:Type} {k:Kd α} {T cap j:Nat} {A:Option Addr} {l m:List α} {news:List Value} {o:Own}
theorem OW.appendK {t e by_:Nat} {z:Value} {x y:Operand} {B:Option Addr} {cy:Nat} (hx:ev L x=some (.slice A l.length cap)) (hy:ev L y=some (.slice B m.length cy)) [hu:Und P t (.slice e)] [hi:Inf P e k.n by_ z]
  (hz:z.cells.size=k.n) (hs0:Nat.blt 0 k.n=true) (hv:KVec k e G A cap l o) (hj:At H j o) (hr:Rds G H B news) (hm:KFl k G m news)
  (hb:(l.length+m.length)*by_≤140737488355328) (h63:l.length+m.length≤9223372036854775807) (hd:dOk d cx.N=true)
  (kk:∀A' cap' o',KVec k e G A' cap' (l++m) o'→K (putL d (.slice A' (l++m).length cap') L) G (H.set j o')):
  OW P Q ⟨d, .call { callee:= .builtin .append,args:= #[x,y],argTypes:= #[t,t] },ty,pos,af,gu⟩ cx L G H K:=by
 obtain⟨cs,h1,h2⟩:=hv
 refine OW.append hx hy hz hs0 h1 hj hr hm.len hm.one' hb h63 hd fun A' cap' o' h3=>?_
 have h4:=kk A' cap' o' ⟨cs++news,by rw[List.length_append];exact h3,h2.append hm⟩
 rwa [List.length_append]at h4
theorem OW.appendS {t e by_:Nat} {z:Value} {x y:Operand} {B:Option Addr} {cy:Nat} (hx:ev L x=some (.slice A l.length cap)) (hy:ev L y=some (.slice B m.length cy)) [hu:Und P t (.slice e)] [hi:Inf P e k.n by_ z]
  (hz:z.cells.size=k.n) (hs0:Nat.blt 0 k.n=true) (hv:KVec k e G A cap l o) (hj:At H j o) (hm:Sl k G B m)
  (hb:(l.length+m.length)*by_≤140737488355328) (h63:l.length+m.length≤9223372036854775807) (hd:dOk d cx.N=true)
  (kk:∀A' cap' o',KVec k e G A' cap' (l++m) o'→K (putL d (.slice A' (l++m).length cap') L) G (H.set j o')):
  OW P Q ⟨d, .call { callee:= .builtin .append,args:= #[x,y],argTypes:= #[t,t] },ty,pos,af,gu⟩ cx L G H K:=by
 obtain⟨cs,h1,h2⟩:=Sl.kfl (H:=H) (Nat.le_of_ble_eq_true hs0) hm
 exact OW.appendK hx hy hz hs0 hv hj h1 h2 hb h63 hd kk
theorem OW.append1 {t e by_:Nat} {z:Value} {x y:Operand} {b cy i:Nat} {c:Array Value} {T2:TypeId} {u:α} (hx:ev L x=some (.slice A l.length cap)) (hy:ev L y=some (.slice (some ⟨b,0,none⟩) 1 cy)) [hu:Und P t (.slice e)] [hi:Inf P e k.n by_ z]
  (hz:z.cells.size=k.n) (hs0:Nat.blt 0 k.n=true) (hv:KVec k e G A cap l o) (hj:At H j o) (hi2:At H i (.blk b (.cells c T2 (0,0)))) (hc:c.toList=news) (hk:k.K G u news)
  (hb:(l.length+1)*by_≤140737488355328) (h63:l.length+1≤9223372036854775807) (hd:dOk d cx.N=true)
  (kk:∀A' cap' o',KVec k e G A' cap' (l++[u]) o'→K (putL d (.slice A' (l++[u]).length cap') L) G (H.set j o')):
  OW P Q ⟨d, .call { callee:= .builtin .append,args:= #[x,y],argTypes:= #[t,t] },ty,pos,af,gu⟩ cx L G H K:=
 OW.appendK (m:=[u]) hx hy hz hs0 hv hj (Rds.blk0 hi2 hc) (KFl.one hk) hb h63 hd kk
end
section
variable {P:Program} {Q:Exit→Act→World→Prop} {cx:Cx} {L:List (Nat×Value)} {G:Gh} {H:List Own}
variable {α:Type} {k:Kd α} {T cap j:Nat} {A:Option Addr} {l:List α} {x:Own}
theorem WK.freezeK {K:Act→World→Prop} (hn:0<k.n) (hv:KVec k T G A cap l x) (hj:At H j x) (h:∀G',G.le G'→Sl k G' A l→WK K cx L G' (H.eraseIdx j)):WK K cx L G H:=by
 obtain⟨cs,h1,h2⟩:=hv
 exact WK.frozenVec h1 hj fun G' hg hz=>h G' hg ((h2.mono hg).sl hn hz)
theorem WC.freezeK {c:Code} (hn:0<k.n) (hv:KVec k T G A cap l x) (hj:At H j x) (h:∀G',G.le G'→Sl k G' A l→WC P c Q cx L G' (H.eraseIdx j)):WC P c Q cx L G H:=WK.freezeK (K:=c.wp P Q) hn hv hj h
theorem WL.freezeK {ops:Array Oper} {rest:List Oper} (hn:0<k.n) (hv:KVec k T G A cap l x) (hj:At H j x) (h:∀G',G.le G'→Sl k G' A l→WL P ops Q rest cx L G' (H.eraseIdx j)):WL P ops Q rest cx L G H:=WK.freezeK (K:=fun a w=>wpList P ops Q rest a w) hn hv hj h
end
end
section
open Go Go.MapKept Go.Proofs
structure MK {κ:Type} (emb:κ→Value) (es:Array MapEntry) (clock:Nat) (m:List (κ×Value)):Prop where
 ents:es.toList.map (fun e=>(e.key,e.val))=m.map (fun p=>(emb p.1,p.2))
 keys:(m.map (·.1)).Nodup
 borns:(es.toList.map (·.born)).Nodup
 old:∀e∈es.toList,e.born<clock
class KeyK (P:Program) (kt:TypeId) {κ:Type} (emb:κ→Value):Prop where
 inj:∀ {a b:κ},emb a=emb b→a=b
 check:∀(a:κ) (e:Bool) (w:World),(Instr.checkKey e 10000 kt (emb a)).run P w= .ok () w
 stay:∀a:κ,Instr.sameBits 10000 (emb a) (emb a)=true
 find:∀(k:κ) (l:List MapEntry) (w:World),(∀x∈l,∃a:κ,x.key=emb a)→
  ((∀x∈l,x.key≠emb k)∧(Instr.findKey kt (emb k) l).run P w= .ok none w)∨∃j e,l[j]? =some e∧e.key=emb k∧(Instr.findKey kt (emb k) l).run P w= .ok (some (j,e.val)) w
section
variable {κ:Type} [DecidableEq κ] {emb:κ→Value} {es:Array MapEntry} {clock:Nat} {m:List (κ×Value)}
theorem MK.empty:MK emb #[] 0 []:=⟨rfl,by simp,by simp,by simp⟩
theorem MK.isKey (h:MK emb es clock m):∀e∈es.toList,∃a,e.key=emb a:=fun e hm=>by
 have h1:(e.key,e.val)∈es.toList.map (fun e=>(e.key,e.val)):=List.mem_map_of_mem hm
 rw[h.ents]at h1
 obtain⟨p,_,hp⟩:=List.mem_map.1 h1
 exact⟨p.1,(congrArg Prod.fst hp).symm⟩
theorem MK.at (h:MK emb es clock m) {j:Nat} {e:MapEntry} (hj:es.toList[j]? =some e):∃p,m[j]? =some p∧e.key=emb p.1∧e.val=p.2:=by
 have h1:=congrArg (fun l=>l[j]?) h.ents
 simp only[List.getElem?_map,hj,Option.map_some]at h1
 cases hp:m[j]? with
 | none=>rw[hp]at h1;cases h1
 | some p=>
  rw[hp]at h1
  simp only[Option.map_some,Option.some.injEq,Prod.mk.injEq]at h1
  exact⟨p,rfl,h1⟩
theorem MK.absent (h:MK emb es clock m) {k:κ} (hk:∀x∈es.toList,x.key≠emb k):k∉m.map (·.1):=fun hm=>by
 obtain⟨p,hp,rfl⟩:=List.mem_map.1 hm
 have h1:(emb p.1,p.2)∈m.map (fun p=>(emb p.1,p.2)):=List.mem_map.2 ⟨p,hp,rfl⟩
 rw[←h.ents]at h1
 obtain⟨e,hm,hx⟩:=List.mem_map.1 h1
 exact hk e hm (congrArg Prod.fst hx)
theorem MK.setNew (h:MK emb es clock m) {k:κ} {v:Value} (hk:k∉m.map (·.1)):MK emb (es.push ⟨emb k,v,clock⟩) (clock+1) (setA m k v):=by
 rw[setA,if_neg hk]
 refine⟨by simp[h.ents],?_,?_,?_⟩
 ·rw[List.map_append,List.nodup_append]
  refine⟨h.keys,by simp,fun a ha b hb=>?_⟩
  simp at hb;subst hb;exact fun e=>hk (e▸ha)
 ·rw[Array.toList_push,List.map_append,List.nodup_append]
  refine⟨h.borns,by simp,fun a ha b hb=>?_⟩
  simp at hb;subst hb
  obtain⟨e,he,rfl⟩:=List.mem_map.1 ha
  have:=h.old e he;omega
 ·intro e hm
  simp at hm
  rcases hm with hm | rfl
  ·have:=h.old e (by simpa using hm);omega
  ·show clock<clock+1;omega
theorem MK.setOld (hinj:∀ {a b:κ},emb a=emb b→a=b) (h:MK emb es clock m) {k:κ} {v:Value} {j:Nat} {e:MapEntry} (hj:es.toList[j]? =some e) (hk:e.key=emb k):MK emb (es.modify j fun e=> { e with key:=emb k,val:=v }) clock (setA m k v):=by
 obtain⟨p,hp,h1,h2⟩:=h.at hj
 have hpk:p.1=k:=hinj (h1.symm.trans hk)
 have hmem:k∈m.map (·.1):=List.mem_map.2 ⟨p,List.mem_of_getElem? hp,hpk⟩
 rw[setA,if_pos hmem]
 have hjl:j<es.size:=by simpa using(List.getElem?_eq_some_iff.1 hj).1
 refine⟨?_,by rw[keys_set];exact h.keys,?_,?_⟩
 ·apply List.ext_getElem?
  intro i
  simp only[List.getElem?_map,Array.getElem?_toList,Array.getElem?_modify]
  by_cases hij:j=i
  ·subst hij
   have:es[j]? =some e:=by simpa using hj
   simp only[if_true,this,hp,Option.map_some,if_pos hpk]
  ·rw [if_neg hij]
   have h3:=congrArg (fun l=>l[i]?) h.ents
   simp only[List.getElem?_map,Array.getElem?_toList]at h3
   rw[h3]
   cases hq:m[i]? with
   | none=>rfl
   | some q=>
    have hne:q.1≠k:=fun e'=>by
     have hn:=h.keys
     have h4:(m.map (·.1))[i]? =some k:=by rw[List.getElem?_map,hq];simp[e']
     have h5:(m.map (·.1))[j]? =some k:=by rw[List.getElem?_map,hp];simp[hpk]
     have hi1:=(List.getElem?_eq_some_iff.1 h4).1
     have:=(List.getElem?_inj hi1 hn).1 (h4.trans h5.symm)
     exact hij this.symm
    simp only[Option.map_some,if_neg hne]
 ·have:(es.modify j fun e=> { e with key:=emb k,val:=v }).toList.map (·.born)=es.toList.map (·.born):=by
   apply List.ext_getElem?
   intro i
   simp only[List.getElem?_map,Array.getElem?_toList,Array.getElem?_modify]
   by_cases hij:j=i
   ·subst hij;simp
    cases es[j]? <;>rfl
   ·rw[if_neg hij]
  rw[this];exact h.borns
 ·intro x hx
  obtain⟨i,hi⟩:=List.getElem?_of_mem hx
  rw[Array.getElem?_toList,Array.getElem?_modify]at hi
  by_cases hij:j=i
  ·subst hij
   rw[if_pos rfl]at hi
   have hj':es[j]? =some e:=by simpa using hj
   rw[hj']at hi
   simp at hi
   subst hi
   exact h.old e (List.mem_of_getElem? hj)
  ·rw[if_neg hij]at hi
   exact h.old x (by rw[Array.mem_toList_iff];exact Array.mem_of_getElem? hi)
end
section
variable {P:Program} {Q:Exit→Act→World→Prop} {cx:Cx} {L:List (Nat×Value)} {G:Gh} {H:List Own} {K:List (Nat×Value)→Gh→List Own→Prop}
 {d:Option Tmp} {ty:TypeId} {pos:String} {af:Array Edge} {gu:Option (Nat×Bool)}
 {κ:Type} [DecidableEq κ] {emb:κ→Value} {t kt et:TypeId} [he:KeyK P kt emb]
theorem run_mapSetK {w:World} {b:Nat} {es:Array MapEntry} {clock:Nat} {l:List (κ×Value)} (hu:P.underlying t=some (.map kt et)) (hb:w.heap[b]? =some (.map es clock)) (hr:MK emb es clock l) (key:κ) (v:Value):
  ∃es' clock',MK emb es' clock' (setA l key v)∧(Instr.mapUpdate t (.map (some b)) (emb key) v).run P w= .ok () { w with heap:=w.heap.setIfInBounds b (.map es' clock') } :=by
 rcases he.find key es.toList w hr.isKey with⟨h2,h1⟩ | ⟨j,e,h2,h3,h1⟩
 ·exact⟨_,_,hr.setNew (v:=v) (hr.absent h2),by simp[Instr.mapUpdate,run_underlying hu,Go.MapKept.run_getObj_map hb,he.check,h1,run_setObj_map _ hb,Result.andThen]⟩
 ·have hj:es[j]? =some e:=by simpa using h2
  have hs:(Instr.keyThatStays (emb key) (emb key)).run P w= .ok (emb key) w:=by simp[Instr.keyThatStays,he.stay key]
  exact⟨_,_,MK.setOld (v:=v) he.inj hr h2 h3,by simp[Instr.mapUpdate,run_underlying hu,Go.MapKept.run_getObj_map hb,he.check,h1,hj,h3,hs,run_setObj_map _ hb,Result.andThen]⟩
theorem OW.mapSetK {m x y:Operand} {b j:Nat} {key:κ} {v:Value} {es:Array MapEntry} {clock:Nat} {l:List (κ×Value)} (hm:ev L m=some (.map (some b))) (hx:ev L x=some (emb key)) (hy:ev L y=some v) [hu:Und P t (.map kt et)]
  (hj:At H j (.blk b (.map es clock))) (hr:MK emb es clock l) (hd:dOk d cx.N=true) (k:∀es' clock',MK emb es' clock' (setA l key v)→K (putL d undef L) G (H.set j (.blk b (.map es' clock')))):
  OW P Q ⟨d, .mapUpdate t m x y,ty,pos,af,gu⟩ cx L G H K:=
 OW.gives hd fun a w st=>by
  obtain⟨es',clock',h1,h2⟩:=run_mapSetK (v:=v) hu.h (st.sat.hold _ (List.mem_of_getElem? hj.get)) hr key
  have hs:=st.swapObj (o':= .map es' clock') hj rfl rfl
  exact⟨undef,_,G,_, .inr ⟨rfl,by simp[execOp,st.eval hm,st.eval hx,st.eval hy,h2]⟩,hs.1,hs.2,k _ _ h1⟩
theorem Gv.lookupK {m x:Operand} {b j n by_:Nat} {z:Value} {key:κ} {v:Value} {es:Array MapEntry} {clock:Nat} {l:List (κ×Value)} (hm:ev L m=some (.map (some b))) (hx:ev L x=some (emb key)) [hu:Und P t (.map kt et)] [hi:Inf P et n by_ z]
  (hj:At H j (.blk b (.map es clock))) (hr:MK emb es clock l) (hv:(getA l key).getD z=v):Gv P L G H ⟨d, .lookup t m x false,ty,pos,af,gu⟩ v:=fun a w sk s=>by
 have hb:w.heap[b]? =some (.map es clock):=s.hold _ (List.mem_of_getElem? hj.get)
 subst hv
 rcases he.find key es.toList w hr.isKey with⟨h2,h1⟩ | ⟨i,e,h2,h3,h1⟩
 ·rw[getA_absent (hr.absent h2)]
  simp[execOp,sk.eval hm,sk.eval hx,Instr.lookup,run_underlying hu.h,Go.MapKept.run_getObj_map hb,he.check,h1,Result.andThen,hi.zeroValue]
 ·obtain⟨p,hp,hp1,hp2⟩:=hr.at h2
  have hpk:p.1=key:=he.inj (hp1.symm.trans h3)
  have hg:=getA_at hr.keys hp
  rw[hpk]at hg
  rw[hg]
  simp[execOp,sk.eval hm,sk.eval hx,Instr.lookup,run_underlying hu.h,Go.MapKept.run_getObj_map hb,he.check,h1,Result.andThen,hp2]
end
theorem KeyK.ofEqual {P:Program} {kt:TypeId} {κ:Type} [DecidableEq κ] {emb:κ→Value} {ds:TypeDesc} (hu:P.underlying kt=some ds) (hn:∀a b:κ,Instr.sameNow ds (emb a) (emb b)=none) (inj:∀ {a b:κ},emb a=emb b→a=b)
  (check:∀(a:κ) (e:Bool) (w:World),(Instr.checkKey e 10000 kt (emb a)).run P w= .ok () w) (stay:∀a:κ,Instr.sameBits 10000 (emb a) (emb a)=true) (eq:∀(a b:κ) (w:World),(Op.equal kt (emb a) (emb b)).run P w= .ok (decide (a=b)) w):KeyK P kt emb where
 inj:=inj
 check:=check
 stay:=stay
 find k l w hl:=by
  have ask:∀(l:List MapEntry) (i:Nat),(∀x∈l,∃a:κ,x.key=emb a)→
    ((∀x∈l,x.key≠emb k)∧(Instr.findAsking kt (emb k) l i).run P w= .ok none w)∨∃j e,l[j]? =some e∧e.key=emb k∧(Instr.findAsking kt (emb k) l i).run P w= .ok (some (i+j,e.val)) w:=by
   intro l
   induction l with
   | nil=>intro i _;exact .inl ⟨by simp,by simp[Instr.findAsking]⟩
   | cons x r ih=>
    intro i hx
    obtain⟨a,ha⟩:=hx x (List.mem_cons_self ..)
    by_cases hka:k=a
    ·subst hka
     exact .inr ⟨0,x,rfl,ha,by simp[Instr.findAsking,ha,eq]⟩
    ·have hne:x.key≠emb k:=fun e=>hka (inj (e.symm.trans ha))
     rcases ih (i+1) (fun y hy=>hx y (List.mem_cons_of_mem _ hy))with⟨h1,h2⟩ | ⟨j,e,h1,h2,h3⟩
     ·refine .inl ⟨fun y hy=>?_,by simp[Instr.findAsking,ha,eq,hka,h2]⟩
      rcases List.mem_cons.1 hy with rfl | hy
      ·exact hne
      ·exact h1 y hy
     ·exact .inr ⟨j+1,e,by simpa using h1,h2,by simp[Instr.findAsking,ha,eq,hka,h3];omega⟩
  cases l with
  | nil=>exact .inl ⟨by simp,by simp[Instr.findKey,run_underlying hu,Instr.findNow]⟩
  | cons x r=>
   obtain⟨a,ha⟩:=hl x (List.mem_cons_self ..)
   have hnow:Instr.findNow ds (emb k) (x::r) 0=none:=by simp[Instr.findNow,ha,hn]
   rcases ask (x::r) 0 hl with⟨h1,h2⟩ | ⟨j,e,h1,h2,h3⟩
   ·exact .inl ⟨h1,by simp[Instr.findKey,run_underlying hu,hnow,h2]⟩
   ·rw[Nat.zero_add]at h3
    exact .inr ⟨j,e,h1,h2,by simp[Instr.findKey,run_underlying hu,hnow,h3]⟩
def StampK {κ:Type} (emb:κ→Value) (es:Array MapEntry) (n:Nat) (key:κ):Prop:=∃(j:Nat) (e:MapEntry),es.toList[j]? =some e∧e.key=emb key∧e.born=n
theorem modify_alike {es:Array MapEntry} {j:Nat} {e:MapEntry} (hj:es[j]? =some e) {f g:MapEntry→MapEntry} (h:f e=g e):es.modify j f=es.modify j g:=by
 apply Array.ext_getElem?
 intro i
 rw[Array.getElem?_modify,Array.getElem?_modify]
 by_cases e2:j=i
 ·subst e2;rw[if_pos rfl,if_pos rfl,hj];simp[h]
 ·rw[if_neg e2,if_neg e2]
section
variable {P:Program} {Q:Exit→Act→World→Prop} {cx:Cx} {L:List (Nat×Value)} {G:Gh} {H:List Own} {K:List (Nat×Value)→Gh→List Own→Prop}
 {d:Option Tmp} {ty:TypeId} {pos:String} {af:Array Edge} {gu:Option (Nat×Bool)}
 {κ:Type} [DecidableEq κ] {emb:κ→Value} {t kt et:TypeId} [he:KeyK P kt emb]
theorem run_mapEntryK {w:World} {b n0 by_:Nat} {z:Value} {es:Array MapEntry} {clock:Nat} {l:List (κ×Value)} (hu:P.underlying t=some (.map kt et)) [hi:Inf P et n0 by_ z] (hb:w.heap[b]? =some (.map es clock)) (hr:MK emb es clock l) (key:κ):
  ∃es' clock' n,MK emb es' clock' (setA l key ((getA l key).getD z))∧StampK emb es' n key∧(Instr.mapEntry t (.map (some b)) (emb key)).run P w= .ok (.tuple #[(getA l key).getD z, .int .i64 (n:Int)]) { w with heap:=w.heap.setIfInBounds b (.map es' clock') } :=by
 rcases he.find key es.toList w hr.isKey with⟨h2,h1⟩ | ⟨j,e,h2,h3,h1⟩
 ·rw[getA_absent (hr.absent h2)]
  refine⟨_,_,clock,hr.setNew (v:=z) (hr.absent h2),⟨es.size,_,by simp;rfl,rfl,rfl⟩,by simp[Instr.mapEntry,run_underlying hu,Go.MapKept.run_getObj_map hb,he.check,h1,run_setObj_map _ hb,Result.andThen,hi.zeroValue,goInt]⟩
 ·have hj:es[j]? =some e:=by simpa using h2
  have hs:(Instr.keyThatStays (emb key) (emb key)).run P w= .ok (emb key) w:=by simp[Instr.keyThatStays,he.stay key]
  obtain⟨p,hp,hp1,hp2⟩:=hr.at h2
  have hpk:p.1=key:=he.inj (hp1.symm.trans h3)
  have hg:=getA_at hr.keys hp
  rw[hpk]at hg
  rw[hg]
  have hm:es.modify j (fun e=> { e with key:=emb key })=es.modify j (fun e=> { e with key:=emb key,val:=p.2 }):=modify_alike hj (by rw[←hp2])
  refine⟨es.modify j (fun e=> { e with key:=emb key,val:=p.2 }),clock,e.born,MK.setOld (v:=p.2) he.inj hr h2 h3,⟨j, { e with key:=emb key,val:=p.2 },by rw[Array.getElem?_toList,Array.getElem?_modify,if_pos rfl,hj];rfl,rfl,rfl⟩,?_⟩
  rw[←hm]
  simp[Instr.mapEntry,run_underlying hu,Go.MapKept.run_getObj_map hb,he.check,h1,hj,h3,hs,run_setObj_map _ hb,Result.andThen,goInt,hp2]
theorem OW.mapEntryK {m x:Operand} {b j n0 by_:Nat} {z:Value} {key:κ} {es:Array MapEntry} {clock:Nat} {l:List (κ×Value)} (hm:ev L m=some (.map (some b))) (hx:ev L x=some (emb key)) [hu:Und P t (.map kt et)] [hi:Inf P et n0 by_ z]
  (hj:At H j (.blk b (.map es clock))) (hr:MK emb es clock l) {v:Value} (hv:(getA l key).getD z=v) (hd:dOk d cx.N=true)
  (k:∀es' clock' n,MK emb es' clock' (setA l key v)→StampK emb es' n key→K (putL d (.tuple #[v, .int .i64 (n:Int)]) L) G (H.set j (.blk b (.map es' clock')))):
  OW P Q ⟨d, .mapEntry t m x,ty,pos,af,gu⟩ cx L G H K:=
 OW.gives hd fun a w st=>by
  obtain⟨es',clock',n,h1,h2,h3⟩:=run_mapEntryK hu.h (st.sat.hold _ (List.mem_of_getElem? hj.get)) hr key
  have hs:=st.swapObj (o':= .map es' clock') hj rfl rfl
  subst hv
  exact⟨_,_,G,_, .inl (by simp[execOp,st.eval hm,st.eval hx,h3]),hs.1,hs.2,k _ _ _ h1 h2⟩
theorem run_entryStoreK {w:World} {b n:Nat} {es:Array MapEntry} {clock:Nat} {l:List (κ×Value)} (hinj:∀ {a b:κ},emb a=emb b→a=b) (hb:w.heap[b]? =some (.map es clock)) (hr:MK emb es clock l) {key:κ} (hst:StampK emb es n key) (v:Value):
  ∃es',MK emb es' clock (setA l key v)∧(Instr.entryStore t (.map (some b)) (.int .i64 (n:Int)) v).run P w= .ok () { w with heap:=w.heap.setIfInBounds b (.map es' clock) } :=by
 obtain⟨j,e,h1,h2,h3⟩:=hst
 have hj:es[j]? =some e:=by simpa using h1
 have hm:es.modify j (fun e=> { e with val:=v })=es.modify j (fun e=> { e with key:=emb key,val:=v }):=modify_alike hj (by rw[←h2])
 have hf:es.findIdx? (fun e=>((e.born:Nat):Int)==(n:Int))=some j:=by
  have hjl:j<es.size:=(Array.getElem?_eq_some_iff.1 hj).1
  have hej:es[j]=e:=(Array.getElem?_eq_some_iff.1 hj).2
  rw[Array.findIdx?_eq_some_iff_getElem]
  refine⟨hjl,by rw[hej,h3];simp,fun i hi=>?_⟩
  simp only[beq_iff_eq]
  intro hb2
  have hbi:es[i].born=n:=by omega
  have e1:(es.toList.map (·.born))[i]? =some n:=by rw[List.getElem?_map,Array.getElem?_toList,Array.getElem?_eq_getElem (by omega)];simp[hbi]
  have e2:(es.toList.map (·.born))[j]? =some n:=by rw[List.getElem?_map,h1];simp[h3]
  have:=(List.getElem?_inj (List.getElem?_eq_some_iff.1 e1).1 hr.borns).1 (e1.trans e2.symm)
  omega
 refine⟨_,MK.setOld (v:=v) hinj hr h1 h2,?_⟩
 rw[←hm]
 simp[Instr.entryStore,Go.MapKept.run_getObj_map hb,asInt,asIntOf,hf,run_setObj_map _ hb,Result.andThen]
theorem OW.entryStoreK {m x y:Operand} {b j n:Nat} {key:κ} {v:Value} {es:Array MapEntry} {clock:Nat} {l:List (κ×Value)} (hm:ev L m=some (.map (some b))) (hx:ev L x=some (.int .i64 (n:Int))) (hy:ev L y=some v)
  (hj:At H j (.blk b (.map es clock))) (hr:MK emb es clock l) (hst:StampK emb es n key) (he:KeyK P kt emb) (hd:dOk d cx.N=true) (k:∀es',MK emb es' clock (setA l key v)→K (putL d undef L) G (H.set j (.blk b (.map es' clock)))):
  OW P Q ⟨d, .entryStore t m x y,ty,pos,af,gu⟩ cx L G H K:=
 OW.gives hd fun a w st=>by
  obtain⟨es',h1,h2⟩:=run_entryStoreK (P:=P) (t:=t) he.inj (st.sat.hold _ (List.mem_of_getElem? hj.get)) hr hst v
  have hs:=st.swapObj (o':= .map es' clock) hj rfl rfl
  exact⟨undef,_,G,_, .inr ⟨rfl,by simp[execOp,st.eval hm,st.eval hx,st.eval hy,h2]⟩,hs.1,hs.2,k _ h1⟩
end
end
theorem bb_iff {a b:ByteArray} :(a==b)=true↔a=b:=Go.MapKept.bytes_beq a b
theorem bb_false {a b:ByteArray} (h:a≠b):(a==b)=false:=by
 cases e:(a==b)with
 | false=>rfl
 | true=>exact absurd (bb_iff.1 e) h
theorem bb_refl (a:ByteArray):(a==a)=true:=bb_iff.2 rfl
instance:LawfulBEq ByteArray where
 eq_of_beq h:=bb_iff.1 h
 rfl:=bb_refl _
def pairsO (o:Ob) (ps:List Pr):List (Ky×Pr):=(ps.filter (·.exp)).map fun p=>((o.path,p.name),p)
def pairsL:List ByteArray→List Ob→List (Ky×Pr)
 | _,[]=>[]
 | seen,o::r=>(if o.path∈seen then []else pairsO o o.procs)++pairsL (seen++[o.path]) r
def expOf (ps:List (Ky×Pr)) (k:Ky):List Pr:=(ps.filter (fun q=>decide (q.1=k))).map (·.2)
theorem expOf_nil (k:Ky):expOf [] k=[]:=rfl
theorem expOf_append (a b:List (Ky×Pr)) (k:Ky):expOf (a++b) k=expOf a k++expOf b k:=by simp[expOf]
theorem expOf_one (k':Ky) (p:Pr) (k:Ky):expOf [(k',p)] k=if k'=k then [p]else []:=by
 unfold expOf
 by_cases h:k'=k<;>simp[h]
theorem expOf_pairsO (o:Ob) (ps:List Pr) (k:Ky):expOf (pairsO o ps) k=if o.path=k.1 then ps.filter (fun p=>p.exp&&p.name==k.2)else []:=by
 induction ps with
 | nil=>simp[expOf,pairsO]
 | cons p r ih=>
  have h1:pairsO o (p::r)=(if p.exp=true then [((o.path,p.name),p)]else [])++pairsO o r:=by
   unfold pairsO
   cases hx:p.exp<;>simp[List.filter_cons,hx]
  rw[h1,expOf_append,ih]
  by_cases hp:p.exp=true
  ·rw[if_pos hp,expOf_one]
   by_cases hk:o.path=k.1
   ·by_cases hn:p.name=k.2
    ·rw[if_pos (by rw[hk,hn]),if_pos hk,List.filter_cons_of_pos (by simp[hp,hn,bb_refl])];rw[if_pos hk];rfl
    ·rw[if_neg (fun e=>hn (congrArg Prod.snd e)),if_pos hk,if_pos hk,List.filter_cons_of_neg (by simp[bb_false hn])];rfl
   ·rw[if_neg (fun e=>hk (congrArg Prod.fst e)),if_neg hk,if_neg hk];rfl
  ·rw[if_neg hp,expOf_nil,List.nil_append]
   by_cases hk:o.path=k.1
   ·rw[if_pos hk,if_pos hk,List.filter_cons_of_neg (by simp[hp])]
   ·rw[if_neg hk,if_neg hk]
theorem expOf_pairsL:∀(l:List Ob) (seen:List ByteArray) (k:Ky),expOf (pairsL seen l) k=if k.1∈seen then []else expL l k
 | [],seen,k=>by simp[pairsL,expOf,expL]
 | o::r,seen,k=>by
  have ih:=expOf_pairsL r (seen++[o.path]) k
  have hX:expOf (if o.path∈seen then []else pairsO o o.procs) k=if o.path∈seen then []else if o.path=k.1 then o.procs.filter (fun p=>p.exp&&p.name==k.2)else []:=by
   by_cases h:o.path∈seen
   ·rw[if_pos h,if_pos h];rfl
   ·rw[if_neg h,if_neg h,expOf_pairsO]
  have hY:(if k.1∈seen++[o.path]then []else expL r k)=if k.1∈seen then []else if o.path=k.1 then []else expL r k:=by
   by_cases h:k.1∈seen
   ·rw[if_pos (List.mem_append_left _ h),if_pos h]
   ·rw[if_neg h]
    by_cases e:o.path=k.1
    ·rw[if_pos (by simp[e]),if_pos e]
    ·rw[if_neg (by simp[h,Ne.symm e]),if_neg e]
  have hE:expL (o::r) k=if o.path=k.1 then o.procs.filter (fun p=>p.exp&&p.name==k.2)else expL r k:=by
   unfold expL
   by_cases e:o.path=k.1
   ·rw[if_pos e,List.find?_cons_of_pos (by rw[e];exact bb_refl _)]
   ·rw[if_neg e,List.find?_cons_of_neg (by simp[bb_false e])]
  rw[pairsL,expOf_append,ih,hX,hY,hE]
  by_cases hs:k.1∈seen
  ·rw[if_pos hs,if_pos hs,List.append_nil]
   by_cases ho:o.path∈seen
   ·rw[if_pos ho]
   ·rw[if_neg ho,if_neg (fun e:o.path=k.1=>ho (by rw[e];exact hs))]
  ·rw[if_neg hs,if_neg hs]
   by_cases e:o.path=k.1
   ·rw[if_neg (by rw[e];exact hs),if_pos e,if_pos e,if_pos e,List.append_nil]
   ·rw[if_neg e,if_neg e,if_neg e]
    by_cases ho:o.path∈seen
    ·rw[if_pos ho];rfl
    ·rw[if_neg ho];rfl
theorem expOf_all (l:List Ob) (k:Ky):expOf (pairsL [] l) k=expL l k:=by rw[expOf_pairsL,if_neg (by simp)]
theorem pairsL_snoc:∀(l:List Ob) (seen:List ByteArray) (o:Ob),pairsL seen (l++[o])=pairsL seen l++(if o.path∈seen++l.map (·.path)then []else pairsO o o.procs)
 | [],seen,o=>by simp[pairsL]
 | a::r,seen,o=>by
  rw[List.cons_append,pairsL,pairsL,pairsL_snoc r,List.map_cons,List.append_assoc,List.append_assoc]
  rfl
def lookC (c:List (Ky×List Pr)) (k:Ky):List Pr:=match c.find? (fun q=>decide (q.1=k))with | some q=>q.2 | none=>[]
def addC (c:List (Ky×List Pr)) (k:Ky) (p:Pr):List (Ky×List Pr):=if k∈c.map (·.1)then c.map (fun q=>if q.1=k then(k,q.2++[p])else q)else c++[(k,[p])]
theorem lookC_at {c:List (Ky×List Pr)} {j:Nat} {q:Ky×List Pr} (hn:(c.map (·.1)).Nodup) (hj:c[j]? =some q):lookC c q.1=q.2:=by
 unfold lookC
 induction c generalizing j with
 | nil=>simp at hj
 | cons a c ih=>
  cases j with
  | zero=>simp at hj;subst hj;simp
  | succ j=>
   simp only[List.getElem?_cons_succ]at hj
   simp only[List.map_cons,List.nodup_cons]at hn
   have hne:a.1≠q.1:=fun e=>hn.1 (e▸List.mem_map_of_mem (List.mem_of_getElem? hj))
   rw[List.find?_cons_of_neg (by simpa using hne)]
   exact ih hn.2 hj
inductive Fam (G:Gh) (T:Nat):List (Ky×Value)→List (Ky×List Pr)→List Own→Prop where
 | nil:Fam G T [] [] []
 | cons {k:Ky} {A:Option Addr} {cap:Nat} {l:List Pr} {x:Own} {m:List (Ky×Value)} {c:List (Ky×List Pr)} {xs:List Own} (h:KVec Kd.prc T G A cap l x) (t:Fam G T m c xs):Fam G T ((k, .slice A l.length cap)::m) ((k,l)::c) (x::xs)
theorem Fam.keys {G:Gh} {T:Nat} {m:List (Ky×Value)} {c:List (Ky×List Pr)} {xs:List Own} (h:Fam G T m c xs):m.map (·.1)=c.map (·.1):=by
 induction h with
 | nil=>rfl
 | cons h t ih=>simp[ih]
theorem Fam.mono {G G':Gh} {T:Nat} {m:List (Ky×Value)} {c:List (Ky×List Pr)} {xs:List Own} (h:Fam G T m c xs) (hg:G.le G'):Fam G' T m c xs:=by
 induction h with
 | nil=>exact .nil
 | cons h t ih=>exact .cons (h.mono hg) ih
theorem Fam.snoc {G:Gh} {T:Nat} {m:List (Ky×Value)} {c:List (Ky×List Pr)} {xs:List Own} (h:Fam G T m c xs) {k:Ky} {A:Option Addr} {cap:Nat} {l:List Pr} {x:Own} (hx:KVec Kd.prc T G A cap l x):
  Fam G T (m++[(k, .slice A l.length cap)]) (c++[(k,l)]) (xs++[x]):=by
 induction h with
 | nil=>exact .cons hx .nil
 | cons h t ih=>exact .cons h ih
theorem Fam.find {G:Gh} {T:Nat} {m:List (Ky×Value)} {c:List (Ky×List Pr)} {xs:List Own} (h:Fam G T m c xs) {k:Ky} (hk:k∈m.map (·.1)):
  ∃(j:Nat) (A:Option Addr) (cap:Nat) (l:List Pr) (x:Own),m[j]? =some (k, .slice A l.length cap)∧c[j]? =some (k,l)∧xs[j]? =some x∧KVec Kd.prc T G A cap l x:=by
 induction h with
 | nil=>cases hk
 | @cons k' A cap l x m c xs hv t ih=>
  simp only[List.map_cons,List.mem_cons]at hk
  by_cases e:k=k'
  ·subst e;exact⟨0,A,cap,l,x,rfl,rfl,rfl,hv⟩
  ·obtain⟨j,h⟩:=ih (hk.resolve_left e)
   exact⟨j+1,h⟩
theorem Fam.set {G:Gh} {T:Nat} {m:List (Ky×Value)} {c:List (Ky×List Pr)} {xs:List Own} (h:Fam G T m c xs) (hn:(m.map (·.1)).Nodup) {k:Ky} {j:Nat} {v:Value} (hj:m[j]? =some (k,v)) {A:Option Addr} {cap:Nat} {l:List Pr} {x:Own} (hx:KVec Kd.prc T G A cap l x):
  Fam G T (m.map fun p=>if p.1=k then(k, .slice A l.length cap)else p) (c.map fun q=>if q.1=k then(k,l)else q) (xs.set j x):=by
 induction h generalizing j with
 | nil=>simp at hj
 | @cons k' A' cap' l' x' m c xs hv t ih=>
  simp only[List.map_cons,List.nodup_cons]at hn
  cases j with
  | zero=>
   simp only[List.getElem?_cons_zero,Option.some.injEq,Prod.mk.injEq]at hj
   obtain⟨rfl,_⟩:=hj
   have e1:m.map (fun p=>if p.1=k' then(k',Value.slice A l.length cap)else p)=m:=by
    conv=>rhs;rw[←List.map_id m]
    exact List.map_congr_left fun p hp=>if_neg fun e=>hn.1 (List.mem_map.2 ⟨p,hp,e⟩)
   have e2:c.map (fun q=>if q.1=k' then(k',l)else q)=c:=by
    conv=>rhs;rw[←List.map_id c]
    exact List.map_congr_left fun p hp=>if_neg fun e=>hn.1 (by rw[t.keys];exact List.mem_map.2 ⟨p,hp,e⟩)
   simp only[List.map_cons,if_true,e1,e2,List.set_cons_zero]
   exact .cons hx t
  | succ j=>
   simp only[List.getElem?_cons_succ]at hj
   have hne:k'≠k:=fun e=>hn.1 (List.mem_map.2 ⟨_,List.mem_of_getElem? hj,e.symm⟩)
   simp only[List.map_cons,if_neg hne,List.set_cons_succ]
   exact .cons hv (ih hn.2 hj)
section
def lkI (w w':Wd) (i i':Int×Int):Prop:=
 if i.1=1 then i'.1=1∧(w'.consts[i'.2.toNat]?).map (·.t)=(w.consts[i.2.toNat]?).map (·.t)
 else if i.1=7 then i'.1=7∧(w'.procs[i'.2.toNat]?).map (fun p=>(p.params,p.result))=(w.procs[i.2.toNat]?).map (fun p=>(p.params,p.result))
 else if i.1=8 then i'.1=7∧(w'.procs[i'.2.toNat]?).map (fun p=>(p.params,p.result))=(w.needs[i.2.toNat]?).map (fun p=>(p.params,p.result))
 else i'=i
section
variable {w w':Wd} {i i':Int×Int} (h:lkI w w' i i')
include h
end
structure lkP (w w':Wd) (p p':Pr):Prop where
 name:p'.name=p.name
 params:p'.params=p.params
 locals:p'.locals=p.locals
 result:p'.result=p.result
 len:p'.code.length=p.code.length
 ins:∀(k:Nat) i,p.code[k]? =some i→∃i',p'.code[k]? =some i'∧lkI w w' i i'
section
variable {w w':Wd} {p p':Pr} (h:lkP w w' p p')
include h
end
end
section
open Go.MapKept
attribute [local irreducible] Tryz.prog
theorem allR_zero {w:Wd} (h:(allR w).2.2=0):∀j,j<w.procs.length→(outAt w j).2=0:=by
 unfold allR at h
 split at h
 ·rename_i k hk
  have:=List.find?_some hk
  simp at this
  exact absurd h this
 ·rename_i hk
  intro j hj
  have:=List.find?_eq_none.1 hk j (by simpa using hj)
  simpa using this
theorem outAt_zero {w:Wd} {k:Nat} {p:Pr} (hp:w.procs[k]? =some p) (h:(outAt w k).2=0):procR p=true∧p.name∉(w.procs.take k).map (·.name)∧(∀(j:Nat) (i:Int×Int),p.code[j]? =some i→aloneR w p i=0)∧(wrongR w p (flowOf w p)).2=0:=by
 rw[outAt_eq hp]at h
 unfold procOut at h
 split at h
 ·cases h
 rename_i hn
 split at h
 ·rename_i ha;exact absurd h ha
 rename_i ha
 refine⟨?_,fun hm=>hn (.inr hm),fun j i hi=>?_,h⟩
 ·cases hq:procR p with
  | true=>rfl
  | false=>exact absurd (.inl hq) hn
 ·have ha':(firstR p.code.length (aloneAt w p)).2=0:=by simpa using ha
  unfold firstR at ha'
  split at ha'
  ·rename_i k hk
   have:=List.find?_some hk
   simp at this
   exact absurd ha' this
  ·rename_i hk
   have:=List.find?_eq_none.1 hk j (by simpa using(List.getElem?_eq_some_iff.1 hi).1)
   have h2:aloneAt w p j=0:=by simpa using this
   unfold aloneAt at h2
   rw[hi]at h2
   exact h2
theorem objAns_zero {o:Ob} (h:(objAns o).2.2=0):objR o=true∧(allR o.wd).2.2=0:=by
 unfold objAns at h
 split at h
 ·exact⟨by assumption,h⟩
 ·cases h
noncomputable def findE (o:Ob) (n:Int):Int:=if(objAns o).2.2≠0 then(objAns o).2.2 else if n<0∨(o.procs.length:Int)≤n then 1 else 0
section
variable (G:Gh) (hE:Env G) (o:Ob) (CA NA PA:Option Addr) (cc nc pc:Nat) (hO:ORep G o CA NA PA) (hL:OLim o) (n:Int)
include hE hO hL
end
end
section
open Go.MapKept
attribute [local irreducible] Tryz.prog
def hghR (s:SS):Int:=if s.reached then(s.stack.length:Int)else -1
noncomputable def statesR (o:Ob) (n:Int):List SS:=match o.procs[n.toNat]? with | some p=>flowOf o.wd p | none=>[]
noncomputable def heightsR (o:Ob) (n:Int):List Int:=if findE o n=0 then(statesR o n).map hghR else []
section
variable (G:Gh) (hE:Env G) (o:Ob) (CA NA PA:Option Addr) (cc nc pc:Nat) (hO:ORep G o CA NA PA) (hL:OLim o) (n:Int)
include hE hO hL
noncomputable def typesE (o:Ob) (n k:Int):Int:=if findE o n≠0 then findE o n else if k<0∨((statesR o n).length:Int)≤k then 1 else 0
noncomputable def typesR (o:Ob) (n k:Int):List Int×List Int:=if typesE o n k=0 then(match (statesR o n)[k.toNat]? with | some s=>(s.vars,s.stack) | none=>([],[]))else([],[])
end
end
section
open Go.MapKept
def wayS (v st:List Int):SS:=⟨true,false,v,st⟩
structure Taken (w:Wd) (p:Pr) (l:List SS):Prop where
 pok:POk w p
 clo:Closed w p l
 par:∀q∈w.procs,∀x∈q.params,x≠0
 npar:∀q∈w.needs,∀x∈q.params,x≠0
 cons:∀v∈w.consts,v.t≠0
 may:∀(k:Nat) (i:Int×Int),p.code[k]? =some i→mayR i.1 i.2=true
 well:∀(k:Nat) (s:SS) (i:Int×Int),l[k]? =some s→p.code[k]? =some i→s.reached=true→metR w p k i s=0
structure Way (w:Wd) (p:Pr) (l:List SS) (k:Nat) (v st:List Int):Prop where
 at_:∃t,l[k]? =some t∧(wayS v st).le t
structure Stand (w:Wd) (p:Pr) (l:List SS) (k:Nat) (v st:List Int) (t:SS) (i:Int×Int):Prop where
 told:l[k]? =some t
 ins:p.code[k]? =some i
 vars:LeR v t.vars
 stack:LeR st t.stack
 unl:t.unlike=false
 rch:t.reached=true
 wf:t.wf p.locals.toNat
 vlen:v.length=p.locals.toNat
 bad:¬badS w i (wayS v st)
 kinds:kindsR w p i (wayS v st) (st.drop (st.length - (effC w v i).1))=true
 ret:i.1=9→p.result=0
 give:i.1=10→p.result≠0
 jumps:∀x∈nextR i k,x<p.code.length
def layR (w:Wd) (v:List Int) (i:Int×Int):Int:=
 if i.1=1 then((w.consts[i.2.toNat]?).map (·.t)).getD 0
 else if i.1=2 then(v[i.2.toNat]?).getD 0
 else if i.1=7 then((w.procs[i.2.toNat]?).map (·.result)).getD 0
 else if i.1=8 then((w.needs[i.2.toNat]?).map (·.result)).getD 0
 else if i.1=20 then 3
 else if 12≤i.1∧i.1≤17 then 2
 else if i.1=25 then 2
 else(rowC i.1).lays
end
section
open Go.MapKept
end
section
theorem sumP_cons (o:Ob) (l:List Ob):sumP (o::l)=o.procs.length+sumP l:=by simp[sumP]
theorem sumC_cons (o:Ob) (l:List Ob):sumC (o::l)=o.consts.length+sumC l:=by simp[sumC]
theorem join_len (L:List (ByteArray×Pr)):∀(l:List Ob) (cs ps:Nat),(joinP L l cs ps).length=sumP l
 | [],_,_=>rfl
 | o::r,cs,ps=>by rw[joinP,List.length_append,List.length_map,join_len L r,sumP_cons]
theorem all_at:∀(l:List Ob) {k j:Nat} {o:Ob} {p:Pr},l[k]? =some o→o.procs[j]? =some p→(allPr l)[sumP (l.take k)+j]? =some (o.path,p)
 | [],k,j,o,p,hk,_=>by simp at hk
 | a::r,0,j,o,p,hk,hj=>by
  simp only[List.getElem?_cons_zero,Option.some.injEq]at hk
  subst hk
  have hl:=(List.getElem?_eq_some_iff.1 hj).1
  unfold allPr
  rw[List.flatMap_cons,List.take_zero,show sumP []=0 from rfl,Nat.zero_add,List.getElem?_append_left (by simpa using hl),List.getElem?_map,hj]
  rfl
 | a::r,k+1,j,o,p,hk,hj=>by
  simp only[List.getElem?_cons_succ]at hk
  have ih:=all_at r hk hj
  unfold allPr at ih⊢
  rw[List.flatMap_cons,List.take_succ_cons,sumP_cons,List.getElem?_append_right (by simp;omega),List.length_map,show a.procs.length+sumP (r.take k)+j - a.procs.length=sumP (r.take k)+j by omega,ih]
theorem all_len (l:List Ob):(allPr l).length=sumP l:=by
 induction l with
 | nil=>rfl
 | cons a r ih=>unfold allPr at ih⊢;rw[List.flatMap_cons,List.length_append,ih,sumP_cons,List.length_map]
theorem consts_len (l:List Ob):(l.flatMap (·.consts)).length=sumC l:=by
 induction l with
 | nil=>rfl
 | cons a r ih=>rw[List.flatMap_cons,List.length_append,ih,sumC_cons]
theorem sumP_take_le (l:List Ob) (k:Nat):sumP (l.take k)≤sumP l:=by
 induction l generalizing k with
 | nil=>simp[sumP]
 | cons a r ih=>cases k with
  | zero=>simp[sumP]
  | succ k=>rw[List.take_succ_cons,sumP_cons,sumP_cons];have:=ih k;omega
theorem sumC_take_le (l:List Ob) (k:Nat):sumC (l.take k)≤sumC l:=by
 induction l generalizing k with
 | nil=>simp[sumC]
 | cons a r ih=>cases k with
  | zero=>simp[sumC]
  | succ k=>rw[List.take_succ_cons,sumC_cons,sumC_cons];have:=ih k;omega
theorem sumP_at {l:List Ob} {k j:Nat} {o:Ob} (hk:l[k]? =some o) (hj:j<o.procs.length):sumP (l.take k)+j<sumP l:=by
 have h:=all_at l hk (List.getElem?_eq_getElem hj)
 have:=(List.getElem?_eq_some_iff.1 h).1
 rw[all_len]at this;exact this
def keyP (q:ByteArray×Pr):Ky:=(q.1,q.2.name)
theorem atL_of {L:List (ByteArray×Pr)} (hn:(L.map keyP).Nodup) {n:Nat} {q:ByteArray×Pr} (h:L[n]? =some q):atL L (keyP q)=(n:Int):=by
 have hl:=(List.getElem?_eq_some_iff.1 h).1
 unfold atL
 have huniq:∀j,(decide ((L[j]?).map (fun q=>(q.1,q.2.name))=some (keyP q)))=true→j=n:=by
  intro j hj
  have h1:(L.map keyP)[j]? =some (keyP q):=by rw[List.getElem?_map];exact of_decide_eq_true hj
  have h2:(L.map keyP)[n]? =some (keyP q):=by rw[List.getElem?_map,h];rfl
  exact(List.getElem?_inj (List.getElem?_eq_some_iff.1 h1).1 hn).1 (h1.trans h2.symm)
 cases hf:(List.range L.length).reverse.find? (fun j=>decide ((L[j]?).map (fun q=>(q.1,q.2.name))=some (keyP q)))with
 | none=>
  rw[List.find?_eq_none]at hf
  exact absurd (decide_eq_true (by rw[h];rfl)) (hf n (by simpa using hl))
 | some j=>
  have h9:=List.find?_some hf
  obtain rfl:j=n:=huniq j h9
  rfl
theorem all_nodup {l:List Ob} (hp:(l.map (·.path)).Nodup) (hn:∀o∈l,(o.procs.map (·.name)).Nodup):((allPr l).map keyP).Nodup:=by
 induction l with
 | nil=>exact List.nodup_nil
 | cons a r ih=>
  simp only[List.map_cons,List.nodup_cons]at hp
  unfold allPr
  rw[List.flatMap_cons,List.map_append,List.nodup_append]
  refine⟨?_,ih hp.2 fun o ho=>hn o (List.mem_cons_of_mem _ ho),fun x hx y hy e=>?_⟩
  ·rw[List.map_map]
   have h1:=hn a (List.mem_cons_self ..)
   have h2:(a.procs.map (keyP∘fun p=>(a.path,p)))=(a.procs.map (·.name)).map fun n=>(a.path,n):=by rw[List.map_map];rfl
   rw[h2]
   exact List.Pairwise.map _ (fun x y h e=>h (congrArg Prod.snd e)) h1
  ·subst e
   obtain⟨q,hq,rfl⟩:=List.mem_map.1 hx
   obtain⟨p,_,rfl⟩:=List.mem_map.1 hq
   obtain⟨q2,hq2,e2⟩:=List.mem_map.1 hy
   obtain⟨o,ho,hq3⟩:=List.mem_flatMap.1 hq2
   obtain⟨p2,_,rfl⟩:=List.mem_map.1 hq3
   exact hp.1 (List.mem_map.2 ⟨o,ho,congrArg Prod.fst e2⟩)
theorem missStep_ne {l:List Ob} {acc:List Nd} (h:acc≠ []) (n:Nd):missStep l acc n≠ []:=by
 unfold missStep
 split
 ·exact h
 ·simp
theorem foldl_ne {l:List Ob} :∀(ns:List Nd) {acc:List Nd},acc≠ []→ns.foldl (missStep l) acc≠ []
 | [],_,h=>h
 | n::ns,_,h=>foldl_ne ns (missStep_ne h n)
theorem foldl_met {l:List Ob} :∀(ns:List Nd),ns.foldl (missStep l) []=[]→∀n∈ns,metL l n=true
 | [],_,_,h=>by cases h
 | a::ns,h,n,hn=>by
  rw[List.foldl_cons]at h
  have h1:metL l a=true:=by
   cases hm:metL l a with
   | true=>rfl
   | false=>
    refine absurd h (foldl_ne ns ?_)
    unfold missStep
    rw[hm];simp
  have h2:missStep l [] a=[]:=by unfold missStep;rw[h1];rfl
  rw[h2]at h
  rcases List.mem_cons.1 hn with rfl | hn
  ·exact h1
  ·exact foldl_met ns h n hn
theorem names_nodup {o:Ob} (h:(objAns o).2.2=0):(o.procs.map (·.name)).Nodup:=by
 have h1:=allR_zero (objAns_zero h).2
 have h2:=okSoFar_nodup (w:=o.wd) (k:=o.procs.length) (Nat.le_refl _) (fun j hj=>h1 j hj)
 rwa [show o.wd.procs=o.procs from rfl,List.take_length]at h2
theorem aloneR_zero {w:Wd} {p:Pr} {i:Int×Int} (h:aloneR w p i=0):mayR i.1 i.2=true∧((i.1=5∨i.1=6)→i.2<(p.code.length:Int))∧
  i.2<(if i.1=1 then(w.consts.length:Int)else if i.1=2∨i.1=3 then p.locals else if i.1=7 then(w.procs.length:Int)else if i.1=8 then(w.needs.length:Int)else 2147483647):=by
 unfold aloneR at h
 by_cases h1:mayR i.1 i.2=false
 ·rw[if_pos h1]at h;cases h
 rw[if_neg h1]at h
 by_cases h2:(i.1=5∨i.1=6)∧(p.code.length:Int)≤i.2
 ·rw[if_pos h2]at h;cases h
 rw[if_neg h2]at h
 refine⟨by simpa using h1,fun h4=>by have:=fun x=>h2 ⟨h4,x⟩;omega,?_⟩
 apply Int.lt_of_not_ge
 intro h3
 rw[if_pos h3]at h
 cases h
theorem mayR_le {c n:Int} (h:mayR c n=true):0≤n∧n≤2147483647∧((rowC c).name != ⟨#[]⟩)=true:=by
 unfold mayR at h
 simp only[Bool.and_eq_true,decide_eq_true_eq]at h
 exact⟨h.2.1,h.2.2.1,h.1⟩
def linkW (l:List Ob):Wd:=⟨l.flatMap (·.consts),[],joinP (allPr l) l 0 0⟩
section
variable {l:List Ob} (hv:∀o∈l,(objAns o).2.2=0) (hp:(l.map (·.path)).Nodup) (hm:missL l=[])
include hv hp hm
end
end
section
theorem lookC_addC (c:List (Ky×List Pr)) (k:Ky) (p:Pr) (k':Ky):lookC (addC c k p) k'=if k'=k then lookC c k++[p]else lookC c k':=by
 unfold addC
 by_cases hk:k∈c.map (·.1)
 ·rw [if_pos hk]
  have hf:∀x:Ky,(c.map fun q=>if q.1=k then(k,q.2++[p])else q).find? (fun q=>decide (q.1=x))=(c.find? (fun q=>decide (q.1=x))).map fun q=>if q.1=k then(k,q.2++[p])else q:=by
   intro x
   rw[List.find?_map]
   congr 2
   funext q
   simp only[Function.comp]
   by_cases e:q.1=k<;>simp[e]
  unfold lookC
  rw[hf]
  by_cases e:k'=k
  ·subst e
   rw[if_pos rfl]
   cases hx:c.find? (fun q=>decide (q.1=k'))with
   | none=>
    rw[List.find?_eq_none]at hx
    obtain⟨q,hq,e⟩:=List.mem_map.1 hk
    exact absurd (decide_eq_true e) (hx q hq)
   | some q=>
    have:=of_decide_eq_true (List.find?_some (p:=fun q:Ky×List Pr=>decide (q.1=k')) hx)
    simp[this]
  ·rw[if_neg e]
   cases hx:c.find? (fun q=>decide (q.1=k'))with
   | none=>rfl
   | some q=>
    have:=of_decide_eq_true (List.find?_some (p:=fun q:Ky×List Pr=>decide (q.1=k')) hx)
    have h2:q.1≠k:=fun h=>e (this.symm.trans h)
    simp[h2]
 ·rw [if_neg hk]
  unfold lookC
  rw[List.find?_append]
  by_cases e:k'=k
  ·subst e
   have hn:c.find? (fun q=>decide (q.1=k'))=none:=by
    rw[List.find?_eq_none]
    intro q hq h
    exact hk (List.mem_map.2 ⟨q,hq,of_decide_eq_true h⟩)
   rw[if_pos rfl,hn]
   simp
  ·rw[if_neg e]
   have:([(k,[p])]:List (Ky×List Pr)).find? (fun q=>decide (q.1=k'))=none:=by simp[Ne.symm e]
   rw[this,Option.or_none]
theorem setA_twice {m:List (Ky×Value)} {k:Ky} (h:k∈m.map (·.1)) (v v':Value):setA (setA m k v) k v'=m.map fun p=>if p.1=k then(k,v')else p:=by
 have h1:setA m k v=m.map fun p=>if p.1=k then(k,v)else p:=by unfold setA;rw[if_pos h]
 have h2:k∈(setA m k v).map (·.1):=by rw[h1,keys_set];exact h
 rw[setA,if_pos h2,h1,List.map_map]
 apply List.map_congr_left
 intro p _
 simp only[Function.comp]
 by_cases e:p.1=k<;>simp[e]
theorem setA_fresh {m:List (Ky×Value)} {k:Ky} (h:k∉m.map (·.1)) (v v':Value):setA (setA m k v) k v'=m++[(k,v')]:=by
 have h1:setA m k v=m++[(k,v)]:=by unfold setA;rw[if_neg h]
 have h2:k∈(setA m k v).map (·.1):=by rw[h1];simp
 rw[setA,if_pos h2,h1,List.map_append]
 congr 1
 ·conv=>rhs;rw[←List.map_id m]
  exact List.map_congr_left fun p hp=>if_neg fun e=>h (List.mem_map.2 ⟨p,hp,e⟩)
 ·simp
theorem Fam.old {G:Gh} {T:Nat} {m:List (Ky×Value)} {c:List (Ky×List Pr)} {xs:List Own} (h:Fam G T m c xs) (hn:(m.map (·.1)).Nodup) {k:Ky} (hk:k∈m.map (·.1)) (p:Pr):
  ∃(j:Nat) (A:Option Addr) (cap:Nat) (l:List Pr) (x:Own),getA m k=some (.slice A l.length cap)∧xs[j]? =some x∧KVec Kd.prc T G A cap l x∧lookC c k=l∧
   ∀v A' cap' x',KVec Kd.prc T G A' cap' (l++[p]) x'→Fam G T (setA (setA m k v) k (.slice A' (l++[p]).length cap')) (addC c k p) (xs.set j x'):=by
 obtain⟨j,A,cap,l,x,h1,h2,h3,h4⟩:=h.find hk
 have hcn:(c.map (·.1)).Nodup:=by rw[←h.keys];exact hn
 refine⟨j,A,cap,l,x,getA_at hn h1,h3,h4,lookC_at hcn h2,fun v A' cap' x' hx=>?_⟩
 have hadd:addC c k p=c.map fun q=>if q.1=k then(k,l++[p])else q:=by
  unfold addC
  rw[if_pos (by rw[←h.keys];exact hk)]
  apply List.map_congr_left
  intro q hq
  by_cases e:q.1=k
  ·obtain⟨i,hi⟩:=List.mem_iff_getElem?.1 hq
   have e1:(c.map (·.1))[i]? =some k:=by rw[List.getElem?_map,hi];simp[e]
   have e2:(c.map (·.1))[j]? =some k:=by rw[List.getElem?_map,h2];rfl
   have:=(List.getElem?_inj (List.getElem?_eq_some_iff.1 e1).1 hcn).1 (e1.trans e2.symm)
   subst this
   have:=Option.some.inj (hi.symm.trans h2)
   subst this
   simp
  ·simp[e]
 rw[setA_twice hk,hadd]
 exact h.set hn h1 hx
theorem Fam.new {G:Gh} {T:Nat} {m:List (Ky×Value)} {c:List (Ky×List Pr)} {xs:List Own} (h:Fam G T m c xs) {k:Ky} (hk:k∉m.map (·.1)) (p:Pr) (v:Value) {A':Option Addr} {cap':Nat} {x':Own} (hx:KVec Kd.prc T G A' cap' [p] x'):
  Fam G T (setA (setA m k v) k (.slice A' [p].length cap')) (addC c k p) (xs++[x']):=by
 rw[setA_fresh hk]
 unfold addC
 rw[if_neg (by rw[←h.keys];exact hk)]
 exact h.snoc hx
def ExpM (G:Gh) (l:List Ob) (m:List (Ky×Value)):Prop:=∀k,∃A cap,(getA m k).getD (.slice none 0 0)= .slice A (expL l k).length cap∧Sl Kd.prc G A (expL l k)
theorem At.ofGet {l:List Own} {j:Nat} {x:Own} (h:l[j]? =some x):At l j x:=by
 induction l generalizing j with
 | nil=>simp at h
 | cons a l ih=>
  cases j with
  | zero=>simp at h;subst h;exact .here
  | succ j=>exact .there (ih (by simpa using h))
section
variable {P:Program} {Q:Exit→Act→World→Prop} {cx:Cx} {L:List (Nat×Value)}
theorem WK.freezeFam {K:Act→World→Prop} {T:Nat} {F:List Own} :∀(xs:List Own) {m:List (Ky×Value)} {c:List (Ky×List Pr)} {G:Gh},Fam G T m c xs→
  (∀G',G.le G'→(∀k,∃A cap,(getA m k).getD (.slice none 0 0)= .slice A (lookC c k).length cap∧Sl Kd.prc G' A (lookC c k))→WK K cx L G' F)→WK K cx L G (xs++F)
 | [],m,c,G,hf,h=>by
  cases hf
  exact h G (Gh.le_refl _) fun k=>⟨none,0,rfl,Sl.nil _ _ _⟩
 | x::xs,m,c,G,hf,h=>by
  cases hf with
  | @cons k0 A cap l _ m c _ hv t=>
   refine WK.freezeK (by decide) hv .here fun G1 hg1 hs=>?_
   refine WK.freezeFam xs (t.mono hg1) fun G2 hg2 hk=>h G2 (Gh.le_trans hg1 hg2) fun k=>?_
   by_cases e:k0=k
   ·subst e
    refine⟨A,cap,?_,?_⟩
    ·simp[getA,lookC]
    ·have:lookC ((k0,l)::c) k0=l:=by simp[lookC]
     rw[this];exact hs.mono hg2
   ·obtain⟨A1,c1,h1,h2⟩:=hk k
    have e1:getA ((k0,Value.slice A l.length cap)::m) k=getA m k:=by simp[getA,e]
    have e2:lookC ((k0,l)::c) k=lookC c k:=by simp[lookC,e]
    rw[e1,e2]
    exact⟨A1,c1,h1,h2⟩
end
end
section
open Go.MapKept
def kyV (k:Ky):Value:= .agg #[.string k.1, .string k.2]
theorem lists_ne {a b:ByteArray} (h:a≠b):(a.toList==b.toList)=false:=by
 cases e:(a.toList==b.toList)with
 | false=>rfl
 | true=>rw[←beq_toListBytes]at e;exact absurd (bb_iff.1 e) h
theorem spot_eq (a b:Ky) (w:World):(Op.equal 140 (kyV a) (kyV b)).run Tryz.prog w= .ok (decide (a=b)) w:=by
 obtain⟨a1,a2⟩:=a
 obtain⟨b1,b2⟩:=b
 have h2:Tryz.prog.underlying 140=some (.struct (Tryz.prog.fieldsOf 140)):=by kernel_rfl
 have h3:Tryz.prog.stoodInHeld 140=false:=by kernel_rfl
 have key:(Op.eqFields 9999 #[.string a1, .string a2] #[.string b1, .string b2] (Tryz.prog.fieldsOf 140).toList).run Tryz.prog w= .ok (decide ((a1,a2)=(b1,b2))) w:=by
  have a0:=fun w=>(inferInstance:Agg Tryz.prog 9 false).h w
  have u0:Tryz.prog.underlying 9=some .string:=Und.h
  simp only[Program.fieldsOf,Tryz.underlying140]
  simp only[Op.eqFields,part,Sem.run_bind,a0,Result.andThen_ok,Sem.run_ite]
  have r:=fun(x y:ByteArray) (w:World)=>run_equalIn_string (P:=Tryz.prog) w 9998 9 x y u0
  by_cases q1:a1=b1<;>by_cases q2:a2=b2
  ·subst q1 q2;simp[r]
  ·subst q1
   have:(a2.toList==b2.toList)=false:=lists_ne q2
   simp[r,this,q2]
  ·subst q2
   have:(a1.toList==b1.toList)=false:=lists_ne q1
   simp[r,this,q1]
  ·have:(a1.toList==b1.toList)=false:=lists_ne q1
   simp[r,this,q1]
 unfold Op.equal
 show(Op.equalIn (9999+1) _ (.agg _) (.agg _)).run _ w=_
 rw[run_equalIn_agg w 9999 _ _ _ h2 h3,key]
theorem str_check (n:Nat) (e:Bool) (x:ByteArray) (w:World):(Instr.checkKey e (n+1) 9 (.string x)).run Tryz.prog w= .ok () w:=by
 have u0:Tryz.prog.underlying 9=some .string:=Und.h
 exact run_checkKey u0 (by exact trivial) e n
theorem spot_check_n (n:Nat) (a:Ky) (e:Bool) (w:World):(Instr.checkKey e (n+1+1) 140 (kyV a)).run Tryz.prog w= .ok () w:=by
 have a0:=fun w=>(inferInstance:Agg Tryz.prog 9 false).h w
 rw[Instr.checkKey.eq_def]
 simp[kyV,run_underlying Tryz.underlying140,part,a0,str_check,Result.andThen]
theorem spot_check (a:Ky) (e:Bool) (w:World):(Instr.checkKey e 10000 140 (kyV a)).run Tryz.prog w= .ok () w:=spot_check_n 9998 a e w
theorem spot_inj {a b:Ky} (h:kyV a=kyV b):a=b:=by
 obtain⟨a1,a2⟩:=a
 obtain⟨b1,b2⟩:=b
 simp[kyV]at h
 rw[h.1,h.2]
theorem spot_stay_n (n:Nat) (a:Ky):Instr.sameBits (n+1+1) (kyV a) (kyV a)=true:=by simp[kyV,Instr.sameBits,bb_refl]
theorem spot_stay (a:Ky):Instr.sameBits 10000 (kyV a) (kyV a)=true:=spot_stay_n 9998 a
instance:KeyK Tryz.prog 140 kyV:=KeyK.ofEqual (ds:= .struct (Tryz.prog.fieldsOf 140)) kr (fun a b=>rfl) spot_inj spot_check spot_stay spot_eq
end
section
open Go.MapKept
attribute [local irreducible] Tryz.prog pairsL expOf
def Kd.ob:Kd Ob where
 n:=4
 K G o cs:=∃CA cc NA nc PA pc,cs=[.string o.path, .slice CA o.consts.length cc, .slice NA o.needs.length nc, .slice PA o.procs.length pc]∧ORep G o CA NA PA
 mono hg h:=let ⟨CA,cc,NA,nc,PA,pc,h1,h2⟩:=h;⟨CA,cc,NA,nc,PA,pc,h1,h2.mono hg⟩
 len h:=by obtain⟨CA,cc,NA,nc,PA,pc,h1,_⟩:=h;rw[h1];rfl
 one h:=by obtain⟨CA,cc,NA,nc,PA,pc,h1,_⟩:=h;rw[h1];rfl
theorem getA_setA_ne {κ:Type} [DecidableEq κ] (m:List (κ×Value)) {k k':κ} (v:Value) (h:k'≠k):getA (setA m k v) k'=getA m k':=by
 unfold setA
 split
 ·unfold getA
  rw[List.find?_map]
  have e:((fun p:κ×Value=>decide (p.1=k'))∘fun p=>if p.1=k then(k,v)else p)=fun p=>decide (p.1=k'):=by
   funext p
   simp only[Function.comp]
   by_cases e:p.1=k<;>simp[e]
  rw[e]
  cases hx:m.find? (fun p=>decide (p.1=k'))with
  | none=>rfl
  | some q=>
   have h1:=of_decide_eq_true (List.find?_some (p:=fun p:κ×Value=>decide (p.1=k')) hx)
   have h2:q.1≠k:=fun e=>h (h1.symm.trans e)
   simp[h2]
 ·unfold getA
  rw[List.find?_append]
  have:([(k,v)]:List (κ×Value)).find? (fun p=>decide (p.1=k'))=none:=by simp[Ne.symm h]
  rw[this,Option.or_none]
theorem pairsO_len (o:Ob) (ps:List Pr):(pairsO o ps).length≤ps.length:=by
 unfold pairsO
 rw[List.length_map]
 exact List.length_filter_le _ _
theorem pairsL_len:∀(l:List Ob) (seen:List ByteArray),(pairsL seen l).length≤(l.map (·.procs.length)).sum
 | [],_=>by rw[pairsL];simp
 | o::r,seen=>by
  rw[pairsL,List.length_append,List.map_cons,List.sum_cons]
  have h1:=pairsL_len r (seen++[o.path])
  have h2:=pairsO_len o o.procs
  split
  ·simp only[List.length_nil];omega
  ·omega
theorem expOf_len (ps:List (Ky×Pr)) (k:Ky):(expOf ps k).length≤ps.length:=by
 unfold expOf
 rw[List.length_map]
 exact List.length_filter_le _ _
theorem pairsO_snoc {o:Ob} {j:Nat} {p:Pr} (hp:o.procs[j]? =some p):pairsO o (o.procs.take (j+1))=pairsO o (o.procs.take j)++(if p.exp=true then [((o.path,p.name),p)]else []):=by
 rw[take_snoc' hp]
 unfold pairsO
 rw[List.filter_append,List.map_append]
 cases h:p.exp<;>simp[List.filter_cons,h]
def cntS (l:List ByteArray) (s:ByteArray):Nat:=(l.filter (· ==s)).length
theorem cntS_snoc (l:List ByteArray) (a s:ByteArray):cntS (l++[a]) s=cntS l s+(if a=s then 1 else 0):=by
 unfold cntS
 rw[List.filter_append,List.length_append]
 by_cases h:a=s
 ·subst h;simp[List.filter_cons,bb_refl]
 ·simp[List.filter_cons,bb_false h,h]
theorem cntS_zero {l:List ByteArray} {s:ByteArray} :cntS l s=0↔s∉l:=by
 unfold cntS
 rw[List.length_eq_zero_iff,List.filter_eq_nil_iff]
 constructor
 ·exact fun h hm=>h s hm (bb_refl s)
 ·intro h a ha e;exact h ((bb_iff.1 e)▸ha)
theorem cntS_le (l:List ByteArray) (s:ByteArray):cntS l s≤l.length:=List.length_filter_le _ _
def CntM (pm:List (ByteArray×Value)) (l:List ByteArray):Prop:=∀s,(getA pm s).getD (.int .i64 0)= .int .i64 (cntS l s:Int)
theorem CntM.nil:CntM [] []:=fun s=>rfl
theorem CntM.snoc {pm:List (ByteArray×Value)} {l:List ByteArray} (h:CntM pm l) (a:ByteArray):CntM (setA pm a (.int .i64 ((cntS l a+1:Nat):Int))) (l++[a]):=fun s=>by
 rw[cntS_snoc]
 by_cases e:a=s
 ·subst e;rw[getA_setA,if_pos rfl];rfl
 ·rw[getA_setA_ne pm _ (Ne.symm e),if_neg e];exact h s
theorem WK.tailFirst {cx:Cx} {L:List (Nat×Value)} {G:Gh} {K:Act→World→Prop} {x y:Own} {xs:List Own} (h:WK K cx L G (xs++[y])):WK K cx L G (x::y::xs):=fun a w st=>
 h a w ((st.weaken (fun _ _ e=>e) (List.sublist_cons_self ..)).perm (List.perm_append_singleton y xs).symm)
theorem sumP_mem {l:List Ob} {o:Ob} (h:o∈l):o.procs.length≤sumP l:=by
 induction l with
 | nil=>cases h
 | cons a r ih=>
  unfold sumP at ih⊢
  rw[List.map_cons,List.sum_cons]
  rcases List.mem_cons.1 h with rfl | h
  ·omega
  ·have:=ih h;omega
theorem sumP_snoc_le {l:List Ob} {i:Nat} {o:Ob} (h:l[i]? =some o):sumP (l.take i)+o.procs.length≤sumP l:=by
 induction l generalizing i with
 | nil=>simp at h
 | cons a r ih=>
  unfold sumP at ih⊢
  cases i with
  | zero=>simp at h;subst h;simp
  | succ i=>rw[List.take_succ_cons,List.map_cons,List.sum_cons,List.map_cons,List.sum_cons];have:=ih (by simpa using h);omega
theorem WK.lastOne {cx:Cx} {L:List (Nat×Value)} {G:Gh} {K:Act→World→Prop} {x a b c:Own} {xs:List Own} (h:WK K cx L G (a::b::c::(xs++[x]))):WK K cx L G (x::a::b::c::xs):=fun a' w st=>
 h a' w (st.perm (List.perm_append_singleton x (a::b::c::xs)).symm)
structure EL where
 i:Nat
 pes:Array MapEntry
 pck:Nat
 pm:List (ByteArray×Value)
 es:Array MapEntry
 ck:Nat
 m:List (Ky×Value)
 c:List (Ky×List Pr)
 xs:List Own
structure EI where
 j:Nat
 es:Array MapEntry
 ck:Nat
 m:List (Ky×Value)
 c:List (Ky×List Pr)
 xs:List Own
set_option maxRecDepth 20000 in
set_option maxHeartbeats 4000000 in
theorem exported_fn (G:Gh) (A:Option Addr) (cap:Nat) (l:List Ob) (hl:Sl Kd.ob G A l) (hlen:l.length≤1048576) (hsum:sumP l≤1048576):
  Fn Tryz.prog 35 #[.slice A l.length cap] G [] fun e G' H'=>∃mb es ck m,e= .returned (.map (some mb))∧G.le G'∧MK kyV es ck m∧ExpM G' l m∧H'=[.blk mb (.map es ck)]:=by
 refine Fn.enter Tryz.func35 rfl rfl fun w0=>?_
 refine gom ?_
 refine WL.oo (OW.makeMap rfl fun b10=>?_)
 refine gom ?_
 refine WL.oo (OW.makeMap rfl fun b11=>?_)
 refine gom ?_
 refine WC.loop (X:=EL) (fun x=>[(3, .map (some b10)),(4, .map (some b11)),(12, .slice A l.length cap),(13, .int .i64 l.length),(14, .int .i64 x.i)]) (fun _=>G) (fun x=> .blk b11 (.map x.pes x.pck):: .blk b10 (.map x.es x.ck)::x.xs) (fun x=>l.length - x.i)
  (fun x=>x.i≤l.length∧MRel Value.string .string x.pes x.pck x.pm∧CntM x.pm ((l.take x.i).map (·.path))∧MK kyV x.es x.ck x.m∧Fam G 47 x.m x.c x.xs∧∀k,lookC x.c k=expOf (pairsL [] (l.take x.i)) k)
  ⟨0, #[],0,[], #[],0,[],[],[]⟩ ⟨Nat.zero_le _,MRel.empty,CntM.nil,MK.empty, .nil,fun k=>by show lookC [] k=expOf (pairsL [] (l.take 0)) k;rw[List.take_zero,pairsL,expOf_nil];rfl⟩ (by exact⟨rfl,rfl,rfl,rfl,rfl,trivial⟩) rfl (List.Sublist.refl _) fun x hx=>?_
 obtain⟨i,pes,pck,pm,es,ck,m,c,xs⟩:=x
 obtain⟨hi,hP,hN,hM,hF,hC⟩:=hx
 dsimp only at hi hP hN hM hF hC
 have x2:=wrapS i (by omega)
 by_cases hlt:i<l.length
 rotate_left
 ·have e2:decide ((i:Int)<(l.length:Int))=false:=decide_eq_false (by omega)
  have hil:i=l.length:=by omega
  subst hil
  rw[List.take_length]at hC
  refine gom ?_
  refine WK.tailFirst ?_
  refine WK.freezeFam xs hF fun G1 hg1 hk=>?_
  refine WC.rt ?_
  exact QF.p1 (.inl rfl) rfl (.tmp rfl) (⟨b10,es,ck,m,rfl,hg1,hM,fun k=>by have:=hk k;rw[hC k,expOf_all]at this;exact this,rfl⟩)
 have e2:decide ((i:Int)<(l.length:Int))=true:=decide_eq_true (by omega)
 obtain⟨o,ho⟩:∃o,l[i]? =some o:=⟨_,List.getElem?_eq_getElem (by omega)⟩
 have x0:(0:Int)≤(i:Int):=by omega
 have x1:(i:Int)<(l.length:Int):=by omega
 obtain⟨ab,ao,cs,rfl,hks,hcs⟩:=hl i o ho
 obtain⟨CA,cc,NA,nc,PA,pc,rfl,hO⟩:=hks
 have htk:l.take (i+1)=l.take i++[o]:=take_snoc' ho
 have hmap:(l.take (i+1)).map (·.path)=(l.take i).map (·.path)++[o.path]:=by rw[htk,List.map_append];rfl
 obtain⟨N,hNe⟩:∃N,N=cntS ((l.take i).map (·.path)) o.path:=⟨_,rfl⟩
 have hNl:N≤1048576:=by have:=cntS_le ((l.take i).map (·.path)) o.path;rw[←hNe]at this;simp at this;omega
 have hNv:=hN o.path
 rw[←hNe]at hNv
 have hw:=wrapS N (by omega)
 have hN1:=hN.snoc o.path
 rw[←hNe,←hmap]at hN1
 refine gom ?_
 refine WL.oo (OW.alloc rfl fun b6=>?_)
 refine gom ?_
 refine WL.vv (Gv.lookup (emb:=Value.string) (z:= .int .i64 0) rfl rfl atA hP hNv) ?_
 refine gom ?_
 refine WL.oo (OW.mapSet (emb:=Value.string) rfl rfl rfl atA hP rfl fun pes1 pck1 hP1=>?_)
 refine gom ?_
 refine WL.vv (Gv.lookup (emb:=Value.string) (z:= .int .i64 0) (v:= .int .i64 ((N+1:Nat):Int)) rfl rfl atA hP1 (by rw[getA_setA];rfl)) ?_
 by_cases hin:o.path∈(l.take i).map (·.path)
 ·have hN0:N≠0:=fun e=>by rw[e]at hNe;exact cntS_zero.1 hNe.symm hin
  have e3:decide ((1:Int)<((N+1:Nat):Int))=true:=decide_eq_true (by omega)
  refine gom ?_
  refine WK.pick (.blk b11 (.map pes1 pck1):: .blk b10 (.map es ck)::xs) ?_
  exact WK.again ⟨i+1,pes1,pck1,_,es,ck,m,c,xs⟩ (by dsimp only;omega) ⟨by show i+1≤_;omega,hP1,hN1,hM,hF,fun k=>by dsimp only;rw[hC k,htk,pairsL_snoc,if_pos (by simpa using hin),List.append_nil]⟩ (by exact⟨rfl,rfl,rfl,rfl,rfl,trivial⟩) rfl (List.Sublist.refl _)
 have hN0:N=0:=by rw[hNe];exact cntS_zero.2 hin
 have e3:decide ((1:Int)<((N+1:Nat):Int))=false:=decide_eq_false (by omega)
 have hpl:o.procs.length≤1048576:=by
  have h1:=sumP_mem (List.mem_of_getElem? ho)
  omega
 have hprev:(pairsL [] (l.take i)).length+o.procs.length≤1048576:=by
  have h1:=pairsL_len (l.take i) []
  have h2:=sumP_snoc_le ho
  unfold sumP at h2 hsum
  omega
 refine gom ?_
 refine WC.pick (.blk b6 (.cells #[.string o.path, .slice CA o.consts.length cc, .slice NA o.needs.length nc, .slice PA o.procs.length pc] 38 (0,0)):: .blk b11 (.map pes1 pck1):: .blk b10 (.map es ck)::xs) ?_
 refine WC.loop (X:=EI) (fun x=>[(3, .map (some b10)),(4, .map (some b11)),(6, .pointer (some ⟨b6,0,none⟩)),(12, .slice (some ⟨ab,ao,none⟩) l.length cap),(13, .int .i64 l.length),(14, .int .i64 i),(29, .slice PA o.procs.length pc),(30, .int .i64 o.procs.length),(31, .int .i64 x.j)]) (fun _=>G)
  (fun x=> .blk b6 (.cells #[.string o.path, .slice CA o.consts.length cc, .slice NA o.needs.length nc, .slice PA o.procs.length pc] 38 (0,0)):: .blk b11 (.map pes1 pck1):: .blk b10 (.map x.es x.ck)::x.xs) (fun x=>o.procs.length - x.j)
  (fun x=>x.j≤o.procs.length∧MK kyV x.es x.ck x.m∧Fam G 47 x.m x.c x.xs∧∀k,lookC x.c k=expOf (pairsL [] (l.take i)++pairsO o (o.procs.take x.j)) k)
  ⟨0,es,ck,m,c,xs⟩ ⟨Nat.zero_le _,hM,hF,fun k=>by dsimp only;rw[hC k,List.take_zero,expOf_append,show pairsO o []=[]from rfl,show expOf [] k=[] by unfold expOf;rfl,List.append_nil]⟩ (by exact⟨rfl,rfl,rfl,rfl,rfl,rfl,rfl,rfl,rfl,trivial⟩) rfl (List.Sublist.refl _) fun x hx=>?_
 obtain⟨j,es,ck,m,c,xs⟩:=x
 obtain⟨hj,hM,hF,hC⟩:=hx
 dsimp only at hj hM hF hC
 have y2:=wrapS j (by omega)
 by_cases hjl:j<o.procs.length
 rotate_left
 ·have e4:decide ((j:Int)<(o.procs.length:Int))=false:=decide_eq_false (by omega)
  have htj:o.procs.take j=o.procs:=List.take_of_length_le (by omega)
  refine gom ?_
  refine WK.pick (.blk b11 (.map pes1 pck1):: .blk b10 (.map es ck)::xs) ?_
  exact WK.again ⟨i+1,pes1,pck1,_,es,ck,m,c,xs⟩ (by dsimp only;omega) ⟨by show i+1≤_;omega,hP1,hN1,hM,hF,fun k=>by dsimp only;rw[hC k,htk,pairsL_snoc,if_neg (by simpa using hin),htj]⟩ (by exact⟨rfl,rfl,rfl,rfl,rfl,trivial⟩) rfl (List.Sublist.refl _)
 have e4:decide ((j:Int)<(o.procs.length:Int))=true:=decide_eq_true (by omega)
 obtain⟨p,hp⟩:∃p,o.procs[j]? =some p:=⟨_,List.getElem?_eq_getElem hjl⟩
 have y0:(0:Int)≤(j:Int):=by omega
 have y1:(j:Int)<(o.procs.length:Int):=by omega
 obtain⟨pb,po,cs2,rfl,hks2,hcs2⟩:=hO.procs j p hp
 obtain⟨QA,qc,IA,ic,rfl,hQ,hI⟩:=hks2
 have hsn:=pairsO_snoc hp
 refine gom ?_
 refine WL.oo (OW.alloc rfl fun b8=>?_)
 refine gom ?_
 refine WL.oo (OW.alloc rfl fun b9=>?_)
 cases hx:p.exp with
 | false=>
  rw[hx]at hsn
  refine gom ?_
  refine WK.pick (.blk b6 (.cells #[.string o.path, .slice CA o.consts.length cc, .slice NA o.needs.length nc, .slice (some ⟨pb,po,none⟩) o.procs.length pc] 38 (0,0)):: .blk b11 (.map pes1 pck1):: .blk b10 (.map es ck)::xs) ?_
  exact WK.again ⟨j+1,es,ck,m,c,xs⟩ (by dsimp only;omega) ⟨by show j+1≤_;omega,hM,hF,fun k=>by dsimp only;rw[hC k,hsn,if_neg (by simp),List.append_nil]⟩ (by exact⟨rfl,rfl,rfl,rfl,rfl,rfl,rfl,rfl,rfl,trivial⟩) rfl (List.Sublist.refl _)
 | true=>
 rw[hx,if_pos rfl]at hsn
 have hlk:(lookC c (o.path,p.name)).length≤1048576:=by
  rw[hC (o.path,p.name)]
  have h1:=expOf_len (pairsL [] (l.take i)++pairsO o (o.procs.take j)) (o.path,p.name)
  have h2:=pairsO_len o (o.procs.take j)
  rw[List.length_append]at h1
  rw[List.length_take]at h2
  omega
 refine gom ?_
 refine WL.op kr (OW.buildSlice rfl kr kr (by rfl) rfl fun b46=>?_)
 have hlook:∀k,lookC (addC c (o.path,p.name) p) k=expOf (pairsL [] (l.take i)++pairsO o (o.procs.take (j+1))) k:=fun k=>by
  rw[lookC_addC,hsn,←List.append_assoc,expOf_append,expOf_one,←hC k]
  by_cases e:k=(o.path,p.name)
  ·rw[if_pos e,if_pos e.symm,e]
  ·rw[if_neg e,if_neg (Ne.symm e),List.append_nil]
 by_cases hkey:(o.path,p.name)∈m.map (·.1)
 ·obtain⟨jj,A1,c1,lp,x,hg,hxj,hv,hlc,hnew⟩:=hF.old hM.keys hkey p
  rw[hlc]at hlk
  refine WL.oo (OW.mapEntryK (emb:=kyV) (key:=(o.path,p.name)) (kt:=140) (z:= .slice none 0 0) (v:= .slice A1 lp.length c1) rfl rfl atA hM (by rw[hg];rfl) rfl fun es2 ck2 n2 hM2 hS2=>?_)
  refine gom ?_
  refine WL.oo (OW.append1 (k:=Kd.prc) (news:=[.string p.name, .bool true, .slice QA p.params.length qc, .int .i64 p.locals, .int .i64 p.result, .slice IA p.code.length ic]) (u:=p) rfl rfl kr rfl hv (by repeat (first | exact At.ofGet hxj | apply At.there)) .here rfl ⟨QA,qc,IA,ic,by rw[hx],hQ,hI⟩ (by omega) (by omega) rfl fun A3 c3 o3 hv3=>?_)
  refine gom ?_
  refine WL.oo (OW.entryStoreK (emb:=kyV) (kt:=140) (key:=(o.path,p.name)) rfl rfl rfl atA hM2 hS2 inferInstance rfl fun es3 hM3=>?_)
  refine gom ?_
  refine WK.pick (.blk b6 (.cells #[.string o.path, .slice CA o.consts.length cc, .slice NA o.needs.length nc, .slice (some ⟨pb,po,none⟩) o.procs.length pc] 38 (0,0)):: .blk b11 (.map pes1 pck1):: .blk b10 (.map es3 ck2)::xs.set jj o3) ?_
  exact WK.again ⟨j+1,es3,ck2,_,addC c (o.path,p.name) p,xs.set jj o3⟩ (by dsimp only;omega) ⟨by show j+1≤_;omega,hM3,hnew _ _ _ _ hv3,hlook⟩ (by exact⟨rfl,rfl,rfl,rfl,rfl,rfl,rfl,rfl,rfl,trivial⟩) rfl (List.Sublist.refl _)
 ·
  refine WL.oo (OW.mapEntryK (emb:=kyV) (key:=(o.path,p.name)) (kt:=140) (z:= .slice none 0 0) (v:= .slice none 0 0) rfl rfl atA hM (by rw[getA_absent hkey];rfl) rfl fun es2 ck2 n2 hM2 hS2=>?_)
  refine gom ?_
  refine WL.nothing ?_
  refine WL.oo (OW.append1 (k:=Kd.prc) (l:=[]) (news:=[.string p.name, .bool true, .slice QA p.params.length qc, .int .i64 p.locals, .int .i64 p.result, .slice IA p.code.length ic]) (u:=p) rfl rfl kr rfl KVec.nil .here (.there .here) rfl ⟨QA,qc,IA,ic,by rw[hx],hQ,hI⟩ (by show(0+1)*_≤_;decide) (by decide) rfl fun A3 c3 o3 hv3=>?_)
  refine gom ?_
  refine WL.oo (OW.entryStoreK (emb:=kyV) (kt:=140) (key:=(o.path,p.name)) rfl rfl rfl atA hM2 hS2 inferInstance rfl fun es3 hM3=>?_)
  refine gom ?_
  refine WK.pick (o3:: .blk b6 (.cells #[.string o.path, .slice CA o.consts.length cc, .slice NA o.needs.length nc, .slice (some ⟨pb,po,none⟩) o.procs.length pc] 38 (0,0)):: .blk b11 (.map pes1 pck1):: .blk b10 (.map es3 ck2)::xs) ?_
  refine WK.lastOne ?_
  exact WK.again ⟨j+1,es3,ck2,_,addC c (o.path,p.name) p,xs++[o3]⟩ (by dsimp only;omega) ⟨by show j+1≤_;omega,hM3,hF.new hkey p _ hv3,hlook⟩ (by exact⟨rfl,rfl,rfl,rfl,rfl,rfl,rfl,rfl,rfl,trivial⟩) rfl (List.Sublist.refl _)
end
section
open Go.MapKept
attribute [local irreducible] Tryz.prog
def idxR {α:Type} (q:α→Bool) (l:List α):Int:=match (List.range l.length).find? (fun i=>((l[i]?).map q).getD false)with
 | some i=>(i:Int)
 | none=> -1
theorem idxR_at {α:Type} {q:α→Bool} {l:List α} {i:Nat} {x:α} (h0:∀j y,j<i→l[j]? =some y→q y=false) (hx:l[i]? =some x) (h:q x=true):idxR q l=(i:Int):=by
 have hi:=(List.getElem?_eq_some_iff.1 hx).1
 unfold idxR
 rw[find_range hi (fun j hj=>by rw[List.getElem?_eq_getElem (by omega)];exact h0 j _ hj (List.getElem?_eq_getElem (by omega))) (by rw[hx];exact h)]
theorem idxR_none {α:Type} {q:α→Bool} {l:List α} (h0:∀j y,j<l.length→l[j]? =some y→q y=false):idxR q l= -1:=by
 unfold idxR
 rw[List.find?_eq_none.2 (fun j hj=>by
  have hj':j<l.length:=by simpa using hj
  rw[List.getElem?_eq_getElem hj']
  simpa using h0 j _ hj' (List.getElem?_eq_getElem hj'))]
theorem idxR_any {α:Type} (q:α→Bool) (l:List α):decide ((0:Int)≤idxR q l)=l.any q:=by
 cases ha:l.any q with
 | false=>
  rw[idxR_none (fun j y hj hy=>?_)]
  ·rfl
  ·cases hq:q y with
   | false=>rfl
   | true=>rw[List.any_eq_true.2 ⟨y,List.mem_of_getElem? hy,hq⟩]at ha;cases ha
 | true=>
  obtain⟨y,hy,hq⟩:=List.any_eq_true.1 ha
  obtain⟨i,hi⟩:=List.mem_iff_getElem?.1 hy
  unfold idxR
  cases hf:(List.range l.length).find? (fun i=>((l[i]?).map q).getD false)with
  | none=>
   rw[List.find?_eq_none]at hf
   have:=hf i (by simpa using(List.getElem?_eq_some_iff.1 hi).1)
   rw[hi]at this
   exact absurd hq (by simpa using this)
  | some j=>simp
set_option maxHeartbeats 1000000 in
theorem idxP_fn (G:Gh) (A:Option Addr) (cap:Nat) (l:List Pr) (Hc:List Own) (cs0:List Value) (hr:Rds G Hc A cs0) (hk0:KFl Kd.prc G l cs0) (hlen:l.length≤1000000000) (f:Nat) [hB:Body Tryz.prog f] (fc:Array Value) (q:Pr→Bool) (hf:∀x cs,x∈l→Kd.prc.K G x cs→Fn Tryz.prog f (#[.agg cs.toArray]++fc) G Hc fun e G' H'=>e= .returned (.bool (q x))∧G=G'∧H'=Hc):
  Fn Tryz.prog 125 #[.slice A l.length cap, .func (.func f) #[] fc] G Hc fun e G' H'=>e= .returned (.int .i64 (idxR q l))∧G=G'∧H'=Hc:=by
 refine Fn.enter Tryz.func125 rfl rfl fun w0=>?_
 refine gom ?_
 refine WC.loop (X:=Nat) (fun i=>[(0, .slice A l.length cap),(1, .func (.func f) #[] fc),(7, .int .i64 l.length),(8, .int .i64 i)]) (fun _=>G) (fun _=>Hc) (fun i=>l.length - i) (fun i=>i≤l.length∧∀j y,j<i→l[j]? =some y→q y=false) 0 ⟨Nat.zero_le _,fun j y h=>absurd h (Nat.not_lt_zero _)⟩ (by exact⟨rfl,rfl,rfl,rfl,trivial⟩) rfl (List.Sublist.refl _) fun i hi=>?_
 obtain⟨hi,h0⟩:=hi
 have x2:=wrapS i (by omega)
 by_cases hlt:i<l.length
 rotate_left
 ·have e2:decide ((i:Int)<(l.length:Int))=false:=decide_eq_false (by omega)
  have hr:idxR q l= -1:=idxR_none fun j y hj=>h0 j y (by omega)
  rw[hr]
  refine gom ?_
  refine WC.rt ?_
  exact QF.p1 (.inl rfl) rfl (.tmp rfl) (⟨rfl,rfl,rfl⟩)
 have e2:decide ((i:Int)<(l.length:Int))=true:=decide_eq_true (by omega)
 obtain⟨x,hx⟩:∃x,l[i]? =some x:=⟨_,List.getElem?_eq_getElem (by omega)⟩
 have x0:(0:Int)≤(i:Int):=by omega
 have x1:(i:Int)<(l.length:Int):=by omega
 have hks:=hk0.at_ i x hx
 obtain⟨rb,ro,hrr,hread⟩:=hr.resolve_left (fun h=>by have h1:=hk0.len;rw[h,show Kd.prc.n=6 from rfl,List.length_nil]at h1;omega)
 subst hrr
 refine gom ?_
 refine WL.vv (Gv.loadRN (i:=((i:Nat):Int).toNat*6) rfl hread (List.Sublist.refl _) rfl (Kd.prc.len hks)) ?_
 refine WL.oo (OW.callVK rfl rfl rfl (hf x _ (List.mem_of_getElem? hx) hks) rfl fun v' G' H' h hg=>?_)
 obtain⟨he,rfl,hh⟩:=h
 cases hh.symm
 cases he
 cases hq:q x with
 | true=>
  rw[idxR_at h0 hx hq]
  refine gom ?_
  refine WC.rt ?_
  exact QF.p1 (.inl rfl) rfl (.tmp rfl) (⟨rfl,rfl,rfl⟩)
 | false=>
  refine gom ?_
  refine WK.pick Hc ?_
  exact WK.again (i+1) (by omega) ⟨by omega,fun j y hj hy=>by
   rcases Nat.lt_or_ge j i with h | h
   ·exact h0 j y h hy
   ·obtain rfl:j=i:=by omega
    rw[hx]at hy;cases hy;exact hq⟩ (by exact⟨rfl,rfl,rfl,rfl,trivial⟩) rfl (List.Sublist.refl _)
theorem hasP_fn (G:Gh) (A:Option Addr) (cap:Nat) (l:List Pr) (Hc:List Own) (cs0:List Value) (hr:Rds G Hc A cs0) (hk0:KFl Kd.prc G l cs0) (hlen:l.length≤1000000000) (f:Nat) [hB:Body Tryz.prog f] (fc:Array Value) (q:Pr→Bool) (hf:∀x cs,x∈l→Kd.prc.K G x cs→Fn Tryz.prog f (#[.agg cs.toArray]++fc) G Hc fun e G' H'=>e= .returned (.bool (q x))∧G=G'∧H'=Hc):
  Fn Tryz.prog 83 #[.slice A l.length cap, .func (.func f) #[] fc] G Hc fun e G' H'=>e= .returned (.bool (l.any q))∧G=G'∧H'=Hc:=by
 refine Fn.enter Tryz.func83 rfl rfl fun w0=>?_
 refine gom ?_
 refine WL.oo (OW.callK rfl (idxP_fn G A cap l Hc cs0 hr hk0 hlen f fc q hf) rfl fun v' G' H' h hg=>?_)
 obtain⟨he,rfl,hh⟩:=h
 cases hh.symm
 cases he
 rw[←idxR_any]
 refine gom ?_
 refine WK.pick Hc ?_
 refine WC.rt ?_
 exact QF.p1 (.inl rfl) rfl (.tmp rfl) (⟨rfl,rfl,rfl⟩)
set_option maxHeartbeats 1000000 in
theorem idxN_fn (G:Gh) (A:Option Addr) (cap:Nat) (l:List Nd) (Hc:List Own) (cs0:List Value) (hr:Rds G Hc A cs0) (hk0:KFl Kd.ned G l cs0) (hlen:l.length≤1000000000) (f:Nat) [hB:Body Tryz.prog f] (fc:Array Value) (q:Nd→Bool) (hf:∀x cs,x∈l→Kd.ned.K G x cs→Fn Tryz.prog f (#[.agg cs.toArray]++fc) G Hc fun e G' H'=>e= .returned (.bool (q x))∧G=G'∧H'=Hc):
  Fn Tryz.prog 81 #[.slice A l.length cap, .func (.func f) #[] fc] G Hc fun e G' H'=>e= .returned (.int .i64 (idxR q l))∧G=G'∧H'=Hc:=by
 refine Fn.enter Tryz.func81 rfl rfl fun w0=>?_
 refine gom ?_
 refine WC.loop (X:=Nat) (fun i=>[(0, .slice A l.length cap),(1, .func (.func f) #[] fc),(7, .int .i64 l.length),(8, .int .i64 i)]) (fun _=>G) (fun _=>Hc) (fun i=>l.length - i) (fun i=>i≤l.length∧∀j y,j<i→l[j]? =some y→q y=false) 0 ⟨Nat.zero_le _,fun j y h=>absurd h (Nat.not_lt_zero _)⟩ (by exact⟨rfl,rfl,rfl,rfl,trivial⟩) rfl (List.Sublist.refl _) fun i hi=>?_
 obtain⟨hi,h0⟩:=hi
 have x2:=wrapS i (by omega)
 by_cases hlt:i<l.length
 rotate_left
 ·have e2:decide ((i:Int)<(l.length:Int))=false:=decide_eq_false (by omega)
  have hr:idxR q l= -1:=idxR_none fun j y hj=>h0 j y (by omega)
  rw[hr]
  refine gom ?_
  refine WC.rt ?_
  exact QF.p1 (.inl rfl) rfl (.tmp rfl) (⟨rfl,rfl,rfl⟩)
 have e2:decide ((i:Int)<(l.length:Int))=true:=decide_eq_true (by omega)
 obtain⟨x,hx⟩:∃x,l[i]? =some x:=⟨_,List.getElem?_eq_getElem (by omega)⟩
 have x0:(0:Int)≤(i:Int):=by omega
 have x1:(i:Int)<(l.length:Int):=by omega
 have hks:=hk0.at_ i x hx
 obtain⟨rb,ro,hrr,hread⟩:=hr.resolve_left (fun h=>by have h1:=hk0.len;rw[h,show Kd.ned.n=4 from rfl,List.length_nil]at h1;omega)
 subst hrr
 refine gom ?_
 refine WL.vv (Gv.loadRN (i:=((i:Nat):Int).toNat*4) rfl hread (List.Sublist.refl _) rfl (Kd.ned.len hks)) ?_
 refine WL.oo (OW.callVK rfl rfl rfl (hf x _ (List.mem_of_getElem? hx) hks) rfl fun v' G' H' h hg=>?_)
 obtain⟨he,rfl,hh⟩:=h
 cases hh.symm
 cases he
 cases hq:q x with
 | true=>
  rw[idxR_at h0 hx hq]
  refine gom ?_
  refine WC.rt ?_
  exact QF.p1 (.inl rfl) rfl (.tmp rfl) (⟨rfl,rfl,rfl⟩)
 | false=>
  refine gom ?_
  refine WK.pick Hc ?_
  exact WK.again (i+1) (by omega) ⟨by omega,fun j y hj hy=>by
   rcases Nat.lt_or_ge j i with h | h
   ·exact h0 j y h hy
   ·obtain rfl:j=i:=by omega
    rw[hx]at hy;cases hy;exact hq⟩ (by exact⟨rfl,rfl,rfl,rfl,trivial⟩) rfl (List.Sublist.refl _)
theorem hasN_fn (G:Gh) (A:Option Addr) (cap:Nat) (l:List Nd) (Hc:List Own) (cs0:List Value) (hr:Rds G Hc A cs0) (hk0:KFl Kd.ned G l cs0) (hlen:l.length≤1000000000) (f:Nat) [hB:Body Tryz.prog f] (fc:Array Value) (q:Nd→Bool) (hf:∀x cs,x∈l→Kd.ned.K G x cs→Fn Tryz.prog f (#[.agg cs.toArray]++fc) G Hc fun e G' H'=>e= .returned (.bool (q x))∧G=G'∧H'=Hc):
  Fn Tryz.prog 36 #[.slice A l.length cap, .func (.func f) #[] fc] G Hc fun e G' H'=>e= .returned (.bool (l.any q))∧G=G'∧H'=Hc:=by
 refine Fn.enter Tryz.func36 rfl rfl fun w0=>?_
 refine gom ?_
 refine WL.oo (OW.callK rfl (idxN_fn G A cap l Hc cs0 hr hk0 hlen f fc q hf) rfl fun v' G' H' h hg=>?_)
 obtain⟨he,rfl,hh⟩:=h
 cases hh.symm
 cases he
 rw[←idxR_any]
 refine gom ?_
 refine WK.pick Hc ?_
 refine WC.rt ?_
 exact QF.p1 (.inl rfl) rfl (.tmp rfl) (⟨rfl,rfl,rfl⟩)
end
section
open Go.MapKept
attribute [local irreducible] Tryz.prog
abbrev ndC (n:Nd) (QA:Option Addr) (qc:Nat):Array Value:= #[.string n.path, .string n.name, .slice QA n.params.length qc, .int .i64 n.result]
theorem met1_fn (G:Gh) (H:List Own) (b j:Nat) (n:Nd) (QA:Option Addr) (qc:Nat) (hQ:Sl (Kd.int .i64) G QA n.params) (hb:At H j (.blk b (.cells (ndC n QA qc) 56 (0,0)))) (p:Pr) (cs:List Value) (hp:Kd.prc.K G p cs) (hpl:p.params.length≤1000000000):
  Fn Tryz.prog 84 #[.agg cs.toArray, .pointer (some ⟨b,0,none⟩)] G H fun e G' H'=>e= .returned (.bool (fitN n p))∧G=G'∧H'=H:=by
 obtain⟨PA,pc,IA,ic,rfl,hP,hI⟩:=hp
 refine Fn.enter Tryz.func84 rfl rfl fun w0=>?_
 refine WC.seq ?_
 refine WC.region ?_
 refine WL.oo (OW.box rfl rfl fun b2=>?_)
 refine gom ?_
 refine WL.vv (Gv.load1 rfl (.there hb) rfl) ?_
 cases hr:(p.result==n.result)with
 | false=>
  rw[show fitN n p=false by unfold fitN;rw[hr];rfl]
  refine gom ?_
  refine WC.rt ?_
  exact QF.p1 (.inl rfl) rfl (.tmp rfl) (⟨rfl,rfl,rfl⟩)
 | true=>
  rw[show fitN n p=(p.params==n.params) by unfold fitN;rw[hr];rfl]
  refine gom ?_
  refine WL.vv (Gv.load1 rfl (.there hb) rfl) ?_
  refine WL.oo (OW.callK rfl (equal_types G [] PA QA pc qc p.params n.params hP hQ (by omega)) rfl fun v' G' H' h hg=>?_)
  obtain⟨he,rfl,rfl⟩:=h
  cases he
  refine gom ?_
  refine WK.pick H ?_
  refine WC.rt ?_
  exact QF.p1 (.inl rfl) rfl (.tmp rfl) (⟨rfl,rfl,rfl⟩)
theorem met_fn (G:Gh) (mb:Nat) (es:Array MapEntry) (ck:Nat) (m:List (Ky×Value)) (hM:MK kyV es ck m) (l:List Ob) (hE:ExpM G l m) (hle:∀k,(expL l k).length≤1000000000) (hpl:∀o∈l,∀p∈o.procs,p.params.length≤1000000000) (n:Nd) (QA:Option Addr) (qc:Nat) (hQ:Sl (Kd.int .i64) G QA n.params):
  Fn Tryz.prog 39 #[.map (some mb), .agg (ndC n QA qc)] G [.blk mb (.map es ck)] fun e G' H'=>e= .returned (.bool (metL l n))∧G=G'∧H'=[.blk mb (.map es ck)]:=by
 refine Fn.enter Tryz.func39 rfl rfl fun w0=>?_
 refine WC.seq ?_
 refine WC.region ?_
 refine WL.oo (OW.box rfl rfl fun b3=>?_)
 refine gom ?_
 obtain⟨A,cap,hv,hS⟩:=hE (n.path,n.name)
 refine WL.vv (Gv.lookupK (emb:=kyV) (key:=(n.path,n.name)) (kt:=140) (z:= .slice none 0 0) rfl rfl atA hM hv) ?_
 refine gom ?_
 refine WL.pp (Gp.makeFunc rfl rfl) ?_
 obtain⟨cs0,hr,hk⟩:=Sl.kfl (H:=[.blk b3 (.cells (ndC n QA qc) 56 (0,0))]) (by decide) hS
 have hmem:∀p∈expL l (n.path,n.name),p.params.length≤1000000000:=fun p hp=>by
  unfold expL at hp
  split at hp
  ·cases hp
  ·rename_i o ho
   exact hpl o (List.mem_of_find?_eq_some ho) p (List.mem_filter.1 hp).1
 refine WL.oo (OW.callK rfl (hasP_fn G A cap (expL l (n.path,n.name)) [.blk b3 (.cells (ndC n QA qc) 56 (0,0))] cs0 hr hk (hle _) 84 #[.pointer (some ⟨b3,0,none⟩)] (fitN n) (fun x cs hx hK=>met1_fn G _ b3 0 n QA qc hQ .here x cs hK (hmem x hx))) rfl fun v' G' H' h hg=>?_)
 obtain⟨he,rfl,rfl⟩:=h
 cases he
 refine gom ?_
 refine WC.rt ?_
 exact QF.p1 (.inl rfl) rfl (.tmp rfl) (⟨rfl,rfl,rfl⟩)
theorem sameNeed_fn (G:Gh) (a b:Nd) (QA RA:Option Addr) (qc rc:Nat) (hQ:Sl (Kd.int .i64) G QA a.params) (hR:Sl (Kd.int .i64) G RA b.params) (hl:a.params.length≤100000000000000):
  Fn Tryz.prog 38 #[.agg (ndC a QA qc), .agg (ndC b RA rc)] G [] fun e G' H'=>e= .returned (.bool (sameN a b))∧G=G'∧H'=[]:=by
 refine Fn.enter Tryz.func38 rfl rfl fun w0=>?_
 refine WC.seq ?_
 refine WC.region ?_
 refine WL.oo (OW.box rfl rfl fun b2=>?_)
 refine WL.oo (OW.box rfl rfl fun b3=>?_)
 refine gom ?_
 cases h1:(a.path==b.path)with
 | false=>
  rw[show sameN a b=false by unfold sameN;rw[h1];rfl]
  refine gom ?_
  refine WC.rt ?_
  exact QF.p1 (.inl rfl) rfl (.tmp rfl) (⟨rfl,rfl,rfl⟩)
 | true=>
 refine gom ?_
 cases h2:(a.name==b.name)with
 | false=>
  rw[show sameN a b=false by unfold sameN;rw[h1,h2];rfl]
  refine gom ?_
  refine WC.rt ?_
  exact QF.p1 (.inl rfl) rfl (.tmp rfl) (⟨rfl,rfl,rfl⟩)
 | true=>
 cases h3:(a.result==b.result)with
 | false=>
  rw[show sameN a b=false by unfold sameN;rw[h1,h2,h3];rfl]
  refine gom ?_
  refine WC.rt ?_
  exact QF.p1 (.inl rfl) rfl (.tmp rfl) (⟨rfl,rfl,rfl⟩)
 | true=>
 rw[show sameN a b=(a.params==b.params) by unfold sameN;rw[h1,h2,h3];rfl]
 refine gom ?_
 refine WL.oo (OW.callK rfl (equal_types G [] QA RA qc rc a.params b.params hQ hR (by omega)) rfl fun v' G' H' h hg=>?_)
 obtain⟨he,rfl,rfl⟩:=h
 cases he
 refine gom ?_
 refine WC.rt ?_
 exact QF.p1 (.inl rfl) rfl (.tmp rfl) (⟨rfl,rfl,rfl⟩)
theorem miss1_fn (G:Gh) (H:List Own) (b j:Nat) (n:Nd) (QA:Option Addr) (qc:Nat) (hQ:Sl (Kd.int .i64) G QA n.params) (hb:At H j (.blk b (.cells (ndC n QA qc) 56 (0,0)))) (x:Nd) (cs:List Value) (hx:Kd.ned.K G x cs) (hl:x.params.length≤1000000000):
  Fn Tryz.prog 37 #[.agg cs.toArray, .pointer (some ⟨b,0,none⟩)] G H fun e G' H'=>e= .returned (.bool (sameN x n))∧G=G'∧H'=H:=by
 obtain⟨XA,xc,rfl,hX⟩:=hx
 refine Fn.enter Tryz.func37 rfl rfl fun w0=>?_
 refine WC.seq ?_
 refine WC.region ?_
 refine WL.oo (OW.box rfl rfl fun b2=>?_)
 refine gom ?_
 refine WL.vv (Gv.loadN rfl (.there hb) rfl rfl) ?_
 refine WL.oo (OW.callK rfl (sameNeed_fn G x n XA QA xc qc hX hQ (by omega)) rfl fun v' G' H' h hg=>?_)
 obtain⟨he,rfl,rfl⟩:=h
 cases he
 refine gom ?_
 refine WK.pick H ?_
 refine WC.rt ?_
 exact QF.p1 (.inl rfl) rfl (.tmp rfl) (⟨rfl,rfl,rfl⟩)
end
end Go.Proofs.YtcnlkfocbbkdhaaGreatDoor.Gb
