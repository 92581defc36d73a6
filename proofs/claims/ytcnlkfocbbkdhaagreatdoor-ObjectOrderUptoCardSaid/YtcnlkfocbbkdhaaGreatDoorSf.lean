/- Layer 22: a path and a name as a key. Layer 22: exported, walked. slices.IndexFunc and slices.ContainsFunc, walked. Layer 22: needs met, and missing: walked. Layer 22: Missing, walked. Layer 22: joining: what lies in memory is turned in place; how the lists grow. What a row tells of its arguments, opened: the data behind slices and structs, with the bounds that their weights give. A slice that a row hands in: opened. The small object, which must be taken; and what is wrong with it when it gives another type. Pairs of numbers, compared. What must come, whatever else is so: walked. What must come, whatever else is so: walked. What a row of this seat tells of the library's variables, opened. Arguments of a bounded bulk, opened: texts, lists, structs. The machine's stack and its small helpers: what each comes to. Layer 22: joined, walked. Layer 22: Link, walked. Names of instructions: walked. Numbers in bytes: walked. Instructions in bytes: walked. -/
import Derived.Test.YtcnlkfocbbkdhaaGreatDoorSe
import Derived.SizedLaws
import Derived.ChangeSlices
import Derived.Carry
import Derived.Test.YtcnlkfocbbkdhaaGreatDoorRows
import Derived.ProofKit
import Derived.OpenShut
import Derived.Lay
import Derived.LaidMore
import Derived.Lib.LaidU8
import Derived.Shelf.Vars
import Derived.HandedShaped
import Derived.Deep.DeepHandedRow
set_option linter.unusedVariables false
set_option linter.unusedSimpArgs false
set_option linter.unusedSectionVars false
namespace Go.Proofs.YtcnlkfocbbkdhaaGreatDoor.Gb
open Go Go.Proofs
section
open Go.MapKept
def kyV (k : Ky) : Value := .agg #[.string k.1, .string k.2]
theorem lists_ne {a b : ByteArray} (h : a ≠ b) : (a.toList == b.toList) = false := by
 cases e : (a.toList == b.toList) with
 | false => rfl
 | true => rw [← beq_toListBytes] at e; exact absurd (bb_iff.1 e) h
theorem spot_eq (a b : Ky) (w : World) : (Op.equal 140 (kyV a) (kyV b)).run Tryz.prog w = .ok (decide (a = b)) w := by
 obtain ⟨a1, a2⟩ := a
 obtain ⟨b1, b2⟩ := b
 have h2 : Tryz.prog.underlying 140 = some (.struct (Tryz.prog.fieldsOf 140)) := by kernel_rfl
 have h3 : Tryz.prog.stoodInHeld 140 = false := by kernel_rfl
 have key : (Op.eqFields 9999 #[.string a1, .string a2] #[.string b1, .string b2] (Tryz.prog.fieldsOf 140).toList).run Tryz.prog w = .ok (decide ((a1, a2) = (b1, b2))) w := by
  have a0 := fun w => (inferInstance : Agg Tryz.prog 9 false).h w
  have u0 : Tryz.prog.underlying 9 = some .string := Und.h
  simp only [Program.fieldsOf, Tryz.underlying140]
  simp only [Op.eqFields, part, Sem.run_bind, a0, Result.andThen_ok, Sem.run_ite]
  have r := fun (x y : ByteArray) (w : World) => run_equalIn_string (P := Tryz.prog) w 9998 9 x y u0
  by_cases q1 : a1 = b1 <;> by_cases q2 : a2 = b2
  ·subst q1 q2; simp [r]
  ·subst q1
   have : (a2.toList == b2.toList) = false := lists_ne q2
   simp [r, this, q2]
  ·subst q2
   have : (a1.toList == b1.toList) = false := lists_ne q1
   simp [r, this, q1]
  ·have : (a1.toList == b1.toList) = false := lists_ne q1
   simp [r, this, q1]
 unfold Op.equal
 show (Op.equalIn (9999 + 1) _ (.agg _) (.agg _)).run _ w = _
 rw [run_equalIn_agg w 9999 _ _ _ h2 h3, key]
theorem str_check (n : Nat) (e : Bool) (x : ByteArray) (w : World) : (Instr.checkKey e (n + 1) 9 (.string x)).run Tryz.prog w = .ok () w := by
 have u0 : Tryz.prog.underlying 9 = some .string := Und.h
 exact run_checkKey u0 (by exact trivial) e n
theorem spot_check_n (n : Nat) (a : Ky) (e : Bool) (w : World) : (Instr.checkKey e (n + 1 + 1) 140 (kyV a)).run Tryz.prog w = .ok () w := by
 have a0 := fun w => (inferInstance : Agg Tryz.prog 9 false).h w
 rw [Instr.checkKey.eq_def]
 simp [kyV, run_underlying Tryz.underlying140, part, a0, str_check, Result.andThen]
theorem spot_check (a : Ky) (e : Bool) (w : World) : (Instr.checkKey e 10000 140 (kyV a)).run Tryz.prog w = .ok () w := spot_check_n 9998 a e w
theorem spot_inj {a b : Ky} (h : kyV a = kyV b) : a = b := by
 obtain ⟨a1, a2⟩ := a
 obtain ⟨b1, b2⟩ := b
 simp [kyV] at h
 rw [h.1, h.2]
theorem spot_stay_n (n : Nat) (a : Ky) : Instr.sameBits (n + 1 + 1) (kyV a) (kyV a) = true := by simp [kyV, Instr.sameBits, bb_refl]
theorem spot_stay (a : Ky) : Instr.sameBits 10000 (kyV a) (kyV a) = true := spot_stay_n 9998 a
instance : KeyK Tryz.prog 140 kyV := KeyK.ofEqual (ds := .struct (Tryz.prog.fieldsOf 140)) kr (fun a b => rfl) spot_inj spot_check spot_stay spot_eq
end
section
open Go.MapKept
attribute [local irreducible] Tryz.prog pairsL expOf
def Kd.ob : Kd Ob where
 n := 4
 K G o cs := ∃ CA cc NA nc PA pc, cs = [.string o.path, .slice CA o.consts.length cc, .slice NA o.needs.length nc, .slice PA o.procs.length pc] ∧ ORep G o CA NA PA
 mono hg h := let ⟨CA, cc, NA, nc, PA, pc, h1, h2⟩ := h; ⟨CA, cc, NA, nc, PA, pc, h1, h2.mono hg⟩
 len h := by obtain ⟨CA, cc, NA, nc, PA, pc, h1, _⟩ := h; rw [h1]; rfl
 one h := by obtain ⟨CA, cc, NA, nc, PA, pc, h1, _⟩ := h; rw [h1]; rfl
theorem getA_setA_ne {κ : Type} [DecidableEq κ] (m : List (κ × Value)) {k k' : κ} (v : Value) (h : k' ≠ k) : getA (setA m k v) k' = getA m k' := by
 unfold setA
 split
 ·unfold getA
  rw [List.find?_map]
  have e : ((fun p : κ × Value => decide (p.1 = k')) ∘ fun p => if p.1 = k then (k, v) else p) = fun p => decide (p.1 = k') := by
   funext p
   simp only [Function.comp]
   by_cases e : p.1 = k <;> simp [e]
  rw [e]
  cases hx : m.find? (fun p => decide (p.1 = k')) with
  | none => rfl
  | some q =>
   have h1 := of_decide_eq_true (List.find?_some (p := fun p : κ × Value => decide (p.1 = k')) hx)
   have h2 : q.1 ≠ k := fun e => h (h1.symm.trans e)
   simp [h2]
 ·unfold getA
  rw [List.find?_append]
  have : ([(k, v)] : List (κ × Value)).find? (fun p => decide (p.1 = k')) = none := by simp [Ne.symm h]
  rw [this, Option.or_none]
theorem pairsO_len (o : Ob) (ps : List Pr) : (pairsO o ps).length ≤ ps.length := by
 unfold pairsO
 rw [List.length_map]
 exact List.length_filter_le _ _
theorem pairsL_len : ∀ (l : List Ob) (seen : List ByteArray), (pairsL seen l).length ≤ (l.map (·.procs.length)).sum
 | [], _ => by rw [pairsL]; simp
 | o :: r, seen => by
  rw [pairsL, List.length_append, List.map_cons, List.sum_cons]
  have h1 := pairsL_len r (seen ++ [o.path])
  have h2 := pairsO_len o o.procs
  split
  ·simp only [List.length_nil]; omega
  ·omega
theorem expOf_len (ps : List (Ky × Pr)) (k : Ky) : (expOf ps k).length ≤ ps.length := by
 unfold expOf
 rw [List.length_map]
 exact List.length_filter_le _ _
theorem pairsO_snoc {o : Ob} {j : Nat} {p : Pr} (hp : o.procs[j]? = some p) : pairsO o (o.procs.take (j + 1)) = pairsO o (o.procs.take j) ++ (if p.exp = true then [((o.path, p.name), p)] else []) := by
 rw [take_snoc' hp]
 unfold pairsO
 rw [List.filter_append, List.map_append]
 cases h : p.exp <;> simp [List.filter_cons, h]
def cntS (l : List ByteArray) (s : ByteArray) : Nat := (l.filter (· == s)).length
theorem cntS_snoc (l : List ByteArray) (a s : ByteArray) : cntS (l ++ [a]) s = cntS l s + (if a = s then 1 else 0) := by
 unfold cntS
 rw [List.filter_append, List.length_append]
 by_cases h : a = s
 ·subst h; simp [List.filter_cons, bb_refl]
 ·simp [List.filter_cons, bb_false h, h]
theorem cntS_zero {l : List ByteArray} {s : ByteArray} : cntS l s = 0 ↔ s ∉ l := by
 unfold cntS
 rw [List.length_eq_zero_iff, List.filter_eq_nil_iff]
 constructor
 ·exact fun h hm => h s hm (bb_refl s)
 ·intro h a ha e; exact h ((bb_iff.1 e) ▸ ha)
theorem cntS_le (l : List ByteArray) (s : ByteArray) : cntS l s ≤ l.length := List.length_filter_le _ _
def CntM (pm : List (ByteArray × Value)) (l : List ByteArray) : Prop := ∀ s, (getA pm s).getD (.int .i64 0) = .int .i64 (cntS l s : Int)
theorem CntM.nil : CntM [] [] := fun s => rfl
theorem CntM.snoc {pm : List (ByteArray × Value)} {l : List ByteArray} (h : CntM pm l) (a : ByteArray) : CntM (setA pm a (.int .i64 ((cntS l a + 1 : Nat) : Int))) (l ++ [a]) := fun s => by
 rw [cntS_snoc]
 by_cases e : a = s
 ·subst e; rw [getA_setA, if_pos rfl]; rfl
 ·rw [getA_setA_ne pm _ (Ne.symm e), if_neg e]; exact h s
theorem WK.tailFirst {cx : Cx} {L : List (Nat × Value)} {G : Gh} {K : Act → World → Prop} {x y : Own} {xs : List Own} (h : WK K cx L G (xs ++ [y])) : WK K cx L G (x :: y :: xs) := fun a w st =>
 h a w ((st.weaken (fun _ _ e => e) (List.sublist_cons_self ..)).perm (List.perm_append_singleton y xs).symm)
theorem sumP_mem {l : List Ob} {o : Ob} (h : o ∈ l) : o.procs.length ≤ sumP l := by
 induction l with
 | nil => cases h
 | cons a r ih =>
  unfold sumP at ih ⊢
  rw [List.map_cons, List.sum_cons]
  rcases List.mem_cons.1 h with rfl | h
  ·omega
  ·have := ih h; omega
theorem sumP_snoc_le {l : List Ob} {i : Nat} {o : Ob} (h : l[i]? = some o) : sumP (l.take i) + o.procs.length ≤ sumP l := by
 induction l generalizing i with
 | nil => simp at h
 | cons a r ih =>
  unfold sumP at ih ⊢
  cases i with
  | zero => simp at h; subst h; simp
  | succ i => rw [List.take_succ_cons, List.map_cons, List.sum_cons, List.map_cons, List.sum_cons]; have := ih (by simpa using h); omega
theorem WK.lastOne {cx : Cx} {L : List (Nat × Value)} {G : Gh} {K : Act → World → Prop} {x a b c : Own} {xs : List Own} (h : WK K cx L G (a :: b :: c :: (xs ++ [x]))) : WK K cx L G (x :: a :: b :: c :: xs) := fun a' w st =>
 h a' w (st.perm (List.perm_append_singleton x (a :: b :: c :: xs)).symm)
structure EL where
 i : Nat
 pes : Array MapEntry
 pck : Nat
 pm : List (ByteArray × Value)
 es : Array MapEntry
 ck : Nat
 m : List (Ky × Value)
 c : List (Ky × List Pr)
 xs : List Own
structure EI where
 j : Nat
 es : Array MapEntry
 ck : Nat
 m : List (Ky × Value)
 c : List (Ky × List Pr)
 xs : List Own
set_option maxRecDepth 20000 in
set_option maxHeartbeats 4000000 in
theorem exported_fn (G : Gh) (A : Option Addr) (cap : Nat) (l : List Ob) (hl : Sl Kd.ob G A l) (hlen : l.length ≤ 1048576) (hsum : sumP l ≤ 1048576) :
  Fn Tryz.prog 35 #[.slice A l.length cap] G [] fun e G' H' => ∃ mb es ck m, e = .returned (.map (some mb)) ∧ G.le G' ∧ MK kyV es ck m ∧ ExpM G' l m ∧ H' = [.blk mb (.map es ck)] := by
 refine Fn.enter Tryz.func35 rfl rfl fun w0 => ?_
 refine gom ?_
 refine WL.oo (OW.makeMap rfl fun b10 => ?_)
 refine gom ?_
 refine WL.oo (OW.makeMap rfl fun b11 => ?_)
 refine gom ?_
 refine WC.loop (X := EL) (fun x => [(3, .map (some b10)), (4, .map (some b11)), (12, .slice A l.length cap), (13, .int .i64 l.length), (14, .int .i64 x.i)]) (fun _ => G) (fun x => .blk b11 (.map x.pes x.pck) :: .blk b10 (.map x.es x.ck) :: x.xs) (fun x => l.length - x.i)
  (fun x => x.i ≤ l.length ∧ MRel Value.string .string x.pes x.pck x.pm ∧ CntM x.pm ((l.take x.i).map (·.path)) ∧ MK kyV x.es x.ck x.m ∧ Fam G 47 x.m x.c x.xs ∧ ∀ k, lookC x.c k = expOf (pairsL [] (l.take x.i)) k)
  ⟨0, #[], 0, [], #[], 0, [], [], []⟩ ⟨Nat.zero_le _, MRel.empty, CntM.nil, MK.empty, .nil, fun k => by show lookC [] k = expOf (pairsL [] (l.take 0)) k; rw [List.take_zero, pairsL, expOf_nil]; rfl⟩ (by exact ⟨rfl, rfl, rfl, rfl, rfl, trivial⟩) rfl (List.Sublist.refl _) fun x hx => ?_
 obtain ⟨i, pes, pck, pm, es, ck, m, c, xs⟩ := x
 obtain ⟨hi, hP, hN, hM, hF, hC⟩ := hx
 dsimp only at hi hP hN hM hF hC
 have x2 := wrapS i (by omega)
 by_cases hlt : i < l.length
 rotate_left
 ·have e2 : decide ((i : Int) < (l.length : Int)) = false := decide_eq_false (by omega)
  have hil : i = l.length := by omega
  subst hil
  rw [List.take_length] at hC
  refine gom ?_
  refine WK.tailFirst ?_
  refine WK.freezeFam xs hF fun G1 hg1 hk => ?_
  refine WC.rt ?_
  exact QF.p1 (.inl rfl) rfl (.tmp rfl) (⟨b10, es, ck, m, rfl, hg1, hM, fun k => by have := hk k; rw [hC k, expOf_all] at this; exact this, rfl⟩)
 have e2 : decide ((i : Int) < (l.length : Int)) = true := decide_eq_true (by omega)
 obtain ⟨o, ho⟩ : ∃ o, l[i]? = some o := ⟨_, List.getElem?_eq_getElem (by omega)⟩
 have x0 : (0 : Int) ≤ (i : Int) := by omega
 have x1 : (i : Int) < (l.length : Int) := by omega
 obtain ⟨ab, ao, cs, rfl, hks, hcs⟩ := hl i o ho
 obtain ⟨CA, cc, NA, nc, PA, pc, rfl, hO⟩ := hks
 have htk : l.take (i + 1) = l.take i ++ [o] := take_snoc' ho
 have hmap : (l.take (i + 1)).map (·.path) = (l.take i).map (·.path) ++ [o.path] := by rw [htk, List.map_append]; rfl
 obtain ⟨N, hNe⟩ : ∃ N, N = cntS ((l.take i).map (·.path)) o.path := ⟨_, rfl⟩
 have hNl : N ≤ 1048576 := by have := cntS_le ((l.take i).map (·.path)) o.path; rw [← hNe] at this; simp at this; omega
 have hNv := hN o.path
 rw [← hNe] at hNv
 have hw := wrapS N (by omega)
 have hN1 := hN.snoc o.path
 rw [← hNe, ← hmap] at hN1
 refine gom ?_
 refine WL.oo (OW.alloc rfl fun b6 => ?_)
 refine gom ?_
 refine WL.vv (Gv.lookup (emb := Value.string) (z := .int .i64 0) rfl rfl atA hP hNv) ?_
 refine gom ?_
 refine WL.oo (OW.mapSet (emb := Value.string) rfl rfl rfl atA hP rfl fun pes1 pck1 hP1 => ?_)
 refine gom ?_
 refine WL.vv (Gv.lookup (emb := Value.string) (z := .int .i64 0) (v := .int .i64 ((N + 1 : Nat) : Int)) rfl rfl atA hP1 (by rw [getA_setA]; rfl)) ?_
 by_cases hin : o.path ∈ (l.take i).map (·.path)
 ·have hN0 : N ≠ 0 := fun e => by rw [e] at hNe; exact cntS_zero.1 hNe.symm hin
  have e3 : decide ((1 : Int) < ((N + 1 : Nat) : Int)) = true := decide_eq_true (by omega)
  refine gom ?_
  refine WK.pick (.blk b11 (.map pes1 pck1) :: .blk b10 (.map es ck) :: xs) ?_
  exact WK.again ⟨i + 1, pes1, pck1, _, es, ck, m, c, xs⟩ (by dsimp only; omega) ⟨by show i + 1 ≤ _; omega, hP1, hN1, hM, hF, fun k => by dsimp only; rw [hC k, htk, pairsL_snoc, if_pos (by simpa using hin), List.append_nil]⟩ (by exact ⟨rfl, rfl, rfl, rfl, rfl, trivial⟩) rfl (List.Sublist.refl _)
 have hN0 : N = 0 := by rw [hNe]; exact cntS_zero.2 hin
 have e3 : decide ((1 : Int) < ((N + 1 : Nat) : Int)) = false := decide_eq_false (by omega)
 have hpl : o.procs.length ≤ 1048576 := by
  have h1 := sumP_mem (List.mem_of_getElem? ho)
  omega
 have hprev : (pairsL [] (l.take i)).length + o.procs.length ≤ 1048576 := by
  have h1 := pairsL_len (l.take i) []
  have h2 := sumP_snoc_le ho
  unfold sumP at h2 hsum
  omega
 refine gom ?_
 refine WC.pick (.blk b6 (.cells #[.string o.path, .slice CA o.consts.length cc, .slice NA o.needs.length nc, .slice PA o.procs.length pc] 38 (0, 0)) :: .blk b11 (.map pes1 pck1) :: .blk b10 (.map es ck) :: xs) ?_
 refine WC.loop (X := EI) (fun x => [(3, .map (some b10)), (4, .map (some b11)), (6, .pointer (some ⟨b6, 0, none⟩)), (12, .slice (some ⟨ab, ao, none⟩) l.length cap), (13, .int .i64 l.length), (14, .int .i64 i), (29, .slice PA o.procs.length pc), (30, .int .i64 o.procs.length), (31, .int .i64 x.j)]) (fun _ => G)
  (fun x => .blk b6 (.cells #[.string o.path, .slice CA o.consts.length cc, .slice NA o.needs.length nc, .slice PA o.procs.length pc] 38 (0, 0)) :: .blk b11 (.map pes1 pck1) :: .blk b10 (.map x.es x.ck) :: x.xs) (fun x => o.procs.length - x.j)
  (fun x => x.j ≤ o.procs.length ∧ MK kyV x.es x.ck x.m ∧ Fam G 47 x.m x.c x.xs ∧ ∀ k, lookC x.c k = expOf (pairsL [] (l.take i) ++ pairsO o (o.procs.take x.j)) k)
  ⟨0, es, ck, m, c, xs⟩ ⟨Nat.zero_le _, hM, hF, fun k => by dsimp only; rw [hC k, List.take_zero, expOf_append, show pairsO o [] = [] from rfl, show expOf [] k = [] by unfold expOf; rfl, List.append_nil]⟩ (by exact ⟨rfl, rfl, rfl, rfl, rfl, rfl, rfl, rfl, rfl, trivial⟩) rfl (List.Sublist.refl _) fun x hx => ?_
 obtain ⟨j, es, ck, m, c, xs⟩ := x
 obtain ⟨hj, hM, hF, hC⟩ := hx
 dsimp only at hj hM hF hC
 have y2 := wrapS j (by omega)
 by_cases hjl : j < o.procs.length
 rotate_left
 ·have e4 : decide ((j : Int) < (o.procs.length : Int)) = false := decide_eq_false (by omega)
  have htj : o.procs.take j = o.procs := List.take_of_length_le (by omega)
  refine gom ?_
  refine WK.pick (.blk b11 (.map pes1 pck1) :: .blk b10 (.map es ck) :: xs) ?_
  exact WK.again ⟨i + 1, pes1, pck1, _, es, ck, m, c, xs⟩ (by dsimp only; omega) ⟨by show i + 1 ≤ _; omega, hP1, hN1, hM, hF, fun k => by dsimp only; rw [hC k, htk, pairsL_snoc, if_neg (by simpa using hin), htj]⟩ (by exact ⟨rfl, rfl, rfl, rfl, rfl, trivial⟩) rfl (List.Sublist.refl _)
 have e4 : decide ((j : Int) < (o.procs.length : Int)) = true := decide_eq_true (by omega)
 obtain ⟨p, hp⟩ : ∃ p, o.procs[j]? = some p := ⟨_, List.getElem?_eq_getElem hjl⟩
 have y0 : (0 : Int) ≤ (j : Int) := by omega
 have y1 : (j : Int) < (o.procs.length : Int) := by omega
 obtain ⟨pb, po, cs2, rfl, hks2, hcs2⟩ := hO.procs j p hp
 obtain ⟨QA, qc, IA, ic, rfl, hQ, hI⟩ := hks2
 have hsn := pairsO_snoc hp
 refine gom ?_
 refine WL.oo (OW.alloc rfl fun b8 => ?_)
 refine gom ?_
 refine WL.oo (OW.alloc rfl fun b9 => ?_)
 cases hx : p.exp with
 | false =>
  rw [hx] at hsn
  refine gom ?_
  refine WK.pick (.blk b6 (.cells #[.string o.path, .slice CA o.consts.length cc, .slice NA o.needs.length nc, .slice (some ⟨pb, po, none⟩) o.procs.length pc] 38 (0, 0)) :: .blk b11 (.map pes1 pck1) :: .blk b10 (.map es ck) :: xs) ?_
  exact WK.again ⟨j + 1, es, ck, m, c, xs⟩ (by dsimp only; omega) ⟨by show j + 1 ≤ _; omega, hM, hF, fun k => by dsimp only; rw [hC k, hsn, if_neg (by simp), List.append_nil]⟩ (by exact ⟨rfl, rfl, rfl, rfl, rfl, rfl, rfl, rfl, rfl, trivial⟩) rfl (List.Sublist.refl _)
 | true =>
 rw [hx, if_pos rfl] at hsn
 have hlk : (lookC c (o.path, p.name)).length ≤ 1048576 := by
  rw [hC (o.path, p.name)]
  have h1 := expOf_len (pairsL [] (l.take i) ++ pairsO o (o.procs.take j)) (o.path, p.name)
  have h2 := pairsO_len o (o.procs.take j)
  rw [List.length_append] at h1
  rw [List.length_take] at h2
  omega
 refine gom ?_
 refine WL.op kr (OW.buildSlice rfl kr kr (by rfl) rfl fun b46 => ?_)
 have hlook : ∀ k, lookC (addC c (o.path, p.name) p) k = expOf (pairsL [] (l.take i) ++ pairsO o (o.procs.take (j + 1))) k := fun k => by
  rw [lookC_addC, hsn, ← List.append_assoc, expOf_append, expOf_one, ← hC k]
  by_cases e : k = (o.path, p.name)
  ·rw [if_pos e, if_pos e.symm, e]
  ·rw [if_neg e, if_neg (Ne.symm e), List.append_nil]
 by_cases hkey : (o.path, p.name) ∈ m.map (·.1)
 ·obtain ⟨jj, A1, c1, lp, x, hg, hxj, hv, hlc, hnew⟩ := hF.old hM.keys hkey p
  rw [hlc] at hlk
  refine WL.oo (OW.mapEntryK (emb := kyV) (key := (o.path, p.name)) (kt := 140) (z := .slice none 0 0) (v := .slice A1 lp.length c1) rfl rfl atA hM (by rw [hg]; rfl) rfl fun es2 ck2 n2 hM2 hS2 => ?_)
  refine gom ?_
  refine WL.oo (OW.append1 (k := Kd.prc) (news := [.string p.name, .bool true, .slice QA p.params.length qc, .int .i64 p.locals, .int .i64 p.result, .slice IA p.code.length ic]) (u := p) rfl rfl kr rfl hv (by repeat (first | exact At.ofGet hxj | apply At.there)) .here rfl ⟨QA, qc, IA, ic, by rw [hx], hQ, hI⟩ (by omega) (by omega) rfl fun A3 c3 o3 hv3 => ?_)
  refine gom ?_
  refine WL.oo (OW.entryStoreK (emb := kyV) (kt := 140) (key := (o.path, p.name)) rfl rfl rfl atA hM2 hS2 inferInstance rfl fun es3 hM3 => ?_)
  refine gom ?_
  refine WK.pick (.blk b6 (.cells #[.string o.path, .slice CA o.consts.length cc, .slice NA o.needs.length nc, .slice (some ⟨pb, po, none⟩) o.procs.length pc] 38 (0, 0)) :: .blk b11 (.map pes1 pck1) :: .blk b10 (.map es3 ck2) :: xs.set jj o3) ?_
  exact WK.again ⟨j + 1, es3, ck2, _, addC c (o.path, p.name) p, xs.set jj o3⟩ (by dsimp only; omega) ⟨by show j + 1 ≤ _; omega, hM3, hnew _ _ _ _ hv3, hlook⟩ (by exact ⟨rfl, rfl, rfl, rfl, rfl, rfl, rfl, rfl, rfl, trivial⟩) rfl (List.Sublist.refl _)
 ·
  refine WL.oo (OW.mapEntryK (emb := kyV) (key := (o.path, p.name)) (kt := 140) (z := .slice none 0 0) (v := .slice none 0 0) rfl rfl atA hM (by rw [getA_absent hkey]; rfl) rfl fun es2 ck2 n2 hM2 hS2 => ?_)
  refine gom ?_
  refine WL.nothing ?_
  refine WL.oo (OW.append1 (k := Kd.prc) (l := []) (news := [.string p.name, .bool true, .slice QA p.params.length qc, .int .i64 p.locals, .int .i64 p.result, .slice IA p.code.length ic]) (u := p) rfl rfl kr rfl KVec.nil .here (.there .here) rfl ⟨QA, qc, IA, ic, by rw [hx], hQ, hI⟩ (by show (0 + 1) * _ ≤ _; decide) (by decide) rfl fun A3 c3 o3 hv3 => ?_)
  refine gom ?_
  refine WL.oo (OW.entryStoreK (emb := kyV) (kt := 140) (key := (o.path, p.name)) rfl rfl rfl atA hM2 hS2 inferInstance rfl fun es3 hM3 => ?_)
  refine gom ?_
  refine WK.pick (o3 :: .blk b6 (.cells #[.string o.path, .slice CA o.consts.length cc, .slice NA o.needs.length nc, .slice (some ⟨pb, po, none⟩) o.procs.length pc] 38 (0, 0)) :: .blk b11 (.map pes1 pck1) :: .blk b10 (.map es3 ck2) :: xs) ?_
  refine WK.lastOne ?_
  exact WK.again ⟨j + 1, es3, ck2, _, addC c (o.path, p.name) p, xs ++ [o3]⟩ (by dsimp only; omega) ⟨by show j + 1 ≤ _; omega, hM3, hF.new hkey p _ hv3, hlook⟩ (by exact ⟨rfl, rfl, rfl, rfl, rfl, rfl, rfl, rfl, rfl, trivial⟩) rfl (List.Sublist.refl _)
end
section
open Go.MapKept
attribute [local irreducible] Tryz.prog
def idxR {α : Type} (q : α → Bool) (l : List α) : Int := match (List.range l.length).find? (fun i => ((l[i]?).map q).getD false) with
 | some i => (i : Int)
 | none => -1
theorem idxR_at {α : Type} {q : α → Bool} {l : List α} {i : Nat} {x : α} (h0 : ∀ j y, j < i → l[j]? = some y → q y = false) (hx : l[i]? = some x) (h : q x = true) : idxR q l = (i : Int) := by
 have hi := (List.getElem?_eq_some_iff.1 hx).1
 unfold idxR
 rw [find_range hi (fun j hj => by rw [List.getElem?_eq_getElem (by omega)]; exact h0 j _ hj (List.getElem?_eq_getElem (by omega))) (by rw [hx]; exact h)]
theorem idxR_none {α : Type} {q : α → Bool} {l : List α} (h0 : ∀ j y, j < l.length → l[j]? = some y → q y = false) : idxR q l = -1 := by
 unfold idxR
 rw [List.find?_eq_none.2 (fun j hj => by
  have hj' : j < l.length := by simpa using hj
  rw [List.getElem?_eq_getElem hj']
  simpa using h0 j _ hj' (List.getElem?_eq_getElem hj'))]
theorem idxR_any {α : Type} (q : α → Bool) (l : List α) : decide ((0 : Int) ≤ idxR q l) = l.any q := by
 cases ha : l.any q with
 | false =>
  rw [idxR_none (fun j y hj hy => ?_)]
  ·rfl
  ·cases hq : q y with
   | false => rfl
   | true => rw [List.any_eq_true.2 ⟨y, List.mem_of_getElem? hy, hq⟩] at ha; cases ha
 | true =>
  obtain ⟨y, hy, hq⟩ := List.any_eq_true.1 ha
  obtain ⟨i, hi⟩ := List.mem_iff_getElem?.1 hy
  unfold idxR
  cases hf : (List.range l.length).find? (fun i => ((l[i]?).map q).getD false) with
  | none =>
   rw [List.find?_eq_none] at hf
   have := hf i (by simpa using (List.getElem?_eq_some_iff.1 hi).1)
   rw [hi] at this
   exact absurd hq (by simpa using this)
  | some j => simp
set_option maxHeartbeats 1000000 in
theorem idxP_fn (G : Gh) (A : Option Addr) (cap : Nat) (l : List Pr) (Hc : List Own) (cs0 : List Value) (hr : Rds G Hc A cs0) (hk0 : KFl Kd.prc G l cs0) (hlen : l.length ≤ 1000000000) (f : Nat) [hB : Body Tryz.prog f] (fc : Array Value) (q : Pr → Bool) (hf : ∀ x cs, x ∈ l → Kd.prc.K G x cs → Fn Tryz.prog f (#[.agg cs.toArray] ++ fc) G Hc fun e G' H' => e = .returned (.bool (q x)) ∧ G = G' ∧ H' = Hc) :
  Fn Tryz.prog 125 #[.slice A l.length cap, .func (.func f) #[] fc] G Hc fun e G' H' => e = .returned (.int .i64 (idxR q l)) ∧ G = G' ∧ H' = Hc := by
 refine Fn.enter Tryz.func125 rfl rfl fun w0 => ?_
 refine gom ?_
 refine WC.loop (X := Nat) (fun i => [(0, .slice A l.length cap), (1, .func (.func f) #[] fc), (7, .int .i64 l.length), (8, .int .i64 i)]) (fun _ => G) (fun _ => Hc) (fun i => l.length - i) (fun i => i ≤ l.length ∧ ∀ j y, j < i → l[j]? = some y → q y = false) 0 ⟨Nat.zero_le _, fun j y h => absurd h (Nat.not_lt_zero _)⟩ (by exact ⟨rfl, rfl, rfl, rfl, trivial⟩) rfl (List.Sublist.refl _) fun i hi => ?_
 obtain ⟨hi, h0⟩ := hi
 have x2 := wrapS i (by omega)
 by_cases hlt : i < l.length
 rotate_left
 ·have e2 : decide ((i : Int) < (l.length : Int)) = false := decide_eq_false (by omega)
  have hr : idxR q l = -1 := idxR_none fun j y hj => h0 j y (by omega)
  rw [hr]
  refine gom ?_
  refine WC.rt ?_
  exact QF.p1 (.inl rfl) rfl (.tmp rfl) (⟨rfl, rfl, rfl⟩)
 have e2 : decide ((i : Int) < (l.length : Int)) = true := decide_eq_true (by omega)
 obtain ⟨x, hx⟩ : ∃ x, l[i]? = some x := ⟨_, List.getElem?_eq_getElem (by omega)⟩
 have x0 : (0 : Int) ≤ (i : Int) := by omega
 have x1 : (i : Int) < (l.length : Int) := by omega
 have hks := hk0.at_ i x hx
 obtain ⟨rb, ro, hrr, hread⟩ := hr.resolve_left (fun h => by have h1 := hk0.len; rw [h, show Kd.prc.n = 6 from rfl, List.length_nil] at h1; omega)
 subst hrr
 refine gom ?_
 refine WL.vv (Gv.loadRN (i := ((i : Nat) : Int).toNat * 6) rfl hread (List.Sublist.refl _) rfl (Kd.prc.len hks)) ?_
 refine WL.oo (OW.callVK rfl rfl rfl (hf x _ (List.mem_of_getElem? hx) hks) rfl fun v' G' H' h hg => ?_)
 obtain ⟨he, rfl, hh⟩ := h
 cases hh.symm
 cases he
 cases hq : q x with
 | true =>
  rw [idxR_at h0 hx hq]
  refine gom ?_
  refine WC.rt ?_
  exact QF.p1 (.inl rfl) rfl (.tmp rfl) (⟨rfl, rfl, rfl⟩)
 | false =>
  refine gom ?_
  refine WK.pick Hc ?_
  exact WK.again (i + 1) (by omega) ⟨by omega, fun j y hj hy => by
   rcases Nat.lt_or_ge j i with h | h
   ·exact h0 j y h hy
   ·obtain rfl : j = i := by omega
    rw [hx] at hy; cases hy; exact hq⟩ (by exact ⟨rfl, rfl, rfl, rfl, trivial⟩) rfl (List.Sublist.refl _)
theorem hasP_fn (G : Gh) (A : Option Addr) (cap : Nat) (l : List Pr) (Hc : List Own) (cs0 : List Value) (hr : Rds G Hc A cs0) (hk0 : KFl Kd.prc G l cs0) (hlen : l.length ≤ 1000000000) (f : Nat) [hB : Body Tryz.prog f] (fc : Array Value) (q : Pr → Bool) (hf : ∀ x cs, x ∈ l → Kd.prc.K G x cs → Fn Tryz.prog f (#[.agg cs.toArray] ++ fc) G Hc fun e G' H' => e = .returned (.bool (q x)) ∧ G = G' ∧ H' = Hc) :
  Fn Tryz.prog 83 #[.slice A l.length cap, .func (.func f) #[] fc] G Hc fun e G' H' => e = .returned (.bool (l.any q)) ∧ G = G' ∧ H' = Hc := by
 refine Fn.enter Tryz.func83 rfl rfl fun w0 => ?_
 refine gom ?_
 refine WL.oo (OW.callK rfl (idxP_fn G A cap l Hc cs0 hr hk0 hlen f fc q hf) rfl fun v' G' H' h hg => ?_)
 obtain ⟨he, rfl, hh⟩ := h
 cases hh.symm
 cases he
 rw [← idxR_any]
 refine gom ?_
 refine WK.pick Hc ?_
 refine WC.rt ?_
 exact QF.p1 (.inl rfl) rfl (.tmp rfl) (⟨rfl, rfl, rfl⟩)
set_option maxHeartbeats 1000000 in
theorem idxN_fn (G : Gh) (A : Option Addr) (cap : Nat) (l : List Nd) (Hc : List Own) (cs0 : List Value) (hr : Rds G Hc A cs0) (hk0 : KFl Kd.ned G l cs0) (hlen : l.length ≤ 1000000000) (f : Nat) [hB : Body Tryz.prog f] (fc : Array Value) (q : Nd → Bool) (hf : ∀ x cs, x ∈ l → Kd.ned.K G x cs → Fn Tryz.prog f (#[.agg cs.toArray] ++ fc) G Hc fun e G' H' => e = .returned (.bool (q x)) ∧ G = G' ∧ H' = Hc) :
  Fn Tryz.prog 81 #[.slice A l.length cap, .func (.func f) #[] fc] G Hc fun e G' H' => e = .returned (.int .i64 (idxR q l)) ∧ G = G' ∧ H' = Hc := by
 refine Fn.enter Tryz.func81 rfl rfl fun w0 => ?_
 refine gom ?_
 refine WC.loop (X := Nat) (fun i => [(0, .slice A l.length cap), (1, .func (.func f) #[] fc), (7, .int .i64 l.length), (8, .int .i64 i)]) (fun _ => G) (fun _ => Hc) (fun i => l.length - i) (fun i => i ≤ l.length ∧ ∀ j y, j < i → l[j]? = some y → q y = false) 0 ⟨Nat.zero_le _, fun j y h => absurd h (Nat.not_lt_zero _)⟩ (by exact ⟨rfl, rfl, rfl, rfl, trivial⟩) rfl (List.Sublist.refl _) fun i hi => ?_
 obtain ⟨hi, h0⟩ := hi
 have x2 := wrapS i (by omega)
 by_cases hlt : i < l.length
 rotate_left
 ·have e2 : decide ((i : Int) < (l.length : Int)) = false := decide_eq_false (by omega)
  have hr : idxR q l = -1 := idxR_none fun j y hj => h0 j y (by omega)
  rw [hr]
  refine gom ?_
  refine WC.rt ?_
  exact QF.p1 (.inl rfl) rfl (.tmp rfl) (⟨rfl, rfl, rfl⟩)
 have e2 : decide ((i : Int) < (l.length : Int)) = true := decide_eq_true (by omega)
 obtain ⟨x, hx⟩ : ∃ x, l[i]? = some x := ⟨_, List.getElem?_eq_getElem (by omega)⟩
 have x0 : (0 : Int) ≤ (i : Int) := by omega
 have x1 : (i : Int) < (l.length : Int) := by omega
 have hks := hk0.at_ i x hx
 obtain ⟨rb, ro, hrr, hread⟩ := hr.resolve_left (fun h => by have h1 := hk0.len; rw [h, show Kd.ned.n = 4 from rfl, List.length_nil] at h1; omega)
 subst hrr
 refine gom ?_
 refine WL.vv (Gv.loadRN (i := ((i : Nat) : Int).toNat * 4) rfl hread (List.Sublist.refl _) rfl (Kd.ned.len hks)) ?_
 refine WL.oo (OW.callVK rfl rfl rfl (hf x _ (List.mem_of_getElem? hx) hks) rfl fun v' G' H' h hg => ?_)
 obtain ⟨he, rfl, hh⟩ := h
 cases hh.symm
 cases he
 cases hq : q x with
 | true =>
  rw [idxR_at h0 hx hq]
  refine gom ?_
  refine WC.rt ?_
  exact QF.p1 (.inl rfl) rfl (.tmp rfl) (⟨rfl, rfl, rfl⟩)
 | false =>
  refine gom ?_
  refine WK.pick Hc ?_
  exact WK.again (i + 1) (by omega) ⟨by omega, fun j y hj hy => by
   rcases Nat.lt_or_ge j i with h | h
   ·exact h0 j y h hy
   ·obtain rfl : j = i := by omega
    rw [hx] at hy; cases hy; exact hq⟩ (by exact ⟨rfl, rfl, rfl, rfl, trivial⟩) rfl (List.Sublist.refl _)
theorem hasN_fn (G : Gh) (A : Option Addr) (cap : Nat) (l : List Nd) (Hc : List Own) (cs0 : List Value) (hr : Rds G Hc A cs0) (hk0 : KFl Kd.ned G l cs0) (hlen : l.length ≤ 1000000000) (f : Nat) [hB : Body Tryz.prog f] (fc : Array Value) (q : Nd → Bool) (hf : ∀ x cs, x ∈ l → Kd.ned.K G x cs → Fn Tryz.prog f (#[.agg cs.toArray] ++ fc) G Hc fun e G' H' => e = .returned (.bool (q x)) ∧ G = G' ∧ H' = Hc) :
  Fn Tryz.prog 36 #[.slice A l.length cap, .func (.func f) #[] fc] G Hc fun e G' H' => e = .returned (.bool (l.any q)) ∧ G = G' ∧ H' = Hc := by
 refine Fn.enter Tryz.func36 rfl rfl fun w0 => ?_
 refine gom ?_
 refine WL.oo (OW.callK rfl (idxN_fn G A cap l Hc cs0 hr hk0 hlen f fc q hf) rfl fun v' G' H' h hg => ?_)
 obtain ⟨he, rfl, hh⟩ := h
 cases hh.symm
 cases he
 rw [← idxR_any]
 refine gom ?_
 refine WK.pick Hc ?_
 refine WC.rt ?_
 exact QF.p1 (.inl rfl) rfl (.tmp rfl) (⟨rfl, rfl, rfl⟩)
end
section
open Go.MapKept
attribute [local irreducible] Tryz.prog
abbrev ndC (n : Nd) (QA : Option Addr) (qc : Nat) : Array Value := #[.string n.path, .string n.name, .slice QA n.params.length qc, .int .i64 n.result]
theorem met1_fn (G : Gh) (H : List Own) (b j : Nat) (n : Nd) (QA : Option Addr) (qc : Nat) (hQ : Sl (Kd.int .i64) G QA n.params) (hb : At H j (.blk b (.cells (ndC n QA qc) 56 (0, 0)))) (p : Pr) (cs : List Value) (hp : Kd.prc.K G p cs) (hpl : p.params.length ≤ 1000000000) :
  Fn Tryz.prog 84 #[.agg cs.toArray, .pointer (some ⟨b, 0, none⟩)] G H fun e G' H' => e = .returned (.bool (fitN n p)) ∧ G = G' ∧ H' = H := by
 obtain ⟨PA, pc, IA, ic, rfl, hP, hI⟩ := hp
 refine Fn.enter Tryz.func84 rfl rfl fun w0 => ?_
 refine WC.seq ?_
 refine WC.region ?_
 refine WL.oo (OW.box rfl rfl fun b2 => ?_)
 refine gom ?_
 refine WL.vv (Gv.load1 rfl (.there hb) rfl) ?_
 cases hr : (p.result == n.result) with
 | false =>
  rw [show fitN n p = false by unfold fitN; rw [hr]; rfl]
  refine gom ?_
  refine WC.rt ?_
  exact QF.p1 (.inl rfl) rfl (.tmp rfl) (⟨rfl, rfl, rfl⟩)
 | true =>
  rw [show fitN n p = (p.params == n.params) by unfold fitN; rw [hr]; rfl]
  refine gom ?_
  refine WL.vv (Gv.load1 rfl (.there hb) rfl) ?_
  refine WL.oo (OW.callK rfl (equal_types G [] PA QA pc qc p.params n.params hP hQ (by omega)) rfl fun v' G' H' h hg => ?_)
  obtain ⟨he, rfl, rfl⟩ := h
  cases he
  refine gom ?_
  refine WK.pick H ?_
  refine WC.rt ?_
  exact QF.p1 (.inl rfl) rfl (.tmp rfl) (⟨rfl, rfl, rfl⟩)
theorem met_fn (G : Gh) (mb : Nat) (es : Array MapEntry) (ck : Nat) (m : List (Ky × Value)) (hM : MK kyV es ck m) (l : List Ob) (hE : ExpM G l m) (hle : ∀ k, (expL l k).length ≤ 1000000000) (hpl : ∀ o ∈ l, ∀ p ∈ o.procs, p.params.length ≤ 1000000000) (n : Nd) (QA : Option Addr) (qc : Nat) (hQ : Sl (Kd.int .i64) G QA n.params) :
  Fn Tryz.prog 39 #[.map (some mb), .agg (ndC n QA qc)] G [.blk mb (.map es ck)] fun e G' H' => e = .returned (.bool (metL l n)) ∧ G = G' ∧ H' = [.blk mb (.map es ck)] := by
 refine Fn.enter Tryz.func39 rfl rfl fun w0 => ?_
 refine WC.seq ?_
 refine WC.region ?_
 refine WL.oo (OW.box rfl rfl fun b3 => ?_)
 refine gom ?_
 obtain ⟨A, cap, hv, hS⟩ := hE (n.path, n.name)
 refine WL.vv (Gv.lookupK (emb := kyV) (key := (n.path, n.name)) (kt := 140) (z := .slice none 0 0) rfl rfl atA hM hv) ?_
 refine gom ?_
 refine WL.pp (Gp.makeFunc rfl rfl) ?_
 obtain ⟨cs0, hr, hk⟩ := Sl.kfl (H := [.blk b3 (.cells (ndC n QA qc) 56 (0, 0))]) (by decide) hS
 have hmem : ∀ p ∈ expL l (n.path, n.name), p.params.length ≤ 1000000000 := fun p hp => by
  unfold expL at hp
  split at hp
  ·cases hp
  ·rename_i o ho
   exact hpl o (List.mem_of_find?_eq_some ho) p (List.mem_filter.1 hp).1
 refine WL.oo (OW.callK rfl (hasP_fn G A cap (expL l (n.path, n.name)) [.blk b3 (.cells (ndC n QA qc) 56 (0, 0))] cs0 hr hk (hle _) 84 #[.pointer (some ⟨b3, 0, none⟩)] (fitN n) (fun x cs hx hK => met1_fn G _ b3 0 n QA qc hQ .here x cs hK (hmem x hx))) rfl fun v' G' H' h hg => ?_)
 obtain ⟨he, rfl, rfl⟩ := h
 cases he
 refine gom ?_
 refine WC.rt ?_
 exact QF.p1 (.inl rfl) rfl (.tmp rfl) (⟨rfl, rfl, rfl⟩)
theorem sameNeed_fn (G : Gh) (a b : Nd) (QA RA : Option Addr) (qc rc : Nat) (hQ : Sl (Kd.int .i64) G QA a.params) (hR : Sl (Kd.int .i64) G RA b.params) (hl : a.params.length ≤ 100000000000000) :
  Fn Tryz.prog 38 #[.agg (ndC a QA qc), .agg (ndC b RA rc)] G [] fun e G' H' => e = .returned (.bool (sameN a b)) ∧ G = G' ∧ H' = [] := by
 refine Fn.enter Tryz.func38 rfl rfl fun w0 => ?_
 refine WC.seq ?_
 refine WC.region ?_
 refine WL.oo (OW.box rfl rfl fun b2 => ?_)
 refine WL.oo (OW.box rfl rfl fun b3 => ?_)
 refine gom ?_
 cases h1 : (a.path == b.path) with
 | false =>
  rw [show sameN a b = false by unfold sameN; rw [h1]; rfl]
  refine gom ?_
  refine WC.rt ?_
  exact QF.p1 (.inl rfl) rfl (.tmp rfl) (⟨rfl, rfl, rfl⟩)
 | true =>
 refine gom ?_
 cases h2 : (a.name == b.name) with
 | false =>
  rw [show sameN a b = false by unfold sameN; rw [h1, h2]; rfl]
  refine gom ?_
  refine WC.rt ?_
  exact QF.p1 (.inl rfl) rfl (.tmp rfl) (⟨rfl, rfl, rfl⟩)
 | true =>
 cases h3 : (a.result == b.result) with
 | false =>
  rw [show sameN a b = false by unfold sameN; rw [h1, h2, h3]; rfl]
  refine gom ?_
  refine WC.rt ?_
  exact QF.p1 (.inl rfl) rfl (.tmp rfl) (⟨rfl, rfl, rfl⟩)
 | true =>
 rw [show sameN a b = (a.params == b.params) by unfold sameN; rw [h1, h2, h3]; rfl]
 refine gom ?_
 refine WL.oo (OW.callK rfl (equal_types G [] QA RA qc rc a.params b.params hQ hR (by omega)) rfl fun v' G' H' h hg => ?_)
 obtain ⟨he, rfl, rfl⟩ := h
 cases he
 refine gom ?_
 refine WC.rt ?_
 exact QF.p1 (.inl rfl) rfl (.tmp rfl) (⟨rfl, rfl, rfl⟩)
theorem miss1_fn (G : Gh) (H : List Own) (b j : Nat) (n : Nd) (QA : Option Addr) (qc : Nat) (hQ : Sl (Kd.int .i64) G QA n.params) (hb : At H j (.blk b (.cells (ndC n QA qc) 56 (0, 0)))) (x : Nd) (cs : List Value) (hx : Kd.ned.K G x cs) (hl : x.params.length ≤ 1000000000) :
  Fn Tryz.prog 37 #[.agg cs.toArray, .pointer (some ⟨b, 0, none⟩)] G H fun e G' H' => e = .returned (.bool (sameN x n)) ∧ G = G' ∧ H' = H := by
 obtain ⟨XA, xc, rfl, hX⟩ := hx
 refine Fn.enter Tryz.func37 rfl rfl fun w0 => ?_
 refine WC.seq ?_
 refine WC.region ?_
 refine WL.oo (OW.box rfl rfl fun b2 => ?_)
 refine gom ?_
 refine WL.vv (Gv.loadN rfl (.there hb) rfl rfl) ?_
 refine WL.oo (OW.callK rfl (sameNeed_fn G x n XA QA xc qc hX hQ (by omega)) rfl fun v' G' H' h hg => ?_)
 obtain ⟨he, rfl, rfl⟩ := h
 cases he
 refine gom ?_
 refine WK.pick H ?_
 refine WC.rt ?_
 exact QF.p1 (.inl rfl) rfl (.tmp rfl) (⟨rfl, rfl, rfl⟩)
end
section
open Go.MapKept
attribute [local irreducible] Tryz.prog expL metL
structure LLim (l : List Ob) : Prop where
 len : l.length ≤ 1048576
 sumP : sumP l ≤ 1048576
 sumN : (l.map (·.needs.length)).sum ≤ 1048576
 sumC : sumC l ≤ 1048576
 lim : ∀ o ∈ l, OLim o
 pp : ∀ o ∈ l, ∀ p ∈ o.procs, p.params.length ≤ 1048576 ∧ p.code.length ≤ 1048576
 np : ∀ o ∈ l, ∀ n ∈ o.needs, n.params.length ≤ 1048576
theorem expL_len {l : List Ob} (h : LLim l) (k : Ky) : (expL l k).length ≤ 1000000000 := by
 rw [← expOf_all]
 have h1 := expOf_len (pairsL [] l) k
 have h2 := pairsL_len l []
 have h3 := h.sumP
 unfold Gb.sumP at h3
 omega
structure ML where
 i : Nat
 A : Option Addr
 cap : Nat
 acc : List Nd
 x : Own
 G : Gh
theorem missStep_len (l : List Ob) (acc : List Nd) (n : Nd) : (missStep l acc n).length ≤ acc.length + 1 := by
 unfold missStep
 split
 ·omega
 ·simp
theorem foldl_len (l : List Ob) : ∀ (ns : List Nd) (acc : List Nd), (ns.foldl (missStep l) acc).length ≤ acc.length + ns.length
 | [], acc => by simp
 | n :: ns, acc => by
  rw [List.foldl_cons]
  have h1 := foldl_len l ns (missStep l acc n)
  have h2 := missStep_len l acc n
  rw [List.length_cons]; omega
theorem foldl_mem (l : List Ob) : ∀ (ns : List Nd) (acc : List Nd), ∀ x ∈ ns.foldl (missStep l) acc, x ∈ acc ∨ x ∈ ns
 | [], acc, x, h => .inl h
 | n :: ns, acc, x, h => by
  rw [List.foldl_cons] at h
  rcases foldl_mem l ns _ x h with h | h
  ·unfold missStep at h
   split at h
   ·exact .inl h
   ·rcases List.mem_append.1 h with h | h
    ·exact .inl h
    ·exact .inr (by rw [List.mem_singleton.1 h]; exact List.mem_cons_self ..)
  ·exact .inr (List.mem_cons_of_mem _ h)
theorem sumN_take {l : List Ob} {i : Nat} {o : Ob} (h : l[i]? = some o) : ((l.take i).flatMap (·.needs)).length + o.needs.length ≤ (l.map (·.needs.length)).sum := by
 induction l generalizing i with
 | nil => simp at h
 | cons a r ih =>
  cases i with
  | zero => simp at h; subst h; simp
  | succ i => rw [List.take_succ_cons, List.flatMap_cons, List.length_append, List.map_cons, List.sum_cons]; have := ih (by simpa using h); omega
set_option maxRecDepth 20000 in
set_option maxHeartbeats 4000000 in
theorem Missing_fn (G : Gh) (A : Option Addr) (cap : Nat) (l : List Ob) (hl : Sl Kd.ob G A l) (hL : LLim l) :
  Fn Tryz.prog 13 #[.slice A l.length cap] G [] fun e G' H' => ∃ MA mc x, e = .returned (.slice MA (missL l).length mc) ∧ G.le G' ∧ KVec Kd.ned 56 G' MA mc (missL l) x ∧ H' = [x] := by
 have hlen := hL.len
 refine Fn.enter Tryz.func13 rfl rfl fun w0 => ?_
 refine gom ?_
 refine WL.oo (OW.callK rfl (exported_fn G A cap l hl hL.len hL.sumP) rfl fun v' G' H' h hg => ?_)
 obtain ⟨mb, es, ck, m, he, hg0, hM, hE, rfl⟩ := h
 cases he
 obtain ⟨G1, rfl⟩ : ∃ G1, G1 = G' := ⟨_, rfl⟩
 refine gom ?_
 refine WC.nothing ?_
 refine WC.loop (X := ML) (fun x => [(3, .map (some mb)), (4, .slice x.A x.acc.length x.cap), (12, .slice A l.length cap), (13, .int .i64 l.length), (14, .int .i64 x.i)]) (fun x => x.G) (fun x => [x.x, .blk mb (.map es ck)]) (fun x => l.length - x.i)
  (fun x => x.i ≤ l.length ∧ G1.le x.G ∧ KVec Kd.ned 56 x.G x.A x.cap x.acc x.x ∧ x.acc = ((l.take x.i).flatMap (·.needs)).foldl (missStep l) []) ⟨0, none, 0, [], .spare 0 0 0, G1⟩ ⟨Nat.zero_le _, Gh.le_refl _, KVec.nil, rfl⟩ (by exact ⟨rfl, rfl, rfl, rfl, rfl, trivial⟩) rfl (List.Sublist.refl _) fun x hx => ?_
 obtain ⟨i, B, cb, acc, xo, G2⟩ := x
 obtain ⟨hi, hg2, hK, hacc⟩ := hx
 dsimp only at hi hg2 hK hacc
 have x2 := wrapS i (by omega)
 by_cases hlt : i < l.length
 rotate_left
 ·have e2 : decide ((i : Int) < (l.length : Int)) = false := decide_eq_false (by omega)
  have hm : acc = missL l := by rw [hacc, List.take_of_length_le (by omega)]; rfl
  subst hm
  refine gom ?_
  refine WC.rt ?_
  exact QF.p1 (.inl rfl) rfl (.tmp rfl) (⟨B, cb, xo, rfl, Gh.le_trans hg0 hg2, hK, rfl⟩)
 have e2 : decide ((i : Int) < (l.length : Int)) = true := decide_eq_true (by omega)
 obtain ⟨o, ho⟩ : ∃ o, l[i]? = some o := ⟨_, List.getElem?_eq_getElem (by omega)⟩
 have hom := List.mem_of_getElem? ho
 have x0 : (0 : Int) ≤ (i : Int) := by omega
 have x1 : (i : Int) < (l.length : Int) := by omega
 have hl2 := hl.mono (Gh.le_trans hg0 hg2)
 obtain ⟨ab, ao, cs, rfl, hks, hcs⟩ := hl2 i o ho
 obtain ⟨CA, cc, NA, nc, PA, pc, rfl, hO⟩ := hks
 have hfl : (l.take (i + 1)).flatMap (·.needs) = (l.take i).flatMap (·.needs) ++ o.needs := by rw [take_snoc' ho, List.flatMap_append]; simp
 have hsn := sumN_take ho
 have hsl := hL.sumN
 refine gom ?_
 refine WL.oo (OW.alloc rfl fun b6 => ?_)
 refine gom ?_
 refine WC.pick [xo, .blk mb (.map es ck)] ?_
 refine WC.loop (X := ML) (fun x => [(3, .map (some mb)), (4, .slice x.A x.acc.length x.cap), (12, .slice (some ⟨ab, ao, none⟩) l.length cap), (13, .int .i64 l.length), (14, .int .i64 i), (19, .slice NA o.needs.length nc), (20, .int .i64 o.needs.length), (21, .int .i64 x.i)]) (fun x => x.G) (fun x => [x.x, .blk mb (.map es ck)]) (fun x => o.needs.length - x.i)
  (fun x => x.i ≤ o.needs.length ∧ G2.le x.G ∧ KVec Kd.ned 56 x.G x.A x.cap x.acc x.x ∧ x.acc = ((l.take i).flatMap (·.needs) ++ o.needs.take x.i).foldl (missStep l) []) ⟨0, B, cb, acc, xo, G2⟩ ⟨Nat.zero_le _, Gh.le_refl _, hK, by dsimp only; rw [List.take_zero, List.append_nil]; exact hacc⟩ (by exact ⟨rfl, rfl, rfl, rfl, rfl, rfl, rfl, rfl, trivial⟩) rfl (List.Sublist.refl _) fun x hx => ?_
 obtain ⟨j, B, cb, acc, xo, G3⟩ := x
 obtain ⟨hj, hg3, hK, hacc⟩ := hx
 dsimp only at hj hg3 hK hacc
 have y2 := wrapS j (by omega)
 by_cases hjl : j < o.needs.length
 rotate_left
 ·have e4 : decide ((j : Int) < (o.needs.length : Int)) = false := decide_eq_false (by omega)
  have htj : o.needs.take j = o.needs := List.take_of_length_le (by omega)
  refine gom ?_
  refine WK.pick [xo, .blk mb (.map es ck)] ?_
  exact WK.again ⟨i + 1, B, cb, acc, xo, G3⟩ (by dsimp only; omega) ⟨by show i + 1 ≤ _; omega, Gh.le_trans hg2 hg3, hK, by dsimp only; rw [hacc, hfl, htj]⟩ (by exact ⟨rfl, rfl, rfl, rfl, rfl, trivial⟩) rfl (List.Sublist.refl _)
 have e4 : decide ((j : Int) < (o.needs.length : Int)) = true := decide_eq_true (by omega)
 obtain ⟨n, hn⟩ : ∃ n, o.needs[j]? = some n := ⟨_, List.getElem?_eq_getElem hjl⟩
 have hnm := List.mem_of_getElem? hn
 have y0 : (0 : Int) ≤ (j : Int) := by omega
 have y1 : (j : Int) < (o.needs.length : Int) := by omega
 have hO3 := hO.mono hg3
 obtain ⟨nb, no, cs2, rfl, hks2, hcs2⟩ := hO3.needs j n hn
 obtain ⟨QA, qc, rfl, hQ⟩ := hks2
 have hqn : (o.needs.take (j + 1)) = o.needs.take j ++ [n] := take_snoc' hn
 have hstep : ((l.take i).flatMap (·.needs) ++ o.needs.take (j + 1)).foldl (missStep l) [] = missStep l acc n := by rw [hqn, ← List.append_assoc, List.foldl_append, ← hacc]; rfl
 have hal : acc.length ≤ 1048576 := by
  have := foldl_len l ((l.take i).flatMap (·.needs) ++ o.needs.take j) []
  rw [← hacc, List.length_append, List.length_take, List.length_nil] at this
  omega
 have hap : ∀ x ∈ acc, x.params.length ≤ 1000000000 := fun x hx => by
  rw [hacc] at hx
  rcases foldl_mem l _ _ x hx with h | h
  ·cases h
  ·rcases List.mem_append.1 h with h | h
   ·obtain ⟨o', ho', hx'⟩ := List.mem_flatMap.1 h
    have := hL.np o' (List.mem_of_mem_take ho') x hx'; omega
   ·have := hL.np o hom x (List.mem_of_mem_take h); omega
 have hnp := hL.np o hom n hnm
 refine gom ?_
 refine WL.oo (OW.alloc rfl fun b8 => ?_)
 refine gom ?_
 refine WL.pp (Gp.makeFunc rfl rfl) ?_
 obtain ⟨cs0, hr0, hk0⟩ := hK.rds (H := [xo, .blk b8 (.cells (ndC n QA qc) 56 (0, 0))]) .here
 refine WL.oo (OW.callK rfl (hasN_fn G3 B cb acc [xo, .blk b8 (.cells (ndC n QA qc) 56 (0, 0))] cs0 hr0 hk0 (by omega) 37 #[.pointer (some ⟨b8, 0, none⟩)] (fun x => sameN x n) (fun x cs hx hk => miss1_fn G3 _ b8 1 n QA qc hQ (.there .here) x cs hk (hap x hx))) rfl fun v' G' H' h hg => ?_)
 obtain ⟨he, rfl, rfl⟩ := h
 cases he
 refine WL.pick [xo, .blk b8 (.cells (ndC n QA qc) 56 (0, 0)), .blk mb (.map es ck)] ?_
 refine gom ?_
 have hg03 := Gh.le_trans hg2 hg3
 have hE3 : ExpM G3 l m := fun k => by obtain ⟨a, b, h1, h2⟩ := hE k; exact ⟨a, b, h1, h2.mono hg03⟩
 refine WL.oo (OW.callK rfl (met_fn G3 mb es ck m hM l hE3 (expL_len hL) (fun o ho p hp => by have := (hL.pp o ho p hp).1; omega) n QA qc hQ) rfl fun v' G' H' h hg => ?_)
 obtain ⟨he, rfl, rfl⟩ := h
 cases he
 refine WL.pick [xo, .blk b8 (.cells (ndC n QA qc) 56 (0, 0)), .blk mb (.map es ck)] ?_
 have hno : ∀ (h : (metL l n || acc.any (fun x => sameN x n)) = true), missStep l acc n = acc := fun h => by unfold missStep; rw [if_pos h]
 cases hmet : metL l n with
 | true =>
  have hst := hno (by rw [hmet]; rfl)
  refine gom ?_
  refine WK.pick [xo, .blk mb (.map es ck)] ?_
  exact WK.again ⟨j + 1, B, cb, acc, xo, G3⟩ (by dsimp only; omega) ⟨by show j + 1 ≤ _; omega, hg3, hK, by dsimp only; rw [hstep, hst]⟩ (by exact ⟨rfl, rfl, rfl, rfl, rfl, rfl, rfl, rfl, trivial⟩) rfl (List.Sublist.refl _)
 | false =>
 cases hany : acc.any (fun x => sameN x n) with
 | true =>
  have hst := hno (by rw [hmet, hany]; rfl)
  refine gom ?_
  refine WK.pick [xo, .blk mb (.map es ck)] ?_
  exact WK.again ⟨j + 1, B, cb, acc, xo, G3⟩ (by dsimp only; omega) ⟨by show j + 1 ≤ _; omega, hg3, hK, by dsimp only; rw [hstep, hst]⟩ (by exact ⟨rfl, rfl, rfl, rfl, rfl, rfl, rfl, rfl, trivial⟩) rfl (List.Sublist.refl _)
 | false =>
 have hst : missStep l acc n = acc ++ [n] := by unfold missStep; rw [hmet, hany]; rfl
 refine gom ?_
 refine WL.oo (OW.callK rfl (clone_types G3 [] QA n.params.length qc (ints n.params) hQ.ints (ints_length _) (ints_one _) hQ.none_len (by omega)) rfl fun v' G' H' h hg => ?_)
 obtain ⟨A4, cap4, x4, he, rfl, rfl, hx4⟩ := h
 cases he
 refine WL.frozenVec hx4 atA fun G4 hg4 z4 => ?_
 have hQ4 : Sl (Kd.int .i64) G4 A4 n.params := IVec.sl z4
 refine WL.pick [.blk b8 (.cells (ndC n QA qc) 56 (0, 0)), xo, .blk mb (.map es ck)] ?_
 refine gom ?_
 refine WL.op kr (OW.buildSlice rfl kr kr (by rfl) rfl fun b42 => ?_)
 refine WL.oo (OW.append1 (k := Kd.ned) (u := n) rfl rfl kr rfl (hK.mono hg4) atA .here rfl ⟨A4, cap4, rfl, hQ4⟩ (by dsimp only; omega) (by dsimp only; omega) rfl fun A5 c5 o5 hv5 => ?_)
 refine gom ?_
 refine WK.pick [o5, .blk mb (.map es ck)] ?_
 exact WK.again ⟨j + 1, A5, c5, acc ++ [n], o5, G4⟩ (by dsimp only; omega) ⟨by show j + 1 ≤ _; omega, Gh.le_trans hg3 hg4, hv5, by dsimp only; rw [hstep, hst]⟩ (by exact ⟨rfl, rfl, rfl, rfl, rfl, rfl, rfl, rfl, trivial⟩) rfl (List.Sublist.refl _)
end
section
open Go.MapKept
section
variable {α : Type} {k : Kd α} {G : Gh} {T cap b : Nat} {A : Option Addr} {l : List α} {c : Array Value}
theorem KVec.isBlk {x : Own} (h : KVec k T G A cap l x) (hn : 0 < l.length) : ∃ b c, A = some ⟨b, 0, none⟩ ∧ x = .blk b (.cells c T (0, 0)) := by
 obtain ⟨cs, h1, _⟩ := h
 obtain ⟨b, c, h2, h3⟩ := h1.isBlk hn
 exact ⟨b, c, h2, h3⟩
theorem KVec.put1 (h : KVec k T G A cap l (.blk b (.cells c T (0, 0)))) {i j : Nat} {y0 y : α} {v : Value} (hi : l[i]? = some y0) (hj : j < k.n) (hy : ∀ es, k.K G y0 es → k.K G y (es.set j v)) :
  A = some ⟨b, 0, none⟩ ∧ Nat.ble (i * k.n + j + 1) c.size = true ∧ KVec k T G A cap (l.set i y) (.blk b (.cells (splice c (i * k.n + j) [v]) T (0, 0))) := by
 obtain ⟨cs, h1, h2⟩ := h
 have hil := (List.getElem?_eq_some_iff.1 hi).1
 have hlt : i * k.n + j < l.length * k.n := by
  have : (i + 1) * k.n ≤ l.length * k.n := Nat.mul_le_mul_right _ hil
  rw [Nat.add_mul] at this; omega
 obtain ⟨a1, a2, a3⟩ := Vec.put1 h1 hlt v
 refine ⟨a1, Nat.ble_eq_true_of_le a2, cs.set (i * k.n + j) v, by rw [List.length_set]; exact a3, by rw [List.length_set, List.length_set, h2.len], fun m z hz => ?_⟩
 rw [set_elem hj]
 by_cases e : m = i
 ·subst e
  rw [if_pos rfl]
  rw [List.getElem?_set_self hil] at hz
  obtain rfl := Option.some.inj hz
  exact hy _ (h2.at_ m y0 hi)
 ·rw [if_neg e]
  rw [List.getElem?_set_ne (Ne.symm e)] at hz
  exact h2.at_ m z hz
end
theorem splice_two {c : Array Value} {o : Nat} {u v : Value} (h : o + 2 ≤ c.size) : splice (splice c o [u]) (o + 1) [v] = splice c o [u, v] := by
 have hs : (splice c o [u]).size = c.size := size_splice (by simp; omega)
 have e1 : (splice (splice c o [u]) (o + 1) [v]).toList = (c.toList.set o u).set (o + 1) v := by
  rw [splice_one (by omega), splice_one (by omega)]
 apply Array.toList_inj.1
 rw [e1]
 unfold splice
 apply List.ext_getElem?
 intro j
 simp only [List.getElem?_append, List.length_append, List.length_take, Array.length_toList, List.getElem?_take, List.getElem?_drop, List.getElem?_set, List.length_set, List.length_cons, List.length_nil]
 have m1 : min o c.size = o := by omega
 rw [m1]
 by_cases h1 : j < o
 ·simp [h1, show j < o + 2 by omega, show o ≠ j by omega, show o + 1 ≠ j by omega]
 ·by_cases h2 : o = j
  ·subst h2; simp [show o < c.size by omega]
  ·by_cases h3 : o + 1 = j
   ·subst h3; simp [show o + 1 < c.size by omega, show ¬ o + 1 < o by omega]
   ·simp [h1, h2, h3, show ¬ j < o + 2 by omega, show o + 2 + (j - (o + 2)) = j by omega]
theorem InsK.put {G : Gh} {T cap b : Nat} {A : Option Addr} {l : List (Int × Int)} {c : Array Value} (h : KVec Kd.ins T G A cap l (.blk b (.cells c T (0, 0)))) {i : Nat} {y0 y : Int × Int} (hi : l[i]? = some y0) :
  A = some ⟨b, 0, none⟩ ∧ Nat.ble (i * 2 + 2) c.size = true ∧ KVec Kd.ins T G A cap (l.set i y) (.blk b (.cells (splice c (i * 2) [.int .i64 y.1, .int .i64 y.2]) T (0, 0))) := by
 have hil := (List.getElem?_eq_some_iff.1 hi).1
 obtain ⟨a1, a2, a3⟩ := KVec.put1 (y := (y.1, y0.2)) (v := .int .i64 y.1) (j := 0) h hi (by decide) (fun es he => by have he' : es = [.int .i64 y0.1, .int .i64 y0.2] := he; rw [he']; rfl)
 have hi2 : (l.set i (y.1, y0.2))[i]? = some (y.1, y0.2) := List.getElem?_set_self hil
 obtain ⟨b1, b2, b3⟩ := KVec.put1 (y := y) (v := .int .i64 y.2) (j := 1) a3 hi2 (by decide) (fun es he => by have he' : es = [.int .i64 y.1, .int .i64 y0.2] := he; rw [he']; rfl)
 have e0 : Kd.ins.n = 2 := rfl
 rw [e0] at a2 b2 b3 a3
 have a2' := Nat.le_of_ble_eq_true a2
 have hs : (splice c (i * 2 + 0) [Value.int .i64 y.1]).size = c.size := size_splice (by simp; omega)
 have b2' := Nat.le_of_ble_eq_true b2
 rw [hs] at b2'
 refine ⟨a1, Nat.ble_eq_true_of_le (by omega), ?_⟩
 rw [List.set_set] at b3
 rw [Nat.add_zero, splice_two (by omega)] at b3
 exact b3
theorem join_snoc (L : List (ByteArray × Pr)) : ∀ (l : List Ob) (o : Ob) (cs ps : Nat), joinP L (l ++ [o]) cs ps = joinP L l cs ps ++ o.procs.map (moveP L o (cs + sumC l) (ps + sumP l))
 | [], o, cs, ps => by simp [joinP, sumC, sumP]
 | a :: r, o, cs, ps => by rw [List.cons_append, joinP, joinP, join_snoc L r, sumC_cons, sumP_cons, List.append_assoc, Nat.add_assoc, Nat.add_assoc]
theorem pts_snoc (path : ByteArray) : ∀ (ps : List Pr) (p : Pr) (k : Nat), ptsO path (ps ++ [p]) k = ptsO path ps k ++ (if p.exp = true then [⟨path, p.name, ((k + ps.length : Nat) : Int)⟩] else [])
 | [], p, k => by cases h : p.exp <;> simp [ptsO, h]
 | a :: r, p, k => by
  rw [List.cons_append, ptsO, ptsO, pts_snoc path r p (k + 1), List.length_cons, show k + 1 + r.length = k + (r.length + 1) by omega]
  split <;> simp
theorem joinT_snoc : ∀ (l : List Ob) (o : Ob) (ps : Nat), joinT' (l ++ [o]) ps = joinT' l ps ++ ptsO o.path o.procs (ps + sumP l)
 | [], o, ps => by simp [joinT', sumP]
 | a :: r, o, ps => by rw [List.cons_append, joinT', joinT', joinT_snoc r, sumP_cons, List.append_assoc, Nat.add_assoc]
theorem pts_len (path : ByteArray) : ∀ (ps : List Pr) (k : Nat), (ptsO path ps k).length ≤ ps.length
 | [], k => Nat.le_refl _
 | a :: r, k => by
  have := pts_len path r (k + 1)
  rw [ptsO]
  split
  ·rw [List.length_cons, List.length_cons]; omega
  ·rw [List.length_cons]; omega
theorem joinT_len : ∀ (l : List Ob) (ps : Nat), (joinT' l ps).length ≤ sumP l
 | [], ps => Nat.le_refl _
 | a :: r, ps => by
  have h1 := joinT_len r (ps + a.procs.length)
  have h2 := pts_len a.path a.procs ps
  rw [joinT', List.length_append, sumP_cons]; omega
theorem atL_snoc (L : List (ByteArray × Pr)) (q : ByteArray × Pr) (k : Ky) : atL (L ++ [q]) k = if (q.1, q.2.name) = k then (L.length : Int) else atL L k := by
 unfold atL
 rw [List.length_append, List.length_singleton, List.range_succ, List.reverse_append, List.reverse_singleton, List.singleton_append]
 have hl : (L ++ [q])[L.length]? = some q := by rw [List.getElem?_append_right (Nat.le_refl _)]; simp
 have hr : (List.range L.length).reverse.find? (fun j => decide (((L ++ [q])[j]?).map (fun q => (q.1, q.2.name)) = some k)) = (List.range L.length).reverse.find? (fun j => decide ((L[j]?).map (fun q => (q.1, q.2.name)) = some k)) := by
  have : ∀ (xs : List Nat), (∀ j ∈ xs, j < L.length) → xs.find? (fun j => decide (((L ++ [q])[j]?).map (fun q => (q.1, q.2.name)) = some k)) = xs.find? (fun j => decide ((L[j]?).map (fun q => (q.1, q.2.name)) = some k)) := by
   intro xs
   induction xs with
   | nil => intro _; rfl
   | cons a r ih =>
    intro h
    have h1 := ih fun j hj => h j (List.mem_cons_of_mem _ hj)
    have h2 := h a (List.mem_cons_self ..)
    rw [List.find?_cons, List.find?_cons, h1, List.getElem?_append_left h2]
  exact this _ fun j hj => by simpa using hj
 by_cases e : (q.1, q.2.name) = k
 ·rw [if_pos e, List.find?_cons_of_pos (by rw [hl]; simp [e])]
 ·rw [if_neg e, List.find?_cons_of_neg (by rw [hl]; simp [e]), hr]
def AtM (m : List (Ky × Value)) (L : List (ByteArray × Pr)) : Prop := ∀ k, (getA m k).getD (.int .i64 0) = .int .i64 (atL L k)
theorem AtM.nil : AtM [] [] := fun k => rfl
theorem AtM.snoc {m : List (Ky × Value)} {L : List (ByteArray × Pr)} (h : AtM m L) (path : ByteArray) (p : Pr) : AtM (setA m (path, p.name) (.int .i64 (L.length : Int))) (L ++ [(path, p)]) := fun k => by
 rw [atL_snoc]
 by_cases e : (path, p.name) = k
 ·subst e; rw [getA_setA, if_pos rfl]; rfl
 ·rw [getA_setA_ne m _ (Ne.symm e), if_neg e]; exact h k
def Kd.pnt : Kd Pt where
 n := 3
 K _ x cs := cs = [.string x.path, .string x.name, .int .i64 x.proc]
 mono _ h := h
 len h := by rw [h]; rfl
 one h := by rw [h]; rfl
def mvT (f : Int × Int → Int × Int) (l : List (Int × Int)) (k : Nat) : List (Int × Int) := (l.take k).map f ++ l.drop k
theorem mvT_len (f : Int × Int → Int × Int) (l : List (Int × Int)) (k : Nat) : (mvT f l k).length = l.length := by unfold mvT; simp; omega
theorem mvT_zero (f : Int × Int → Int × Int) (l : List (Int × Int)) : mvT f l 0 = l := by simp [mvT]
theorem mvT_all (f : Int × Int → Int × Int) {l : List (Int × Int)} {k : Nat} (h : l.length ≤ k) : mvT f l k = l.map f := by unfold mvT; rw [List.take_of_length_le h, List.drop_eq_nil_of_le h, List.append_nil]
theorem mvT_at (f : Int × Int → Int × Int) {l : List (Int × Int)} {k : Nat} {x : Int × Int} (h : l[k]? = some x) : (mvT f l k)[k]? = some x := by
 have hk := (List.getElem?_eq_some_iff.1 h).1
 unfold mvT
 rw [List.getElem?_append_right (by simp; omega), List.length_map, List.length_take, List.getElem?_drop, show k + (k - min k l.length) = k by omega, h]
theorem mvT_step (f : Int × Int → Int × Int) {l : List (Int × Int)} {k : Nat} {x : Int × Int} (h : l[k]? = some x) : (mvT f l k).set k (f x) = mvT f l (k + 1) := by
 have hk := (List.getElem?_eq_some_iff.1 h).1
 unfold mvT
 have e : l.drop k = x :: l.drop (k + 1) := by
  rw [List.drop_eq_getElem_cons hk]
  rw [(List.getElem?_eq_some_iff.1 h).2]
 rw [take_snoc' h, List.map_append, List.append_assoc, List.set_append_right _ _ (by simp; omega), List.length_map, List.length_take, show k - min k l.length = 0 by omega, e]
 rfl
theorem mvT_same (f : Int × Int → Int × Int) {l : List (Int × Int)} {k : Nat} {x : Int × Int} (h : l[k]? = some x) (hf : f x = x) : mvT f l k = mvT f l (k + 1) := by
 rw [← mvT_step f h, hf]
 apply List.ext_getElem?
 intro j
 rw [List.getElem?_set]
 by_cases e : k = j
 ·subst e
  have hk := (List.getElem?_eq_some_iff.1 h).1
  rw [if_pos rfl, if_pos (by rw [mvT_len]; exact hk), mvT_at f h]
 ·rw [if_neg e]
theorem InsK.at {G : Gh} {T cap b : Nat} {A : Option Addr} {l : List (Int × Int)} {c : Array Value} (h : KVec Kd.ins T G A cap l (.blk b (.cells c T (0, 0)))) {i : Nat} {y : Int × Int} (hi : l[i]? = some y) :
  c[i * 2]? = some (.int .i64 y.1) ∧ c[i * 2 + 1]? = some (.int .i64 y.2) := by
 obtain ⟨cs, ⟨h1, h2⟩, h3⟩ := h
 have hil := (List.getElem?_eq_some_iff.1 hi).1
 rcases h2 with ⟨_, e, _, _⟩ | ⟨b', c', _, e, h4, h5, h6⟩
 ·omega
 ·cases e
  have h7 : (cs.drop (i * 2)).take 2 = [.int .i64 y.1, .int .i64 y.2] := h3.at_ i y hi
  have e0 : Kd.ins.n = 2 := rfl
  rw [e0] at h6
  have g0 := congrArg (fun l => l[0]?) h7
  have g1 := congrArg (fun l => l[1]?) h7
  simp only [List.getElem?_take, List.getElem?_drop, List.getElem?_cons_zero, List.getElem?_cons_succ] at g0 g1
  rw [if_pos (by decide)] at g0 g1
  rw [← h6] at g0 g1
  simp only [List.getElem?_take, Array.getElem?_toList] at g0 g1
  rw [if_pos (by omega)] at g0 g1
  exact ⟨by simpa using g0, g1⟩
theorem InsK.put2 {G : Gh} {T cap b : Nat} {A : Option Addr} {l : List (Int × Int)} {c : Array Value} (h : KVec Kd.ins T G A cap l (.blk b (.cells c T (0, 0)))) {i : Nat} {a n z : Int} (hi : l[i]? = some (a, n)) :
  Nat.ble (i * 2 + 1 + 1) c.size = true ∧ KVec Kd.ins T G A cap (l.set i (a, z)) (.blk b (.cells (splice c (i * 2 + 1) [.int .i64 z]) T (0, 0))) := by
 obtain ⟨_, h2, h3⟩ := KVec.put1 (y := (a, z)) (v := .int .i64 z) (j := 1) h hi (by decide) (fun es he => by have he' : es = [.int .i64 a, .int .i64 n] := he; rw [he']; rfl)
 exact ⟨h2, h3⟩
theorem all_snoc (l : List Ob) (o : Ob) : allPr (l ++ [o]) = allPr l ++ o.procs.map fun p => (o.path, p) := by unfold allPr; simp
end
section
open Go Go.RowKit Go.ChangeShapes Go.WideShapes
section
variable {H : Type} (enc : TypeId × Value → H) (P : Program) (w : World)
def Opens (t : TypeId) {α : Type} (k : Kd α) (B : α → Prop) : Prop :=
 ∀ fuel cs d ps, DataW.trod enc P w 0 (fun _ => true) true fuel t cs = some (d, ps) → (∀ n ∈ d.weights P t, n ≤ reachBytes) → ∃ a, k.K (Gw w) a cs ∧ B a
theorem mapM_cells {a : Addr} : ∀ {l : List Nat} {cs : List Value}, (l.mapM fun i => w.cell? (a.add i)) = some cs → cs.length = l.length ∧ ∀ (j i : Nat) (v : Value), l[j]? = some i → cs[j]? = some v → w.cell? (a.add i) = some v
 | [], cs, h => by
  simp at h; subst h
  exact ⟨rfl, fun j i v e => by simp at e⟩
 | i0 :: l, cs, h => by
  rw [List.mapM_cons] at h
  cases h0 : w.cell? (a.add i0) with
  | none => rw [h0] at h; simp at h
  | some v0 =>
   rw [h0] at h
   cases h1 : l.mapM (fun i => w.cell? (a.add i)) with
   | none => rw [h1] at h; simp at h
   | some cs' =>
    rw [h1] at h
    simp at h
    subst h
    obtain ⟨h2, h3⟩ := mapM_cells h1
    refine ⟨by simp [h2], fun j i v ej ev => ?_⟩
    cases j with
    | zero => simp at ej ev; subst ej ev; exact h0
    | succ j => simp at ej ev; exact h3 j i v ej ev
theorem cells_get {b : Nat} {a : Addr} {n : Nat} {cs : List Value} (h : w.cells? b a n = some cs) : cs.length = n ∧ ∀ (j : Nat) (v : Value), cs[j]? = some v → w.cell? (a.add j) = some v := by
 unfold World.cells? at h
 split at h
 ·obtain ⟨h1, h2⟩ := mapM_cells w h
  rw [List.length_range] at h1
  refine ⟨h1, fun j v e => h2 j j v ?_ e⟩
  have hj := (List.getElem?_eq_some_iff.1 e).1
  rw [List.getElem?_range (by omega)]
 ·cases h
theorem cell_plain {a : Addr} {v : Value} (h : w.cell? a = some v) : a.spot = none := by
 unfold World.cell? at h
 split at h
 ·split at h
  ·cases h
  ·rename_i hs; simpa using hs
 ·cases h
end
theorem Kept.same {W W' : World} (h : Kept W W') {p : MemPlace} (hp : p.block < W.heap.size) : W.sameAt W' p := by
 cases p with
 | cell b o => exact World.cell?_of_block (w := W) (h.heap b hp)
 | map b => exact h.heap b hp
theorem Kept.trod {H : Type} {enc : TypeId × Value → H} {P : Program} {t : TypeId} (hl : laidOutB P = true) (hr : P.readableRec t = true) (hrow : t < P.types.size) {W W' : World} {v : Value} {d : DataW H} {ps : List MemPlace}
  (h : DataW.Trod enc P W 0 (fun _ => true) true t v d ps) (hb : Kept W W') :
  DataW.Trod enc P W' 0 (fun b => decide (b < W.heap.size)) true t v d ps := by
 have hlt : ∀ x ∈ ps, x.block < W.heap.size := by obtain ⟨m, hm⟩ := h; exact DataW.trod_lt m _ _ _ hm
 exact WideElems.Trod_stays hl hr hrow h (fun x hx => hb.same (hlt x hx)) (fun x hx => by simpa using hlt x hx)
end
section
open Go.RowKit Go.ChangeShapes Go.WideShapes
section
variable {H : Type} (enc : TypeId × Value → H) (P : Program) (w : World)
end
end
section
open Go.MapKept
attribute [local irreducible] Tryz.prog
def pS : Pr := ⟨⟨#[102]⟩, false, [], 0, 1, [(1, 0), (10, 0)]⟩
def vS : V := ⟨1, 5, false, ⟨#[]⟩⟩
def vT : V := ⟨2, 0, true, ⟨#[]⟩⟩
def oS (v : V) : Ob := ⟨⟨#[97]⟩, [v], [], [pS]⟩
def lS (t : Int) : List SS := [⟨true, false, [], []⟩, ⟨true, false, [], [t]⟩]
end
section
section
variable {L : List (Nat × Value)} {d : Option Tmp} {ty : TypeId} {pos : String} {af : Array Edge} {gu : Option (Nat × Bool)}
theorem Gp.eqIns {x y : Operand} {t' : TypeId} {a b c e : Int} (hx : ev L x = some (.agg #[.int .i64 a, .int .i64 b])) (hy : ev L y = some (.agg #[.int .i64 c, .int .i64 e])) :
  Gp Tryz.prog L ⟨d, .binOp .eql 50 x y t', ty, pos, af, gu⟩ (.bool (decide ((a, b) = (c, e)))) := fun g st w => by
 have h1 : Tryz.prog.eqGuardType Tryz.prog.depth 50 = false := by kernel_rfl
 have h2 : Tryz.prog.underlying 50 = some (.struct (Tryz.prog.fieldsOf 50)) := by kernel_rfl
 have h3 : Tryz.prog.stoodInHeld 50 = false := by kernel_rfl
 have key : (Op.eqFields 9999 #[.int .i64 a, .int .i64 b] #[.int .i64 c, .int .i64 e] (Tryz.prog.fieldsOf 50).toList).run Tryz.prog w = .ok (decide ((a, b) = (c, e))) w := by
  have a0 := fun w => (inferInstance : Agg Tryz.prog 48 false).h w
  have a1 := fun w => (inferInstance : Agg Tryz.prog 3 false).h w
  have u0 : Tryz.prog.underlying 48 = some (.int .i64) := Und.h
  have u1 : Tryz.prog.underlying 3 = some (.int .i64) := Und.h
  have hh : decide ((a, b) = (c, e)) = (a == c && b == e) := by
   rw [Bool.eq_iff_iff]
   simp
  rw [hh]
  simp only [Program.fieldsOf, Tryz.underlying50]
  simp only [Op.eqFields, part, Sem.run_bind, a0, a1, Result.andThen_ok, Sem.run_ite]
  simp [run_equalIn_int _ _ _ _ _ _ _ u0, run_equalIn_int _ _ _ _ _ _ _ u1]
  by_cases q0 : a = c <;> by_cases q1 : b = e <;> simp [q0, q1]
 simp only [execOp, Sem.run_bind, st.eval hx, st.eval hy, run_eqGuard_agg w .eql _ x y _ _ h1, Result.andThen_ok, run_eql_struct, run_equalIn_agg w 9999 _ _ _ h2 h3, key]
 rfl
end
end
section
open Go.MapKept
attribute [local irreducible] Tryz.prog
theorem WL.freezeC {P : Program} {Q : Exit → Act → World → Prop} {cx : Cx} {L : List (Nat × Value)} {G : Gh} {H : List Own} {ops : Array Oper} {rest : List Oper} {j b : Nat} {c : Array Value} {T : TypeId} {cs : List Value} (hj : At H j (.blk b (.cells c T (0, 0)))) (hc : c.toList = cs) (h : ∀ G', G.le G' → Cs G' b 0 cs → WL P ops Q rest cx L G' (H.eraseIdx j)) : WL P ops Q rest cx L G H :=
 WK.freezeC (K := fun a w => wpList P ops Q rest a w) hj hc h
end
section
open Go.MapKept
attribute [local irreducible] Tryz.prog
end
section
attribute [local irreducible] Tryz.prog
theorem gSyn : Tryz.prog.globalNamed "strconv.ErrSyntax" = some 1 := by kernel_rfl
theorem gRng : Tryz.prog.globalNamed "strconv.ErrRange" = some 2 := by kernel_rfl
theorem cell_of_iface {W : World} {n nm : String} {g t : Nat} {ms : Array (String × TypeId)} {d : DataW Unit} (hg : Tryz.prog.globalNamed n = some g) (ht : (Tryz.prog.globals[g]?).map (·.type) = some t) (hu : Tryz.prog.underlying t = some (.interface ms)) (h : Lib.VarReads Tryz.prog W n (.iface nm d)) :
  ∃ te pe, Gw W g 0 = some (.iface te pe) := by
 obtain ⟨g', t', cs, fuel, p, h1, h2, h3, h4⟩ := h
 obtain rfl := Option.some.inj (hg.symm.trans h1)
 obtain rfl := Option.some.inj (ht.symm.trans h2)
 obtain ⟨_, u, v, hc, _⟩ := iface_of_trod hu h4
 refine ⟨u, v, ?_⟩
 have := World.var?_cell h1 h3 0
 unfold Gw
 rw [this, ← Array.getElem?_toList, hc]; rfl
theorem tSyn : (Tryz.prog.globals[1]?).map (·.type) = some 285 := by kernel_rfl
theorem tRng : (Tryz.prog.globals[2]?).map (·.type) = some 285 := by kernel_rfl
theorem uErr : Tryz.prog.underlying 285 = some (.interface (Tryz.prog.methodsAt 285)) := by kernel_rfl
theorem tTab : (Tryz.prog.globals[3]?).map (·.type) = some 327 := by kernel_rfl
theorem ex_of {W : World} (h : Lib.VarReads Tryz.prog W "internal/strconv.uint64pow10" Rows.laid_internal_strconv_uint64pow10) : Ex (covs []) W := by
 obtain ⟨g', t', cs, fuel, p, h1, h2, h3, h4⟩ := h
 obtain rfl := Option.some.inj (gTab.symm.trans h1)
 obtain rfl := Option.some.inj (tTab.symm.trans h2)
 have hc := Lib.cells_of_tab (k := .u64) (zs := Lib.pow10Tab) (show Tryz.prog.underlying 327 = some (.array 20 124) by kernel_rfl) kr kr kr h4
 intro q hq
 obtain rfl : q = (3, _) := by simpa [exL] using hq
 refine ⟨?_, fun o ⟨x, hx, _⟩ => by cases hx⟩
 unfold World.var? at h3
 rw [gTab] at h3
 simp only [Option.bind_some] at h3
 cases ho : W.heap[3]? with
 | none => rw [ho] at h3; cases h3
 | some ob =>
  rw [ho] at h3
  cases ob <;> simp at h3
  rename_i c T fr
  subst h3
  exact ⟨T, fr, by rw [show c = (Lib.pow10Tab.map fun z => Value.int .u64 z).toArray from Array.toList_inj.1 hc]; rfl⟩
theorem env_of {W : World} (h1 : Lib.VarReads Tryz.prog W "strconv.ErrSyntax" Rows.laid_strconv_ErrSyntax) (h2 : Lib.VarReads Tryz.prog W "strconv.ErrRange" Rows.laid_strconv_ErrRange) (hs : W.ShapedOpen Tryz.prog) : Env (Gw W) where
 syn := cell_of_iface gSyn tSyn uErr h1
 rng := cell_of_iface gRng tRng uErr h2
 mxl := by
  have h := cell_of_shapedOpen_int (P := Tryz.prog) (w := W) (g := 0) (t := 3) (zero := #[.int .i64 0]) (k := .i64) hs (of_decide_eq_true kr) kr rfl kr kr kr
  obtain ⟨m, hm⟩ := h
  exact ⟨m, hm⟩
end
section
open Go.RowKit Go.ChangeShapes Go.WideShapes Go.MapKept
theorem bulk_part {H : Type} {d : DataW H} {l : List (DataW H)} (h : d ∈ l) : Rows.uptoBulk d ≤ Rows.uptoBulkAll l := by
 induction l with
 | nil => cases h
 | cons x r ih =>
  simp only [Rows.uptoBulkAll]
  rcases List.mem_cons.1 h with rfl | h
  ·omega
  ·have := ih h; omega
theorem bulk_one {H : Type} (d : DataW H) : 1 ≤ Rows.uptoBulk d := by
 cases d with
 | lit l => cases l <;> simp [Rows.uptoBulk]
 | nil => simp [Rows.uptoBulk]
 | ptr d => simp [Rows.uptoBulk]
 | slice elems spare => simp [Rows.uptoBulk]
 | agg parts => simp [Rows.uptoBulk]
 | iface t d => simp [Rows.uptoBulk]
 | map entries => simp [Rows.uptoBulk]
 | held h => simp [Rows.uptoBulk]
theorem bulk_of {H : Type} {l : List (DataW H)} (h : Rows.uptoSmall H l = true) {d : DataW H} (hd : d ∈ l) : Rows.uptoBulk d ≤ 1048576 :=
 Nat.le_trans (bulk_part hd) (of_decide_eq_true h)
section
variable {H : Type} (enc : TypeId × Value → H) (P : Program) (w : World)
def OpensU (t : TypeId) {α : Type} (k : Kd α) (B : α → Prop) : Prop :=
 ∀ fuel cs d ps, DataW.trod enc P w 0 (fun _ => true) true fuel t cs = some (d, ps) → Rows.uptoBulk d ≤ 1048576 → ∃ a, k.K (Gw w) a cs ∧ B a
end
theorem witness_row {H : Type} {enc : TypeId × Value → H} {C : Checked} {os : Os} {f : FuncId} {fn : Func} {s : OpenSpec} {conds : List PathCond} {apart : Bool} {laid : List (String × DataW Unit)} (modest : Bool) (w0 : World) (args : Array Value) (hos : w0.os = os)
  (hsh : (w0.forCall (fun _ _ => 0) ⟨#[], args, []⟩).Shaped C.prog) (hok : Input.okWideB C.prog (w0.forCall (fun _ _ => 0) ⟨#[], args, []⟩) f ⟨#[], args, []⟩ = true)
  (hrow : s.preRow enc C.prog fn conds apart laid (w0.forCall (fun _ _ => 0) ⟨#[], args, []⟩).memory args) :
  ∃ (w : World) (tape : Tape) (i : Input), w.os = os ∧ (w.forCall tape i).Shaped C.prog ∧ i.vars = [] ∧ Input.okWide C.prog (w.forCall tape i) .any w.heap.size f i ∧
   s.preRow enc C.prog fn conds apart laid (w.forCall tape i).memory i.args ∧ ({ modest := modest } : Assume).holds C.prog (lone (Frame.enter C.prog f i.args .normal) [] (w.forCall tape i)) :=
 ⟨w0, fun _ _ => 0, ⟨#[], args, []⟩, hos, hsh, (Input.okWide_of_okWideB (base := 0) hok).1, (Input.okWide_of_okWideB hok).2, hrow, by
  simp only [Assume.holds]
  exact ⟨by simp, by simp, fun _ => Modest.zero, by simp, by simp⟩⟩
theorem elist2 {α : Type} {l : List α} (h : l.length = 2) : ∃ a b, l = [a, b] := match l, h with | [a, b], _ => ⟨a, b, rfl⟩
theorem elist4 {α : Type} {l : List α} (h : l.length = 4) : ∃ a b c d, l = [a, b, c, d] := match l, h with | [a, b, c, d], _ => ⟨a, b, c, d, rfl⟩
theorem elist6 {α : Type} {l : List α} (h : l.length = 6) : ∃ a b c d e f, l = [a, b, c, d, e, f] := match l, h with | [a, b, c, d, e, f], _ => ⟨a, b, c, d, e, f, rfl⟩
theorem ecellsV : Tryz.prog.cellsOf 52 = 4 := by kernel_rfl
theorem ecellsI : Tryz.prog.cellsOf 50 = 2 := by kernel_rfl
theorem ecellsP : Tryz.prog.cellsOf 47 = 6 := by kernel_rfl
theorem ecellsN : Tryz.prog.cellsOf 56 = 4 := by kernel_rfl
theorem ecellsO : Tryz.prog.cellsOf 38 = 4 := by kernel_rfl
theorem ecells_int : Tryz.prog.cellsOf 3 = 1 := by kernel_rfl
theorem ecells_typ : Tryz.prog.cellsOf 44 = 1 := by kernel_rfl
theorem ecells_cod : Tryz.prog.cellsOf 48 = 1 := by kernel_rfl
theorem ecells_i64 : Tryz.prog.cellsOf 2 = 1 := by kernel_rfl
theorem ecells_bool : Tryz.prog.cellsOf 4 = 1 := by kernel_rfl
theorem ecells_str : Tryz.prog.cellsOf 9 = 1 := by kernel_rfl
theorem ecells_lv : Tryz.prog.cellsOf 23 = 1 := by kernel_rfl
theorem ecells_ln : Tryz.prog.cellsOf 31 = 1 := by kernel_rfl
theorem ecells_lp : Tryz.prog.cellsOf 24 = 1 := by kernel_rfl
theorem ecells_li : Tryz.prog.cellsOf 45 = 1 := by kernel_rfl
theorem ecells_lt : Tryz.prog.cellsOf 43 = 1 := by kernel_rfl
section
attribute [local irreducible] Tryz.prog
variable {H : Type} (enc : TypeId × Value → H) (w : World)
end
end
section
attribute [local irreducible] Tryz.prog
theorem clone_vals (G : Gh) (H : List Own) (A : Option Addr) (n cap : Nat) (cs : List Value) (hr : Rds G H A cs) (hl : cs.length = n * 4) (h1 : cs.all (·.oneCell') = true) (hA : A = none → n = 0) (hb : n * 40 ≤ 140737488355328) :
  Fn Tryz.prog 143 #[.slice A n cap] G H fun e G' H' => ∃ A' cap' x', e = .returned (.slice A' n cap') ∧ G = G' ∧ H' = x' :: H ∧ Vec 52 4 A' n cap' cs x' := by
 refine Fn.enter Tryz.func143 rfl rfl fun w0 => ?_
 refine WC.seq ?_
 refine WC.region ?_
 refine zw.assign ?_
 refine WL.nil ?_
 refine WK.un ?_
 refine WC.seq ?_
 refine WC.seq ?_
 refine WC.region ?_
 refine zw.move ?_
 refine zw.eq ?_
 refine WL.nil ?_
 refine WK.un ?_
 refine WC.cond rfl (fun hc => ?_) (fun hc => ?_)
 ·refine WC.seq ?_
  refine WC.region ?_
  refine zw.assign ?_
  refine WL.nil ?_
  refine WK.un ?_
  refine WC.ret ?_
  have hA' : A = none := by simpa using hc
  have hn := hA hA'
  subst hn
  have hcs : cs = [] := List.eq_nil_of_length_eq_zero (by simpa using hl)
  subst hcs
  exact WK.nothing (QF.ret1 (.inl rfl) rfl (.tmp rfl) (List.Sublist.refl _) ⟨none, 0, _, rfl, rfl, rfl, ⟨by simp, .inl ⟨rfl, rfl, rfl, rfl⟩⟩⟩)
 ·
  refine WC.skip ?_
  refine WK.un ?_
  refine WC.seq ?_
  refine WC.region ?_
  refine WL.op kr (OW.buildSlice rfl kr kr (by rfl) rfl fun b1 => ?_)
  refine zw.move ?_
  refine WL.oo (OW.append rfl rfl kr kr (Vec.empty rfl) .here (hr.cons _) hl h1 (by omega) (by omega) rfl fun A' cap' o' hv => ?_)
  refine zw.assign ?_
  refine WL.nil ?_
  refine WK.un ?_
  refine WC.ret ?_
  (refine WK.un ?_)
  exact QF.ret1 (.inl rfl) rfl (.tmp rfl) (List.Sublist.refl _) ⟨A', cap', o', by rw [Nat.zero_add], rfl, rfl, by simpa using hv⟩
theorem clone_procs (G : Gh) (H : List Own) (A : Option Addr) (n cap : Nat) (cs : List Value) (hr : Rds G H A cs) (hl : cs.length = n * 6) (h1 : cs.all (·.oneCell') = true) (hA : A = none → n = 0) (hb : n * 88 ≤ 140737488355328) :
  Fn Tryz.prog 163 #[.slice A n cap] G H fun e G' H' => ∃ A' cap' x', e = .returned (.slice A' n cap') ∧ G = G' ∧ H' = x' :: H ∧ Vec 47 6 A' n cap' cs x' := by
 refine Fn.enter Tryz.func163 rfl rfl fun w0 => ?_
 refine WC.seq ?_
 refine WC.region ?_
 refine zw.assign ?_
 refine WL.nil ?_
 refine WK.un ?_
 refine WC.seq ?_
 refine WC.seq ?_
 refine WC.region ?_
 refine zw.move ?_
 refine zw.eq ?_
 refine WL.nil ?_
 refine WK.un ?_
 refine WC.cond rfl (fun hc => ?_) (fun hc => ?_)
 ·refine WC.seq ?_
  refine WC.region ?_
  refine zw.assign ?_
  refine WL.nil ?_
  refine WK.un ?_
  refine WC.ret ?_
  have hA' : A = none := by simpa using hc
  have hn := hA hA'
  subst hn
  have hcs : cs = [] := List.eq_nil_of_length_eq_zero (by simpa using hl)
  subst hcs
  exact WK.nothing (QF.ret1 (.inl rfl) rfl (.tmp rfl) (List.Sublist.refl _) ⟨none, 0, _, rfl, rfl, rfl, ⟨by simp, .inl ⟨rfl, rfl, rfl, rfl⟩⟩⟩)
 ·
  refine WC.skip ?_
  refine WK.un ?_
  refine WC.seq ?_
  refine WC.region ?_
  refine WL.op kr (OW.buildSlice rfl kr kr (by rfl) rfl fun b1 => ?_)
  refine zw.move ?_
  refine WL.oo (OW.append rfl rfl kr kr (Vec.empty rfl) .here (hr.cons _) hl h1 (by omega) (by omega) rfl fun A' cap' o' hv => ?_)
  refine zw.assign ?_
  refine WL.nil ?_
  refine WK.un ?_
  refine WC.ret ?_
  (refine WK.un ?_)
  exact QF.ret1 (.inl rfl) rfl (.tmp rfl) (List.Sublist.refl _) ⟨A', cap', o', by rw [Nat.zero_add], rfl, rfl, by simpa using hv⟩
theorem clone_instrs (G : Gh) (H : List Own) (A : Option Addr) (n cap : Nat) (cs : List Value) (hr : Rds G H A cs) (hl : cs.length = n * 2) (h1 : cs.all (·.oneCell') = true) (hA : A = none → n = 0) (hb : n * 16 ≤ 140737488355328) :
  Fn Tryz.prog 80 #[.slice A n cap] G H fun e G' H' => ∃ A' cap' x', e = .returned (.slice A' n cap') ∧ G = G' ∧ H' = x' :: H ∧ Vec 50 2 A' n cap' cs x' := by
 refine Fn.enter Tryz.func80 rfl rfl fun w0 => ?_
 refine WC.seq ?_
 refine WC.region ?_
 refine zw.assign ?_
 refine WL.nil ?_
 refine WK.un ?_
 refine WC.seq ?_
 refine WC.seq ?_
 refine WC.region ?_
 refine zw.move ?_
 refine zw.eq ?_
 refine WL.nil ?_
 refine WK.un ?_
 refine WC.cond rfl (fun hc => ?_) (fun hc => ?_)
 ·refine WC.seq ?_
  refine WC.region ?_
  refine zw.assign ?_
  refine WL.nil ?_
  refine WK.un ?_
  refine WC.ret ?_
  have hA' : A = none := by simpa using hc
  have hn := hA hA'
  subst hn
  have hcs : cs = [] := List.eq_nil_of_length_eq_zero (by simpa using hl)
  subst hcs
  exact WK.nothing (QF.ret1 (.inl rfl) rfl (.tmp rfl) (List.Sublist.refl _) ⟨none, 0, _, rfl, rfl, rfl, ⟨by simp, .inl ⟨rfl, rfl, rfl, rfl⟩⟩⟩)
 ·
  refine WC.skip ?_
  refine WK.un ?_
  refine WC.seq ?_
  refine WC.region ?_
  refine WL.op kr (OW.buildSlice rfl kr kr (by rfl) rfl fun b1 => ?_)
  refine zw.move ?_
  refine WL.oo (OW.append rfl rfl kr kr (Vec.empty rfl) .here (hr.cons _) hl h1 (by omega) (by omega) rfl fun A' cap' o' hv => ?_)
  refine zw.assign ?_
  refine WL.nil ?_
  refine WK.un ?_
  refine WC.ret ?_
  (refine WK.un ?_)
  exact QF.ret1 (.inl rfl) rfl (.tmp rfl) (List.Sublist.refl _) ⟨A', cap', o', by rw [Nat.zero_add], rfl, rfl, by simpa using hv⟩
abbrev frC (A : Option Addr) (n cap : Nat) (p a : Int) (B : Option Addr) (m cm : Nat) : Array Value := #[.slice A n cap, .int .i64 p, .int .i64 a, .slice B m cm]
theorem high_fn (G : Gh) (b : Nat) (A : Option Addr) (n cap : Nat) (p a : Int) (B : Option Addr) (m cm : Nat) :
  Fn Tryz.prog 210 #[.pointer (some ⟨b, 0, none⟩)] G [.blk b (.cells (frC A n cap p a B m cm) 245 (0, 0))] fun e G' H' => e = .returned (.int .i64 n) ∧ G = G' ∧ H' = [.blk b (.cells (frC A n cap p a B m cm) 245 (0, 0))] := by
 refine Fn.enter Tryz.func210 rfl rfl fun w0 => ?_
 refine WC.seq ?_
 refine WC.region ?_
 refine zw.assign ?_
 refine WL.nil ?_
 refine WK.un ?_
 refine WC.seq ?_
 refine WC.region ?_
 refine zw.move ?_
 refine zw.nil ?_
 refine zw.fa ?_
 refine zw.ld ?_
 refine zw.len ?_
 refine zw.assign ?_
 refine WL.nil ?_
 refine WK.un ?_
 refine WC.ret ?_
 (refine WK.un ?_)
 exact QF.ret1 (.inl rfl) rfl (.tmp rfl) (List.Sublist.refl _) ⟨rfl, rfl, rfl⟩
theorem push_fn (G : Gh) (b : Nat) (A : Option Addr) (n cap : Nat) (p a : Int) (B : Option Addr) (m cm : Nat) (cs : List Value) (x : Own) (v : V) (hv : Vec 52 4 A n cap cs x) (hb : n ≤ 1000000000) :
  Fn Tryz.prog 211 #[.pointer (some ⟨b, 0, none⟩), .agg #[.int .i64 v.t, .int .i64 v.i, .bool v.b, .string v.s]] G [.blk b (.cells (frC A n cap p a B m cm) 245 (0, 0)), x]
   fun e G' H' => ∃ A' cap' x', e = .returned (.tuple #[]) ∧ G = G' ∧ H' = [.blk b (.cells (frC A' (n + 1) cap' p a B m cm) 245 (0, 0)), x'] ∧ Vec 52 4 A' (n + 1) cap' (cs ++ vcells v) x' := by
 refine Fn.enter Tryz.func211 rfl rfl fun w0 => ?_
 refine WC.seq ?_
 refine WC.region ?_
 refine WL.oo (OW.box rfl rfl fun b2 => ?_)
 refine WL.nil ?_
 refine WK.un ?_
 refine WC.draw mixed ?_
 refine za.move 0 ?_
 refine za.move 1 ?_
 refine za.nil 2 ?_
 refine za.fa 3 ?_
 refine za.ld 4 ?_
 refine za.ld 5 ?_
 refine WA.one (i := 6) kr rfl kr (OW.buildSlice rfl kr kr (by rfl) rfl fun b3 => ?_)
 refine WA.oo 7 rfl (OW.append rfl rfl kr kr hv atA (Rds.blk0 (cs := vcells v) .here rfl) rfl rfl (by omega) (by omega) rfl fun A' cap' o' hv' => ?_)
 refine za.nil 8 ?_
 refine za.fa 9 ?_
 refine za.st 10 ?_
 exact WA.done kr (QF.ret0 (.inr rfl) rfl (.cons _ (.cons _ (List.Sublist.refl _))) ⟨A', cap', o', rfl, rfl, rfl, hv'⟩)
end
section
open Go.MapKept
attribute [local irreducible] Tryz.prog expL metL atL allPr joinP joinT' ptsO sumP sumC moveI
theorem sumC_snoc_le {l : List Ob} {i : Nat} {o : Ob} (h : l[i]? = some o) : sumC (l.take i) + o.consts.length ≤ sumC l := by
 induction l generalizing i with
 | nil => simp at h
 | cons a r ih =>
  unfold sumC at ih ⊢
  cases i with
  | zero => simp at h; subst h; simp
  | succ i => rw [List.take_succ_cons, List.map_cons, List.sum_cons, List.map_cons, List.sum_cons]; have := ih (by simpa using h); omega
structure JA where
 i : Nat
 es : Array MapEntry
 ck : Nat
 m : List (Ky × Value)
structure JL where
 i : Nat
 A1 : Option Addr
 c1 : Nat
 x1 : Own
 A2 : Option Addr
 c2 : Nat
 x2 : Own
 A3 : Option Addr
 c3 : Nat
 x3 : Own
 G : Gh
abbrev pgmB (b : Nat) (A1 A2 A3 : Option Addr) (n1 n2 n3 c1 c2 c3 : Nat) : Own := .blk b (.cells #[.slice A1 n1 c1, .slice A2 n2 c2, .slice A3 n3 c3] 27 (0, 0))
set_option maxRecDepth 20000 in
set_option maxHeartbeats 8000000 in
theorem ojoined_fn (G : Gh) (A : Option Addr) (cap : Nat) (l : List Ob) (hl : Sl Kd.ob G A l) (hL : LLim l) (hv : ∀ o ∈ l, (objAns o).2.2 = 0) :
  Fn Tryz.prog 34 #[.slice A l.length cap] G [] fun e G' H' => ∃ CA cc PA pc QA qc x1 x2 x3, e = .returned (.agg #[.slice CA (l.flatMap (·.consts)).length cc, .slice PA (joinP (allPr l) l 0 0).length pc, .slice QA (joinT' l 0).length qc]) ∧ G.le G' ∧
   KVec Kd.val 52 G' CA cc (l.flatMap (·.consts)) x1 ∧ KVec Kd.prc 47 G' PA pc (joinP (allPr l) l 0 0) x2 ∧ KVec Kd.pnt 54 G' QA qc (joinT' l 0) x3 ∧ H' = [x1, x2, x3] := by
 have hlen := hL.len
 have hsp := hL.sumP
 have hsc := hL.sumC
 refine Fn.enter Tryz.func34 rfl rfl fun w0 => ?_
 refine WC.seq ?_
 refine WC.region ?_
 refine WL.oo (OW.alloc rfl fun b2 => ?_)
 refine gom ?_
 refine WL.oo (OW.alloc rfl fun b3 => ?_)
 refine gom ?_
 refine WL.oo (OW.makeMap rfl fun bm => ?_)
 refine gom ?_
 refine WC.pick [.blk bm (.map #[] 0), pgmB b2 none none none 0 0 0 0 0 0, pgmB b3 none none none 0 0 0 0 0 0] ?_
 refine WC.loop (X := JA) (fun x => [(0, .slice A l.length cap), (2, .pointer (some ⟨b2, 0, none⟩)), (3, .pointer (some ⟨b3, 0, none⟩)), (4, .map (some bm)), (5, .int .i64 (sumP (l.take x.i) : Int)), (20, .slice A l.length cap), (21, .int .i64 l.length), (22, .int .i64 x.i)]) (fun _ => G) (fun x => [.blk bm (.map x.es x.ck), pgmB b2 none none none 0 0 0 0 0 0, pgmB b3 none none none 0 0 0 0 0 0]) (fun x => l.length - x.i)
  (fun x => x.i ≤ l.length ∧ MK kyV x.es x.ck x.m ∧ AtM x.m (allPr (l.take x.i))) ⟨0, #[], 0, []⟩ ⟨Nat.zero_le _, MK.empty, by dsimp only; rw [List.take_zero, show allPr [] = [] by unfold allPr; rfl]; exact AtM.nil⟩ (by exact ⟨rfl, rfl, rfl, rfl, by rw [List.take_zero, show sumP [] = 0 by unfold sumP; rfl]; rfl, rfl, rfl, rfl, trivial⟩) rfl (List.Sublist.refl _) fun x hx => ?_
 obtain ⟨i, es, ck, m⟩ := x
 obtain ⟨hi, hM, hA⟩ := hx
 dsimp only at hi hM hA
 have x2 := wrapS i (by omega)
 by_cases hlt : i < l.length
 rotate_left
 ·have e2 : decide ((i : Int) < (l.length : Int)) = false := decide_eq_false (by omega)
  rw [List.take_of_length_le (by omega)] at hA
  refine gom ?_
  refine WC.nothing ?_
  refine WC.nothing ?_
  refine WC.nothing ?_
  refine WC.pick [.blk bm (.map es ck), pgmB b2 none none none 0 0 0 0 0 0, pgmB b3 none none none 0 0 0 0 0 0, .spare 0 0 0, .spare 0 0 0, .spare 0 0 0] ?_
  have hAM := hA
  have hMM := hM
  refine WC.loop (X := JL) (fun x => [(2, .pointer (some ⟨b2, 0, none⟩)), (3, .pointer (some ⟨b3, 0, none⟩)), (4, .map (some bm)), (44, .slice A l.length cap), (45, .int .i64 l.length), (46, .int .i64 x.i)]) (fun x => x.G)
   (fun x => [.blk bm (.map es ck), pgmB b2 none none none 0 0 0 0 0 0, pgmB b3 x.A1 x.A2 x.A3 ((l.take x.i).flatMap (·.consts)).length (joinP (allPr l) (l.take x.i) 0 0).length (joinT' (l.take x.i) 0).length x.c1 x.c2 x.c3, x.x1, x.x2, x.x3]) (fun x => l.length - x.i)
   (fun x => x.i ≤ l.length ∧ G.le x.G ∧ KVec Kd.val 52 x.G x.A1 x.c1 ((l.take x.i).flatMap (·.consts)) x.x1 ∧ KVec Kd.prc 47 x.G x.A2 x.c2 (joinP (allPr l) (l.take x.i) 0 0) x.x2 ∧ KVec Kd.pnt 54 x.G x.A3 x.c3 (joinT' (l.take x.i) 0) x.x3)
   ⟨0, none, 0, .spare 0 0 0, none, 0, .spare 0 0 0, none, 0, .spare 0 0 0, G⟩ ⟨Nat.zero_le _, Gh.le_refl _, KVec.nil, by dsimp only; rw [List.take_zero, joinP]; exact KVec.nil, by dsimp only; rw [List.take_zero, joinT']; exact KVec.nil⟩ (by exact ⟨rfl, rfl, rfl, rfl, rfl, rfl, trivial⟩) rfl (by dsimp only; rw [List.take_zero, joinP, joinT']; exact List.Sublist.refl _) fun x hx => ?_
  obtain ⟨i, A1, c1, x1, A2, c2, x2, A3, c3, x3, G1⟩ := x
  obtain ⟨hi, hg1, hk1, hk2, hk3⟩ := hx
  dsimp only at hi hg1 hk1 hk2 hk3
  have z2 := wrapS i (by omega)
  by_cases hlt : i < l.length
  rotate_left
  ·have e2 : decide ((i : Int) < (l.length : Int)) = false := decide_eq_false (by omega)
   have htl : l.take i = l := List.take_of_length_le (by omega)
   rw [htl] at hk1 hk2 hk3
   refine gom ?_
   refine WC.rt ?_
   exact QF.p1 (.inl rfl) rfl (.cell rfl inferInstance inferInstance atA rfl rfl) (⟨A1, c1, A2, c2, A3, c3, x1, x2, x3, by rw [htl]; rfl, hg1, hk1, hk2, hk3, rfl⟩)
  have e2 : decide ((i : Int) < (l.length : Int)) = true := decide_eq_true (by omega)
  obtain ⟨o, ho⟩ : ∃ o, l[i]? = some o := ⟨_, List.getElem?_eq_getElem (by omega)⟩
  have hom := List.mem_of_getElem? ho
  have x0 : (0 : Int) ≤ (i : Int) := by omega
  have x1' : (i : Int) < (l.length : Int) := by omega
  have hl1 := hl.mono hg1
  obtain ⟨ab, ao, cs, rfl, hks, hcs⟩ := hl1 i o ho
  obtain ⟨CA, cc, NA, nc, PA, pc, rfl, hO⟩ := hks
  have htk : l.take (i + 1) = l.take i ++ [o] := take_snoc' ho
  have hsn := sumP_snoc_le ho
  have hcn := sumC_snoc_le ho
  have hfl : (l.take (i + 1)).flatMap (·.consts) = (l.take i).flatMap (·.consts) ++ o.consts := by rw [htk, List.flatMap_append]; simp
  have hjs : joinP (allPr l) (l.take (i + 1)) 0 0 = joinP (allPr l) (l.take i) 0 0 ++ o.procs.map (moveP (allPr l) o (sumC (l.take i)) (sumP (l.take i))) := by rw [htk, join_snoc, Nat.zero_add, Nat.zero_add]
  have hts : joinT' (l.take (i + 1)) 0 = joinT' (l.take i) 0 ++ ptsO o.path o.procs (sumP (l.take i)) := by rw [htk, joinT_snoc, Nat.zero_add]
  have hcl := consts_len (l.take i)
  have hjl := join_len (allPr l) (l.take i) 0 0
  have htl := joinT_len (l.take i) 0
  refine gom ?_
  refine WL.oo (OW.alloc rfl fun b11 => ?_)
  refine gom ?_
  refine WL.oo (OW.appendS (k := Kd.val) rfl rfl kr rfl hk1 atA hO.consts (by rw [hcl]; omega) (by rw [hcl]; omega) rfl fun A4 c4 x4 hk4 => ?_)
  refine gom ?_
  refine WC.pick [.blk bm (.map es ck), pgmB b2 none none none 0 0 0 0 0 0, pgmB b3 A4 A2 A3 ((l.take i).flatMap (·.consts) ++ o.consts).length (joinP (allPr l) (l.take i) 0 0).length (joinT' (l.take i) 0).length c4 c2 c3, .blk b11 (.cells #[.string o.path, .slice CA o.consts.length cc, .slice NA o.needs.length nc, .slice PA o.procs.length pc] 38 (0, 0)), x4, x2, x3] ?_
  refine WC.loop (X := JL) (fun x => [(2, .pointer (some ⟨b2, 0, none⟩)), (3, .pointer (some ⟨b3, 0, none⟩)), (4, .map (some bm)), (11, .pointer (some ⟨b11, 0, none⟩)), (12, .int .i64 ((l.take i).flatMap (·.consts)).length), (13, .int .i64 (joinP (allPr l) (l.take i) 0 0).length), (44, .slice (some ⟨ab, ao, none⟩) l.length cap), (45, .int .i64 l.length), (46, .int .i64 i), (63, .slice PA o.procs.length pc), (64, .int .i64 o.procs.length), (65, .int .i64 x.i)]) (fun x => x.G)
   (fun x => [.blk bm (.map es ck), pgmB b2 none none none 0 0 0 0 0 0, pgmB b3 A4 x.A2 x.A3 ((l.take i).flatMap (·.consts) ++ o.consts).length (joinP (allPr l) (l.take i) 0 0 ++ (o.procs.take x.i).map (moveP (allPr l) o (sumC (l.take i)) (sumP (l.take i)))).length (joinT' (l.take i) 0 ++ ptsO o.path (o.procs.take x.i) (sumP (l.take i))).length c4 x.c2 x.c3, .blk b11 (.cells #[.string o.path, .slice CA o.consts.length cc, .slice NA o.needs.length nc, .slice PA o.procs.length pc] 38 (0, 0)), x4, x.x2, x.x3]) (fun x => o.procs.length - x.i)
   (fun x => x.i ≤ o.procs.length ∧ G1.le x.G ∧ KVec Kd.prc 47 x.G x.A2 x.c2 (joinP (allPr l) (l.take i) 0 0 ++ (o.procs.take x.i).map (moveP (allPr l) o (sumC (l.take i)) (sumP (l.take i)))) x.x2 ∧ KVec Kd.pnt 54 x.G x.A3 x.c3 (joinT' (l.take i) 0 ++ ptsO o.path (o.procs.take x.i) (sumP (l.take i))) x.x3)
   ⟨0, none, 0, .spare 0 0 0, A2, c2, x2, A3, c3, x3, G1⟩ ⟨Nat.zero_le _, Gh.le_refl _, by dsimp only; rw [List.take_zero, List.map_nil, List.append_nil]; exact hk2, by dsimp only; rw [List.take_zero, ptsO, List.append_nil]; exact hk3⟩ (by exact ⟨rfl, rfl, rfl, rfl, rfl, rfl, rfl, rfl, rfl, rfl, rfl, rfl, trivial⟩) rfl (by dsimp only; rw [List.take_zero, ptsO, List.map_nil, List.append_nil, List.append_nil]; exact List.Sublist.refl _) fun x hx => ?_
  obtain ⟨j, _, _, _, A2, c2, x2, A3, c3, x3, G2⟩ := x
  obtain ⟨hj, hg2, hk2, hk3⟩ := hx
  dsimp only at hj hg2 hk2 hk3
  have y2 := wrapS j (by omega)
  by_cases hjlt : j < o.procs.length
  rotate_left
  ·have e4 : decide ((j : Int) < (o.procs.length : Int)) = false := decide_eq_false (by omega)
   have htj : o.procs.take j = o.procs := List.take_of_length_le (by omega)
   rw [htj, ← hjs] at hk2
   rw [htj, ← hts] at hk3
   refine gom ?_
   refine WK.pick [.blk bm (.map es ck), pgmB b2 none none none 0 0 0 0 0 0, pgmB b3 A4 A2 A3 ((l.take i).flatMap (·.consts) ++ o.consts).length (joinP (allPr l) (l.take i) 0 0 ++ (o.procs.take j).map (moveP (allPr l) o (sumC (l.take i)) (sumP (l.take i)))).length (joinT' (l.take i) 0 ++ ptsO o.path (o.procs.take j) (sumP (l.take i))).length c4 c2 c3, x4, x2, x3] ?_
   exact WK.again ⟨i + 1, A4, c4, x4, A2, c2, x2, A3, c3, x3, G2⟩ (by dsimp only; omega) ⟨by show i + 1 ≤ _; omega, Gh.le_trans hg1 hg2, by dsimp only; rw [hfl]; exact hk4.mono hg2, hk2, hk3⟩ (by exact ⟨rfl, rfl, rfl, rfl, rfl, rfl, trivial⟩) rfl (by dsimp only; rw [hfl, hjs, hts, htj]; exact List.Sublist.refl _)
  have e4 : decide ((j : Int) < (o.procs.length : Int)) = true := decide_eq_true (by omega)
  obtain ⟨p, hp⟩ : ∃ p, o.procs[j]? = some p := ⟨_, List.getElem?_eq_getElem hjlt⟩
  have y0 : (0 : Int) ≤ (j : Int) := by omega
  have y1 : (j : Int) < (o.procs.length : Int) := by omega
  have hO2 := hO.mono hg2
  obtain ⟨pb, po, cs2, rfl, hks2, hcs2⟩ := hO2.procs j p hp
  obtain ⟨QA, qc, IA, ic, rfl, hQ, hI⟩ := hks2
  have hpl := hL.pp o hom p (List.mem_of_getElem? hp)
  refine gom ?_
  refine WL.oo (OW.alloc rfl fun b15 => ?_)
  refine gom ?_
  refine WL.oo (OW.callK rfl (clone_types G2 [] QA p.params.length qc (ints p.params) hQ.ints (ints_length _) (ints_one _) hQ.none_len (by omega)) rfl fun v' G' H' h hg => ?_)
  obtain ⟨QA', qc', xq, he, rfl, rfl, hxq⟩ := h
  cases he
  refine WL.frozenVec hxq atA fun G3 hg3 z3 => ?_
  have hQ3 : Sl (Kd.int .i64) G3 QA' p.params := IVec.sl z3
  refine WL.pick [.blk b15 (.cells #[.string p.name, .bool p.exp, .slice QA p.params.length qc, .int .i64 p.locals, .int .i64 p.result, .slice IA p.code.length ic] 47 (0, 0)), .blk bm (.map es ck), pgmB b2 none none none 0 0 0 0 0 0, pgmB b3 A4 A2 A3 ((l.take i).flatMap (·.consts) ++ o.consts).length (joinP (allPr l) (l.take i) 0 0 ++ (o.procs.take j).map (moveP (allPr l) o (sumC (l.take i)) (sumP (l.take i)))).length (joinT' (l.take i) 0 ++ ptsO o.path (o.procs.take j) (sumP (l.take i))).length c4 c2 c3, .blk b11 (.cells #[.string o.path, .slice CA o.consts.length cc, .slice NA o.needs.length nc, .slice (some ⟨pb, po, none⟩) o.procs.length pc] 38 (0, 0)), x4, x2, x3] ?_
  refine gom ?_
  have hI3 := hI.mono hg3
  obtain ⟨ics, hir, hik⟩ := Sl.kfl (H := []) (by decide) hI3
  refine WL.oo (OW.callK rfl (clone_instrs G3 [] IA p.code.length ic ics hir hik.len hik.one' hI3.none_zero (by omega)) rfl fun v' G' H' h hg => ?_)
  obtain ⟨IA', ic', x5, he, rfl, rfl, hx5⟩ := h
  cases he
  have hk5 : KVec Kd.ins 50 G3 IA' ic' (mvT (moveI (allPr l) o (sumC (l.take i)) (sumP (l.take i))) p.code 0) x5 := by rw [mvT_zero]; exact ⟨ics, hx5, hik⟩
  refine WL.pick [x5, .blk b15 (.cells #[.string p.name, .bool p.exp, .slice QA' p.params.length qc', .int .i64 p.locals, .int .i64 p.result, .slice IA p.code.length ic] 47 (0, 0)), .blk bm (.map es ck), pgmB b2 none none none 0 0 0 0 0 0, pgmB b3 A4 A2 A3 ((l.take i).flatMap (·.consts) ++ o.consts).length (joinP (allPr l) (l.take i) 0 0 ++ (o.procs.take j).map (moveP (allPr l) o (sumC (l.take i)) (sumP (l.take i)))).length (joinT' (l.take i) 0 ++ ptsO o.path (o.procs.take j) (sumP (l.take i))).length c4 c2 c3, .blk b11 (.cells #[.string o.path, .slice CA o.consts.length cc, .slice NA o.needs.length nc, .slice (some ⟨pb, po, none⟩) o.procs.length pc] 38 (0, 0)), x4, x2, x3] ?_
  refine gom ?_
  refine WC.pick [x5, .blk b15 (.cells #[.string p.name, .bool p.exp, .slice QA' p.params.length qc', .int .i64 p.locals, .int .i64 p.result, .slice IA' p.code.length ic'] 47 (0, 0)), .blk bm (.map es ck), pgmB b2 none none none 0 0 0 0 0 0, pgmB b3 A4 A2 A3 ((l.take i).flatMap (·.consts) ++ o.consts).length (joinP (allPr l) (l.take i) 0 0 ++ (o.procs.take j).map (moveP (allPr l) o (sumC (l.take i)) (sumP (l.take i)))).length (joinT' (l.take i) 0 ++ ptsO o.path (o.procs.take j) (sumP (l.take i))).length c4 c2 c3, .blk b11 (.cells #[.string o.path, .slice CA o.consts.length cc, .slice NA o.needs.length nc, .slice (some ⟨pb, po, none⟩) o.procs.length pc] 38 (0, 0)), x4, x2, x3] ?_
  refine WC.loop (X := Nat × Own) (fun x => [(2, .pointer (some ⟨b2, 0, none⟩)), (3, .pointer (some ⟨b3, 0, none⟩)), (4, .map (some bm)), (11, .pointer (some ⟨b11, 0, none⟩)), (12, .int .i64 ((l.take i).flatMap (·.consts)).length), (13, .int .i64 (joinP (allPr l) (l.take i) 0 0).length), (15, .pointer (some ⟨b15, 0, none⟩)), (44, .slice (some ⟨ab, ao, none⟩) l.length cap), (45, .int .i64 l.length), (46, .int .i64 i), (63, .slice (some ⟨pb, po, none⟩) o.procs.length pc), (64, .int .i64 o.procs.length), (65, .int .i64 j), (79, .int .i64 p.code.length), (80, .int .i64 x.1)]) (fun _ => G3)
   (fun x => [x.2, .blk b15 (.cells #[.string p.name, .bool p.exp, .slice QA' p.params.length qc', .int .i64 p.locals, .int .i64 p.result, .slice IA' p.code.length ic'] 47 (0, 0)), .blk bm (.map es ck), pgmB b2 none none none 0 0 0 0 0 0, pgmB b3 A4 A2 A3 ((l.take i).flatMap (·.consts) ++ o.consts).length (joinP (allPr l) (l.take i) 0 0 ++ (o.procs.take j).map (moveP (allPr l) o (sumC (l.take i)) (sumP (l.take i)))).length (joinT' (l.take i) 0 ++ ptsO o.path (o.procs.take j) (sumP (l.take i))).length c4 c2 c3, .blk b11 (.cells #[.string o.path, .slice CA o.consts.length cc, .slice NA o.needs.length nc, .slice (some ⟨pb, po, none⟩) o.procs.length pc] 38 (0, 0)), x4, x2, x3]) (fun x => p.code.length - x.1)
   (fun x => x.1 ≤ p.code.length ∧ KVec Kd.ins 50 G3 IA' ic' (mvT (moveI (allPr l) o (sumC (l.take i)) (sumP (l.take i))) p.code x.1) x.2) (0, x5) ⟨Nat.zero_le _, hk5⟩ (by exact ⟨rfl, rfl, rfl, rfl, rfl, rfl, rfl, rfl, rfl, rfl, rfl, rfl, rfl, rfl, rfl, trivial⟩) rfl (List.Sublist.refl _) fun x hx => ?_
  obtain ⟨k, x5⟩ := x
  obtain ⟨hk, hk5⟩ := hx
  dsimp only at hk hk5
  have w2 := wrapS k (by omega)
  by_cases hklt : k < p.code.length
  rotate_left
  ·have e5 : decide ((k : Int) < (p.code.length : Int)) = false := decide_eq_false (by omega)
   rw [mvT_all _ (by omega)] at hk5
   refine WC.freezeK (by decide) hk5 .here fun G4 hg4 hI4 => ?_
   have hg24 := Gh.le_trans hg3 hg4
   have hlp1 : (joinP (allPr l) (l.take i) 0 0 ++ (o.procs.take j).map (moveP (allPr l) o (sumC (l.take i)) (sumP (l.take i)))).length = sumP (l.take i) + j := by rw [List.length_append, hjl, List.length_map, List.length_take]; omega
   have hxp1 : (joinP (allPr l) (l.take i) 0 0 ++ (o.procs.take (j + 1)).map (moveP (allPr l) o (sumC (l.take i)) (sumP (l.take i)))) = (joinP (allPr l) (l.take i) 0 0 ++ (o.procs.take j).map (moveP (allPr l) o (sumC (l.take i)) (sumP (l.take i)))) ++ [moveP (allPr l) o (sumC (l.take i)) (sumP (l.take i)) p] := by rw [take_snoc' hp, List.map_append, List.append_assoc]; rfl
   have hlq1 : (joinT' (l.take i) 0 ++ ptsO o.path (o.procs.take j) (sumP (l.take i))).length ≤ sumP (l.take i) + j := by
    have := pts_len o.path (o.procs.take j) (sumP (l.take i))
    rw [List.length_take] at this
    rw [List.length_append]; omega
   cases hx : p.exp with
   | false =>
    have hxq1 : (joinT' (l.take i) 0 ++ ptsO o.path (o.procs.take (j + 1)) (sumP (l.take i))) = (joinT' (l.take i) 0 ++ ptsO o.path (o.procs.take j) (sumP (l.take i))) := by rw [take_snoc' hp, pts_snoc, hx, if_neg (by decide), List.append_nil]
    refine gom ?_
    refine WL.op kr (OW.buildSlice rfl kr kr (by rfl) rfl fun b150 => ?_)
    refine WL.oo (OW.append1 (k := Kd.prc) (news := [.string p.name, .bool false, .slice QA' p.params.length qc', .int .i64 p.locals, .int .i64 p.result, .slice IA' p.code.length ic']) (u := moveP (allPr l) o (sumC (l.take i)) (sumP (l.take i)) p) rfl rfl kr rfl (hk2.mono hg24) atA .here rfl ⟨QA', qc', IA', ic', by simp [moveP, hx], hQ3.mono hg4, hI4⟩ (by rw [hlp1]; omega) (by rw [hlp1]; omega) rfl fun A6 c6 x6 hk6 => ?_)
    refine gom ?_
    refine WK.pick [.blk bm (.map es ck), pgmB b2 none none none 0 0 0 0 0 0, pgmB b3 A4 A6 A3 ((l.take i).flatMap (·.consts) ++ o.consts).length ((joinP (allPr l) (l.take i) 0 0 ++ (o.procs.take j).map (moveP (allPr l) o (sumC (l.take i)) (sumP (l.take i)))) ++ [moveP (allPr l) o (sumC (l.take i)) (sumP (l.take i)) p]).length (joinT' (l.take i) 0 ++ ptsO o.path (o.procs.take j) (sumP (l.take i))).length c4 c6 c3, .blk b11 (.cells #[.string o.path, .slice CA o.consts.length cc, .slice NA o.needs.length nc, .slice (some ⟨pb, po, none⟩) o.procs.length pc] 38 (0, 0)), x4, x6, x3] ?_
    exact WK.again ⟨j + 1, none, 0, .spare 0 0 0, A6, c6, x6, A3, c3, x3, G4⟩ (by dsimp only; omega) ⟨by show j + 1 ≤ _; omega, Gh.le_trans hg2 hg24, by dsimp only; rw [hxp1]; exact hk6, by dsimp only; rw [hxq1]; exact hk3.mono hg24⟩ (by exact ⟨rfl, rfl, rfl, rfl, rfl, rfl, rfl, rfl, rfl, rfl, rfl, rfl, trivial⟩) rfl (by dsimp only; rw [hxp1, hxq1]; exact List.Sublist.refl _)
   | true =>
    have hxq1 : (joinT' (l.take i) 0 ++ ptsO o.path (o.procs.take (j + 1)) (sumP (l.take i))) = (joinT' (l.take i) 0 ++ ptsO o.path (o.procs.take j) (sumP (l.take i))) ++ [⟨o.path, p.name, ((sumP (l.take i) + j : Nat) : Int)⟩] := by rw [take_snoc' hp, pts_snoc, hx, if_pos rfl, List.length_take, ← List.append_assoc, show min j o.procs.length = j by omega]
    refine gom ?_
    refine WL.op kr (OW.buildSlice rfl kr kr (by rfl) rfl fun b144 => ?_)
    refine WL.oo (OW.append1 (k := Kd.pnt) (news := [.string o.path, .string p.name, .int .i64 ((joinP (allPr l) (l.take i) 0 0 ++ (o.procs.take j).map (moveP (allPr l) o (sumC (l.take i)) (sumP (l.take i)))).length : Int)]) (u := ⟨o.path, p.name, ((sumP (l.take i) + j : Nat) : Int)⟩) rfl rfl kr rfl (hk3.mono hg24) atA .here rfl (by show _ = [_, _, _]; rw [hlp1]) (by omega) (by omega) rfl fun A7 c7 x7 hk7 => ?_)
    refine gom ?_
    refine WL.op kr (OW.buildSlice rfl kr kr (by rfl) rfl fun b150 => ?_)
    refine WL.oo (OW.append1 (k := Kd.prc) (news := [.string p.name, .bool true, .slice QA' p.params.length qc', .int .i64 p.locals, .int .i64 p.result, .slice IA' p.code.length ic']) (u := moveP (allPr l) o (sumC (l.take i)) (sumP (l.take i)) p) rfl rfl kr rfl (hk2.mono hg24) atA .here rfl ⟨QA', qc', IA', ic', by simp [moveP, hx], hQ3.mono hg4, hI4⟩ (by rw [hlp1]; omega) (by rw [hlp1]; omega) rfl fun A6 c6 x6 hk6 => ?_)
    refine gom ?_
    refine WK.pick [.blk bm (.map es ck), pgmB b2 none none none 0 0 0 0 0 0, pgmB b3 A4 A6 A7 ((l.take i).flatMap (·.consts) ++ o.consts).length ((joinP (allPr l) (l.take i) 0 0 ++ (o.procs.take j).map (moveP (allPr l) o (sumC (l.take i)) (sumP (l.take i)))) ++ [moveP (allPr l) o (sumC (l.take i)) (sumP (l.take i)) p]).length ((joinT' (l.take i) 0 ++ ptsO o.path (o.procs.take j) (sumP (l.take i))) ++ [(⟨o.path, p.name, ((sumP (l.take i) + j : Nat) : Int)⟩ : Pt)]).length c4 c6 c7, .blk b11 (.cells #[.string o.path, .slice CA o.consts.length cc, .slice NA o.needs.length nc, .slice (some ⟨pb, po, none⟩) o.procs.length pc] 38 (0, 0)), x4, x6, x7] ?_
    exact WK.again ⟨j + 1, none, 0, .spare 0 0 0, A6, c6, x6, A7, c7, x7, G4⟩ (by dsimp only; omega) ⟨by show j + 1 ≤ _; omega, Gh.le_trans hg2 hg24, by dsimp only; rw [hxp1]; exact hk6, by dsimp only; rw [hxq1]; exact hk7⟩ (by exact ⟨rfl, rfl, rfl, rfl, rfl, rfl, rfl, rfl, rfl, rfl, rfl, rfl, trivial⟩) rfl (by dsimp only; rw [hxp1, hxq1]; exact List.Sublist.refl _)
  have e5 : decide ((k : Int) < (p.code.length : Int)) = true := decide_eq_true (by omega)
  obtain ⟨ins, hins⟩ : ∃ ins, p.code[k]? = some ins := ⟨_, List.getElem?_eq_getElem hklt⟩
  have w0' : (0 : Int) ≤ (k : Int) := by omega
  have w1' : (k : Int) < (p.code.length : Int) := by omega
  have hmv := mvT_at (moveI (allPr l) o (sumC (l.take i)) (sumP (l.take i))) hins
  have hst := mvT_step (moveI (allPr l) o (sumC (l.take i)) (sumP (l.take i))) hins
  have hal : aloneR o.wd p ins = 0 := (outAt_zero (w := o.wd) hp (allR_zero (objAns_zero (hv o hom)).2 j (List.getElem?_eq_some_iff.1 hp).1)).2.2.1 k ins hins
  obtain ⟨c, n⟩ := ins
  obtain ⟨al1, al2, al3⟩ := aloneR_zero hal
  obtain ⟨am1, am2, am3⟩ := mayR_le al1
  dsimp only at am1 am2
  obtain ⟨cb, cd, rfl, rfl⟩ := hk5.isBlk (by rw [mvT_len]; omega)
  have hat := InsK.at hk5 hmv
  have hidx0 : 0 + ((k : Nat) : Int).toNat * 2 + 0 = k * 2 := by simp
  have hidx : 0 + ((k : Nat) : Int).toNat * 2 + 1 = k * 2 + 1 := by simp
  have hidw : 0 + ((k : Nat) : Int).toNat * 2 = k * 2 := by simp
  refine gom ?_
  refine WL.vv (Gv.load1 rfl atA (show cd[0 + ((k : Nat) : Int).toNat * 2 + 0]? = _ by rw [hidx0]; exact hat.1)) ?_
  have hcn' : sumC (l.take i) ≤ 1048576 := by omega
  by_cases c1' : c = 1
  ·subst c1'
   have e6 : ((1 : Int) == 1) = true := rfl
   have hmi : (moveI (allPr l) o (sumC (l.take i)) (sumP (l.take i))) (1, n) = (1, n + (((l.take i).flatMap (·.consts)).length : Int)) := by unfold moveI; rw [if_pos rfl, hcl]
   have hw6 : IntKind.i64.wrap (n + (((l.take i).flatMap (·.consts)).length : Int)) = n + (((l.take i).flatMap (·.consts)).length : Int) := wrapI (by omega) (by omega)
   have hp2 := InsK.put2 (z := n + (((l.take i).flatMap (·.consts)).length : Int)) hk5 hmv
   have hp3 := hp2.2
   rw [← hmi, hst] at hp3
   refine gom ?_
   refine WL.vv (Gv.load1 rfl atA (show cd[0 + ((k : Nat) : Int).toNat * 2 + 1]? = _ by rw [hidx]; exact hat.2)) ?_
   refine gom ?_
   refine WL.oo (OW.store rfl rfl atA rfl (by rfl) (by rfl) (show Nat.ble (0 + ((k : Nat) : Int).toNat * 2 + 1 + 1) cd.size = true by rw [hidx]; exact hp2.1) (by rfl) ?_ rfl)
   refine gom ?_
   rw [hidx]
   refine WK.pick [.blk cb (.cells (splice cd (k * 2 + 1) [.int .i64 (n + (((l.take i).flatMap (·.consts)).length : Int))]) 50 (0, 0)), .blk b15 (.cells #[.string p.name, .bool p.exp, .slice QA' p.params.length qc', .int .i64 p.locals, .int .i64 p.result, .slice (some ⟨cb, 0, none⟩) p.code.length ic'] 47 (0, 0)), .blk bm (.map es ck), pgmB b2 none none none 0 0 0 0 0 0, pgmB b3 A4 A2 A3 ((l.take i).flatMap (·.consts) ++ o.consts).length (joinP (allPr l) (l.take i) 0 0 ++ (o.procs.take j).map (moveP (allPr l) o (sumC (l.take i)) (sumP (l.take i)))).length (joinT' (l.take i) 0 ++ ptsO o.path (o.procs.take j) (sumP (l.take i))).length c4 c2 c3, .blk b11 (.cells #[.string o.path, .slice CA o.consts.length cc, .slice NA o.needs.length nc, .slice (some ⟨pb, po, none⟩) o.procs.length pc] 38 (0, 0)), x4, x2, x3] ?_
   exact WK.again ⟨k + 1, _⟩ (by dsimp only; omega) ⟨by show k + 1 ≤ _; omega, hp3⟩ (by exact ⟨rfl, rfl, rfl, rfl, rfl, rfl, rfl, rfl, rfl, rfl, rfl, rfl, rfl, rfl, rfl, trivial⟩) rfl (List.Sublist.refl _)
  by_cases c7' : c = 7
  ·subst c7'
   have e6 : ((7 : Int) == 1) = false := rfl
   have e7 : ((7 : Int) == 7) = true := rfl
   have hmi : (moveI (allPr l) o (sumC (l.take i)) (sumP (l.take i))) (7, n) = (7, n + ((joinP (allPr l) (l.take i) 0 0).length : Int)) := by unfold moveI; rw [if_neg (by dsimp only; decide), if_pos rfl, hjl]
   have hw6 : IntKind.i64.wrap (n + ((joinP (allPr l) (l.take i) 0 0).length : Int)) = n + ((joinP (allPr l) (l.take i) 0 0).length : Int) := wrapI (by omega) (by omega)
   have hp2 := InsK.put2 (z := n + ((joinP (allPr l) (l.take i) 0 0).length : Int)) hk5 hmv
   have hp3 := hp2.2
   rw [← hmi, hst] at hp3
   refine gom ?_
   refine WL.vv (Gv.load1 rfl atA (show cd[0 + ((k : Nat) : Int).toNat * 2 + 1]? = _ by rw [hidx]; exact hat.2)) ?_
   refine gom ?_
   refine WL.oo (OW.store rfl rfl atA rfl (by rfl) (by rfl) (show Nat.ble (0 + ((k : Nat) : Int).toNat * 2 + 1 + 1) cd.size = true by rw [hidx]; exact hp2.1) (by rfl) ?_ rfl)
   refine gom ?_
   rw [hidx]
   refine WK.pick [.blk cb (.cells (splice cd (k * 2 + 1) [.int .i64 (n + ((joinP (allPr l) (l.take i) 0 0).length : Int))]) 50 (0, 0)), .blk b15 (.cells #[.string p.name, .bool p.exp, .slice QA' p.params.length qc', .int .i64 p.locals, .int .i64 p.result, .slice (some ⟨cb, 0, none⟩) p.code.length ic'] 47 (0, 0)), .blk bm (.map es ck), pgmB b2 none none none 0 0 0 0 0 0, pgmB b3 A4 A2 A3 ((l.take i).flatMap (·.consts) ++ o.consts).length (joinP (allPr l) (l.take i) 0 0 ++ (o.procs.take j).map (moveP (allPr l) o (sumC (l.take i)) (sumP (l.take i)))).length (joinT' (l.take i) 0 ++ ptsO o.path (o.procs.take j) (sumP (l.take i))).length c4 c2 c3, .blk b11 (.cells #[.string o.path, .slice CA o.consts.length cc, .slice NA o.needs.length nc, .slice (some ⟨pb, po, none⟩) o.procs.length pc] 38 (0, 0)), x4, x2, x3] ?_
   exact WK.again ⟨k + 1, _⟩ (by dsimp only; omega) ⟨by show k + 1 ≤ _; omega, hp3⟩ (by exact ⟨rfl, rfl, rfl, rfl, rfl, rfl, rfl, rfl, rfl, rfl, rfl, rfl, rfl, rfl, rfl, trivial⟩) rfl (List.Sublist.refl _)
  by_cases c8' : c = 8
  ·subst c8'
   have e6 : ((8 : Int) == 1) = false := rfl
   have e7 : ((8 : Int) == 7) = false := rfl
   have e8 : ((8 : Int) == 8) = true := rfl
   have hn8 : n < (o.needs.length : Int) := by simpa [Ob.wd] using al3
   obtain ⟨nd, hnd⟩ : ∃ nd, o.needs[n.toNat]? = some nd := ⟨_, List.getElem?_eq_getElem (by omega)⟩
   have hO3 := hO2.mono hg3
   obtain ⟨nb, no, cs3, rfl, hks3, hcs3⟩ := hO3.needs n.toNat nd hnd
   obtain ⟨NQ, nqc, rfl, hNQ⟩ := hks3
   have hmi : (moveI (allPr l) o (sumC (l.take i)) (sumP (l.take i))) (8, n) = (7, atL (allPr l) (nd.path, nd.name)) := by unfold moveI; rw [if_neg (by dsimp only; decide), if_neg (by dsimp only; decide), if_pos rfl, hnd]
   have hp2 := InsK.put (y := (7, atL (allPr l) (nd.path, nd.name))) hk5 hmv
   have hp3 : KVec Kd.ins 50 G3 (some ⟨cb, 0, none⟩) ic' (mvT (moveI (allPr l) o (sumC (l.take i)) (sumP (l.take i))) p.code (k + 1)) (.blk cb (.cells (splice cd (k * 2) [.int .i64 7, .int .i64 (atL (allPr l) (nd.path, nd.name))]) 50 (0, 0))) := by
    rw [← hst, hmi]; exact hp2.2.2
   refine gom ?_
   refine WQ.tv (Gv.load1 rfl atA (show cd[0 + ((k : Nat) : Int).toNat * 2 + 1]? = _ by rw [hidx]; exact hat.2)) kr kr rfl ?_
   refine gom ?_
   refine WQ.one kr kr (OW.alloc rfl fun b18 => ?_)
   refine WQ.one kr kr (OW.store rfl rfl atA rfl (by rfl) (by rfl) kr (by rfl) ?_ rfl)
   refine gom ?_
   refine WL.vv (Gv.lookupK (emb := kyV) (key := (nd.path, nd.name)) (kt := 140) (z := .int .i64 0) rfl rfl atA hMM (hAM _)) ?_
   refine gom ?_
   refine WL.oo (OW.store rfl rfl atA rfl (by rfl) (by rfl) (show Nat.ble (0 + ((k : Nat) : Int).toNat * 2 + 2) cd.size = true by rw [hidw]; exact hp2.2.1) (by rfl) ?_ rfl)
   refine gom ?_
   rw [hidw]
   refine WK.pick [.blk cb (.cells (splice cd (k * 2) [.int .i64 7, .int .i64 (atL (allPr l) (nd.path, nd.name))]) 50 (0, 0)), .blk b15 (.cells #[.string p.name, .bool p.exp, .slice QA' p.params.length qc', .int .i64 p.locals, .int .i64 p.result, .slice (some ⟨cb, 0, none⟩) p.code.length ic'] 47 (0, 0)), .blk bm (.map es ck), pgmB b2 none none none 0 0 0 0 0 0, pgmB b3 A4 A2 A3 ((l.take i).flatMap (·.consts) ++ o.consts).length (joinP (allPr l) (l.take i) 0 0 ++ (o.procs.take j).map (moveP (allPr l) o (sumC (l.take i)) (sumP (l.take i)))).length (joinT' (l.take i) 0 ++ ptsO o.path (o.procs.take j) (sumP (l.take i))).length c4 c2 c3, .blk b11 (.cells #[.string o.path, .slice CA o.consts.length cc, .slice (some ⟨nb, no, none⟩) o.needs.length nc, .slice (some ⟨pb, po, none⟩) o.procs.length pc] 38 (0, 0)), x4, x2, x3] ?_
   exact WK.again ⟨k + 1, _⟩ (by dsimp only; omega) ⟨by show k + 1 ≤ _; omega, hp3⟩ (by exact ⟨rfl, rfl, rfl, rfl, rfl, rfl, rfl, rfl, rfl, rfl, rfl, rfl, rfl, rfl, rfl, trivial⟩) rfl (List.Sublist.refl _)
  have e6 : (c == 1) = false := by simpa using c1'
  have e7 : (c == 7) = false := by simpa using c7'
  have e8 : (c == 8) = false := by simpa using c8'
  have hsame : (moveI (allPr l) o (sumC (l.take i)) (sumP (l.take i))) (c, n) = (c, n) := by unfold moveI; rw [if_neg c1', if_neg c7', if_neg c8']
  rw [mvT_same _ hins hsame] at hk5
  refine gom ?_
  refine WK.pick [.blk cb (.cells cd 50 (0, 0)), .blk b15 (.cells #[.string p.name, .bool p.exp, .slice QA' p.params.length qc', .int .i64 p.locals, .int .i64 p.result, .slice (some ⟨cb, 0, none⟩) p.code.length ic'] 47 (0, 0)), .blk bm (.map es ck), pgmB b2 none none none 0 0 0 0 0 0, pgmB b3 A4 A2 A3 ((l.take i).flatMap (·.consts) ++ o.consts).length (joinP (allPr l) (l.take i) 0 0 ++ (o.procs.take j).map (moveP (allPr l) o (sumC (l.take i)) (sumP (l.take i)))).length (joinT' (l.take i) 0 ++ ptsO o.path (o.procs.take j) (sumP (l.take i))).length c4 c2 c3, .blk b11 (.cells #[.string o.path, .slice CA o.consts.length cc, .slice NA o.needs.length nc, .slice (some ⟨pb, po, none⟩) o.procs.length pc] 38 (0, 0)), x4, x2, x3] ?_
  exact WK.again ⟨k + 1, _⟩ (by dsimp only; omega) ⟨by show k + 1 ≤ _; omega, hk5⟩ (by exact ⟨rfl, rfl, rfl, rfl, rfl, rfl, rfl, rfl, rfl, rfl, rfl, rfl, rfl, rfl, rfl, trivial⟩) rfl (List.Sublist.refl _)
 have e2 : decide ((i : Int) < (l.length : Int)) = true := decide_eq_true (by omega)
 obtain ⟨o, ho⟩ : ∃ o, l[i]? = some o := ⟨_, List.getElem?_eq_getElem (by omega)⟩
 have x0 : (0 : Int) ≤ (i : Int) := by omega
 have x1 : (i : Int) < (l.length : Int) := by omega
 obtain ⟨ab, ao, cs, rfl, hks, hcs⟩ := hl i o ho
 obtain ⟨CA, cc, NA, nc, PA, pc, rfl, hO⟩ := hks
 have htk : l.take (i + 1) = l.take i ++ [o] := take_snoc' ho
 have hsum : sumP (l.take (i + 1)) = sumP (l.take i) + o.procs.length := by rw [htk]; unfold sumP; simp
 have hsn := sumP_snoc_le ho
 refine gom ?_
 refine WL.oo (OW.alloc rfl fun b7 => ?_)
 refine gom ?_
 refine WC.pick [.blk b7 (.cells #[.string o.path, .slice CA o.consts.length cc, .slice NA o.needs.length nc, .slice PA o.procs.length pc] 38 (0, 0)), .blk bm (.map es ck), pgmB b2 none none none 0 0 0 0 0 0, pgmB b3 none none none 0 0 0 0 0 0] ?_
 refine WC.loop (X := JA) (fun x => [(0, .slice (some ⟨ab, ao, none⟩) l.length cap), (2, .pointer (some ⟨b2, 0, none⟩)), (3, .pointer (some ⟨b3, 0, none⟩)), (4, .map (some bm)), (5, .int .i64 ((sumP (l.take i) + x.i : Nat) : Int)), (7, .pointer (some ⟨b7, 0, none⟩)), (20, .slice (some ⟨ab, ao, none⟩) l.length cap), (21, .int .i64 l.length), (22, .int .i64 i), (27, .slice PA o.procs.length pc), (28, .int .i64 o.procs.length), (29, .int .i64 x.i)]) (fun _ => G)
  (fun x => [.blk b7 (.cells #[.string o.path, .slice CA o.consts.length cc, .slice NA o.needs.length nc, .slice PA o.procs.length pc] 38 (0, 0)), .blk bm (.map x.es x.ck), pgmB b2 none none none 0 0 0 0 0 0, pgmB b3 none none none 0 0 0 0 0 0]) (fun x => o.procs.length - x.i)
  (fun x => x.i ≤ o.procs.length ∧ MK kyV x.es x.ck x.m ∧ AtM x.m (allPr (l.take i) ++ (o.procs.take x.i).map fun p => (o.path, p))) ⟨0, es, ck, m⟩ ⟨Nat.zero_le _, hM, by dsimp only; rw [List.take_zero, List.map_nil, List.append_nil]; exact hA⟩ (by exact ⟨rfl, rfl, rfl, rfl, rfl, rfl, rfl, rfl, rfl, rfl, rfl, rfl, trivial⟩) rfl (List.Sublist.refl _) fun x hx => ?_
 obtain ⟨j, es, ck, m⟩ := x
 obtain ⟨hj, hM, hA⟩ := hx
 dsimp only at hj hM hA
 have y2 := wrapS j (by omega)
 by_cases hjl : j < o.procs.length
 rotate_left
 ·have e4 : decide ((j : Int) < (o.procs.length : Int)) = false := decide_eq_false (by omega)
  obtain rfl : j = o.procs.length := by omega
  refine gom ?_
  refine WK.pick [.blk bm (.map es ck), pgmB b2 none none none 0 0 0 0 0 0, pgmB b3 none none none 0 0 0 0 0 0] ?_
  exact WK.again ⟨i + 1, es, ck, m⟩ (by dsimp only; omega) ⟨by show i + 1 ≤ _; omega, hM, by dsimp only; rw [htk, all_snoc]; rw [List.take_length] at hA; exact hA⟩ (by exact ⟨rfl, rfl, rfl, rfl, by rw [hsum]; rfl, rfl, rfl, rfl, trivial⟩) rfl (List.Sublist.refl _)
 have e4 : decide ((j : Int) < (o.procs.length : Int)) = true := decide_eq_true (by omega)
 obtain ⟨p, hp⟩ : ∃ p, o.procs[j]? = some p := ⟨_, List.getElem?_eq_getElem hjl⟩
 have y0 : (0 : Int) ≤ (j : Int) := by omega
 have y1 : (j : Int) < (o.procs.length : Int) := by omega
 obtain ⟨pb, po, cs2, rfl, hks2, hcs2⟩ := hO.procs j p hp
 obtain ⟨QA, qc, IA, ic, rfl, hQ, hI⟩ := hks2
 have hlenA : (allPr (l.take i) ++ (o.procs.take j).map fun p => (o.path, p)).length = sumP (l.take i) + j := by rw [List.length_append, all_len, List.length_map, List.length_take]; omega
 have hA1 := hA.snoc o.path p
 rw [hlenA, List.append_assoc] at hA1
 have hw3 : IntKind.i64.wrap (((sumP (l.take i) + j : Nat) : Int) + 1) = ((sumP (l.take i) + (j + 1) : Nat) : Int) := wrapS _ (by omega)
 refine gom ?_
 refine WL.oo (OW.alloc rfl fun b9 => ?_)
 refine gom ?_
 refine WL.oo (OW.mapSetK (emb := kyV) (key := (o.path, p.name)) (kt := 140) rfl rfl rfl atA hM rfl fun es2 ck2 hM2 => ?_)
 refine gom ?_
 refine WK.pick [.blk b7 (.cells #[.string o.path, .slice CA o.consts.length cc, .slice NA o.needs.length nc, .slice (some ⟨pb, po, none⟩) o.procs.length pc] 38 (0, 0)), .blk bm (.map es2 ck2), pgmB b2 none none none 0 0 0 0 0 0, pgmB b3 none none none 0 0 0 0 0 0] ?_
 exact WK.again ⟨j + 1, es2, ck2, _⟩ (by dsimp only; omega) ⟨by show j + 1 ≤ _; omega, hM2, by dsimp only; rw [take_snoc' hp, List.map_append]; exact hA1⟩ (by exact ⟨rfl, rfl, rfl, rfl, rfl, rfl, rfl, rfl, rfl, rfl, rfl, rfl, trivial⟩) rfl (List.Sublist.refl _)
end
section
open Go.MapKept
attribute [local irreducible] Tryz.prog expL metL atL allPr joinP joinT' ptsO sumP sumC objAns
theorem errL_at : ∀ {l : List Ob} {i : Nat} {o : Ob}, (∀ (j : Nat) y, j < i → l[j]? = some y → (objAns y).2.2 = 0) → l[i]? = some o → (objAns o).2.2 ≠ 0 → errL l = (objAns o).2.2
 | [], i, o, _, h, _ => by simp at h
 | a :: r, 0, o, _, h, h1 => by
  simp at h; subst h
  unfold errL; rw [if_pos h1]
 | a :: r, i + 1, o, h0, h, h1 => by
  have ha := h0 0 a (by omega) rfl
  unfold errL
  rw [if_neg (by simpa using ha)]
  exact errL_at (i := i) (fun j y hj hy => h0 (j + 1) y (by omega) (by simpa using hy)) (by simpa using h) h1
def LinkP (G : Gh) (l : List Ob) (e : Ending) (G' : Gh) (H' : List Own) : Prop :=
 G.le G' ∧ ((linkE l ≠ 0 ∧ e = .returned (.tuple #[.agg #[.slice none 0 0, .slice none 0 0, .slice none 0 0], .int .i64 (linkE l)]) ∧ H' = []) ∨
  (linkE l = 0 ∧ ∃ CA cc PA pc QA qc x1 x2 x3, e = .returned (.tuple #[.agg #[.slice CA (l.flatMap (·.consts)).length cc, .slice PA (joinP (allPr l) l 0 0).length pc, .slice QA (joinT' l 0).length qc], .int .i64 0]) ∧
   KVec Kd.val 52 G' CA cc (l.flatMap (·.consts)) x1 ∧ KVec Kd.prc 47 G' PA pc (joinP (allPr l) l 0 0) x2 ∧ KVec Kd.pnt 54 G' QA qc (joinT' l 0) x3 ∧ H' = [x1, x2, x3]))
structure LK where
 i : Nat
 G : Gh
structure LP where
 i : Nat
 pes : Array MapEntry
 pck : Nat
 pm : List (ByteArray × Value)
theorem sumP_snoc {l : List Ob} {i : Nat} {o : Ob} (h : l[i]? = some o) : sumP (l.take (i + 1)) = sumP (l.take i) + o.procs.length := by rw [take_snoc' h]; unfold sumP; simp
theorem sumC_snoc {l : List Ob} {i : Nat} {o : Ob} (h : l[i]? = some o) : sumC (l.take (i + 1)) = sumC (l.take i) + o.consts.length := by rw [take_snoc' h]; unfold sumC; simp
set_option maxRecDepth 20000 in
set_option maxHeartbeats 4000000 in
theorem Link_fn (G : Gh) (hE : Env G) (A : Option Addr) (cap : Nat) (l : List Ob) (hl : Sl Kd.ob G A l) (hL : LLim l) :
  Fn Tryz.prog 12 #[.slice A l.length cap] G [] (LinkP G l) := by
 have hlen := hL.len
 have hsp := hL.sumP
 have hsc := hL.sumC
 refine Fn.enter Tryz.func12 rfl rfl fun w0 => ?_
 refine WC.seq ?_
 refine WC.region ?_
 refine WL.oo (OW.alloc rfl fun b2 => ?_)
 refine gom ?_
 refine WL.oo (OW.makeMap rfl fun bm => ?_)
 refine gom ?_
 refine WC.loop (X := LK) (fun x => [(0, .slice A l.length cap), (2, .pointer (some ⟨b2, 0, none⟩)), (4, .map (some bm)), (5, .int .i64 (sumP (l.take x.i) : Int)), (6, .int .i64 (sumC (l.take x.i) : Int)), (14, .slice A l.length cap), (15, .int .i64 l.length), (16, .int .i64 x.i)]) (fun x => x.G) (fun x => [.blk bm (.map #[] 0), pgmB b2 none none none 0 0 0 0 0 0]) (fun x => l.length - x.i)
  (fun x => x.i ≤ l.length ∧ G.le x.G ∧ ∀ (j : Nat) y, j < x.i → l[j]? = some y → (objAns y).2.2 = 0) ⟨0, G⟩ ⟨Nat.zero_le _, Gh.le_refl _, fun j y h => absurd h (Nat.not_lt_zero _)⟩ (by exact ⟨rfl, rfl, rfl, by rw [List.take_zero, show sumP [] = 0 by unfold sumP; rfl]; rfl, by rw [List.take_zero, show sumC [] = 0 by unfold sumC; rfl]; rfl, rfl, rfl, rfl, trivial⟩) rfl (List.Sublist.refl _) fun x hx => ?_
 obtain ⟨i, G1⟩ := x
 obtain ⟨hi, hg1, hok⟩ := hx
 dsimp only at hi hg1 hok
 have x2 := wrapS i (by omega)
 by_cases hlt : i < l.length
 rotate_left
 ·have e2 : decide ((i : Int) < (l.length : Int)) = false := decide_eq_false (by omega)
  have hil : i = l.length := by omega
  have hall : ∀ o ∈ l, (objAns o).2.2 = 0 := fun o ho => by obtain ⟨j, hj⟩ := List.mem_iff_getElem?.1 ho; exact hok j o (by have := (List.getElem?_eq_some_iff.1 hj).1; omega) hj
  have hz := errL_zero.2 hall
  refine gom ?_
  rw [List.take_of_length_le (show l.length ≤ i by omega)]
  refine WC.loop (X := LP) (fun x => [(0, .slice A l.length cap), (2, .pointer (some ⟨b2, 0, none⟩)), (4, .map (some bm)), (5, .int .i64 (sumP l : Int)), (6, .int .i64 (sumC l : Int)), (40, .slice A l.length cap), (41, .int .i64 l.length), (42, .int .i64 x.i)]) (fun _ => G1) (fun x => [.blk bm (.map x.pes x.pck), pgmB b2 none none none 0 0 0 0 0 0]) (fun x => l.length - x.i)
   (fun x => x.i ≤ l.length ∧ MRel Value.string .string x.pes x.pck x.pm ∧ CntM x.pm ((l.take x.i).map (·.path)) ∧ ((l.take x.i).map (·.path)).Nodup) ⟨0, #[], 0, []⟩ ⟨Nat.zero_le _, MRel.empty, CntM.nil, by simp⟩ (by exact ⟨rfl, rfl, rfl, rfl, rfl, rfl, rfl, rfl, trivial⟩) rfl (List.Sublist.refl _) fun x hx => ?_
  obtain ⟨i, pes, pck, pm⟩ := x
  obtain ⟨hi, hP, hN, hnd⟩ := hx
  dsimp only at hi hP hN hnd
  have x2 := wrapS i (by omega)
  by_cases hlt : i < l.length
  rotate_left
  ·have e2 : decide ((i : Int) < (l.length : Int)) = false := decide_eq_false (by omega)
   rw [List.take_of_length_le (by omega)] at hnd
   refine gom ?_
   refine WL.oo (OW.callK rfl (Missing_fn G1 A cap l (hl.mono hg1) hL) rfl fun v' G' H' h hg => ?_)
   obtain ⟨MA, mc, xm, he, hg2, hK, rfl⟩ := h
   cases he
   have hmu : IntKind.i64.wrap 0 = 0 := rfl
   by_cases hm : missL l = []
   rotate_left
   ·have e5 : decide (0 < ((missL l).length : Int)) = true := decide_eq_true (by have := List.length_pos_iff.2 hm; omega)
    have hle : linkE l = 221 := linkE_miss.2 ⟨hall, hnd, hm⟩
    refine gom ?_
    refine WC.rt ?_
    exact QF.p2 (.inl rfl) rfl (.cell rfl inferInstance inferInstance atA rfl rfl) (.tmp rfl) (⟨Gh.le_trans hg1 hg2, .inl ⟨by rw [hle]; decide, by rw [hle]; rfl, rfl⟩⟩)
   have e5 : decide (0 < ((missL l).length : Int)) = false := decide_eq_false (by rw [hm]; decide)
   by_cases h1 : 4096 < sumP l
   ·have e6 : decide ((4096 : Int) < (sumP l : Int)) = true := decide_eq_true (by omega)
    have hle : linkE l = 53 := by unfold linkE; rw [if_neg (by simpa using hz), if_neg (by simpa using hnd), if_neg (by simpa using hm), if_pos (.inl h1)]
    refine gom ?_
    refine WC.rt ?_
    exact QF.p2 (.inl rfl) rfl (.cell rfl inferInstance inferInstance atA rfl rfl) (.tmp rfl) (⟨Gh.le_trans hg1 hg2, .inl ⟨by rw [hle]; decide, by rw [hle]; rfl, rfl⟩⟩)
   have e6 : decide ((4096 : Int) < (sumP l : Int)) = false := decide_eq_false (by omega)
   by_cases h2 : 65536 < sumC l
   ·have e7 : decide ((65536 : Int) < (sumC l : Int)) = true := decide_eq_true (by omega)
    have hle : linkE l = 53 := by unfold linkE; rw [if_neg (by simpa using hz), if_neg (by simpa using hnd), if_neg (by simpa using hm), if_pos (.inr h2)]
    refine gom ?_
    refine WC.rt ?_
    exact QF.p2 (.inl rfl) rfl (.cell rfl inferInstance inferInstance atA rfl rfl) (.tmp rfl) (⟨Gh.le_trans hg1 hg2, .inl ⟨by rw [hle]; decide, by rw [hle]; rfl, rfl⟩⟩)
   have e7 : decide ((65536 : Int) < (sumC l : Int)) = false := decide_eq_false (by omega)
   have hle : linkE l = 0 := by unfold linkE; rw [if_neg (by simpa using hz), if_neg (by simpa using hnd), if_neg (by simpa using hm), if_neg (by omega)]
   refine gom ?_
   refine WL.pick [pgmB b2 none none none 0 0 0 0 0 0] ?_
   refine WL.oo (OW.callK rfl (ojoined_fn _ A cap l (hl.mono (Gh.le_trans hg1 hg2)) hL hall) rfl fun v' G' H' h hg => ?_)
   obtain ⟨CA, cc, PA, pc, QA, qc, y1, y2, y3, he, hg3, k1, k2, k3, rfl⟩ := h
   cases he
   refine gom ?_
   refine WC.rt ?_
   exact QF.p2 (.inl rfl) rfl (.cell rfl inferInstance inferInstance atA rfl rfl) (.tmp rfl) (⟨Gh.le_trans hg1 (Gh.le_trans hg2 hg3), .inr ⟨hle, CA, cc, PA, pc, QA, qc, y1, y2, y3, rfl, k1, k2, k3, rfl⟩⟩)
  have e2 : decide ((i : Int) < (l.length : Int)) = true := decide_eq_true (by omega)
  obtain ⟨o, ho⟩ : ∃ o, l[i]? = some o := ⟨_, List.getElem?_eq_getElem (by omega)⟩
  have x0 : (0 : Int) ≤ (i : Int) := by omega
  have x1 : (i : Int) < (l.length : Int) := by omega
  have hl1 := hl.mono hg1
  obtain ⟨ab, ao, cs, rfl, hks, hcs⟩ := hl1 i o ho
  obtain ⟨CA, cc, NA, nc, PA, pc, rfl, hO⟩ := hks
  have hmap : (l.take (i + 1)).map (·.path) = (l.take i).map (·.path) ++ [o.path] := by rw [take_snoc' ho, List.map_append]; rfl
  obtain ⟨N, hNe⟩ : ∃ N, N = cntS ((l.take i).map (·.path)) o.path := ⟨_, rfl⟩
  have hNl : N ≤ 1048576 := by have := cntS_le ((l.take i).map (·.path)) o.path; rw [← hNe] at this; simp at this; omega
  have hNv := hN o.path
  rw [← hNe] at hNv
  have hw := wrapS N (by omega)
  have hN1 := hN.snoc o.path
  rw [← hNe, ← hmap] at hN1
  refine gom ?_
  refine WL.oo (OW.alloc rfl fun b12 => ?_)
  refine gom ?_
  refine WL.vv (Gv.lookup (emb := Value.string) (z := .int .i64 0) rfl rfl atA hP hNv) ?_
  refine gom ?_
  refine WL.oo (OW.mapSet (emb := Value.string) rfl rfl rfl atA hP rfl fun pes1 pck1 hP1 => ?_)
  refine gom ?_
  refine WL.vv (Gv.lookup (emb := Value.string) (z := .int .i64 0) (v := .int .i64 ((N + 1 : Nat) : Int)) rfl rfl atA hP1 (by rw [getA_setA]; rfl)) ?_
  by_cases hin : o.path ∈ (l.take i).map (·.path)
  ·have hN0 : N ≠ 0 := fun e => by rw [e] at hNe; exact cntS_zero.1 hNe.symm hin
   have e3 : decide ((1 : Int) < ((N + 1 : Nat) : Int)) = true := decide_eq_true (by omega)
   have hnn : ¬ (l.map (·.path)).Nodup := fun h => by
    have h1 : ((l.take (i + 1)).map (·.path)).Nodup := h.sublist ((List.take_sublist _ _).map _)
    rw [hmap, List.nodup_append] at h1
    exact h1.2.2 _ hin _ (by simp) rfl
   have hle : linkE l = 222 := by unfold linkE; rw [if_neg (by simpa using hz), if_pos hnn]
   refine gom ?_
   refine WC.rt ?_
   exact QF.p2 (.inl rfl) rfl (.cell rfl inferInstance inferInstance atA rfl rfl) (.tmp rfl) (⟨hg1, .inl ⟨by rw [hle]; decide, by rw [hle]; rfl, rfl⟩⟩)
  have hN0 : N = 0 := by rw [hNe]; exact cntS_zero.2 hin
  have e3 : decide ((1 : Int) < ((N + 1 : Nat) : Int)) = false := decide_eq_false (by omega)
  have hnd1 : ((l.take (i + 1)).map (·.path)).Nodup := by
   rw [hmap, List.nodup_append]
   refine ⟨hnd, by simp, fun a ha b hb e => ?_⟩
   obtain rfl : b = o.path := by simpa using hb
   exact hin (e ▸ ha)
  refine gom ?_
  refine WK.pick [.blk bm (.map pes1 pck1), pgmB b2 none none none 0 0 0 0 0 0] ?_
  exact WK.again ⟨i + 1, pes1, pck1, _⟩ (by dsimp only; omega) ⟨by show i + 1 ≤ _; omega, hP1, hN1, hnd1⟩ (by exact ⟨rfl, rfl, rfl, rfl, rfl, rfl, rfl, rfl, trivial⟩) rfl (List.Sublist.refl _)
 have e2 : decide ((i : Int) < (l.length : Int)) = true := decide_eq_true (by omega)
 obtain ⟨o, ho⟩ : ∃ o, l[i]? = some o := ⟨_, List.getElem?_eq_getElem (by omega)⟩
 have hom := List.mem_of_getElem? ho
 have x0 : (0 : Int) ≤ (i : Int) := by omega
 have x1 : (i : Int) < (l.length : Int) := by omega
 have hl1 := hl.mono hg1
 obtain ⟨ab, ao, cs, rfl, hks, hcs⟩ := hl1 i o ho
 obtain ⟨CA, cc, NA, nc, PA, pc, rfl, hO⟩ := hks
 have s1 := sumP_snoc ho
 have s2 := sumC_snoc ho
 have s3 := sumP_take_le l (i + 1)
 have s4 := sumC_take_le l (i + 1)
 have w1 : IntKind.i64.wrap ((sumP (l.take i) : Int) + (o.procs.length : Int)) = (sumP (l.take (i + 1)) : Int) := by rw [wrapI (by omega) (by omega)]; omega
 have w2 : IntKind.i64.wrap ((sumC (l.take i) : Int) + (o.consts.length : Int)) = (sumC (l.take (i + 1)) : Int) := by rw [wrapI (by omega) (by omega)]; omega
 refine gom ?_
 refine WL.oo (OW.alloc rfl fun b8 => ?_)
 refine gom ?_
 refine WL.oo (OW.callK rfl (Object_fn G1 (hE.mono hg1) o CA NA PA cc nc pc hO (hL.lim o hom)) rfl fun v' G' H' h hg => ?_)
 obtain ⟨he, hg2, rfl⟩ := h
 cases he
 refine gom ?_
 refine WL.oo (OW.alloc rfl fun b9 => ?_)
 by_cases hz : (objAns o).2.2 = 0
 rotate_left
 ·have e3 : ((objAns o).2.2 != 0) = true := by simpa using hz
  have hle : linkE l = (objAns o).2.2 := by unfold linkE; rw [errL_at hok ho hz, if_pos hz]
  refine gom ?_
  refine WC.rt ?_
  exact QF.p2 (.inl rfl) rfl (.cell rfl inferInstance inferInstance atA rfl rfl) (.tmp rfl) (⟨Gh.le_trans hg1 hg2, .inl ⟨by rw [hle]; exact hz, by rw [hle]; rfl, rfl⟩⟩)
 have e3 : ((objAns o).2.2 != 0) = false := by simpa using hz
 refine gom ?_
 refine WK.pick [.blk bm (.map #[] 0), pgmB b2 none none none 0 0 0 0 0 0] ?_
 exact WK.again ⟨i + 1, _⟩ (by dsimp only; omega) ⟨by show i + 1 ≤ _; omega, Gh.le_trans hg1 hg2, fun j y hj hy => by
  rcases Nat.lt_or_ge j i with h | h
  ·exact hok j y h hy
  ·obtain rfl : j = i := by dsimp only at hj; omega
   rw [ho] at hy; cases hy; exact hz⟩ (by exact ⟨rfl, rfl, rfl, rfl, rfl, rfl, rfl, rfl, trivial⟩) rfl (List.Sublist.refl _)
end
section
open Go.MapKept
section
variable {L : List (Nat × Value)} {d : Option Tmp} {ty : TypeId} {pos : String} {af : Array Edge} {gu : Option (Nat × Bool)}
theorem Gp.rowN {x : Operand} {r : Rw} (hx : ev L x = some (.agg #[.string r.name, .bool r.n, .int .i64 r.takes, .int .i64 r.lays])) : Gp Tryz.prog L ⟨d, .field 226 x 1, ty, pos, af, gu⟩ (.bool r.n) := fun a st w => by
 have a0 := fun w => (inferInstance : Agg Tryz.prog 4 false).h w
 simp [execOp, st.eval hx, Instr.field, part, asAgg, run_underlying Tryz.underlying226, a0, Result.andThen]
end
attribute [local irreducible] Tryz.prog
def nameE (c : Int) : Int := if (rowC c).name == ⟨#[]⟩ then 180 else 0
def findN (s : ByteArray) : Int × Int := match (List.range 26).find? (fun k : Nat => (rowC ((k : Int) + 1)).name == s) with | some k => ((k : Int) + 1, 0) | none => (0, 180)
def namesL : List ByteArray := (rowsC.drop 1).map (·.name)
end
section
open Go.MapKept
section
variable {P : Program} {Q : Exit → Act → World → Prop} {cx : Cx} {L : List (Nat × Value)} {G : Gh} {H : List Own} {K : List (Nat × Value) → Gh → List Own → Prop} {ops : Array Oper} {rest : List Oper}
 {d : Option Tmp} {ty : TypeId} {pos : String} {af : Array Edge} {gu : Option (Nat × Bool)}
theorem OW.makeSlice2 {t e n by_ : Nat} {z : Value} {x y : Operand} {k k' : IntKind} {m c : Int} (hx : ev L x = some (.int k m)) (hy : ev L y = some (.int k' c)) [hu : Und P t (.slice e)] [hi : Inf P e n by_ z] (hz : z.cells.size = n)
  (h0 : 0 ≤ m) (hmc : m ≤ c) (hb : (by_ : Int) * c ≤ 281474976710656) (h63 : c ≤ 9223372036854775807) (hd : dOk d cx.N = true)
  (kk : ∀ b x, Vec e n (some ⟨b, 0, none⟩) m.toNat c.toNat (repS m.toNat z.cells.toList) x → K (putL d (.slice (some ⟨b, 0, none⟩) m.toNat c.toNat) L) G (x :: H)) : OW P Q ⟨d, .makeSlice t x y, ty, pos, af, gu⟩ cx L G H K := by
 refine OW.gives hd fun a w st => ?_
 obtain ⟨ie, hi1, hi2, hi3, hi4⟩ := hi.info
 have hr := run_make (P := P) w t e ie z hu.h hi1 hi2 k k' m c h0 hmc (by rw [hi4]; exact hb) h63
 have hc : madeCells z.cells (c.toNat * ie.size) = (repS c.toNat z.cells.toList).toArray := by unfold madeCells; rw [hi3]; exact base_repS z.cells n c.toNat hz
 rw [hc] at hr
 have hlen : ∀ q : Nat, (repS q z.cells.toList).length = q * n := fun q => by rw [repS_length, Array.length_toList, hz]
 have htk : (repS c.toNat z.cells.toList).take (m.toNat * n) = repS m.toNat z.cells.toList := by
  obtain ⟨r, hr⟩ : ∃ r, c.toNat = m.toNat + r := ⟨c.toNat - m.toNat, by omega⟩
  rw [hr]
  have : ∀ q : Nat, repS (q + r) z.cells.toList = repS q z.cells.toList ++ repS r z.cells.toList := fun q => by
   induction q with
   | zero => rw [Nat.zero_add]; rfl
   | succ q ih => rw [show q + 1 + r = (q + r) + 1 by omega]; simp only [repS]; rw [ih, List.append_assoc]
  rw [this, List.take_append_of_le_length (by rw [hlen]; exact Nat.le_refl _), List.take_of_length_le (by rw [hlen]; exact Nat.le_refl _)]
 refine ⟨_, _, G, _, .inl ?_, st.sat.alloc _, Stp.alloc _, kk w.heap.size (.blk w.heap.size (.cells (repS c.toNat z.cells.toList).toArray e (0, 0))) ⟨hlen _, .inr ⟨_, _, rfl, rfl, by omega, by simp [hlen], by simpa using htk⟩⟩⟩
 simp only [execOp, Sem.run_bind, st.eval hx, st.eval hy, hr, Result.andThen_ok]
 rfl
end
section
variable {P : Program} {L : List (Nat × Value)} {d : Option Tmp} {ty : TypeId} {pos : String} {af : Array Edge} {gu : Option (Nat × Bool)}
theorem Gp.shrTo {t t' : TypeId} {x y : Operand} {k k' : IntKind} {m n r : Int} (hx : ev L x = some (.int k m)) (hy : ev L y = some (.int k' n)) (hn : 0 ≤ n) (hr : m / 2 ^ min n.toNat k.bits = r) : Gp P L ⟨d, .binOp .shr t x y t', ty, pos, af, gu⟩ (.int k r) :=
 fun a st w => by subst hr; simp [execOp, st.eval hx, st.eval hy, eqGuard_shr, binOp_shr, shift_shr_any k k' m n hn]
theorem Gp.orTo {t t' : TypeId} {x y : Operand} {k : IntKind} {m n r : Int} (hx : ev L x = some (.int k m)) (hy : ev L y = some (.int k n)) (hr : bits .or k m n = r) : Gp P L ⟨d, .binOp .or t x y t', ty, pos, af, gu⟩ (.int k r) := hr ▸ Gp.or hx hy
theorem Gp.convTo {s t : TypeId} {x : Operand} {k k' : IntKind} {m r : Int} {ds : TypeDesc} (hx : ev L x = some (.int k m)) [hs : Und P s ds] [ht : Und P t (.int k')] (h : k'.wrap m = r) : Gp P L ⟨d, .convert s t x, ty, pos, af, gu⟩ (.int k' r) := h ▸ Gp.convI hx
theorem Gp.remTo {t t' : TypeId} {x y : Operand} {k : IntKind} {m n r : Int} (hx : ev L x = some (.int k m)) (hy : ev L y = some (.int k n)) (hn : n ≠ 0) (h : m.tmod n = r) : Gp P L ⟨d, .binOp .rem t x y t', ty, pos, af, gu⟩ (.int k r) := h ▸ Gp.rem hx hy hn
end
attribute [local irreducible] Tryz.prog
def uintL (n : Nat) : List Int := if h : n < 128 then [(n : Int)] else ((n % 128 + 128 : Nat) : Int) :: uintL (n / 128)
 termination_by n
 decreasing_by exact Nat.div_lt_self (by omega) (by omega)
theorem uintL_lt {n : Nat} (h : n < 128) : uintL n = [(n : Int)] := by rw [uintL, dif_pos h]
theorem uintL_ge {n : Nat} (h : ¬ n < 128) : uintL n = ((n % 128 + 128 : Nat) : Int) :: uintL (n / 128) := by rw [uintL, dif_neg h]
theorem uintL_length : ∀ (k n : Nat), n < 128 ^ (k + 1) → (uintL n).length ≤ k + 1
 | 0, n, h => by rw [uintL_lt (by simpa using h)]; simp
 | k + 1, n, h => by
  by_cases hn : n < 128
  ·rw [uintL_lt hn]; simp
  ·rw [uintL_ge hn, List.length_cons]
   have := uintL_length k (n / 128) (by rw [Nat.div_lt_iff_lt_mul (by decide)]; rw [Nat.pow_succ] at h; exact h)
   omega
theorem uintL_len10 {n : Nat} (h : n < 18446744073709551616) : (uintL n).length ≤ 10 := uintL_length 9 n (by omega)
theorem or128 : ∀ m : Nat, m < 256 → bits .or .u8 (m : Int) 128 = ((m % 128 + 128 : Nat) : Int) := by decide +kernel
def u8s (l : List Int) : List Value := l.map (.int .u8)
abbrev BVec (A : Option Addr) (l : List Int) (cap : Nat) (x : Own) : Prop := Vec 5 1 A l.length cap (u8s l) x
theorem BVec.nil : BVec none [] 0 (.spare 0 0 0) := ⟨rfl, .inl ⟨rfl, rfl, rfl, rfl⟩⟩
theorem u8s_length (l : List Int) : (u8s l).length = l.length * 1 := by simp [u8s]
theorem u8s_one (l : List Int) : (u8s l).all (·.oneCell') = true := by induction l with | nil => rfl | cons b l ih => simp [u8s, Value.oneCell']
theorem u8s_append (a b : List Int) : u8s (a ++ b) = u8s a ++ u8s b := by simp [u8s]
theorem BVec.snoc {A : Option Addr} {l : List Int} {cap : Nat} {x : Own} {z : Int} (h : Vec 5 1 A (l.length + 1) cap (u8s l ++ [.int .u8 z]) x) : BVec A (l ++ [z]) cap x := by
 unfold BVec; rw [u8s_append, List.length_append]; exact h
theorem u8w (m : Nat) : IntKind.u8.wrap (m : Int) = ((m % 256 : Nat) : Int) := by simp [IntKind.wrap, IntKind.signed, IntKind.bits]
theorem short_fn (G : Gh) (A : Option Addr) (l : List Int) (cap : Nat) (x : Own) (hx : BVec A l cap x) (n : Nat) (hn : n < 18446744073709551616) (hl : l.length ≤ 100000000000000) :
  Fn Tryz.prog 152 #[.slice A l.length cap, .int .u64 n] G [x] fun e G' H' => ∃ A' cap' x', e = .returned (.slice A' (l ++ uintL n).length cap') ∧ G = G' ∧ BVec A' (l ++ uintL n) cap' x' ∧ H' = [x'] := by
 refine Fn.enter Tryz.func152 rfl rfl fun w0 => ?_
 refine gom ?_
 have hlen0 := uintL_len10 hn
 refine WC.loop (X := List Int × Nat × Option Addr × Nat × Own) (fun s => [(0, .slice s.2.2.1 s.1.length s.2.2.2.1), (1, .int .u64 (s.2.1 : Int))]) (fun _ => G) (fun s => [s.2.2.2.2]) (fun s => s.2.1) (fun s => BVec s.2.2.1 s.1 s.2.2.2.1 s.2.2.2.2 ∧ s.1 ++ uintL s.2.1 = l ++ uintL n ∧ s.2.1 < 18446744073709551616) (l, n, A, cap, x) ⟨hx, rfl, hn⟩ (by exact ⟨rfl, rfl, trivial⟩) rfl (List.Sublist.refl _) fun s hs => ?_
 obtain ⟨xs, m, B, c, o⟩ := s
 obtain ⟨hv, heq, hm⟩ := hs
 dsimp only at hv heq hm
 have hlen : xs.length + (uintL m).length = l.length + (uintL n).length := by rw [← List.length_append, heq, List.length_append]
 by_cases hlt : m < 128
 ·have e2 : decide ((128 : Int) ≤ (m : Int)) = false := decide_eq_false (by omega)
  rw [uintL_lt hlt] at heq hlen
  simp at hlen
  refine gom ?_
  refine WL.pp (Gp.convTo (r := (m : Int)) rfl (by rw [u8w, Nat.mod_eq_of_lt (by first | omega | (dsimp only; omega))])) ?_
  refine WL.op kr (OW.buildSlice rfl kr kr (by rfl) rfl fun b18 => ?_)
  refine WL.oo (OW.append rfl rfl kr kr hv atA (Rds.blk0 (cs := [.int .u8 (m : Int)]) .here rfl) rfl rfl (by dsimp only; omega) (by dsimp only; omega) rfl fun A3 c3 o3 hv3 => ?_)
  have h3 := BVec.snoc hv3
  rw [heq] at h3
  have hl3 : xs.length + 1 = (l ++ uintL n).length := by rw [← heq, List.length_append]; rfl
  refine gom ?_
  refine WC.rt ?_
  exact QF.p1 (.inl rfl) rfl (.tmp rfl) (⟨A3, c3, o3, by rw [hl3], rfl, h3, rfl⟩)
 ·have e2 : decide ((128 : Int) ≤ (m : Int)) = true := decide_eq_true (by omega)
  rw [uintL_ge hlt] at heq hlen
  rw [List.length_cons] at hlen
  refine gom ?_
  refine WL.pp (Gp.convTo (r := ((m % 256 : Nat) : Int)) rfl (u8w m)) ?_
  refine WL.pp (Gp.orTo (r := ((m % 128 + 128 : Nat) : Int)) rfl rfl (by rw [or128 _ (Nat.mod_lt _ (by decide)), Nat.mod_mod_of_dvd _ (by decide)])) ?_
  refine WL.op kr (OW.buildSlice rfl kr kr (by rfl) rfl fun b13 => ?_)
  refine WL.oo (OW.append rfl rfl kr kr hv atA (Rds.blk0 (cs := [.int .u8 ((m % 128 + 128 : Nat) : Int)]) .here rfl) rfl rfl (by dsimp only; omega) (by dsimp only; omega) rfl fun A3 c3 o3 hv3 => ?_)
  have h3 := BVec.snoc hv3
  refine gom ?_
  refine WL.pp (Gp.shrTo (r := ((m / 128 : Nat) : Int)) rfl rfl (by decide) (by show (m : Int) / 128 = _; omega)) ?_
  refine gom ?_
  refine WK.pick [o3] ?_
  have hl3 : xs.length + 1 = (xs ++ [((m % 128 + 128 : Nat) : Int)]).length := by rw [List.length_append]; rfl
  exact WK.again (xs ++ [((m % 128 + 128 : Nat) : Int)], m / 128, A3, c3, o3) (by dsimp only; omega) ⟨h3, by dsimp only; rw [← heq, List.append_assoc]; rfl, by dsimp only; omega⟩ (by exact ⟨by show _ = some (Value.slice A3 _ c3); rw [← hl3]; rfl, rfl, trivial⟩) rfl (List.Sublist.refl _)
end
section
open Go.MapKept
attribute [local irreducible] Tryz.prog
theorem fresh_fn (G : Gh) (A : Option Addr) (l : List Int) (cap : Nat) (x : Own) (hx : BVec A l cap x) (hl : l.length ≤ 100000000000000) :
  Fn Tryz.prog 151 #[.slice A l.length cap, .int .i64 10] G [x] fun e G' H' => ∃ A' cap' x', e = .returned (.slice A' l.length cap') ∧ G = G' ∧ BVec A' l cap' x' ∧ H' = [x'] := by
 refine Fn.enter Tryz.func151 rfl rfl fun w0 => ?_
 have x2 : IntKind.i64.wrap ((l.length : Int) + 10) = ((l.length + 10 : Nat) : Int) := by rw [wrapI (by omega) (by omega)]; rfl
 refine gom ?_
 refine WL.oo (OW.makeSlice2 (n := 1) (z := .int .u8 0) (m := (l.length : Int)) (c := ((l.length + 10 : Nat) : Int)) rfl rfl rfl (by omega) (by omega) (by omega) (by omega) rfl fun tb o1 ho1 => ?_)
 rw [Int.toNat_natCast, Int.toNat_natCast] at ho1 ⊢
 refine gom ?_
 refine WL.oo (OW.copy rfl rfl kr ho1 .here (hx.rds (.there .here)) (u8s_length l) (u8s_one l) (Nat.le_refl _) rfl fun o2 ho2 => ?_)
 have h2 : BVec (some ⟨tb, 0, none⟩) l (l.length + 10) o2 := by
  unfold BVec
  rw [List.drop_eq_nil_of_le (by rw [repS_length]; exact Nat.le_refl _), List.append_nil] at ho2
  exact ho2
 refine gom ?_
 refine WC.rt ?_
 exact QF.p1 (.inl rfl) rfl (.tmp rfl) (⟨_, _, o2, rfl, rfl, h2, rfl⟩)
theorem putUint_fn (G : Gh) (A : Option Addr) (l : List Int) (cap : Nat) (x : Own) (hx : BVec A l cap x) (n : Nat) (hn : n < 18446744073709551616) (hl : l.length ≤ 100000000000000) :
  Fn Tryz.prog 108 #[.slice A l.length cap, .int .u64 n] G [x] fun e G' H' => ∃ A' cap' x', e = .returned (.slice A' (l ++ uintL n).length cap') ∧ G = G' ∧ BVec A' (l ++ uintL n) cap' x' ∧ H' = [x'] := by
 refine Fn.enter Tryz.func108 rfl rfl fun w0 => ?_
 refine gom ?_
 refine WL.oo (OW.callK rfl (fresh_fn G A l cap x hx hl) rfl fun v' G' H' h hg => ?_)
 obtain ⟨A1, c1, x1, he, rfl, h1, rfl⟩ := h
 cases he
 refine gom ?_
 refine WL.oo (OW.callK rfl (short_fn G A1 l c1 x1 h1 n hn hl) rfl fun v' G' H' h hg => ?_)
 obtain ⟨A2, c2, x2, he, rfl, h2, rfl⟩ := h
 cases he
 refine gom ?_
 refine WC.rt ?_
 exact QF.p1 (.inl rfl) rfl (.tmp rfl) (⟨_, _, x2, rfl, rfl, h2, rfl⟩)
theorem rowC_out {c : Int} (h : ¬ (1 ≤ c ∧ c ≤ 26)) : rowC c = rw0 := by
 unfold rowC
 split
 ·rfl
 ·rw [List.getElem?_eq_none (by show 27 ≤ c.toNat; omega)]; rfl
theorem is_row (c : Int) : (decide (1 ≤ c) && decide (c ≤ 26)) = ((rowC c).name != ⟨#[]⟩) := by
 by_cases h : 1 ≤ c ∧ c ≤ 26
 ·have hd : ∀ k : Nat, k < 26 → ((rowC ((k : Int) + 1)).name != ⟨#[]⟩) = true := by decide +kernel
  obtain ⟨k, rfl⟩ : ∃ k : Nat, c = (k : Int) + 1 := ⟨(c - 1).toNat, by omega⟩
  rw [hd k (by omega), decide_eq_true h.1, decide_eq_true h.2]; rfl
 ·rw [rowC_out h]
  rw [show (decide (1 ≤ c) && decide (c ≤ 26)) = false by simp; omega]; rfl
def numbR (c : Int) : Bool := c == 1 || c == 2 || c == 3 || c == 5 || c == 6 || c == 7 || c == 8
end
end Go.Proofs.YtcnlkfocbbkdhaaGreatDoor.Gb
