/- What is linked is a program that may be; its points are all exported procedures (no program in sight). Layer 22: a point as a key (of its path and name). A program, verified: walked. A program, verified; ObjectVerified: walked. Arguments of a bounded bulk, opened with the sum of all that they hold: lists of objects. -/
import Derived.Test.YtcnlkfocbbkdhaaGreatDoorRj
set_option linter.unusedVariables false
set_option linter.unusedSimpArgs false
set_option linter.unusedSectionVars false
namespace Go.Proofs.YtcnlkfocbbkdhaaGreatDoor.Gb
open Go Go.Proofs
section
def keyT (x : Pt) : Ky := (x.path, x.name)
def ptOk (prs : List Pr) (seen : List Ky) (x : Pt) : Bool :=
 decide (0 ≤ x.proc) && (decide (x.proc < (prs.length : Int)) && (fileR x.path && (!decide (keyT x ∈ seen) && (match prs[x.proc.toNat]? with | some q => q.exp && (q.name == x.name) | none => false))))
def ptsOkR (prs : List Pr) (pts : List Pt) : Bool := (List.range pts.length).all fun i => match pts[i]? with
 | some x => ptOk prs ((pts.take i).map keyT) x
 | none => true
theorem ptsOk_false {prs : List Pr} {pts : List Pt} {i : Nat} {x : Pt} (h : pts[i]? = some x) (h0 : ptOk prs ((pts.take i).map keyT) x = false) : ptsOkR prs pts = false := by
 cases hr : ptsOkR prs pts with
 | false => rfl
 | true =>
  have := List.all_eq_true.1 hr i (by simpa using (List.getElem?_eq_some_iff.1 h).1)
  rw [h] at this
  dsimp only at this
  rw [h0] at this
  cases this
theorem ptsOk_true {prs : List Pr} {pts : List Pt} (h : ∀ i x, pts[i]? = some x → ptOk prs ((pts.take i).map keyT) x = true) : ptsOkR prs pts = true := by
 refine List.all_eq_true.2 fun i _ => ?_
 cases hx : pts[i]? with
 | none => rfl
 | some x => exact h i x hx
def progR (cs : List V) (prs : List Pr) (pts : List Pt) : Bool := cs.all valueR && (decide ((cs.length : Int) ≤ 65536) && (decide ((prs.length : Int) ≤ 4096) && ptsOkR prs pts))
theorem ptsO_in : ∀ (ps : List Pr) (n : Nat) {path : ByteArray} {x : Pt}, x ∈ ptsO path ps n → ∃ j p, ps[j]? = some p ∧ p.exp = true ∧ x = ⟨path, p.name, ((n + j : Nat) : Int)⟩
 | [], n, path, x, h => by simp [ptsO] at h
 | a :: r, n, path, x, h => by
  unfold ptsO at h
  have ih : x ∈ ptsO path r (n + 1) → ∃ j p, (a :: r)[j]? = some p ∧ p.exp = true ∧ x = ⟨path, p.name, ((n + j : Nat) : Int)⟩ := fun h => by
   obtain ⟨j, p, h1, h2, h3⟩ := ptsO_in r (n + 1) h
   exact ⟨j + 1, p, by simpa using h1, h2, by rw [h3, show n + 1 + j = n + (j + 1) by omega]⟩
  split at h
  ·rename_i he
   rcases List.mem_cons.1 h with rfl | h
   ·exact ⟨0, a, rfl, he, rfl⟩
   ·exact ih h
  ·exact ih h
theorem ptsO_mem : ∀ (ps : List Pr) (n : Nat) {path : ByteArray} {j : Nat} {p : Pr}, ps[j]? = some p → p.exp = true → (⟨path, p.name, ((n + j : Nat) : Int)⟩ : Pt) ∈ ptsO path ps n
 | [], n, path, j, p, h, _ => by simp at h
 | a :: r, n, path, 0, p, h, he => by
  simp at h; subst h
  unfold ptsO
  rw [if_pos he]
  exact List.mem_cons_self
 | a :: r, n, path, j + 1, p, h, he => by
  have ih := ptsO_mem r (n + 1) (path := path) (j := j) (by simpa using h) he
  rw [show n + 1 + j = n + (j + 1) by omega] at ih
  unfold ptsO
  split
  ·exact List.mem_cons_of_mem _ ih
  ·exact ih
theorem ptsO_keys (path : ByteArray) : ∀ (ps : List Pr) (n : Nat), ((ptsO path ps n).map keyT).Sublist (ps.map fun p => (path, p.name))
 | [], n => by simp [ptsO]
 | a :: r, n => by
  unfold ptsO
  split
  ·exact (ptsO_keys path r (n + 1)).cons_cons _
  ·exact (ptsO_keys path r (n + 1)).cons _
theorem joinT_in : ∀ (l : List Ob) (n : Nat) {x : Pt}, x ∈ joinT' l n → ∃ k j o p, l[k]? = some o ∧ o.procs[j]? = some p ∧ p.exp = true ∧ x = ⟨o.path, p.name, ((n + (sumP (l.take k) + j) : Nat) : Int)⟩
 | [], n, x, h => by simp [joinT'] at h
 | a :: r, n, x, h => by
  unfold joinT' at h
  rcases List.mem_append.1 h with h | h
  ·obtain ⟨j, p, h1, h2, h3⟩ := ptsO_in _ _ h
   exact ⟨0, j, a, p, rfl, h1, h2, by rw [h3, List.take_zero, show sumP [] = 0 from rfl, Nat.zero_add]⟩
  ·obtain ⟨k, j, o, p, h1, h2, h3, h4⟩ := joinT_in r _ h
   exact ⟨k + 1, j, o, p, by simpa using h1, h2, h3, by rw [h4, List.take_succ_cons, sumP_cons]; congr 2; omega⟩
theorem joinT_mem : ∀ (l : List Ob) (n : Nat) {k j : Nat} {o : Ob} {p : Pr}, l[k]? = some o → o.procs[j]? = some p → p.exp = true → (⟨o.path, p.name, ((n + (sumP (l.take k) + j) : Nat) : Int)⟩ : Pt) ∈ joinT' l n
 | [], n, k, j, o, p, h, _, _ => by simp at h
 | a :: r, n, 0, j, o, p, h, hj, he => by
  simp at h; subst h
  have := ptsO_mem a.procs n (path := a.path) hj he
  unfold joinT'
  rw [List.take_zero, show sumP [] = 0 from rfl, Nat.zero_add]
  exact List.mem_append_left _ this
 | a :: r, n, k + 1, j, o, p, h, hj, he => by
  have ih := joinT_mem r (n + a.procs.length) (k := k) (by simpa using h) hj he
  unfold joinT'
  rw [List.take_succ_cons, sumP_cons, show n + (a.procs.length + sumP (r.take k) + j) = n + a.procs.length + (sumP (r.take k) + j) by omega]
  exact List.mem_append_right _ ih
theorem joinT_keys : ∀ (l : List Ob) (n : Nat), ((joinT' l n).map keyT).Sublist ((allPr l).map keyP)
 | [], n => by simp [joinT', allPr]
 | a :: r, n => by
  unfold joinT' allPr
  rw [List.map_append, List.flatMap_cons, List.map_append, List.map_map]
  exact (ptsO_keys a.path a.procs n).append (joinT_keys r _)
section
variable {l : List Ob} (hv : ∀ o ∈ l, (objAns o).2.2 = 0) (hp : (l.map (·.path)).Nodup)
include hv hp
theorem keys_nodup : ((allPr l).map keyP).Nodup := all_nodup hp fun o ho => names_nodup (hv o ho)
theorem keys_one {k j k' j' : Nat} {o o' : Ob} {p p' : Pr} (hk : l[k]? = some o) (hj : o.procs[j]? = some p) (hk' : l[k']? = some o') (hj' : o'.procs[j']? = some p') (h1 : o.path = o'.path) (h2 : p.name = p'.name) : p = p' := by
 have a1 := all_at l hk hj
 have a2 := all_at l hk' hj'
 have b1 : ((allPr l).map keyP)[sumP (l.take k) + j]? = some (keyP (o.path, p)) := by rw [List.getElem?_map, a1]; rfl
 have b2 : ((allPr l).map keyP)[sumP (l.take k') + j']? = some (keyP (o.path, p)) := by rw [List.getElem?_map, a2]; show some (o'.path, p'.name) = some (o.path, p.name); rw [h1, h2]
 have e := (List.getElem?_inj (List.getElem?_eq_some_iff.1 b1).1 (keys_nodup hv hp)).1 (b1.trans b2.symm)
 rw [e, a2] at a1
 simpa using (congrArg (fun z => z.map (·.2)) a1).symm
theorem link_points (hP : sumP l ≤ 4096) : ptsOkR (linkW l).procs (joinT' l 0) = true := by
 refine ptsOk_true fun i x hx => ?_
 obtain ⟨k, j, o, p, hk, hj, he, rfl⟩ := joinT_in l 0 (List.mem_of_getElem? hx)
 have hlt := sumP_at hk (List.getElem?_eq_some_iff.1 hj).1
 have hq := join_at (allPr l) l 0 0 hk hj
 have hfile := (objAns_zero (hv o (List.mem_of_getElem? hk))).1
 unfold objR at hfile
 rw [Bool.and_eq_true] at hfile
 unfold ptOk
 dsimp only
 rw [Nat.zero_add]
 have h3 : (linkW l).procs.length = sumP l := join_len _ _ _ _
 have h4 : ¬ keyT ⟨o.path, p.name, ((sumP (l.take k) + j : Nat) : Int)⟩ ∈ ((joinT' l 0).take i).map keyT := fun hm => by
  have hn := (joinT_keys l 0).nodup (keys_nodup hv hp)
  obtain ⟨i', hi'⟩ := List.mem_iff_getElem?.1 hm
  have c1 : i' < i := by have := (List.getElem?_eq_some_iff.1 hi').1; simp at this; omega
  have c2 : ((joinT' l 0).map keyT)[i']? = some (o.path, p.name) := by
   rw [List.getElem?_map, List.getElem?_take, if_pos c1, ← List.getElem?_map] at hi'
   exact hi'
  have c3 : ((joinT' l 0).map keyT)[i]? = some (o.path, p.name) := by rw [List.getElem?_map, hx]; rfl
  have := (List.getElem?_inj (List.getElem?_eq_some_iff.1 c2).1 hn).1 (c2.trans c3.symm)
  omega
 rw [decide_eq_true (by omega), decide_eq_true (by rw [h3]; omega), hfile.1, decide_eq_false h4, Int.toNat_natCast, show (linkW l).procs[sumP (l.take k) + j]? = _ from hq]
 show (true && (true && (true && (true && (p.exp && (p.name == p.name)))))) = true
 rw [he, bb_refl]
 rfl
theorem link_prog (hm : missL l = []) (hP : sumP l ≤ 4096) (hC : sumC l ≤ 65536) : progR (linkW l).consts (linkW l).procs (joinT' l 0) = true := by
 have h1 : (linkW l).consts.all valueR = true := by
  refine List.all_eq_true.2 fun v hvv => ?_
  obtain ⟨o, ho, hvo⟩ := List.mem_flatMap.1 hvv
  have hob := (objAns_zero (hv o ho)).1
  unfold objR at hob
  rw [Bool.and_eq_true, Bool.and_eq_true] at hob
  exact List.all_eq_true.1 hob.2.1 v hvo
 have h2 : (linkW l).consts.length = sumC l := consts_len l
 have h3 : (linkW l).procs.length = sumP l := join_len _ _ _ _
 unfold progR
 rw [h1, decide_eq_true (by omega), decide_eq_true (by omega), link_points hv hp hP]
 rfl
theorem ver_exp {k j : Nat} {o : Ob} {p : Pr} (hk : l[k]? = some o) (hj : o.procs[j]? = some p) (he : p.exp = true) : ∃ (n : Nat) (q : Pr), ptR (joinT' l 0) o.path p.name = ((n : Int), 0) ∧ (joinP (allPr l) l 0 0)[n]? = some q ∧ q.name = p.name := by
 cases hf : (joinT' l 0).find? (fun x => x.path == o.path && x.name == p.name) with
 | none =>
  have := List.find?_eq_none.1 hf _ (joinT_mem l 0 hk hj he)
  simp [bb_refl] at this
 | some x =>
  obtain ⟨k', j', o', p', h1, h2, h3, rfl⟩ := joinT_in l 0 (List.mem_of_find?_eq_some hf)
  have h4 := List.find?_some hf
  rw [Bool.and_eq_true] at h4
  refine ⟨_, _, ?_, join_at (allPr l) l 0 0 h1 h2, ?_⟩
  ·unfold ptR; rw [hf, Nat.zero_add]
  ·exact bb_iff.1 h4.2
theorem ver_not {k j : Nat} {o : Ob} {p : Pr} (hk : l[k]? = some o) (hj : o.procs[j]? = some p) (he : p.exp = false) : ptR (joinT' l 0) o.path p.name = (0, 8) := by
 cases hf : (joinT' l 0).find? (fun x => x.path == o.path && x.name == p.name) with
 | none => unfold ptR; rw [hf]
 | some x =>
  obtain ⟨k', j', o', p', h1, h2, h3, rfl⟩ := joinT_in l 0 (List.mem_of_find?_eq_some hf)
  have h4 := List.find?_some hf
  rw [Bool.and_eq_true] at h4
  have := keys_one hv hp hk hj h1 h2 (bb_iff.1 h4.1).symm (bb_iff.1 h4.2).symm
  rw [this, h3] at he
  cases he
end
end
section
open Go.MapKept
def kpV (k : Ky) : Value := .agg #[.string k.1, .string k.2, .int .i64 0]
theorem pnt_eq (a b : Ky) (w : World) : (Op.equal 54 (kpV a) (kpV b)).run Tryz.prog w = .ok (decide (a = b)) w := by
 obtain ⟨a1, a2⟩ := a
 obtain ⟨b1, b2⟩ := b
 have h2 : Tryz.prog.underlying 54 = some (.struct (Tryz.prog.fieldsOf 54)) := by kernel_rfl
 have h3 : Tryz.prog.stoodInHeld 54 = false := by kernel_rfl
 have key : (Op.eqFields 9999 #[.string a1, .string a2, .int .i64 0] #[.string b1, .string b2, .int .i64 0] (Tryz.prog.fieldsOf 54).toList).run Tryz.prog w = .ok (decide ((a1, a2) = (b1, b2))) w := by
  have a0 := fun w => (inferInstance : Agg Tryz.prog 9 false).h w
  have a9 := fun w => (inferInstance : Agg Tryz.prog 3 false).h w
  have u0 : Tryz.prog.underlying 9 = some .string := Und.h
  have u9 : Tryz.prog.underlying 3 = some (.int .i64) := Und.h
  simp only [Program.fieldsOf, Tryz.underlying54]
  simp only [Op.eqFields, part, Sem.run_bind, a0, a9, Result.andThen_ok, Sem.run_ite]
  have r := fun (x y : ByteArray) (w : World) => run_equalIn_string (P := Tryz.prog) w 9998 9 x y u0
  have r9 := fun (x y : Int) (w : World) => run_equalIn_int (P := Tryz.prog) w 9998 3 .i64 .i64 x y u9
  by_cases q1 : a1 = b1 <;> by_cases q2 : a2 = b2
  ·subst q1 q2; simp [r, r9]
  ·subst q1
   have : (a2.toList == b2.toList) = false := lists_ne q2
   simp [r, r9, this, q2]
  ·subst q2
   have : (a1.toList == b1.toList) = false := lists_ne q1
   simp [r, r9, this, q1]
  ·have : (a1.toList == b1.toList) = false := lists_ne q1
   simp [r, r9, this, q1]
 unfold Op.equal
 show (Op.equalIn (9999 + 1) _ (.agg _) (.agg _)).run _ w = _
 rw [run_equalIn_agg w 9999 _ _ _ h2 h3, key]
theorem int_check (n : Nat) (e : Bool) (x : Int) (w : World) : (Instr.checkKey e (n + 1) 3 (.int .i64 x)).run Tryz.prog w = .ok () w := by
 have u0 : Tryz.prog.underlying 3 = some (.int .i64) := Und.h
 exact run_checkKey u0 (by exact rfl) e n
theorem pnt_check_n (n : Nat) (a : Ky) (e : Bool) (w : World) : (Instr.checkKey e (n + 1 + 1) 54 (kpV a)).run Tryz.prog w = .ok () w := by
 have a0 := fun w => (inferInstance : Agg Tryz.prog 9 false).h w
 have a9 := fun w => (inferInstance : Agg Tryz.prog 3 false).h w
 rw [Instr.checkKey.eq_def]
 simp [kpV, run_underlying Tryz.underlying54, part, a0, a9, str_check, int_check, Result.andThen]
theorem pnt_check (a : Ky) (e : Bool) (w : World) : (Instr.checkKey e 10000 54 (kpV a)).run Tryz.prog w = .ok () w := pnt_check_n 9998 a e w
theorem pnt_inj {a b : Ky} (h : kpV a = kpV b) : a = b := by
 obtain ⟨a1, a2⟩ := a
 obtain ⟨b1, b2⟩ := b
 simp [kpV] at h
 rw [h.1, h.2]
theorem pnt_stay_n (n : Nat) (a : Ky) : Instr.sameBits (n + 1 + 1) (kpV a) (kpV a) = true := by simp [kpV, Instr.sameBits, bb_refl]
theorem pnt_stay (a : Ky) : Instr.sameBits 10000 (kpV a) (kpV a) = true := pnt_stay_n 9998 a
instance : KeyK Tryz.prog 54 kpV := KeyK.ofEqual (ds := .struct (Tryz.prog.fieldsOf 54)) kr (fun a b => rfl) pnt_inj pnt_check pnt_stay pnt_eq
def OneM (m : List (Ky × Value)) (seen : List Ky) : Prop := ∀ k, (getA m k).getD (.int .i64 0) = .int .i64 (if k ∈ seen then 1 else 0)
theorem OneM.nil : OneM [] [] := fun k => by simp [getA]
end
section
open Go.MapKept
attribute [local irreducible] Tryz.prog ptsOkR fileR valueR
theorem OneM.twice {m : List (Ky × Value)} {seen : List Ky} (h : OneM m seen) (a : Ky) (v : Value) : OneM (setA (setA m a v) a (.int .i64 1)) (seen ++ [a]) := fun k => by
 by_cases e : k = a
 ·subst e; rw [getA_setA, if_pos (by simp)]; rfl
 ·have : (k ∈ seen ++ [a]) = (k ∈ seen) := by simp [e]
  rw [getA_setA_ne _ _ e, getA_setA_ne _ _ e, h k]
  simp only [this]
structure PK where
 i : Nat
 G : Gh
 es : Array MapEntry
 ck : Nat
 m : List (Ky × Value)
abbrev pgB (b : Nat) (CA PA QA : Option Addr) (c cc p pc q qc : Nat) : Own := .blk b (.cells #[.slice CA c cc, .slice PA p pc, .slice QA q qc] 27 (0, 0))
set_option maxRecDepth 20000 in
set_option maxHeartbeats 4000000 in
theorem program_fn (G : Gh) (hE : Env G) (cs : List V) (prs : List Pr) (pts : List Pt) (CA PA QA : Option Addr) (cc pc qc : Nat) (hC : Sl Kd.val G CA cs) (hP : Sl Kd.prc G PA prs) (hQ : Sl Kd.pnt G QA pts)
  (hcl : cs.length ≤ 100000000000000) (hpl : prs.length ≤ 100000000000000) (hql : pts.length ≤ 100000000000000) (hqs : ∀ x ∈ pts, x.path.size ≤ 4000000000) :
  Fn Tryz.prog 58 #[.agg #[.slice CA cs.length cc, .slice PA prs.length pc, .slice QA pts.length qc]] G [] fun e G' H' => e = .returned (.bool (progR cs prs pts)) ∧ G.le G' ∧ H' = [] := by
 refine Fn.enter Tryz.func58 rfl rfl fun w0 => ?_
 refine WC.seq ?_
 refine WC.region ?_
 refine WL.oo (OW.box rfl rfl fun b1 => ?_)
 refine gom ?_
 refine WL.oo (OW.callK rfl (values_fn G CA cs cc hC hcl) rfl fun v' G' H' h hg => ?_)
 obtain ⟨he, rfl, rfl⟩ := h
 cases he
 cases h1 : cs.all valueR with
 | false =>
  rw [show progR cs prs pts = false by unfold progR; rw [h1]; rfl]
  refine gom ?_
  refine WC.rt ?_
  exact QF.p1 (.inl rfl) rfl (.tmp rfl) (⟨rfl, Gh.le_refl _, rfl⟩)
 | true =>
 cases h2 : decide ((cs.length : Int) ≤ 65536) with
 | false =>
  have y2 := dgt h2
  rw [show progR cs prs pts = false by unfold progR; rw [h1, h2]; rfl]
  refine gom ?_
  refine WC.rt ?_
  exact QF.p1 (.inl rfl) rfl (.tmp rfl) (⟨rfl, Gh.le_refl _, rfl⟩)
 | true =>
 have y2 := dgt h2
 cases h3 : decide ((prs.length : Int) ≤ 4096) with
 | false =>
  have y3 := dgt h3
  rw [show progR cs prs pts = false by unfold progR; rw [h1, h2, h3]; rfl]
  refine gom ?_
  refine WC.rt ?_
  exact QF.p1 (.inl rfl) rfl (.tmp rfl) (⟨rfl, Gh.le_refl _, rfl⟩)
 | true =>
 have y3 := dgt h3
 refine gom ?_
 refine WL.oo (OW.makeMap rfl fun bm => ?_)
 refine gom ?_
 refine WC.loop (X := PK) (fun x => [(1, .pointer (some ⟨b1, 0, none⟩)), (3, .map (some bm)), (26, .slice QA pts.length qc), (27, .int .i64 pts.length), (28, .int .i64 x.i)]) (fun x => x.G) (fun x => [.blk bm (.map x.es x.ck), pgB b1 CA PA QA cs.length cc prs.length pc pts.length qc]) (fun x => pts.length - x.i)
  (fun x => x.i ≤ pts.length ∧ G.le x.G ∧ MK kpV x.es x.ck x.m ∧ OneM x.m ((pts.take x.i).map keyT) ∧ ∀ (j : Nat) y, j < x.i → pts[j]? = some y → ptOk prs ((pts.take j).map keyT) y = true) ⟨0, G, #[], 0, []⟩ ⟨Nat.zero_le _, Gh.le_refl _, MK.empty, by dsimp only; rw [List.take_zero]; exact OneM.nil, fun j y h => absurd h (Nat.not_lt_zero _)⟩ (by exact ⟨rfl, rfl, rfl, rfl, rfl, trivial⟩) rfl (List.Sublist.refl _) fun x hx => ?_
 obtain ⟨i, G1, es, ck, m⟩ := x
 obtain ⟨hi, hg1, hM, hN, hall⟩ := hx
 dsimp only at hi hg1 hM hN hall
 have x2 := wrapS i (by omega)
 by_cases hlt : i < pts.length
 rotate_left
 ·have e2 : decide ((i : Int) < (pts.length : Int)) = false := decide_eq_false (by omega)
  rw [show progR cs prs pts = true by unfold progR; rw [h1, h2, h3, ptsOk_true fun j y hy => hall j y (by have := (List.getElem?_eq_some_iff.1 hy).1; omega) hy]; rfl]
  refine gom ?_
  refine WC.rt ?_
  exact QF.p1 (.inl rfl) rfl (.tmp rfl) (⟨rfl, hg1, rfl⟩)
 have e2 : decide ((i : Int) < (pts.length : Int)) = true := decide_eq_true (by omega)
 obtain ⟨x, hx⟩ : ∃ x, pts[i]? = some x := ⟨_, List.getElem?_eq_getElem hlt⟩
 have x0 : (0 : Int) ≤ (i : Int) := by omega
 have x1 : (i : Int) < (pts.length : Int) := by omega
 have hxs := hqs x (List.mem_of_getElem? hx)
 obtain ⟨qb, qo, qcs, rfl, hqk, hqc⟩ := (hQ.mono hg1) i x hx
 obtain rfl : qcs = [.string x.path, .string x.name, .int .i64 x.proc] := hqk
 obtain ⟨xp, xn, xk⟩ := x
 dsimp only at hxs hqc
 refine gom ?_
 refine WL.oo (OW.alloc rfl fun b5 => ?_)
 refine gom ?_
 refine WL.oo (OW.alloc rfl fun b6 => ?_)
 by_cases a1 : 0 ≤ xk
 rotate_left
 ·have b1 : decide (xk < (0 : Int)) = true := decide_eq_true (by omega)
  have hf : ptOk prs ((pts.take i).map keyT) ⟨xp, xn, xk⟩ = false := by unfold ptOk; dsimp only; rw [decide_eq_false a1]; rfl
  rw [show progR cs prs pts = false by unfold progR; rw [ptsOk_false hx hf]; simp]
  refine gom ?_
  refine WC.rt ?_
  exact QF.p1 (.inl rfl) rfl (.tmp rfl) (⟨rfl, hg1, rfl⟩)
 have b1' : decide (xk < (0 : Int)) = false := decide_eq_false (by omega)
 obtain ⟨n, rfl⟩ : ∃ n : Nat, xk = (n : Int) := ⟨xk.toNat, by omega⟩
 by_cases a2 : n < prs.length
 rotate_left
 ·have b2 : decide ((prs.length : Int) ≤ (n : Int)) = true := decide_eq_true (by omega)
  have hf : ptOk prs ((pts.take i).map keyT) ⟨xp, xn, (n : Int)⟩ = false := by unfold ptOk; dsimp only; rw [decide_eq_true a1, decide_eq_false (by omega)]; rfl
  rw [show progR cs prs pts = false by unfold progR; rw [ptsOk_false hx hf]; simp]
  refine gom ?_
  refine WC.rt ?_
  exact QF.p1 (.inl rfl) rfl (.tmp rfl) (⟨rfl, hg1, rfl⟩)
 have b2 : decide ((prs.length : Int) ≤ (n : Int)) = false := decide_eq_false (by omega)
 have b2' : (n : Int) < (prs.length : Int) := by omega
 have b3' : decide ((n : Int) < (prs.length : Int)) = true := decide_eq_true b2'
 refine gom ?_
 refine WL.oo (OW.callK rfl (file_fn G1 (hE.mono hg1) xp hxs) rfl fun v' G' H' h hg => ?_)
 obtain ⟨he, hg2, rfl⟩ := h
 cases he
 have hg3 := Gh.le_trans hg1 hg2
 cases h4 : fileR xp with
 | false =>
  have hf : ptOk prs ((pts.take i).map keyT) ⟨xp, xn, (n : Int)⟩ = false := by unfold ptOk; dsimp only; rw [h4]; simp
  rw [show progR cs prs pts = false by unfold progR; rw [ptsOk_false hx hf]; simp]
  refine gom ?_
  refine WC.rt ?_
  exact QF.p1 (.inl rfl) rfl (.tmp rfl) (⟨rfl, hg3, rfl⟩)
 | true =>
 refine gom ?_
 by_cases h5 : (xp, xn) ∈ (pts.take i).map keyT
 ·have hv := hN (xp, xn)
  rw [if_pos h5] at hv
  have hf : ptOk prs ((pts.take i).map keyT) ⟨xp, xn, (n : Int)⟩ = false := by unfold ptOk; dsimp only; rw [decide_eq_true (show keyT ⟨xp, xn, (n : Int)⟩ ∈ _ from h5)]; simp
  refine WL.vv (Gv.lookupK (emb := kpV) (key := (xp, xn)) (kt := 54) (z := .int .i64 0) rfl rfl atA hM hv) ?_
  rw [show progR cs prs pts = false by unfold progR; rw [ptsOk_false hx hf]; simp]
  refine gom ?_
  refine WC.rt ?_
  exact QF.p1 (.inl rfl) rfl (.tmp rfl) (⟨rfl, hg3, rfl⟩)
 have hv := hN (xp, xn)
 rw [if_neg h5] at hv
 refine WL.vv (Gv.lookupK (emb := kpV) (key := (xp, xn)) (kt := 54) (z := .int .i64 0) rfl rfl atA hM hv) ?_
 obtain ⟨q, hq⟩ : ∃ q, prs[n]? = some q := ⟨_, List.getElem?_eq_getElem a2⟩
 obtain ⟨pb, po, pcs, rfl, hpk, hpc⟩ := (hP.mono hg3) n q hq
 obtain ⟨QP, qpc, QI, qic, rfl, _, _⟩ := hpk
 have hok : ptOk prs ((pts.take i).map keyT) ⟨xp, xn, (n : Int)⟩ = (q.exp && (q.name == xn)) := by
  unfold ptOk
  dsimp only
  rw [decide_eq_true a1, b3', h4, decide_eq_false (show ¬ keyT ⟨xp, xn, (n : Int)⟩ ∈ _ from h5), Int.toNat_natCast, hq]
  simp
 refine gom ?_
 refine WL.oo (OW.alloc rfl fun b7 => ?_)
 cases h6 : q.exp with
 | false =>
  have hf : ptOk prs ((pts.take i).map keyT) ⟨xp, xn, (n : Int)⟩ = false := by rw [hok, h6]; rfl
  rw [show progR cs prs pts = false by unfold progR; rw [ptsOk_false hx hf]; simp]
  refine gom ?_
  refine WC.rt ?_
  exact QF.p1 (.inl rfl) rfl (.tmp rfl) (⟨rfl, hg3, rfl⟩)
 | true =>
 refine gom ?_
 cases h7 : (q.name == xn) with
 | false =>
  have hf : ptOk prs ((pts.take i).map keyT) ⟨xp, xn, (n : Int)⟩ = false := by rw [hok, h6, h7]; rfl
  rw [show progR cs prs pts = false by unfold progR; rw [ptsOk_false hx hf]; simp]
  refine gom ?_
  refine WC.rt ?_
  exact QF.p1 (.inl rfl) rfl (.tmp rfl) (⟨rfl, hg3, rfl⟩)
 | true =>
 refine go ?_
 have hseen : (pts.take (i + 1)).map keyT = (pts.take i).map keyT ++ [(xp, xn)] := by rw [take_snoc' hx, List.map_append]; rfl
 have hone := hN.twice (xp, xn) (.int .i64 0)
 rw [← hseen] at hone
 have w1 : IntKind.i64.wrap (0 + 1) = 1 := rfl
 have hstep : ∀ (j : Nat) y, j < i + 1 → pts[j]? = some y → ptOk prs ((pts.take j).map keyT) y = true := fun j y hj hy => by
  rcases Nat.lt_or_ge j i with h | h
  ·exact hall j y h hy
  ·obtain rfl : j = i := by omega
   rw [hx] at hy; cases hy
   rw [hok, h6, h7]; rfl
 refine WC.draw mixed ?_
 refine za.move 0 ?_
 refine za.ld 1 ?_
 refine WA.two (i := 2) (j := 4) kr rfl rfl kr kr (OW.gv (Gv.lookupK (emb := kpV) (key := (xp, xn)) (kt := 54) (z := .int .i64 0) rfl rfl atA hM hv) rfl ?_) (OW.mapEntryK (emb := kpV) (key := (xp, xn)) (kt := 54) (z := .int .i64 0) (v := .int .i64 0) rfl rfl atA hM hv rfl fun es2 ck2 n2 hM2 hS2 => ?_)
 ·
  refine za.add 3 ?_
  refine WA.oo 4 rfl (OW.mapEntryK (emb := kpV) (key := (xp, xn)) (kt := 54) (z := .int .i64 0) (v := .int .i64 0) rfl rfl atA hM hv rfl fun es2 ck2 n2 hM2 hS2 => ?_)
  refine za.ext 5 ?_
  refine WA.oo 6 rfl (OW.entryStoreK (emb := kpV) (kt := 54) (key := (xp, xn)) rfl rfl rfl atA hM2 hS2 inferInstance rfl fun es3 hM3 => ?_)
  refine WA.done kr ?_
  refine WK.un ?_
  refine gom ?_
  refine WK.pick [.blk bm (.map es3 ck2), pgB b1 CA (some ⟨pb, po, none⟩) (some ⟨qb, qo, none⟩) cs.length cc prs.length pc pts.length qc] ?_
  exact WK.again ⟨i + 1, G', es3, ck2, _⟩ (by dsimp only; omega) ⟨by show i + 1 ≤ _; omega, hg3, hM3, hone, hstep⟩ (by exact ⟨rfl, rfl, rfl, rfl, rfl, trivial⟩) rfl (List.Sublist.refl _)
 ·
  refine za.ext 5 ?_
  refine WA.vv 2 rfl (Gv.lookupK (emb := kpV) (key := (xp, xn)) (kt := 54) (z := .int .i64 0) (v := .int .i64 0) rfl rfl atA hM2 (by rw [getA_setA]; rfl)) ?_
  refine za.add 3 ?_
  refine WA.oo 6 rfl (OW.entryStoreK (emb := kpV) (kt := 54) (key := (xp, xn)) rfl rfl rfl atA hM2 hS2 inferInstance rfl fun es3 hM3 => ?_)
  refine WA.done kr ?_
  refine WK.un ?_
  refine gom ?_
  refine WK.pick [.blk bm (.map es3 ck2), pgB b1 CA (some ⟨pb, po, none⟩) (some ⟨qb, qo, none⟩) cs.length cc prs.length pc pts.length qc] ?_
  exact WK.again ⟨i + 1, G', es3, ck2, _⟩ (by dsimp only; omega) ⟨by show i + 1 ≤ _; omega, hg3, hM3, hone, hstep⟩ (by exact ⟨rfl, rfl, rfl, rfl, rfl, trivial⟩) rfl (List.Sublist.refl _)
end
section
open Go.MapKept
attribute [local irreducible] Tryz.prog progR allA linkE allPr joinP joinT' sumP sumC objAns ptR
noncomputable def progAns (cs : List V) (prs : List Pr) (pts : List Pt) : Int × Int × Int := if progR cs prs pts then allA ⟨cs, [], prs⟩ else (0, 0, 185)
structure GLim (cs : List V) (prs : List Pr) (pts : List Pt) : Prop where
 cl : cs.length ≤ 100000000000000
 pl : prs.length ≤ 100000000000000
 tl : pts.length ≤ 100000000000000
 ts : ∀ x ∈ pts, x.path.size ≤ 4000000000
 pr : ∀ q ∈ prs, q.params.length ≤ 100000000000000 ∧ q.code.length ≤ 100000000000000 ∧ q.name.size ≤ 100000000000000
theorem Program_fn (G : Gh) (hE : Env G) (cs : List V) (prs : List Pr) (pts : List Pt) (CA PA QA : Option Addr) (cc pc qc : Nat) (hC : Sl Kd.val G CA cs) (hP : Sl Kd.prc G PA prs) (hQ : Sl Kd.pnt G QA pts) (hL : GLim cs prs pts) :
  Fn Tryz.prog 26 #[.agg #[.slice CA cs.length cc, .slice PA prs.length pc, .slice QA pts.length qc]] G [] fun e G' H' => e = .returned (.tuple #[.agg #[.int .i64 (progAns cs prs pts).1, .int .i64 (progAns cs prs pts).2.1], .int .i64 (progAns cs prs pts).2.2]) ∧ G.le G' ∧ H' = [] := by
 refine Fn.enter Tryz.func26 rfl rfl fun w0 => ?_
 refine WC.seq ?_
 refine WC.region ?_
 refine WL.oo (OW.box rfl rfl fun b1 => ?_)
 refine WL.oo (OW.alloc rfl fun b2 => ?_)
 refine gom ?_
 refine WL.oo (OW.callK rfl (program_fn G hE cs prs pts CA PA QA cc pc qc hC hP hQ hL.cl hL.pl hL.tl hL.ts) rfl fun v' G' H' h hg => ?_)
 obtain ⟨he, hg1, rfl⟩ := h
 cases he
 cases h1 : progR cs prs pts with
 | false =>
  have hr : progAns cs prs pts = (0, 0, 185) := by rw [progAns, h1]; rfl
  rw [hr]
  refine gom ?_
  refine WC.rt ?_
  exact QF.p2 (.inl rfl) rfl (.cell rfl inferInstance inferInstance atA rfl rfl) (.tmp rfl) (⟨rfl, hg1, rfl⟩)
 | true =>
 have hr : progAns cs prs pts = allA ⟨cs, [], prs⟩ := by rw [progAns, h1]; rfl
 rw [hr]
 refine gom ?_
 refine WL.oo (OW.box rfl rfl fun b14 => ?_)
 refine zw.assign ?_
 refine WL.nil ?_
 refine WK.un ?_
 refine WC.pick [.blk b14 (.cells #[.slice CA cs.length cc, .slice none 0 0, .slice PA prs.length pc] 97 (0, 0)), spB b2] ?_
 refine WC.freezeC .here rfl fun G1 hg2 hf1 => ?_
 have hg3 := Gh.le_trans hg1 hg2
 have hW : WRep G1 ⟨cs, [], prs⟩ b14 CA none PA cc 0 pc := ⟨hf1, hC.mono hg3, Sl.nil _ _ _, hP.mono hg3, hL.cl, by simp, hL.pl, by simp, fun q hq => (hL.pr q hq).1⟩
 refine gom ?_
 refine WL.oo (OW.callK rfl (wallA_fn G1 (hE.mono hg3) ⟨cs, [], prs⟩ b14 CA none PA cc 0 pc hW (fun q hq => (hL.pr q hq).2)) rfl fun v' G' H' h hg => ?_)
 obtain ⟨he, hg4, rfl⟩ := h
 cases he
 refine gom ?_
 refine WC.rt ?_
 exact QF.p2 (.inl rfl) rfl (.cell rfl inferInstance inferInstance atA rfl rfl) (.tmp rfl) (⟨rfl, Gh.le_trans hg3 hg4, rfl⟩)
theorem linkBad_fn (G : Gh) (hE : Env G) (A : Option Addr) (cap : Nat) (l : List Ob) (hl : Sl Kd.ob G A l) (hL : LLim l) (hz : linkE l ≠ 0) :
  Fn Tryz.prog 12 #[.slice A l.length cap] G [] fun e G' H' => e = .returned (.tuple #[.agg #[.slice none 0 0, .slice none 0 0, .slice none 0 0], .int .i64 (linkE l)]) ∧ G.le G' ∧ H' = [] := by
 refine Fn.mono (Link_fn G hE A cap l hl hL) fun e G' H' h => ?_
 obtain ⟨hg, ⟨_, he, rfl⟩ | ⟨hz', _⟩⟩ := h
 ·exact ⟨he, hg, rfl⟩
 ·exact absurd hz' hz
theorem linkGood_fn (G : Gh) (hE : Env G) (A : Option Addr) (cap : Nat) (l : List Ob) (hl : Sl Kd.ob G A l) (hL : LLim l) (hz : linkE l = 0) :
  Fn Tryz.prog 12 #[.slice A l.length cap] G [] fun e G' H' => ∃ CA cc PA pc QA qc x1 x2 x3, e = .returned (.tuple #[.agg #[.slice CA (l.flatMap (·.consts)).length cc, .slice PA (joinP (allPr l) l 0 0).length pc, .slice QA (joinT' l 0).length qc], .int .i64 0]) ∧ G.le G' ∧
   KVec Kd.val 52 G' CA cc (l.flatMap (·.consts)) x1 ∧ KVec Kd.prc 47 G' PA pc (joinP (allPr l) l 0 0) x2 ∧ KVec Kd.pnt 54 G' QA qc (joinT' l 0) x3 ∧ H' = [x1, x2, x3] := by
 refine Fn.mono (Link_fn G hE A cap l hl hL) fun e G' H' h => ?_
 obtain ⟨hg, ⟨hz', _⟩ | ⟨_, LA, lc, MA, mc, QA, qc, y1, y2, y3, he, hk1, hk2, hk3, rfl⟩⟩ := h
 ·exact absurd hz hz'
 ·exact ⟨LA, lc, MA, mc, QA, qc, y1, y2, y3, he, hg, hk1, hk2, hk3, rfl⟩
section
attribute [local semireducible] joinP joinT' sumP allPr
theorem joinP_in (L : List (ByteArray × Pr)) : ∀ (l : List Ob) (cs ps : Nat) {q : Pr}, q ∈ joinP L l cs ps → ∃ o ∈ l, ∃ p ∈ o.procs, q.params = p.params ∧ q.code.length = p.code.length ∧ q.name = p.name
 | [], cs, ps, q, h => by simp [joinP] at h
 | a :: r, cs, ps, q, h => by
  unfold joinP at h
  rcases List.mem_append.1 h with h | h
  ·obtain ⟨p, hp, rfl⟩ := List.mem_map.1 h
   exact ⟨a, List.mem_cons_self, p, hp, rfl, by simp [moveP], rfl⟩
  ·obtain ⟨o, ho, p, hp, h1⟩ := joinP_in L r _ _ h
   exact ⟨o, List.mem_cons_of_mem _ ho, p, hp, h1⟩
theorem glim_link {l : List Ob} (hL : LLim l) : GLim (l.flatMap (·.consts)) (joinP (allPr l) l 0 0) (joinT' l 0) := by
 have h1 := hL.sumC
 have h2 := hL.sumP
 have h3 : (joinP (allPr l) l 0 0).length = sumP l := join_len _ _ _ _
 have h4 : (joinT' l 0).length ≤ sumP l := by
  have := (joinT_keys l 0).length_le
  rw [List.length_map, List.length_map, all_len] at this
  exact this
 refine ⟨by rw [consts_len]; omega, by omega, by omega, fun x hx => ?_, fun q hq => ?_⟩
 ·obtain ⟨k, j, o, p, hk, _, _, rfl⟩ := joinT_in l 0 hx
  exact (hL.lim o (List.mem_of_getElem? hk)).path
 ·obtain ⟨o, ho, p, hp, e1, e2, e3⟩ := joinP_in _ l 0 0 hq
  have := (hL.lim o ho).pr p hp
  rw [e1, e2, e3]
  exact this
theorem link_verified {l : List Ob} (hz : linkE l = 0) : progAns (l.flatMap (·.consts)) (joinP (allPr l) l 0 0) (joinT' l 0) = (0, 0, 0) := by
 obtain ⟨hv, hp, hm, h1, h2⟩ := linkE_zero hz
 rw [progAns, show progR (l.flatMap (·.consts)) (joinP (allPr l) l 0 0) (joinT' l 0) = true from link_prog hv hp hm h1 h2, if_pos rfl]
 exact allA_zero (w := linkW l) fun j p hj => link_out hv hp hm h1 h2 hj
end
set_option maxRecDepth 20000 in
set_option maxHeartbeats 8000000 in
theorem verified_fn (G : Gh) (hE : Env G) (A : Option Addr) (cap : Nat) (l : List Ob) (hl : Sl Kd.ob G A l) (hL : LLim l) :
  Fn Tryz.prog 8 #[.slice A l.length cap] G [] fun e G' H' => e = .returned (.bool true) ∧ G.le G' ∧ H' = [] := by
 have hlen := hL.len
 refine Fn.enter Tryz.func8 rfl rfl fun w0 => ?_
 refine gom ?_
 by_cases hz : linkE l = 0
 rotate_left
 ·have e1 : (linkE l != 0) = true := by simpa using hz
  refine WL.oo (OW.callK rfl (linkBad_fn G hE A cap l hl hL hz) rfl fun v' G' H' h hg => ?_)
  obtain ⟨he, hg1, rfl⟩ := h
  cases he
  refine gom ?_
  refine WL.oo (OW.alloc rfl fun b3 => ?_)
  refine gom ?_
  refine WL.oo (OW.callK rfl (awakeL _ (hE.mono hg1)) rfl fun v' G' H' h hg => ?_)
  obtain ⟨he, hg2, rfl⟩ := h
  cases he
  refine gom ?_
  refine WC.rt ?_
  exact QF.p1 (.inl rfl) rfl (.tmp rfl) (⟨rfl, Gh.le_trans hg1 hg2, rfl⟩)
 refine WL.oo (OW.callK rfl (linkGood_fn G hE A cap l hl hL hz) rfl fun v' G' H' h hg => ?_)
 obtain ⟨CA, cc, PA, pc, QA, qc, y1, y2, y3, he, hg1, hk1, hk2, hk3, rfl⟩ := h
 cases he
 obtain ⟨G1, rfl⟩ : ∃ G1, G1 = G' := ⟨_, rfl⟩
 refine WL.freezeK (by decide) hk1 .here fun G2 hg2 hC => ?_
 refine WL.freezeK (by decide) (hk2.mono hg2) .here fun G3 hg3 hP => ?_
 refine WL.freezeK (by decide) (hk3.mono (Gh.le_trans hg2 hg3)) .here fun G4 hg4 hQ => ?_
 have hg14 := Gh.le_trans hg1 (Gh.le_trans hg2 (Gh.le_trans hg3 hg4))
 have hC4 := hC.mono (Gh.le_trans hg3 hg4)
 have hP4 := hP.mono hg4
 refine gom ?_
 refine WL.oo (OW.alloc rfl fun b3 => ?_)
 refine gom ?_
 refine WL.oo (OW.callK rfl (Program_fn G4 (hE.mono hg14) _ _ _ CA PA QA cc pc qc hC4 hP4 hQ (glim_link hL)) rfl fun v' G' H' h hg => ?_)
 obtain ⟨he, hg5, rfl⟩ := h
 rw [link_verified hz] at he
 cases he
 obtain ⟨G5, rfl⟩ : ∃ G5, G5 = G' := ⟨_, rfl⟩
 have hg15 := Gh.le_trans hg14 hg5
 obtain ⟨hv, hpn, hm, hsp, hsc⟩ := linkE_zero hz
 obtain ⟨ts, hts⟩ : ∃ ts, ts = joinT' l 0 := ⟨_, rfl⟩
 obtain ⟨prs, hprs⟩ : ∃ prs, prs = joinP (allPr l) l 0 0 := ⟨_, rfl⟩
 have hGL := glim_link hL
 have hver := fun k j o p hk hj he => ver_exp (l := l) hv hpn (k := k) (j := j) (o := o) (p := p) hk hj he
 have hvno := fun k j o p hk hj he => ver_not (l := l) hv hpn (k := k) (j := j) (o := o) (p := p) hk hj he
 rw [← hts] at hQ hver hvno
 rw [← hts, ← hprs] at hGL
 rw [← hprs] at hP4 hver
 rw [← hts, ← hprs]
 refine gom ?_
 refine WL.oo (OW.alloc rfl fun b5 => ?_)
 refine gom ?_
 have hP5 := hP4.mono hg5
 have hQ5 := hQ.mono hg5
 have hl5 := hl.mono hg15
 have htl := hGL.tl
 have hprl := hGL.pl
 refine WC.loop (X := Nat) (fun i => [(0, .slice A l.length cap), (3, .pointer (some ⟨b3, 0, none⟩)), (7, .int .i64 i)]) (fun _ => G5) (fun _ => [pgB b3 CA PA QA (l.flatMap (·.consts)).length cc prs.length pc ts.length qc]) (fun i => l.length - i) (fun i => i ≤ l.length) 0 (Nat.zero_le _) (by exact ⟨rfl, rfl, rfl, trivial⟩) rfl (by exact (by repeat (first | exact List.Sublist.refl _ | exact List.nil_sublist _ | apply List.Sublist.cons))) fun i hi => ?_
 have x2 := wrapS i (by omega)
 by_cases hlt : i < l.length
 rotate_left
 ·have e2 : decide ((i : Int) < (l.length : Int)) = false := decide_eq_false (by omega)
  refine gom ?_
  refine WL.oo (OW.callK rfl (awakeL _ (hE.mono hg15)) rfl fun v' G' H' h hg => ?_)
  obtain ⟨he, hg6, rfl⟩ := h
  cases he
  refine gom ?_
  refine WC.rt ?_
  exact QF.p1 (.inl rfl) rfl (.tmp rfl) (⟨rfl, Gh.le_trans hg15 hg6, rfl⟩)
 have e2 : decide ((i : Int) < (l.length : Int)) = true := decide_eq_true (by omega)
 obtain ⟨o, ho⟩ : ∃ o, l[i]? = some o := ⟨_, List.getElem?_eq_getElem hlt⟩
 have x0 : (0 : Int) ≤ (i : Int) := by omega
 have x1 : (i : Int) < (l.length : Int) := by omega
 obtain ⟨ab, ao, ocs, rfl, hks, hcs⟩ := hl5 i o ho
 obtain ⟨OA, oc, NA, nc, RA, rc, rfl, hO⟩ := hks
 have hopl := (hL.lim o (List.mem_of_getElem? ho)).pl
 refine gom ?_
 refine WC.loop (X := Nat) (fun k => [(0, .slice (some ⟨ab, ao, none⟩) l.length cap), (3, .pointer (some ⟨b3, 0, none⟩)), (7, .int .i64 i), (8, .int .i64 k)]) (fun _ => G5) (fun _ => [pgB b3 CA PA QA (l.flatMap (·.consts)).length cc prs.length pc ts.length qc]) (fun k => o.procs.length - k) (fun k => k ≤ o.procs.length) 0 (Nat.zero_le _) (by exact ⟨rfl, rfl, rfl, rfl, trivial⟩) rfl (List.Sublist.refl _) fun k hk => ?_
 have y2 := wrapS k (by omega)
 by_cases hkl : k < o.procs.length
 rotate_left
 ·have e3 : decide ((k : Int) < (o.procs.length : Int)) = false := decide_eq_false (by omega)
  refine gom ?_
  exact WK.again (i + 1) (by omega) (by omega) (by exact ⟨rfl, rfl, rfl, trivial⟩) rfl (List.Sublist.refl _)
 have e3 : decide ((k : Int) < (o.procs.length : Int)) = true := decide_eq_true (by omega)
 obtain ⟨p, hp⟩ : ∃ p, o.procs[k]? = some p := ⟨_, List.getElem?_eq_getElem hkl⟩
 have z0 : (0 : Int) ≤ (k : Int) := by omega
 have z1 : (k : Int) < (o.procs.length : Int) := by omega
 obtain ⟨pb, po, pcs, rfl, hpk, hpc⟩ := hO.procs k p hp
 obtain ⟨WA', wc, IA, ic, rfl, hW, hI⟩ := hpk
 refine gom ?_
 refine WL.oo (OW.alloc rfl fun b9 => ?_)
 refine gom ?_
 refine WQ.one kr kr (OW.callK rfl (Point_fn G5 QA ts qc hQ5 htl o.path p.name CA PA (l.flatMap (fun o : Ob => o.consts)).length cc prs.length pc) rfl fun v' G' H' h hg => ?_)
 obtain ⟨he, rfl, rfl⟩ := h
 cases he
 cases hx : p.exp with
 | false =>
  rw [hvno i k o p ho hp hx]
  refine gom ?_
  exact WK.again (k + 1) (by omega) (by omega) (by exact ⟨rfl, rfl, rfl, rfl, trivial⟩) rfl (by exact (by repeat (first | exact List.Sublist.refl _ | exact List.nil_sublist _ | apply List.Sublist.cons)))
 | true =>
 obtain ⟨n, q, hpt, hq, hqn⟩ := hver i k o p ho hp hx
 have hnl := (List.getElem?_eq_some_iff.1 hq).1
 obtain ⟨qb, qo, qcs, rfl, hqk, hqc⟩ := hP5 n q hq
 obtain ⟨QP, qpc, QI, qic, rfl, _, _⟩ := hqk
 rw [hqn] at hqc
 have f1 : decide ((n : Int) < 0) = false := decide_eq_false (by omega)
 have f2 : decide ((prs.length : Int) ≤ (n : Int)) = false := decide_eq_false (by omega)
 have f3 : (0 : Int) ≤ (n : Int) := by omega
 have f4 : (n : Int) < (prs.length : Int) := by omega
 rw [hpt]
 refine gom ?_
 rw [bb_refl]
 refine gom ?_
 exact WK.again (k + 1) (by omega) (by omega) (by exact ⟨rfl, rfl, rfl, rfl, trivial⟩) rfl (by exact (by repeat (first | exact List.Sublist.refl _ | exact List.nil_sublist _ | apply List.Sublist.cons)))
end
section
open Go.RowKit Go.ChangeShapes Go.WideShapes Go.MapKept
theorem bulk_app {H : Type} (a b : List (DataW H)) : Rows.uptoBulkAll (a ++ b) = Rows.uptoBulkAll a + Rows.uptoBulkAll b := by
 induction a with
 | nil => simp [Rows.uptoBulkAll]
 | cons x r ih => simp only [List.cons_append, Rows.uptoBulkAll]; omega
theorem bulk_take {H : Type} {l : List (DataW H)} {i : Nat} {d : DataW H} (h : l[i]? = some d) : Rows.uptoBulkAll (l.take (i + 1)) = Rows.uptoBulkAll (l.take i) + Rows.uptoBulk d := by
 rw [take_snoc' h, bulk_app]; simp [Rows.uptoBulkAll]
theorem bulk_take_le {H : Type} (l : List (DataW H)) (i : Nat) : Rows.uptoBulkAll (l.take i) ≤ Rows.uptoBulkAll l := by
 have h := bulk_app (l.take i) (l.drop i)
 rw [List.take_append_drop] at h
 omega
theorem sum_mem {α : Type} {m : α → Nat} {l : List α} {x : α} (h : x ∈ l) : m x ≤ (l.map m).sum := by
 induction l with
 | nil => cases h
 | cons y r ih =>
  simp only [List.map_cons, List.sum_cons]
  rcases List.mem_cons.1 h with rfl | h
  ·omega
  ·have := ih h; omega
theorem sum_len {α : Type} {m : α → Nat} (l : List α) (h : ∀ x ∈ l, 1 ≤ m x) : l.length ≤ (l.map m).sum := by
 induction l with
 | nil => simp
 | cons y r ih =>
  have h1 := h y List.mem_cons_self
  have h2 := ih fun x hx => h x (List.mem_cons_of_mem _ hx)
  simp only [List.map_cons, List.sum_cons, List.length_cons]
  omega
theorem sum_le {α : Type} {f m : α → Nat} (l : List α) (h : ∀ x ∈ l, f x ≤ m x) : (l.map f).sum ≤ (l.map m).sum := by
 induction l with
 | nil => simp
 | cons y r ih =>
  have h1 := h y List.mem_cons_self
  have h2 := ih fun x hx => h x (List.mem_cons_of_mem _ hx)
  simp only [List.map_cons, List.sum_cons]
  omega
section
variable {H : Type} (enc : TypeId × Value → H) (P : Program) (w : World)
def OpensW (t : TypeId) {α : Type} (k : Kd α) (m : α → Nat) (B : α → Prop) : Prop :=
 ∀ fuel cs d ps, DataW.trod enc P w 0 (fun _ => true) true fuel t cs = some (d, ps) → Rows.uptoBulk d ≤ 1048576 → ∃ a, k.K (Gw w) a cs ∧ m a ≤ Rows.uptoBulk d ∧ B a
theorem OpensW.int {t : TypeId} {i : IntKind} (ht : P.underlying t = some (.int i)) : OpensW enc P w t (Kd.int i) (fun _ => 1) (fun n => (Lit.int i n).wf = true) :=
 fun fuel cs d ps e _ => let ⟨n, h1, _, h3⟩ := DataW.trod_int ht e; ⟨n, h1, bulk_one d, h3⟩
theorem OpensW.bool {t : TypeId} (ht : P.underlying t = some .bool) : OpensW enc P w t Kd.bool (fun _ => 1) (fun _ => True) :=
 fun fuel cs d ps e _ => let ⟨n, h1, _⟩ := DataW.trod_bool ht e; ⟨n, h1, bulk_one d, trivial⟩
theorem OpensW.str {t : TypeId} (ht : P.underlying t = some .string) : OpensW enc P w t Kd.str (fun s => s.size + 1) (fun _ => True) :=
 fun fuel cs d ps e hw => by
  obtain ⟨s, h1, h2, h3⟩ := DataW.trod_string ht e
  obtain ⟨rfl, rfl⟩ := Prod.mk.inj h2
  refine ⟨s, h1, ?_, trivial⟩
  simp only [Rows.uptoBulk, Array.length_toList]
  exact Nat.le_refl _
theorem OpensW.slice {t e : TypeId} {α : Type} {k : Kd α} {m : α → Nat} {B : α → Prop} (ht : P.underlying t = some (.slice e)) (hc : P.cellsOf e = k.n) (h0 : 0 < k.n) (h : OpensW enc P w e k m B) :
  OpensW enc P w t (Kd.slice k) (fun xs => (xs.map m).sum + 1) (fun xs => ∀ x ∈ xs, B x) := by
 intro fuel cs d ps hd hw
 rcases DataW.trod_slice ht hd with ⟨rfl, _⟩ | ⟨a, len, cap, elems, rest, n, _, rfl, hx, _, hl, _, hlen, hel, _, _⟩
 ·exact ⟨[], ⟨none, 0, rfl, Nat.le_refl _, Sl.nil _ _ _⟩, by simpa using bulk_one d, by simp⟩
 ·obtain ⟨rfl, rfl⟩ := Prod.mk.inj hx
  simp only [Rows.uptoBulk] at hw
  have hwe : ∀ (j : Nat) (d' : DataW H), (elems.map (·.1))[j]? = some d' → Rows.uptoBulk d' ≤ 1048576 := fun j d' hj => by
   have := bulk_part (List.mem_of_getElem? hj); omega
  have one : ∀ i, i < len → ∃ y cs' d', w.cells? 0 (a.add (i * P.cellsOf e)) (P.cellsOf e) = some cs' ∧ k.K (Gw w) y cs' ∧ (elems.map (·.1))[i]? = some d' ∧ m y ≤ Rows.uptoBulk d' ∧ B y := by
   intro i hi
   have hi' := hel i hi
   have he : i < elems.length := by omega
   cases hcs : w.cells? 0 (a.add (i * P.cellsOf e)) (P.cellsOf e) with
   | none =>
    rw [hcs, List.getElem?_eq_getElem he] at hi'
    cases hi'
   | some cs' =>
    rw [hcs, List.getElem?_eq_getElem he] at hi'
    simp only [Option.bind_some] at hi'
    have hd' : (elems.map (·.1))[i]? = some (elems[i]).1 := by rw [List.getElem?_map, List.getElem?_eq_getElem he]; rfl
    obtain ⟨y, h1, h2, h3⟩ := h n cs' _ _ hi' (hwe i _ hd')
    exact ⟨y, cs', _, rfl, h1, hd', h2, h3⟩
  have all : ∀ q, q ≤ len → ∃ xs : List α, xs.length = q ∧ (∀ x ∈ xs, B x) ∧ (xs.map m).sum ≤ Rows.uptoBulkAll ((elems.map (·.1)).take q) ∧ ∀ i x, xs[i]? = some x → ∃ cs', w.cells? 0 (a.add (i * P.cellsOf e)) (P.cellsOf e) = some cs' ∧ k.K (Gw w) x cs' := by
   intro q
   induction q with
   | zero => exact fun _ => ⟨[], rfl, by simp, by simp, by simp⟩
   | succ q ih =>
    intro hm
    obtain ⟨xs, e1, e2, e4, e3⟩ := ih (by omega)
    obtain ⟨y, cs', d', h1, h2, h3, h4, h5⟩ := one q (by omega)
    refine ⟨xs ++ [y], by simp [e1], fun x hx => ?_, ?_, fun i x hx => ?_⟩
    ·rcases List.mem_append.1 hx with hx | hx
     ·exact e2 x hx
     ·simp at hx; subst hx; exact h5
    ·rw [bulk_take h3, List.map_append, List.sum_append]
     simp only [List.map_cons, List.map_nil, List.sum_cons, List.sum_nil]
     omega
    ·rcases Nat.lt_or_ge i xs.length with hi | hi
     ·rw [List.getElem?_append_left hi] at hx; exact e3 i x hx
     ·have : i = q := by have := (List.getElem?_eq_some_iff.1 hx).1; simp at this; omega
      subst this
      rw [List.getElem?_append_right hi] at hx
      simp [e1] at hx
      subst hx
      exact ⟨cs', h1, h2⟩
  obtain ⟨xs, e1, e2, e4, e3⟩ := all len (Nat.le_refl _)
  have h5 := bulk_take_le (elems.map (·.1)) len
  refine ⟨xs, ⟨some a, cap, by rw [e1], by omega, fun i x hx => ?_⟩, by simp only [Rows.uptoBulk]; omega, e2⟩
  have hi := (List.getElem?_eq_some_iff.1 hx).1
  obtain ⟨cs0, h10, h20⟩ := e3 0 _ (List.getElem?_eq_getElem (by omega : 0 < xs.length))
  obtain ⟨h30, h40⟩ := cells_get w h10
  have hsp := cell_plain w (h40 0 _ (List.getElem?_eq_getElem (by rw [h30, hc]; exact h0)))
  obtain ⟨cs', h1, h2⟩ := e3 i x hx
  obtain ⟨h3, h4⟩ := cells_get w h1
  obtain ⟨ab, ao, asp⟩ := a
  obtain rfl : asp = none := by simpa [Addr.add] using hsp
  refine ⟨ab, ao, cs', rfl, h2, fun j v e => ?_⟩
  have h5 := h4 j v e
  rw [hc] at h5
  have e5 : ((⟨ab, ao, none⟩ : Addr).add (i * k.n)).add j = ⟨ab, ao + i * k.n + j, none⟩ := by
   unfold Addr.add
   split <;> split <;> simp_all
  rw [e5] at h5
  exact h5
theorem field_openW {t : TypeId} {fs : Array Field} {fuel : Nat} {cs : List Value} {d : DataW H} {ps : List MemPlace} (ht : P.underlying t = some (.struct fs)) (hd : DataW.trod enc P w 0 (fun _ => true) true fuel t cs = some (d, ps)) (hw : Rows.uptoBulk d ≤ 1048576) :
  cs.length = P.cellsOf t ∧ ∃ ds : List (DataW H), ds.length = fs.size ∧ Rows.uptoBulk d = Rows.uptoBulkAll ds + 1 ∧ ∀ (i : Nat) (f : Field), fs[i]? = some f → ∀ {t' o n : Nat}, f.type = t' → f.offset = o → P.cellsOf t' = n → ∀ {α : Type} {k : Kd α} {m : α → Nat} {B : α → Prop}, OpensW enc P w t' k m B → ∃ a, k.K (Gw w) a ((cs.drop o).take n) ∧ (∀ x, ds[i]? = some x → m a ≤ Rows.uptoBulk x) ∧ B a := by
 obtain ⟨xs, n, _, hx, hl, hn, hf⟩ := DataW.trod_struct ht hd
 obtain ⟨rfl, rfl⟩ := Prod.mk.inj hx
 refine ⟨hl, xs.map (·.1), by rw [List.length_map, hn], by simp only [Rows.uptoBulk], fun i f hi t' o n' e1 e2 e3 α k m B hO => ?_⟩
 subst e1 e2 e3
 have h1 := hf i f hi
 have hilt : i < xs.length := by rw [hn]; exact (Array.getElem?_eq_some_iff.1 hi).1
 rw [List.getElem?_eq_getElem hilt] at h1
 have hd' : (xs.map (·.1))[i]? = some (xs[i]).1 := by rw [List.getElem?_map, List.getElem?_eq_getElem hilt]; rfl
 simp only [Rows.uptoBulk] at hw
 obtain ⟨y, h2, h3, h4⟩ := hO n _ _ _ h1 (Nat.le_trans (bulk_part (List.mem_of_getElem? hd')) (by omega))
 exact ⟨y, h2, fun x hx => by rw [hd'] at hx; cases hx; exact h3, h4⟩
theorem open_sliceW {t e : TypeId} {α : Type} {k : Kd α} {m : α → Nat} {B : α → Prop} (ht : P.underlying t = some (.slice e)) (hc : P.cellsOf e = k.n) (h0 : 0 < k.n) (h : OpensW enc P w e k m B)
  {v : Value} {d : DataW H} {ps : List MemPlace} {base : Nat} (hval : Value.okWide P w .any base t v) (hd : DataW.Trod enc P w 0 (fun _ => true) true t v d ps) (hw : Rows.uptoBulk d ≤ 1048576) :
  ∃ (A : Option Addr) (cap : Nat) (xs : List α), v = .slice A xs.length cap ∧ xs.length ≤ cap ∧ Sl k (Gw w) A xs ∧ (xs.map m).sum ≤ 1048576 ∧ ∀ x ∈ xs, B x := by
 obtain ⟨A, len, cap, rfl⟩ := okWide_slice ht hval
 obtain ⟨fuel, hd⟩ := hd
 obtain ⟨xs, ⟨A', cap', h1, hle, h2⟩, h3, h4⟩ := OpensW.slice enc P w ht hc h0 h fuel _ d ps hd hw
 have e1 : [Value.slice A len cap] = [Value.slice A' xs.length cap'] := h1
 cases e1
 have h5 : (xs.map m).sum + 1 ≤ Rows.uptoBulk d := h3
 exact ⟨_, _, xs, rfl, hle, h2, by omega, h4⟩
end
def mV (v : V) : Nat := v.s.size + 1
def mNd (n : Nd) : Nat := n.path.size + n.name.size + n.params.length + 1
def mPr (p : Pr) : Nat := p.name.size + p.params.length + p.code.length + 1
def mOb (o : Ob) : Nat := o.path.size + (o.consts.map mV).sum + (o.needs.map mNd).sum + (o.procs.map mPr).sum + 1
def i64 (z : Int) : Prop := (Lit.int .i64 z).wf = true
structure OInt (o : Ob) : Prop where
 cs : ∀ v ∈ o.consts, i64 v.t ∧ i64 v.i
 nd : ∀ n ∈ o.needs, i64 n.result ∧ ∀ t ∈ n.params, i64 t
 pr : ∀ p ∈ o.procs, i64 p.locals ∧ i64 p.result ∧ (∀ t ∈ p.params, i64 t) ∧ ∀ i ∈ p.code, i64 i.1 ∧ i64 i.2
theorem olim_of {o : Ob} (h : mOb o ≤ 1048576) : OLim o := by
 have h' := h
 unfold mOb at h'
 have a1 := sum_len (m := mV) o.consts fun x _ => by unfold mV; omega
 have a2 := sum_len (m := mNd) o.needs fun x _ => by unfold mNd; omega
 have a3 := sum_len (m := mPr) o.procs fun x _ => by unfold mPr; omega
 refine ⟨by omega, by omega, by omega, by omega, fun q hq => ?_, fun q hq => ?_⟩
 ·have : q.path.size + q.name.size + q.params.length + 1 ≤ (o.needs.map mNd).sum := sum_mem (m := mNd) hq
  omega
 ·have : q.name.size + q.params.length + q.code.length + 1 ≤ (o.procs.map mPr).sum := sum_mem (m := mPr) hq
  omega
theorem llim_of {l : List Ob} (h : (l.map mOb).sum ≤ 1048576) : LLim l := by
 have hm : ∀ o ∈ l, mOb o ≤ 1048576 := fun o ho => Nat.le_trans (sum_mem (m := mOb) ho) h
 have a0 := sum_len (m := mOb) l fun x _ => by unfold mOb; omega
 have b1 : sumC l = (l.map fun o => o.consts.length).sum := rfl
 have a1 : (l.map fun o => o.consts.length).sum ≤ (l.map mOb).sum := sum_le l fun o _ => by
  have a1 := sum_len (m := mV) o.consts fun x _ => by unfold mV; omega
  unfold mOb; omega
 have a2 : (l.map (·.needs.length)).sum ≤ (l.map mOb).sum := sum_le l fun o _ => by
  have a2 := sum_len (m := mNd) o.needs fun x _ => by unfold mNd; omega
  unfold mOb; omega
 have b3 : sumP l = (l.map fun o => o.procs.length).sum := rfl
 have a3 : (l.map fun o => o.procs.length).sum ≤ (l.map mOb).sum := sum_le l fun o _ => by
  have a3 := sum_len (m := mPr) o.procs fun x _ => by unfold mPr; omega
  unfold mOb; omega
 refine ⟨by omega, by omega, by omega, by omega, fun o ho => olim_of (hm o ho), fun o ho p hp => ?_, fun o ho n hn => ?_⟩
 ·have h1 := hm o ho
  have h2 : p.name.size + p.params.length + p.code.length + 1 ≤ (o.procs.map mPr).sum := sum_mem (m := mPr) hp
  unfold mOb at h1
  omega
 ·have h1 := hm o ho
  have h2 : n.path.size + n.name.size + n.params.length + 1 ≤ (o.needs.map mNd).sum := sum_mem (m := mNd) hn
  unfold mOb at h1
  omega
section
attribute [local irreducible] Tryz.prog
variable {H : Type} (enc : TypeId × Value → H) (w : World)
theorem sum_ones {α : Type} (l : List α) : (l.map fun _ => 1).sum = l.length := by
 induction l with
 | nil => rfl
 | cons x r ih => simp only [List.map_cons, List.sum_cons, List.length_cons, ih]; omega
theorem OpensW.value : OpensW enc Tryz.prog w 52 Kd.val mV (fun v => i64 v.t ∧ i64 v.i) := by
 intro fuel cs d ps hd hw
 obtain ⟨hl, ds, hds, hb, hf⟩ := field_openW enc Tryz.prog w Tryz.underlying52 hd hw
 obtain ⟨c0, c1, c2, c3, rfl⟩ := elist4 (hl.trans ecellsV)
 obtain ⟨d0, d1, d2, d3, rfl⟩ := elist4 hds
 obtain ⟨t, h0, _, b0⟩ := hf 0 _ rfl rfl rfl ecells_typ (OpensW.int enc Tryz.prog w Tryz.underlying44)
 obtain ⟨i, h1, _, b1⟩ := hf 1 _ rfl rfl rfl ecells_i64 (OpensW.int enc Tryz.prog w Tryz.underlying2)
 obtain ⟨b, h2, _⟩ := hf 2 _ rfl rfl rfl ecells_bool (OpensW.bool enc Tryz.prog w Tryz.underlying4)
 obtain ⟨s, h3, m3, _⟩ := hf 3 _ rfl rfl rfl ecells_str (OpensW.str enc Tryz.prog w Tryz.underlying9)
 have m3 := m3 _ rfl
 have e0 : [c0] = [Value.int .i64 t] := h0
 have e1 : [c1] = [Value.int .i64 i] := h1
 have e2 : [c2] = [Value.bool b] := h2
 have e3 : [c3] = [Value.string s] := h3
 cases e0; cases e1; cases e2; cases e3
 simp only [Rows.uptoBulkAll] at hb
 exact ⟨⟨t, i, b, s⟩, rfl, by unfold mV; dsimp only; omega, b0, b1⟩
theorem OpensW.instr : OpensW enc Tryz.prog w 50 Kd.ins (fun _ => 1) (fun i => i64 i.1 ∧ i64 i.2) := by
 intro fuel cs d ps hd hw
 obtain ⟨hl, ds, hds, hb, hf⟩ := field_openW enc Tryz.prog w Tryz.underlying50 hd hw
 obtain ⟨c0, c1, rfl⟩ := elist2 (hl.trans ecellsI)
 obtain ⟨c, h0, _, b0⟩ := hf 0 _ rfl rfl rfl ecells_cod (OpensW.int enc Tryz.prog w Tryz.underlying48)
 obtain ⟨n, h1, _, b1⟩ := hf 1 _ rfl rfl rfl ecells_int (OpensW.int enc Tryz.prog w Tryz.underlying3)
 have e0 : [c0] = [Value.int .i64 c] := h0
 have e1 : [c1] = [Value.int .i64 n] := h1
 cases e0; cases e1
 exact ⟨(c, n), rfl, bulk_one d, b0, b1⟩
theorem OpensW.types : OpensW enc Tryz.prog w 43 (Kd.slice (Kd.int .i64)) (fun xs => (xs.map fun _ => 1).sum + 1) (fun xs => ∀ t ∈ xs, i64 t) :=
 OpensW.slice enc Tryz.prog w Tryz.underlying43 (k := Kd.int .i64) ecells_typ (by decide) (OpensW.int enc Tryz.prog w Tryz.underlying44)
theorem OpensW.proc : OpensW enc Tryz.prog w 47 Kd.prc mPr (fun p => i64 p.locals ∧ i64 p.result ∧ (∀ t ∈ p.params, i64 t) ∧ ∀ i ∈ p.code, i64 i.1 ∧ i64 i.2) := by
 intro fuel cs d ps hd hw
 obtain ⟨hl, ds, hds, hb, hf⟩ := field_openW enc Tryz.prog w Tryz.underlying47 hd hw
 obtain ⟨c0, c1, c2, c3, c4, c5, rfl⟩ := elist6 (hl.trans ecellsP)
 obtain ⟨d0, d1, d2, d3, d4, d5, rfl⟩ := elist6 hds
 obtain ⟨nm, h0, m0, _⟩ := hf 0 _ rfl rfl rfl ecells_str (OpensW.str enc Tryz.prog w Tryz.underlying9)
 obtain ⟨ex, h1, _⟩ := hf 1 _ rfl rfl rfl ecells_bool (OpensW.bool enc Tryz.prog w Tryz.underlying4)
 obtain ⟨pr, h2, m2, bp⟩ := hf 2 _ rfl rfl rfl ecells_lt (OpensW.types enc w)
 obtain ⟨lo, h3, _, bl⟩ := hf 3 _ rfl rfl rfl ecells_int (OpensW.int enc Tryz.prog w Tryz.underlying3)
 obtain ⟨re, h4, _, br⟩ := hf 4 _ rfl rfl rfl ecells_typ (OpensW.int enc Tryz.prog w Tryz.underlying44)
 obtain ⟨co, h5, m5, bc⟩ := hf 5 _ rfl rfl rfl ecells_li (OpensW.slice enc Tryz.prog w Tryz.underlying45 (k := Kd.ins) ecellsI (by decide) (OpensW.instr enc w))
 have m0 := m0 _ rfl
 have m2 := m2 _ rfl
 have m5 := m5 _ rfl
 rw [sum_ones] at m2 m5
 obtain ⟨PA, pc, h2', _, hPA⟩ := h2
 obtain ⟨CA, cc, h5', _, hCA⟩ := h5
 have e0 : [c0] = [Value.string nm] := h0
 have e1 : [c1] = [Value.bool ex] := h1
 have e2 : [c2] = [Value.slice PA pr.length pc] := h2'
 have e3 : [c3] = [Value.int .i64 lo] := h3
 have e4 : [c4] = [Value.int .i64 re] := h4
 have e5 : [c5] = [Value.slice CA co.length cc] := h5'
 cases e0; cases e1; cases e2; cases e3; cases e4; cases e5
 simp only [Rows.uptoBulkAll] at hb
 exact ⟨⟨nm, ex, pr, lo, re, co⟩, ⟨PA, pc, CA, cc, rfl, hPA, hCA⟩, by unfold mPr; dsimp only; omega, bl, br, bp, bc⟩
theorem OpensW.need : OpensW enc Tryz.prog w 56 Kd.ned mNd (fun n => i64 n.result ∧ ∀ t ∈ n.params, i64 t) := by
 intro fuel cs d ps hd hw
 obtain ⟨hl, ds, hds, hb, hf⟩ := field_openW enc Tryz.prog w Tryz.underlying56 hd hw
 obtain ⟨c0, c1, c2, c3, rfl⟩ := elist4 (hl.trans ecellsN)
 obtain ⟨d0, d1, d2, d3, rfl⟩ := elist4 hds
 obtain ⟨pt, h0, m0, _⟩ := hf 0 _ rfl rfl rfl ecells_str (OpensW.str enc Tryz.prog w Tryz.underlying9)
 obtain ⟨nm, h1, m1, _⟩ := hf 1 _ rfl rfl rfl ecells_str (OpensW.str enc Tryz.prog w Tryz.underlying9)
 obtain ⟨pr, h2, m2, bp⟩ := hf 2 _ rfl rfl rfl ecells_lt (OpensW.types enc w)
 obtain ⟨re, h3, _, br⟩ := hf 3 _ rfl rfl rfl ecells_typ (OpensW.int enc Tryz.prog w Tryz.underlying44)
 have m0 := m0 _ rfl
 have m1 := m1 _ rfl
 have m2 := m2 _ rfl
 rw [sum_ones] at m2
 obtain ⟨PA, pc, h2', _, hPA⟩ := h2
 have e0 : [c0] = [Value.string pt] := h0
 have e1 : [c1] = [Value.string nm] := h1
 have e2 : [c2] = [Value.slice PA pr.length pc] := h2'
 have e3 : [c3] = [Value.int .i64 re] := h3
 cases e0; cases e1; cases e2; cases e3
 simp only [Rows.uptoBulkAll] at hb
 exact ⟨⟨pt, nm, pr, re⟩, ⟨PA, pc, rfl, hPA⟩, by unfold mNd; dsimp only; omega, br, bp⟩
theorem OpensW.object : OpensW enc Tryz.prog w 38 Kd.ob mOb OInt := by
 intro fuel cs d ps hd hw
 obtain ⟨hl, ds, hds, hb, hf⟩ := field_openW enc Tryz.prog w Tryz.underlying38 hd hw
 obtain ⟨c0, c1, c2, c3, rfl⟩ := elist4 (hl.trans ecellsO)
 obtain ⟨d0, d1, d2, d3, rfl⟩ := elist4 hds
 obtain ⟨pt, h0, m0, _⟩ := hf 0 _ rfl rfl rfl ecells_str (OpensW.str enc Tryz.prog w Tryz.underlying9)
 obtain ⟨co, h1, m1, bc⟩ := hf 1 _ rfl rfl rfl ecells_lv (OpensW.slice enc Tryz.prog w Tryz.underlying23 (k := Kd.val) ecellsV (by decide) (OpensW.value enc w))
 obtain ⟨ne, h2, m2, bn⟩ := hf 2 _ rfl rfl rfl ecells_ln (OpensW.slice enc Tryz.prog w Tryz.underlying31 (k := Kd.ned) ecellsN (by decide) (OpensW.need enc w))
 obtain ⟨pr, h3, m3, bp⟩ := hf 3 _ rfl rfl rfl ecells_lp (OpensW.slice enc Tryz.prog w Tryz.underlying24 (k := Kd.prc) ecellsP (by decide) (OpensW.proc enc w))
 have m0 := m0 _ rfl
 have m1 := m1 _ rfl
 have m2 := m2 _ rfl
 have m3 := m3 _ rfl
 obtain ⟨CA, cc, h1', _, hCA⟩ := h1
 obtain ⟨NA, nc, h2', _, hNA⟩ := h2
 obtain ⟨PA, pc, h3', _, hPA⟩ := h3
 have e0 : [c0] = [Value.string pt] := h0
 have e1 : [c1] = [Value.slice CA co.length cc] := h1'
 have e2 : [c2] = [Value.slice NA ne.length nc] := h2'
 have e3 : [c3] = [Value.slice PA pr.length pc] := h3'
 cases e0; cases e1; cases e2; cases e3
 simp only [Rows.uptoBulkAll] at hb
 exact ⟨⟨pt, co, ne, pr⟩, ⟨CA, cc, NA, nc, PA, pc, rfl, hCA, hNA, hPA⟩, by unfold mOb; dsimp only; omega, bc, bn, bp⟩
theorem open_objsU {v : Value} {d : DataW H} {ps : List MemPlace} {base : Nat} (hval : Value.okWide Tryz.prog w .any base 22 v) (hd : DataW.Trod enc Tryz.prog w 0 (fun _ => true) true 22 v d ps) (hw : Rows.uptoBulk d ≤ 1048576) :
  ∃ (l : List Ob) (A : Option Addr) (c : Nat), v = .slice A l.length c ∧ l.length ≤ c ∧ Sl Kd.ob (Gw w) A l ∧ LLim l ∧ ∀ o ∈ l, OInt o := by
 obtain ⟨A, c, l, h1, h2, h3, h4, h5⟩ := open_sliceW enc Tryz.prog w Tryz.underlying22 (k := Kd.ob) ecellsO (by decide) (OpensW.object enc w) hval hd hw
 exact ⟨l, A, c, h1, h2, h3, llim_of h4, h5⟩
end
end
end Go.Proofs.YtcnlkfocbbkdhaaGreatDoor.Gb
