/- Slices: cut, made, appended to; what is ours becomes what stays. More rules: lists that are made and copied into, memory that comes to stay, calls that are put off, what is behind an interface. Calls that are put off, what recovers, function values, interfaces. Taking things of ours out of a list, in any order. Single steps of a walk, each as a rule with a default proof. -/
import Derived.Test.YtcnlkfocbbkdhaaGreatDoorOa
import Derived.Laws.MakeOwn
import Derived.Recover
import Derived.WideLaws
import Derived.Laws.CopyRow
import Derived.Laws.Pointers
set_option linter.unusedVariables false
set_option linter.unusedSimpArgs false
set_option linter.unusedSectionVars false
namespace Go.Proofs.YtcnlkfocbbkdhaaGreatDoor.Gb
open Go
section
variable {P : Program} {Q : Exit → Act → World → Prop} {cx : Cx} {L : List (Nat × Value)} {G : Gh} {H : List Own} {K : List (Nat × Value) → Gh → List Own → Prop}
  {d : Option Tmp} {ty : TypeId} {pos : String} {af : Array Edge} {gu : Option (Nat × Bool)}
def Rds (G : Gh) (H : List Own) (A : Option Addr) (cs : List Value) : Prop := cs = [] ∨ ∃ b o, A = some ⟨b, o, none⟩ ∧ ∀ w, Sat G H w → ∀ j v, cs[j]? = some v → w.cell? ⟨b, o + j, none⟩ = some v
theorem Rds.nil (G : Gh) (H : List Own) (A : Option Addr) : Rds G H A [] := .inl rfl
theorem Rds.cs {b o : Nat} {cs : List Value} (h : Cs G b o cs) : Rds G H (some ⟨b, o, none⟩) cs := .inr ⟨b, o, rfl, fun w s j v e => s.agr _ _ _ (h j v e)⟩
theorem Rds.blk {b o j : Nat} {c : Array Value} {t : TypeId} {fr : Nat × Nat} {cs : List Value} (hj : At H j (.blk b (.cells c t fr))) (hc : ∀ j v, cs[j]? = some v → c[o + j]? = some v) : Rds G H (some ⟨b, o, none⟩) cs :=
  .inr ⟨b, o, rfl, fun w s j v e => by rw [Own.cell (s.hold _ (List.mem_of_getElem? hj.get))]; exact hc j v e⟩
theorem Rds.blk0 {b j : Nat} {c : Array Value} {t : TypeId} {fr : Nat × Nat} {cs : List Value} (hj : At H j (.blk b (.cells c t fr))) (hc : c.toList = cs) : Rds G H (some ⟨b, 0, none⟩) cs :=
  Rds.blk (o := 0) hj fun j v e => by rw [← hc] at e; simpa using e
theorem Rds.mono {G' : Gh} {A : Option Addr} {cs : List Value} (h : Rds G H A cs) (hs : ∀ w, Sat G' H w → Sat G H w) : Rds G' H A cs := by
  rcases h with h | ⟨b, o, e, h⟩
  · exact .inl h
  · exact .inr ⟨b, o, e, fun w s => h w (hs w s)⟩
theorem Sat.le {G' : Gh} {w : World} (h : Sat G' H w) (hg : G.le G') : Sat G H w :=
  ⟨fun b o v e => h.agr b o v (hg b o v e), h.hold, h.apart, fun x hx b o hc => by
    cases hgb : G b o with
    | none => rfl
    | some v => have := hg b o v hgb; rw [h.ghost x hx b o hc] at this; cases this⟩
theorem Rds.le {G' : Gh} {A : Option Addr} {cs : List Value} (h : Rds G H A cs) (hg : G.le G') : Rds G' H A cs := h.mono fun _ s => s.le hg
theorem Rds.cons {A : Option Addr} {cs : List Value} (h : Rds G H A cs) (x : Own) : Rds G (x :: H) A cs := by
  rcases h with h | ⟨b, o, e, h⟩
  · exact .inl h
  · exact .inr ⟨b, o, e, fun w s => h w (s.sub (List.sublist_cons_self x H))⟩
theorem Sl.rds {α : Type} {k : Kd α} (hn : 0 < k.n) {A : Option Addr} {xs : List α} (h : Sl k G A xs) : ∃ cs, Rds G H A cs ∧ cs.length = xs.length * k.n ∧ cs.all (·.oneCell') = true ∧ ∀ i x, xs[i]? = some x → k.K G x ((cs.drop (i * k.n)).take k.n) := by
  have key : ∀ (xs : List α) (o0 : Nat) (b : Nat), (∀ i x, xs[i]? = some x → ∃ cs, k.K G x cs ∧ Cs G b (o0 + i * k.n) cs) →
      ∃ cs, Cs G b o0 cs ∧ cs.length = xs.length * k.n ∧ cs.all (·.oneCell') = true ∧ ∀ i x, xs[i]? = some x → k.K G x ((cs.drop (i * k.n)).take k.n) := by
    intro xs
    induction xs with
    | nil => intro o0 b _; exact ⟨[], fun j v e => by simp at e, by simp, rfl, fun i x e => by simp at e⟩
    | cons x xs ih =>
      intro o0 b h
      obtain ⟨c0, hk, hc⟩ := h 0 x rfl
      obtain ⟨cs, h1, h2, h3, h4⟩ := ih (o0 + k.n) b fun i y e => by
        obtain ⟨c, hk, hc⟩ := h (i + 1) y (by simpa using e)
        refine ⟨c, hk, ?_⟩
        rw [show o0 + k.n + i * k.n = o0 + (i + 1) * k.n by rw [Nat.add_mul]; omega]
        exact hc
      have hl := k.len hk
      refine ⟨c0 ++ cs, fun j v e => ?_, by rw [List.length_append, hl, h2, List.length_cons, Nat.add_mul]; omega, by rw [List.all_append, k.one hk, h3]; rfl, fun i y e => ?_⟩
      · rcases Nat.lt_or_ge j k.n with hj | hj
        · rw [List.getElem?_append_left (by omega)] at e
          have := hc j v e
          simpa using this
        · rw [List.getElem?_append_right (by omega), hl] at e
          have := h1 (j - k.n) v e
          rw [show o0 + k.n + (j - k.n) = o0 + j by omega] at this
          exact this
      · cases i with
        | zero =>
          simp only [List.getElem?_cons_zero, Option.some.injEq] at e
          subst e
          simp only [Nat.zero_mul, List.drop_zero]
          rw [← hl, List.take_left]
          exact hk
        | succ i =>
          have := h4 i y (by simpa using e)
          rw [List.drop_append, List.drop_eq_nil_of_le (by rw [hl, Nat.add_mul]; omega), List.nil_append, hl, show (i + 1) * k.n - k.n = i * k.n by rw [Nat.add_mul]; omega]
          exact this
  cases hxs : xs with
  | nil => exact ⟨[], .inl rfl, by simp, rfl, fun i x e => by simp at e⟩
  | cons x r =>
    rw [← hxs]
    obtain ⟨b, o, c0, hA, _, _⟩ := h 0 x (by rw [hxs]; rfl)
    obtain ⟨cs, h1, h2, h3, h4⟩ := key xs o b fun i y e => by
      obtain ⟨b', o', c, hA', hk, hc⟩ := h i y e
      rw [hA] at hA'
      cases hA'
      exact ⟨c, hk, hc⟩
    exact ⟨cs, hA ▸ Rds.cs h1, h2, h3, h4⟩
def Vec (T sz : Nat) (A : Option Addr) (n cap : Nat) (cs : List Value) (x : Own) : Prop :=
  cs.length = n * sz ∧ ((A = none ∧ n = 0 ∧ cap = 0 ∧ x = .spare 0 0 0) ∨ ∃ b c, A = some ⟨b, 0, none⟩ ∧ x = .blk b (.cells c T (0, 0)) ∧ n ≤ cap ∧ c.size = cap * sz ∧ c.toList.take (n * sz) = cs)
theorem Vec.le {T sz : Nat} {A : Option Addr} {n cap : Nat} {cs : List Value} {x : Own} (h : Vec T sz A n cap cs x) : n ≤ cap := by
  rcases h.2 with ⟨_, h1, h2, _⟩ | ⟨b, c, _, _, h, _⟩
  · omega
  · exact h
theorem Vec.rds {T sz : Nat} {A : Option Addr} {n cap : Nat} {cs : List Value} {x : Own} {j : Nat} (h : Vec T sz A n cap cs x) (hj : At H j x) : Rds G H A cs := by
  obtain ⟨hl, ⟨h1, h2, h3, h4⟩ | ⟨b, c, rfl, rfl, h1, h2, rfl⟩⟩ := h
  · subst h2; exact .inl (List.eq_nil_of_length_eq_zero (by simpa using hl))
  · refine Rds.blk (o := 0) hj fun j v e => ?_
    rw [List.getElem?_take] at e
    split at e
    · simpa using e
    · cases e
def evPl (L : List (Nat × Value)) : List (Nat × Operand) → Option (List (Nat × Value))
  | [] => some []
  | p :: r => match ev L p.2, evPl L r with
    | some v, some vs => some ((p.1, v) :: vs)
    | _, _ => none
def evP (L : List (Nat × Value)) (ps : Array (Nat × Operand)) : Option (List (Nat × Value)) := evPl L ps.toList
theorem Sk.evP {a : Act} (h : Sk L a) {ps : Array (Nat × Operand)} {vs : List (Nat × Value)} (hp : evP L ps = some vs) : (ps.map fun (i, x) => (i, a.eval x)).toList = vs := by
  have key : ∀ (l : List (Nat × Operand)) (vs : List (Nat × Value)), evPl L l = some vs → l.map (fun p => (p.1, a.eval p.2)) = vs := by
    intro l
    induction l with
    | nil => intro vs h; simp only [evPl, Option.some.injEq] at h; subst h; rfl
    | cons p l ih =>
      intro vs hh
      simp only [evPl] at hh
      cases hx : ev L p.2 with
      | none => simp [hx] at hh
      | some v =>
        cases hl : evPl L l with
        | none => simp [hx, hl] at hh
        | some us =>
          simp only [hx, hl, Option.some.injEq] at hh
          subst hh
          simp [h.eval hx, ih us hl]
  simpa using key ps.toList vs hp
def fillS (pl : Nat → Option (Nat × Nat)) : List Value → List (Nat × Value) → Option (List Value)
  | cs, [] => some cs
  | cs, (i, v) :: r => match pl i with
    | none => none
    | some (off, size) => bif Nat.beq v.cells.toList.length size && Nat.ble (off + v.cells.toList.length) cs.length then fillS pl (cs.take off ++ v.cells.toList ++ cs.drop (off + v.cells.toList.length)) r else none
theorem foldl_place : ∀ (vs : List Value) (off k : Nat) (cs : List Value), off + k + vs.length ≤ cs.length →
    (vs.zipIdx k).foldl (fun (a : Array Value) (p : Value × Nat) => a.setIfInBounds (off + p.2) p.1) cs.toArray = (cs.take (off + k) ++ vs ++ cs.drop (off + k + vs.length)).toArray
  | [], off, k, cs, h => by simp
  | v :: vs, off, k, cs, h => by
    simp only [List.length_cons] at h
    have ih := foldl_place vs off (k + 1) (cs.set (off + k) v) (by simp; omega)
    simp only [List.zipIdx_cons, List.foldl_cons, List.setIfInBounds_toArray, ih]
    congr 1
    apply List.ext_getElem?
    intro j
    simp only [List.getElem?_append, List.length_take, List.length_set, List.length_cons, List.getElem?_take, List.getElem?_set, List.getElem?_drop, List.length_append]
    by_cases h1 : j < off + k
    · simp [show j < min (off + (k + 1)) cs.length by omega, show j < off + (k + 1) by omega, show off + k ≠ j by omega, h1, show j < min (off + k) cs.length by omega, show j < min (off + (k + 1)) cs.length + vs.length by omega, show j < min (off + k) cs.length + (vs.length + 1) by omega]
    · by_cases h2 : j = off + k
      · subst h2
        simp [show off + k < min (off + (k + 1)) cs.length by omega, show off + k < off + (k + 1) by omega, show ¬ off + k < min (off + k) cs.length by omega, show off + k < cs.length by omega, show off + k - min (off + k) cs.length = 0 by omega, show off + k < min (off + (k + 1)) cs.length + vs.length by omega, show off + k < min (off + k) cs.length + (vs.length + 1) by omega]
      · have e1 : min (off + (k + 1)) cs.length = off + k + 1 := by omega
        have e2 : min (off + k) cs.length = off + k := by omega
        simp only [e1, e2]
        by_cases h3 : j < off + k + 1 + vs.length
        · simp [h3, show ¬ j < off + k + 1 by omega, show j < off + k + (vs.length + 1) by omega, show ¬ j < off + k by omega, show j - (off + k) = (j - (off + k + 1)) + 1 by omega]
        · have h4 : ¬ j < off + k + (vs.length + 1) := by omega
          simp only [h3, h4, if_false]
          have e3 : off + (k + 1) + vs.length + (j - (off + k + 1 + vs.length)) = j := by omega
          have e4 : off + k + (vs.length + 1) + (j - (off + k + (vs.length + 1))) = j := by omega
          simp [e3, e4, show off + k ≠ j by omega]
theorem fill_of_fillS (pl : Nat → Option (Nat × Nat)) : ∀ (vs : List (Nat × Value)) (cs cs' : List Value), fillS pl cs vs = some cs' → Instr.fill pl cs.toArray vs = some cs'.toArray
  | [], cs, cs', h => by simp only [fillS, Option.some.injEq] at h; subst h; rfl
  | (i, v) :: r, cs, cs', h => by
    simp only [fillS] at h
    simp only [Instr.fill]
    cases hp : pl i with
    | none => rw [hp] at h; cases h
    | some q =>
      obtain ⟨off, size⟩ := q
      rw [hp] at h
      simp only at h ⊢
      cases hb : (Nat.beq v.cells.toList.length size && Nat.ble (off + v.cells.toList.length) cs.length) with
      | false => rw [hb] at h; cases h
      | true =>
        rw [hb] at h
        simp only [cond_true] at h
        rw [Bool.and_eq_true] at hb
        have h1 := Nat.eq_of_beq_eq_true hb.1
        have h2 := Nat.le_of_ble_eq_true hb.2
        rw [Array.length_toList] at h1 h2
        have h3 : (v.cells.size ≠ size || off + v.cells.size > cs.toArray.size) = false := by simp [h1]; omega
        rw [h3]
        simp only [Bool.false_eq_true, if_false]
        have h4 := foldl_place v.cells.toList off 0 cs (by rw [Array.length_toList]; omega)
        simp only [Nat.add_zero] at h4
        have h5 : v.cells.zipIdx.foldl (fun (a : Array Value) (p : Value × Nat) => a.setIfInBounds (off + p.2) p.1) cs.toArray = (cs.take off ++ v.cells.toList ++ cs.drop (off + v.cells.toList.length)).toArray := by
          rw [← h4, ← Array.foldl_toList]
          simp
        exact (congrArg (Instr.fill pl · r) h5).trans (fill_of_fillS pl r _ _ h)
def repS : Nat → List Value → List Value
  | 0, _ => []
  | k + 1, z => z ++ repS k z
theorem repS_get (z : List Value) (hz : 0 < z.length) : ∀ (k i : Nat), i < k * z.length → (repS k z)[i]? = some (z[i % z.length]!)
  | 0, i, h => by omega
  | k + 1, i, h => by
    rw [Nat.add_mul] at h
    simp only [repS]
    rcases Nat.lt_or_ge i z.length with hi | hi
    · rw [List.getElem?_append_left hi, Nat.mod_eq_of_lt hi]
      simp [List.getElem!_eq_getElem?_getD, hi]
    · rw [List.getElem?_append_right hi, repS_get z hz k (i - z.length) (by omega), Nat.mod_eq_sub_mod hi]
theorem repS_length (z : List Value) : ∀ k, (repS k z).length = k * z.length
  | 0 => by simp [repS]
  | k + 1 => by simp [repS, repS_length z k, Nat.add_mul]; omega
theorem base_repS (z : Array Value) (n len : Nat) (hz : z.size = n) : (Array.range (len * n)).map (z[· % z.size]!) = (repS len z.toList).toArray := by
  subst hz
  by_cases h0 : z.size = 0
  · have : z = #[] := Array.eq_empty_of_size_eq_zero h0
    subst this
    have e : ∀ k, repS k [] = [] := by intro k; induction k with | zero => rfl | succ k ih => simp [repS, ih]
    simp [Array.range_zero', e]
  · apply Array.ext'
    apply List.ext_getElem?
    intro i
    rcases Nat.lt_or_ge i (len * z.size) with hi | hi
    · have := repS_get z.toList (by simp; omega) len i (by simpa using hi)
      simp only [Array.length_toList] at this
      rw [this]
      simp [hi, List.getElem!_eq_getElem?_getD]
      try rw [Array.getElem!_eq_getD, Array.getD_eq_getD_getElem?]
    · rw [List.getElem?_eq_none (by simpa using hi), List.getElem?_eq_none (by simpa [repS_length] using hi)]
def leLim (x : Nat) : Bool := Nat.ble x 16777216
theorem OW.buildSlice {t e n by_ len : Nat} {z : Value} {ps : Array (Nat × Operand)} {vs : List (Nat × Value)} {cells : List Value} (hp : evP L ps = some vs) [hu : Und P t (.slice e)] [hi : Inf P e n by_ z] (hlim : leLim (len * n) = true) (hz : z.cells.size = n)
    (hf : fillS (fun i => some (i * n, n)) (repS len z.cells.toList) vs = some cells) (hd : dOk d cx.N = true)
    (k : ∀ b, K (putL d (.slice (some ⟨b, 0, none⟩) len len) L) G (.blk b (.cells cells.toArray e (0, 0)) :: H)) : OW P Q ⟨d, .buildSlice t len ps, ty, pos, af, gu⟩ cx L G H K := by
  refine OW.gives hd fun a w st => ⟨.slice (some ⟨w.heap.size, 0, none⟩) len len, w.alloc (.cells cells.toArray e), G, .blk w.heap.size (.cells cells.toArray e (0, 0)) :: H, .inl ?_, st.sat.alloc _, Stp.alloc _, k _⟩
  have hl := Nat.le_of_ble_eq_true hlim
  have he := Sk.evP st.slot hp
  have hl' : ¬ (16777216 < len * n) := by omega
  have hf1 := fill_of_fillS _ _ _ _ hf
  rw [← base_repS z.cells n len hz] at hf1
  have hrun : ∀ PS : Array (Nat × Value), PS.toList = vs → (Instr.buildSlice t len PS).run P w = .ok (.slice (some ⟨w.heap.size, 0, none⟩) len len) (w.alloc (.cells cells.toArray e)) := by
    intro PS he
    by_cases h0 : len * n = 0
    · rw [h0] at hf1
      simp only [Array.range_zero', List.map_toArray, List.map_nil] at hf1
      simp [Instr.buildSlice, run_underlying hu.h, hi.sizeOf, h0, he, newRow, Array.range_zero', hf1]
    · simp [Instr.buildSlice, run_underlying hu.h, hi.sizeOf, hi.zeroValue, h0, hl', he, hf1, newRow]
  simp only [execOp, Sem.run_bind, hrun _ he, Result.andThen_ok]
  rfl
class Plc (P : Program) (t : Nat) (pl : outParam (List (Nat × Nat))) : Prop where
  h : ∀ w : World, ∃ fs, P.underlying t = some (.struct fs) ∧ (fs.toList.mapM fun f => Prod.mk f.offset <$> Go.sizeOf f.type).run P w = .ok pl w
theorem Gp.build {t n by_ : Nat} {z : Value} {ps : Array (Nat × Operand)} {vs : List (Nat × Value)} {pl : List (Nat × Nat)} {cells : List Value} (hp : evP L ps = some vs) [hi : Inf P t n by_ z] [hpl : Plc P t pl]
    (hf' : fillS (fun i => pl[i]?) z.cells.toList vs = some cells) : Gp P L ⟨d, .build t ps, ty, pos, af, gu⟩ (.agg cells.toArray) := fun a st w => by
  have he := Sk.evP st hp
  have hf := fill_of_fillS _ _ _ _ hf' 
  obtain ⟨fs, h1, h2⟩ := hpl.h w
  have h3 : (fs.mapM fun f => Prod.mk f.offset <$> Go.sizeOf f.type).run P w = .ok pl.toArray w := by
    rw [Array.mapM_eq_mapM_toList]
    simp [h2]
  have hrun : ∀ PS : Array (Nat × Value), PS.toList = vs → (Instr.build t PS).run P w = .ok (.agg cells.toArray) w := by
    intro PS he
    simp [Instr.build, hi.zeroValue, run_underlying h1, he, h3, hf]
  simp only [execOp, Sem.run_bind, hrun _ he, Result.andThen_ok]
  rfl
theorem Gp.sliceTo {t e n by_ : Nat} {z : Value} {x y : Operand} {A : Option Addr} {len cap : Nat} {k : IntKind} {i : Int} (hx : ev L x = some (.slice A len cap)) (hy : ev L y = some (.int k i)) [hu : Und P t (.slice e)] [hi : Inf P e n by_ z] (h0 : 0 ≤ i) (h1 : i ≤ cap) :
    Gp P L ⟨d, .slice t x none (some y) none, ty, pos, af, gu⟩ (.slice A i.toNat cap) := fun a st w => by
  have h : (Instr.sliceAt t (.slice A len cap) none (some (.int k i)) none).run P w = .ok (.slice A i.toNat cap) w := by
    have hA : (if cap = 0 then A else A.map fun p => p.add 0) = A := by
      split
      · rfl
      · cases A <;> simp [Addr.add]
    simp only [Instr.sliceAt, Sem.run_bind, run_underlying hu.h, Result.andThen_ok, Instr.slice, Instr.sliceBounds, Instr.sliceBound, asIntOf, Sem.run_pure, Sem.run_ite, h0, h1, and_self, if_true, hi.sizeOf, Nat.sub_zero, Nat.zero_mul, hA]
  simp [execOp, Sk.eval st hx, Sk.eval st hy, h]
theorem Gp.sliceFrom {t e n by_ : Nat} {z : Value} {x y : Operand} {A : Option Addr} {len cap : Nat} {k : IntKind} {i : Int} (hx : ev L x = some (.slice A len cap)) (hy : ev L y = some (.int k i)) [hu : Und P t (.slice e)] [hi : Inf P e n by_ z] (h0 : 0 ≤ i) (h1 : i ≤ len) :
    Gp P L ⟨d, .slice t x (some y) none none, ty, pos, af, gu⟩ (.slice (if cap = i.toNat then A else A.map (·.add (i.toNat * n))) (len - i.toNat) (cap - i.toNat)) := fun a st w => by
  have h : (Instr.sliceAt t (.slice A len cap) (some (.int k i)) none none).run P w = .ok (.slice (if cap = i.toNat then A else A.map (·.add (i.toNat * n))) (len - i.toNat) (cap - i.toNat)) w := by
    simp only [Instr.sliceAt, Sem.run_bind, run_underlying hu.h, Result.andThen_ok, Instr.slice, Instr.sliceBounds, Instr.sliceBound, asIntOf, Sem.run_pure, Sem.run_ite, h0, h1, and_self, if_true, hi.sizeOf]
  simp [execOp, Sk.eval st hx, Sk.eval st hy, h]
theorem cell_add (w : World) (b o j : Nat) : w.cell? ((⟨b, o, none⟩ : Addr).add j) = w.cell? ⟨b, o + j, none⟩ := by
  have hadd : (⟨b, o, none⟩ : Addr).add j = ⟨b, o + j, none⟩ := by unfold Addr.add; split <;> simp_all
  rw [hadd]
theorem Sat.swap {w w' : World} (h : Sat G H w) {j : Nat} {x : Own} (hj : At H j x) (ob : Obj) (hw : w' = w.drew.alloc ob) (hf : noFr ob := by first | rfl | trivial) :
    Sat G (H.set j (.blk w.heap.size ob)) w' ∧ Stp (covs H) G w G (H.set j (.blk w.heap.size ob)) w' := by
  subst hw
  have h1 := (h.drew (w' := w.drew) rfl).alloc ob
  have h2a : Stp (covs H) G w G H w.drew := Stp.drew rfl
  have h2b : Stp (covs H) G w.drew G (.blk w.heap.size ob :: H) (w.drew.alloc ob) := Stp.alloc (w := w.drew) ob hf
  have h2 := h2a.then h2b
  have hsz : w.drew.heap.size = w.heap.size := rfl
  rw [hsz] at h1
  -- the new one in the place of the old one: fewer things, in another order
  have hsub : ∀ y ∈ H.set j (.blk w.heap.size ob), y ∈ Own.blk w.heap.size ob :: H := fun y hy => by
    rcases mem_set_or H j _ y hy with rfl | hy
    · exact .head _
    · exact .tail _ hy
  refine ⟨⟨h1.agr, fun y hy => h1.hold y (hsub y hy), ?_, fun y hy => h1.ghost y (hsub y hy)⟩, ⟨h2.size, h2.keep, h2.gle, h2.gnew, fun y hy => h2.own y (hsub y hy), h2.weq⟩⟩
  have hp := List.pairwise_cons.1 h1.apart
  have : ∀ (l : List Own) (j : Nat), l.Pairwise Own.apart → (∀ z ∈ l, Own.apart (.blk w.heap.size ob) z) → (l.set j (.blk w.heap.size ob)).Pairwise Own.apart := by
    intro l
    induction l with
    | nil => intro j _ _; simp
    | cons a l ih =>
      intro j hl hz
      rw [List.pairwise_cons] at hl
      cases j with
      | zero => simp only [List.set_cons_zero, List.pairwise_cons]; exact ⟨fun z hzz => hz z (.tail _ hzz), hl.2⟩
      | succ j =>
        simp only [List.set_cons_succ, List.pairwise_cons]
        refine ⟨fun z hzz => ?_, ih j hl.2 fun z hzz => hz z (.tail _ hzz)⟩
        rcases mem_set_or l j _ z hzz with rfl | hzz
        · exact Own.apart_symm (hz a (.head _))
        · exact hl.1 z hzz
  exact this H j hp.2 hp.1
theorem Vec.rdsFrom {T sz : Nat} {A : Option Addr} {n cap : Nat} {cs : List Value} {x : Own} {j lo : Nat} (h : Vec T sz A n cap cs x) (hj : At H j x) (hlo : lo ≤ n) : Rds G H (if cap = lo then A else A.map (·.add (lo * sz))) (cs.drop (lo * sz)) := by
  by_cases hc : cap = lo
  · have := h.le
    refine .inl (List.drop_eq_nil_of_le ?_)
    rw [h.1, show lo = n by omega]
    exact Nat.le_refl _
  · rw [if_neg hc]
    obtain ⟨hl, ⟨h1, h2, h3, h4⟩ | ⟨b, c, rfl, rfl, h1, h2, rfl⟩⟩ := h
    · subst h2; exact .inl (List.eq_nil_of_length_eq_zero (by simp; omega))
    · have hadd : (⟨b, 0, none⟩ : Addr).add (lo * sz) = ⟨b, lo * sz, none⟩ := by unfold Addr.add; split <;> simp_all
      simp only [Option.map_some, hadd]
      refine Rds.blk hj fun j v e => ?_
      rw [List.getElem?_drop, List.getElem?_take] at e
      split at e
      · simpa using e
      · cases e
theorem Vec.cut {T sz : Nat} {A : Option Addr} {n cap : Nat} {cs : List Value} {x : Own} {m : Nat} (h : Vec T sz A n cap cs x) (hm : m ≤ n) : Vec T sz A m cap (cs.take (m * sz)) x := by
  have hms : m * sz ≤ n * sz := Nat.mul_le_mul_right _ hm
  obtain ⟨hl, ⟨h1, h2, h3, h4⟩ | ⟨b, c, rfl, rfl, h1, h2, rfl⟩⟩ := h
  · exact ⟨by rw [List.length_take, hl]; omega, .inl ⟨h1, by omega, h3, h4⟩⟩
  · exact ⟨by rw [List.length_take, hl]; omega, .inr ⟨b, c, rfl, rfl, by omega, h2, by rw [List.take_take, Nat.min_eq_left hms]⟩⟩
theorem zeroCells_size {sz : Nat} {z : Value} {n : Nat} (hz : z.cells.size = sz) : (Builtin.zeroCells z.cells n).size = n * sz := by rw [size_zeroCells, hz]
theorem set_same {α : Type} : ∀ (l : List α) (j : Nat) (x : α), l[j]? = some x → l.set j x = l
  | [], _, _, _ => rfl
  | a :: l, 0, x, h => by simp at h; simp [h]
  | a :: l, j + 1, x, h => by simp at h; simp [set_same l j x h]
theorem OW.append {t e sz by_ : Nat} {z : Value} {x y : Operand} {A B : Option Addr} {n cap m cy j : Nat} {cs news : List Value} {o : Own} (hx : ev L x = some (.slice A n cap)) (hy : ev L y = some (.slice B m cy)) [hu : Und P t (.slice e)] [hi : Inf P e sz by_ z]
    (hz : z.cells.size = sz) (hs0 : Nat.blt 0 sz = true) (hv : Vec e sz A n cap cs o) (hj : At H j o) (hr : Rds G H B news) (hl : news.length = m * sz) (h1 : news.all (·.oneCell') = true)
    (hb : (n + m) * by_ ≤ 140737488355328) (h63 : n + m ≤ 9223372036854775807) (hd : dOk d cx.N = true)
    (k : ∀ A' cap' o', Vec e sz A' (n + m) cap' (cs ++ news) o' → K (putL d (.slice A' (n + m) cap') L) G (H.set j o')) :
    OW P Q ⟨d, .call { callee := .builtin .append, args := #[x, y], argTypes := #[t, t] }, ty, pos, af, gu⟩ cx L G H K := by
  have hsz : 0 < sz := Nat.le_of_ble_eq_true hs0
  refine OW.gives hd fun a w st => ?_
  obtain ⟨ie, hi1, hi2, hi3, hi4⟩ := hi.info
  have hu' := hu.h
  have hrun : ∀ v w', (Builtin.append_ #[t, t] ty #[.slice A n cap, .slice B m cy]).run P w = .ok v w' → (execOp a.eval ⟨d, .call { callee := .builtin .append, args := #[x, y], argTypes := #[t, t] }, ty, pos, af, gu⟩).run P w = .ok (.value v) w' := by
    intro v w' h
    simp only [execOp, resolve, invoke, builtin, Sem.run_bind, Sem.run_pure, Result.andThen_ok, List.map_toArray, List.map_cons, List.map_nil, st.eval hx, st.eval hy, h]
  -- nothing to append
  by_cases hm : m = 0
  · subst hm
    have hn : news = [] := List.eq_nil_of_length_eq_zero (by simpa using hl)
    subst hn
    refine ⟨.slice A n cap, w, G, H, .inl (hrun _ _ ?_), st.sat, Stp.drew rfl, ?_⟩
    · have hle := hv.le
      cases A with
      | none => simp [Builtin.append_, run_underlying hu', sizeOf, typeInfo, hi1, Builtin.lenOf, Builtin.firstCells, hle]; cases B <;> simp [Builtin.firstCells, loadCells, loadCellsFrom]
      | some ad => simp [Builtin.append_, run_underlying hu', sizeOf, typeInfo, hi1, Builtin.lenOf, Builtin.firstCells, hle]; cases B <;> simp [Builtin.firstCells, loadCells, loadCellsFrom, storeCells]
    · have := k A cap o (by simpa using hv)
      simp only [Nat.add_zero] at this
      rw [set_same H j o hj.get] at this
      exact this
  · have hm0 : 0 < m := by omega
    obtain ⟨bB, oB, rfl, hread⟩ : ∃ b o, B = some ⟨b, o, none⟩ ∧ ∀ w, Sat G H w → ∀ j v, news[j]? = some v → w.cell? ⟨b, o + j, none⟩ = some v := by
      rcases hr with h | h
      · have hp := Nat.mul_pos hm0 hsz
        rw [← hl, h] at hp
        simp at hp
      · exact h
    have hnews : ∀ j u, news[j]? = some u → w.cell? ((⟨bB, oB, none⟩ : Addr).add j) = some u := fun j u e => by rw [cell_add]; exact hread w st.sat j u e
    have hl' : news.length = m * ie.size := by rw [hi3]; exact hl
    obtain ⟨hcl, ⟨rfl, rfl, rfl, rfl⟩ | ⟨b, c, rfl, rfl, hnc, hcs, htk⟩⟩ := hv
    · have hcs0 : cs = [] := List.eq_nil_of_length_eq_zero (by simpa using hcl)
      subst hcs0
      have hr := run_append_nil (P := P) w t ty e ie z hu' hi1 hi2 ⟨bB, oB, none⟩ m cy news hl' hnews hm0 (by omega) (by have h' := hb; simp only [Nat.zero_add] at h'; rw [hi4]; omega)
      have hg := grownCap_ge w m 0 e
      have hsw := st.sat.swap hj (.cells (news.toArray ++ Builtin.zeroCells z.cells (grownCap w m 0 e - m)) e) rfl
      refine ⟨_, _, G, _, .inl (hrun _ _ hr), hsw.1, hsw.2, ?_⟩
      have := k (some ⟨w.heap.size, 0, none⟩) (grownCap w m 0 e) (.blk w.heap.size (.cells (news.toArray ++ Builtin.zeroCells z.cells (grownCap w m 0 e - m)) e)) ⟨by simpa using hl, .inr ⟨_, _, rfl, rfl, by omega, ?_, ?_⟩⟩
      · simpa using this
      · rw [Array.size_append, List.size_toArray, zeroCells_size hz, hl, ← Nat.add_mul]; congr 1; omega
      · simp only [Array.toList_append, List.nil_append, Nat.zero_add]; rw [← hl]; exact List.take_left
    · by_cases hroom : n + m ≤ cap
      · have hbw : w.heap[b]? = some (.cells c e (0, 0)) := st.sat.hold _ (List.mem_of_getElem? hj.get)
        have hfit : n * sz + news.length ≤ c.size := by rw [hl, hcs, ← Nat.add_mul]; exact Nat.mul_le_mul_right _ hroom
        have hr := run_append_room (P := P) w t ty e ie hu' hi1 b n cap c hbw ⟨bB, oB, none⟩ m cy news hl' hnews (fun u hu => List.all_eq_true.1 h1 u hu) hroom (by rw [hi3]; exact hfit)
        rw [hi3] at hr
        have hsp := st.sat.splice (o := n * sz) (cs := news) hj hfit
        refine ⟨_, _, G, _, .inl (hrun _ _ hr), hsp.1, hsp.2, k _ _ _ ⟨by rw [List.length_append, hcl, hl, Nat.add_mul], .inr ⟨b, _, rfl, rfl, hroom, by rw [size_splice hfit, hcs], ?_⟩⟩⟩
        simp only [splice]
        rw [htk, show (n + m) * sz = (cs ++ news).length by rw [List.length_append, hcl, hl, Nat.add_mul]]
        exact List.take_left
      · have hbw : w.heap[b]? = some (.cells c e (0, 0)) := st.sat.hold _ (List.mem_of_getElem? hj.get)
        have holds : ∀ j v, cs[j]? = some v → w.cell? ((⟨b, 0, none⟩ : Addr).add j) = some v := fun j v e => by
          rw [cell_add, cell_of_row w b _ c _ _ hbw, ← htk] at *
          rw [List.getElem?_take] at e
          split at e
          · simpa using e
          · cases e
        have hr := run_append_grow (P := P) w t ty e ie z hu' hi1 hi2 ⟨b, 0, none⟩ n cap cs (by rw [hi3]; exact hcl) holds ⟨bB, oB, none⟩ m cy news hl' hnews (by omega) (by omega) (growslice_fits (by omega) (by rw [hi4]; exact hb))
        have hg := grownCap_ge w (n + m) cap e
        have hsw := st.sat.swap hj (.cells (cs.toArray ++ news.toArray ++ Builtin.zeroCells z.cells (grownCap w (n + m) cap e - (n + m))) e) rfl
        refine ⟨_, _, G, _, .inl (hrun _ _ hr), hsw.1, hsw.2, k _ _ _ ⟨by rw [List.length_append, hcl, hl, Nat.add_mul], .inr ⟨_, _, rfl, rfl, hg, ?_, ?_⟩⟩⟩
        · simp only [Array.size_append, List.size_toArray, zeroCells_size hz, hl, hcl, ← Nat.add_mul]; congr 1; omega
        · simp only [Array.toList_append]
          rw [show (n + m) * sz = (cs ++ news).length by rw [List.length_append, hcl, hl, Nat.add_mul]]
          exact List.take_left
theorem Sat.nothing {w : World} (h : Sat G H w) : Sat G (.spare 0 0 0 :: H) w :=
  ⟨h.agr, fun x hx => by
    rcases List.mem_cons.1 hx with rfl | hx
    · intro hlt; omega
    · exact h.hold x hx, List.pairwise_cons.2 ⟨fun y _ b o hc => by simp only [Own.cov] at hc; omega, h.apart⟩, fun x hx b o hc => by
    rcases List.mem_cons.1 hx with rfl | hx
    · simp only [Own.cov] at hc; omega
    · exact h.ghost x hx b o hc⟩
theorem Stp.nothing {S : Nat → Nat → Prop} {G0 : Gh} {w0 w : World} (h : Stp S G0 w0 G H w) : Stp S G0 w0 G (.spare 0 0 0 :: H) w :=
  ⟨h.size, h.keep, h.gle, h.gnew, fun x hx b o hc => by
    rcases List.mem_cons.1 hx with rfl | hx
    · simp only [Own.cov] at hc; omega
    · exact h.own x hx b o hc, h.weq⟩
theorem WK.nothing {K : Act → World → Prop} (h : WK K cx L G (.spare 0 0 0 :: H)) : WK K cx L G H :=
  fun a w st => h a w ⟨st.size, st.defs, st.slot, st.sat.nothing, st.stp.nothing⟩
theorem WC.nothing {c : Code} (h : WC P c Q cx L G (.spare 0 0 0 :: H)) : WC P c Q cx L G H :=
  fun a w st => h a w ⟨st.size, st.defs, st.slot, st.sat.nothing, st.stp.nothing⟩
def AllLk (L : List (Nat × Value)) : List (Nat × Value) → Prop
  | [] => True
  | (t, v) :: r => lk L t = some v ∧ AllLk L r
theorem AllLk.sub {L L' : List (Nat × Value)} (h : AllLk L L') : ∀ t v, lk L' t = some v → lk L t = some v := by
  induction L' with
  | nil => intro t v e; simp [lk] at e
  | cons p r ih =>
    obtain ⟨k, u⟩ := p
    intro t v e
    simp only [lk] at e
    by_cases hk : k = t
    · subst hk
      simp only [Nat.beq_refl, cond_true, Option.some.injEq] at e
      subst e
      exact h.1
    · have hb : Nat.beq k t = false := by cases hbb : Nat.beq k t with | false => rfl | true => exact absurd (Nat.eq_of_beq_eq_true hbb) hk
      rw [hb] at e
      exact ih h.2 t v e
theorem WC.loop {c : Code} {X : Type} (Lf : X → List (Nat × Value)) (Gf : X → Gh) (Hf : X → List Own) (μ : X → Nat) (ok : X → Prop) (x0 : X) (h0 : ok x0) (hL : AllLk L (Lf x0)) (hG : Gf x0 = G) (hH : (Hf x0).Sublist H)
    (round : ∀ x, ok x → WC P c (Exit.then (fun a w => ∃ x', μ x' < μ x ∧ ok x' ∧ St cx (Lf x') (Gf x') (Hf x') a w) Q) cx (Lf x) (Gf x) (Hf x)) : WC P (.loop c) Q cx L G H := by
  intro a w st
  refine wp_loop_fuel (A := fun k x a w => μ x = k ∧ ok x ∧ St cx (Lf x) (Gf x) (Hf x) a w) (x0 := x0) ⟨rfl, h0, hG ▸ st.weaken hL.sub hH⟩ ?_
  rintro k x a w ⟨rfl, hok, st⟩
  refine Code.wp_mono (fun e a w q => ?_) (round x hok a w st)
  cases e <;> first
    | exact q
    | (obtain ⟨x', h1, h2, h3⟩ := q; exact ⟨_, x', h1, rfl, h2, h3⟩)
theorem WK.again {X : Type} {Lf : X → List (Nat × Value)} {Gf : X → Gh} {Hf : X → List Own} {μ : X → Nat} {ok : X → Prop} {x : X} (x' : X) (h1 : μ x' < μ x) (h2 : ok x') (hL : AllLk L (Lf x')) (hG : Gf x' = G) (hH : (Hf x').Sublist H) :
    WK (fun a w => ∃ x', μ x' < μ x ∧ ok x' ∧ St cx (Lf x') (Gf x') (Hf x') a w) cx L G H :=
  fun a w st => ⟨x', h1, h2, hG ▸ st.weaken hL.sub hH⟩
theorem WC.join {x y : Code} {X : Type} (Lf : X → List (Nat × Value)) (Gf : X → Gh) (Hf : X → List Own) (ok : X → Prop)
    (h : WC P x (Exit.then (fun a w => ∃ x, ok x ∧ St cx (Lf x) (Gf x) (Hf x) a w) Q) cx L G H) (hy : ∀ x, ok x → WC P y Q cx (Lf x) (Gf x) (Hf x)) : WC P (.seq x y) Q cx L G H :=
  WC.seqJ _ h fun a w ⟨x, h1, h2⟩ => hy x h1 a w h2
theorem WK.meet {X : Type} {Lf : X → List (Nat × Value)} {Gf : X → Gh} {Hf : X → List Own} {ok : X → Prop} (x' : X) (h2 : ok x') (hL : AllLk L (Lf x')) (hG : Gf x' = G) (hH : (Hf x').Sublist H) :
    WK (fun a w => ∃ x, ok x ∧ St cx (Lf x) (Gf x) (Hf x) a w) cx L G H :=
  fun a w st => ⟨x', h2, hG ▸ st.weaken hL.sub hH⟩
theorem perm_at {l : List Own} {j : Nat} {x : Own} (h : At l j x) : l.Perm (x :: l.eraseIdx j) := by
  induction h with
  | here => exact List.Perm.refl _
  | there _ ih => exact (List.Perm.cons _ ih).trans (List.Perm.swap _ _ _)
end
end Go.Proofs.YtcnlkfocbbkdhaaGreatDoor.Gb
namespace Go.Proofs.YtcnlkfocbbkdhaaGreatDoor.Gb
open Go
section
variable {P : Program} {Q : Exit → Act → World → Prop} {cx : Cx} {L : List (Nat × Value)} {G : Gh} {H : List Own} {K : List (Nat × Value) → Gh → List Own → Prop} {ops : Array Oper} {rest : List Oper}
  {d : Option Tmp} {ty : TypeId} {pos : String} {af : Array Edge} {gu : Option (Nat × Bool)}
theorem OW.makeSlice {t e n by_ : Nat} {z : Value} {x y : Operand} {k k' : IntKind} {m : Int} (hx : ev L x = some (.int k m)) (hy : ev L y = some (.int k' m)) [hu : Und P t (.slice e)] [hi : Inf P e n by_ z] (hz : z.cells.size = n)
    (h0 : 0 ≤ m) (hb : (by_ : Int) * m ≤ 281474976710656) (h63 : m ≤ 9223372036854775807) (hd : dOk d cx.N = true)
    (kk : ∀ b x, Vec e n (some ⟨b, 0, none⟩) m.toNat m.toNat (repS m.toNat z.cells.toList) x → K (putL d (.slice (some ⟨b, 0, none⟩) m.toNat m.toNat) L) G (x :: H)) : OW P Q ⟨d, .makeSlice t x y, ty, pos, af, gu⟩ cx L G H K := by
  refine OW.gives hd fun a w st => ?_
  obtain ⟨ie, hi1, hi2, hi3, hi4⟩ := hi.info
  have hr := run_make (P := P) w t e ie z hu.h hi1 hi2 k k' m m h0 (Int.le_refl _) (by rw [hi4]; exact hb) h63
  have hc : madeCells z.cells (m.toNat * ie.size) = (repS m.toNat z.cells.toList).toArray := by unfold madeCells; rw [hi3]; exact base_repS z.cells n m.toNat hz
  rw [hc] at hr
  have hlen : (repS m.toNat z.cells.toList).length = m.toNat * n := by rw [repS_length, Array.length_toList, hz]
  refine ⟨_, _, G, _, .inl ?_, st.sat.alloc _, Stp.alloc _, kk w.heap.size (.blk w.heap.size (.cells (repS m.toNat z.cells.toList).toArray e (0, 0))) ⟨hlen, .inr ⟨_, _, rfl, rfl, Nat.le_refl _, by simp [hlen], by simp [← hlen]⟩⟩⟩
  simp only [execOp, Sem.run_bind, st.eval hx, st.eval hy, hr, Result.andThen_ok]
  rfl
theorem OW.copy {t t2 e sz by_ : Nat} {z : Value} {x y : Operand} {A B : Option Addr} {n cap m cy j : Nat} {cs news : List Value} {o : Own} (hx : ev L x = some (.slice A n cap)) (hy : ev L y = some (.slice B m cy)) [hu : Und P t (.slice e)] [hi : Inf P e sz by_ z]
    (hs0 : Nat.blt 0 sz = true) (hv : Vec e sz A n cap cs o) (hj : At H j o) (hr : Rds G H B news) (hl : news.length = m * sz) (h1 : news.all (·.oneCell') = true) (hmn : m ≤ n) (hd : dOk d cx.N = true)
    (k : ∀ o', Vec e sz A n cap (news ++ cs.drop (m * sz)) o' → K (putL d (goInt m) L) G (H.set j o')) :
    OW P Q ⟨d, .call { callee := .builtin .copy, args := #[x, y], argTypes := #[t, t2] }, ty, pos, af, gu⟩ cx L G H K := by
  have hsz : 0 < sz := Nat.le_of_ble_eq_true hs0
  refine OW.gives hd fun a w st => ?_
  obtain ⟨ie, hi1, hi2, hi3, hi4⟩ := hi.info
  have hu' := hu.h
  have hrun : ∀ v w', (Builtin.copy_ #[t, t2] ty #[.slice A n cap, .slice B m cy]).run P w = .ok v w' → (execOp a.eval ⟨d, .call { callee := .builtin .copy, args := #[x, y], argTypes := #[t, t2] }, ty, pos, af, gu⟩).run P w = .ok (.value v) w' := by
    intro v w' h
    simp only [execOp, resolve, invoke, builtin, Sem.run_bind, Sem.run_pure, Result.andThen_ok, List.map_toArray, List.map_cons, List.map_nil, st.eval hx, st.eval hy, h]
  by_cases hm : m = 0
  · subst hm
    have hn : news = [] := List.eq_nil_of_length_eq_zero (by simpa using hl)
    subst hn
    refine ⟨goInt 0, w, G, H, .inl (hrun _ _ ?_), st.sat, Stp.drew rfl, ?_⟩
    · cases A <;> cases B <;> simp [Builtin.copy_, run_underlying hu', sizeOf, typeInfo, hi1, Builtin.lenOf, Builtin.firstCells, storeCells, loadCells, loadCellsFrom]
    · have := k o (by simpa using hv)
      rw [set_same H j o hj.get] at this
      exact this
  · have hm0 : 0 < m := by omega
    obtain ⟨bB, oB, rfl, hread⟩ : ∃ b o, B = some ⟨b, o, none⟩ ∧ ∀ w, Sat G H w → ∀ j v, news[j]? = some v → w.cell? ⟨b, o + j, none⟩ = some v := by
      rcases hr with h | h
      · have hp := Nat.mul_pos hm0 hsz
        rw [← hl, h] at hp
        simp at hp
      · exact h
    obtain ⟨hcl, ⟨rfl, rfl, rfl, rfl⟩ | ⟨b, c, rfl, rfl, hnc, hcs, htk⟩⟩ := hv
    · omega
    · have hbw : w.heap[b]? = some (.cells c e (0, 0)) := st.sat.hold _ (List.mem_of_getElem? hj.get)
      have hms : m * sz ≤ n * sz := Nat.mul_le_mul_right _ hmn
      have hns : n * sz ≤ cap * sz := Nat.mul_le_mul_right _ hnc
      have hfit : 0 + news.length ≤ c.size := by omega
      have hld := run_loadCells_list (P := P) w ⟨bB, oB, none⟩ news (fun j u e => by rw [cell_add]; exact hread w st.sat j u e)
      have hst := run_storeCells_at P b 0 e news 0 c w hbw (by simpa using hfit) (fun u hu => List.all_eq_true.1 h1 u hu)
      simp only [Nat.add_zero] at hst
      have hsp := st.sat.splice (o := 0) (cs := news) hj hfit
      refine ⟨goInt m, _, G, _, .inl (hrun _ _ ?_), hsp.1, hsp.2, k _ ⟨?_, .inr ⟨b, _, rfl, rfl, hnc, by rw [size_splice hfit, hcs], ?_⟩⟩⟩
      · rw [hl] at hld
        have hmin : Nat.min m n = m := Nat.min_eq_left hmn
        simp [Builtin.copy_, run_underlying hu', Builtin.lenOf, Builtin.firstCells, sizeOf, typeInfo, hi1, hi3, hmin, hld, hst, splice]
      · rw [List.length_append, List.length_drop, hcl, hl]; omega
      · have h0 : (splice c 0 news).toList = news ++ c.toList.drop news.length := by simp [splice]
        rw [h0, List.take_append, List.take_of_length_le (by omega), ← htk, List.drop_take]
        rw [hl]
def Gh.add (G : Gh) (b : Nat) (c : Array Value) : Gh := fun b' o => if b' = b then c[o]? else G b' o
theorem Sat.frozen {w : World} (h : Sat G H w) {j b : Nat} {c : Array Value} {T : TypeId} (hj : At H j (.blk b (.cells c T (0, 0)))) : G.le (G.add b c) ∧ Sat (G.add b c) (H.eraseIdx j) w := by
  have hh : w.heap[b]? = some (.cells c T (0, 0)) := h.hold _ (List.mem_of_getElem? hj.get)
  have hg : ∀ o, G b o = none := fun o => h.ghost _ (List.mem_of_getElem? hj.get) b o rfl
  have hp := h.perm (perm_at hj)
  have hap := List.pairwise_cons.1 hp.apart
  refine ⟨fun b' o v e => ?_, ⟨fun b' o v e => ?_, fun x hx => hp.hold x (.tail _ hx), hap.2, fun x hx b' o hc => ?_⟩⟩
  · unfold Gh.add
    split
    · rename_i hb; subst hb; rw [hg o] at e; cases e
    · exact e
  · unfold Gh.add at e
    split at e
    · rename_i hb
      subst hb
      simp [World.cell?, hh, e]
    · exact h.agr b' o v e
  · unfold Gh.add
    split
    · rename_i hb; subst hb; exact absurd hc (hap.1 x hx b' o rfl)
    · exact hp.ghost x (.tail _ hx) b' o hc
theorem St.freeze {a : Act} {w : World} (st : St cx L G H a w) {j b : Nat} {c : Array Value} {T : TypeId} (hj : At H j (.blk b (.cells c T (0, 0)))) : St cx L (G.add b c) (H.eraseIdx j) a w := by
  have h := st.sat.frozen hj
  refine ⟨st.size, st.defs, st.slot, h.2, ⟨st.stp.size, st.stp.keep, Gh.le_trans st.stp.gle h.1, fun b' o v e => ?_, fun x hx => st.stp.own x (List.mem_of_mem_eraseIdx hx), st.stp.weq⟩⟩
  unfold Gh.add at e
  split at e
  · rename_i hb
    subst hb
    exact .inr (st.stp.own _ (List.mem_of_getElem? hj.get) b' o rfl)
  · exact st.stp.gnew b' o v e
theorem WC.freeze {c0 : Code} {j b : Nat} {c : Array Value} {T : TypeId} (hj : At H j (.blk b (.cells c T (0, 0)))) (h : G.le (G.add b c) → WC P c0 Q cx L (G.add b c) (H.eraseIdx j)) : WC P c0 Q cx L G H :=
  fun a w st => h (st.sat.frozen hj).1 a w (st.freeze hj)
theorem WL.freeze {j b : Nat} {c : Array Value} {T : TypeId} (hj : At H j (.blk b (.cells c T (0, 0)))) (h : G.le (G.add b c) → WL P ops Q rest cx L (G.add b c) (H.eraseIdx j)) : WL P ops Q rest cx L G H :=
  fun a w st => h (st.sat.frozen hj).1 a w (st.freeze hj)
theorem WK.freeze {K : Act → World → Prop} {j b : Nat} {c : Array Value} {T : TypeId} (hj : At H j (.blk b (.cells c T (0, 0)))) (h : G.le (G.add b c) → WK K cx L (G.add b c) (H.eraseIdx j)) : WK K cx L G H :=
  fun a w st => h (st.sat.frozen hj).1 a w (st.freeze hj)
theorem Gh.add_at {b : Nat} {c : Array Value} {o : Nat} : G.add b c b o = c[o]? := by simp [Gh.add]
theorem WK.frozenVec {K : Act → World → Prop} {T sz n cap j : Nat} {A : Option Addr} {cs : List Value} {x : Own} (hv : Vec T sz A n cap cs x) (hj : At H j x)
    (h : ∀ G', G.le G' → (cs = [] ∨ ∃ b, A = some ⟨b, 0, none⟩ ∧ Cs G' b 0 cs) → WK K cx L G' (H.eraseIdx j)) : WK K cx L G H := by
  obtain ⟨hl, ⟨h1, h2, h3, h4⟩ | ⟨b, c, rfl, rfl, h1, h2, rfl⟩⟩ := hv
  · refine WK.weaken (L' := L) (fun _ _ e => e) (List.eraseIdx_sublist ..) (h G (Gh.le_refl _) (.inl ?_))
    subst h2; exact List.eq_nil_of_length_eq_zero (by simpa using hl)
  · refine WK.freeze hj fun hg => h _ hg (.inr ⟨b, rfl, fun i v e => ?_⟩)
    rw [Nat.zero_add, Gh.add_at]
    rw [List.getElem?_take] at e
    split at e
    · simpa using e
    · cases e
theorem WC.frozenVec {c0 : Code} {T sz n cap j : Nat} {A : Option Addr} {cs : List Value} {x : Own} (hv : Vec T sz A n cap cs x) (hj : At H j x)
    (h : ∀ G', G.le G' → (cs = [] ∨ ∃ b, A = some ⟨b, 0, none⟩ ∧ Cs G' b 0 cs) → WC P c0 Q cx L G' (H.eraseIdx j)) : WC P c0 Q cx L G H :=
  WK.frozenVec (K := c0.wp P Q) hv hj h
theorem Vec.put {T sz n cap b i : Nat} {A : Option Addr} {cs : List Value} {c : Array Value} (h : Vec T sz A n cap cs (.blk b (.cells c T (0, 0)))) (hi : i < n) (es : List Value) (he : es.length = sz) :
    A = some ⟨b, 0, none⟩ ∧ i * sz + es.length ≤ c.size ∧ Vec T sz A n cap (cs.take (i * sz) ++ es ++ cs.drop (i * sz + es.length)) (.blk b (.cells (splice c (i * sz) es) T (0, 0))) := by
  obtain ⟨hl, ⟨h1, h2, h3, h4⟩ | ⟨b', c', rfl, hx, h1, h2, rfl⟩⟩ := h
  · omega
  · cases hx
    have e1 : (i + 1) * sz ≤ n * sz := Nat.mul_le_mul_right _ hi
    have e2 : n * sz ≤ cap * sz := Nat.mul_le_mul_right _ h1
    rw [Nat.add_mul] at e1
    have hfit : i * sz + es.length ≤ c.size := by omega
    refine ⟨rfl, hfit, ?_, .inr ⟨b, _, rfl, rfl, h1, by rw [size_splice hfit, h2], ?_⟩⟩
    · simp only [List.length_append, List.length_take, List.length_drop, hl] at hl ⊢; omega
    · simp only [splice]
      apply List.ext_getElem?
      intro k
      simp only [List.getElem?_take, List.getElem?_append, List.length_append, List.length_take, List.getElem?_drop, Array.length_toList]
      have m1 : min (i * sz) c.size = i * sz := by omega
      have m2 : min (i * sz) (min (n * sz) c.size) = i * sz := by omega
      simp only [m1, m2]
      by_cases hk : k < n * sz
      · simp only [hk, if_true]
        by_cases h3 : k < i * sz + es.length
        · simp only [h3, if_true]
        · simp only [h3, if_false, show i * sz + es.length + (k - (i * sz + es.length)) = k by omega, hk, if_true]
      · simp only [hk, if_false]
        rw [if_neg (by omega), if_neg (by omega)]
theorem Rds.sub {A : Option Addr} {cs : List Value} {H' : List Own} (h : Rds G H A cs) (hs : H.Sublist H') : Rds G H' A cs := by
  rcases h with h | ⟨b, o, e, h⟩
  · exact .inl h
  · exact .inr ⟨b, o, e, fun w s => h w (s.sub hs)⟩
end
end Go.Proofs.YtcnlkfocbbkdhaaGreatDoor.Gb
namespace Go.Proofs.YtcnlkfocbbkdhaaGreatDoor.Gb
open Go
section
variable {P : Program} {Q : Exit → Act → World → Prop} {cx : Cx} {L : List (Nat × Value)} {G : Gh} {H : List Own} {K : List (Nat × Value) → Gh → List Own → Prop} {ops : Array Oper} {rest : List Oper}
  {d : Option Tmp} {ty : TypeId} {pos : String} {af : Array Edge} {gu : Option (Nat × Bool)}
theorem Sk.evs {a : Act} (st : Sk L a) {xs : Array Operand} {vs : List Value} (h : Gb.evs L xs = some vs) : xs.map a.eval = vs.toArray := by
  have key : ∀ (l : List Operand) (vs : List Value), evl L l = some vs → l.map a.eval = vs := by
    intro l
    induction l with
    | nil => intro vs h; simp only [evl, Option.some.injEq] at h; subst h; rfl
    | cons x l ih =>
      intro vs h
      simp only [evl] at h
      cases hx : ev L x with
      | none => simp [hx] at h
      | some v =>
        cases hl : evl L l with
        | none => simp [hx, hl] at h
        | some us =>
          simp only [hx, hl, Option.some.injEq] at h
          subst h
          simp [st.eval hx, ih us hl]
  apply Array.ext'
  simp [key xs.toList vs h]
theorem Gp.makeFunc {fn : Go.Fn} {xs ys : Array Operand} {us vs : List Value} (hx : evs L xs = some us) (hy : evs L ys = some vs) : Gp P L ⟨d, .makeFunc fn xs ys, ty, pos, af, gu⟩ (.func fn us.toArray vs.toArray) :=
  fun a st w => by
    have e1 := Sk.evs st hx
    have e2 := Sk.evs st hy
    simp only [execOp, e1, e2]
    rfl
theorem OW.callV {g : Operand} {f : Nat} {cap : Array Value} {xs : Array Operand} {ats : Array TypeId} {vs : List Value} {Hf F : List Own} {R : Ending → Gh → List Own → Prop} (hg : ev L g = some (.func (.func f) #[] cap)) (hx : Gb.evs L xs = some vs) [hb : Body P f] (hp : H.Perm (Hf ++ F))
    (hf : Fn P f (vs.toArray ++ cap) G Hf R) (hd : dOk d cx.N = true)
    (k : ∀ v G' H', R (.returned v) G' H' → G.le G' → K (putL d v L) G' (H' ++ F))
    (kp : ∀ ch G' H', R (.panicked ch) G' H' → G.le G' → WK (Q (.panic ch)) cx L G' (H' ++ F))
    (ko : ∀ G' H', ¬ R .outgrown G' H') : OW P Q ⟨d, .call { callee := .value g, args := xs, argTypes := ats }, ty, pos, af, gu⟩ cx L G H K := by
  intro next hn a w st
  have st' := st.perm hp
  have hrun : (execOp a.eval ⟨d, .call { callee := .value g, args := xs, argTypes := ats }, ty, pos, af, gu⟩).run P w = .ok (.enter f (vs.toArray ++ cap)) w := by
    have e := st.evs hx
    have eg := st.eval hg
    simp [execOp, resolve, Deferred.ofValue, eg, invoke, e, hb.h]
  unfold Oper.wp
  rw [hrun]
  simp only [Oper.upon]
  refine (hf w (st'.sat.sub (List.sublist_append_left Hf F)) (cx.ex.then st'.stp fun x hx => List.mem_append_left _ hx)).mono fun e w' ⟨G', H', r, hs, hp'⟩ => ?_
  have hs' := st'.sat.frame hs hp'
  have hst := st'.stp.then (hp'.frame (F := F))
  cases e with
  | returned v => exact hn _ _ _ (k v G' H' r hp'.gle) _ _ (st.put d v hd hs' hst)
  | panicked ch => exact kp ch G' H' r hp'.gle a w' ⟨st.size, st.defs, st.slot, hs', hst⟩
  | outgrown => exact (ko G' H' r).elim
theorem WL.defer {g : Operand} {fv : Go.Fn} {cap : Array Value} (hg : ev L g = some (.func fv #[] cap))
    (hw : wantB ops L ⟨d, .defer { callee := .value g, args := #[], argTypes := #[] }, ty, pos, af, gu⟩ = some true) (hd : dOk d cx.N = true)
    (k : WL P ops Q rest ⟨cx.w0, cx.G0, cx.S, cx.N, { target := .fn fv cap, args := #[] } :: cx.D, cx.ex⟩ (putL d undef L) G H) :
    WL P ops Q (⟨d, .defer { callee := .value g, args := #[], argTypes := #[] }, ty, pos, af, gu⟩ :: rest) cx L G H := by
  intro a w st
  unfold wpList
  rw [if_pos (st.wanted hw)]
  refine .inl ?_
  have hrun : (execOp a.eval ⟨d, .defer { callee := .value g, args := #[], argTypes := #[] }, ty, pos, af, gu⟩).run P w = .ok (.defer { target := .fn fv cap, args := #[] }) w := by
    have eg := st.eval hg
    simp [execOp, resolve, Deferred.ofValue, eg]
  unfold Oper.wp
  rw [hrun]
  simp only [Oper.upon]
  refine k _ _ ⟨(size_put _ d undef).trans st.size, ?_, slot_put (a := { a with defers := { target := .fn fv cap, args := #[] } :: a.defers }) st.size st.slot d undef hd, st.sat, st.stp⟩
  rw [defers_put]
  show _ :: a.defers = _
  rw [st.defs]
theorem Gp.assertNil {x : Operand} {s t n by_ : Nat} {z : Value} {fs : Array Field} (hx : ev L x = some .nilIface) (hu : P.underlying t = some (.struct fs)) [hi : Inf P t n by_ z] : Gp P L ⟨d, .typeAssert x s t true, ty, pos, af, gu⟩ (.tuple #[z, .bool false]) :=
  fun a st w => by simp [execOp, st.eval hx, Instr.typeAssert, run_underlying hu, hi.zeroValue]
theorem Gp.assertIs {x : Operand} {s t : Nat} {v : Value} {fs : Array Field} (hx : ev L x = some (.iface t v)) (hu : P.underlying t = some (.struct fs)) : Gp P L ⟨d, .typeAssert x s t true, ty, pos, af, gu⟩ (.tuple #[v, .bool true]) :=
  fun a st w => by simp [execOp, st.eval hx, Instr.typeAssert, run_underlying hu]
theorem Gp.neNilNil {x : Operand} {t t' : Nat} (hx : ev L x = some .nilIface) (hu : P.underlying t = some (.interface (P.methodsAt t))) : Gp P L ⟨d, .binOp .neq t x (.const .nilIface) t', ty, pos, af, gu⟩ (.bool false) :=
  fun a st w => by
    have hc : a.eval (.const .nilIface) = .nilIface := rfl
    simp [execOp, st.eval hx, hc, eqGuard, run_neq_nil_nil w t hu]
theorem Gp.neHeldNil {x : Operand} {t t' u : Nat} {v : Value} (hx : ev L x = some (.iface u v)) (hu : P.underlying t = some (.interface (P.methodsAt t))) : Gp P L ⟨d, .binOp .neq t x (.const .nilIface) t', ty, pos, af, gu⟩ (.bool true) :=
  fun a st w => by
    have hc : a.eval (.const .nilIface) = .nilIface := rfl
    simp [execOp, st.eval hx, hc, eqGuard, run_neq_held_nil w t u v hu]
theorem Gp.nePtrNil {x : Operand} {t t' : Nat} {p : Option Addr} (hx : ev L x = some (.pointer p)) (hu : P.underlying t = some (.pointer (P.pointee t))) : Gp P L ⟨d, .binOp .neq t x (.const (.pointer none)) t', ty, pos, af, gu⟩ (.bool (!p.isNone)) :=
  fun a st w => by
    have hc : a.eval (.const (.pointer none)) = .pointer none := rfl
    have he : ∀ op, eqGuard op t x (.const (.pointer none)) (.pointer p) (.pointer none) = pure () := fun op => by cases op <;> rfl
    simp [execOp, st.eval hx, hc, he, run_neq_pointer_nil w t p hu]
end
def FnD (P : Program) (f : FuncId) (vs : Array Value) (u : FrameMode) (G : Gh) (H : List Own) (u' : FrameMode) (R : Ending → Gh → List Own → Prop) : Prop :=
  ∀ w, Sat G H w → Ex (covs H) w → CallsD P f vs u w fun e u'' w' => u'' = u' ∧ ∃ G' H', R e G' H' ∧ Sat G' H' w' ∧ Stp (covs H) G w G' H' w'
theorem FnD.recover {P : Program} {f : FuncId} {fn : Func} {i d1 d2 : Nat} {ty1 ty2 : TypeId} {p1 p2 : String} {af1 af2 : Array Edge} {rest : Code} {vs : List Value} {G : Gh} {H : List Own} {R : Ending → Gh → List Own → Prop} {u u' : FrameMode} {v : Value}
    (hf : P.funcs[f]? = some fn) (hb : fn.body = some (.seq (.region i #[⟨some d1, .call { callee := .builtin .recover, args := #[], argTypes := #[] }, ty1, p1, af1, none⟩, ⟨some d2, .assign (.tmp d1), ty2, p2, af2, none⟩] false) rest))
    (hn' : Nat.ble vs.length fn.ntmps = true) (hd1 : Nat.blt d1 fn.ntmps = true) (hd2 : Nat.blt d2 fn.ntmps = true)
    (hu : (u = .returning ∧ v = .nilIface ∧ u' = .returning) ∨ (∃ older, u = .panicking ({ v := v, recovered := false } :: older) ∧ u' = .panicking ({ v := v, recovered := true } :: older)))
    (h : ∀ w0 : W0 H, WC P rest (QF P fn G w0.w H R) ⟨w0.w, G, covs H, fn.ntmps, [], w0.ex⟩ ((d2, v) :: (d1, v) :: argL 0 vs) G H) : FnD P f vs.toArray u G H u' R := by
  have hn := Nat.le_of_ble_eq_true hn'
  intro w hs hx
  refine callsD_of_wpS hf hb fun c₀ cs hc => ?_
  refine wpS_seq (wpS_region ?_)
  have hrange : List.range (#[(⟨some d1, .call { callee := .builtin .recover, args := #[], argTypes := #[] }, ty1, p1, af1, none⟩ : Oper), ⟨some d2, .assign (.tmp d1), ty2, p2, af2, none⟩] : Array Oper).size = [0, 1] := rfl
  rw [hrange]
  have hwant : ∀ (o : Oper) x, o.guard = none → Region.wanted o x = true := fun o x ho => by simp [Region.wanted, ho]
  have hexec : ∀ ρ (w : World), (execOp ρ ⟨some d1, .call { callee := .builtin .recover, args := #[], argTypes := #[] }, ty1, p1, af1, none⟩).run P w = .ok .recover w := fun ρ w => by
    simp [execOp, resolve, invoke, builtin]
  have hrec : (recoverD (c₀ :: cs) = none ∧ v = .nilIface ∧ u' = u) ∨ recoverD (c₀ :: cs) = some (v, { c₀ with mode := u' } :: cs) := by
    rcases hu with ⟨rfl, rfl, rfl⟩ | ⟨older, rfl, rfl⟩
    · exact .inl ⟨by simp [recoverD, hc], rfl, rfl⟩
    · exact .inr (by simp [recoverD, hc])
  have key : ∀ cs', cs' = { c₀ with mode := u' } :: cs → wpOpsS P #[⟨some d1, .call { callee := .builtin .recover, args := #[], argTypes := #[] }, ty1, p1, af1, none⟩, ⟨some d2, .assign (.tmp d1), ty2, p2, af2, none⟩]
      (Exit.thenS (rest.wpS P (bodyPostS P fn c₀ cs fun e u'' w' => u'' = u' ∧ ∃ G' H', R e G' H' ∧ Sat G' H' w' ∧ Stp (covs H) G w G' H' w')) (bodyPostS P fn c₀ cs fun e u'' w' => u'' = u' ∧ ∃ G' H', R e G' H' ∧ Sat G' H' w' ∧ Stp (covs H) G w G' H' w'))
      [1] (Act.put { tmps := vs.toArray ++ Array.replicate (fn.ntmps - vs.toArray.size) undef, defers := [] } (some d1) v) cs' w := by
    intro cs' hcs
    subst hcs
    simp only [wpOpsS, List.getElem?_toArray, List.getElem?_cons_succ, List.getElem?_cons_zero]
    rw [if_pos (hwant _ _ rfl)]
    have h0 : St ⟨w, G, covs H, fn.ntmps, [], hx⟩ (argL 0 vs) G H { tmps := vs.toArray ++ Array.replicate (fn.ntmps - vs.toArray.size) undef, defers := [] } w :=
      ⟨by simp; omega, rfl, fun t v ht => by have := argL_slot (N := fn.ntmps - vs.length) vs [] t v ht; simpa using this, hs, Stp.refl G H w⟩
    have h1 := h0.put (some d1) v hd1 hs (Stp.refl G H w)
    have hev : (Act.put { tmps := vs.toArray ++ Array.replicate (fn.ntmps - vs.toArray.size) undef, defers := [] } (some d1) v).eval (.tmp d1) = v := h1.eval (x := .tmp d1) (by simp [ev, putL, lk])
    simp only [execOp, hev, Sem.run_pure, Oper.upon]
    refine wpS_of_wp ?_
    refine Code.wp_mono (fun e a' w' q => ?_) (h ⟨w, hx⟩ _ w (h1.put (some d2) v hd2 hs (Stp.refl G H w)))
    cases e with
    | normal => obtain ⟨q1, v', q2, q3⟩ := q; exact ⟨q1, u', rfl, v', q2, rfl, q3⟩
    | ret => obtain ⟨q1, v', q2, q3⟩ := q; exact ⟨q1, u', rfl, v', q2, rfl, q3⟩
    | panic ch => exact ⟨q.1, u', rfl, rfl, q.2⟩
    | outgrown => exact ⟨u', rfl, q⟩
    | exit id => exact q
    | goto l => exact q
  simp only [wpOpsS, List.getElem?_toArray, List.getElem?_cons_zero]
  rw [if_pos (hwant _ _ rfl)]
  simp only [hexec]
  rcases hrec with ⟨hr, hv, huu⟩ | hr
  · rw [hr, ← hv]
    exact key _ (by rw [huu, ← hc])
  · rw [hr]
    exact key _ rfl
def QD (P : Program) (fn : Func) (G0 : Gh) (w0 : World) (H0 : List Own) (R : Ending → Gh → List Own → Prop) : Exit → Act → World → Prop :=
  bodyPostD P fn fun e w' => ∃ G' H', R e G' H' ∧ Sat G' H' w' ∧ Stp (covs H0) G0 w0 G' H' w'
theorem Fn.enterD {P : Program} {f : FuncId} {fn : Func} {c : Code} {vs : List Value} {G : Gh} {H : List Own} {R : Ending → Gh → List Own → Prop} (hf : P.funcs[f]? = some fn) (hb : fn.body = some c) (hn' : Nat.ble vs.length fn.ntmps = true)
    (h : ∀ w0 : W0 H, WC P c (QD P fn G w0.w H R) ⟨w0.w, G, covs H, fn.ntmps, [], w0.ex⟩ (argL 0 vs) G H) : Fn P f vs.toArray G H R := by
  have hn := Nat.le_of_ble_eq_true hn'
  intro w hs hx
  refine calls_of_wp_defers hf hb (h ⟨w, hx⟩ _ w ⟨by simp; omega, rfl, fun t v ht => ?_, hs, Stp.refl G H w⟩)
  have := argL_slot (N := fn.ntmps - vs.length) vs [] t v ht
  simpa using this
def ResRun (P : Program) (fn : Func) (L : List (Nat × Value)) (G : Gh) (H : List Own) (v : Value) : Prop := ∀ a w, Sk L a → Sat G H w → (results fn a.tmps).run P w = .ok v w
theorem ResRun.zero {P : Program} {fn : Func} {L : List (Nat × Value)} {G : Gh} {H : List Own} (h : fn.results = #[]) : ResRun P fn L G H (.tuple #[]) := fun a w _ _ => by simp [results, h]
section
variable {P : Program} {fn : Func} {G0 G : Gh} {H0 H : List Own} {w0 : W0 H0} {R : Ending → Gh → List Own → Prop} {L : List (Nat × Value)} {N : Nat}
theorem QD.once {u u' : FrameMode} {g : Nat} {cap : Array Value} {Hf F : List Own} {R1 : Ending → Gh → List Own → Prop} (hur : u ≠ .run) [hb : Body P g] (hp : H.Perm (Hf ++ F)) (hf : FnD P g cap u G Hf u' R1) (hset : settle u' = .returning)
    (k : ∀ v G' H', R1 (.returned v) G' H' → G.le G' → ∃ v, ResRun P fn L G' (H' ++ F) v ∧ R (.returned v) G' (H' ++ F))
    (kp : ∀ ch G' H', ¬ R1 (.panicked ch) G' H') (ko : ∀ G' H', ¬ R1 .outgrown G' H') {a : Act} {w : World} (st : St ⟨w0.w, G0, covs H0, N, [{ target := .fn (.func g) cap, args := #[] }], w0.ex⟩ L G H a w) :
    Leaves P fn a.tmps (fun e w' => ∃ G' H', R e G' H' ∧ Sat G' H' w' ∧ Stp (covs H0) G0 w0.w G' H' w') [{ target := .fn (.func g) cap, args := #[] }] u w := by
  have st' := st.perm hp
  refine leaves_cons (f := g) (args := cap) hur (by simp [invoke, hb.h]) ?_
  refine (hf w (st'.sat.sub (List.sublist_append_left Hf F)) (w0.ex.then st'.stp fun x hx => List.mem_append_left _ hx)).mono fun e u'' w' ⟨hu, G', H', r, hs, hp'⟩ => ?_
  subst hu
  have hs' := st'.sat.frame hs hp'
  have hst := st'.stp.then (hp'.frame (F := F))
  cases e with
  | returned v =>
    obtain ⟨v', h1, h2⟩ := k v G' H' r hp'.gle
    show Leaves _ _ _ _ [] (settle _) _
    rw [hset]
    exact ⟨v', h1 a w' st.slot hs', G', _, h2, hs', hst⟩
  | panicked ch => exact (kp ch G' H' r).elim
  | outgrown => exact (ko G' H' r).elim
theorem QD.leave {e : Exit} (he : e = .ret ∨ e = .normal) {g : Nat} {cap : Array Value} {Hf F : List Own} {R1 : Ending → Gh → List Own → Prop} [hb : Body P g] (hp : H.Perm (Hf ++ F)) (hf : FnD P g cap .returning G Hf .returning R1)
    (k : ∀ v G' H', R1 (.returned v) G' H' → G.le G' → ∃ v, ResRun P fn L G' (H' ++ F) v ∧ R (.returned v) G' (H' ++ F))
    (kp : ∀ ch G' H', ¬ R1 (.panicked ch) G' H') (ko : ∀ G' H', ¬ R1 .outgrown G' H') :
    WK (QD P fn G0 w0.w H0 R e) ⟨w0.w, G0, covs H0, N, [{ target := .fn (.func g) cap, args := #[] }], w0.ex⟩ L G H := fun a w st => by
  have := QD.once (fn := fn) (R := R) (by simp) hp hf rfl k kp ko st
  rcases he with rfl | rfl
  · show Leaves _ _ _ _ a.defers _ _; rw [st.defs]; exact this
  · show Leaves _ _ _ _ a.defers _ _; rw [st.defs]; exact this
theorem QD.caught {v : Value} {g : Nat} {cap : Array Value} {Hf F : List Own} {R1 : Ending → Gh → List Own → Prop} [hb : Body P g] (hp : H.Perm (Hf ++ F)) (hf : FnD P g cap (.panicking [{ v := v, recovered := false }]) G Hf (.panicking [{ v := v, recovered := true }]) R1)
    (k : ∀ v G' H', R1 (.returned v) G' H' → G.le G' → ∃ v, ResRun P fn L G' (H' ++ F) v ∧ R (.returned v) G' (H' ++ F))
    (kp : ∀ ch G' H', ¬ R1 (.panicked ch) G' H') (ko : ∀ G' H', ¬ R1 .outgrown G' H') :
    WK (QD P fn G0 w0.w H0 R (.panic [{ v := v, recovered := false }])) ⟨w0.w, G0, covs H0, N, [{ target := .fn (.func g) cap, args := #[] }], w0.ex⟩ L G H := fun a w st => by
  have := QD.once (fn := fn) (R := R) (by simp) hp hf rfl k kp ko st
  show Leaves _ _ _ _ a.defers _ _; rw [st.defs]; exact this
end
end Go.Proofs.YtcnlkfocbbkdhaaGreatDoor.Gb
namespace Go.Proofs.YtcnlkfocbbkdhaaGreatDoor.Gb
open Go
inductive Rem : List Own → Own → List Own → Prop where
  | here {x : Own} {l : List Own} : Rem (x :: l) x l
  | there {x y : Own} {l l' : List Own} (h : Rem l x l') : Rem (y :: l) x (y :: l')
theorem Rem.perm {l l' : List Own} {x : Own} (h : Rem l x l') : l.Perm (x :: l') := by
  induction h with
  | here => exact List.Perm.refl _
  | there _ ih => exact (List.Perm.cons _ ih).trans (List.Perm.swap _ _ _)
inductive Pk : List Own → List Own → List Own → Prop where
  | nil {H : List Own} : Pk H [] H
  | all {H : List Own} : Pk H H []
  | cons {H H' xs F : List Own} {x : Own} (h : Rem H x H') (k : Pk H' xs F) : Pk H (x :: xs) F
  | skip {H xs F : List Own} {y : Own} (k : Pk H xs F) : Pk (y :: H) xs (y :: F)
theorem Pk.perm {H xs F : List Own} (h : Pk H xs F) : H.Perm (xs ++ F) := by
  induction h with
  | nil => exact List.Perm.refl _
  | all => rw [List.append_nil]
  | cons h _ ih => exact h.perm.trans (List.Perm.cons _ ih)
  | skip _ ih => exact (List.Perm.cons _ ih).trans List.perm_middle.symm
theorem Pk.app : ∀ {H F : List Own}, Pk (H ++ F) H F
  | [], _ => .nil
  | _ :: _, _ => .cons .here Pk.app
theorem Pk.appR : ∀ {F H : List Own}, Pk (F ++ H) H F
  | [], _ => .all
  | _ :: _, _ => .skip Pk.appR
theorem Pk.skipA {l xs F : List Own} (h : Pk l xs F) : ∀ {H : List Own}, Pk (H ++ l) xs (H ++ F)
  | [] => h
  | _ :: _ => .skip (Pk.skipA h)
theorem Pk.na {H xs F : List Own} (h : Pk H xs F) : Pk (List.append [] H) xs F := h
theorem Rem.app {x : Own} {l l' : List Own} (h : Rem l x l') : ∀ {H : List Own}, Rem (H ++ l) x (H ++ l')
  | [] => h
  | _ :: _ => .there (Rem.app h)
theorem Pk.assoc {A B C xs F : List Own} (h : Pk (A ++ (B ++ C)) xs F) : Pk ((A ++ B) ++ C) xs F := by rw [List.append_assoc]; exact h
theorem plA {A B F : List Own} (h : Pk A B F := by repeat (first | exact Pk.nil | exact Pk.all | exact Pk.app | exact Pk.appR | with_reducible apply Pk.na | (apply Pk.cons; (repeat first | exact .here | apply Rem.there | apply Rem.app)) | apply Pk.assoc | apply Pk.skip | apply Pk.skipA)) : Pk A B F := h
theorem pkA {A B F : List Own} (h : Pk A B F := by repeat (first | exact Pk.nil | exact Pk.all | exact Pk.app | exact Pk.appR | with_reducible apply Pk.na | (apply Pk.cons; (repeat first | exact .here | apply Rem.there | apply Rem.app)) | apply Pk.skip | apply Pk.skipA)) : Pk A B F := h
section
variable {P : Program} {Q : Exit → Act → World → Prop} {cx : Cx} {L : List (Nat × Value)} {G : Gh} {H H' F : List Own}
theorem WC.front {c : Code} (h : Pk H H' F) (k : WC P c Q cx L G (H' ++ F)) : WC P c Q cx L G H := fun a w st => k a w (st.perm h.perm)
theorem WL.front {ops : Array Oper} {rest : List Oper} (h : Pk H H' F) (k : WL P ops Q rest cx L G (H' ++ F)) : WL P ops Q rest cx L G H := fun a w st => k a w (st.perm h.perm)
theorem WK.front {K : Act → World → Prop} (h : Pk H H' F) (k : WK K cx L G (H' ++ F)) : WK K cx L G H := fun a w st => k a w (st.perm h.perm)
theorem St.pk {a : Act} {w : World} (st : St cx L G H a w) (h : Pk H H' F) : St cx L G H' a w := (st.perm h.perm).weaken (fun _ _ e => e) (List.sublist_append_left _ _)
theorem WK.pk {K : Act → World → Prop} (h : Pk H H' F) (k : WK K cx L G H') : WK K cx L G H := fun a w st => k a w (st.pk h)
theorem WC.pk {c : Code} (h : Pk H H' F) (k : WC P c Q cx L G H') : WC P c Q cx L G H := fun a w st => k a w (st.pk h)
theorem WC.pick {c : Code} (H' : List Own) (k : WC P c Q cx L G H') (h : Pk H H' F := by exact plA) : WC P c Q cx L G H := WC.pk h k
theorem WK.pick {K : Act → World → Prop} (H' : List Own) (k : WK K cx L G H') (h : Pk H H' F := by exact plA) : WK K cx L G H := WK.pk h k
theorem WL.pick {ops : Array Oper} {rest : List Oper} (H' : List Own) (k : WL P ops Q rest cx L G H') (h : Pk H H' F := by exact plA) : WL P ops Q rest cx L G H := fun a w st => k a w (st.pk h)
theorem OW.callK {K : List (Nat × Value) → Gh → List Own → Prop} {d : Option Tmp} {ty : TypeId} {pos : String} {af : Array Edge} {gu : Option (Nat × Bool)} {f : Nat} {xs : Array Operand} {ats : Array TypeId} {vs : List Value} {Hf F : List Own} {R : Ending → Gh → List Own → Prop} (hx : Gb.evs L xs = some vs) [hb : Body P f]
    (hf : Fn P f vs.toArray G Hf R) (hd : dOk d cx.N = true)
    (k : ∀ v G' H', R (.returned v) G' H' → G.le G' → K (putL d v L) G' (H' ++ F)) (hp : Pk H Hf F := by exact plA) (hno : ∀ e G' H', R e G' H' → ∃ v, e = .returned v := by intro e G' H' h; repeat (first | exact ⟨_, h.1⟩ | (obtain ⟨_, h⟩ := h))) : OW P Q ⟨d, .call { callee := .value (.func f), args := xs, argTypes := ats }, ty, pos, af, gu⟩ cx L G H K :=
  OW.callR hx hp.perm hf hd hno k
theorem Sat.pk {w : World} (h : Sat G H w) (p : Pk H H' F) : Sat G H' w := (h.perm p.perm).sub (List.sublist_append_left _ _)
theorem WC.drawS {id : Nat} {l : List Oper} {Hs : List Own} (hm : P.follows .mixedOrders = true) (hs : Pk H Hs F) (h : WB P l Q G Hs l.length (Array.replicate l.length false) cx L G H) : WC P (.region id l.toArray true) Q cx L G H := by
  intro a w st
  refine wp_region_held (S := Sat G Hs) hm ?_
  have := h a { w with drawn := w.drawn + 1 } (st.drew rfl) ((st.drew (w' := { w with drawn := w.drawn + 1 }) rfl).sat.pk hs)
  simpa using this
theorem Gv.loadRN {d : Option Tmp} {ty : TypeId} {pos : String} {af : Array Edge} {gu : Option (Nat × Bool)} {t n by_ : Nat} {z : Value} {x : Operand} {b o i : Nat} {Ha : List Own} {cs es : List Value} (hx : ev L x = some (.pointer (some ⟨b, o + i, none⟩))) [ha : Agg P t true] [hi : Inf P t n by_ z]
    (hr : ∀ w, Sat G Ha w → ∀ j v, cs[j]? = some v → w.cell? ⟨b, o + j, none⟩ = some v) (hs : Ha.Sublist H) (hc : (cs.drop i).take n = es) (hl : es.length = n) : Gv P L G H ⟨d, .load t x, ty, pos, af, gu⟩ (.agg es.toArray) :=
  fun a w sk st0 => by
    have := run_loadVarN (P := P) (w := w) (b := b) (o := o + i) ha hi hl (fun j v hv => by
      rw [← hc, List.getElem?_take] at hv
      split at hv
      · rw [List.getElem?_drop] at hv
        rw [Nat.add_assoc]; exact hr w (st0.sub hs) _ v hv
      · cases hv)
    simp [execOp, sk.eval hx, Instr.loadAt, Instr.sureAddr, this]
def WS (P : Program) (l : List Oper) (Q : Exit → Act → World → Prop) (S : World → Prop) (fuel : Nat) (listed : Array Bool) (cx : Cx) (L : List (Nat × Value)) (G : Gh) (H : List Own) : Prop :=
  ∀ a w, St cx L G H a w → S w → wpAnyH P .any l.toArray Q S fuel listed a w
theorem WC.drawW {id : Nat} {l : List Oper} {S : World → Prop} (hm : P.follows .mixedOrders = true) (hS : ∀ w, Sat G H w → S w) (h : WS P l Q S l.length (Array.replicate l.length false) cx L G H) : WC P (.region id l.toArray true) Q cx L G H := by
  intro a w st
  refine wp_region_held (S := S) hm ?_
  have := h a { w with drawn := w.drawn + 1 } (st.drew rfl) (hS _ (st.drew (w' := { w with drawn := w.drawn + 1 }) rfl).sat)
  simpa using this
theorem WS.done {l : List Oper} {S : World → Prop} {fuel : Nat} {listed : Array Bool} (hr : Region.ready .any l.toArray listed = []) (h : WK (Q .normal) cx L G H) : WS P l Q S fuel listed cx L G H :=
  fun a w st _ => wpAnyH_done hr (h a w st) fuel
theorem WS.tv {l : List Oper} {S : World → Prop} {fuel i : Nat} {listed : Array Bool} {o : Oper} {v : Value} (hi : l[i]? = some o) (hk : okP l listed i = true) (hw : wantB l.toArray L o = some true) (hd : dOk o.dst cx.N = true) [hQ : QPan Q] (hv : ∀ a w, Sk L a → S w → (execOp a.eval o).run P w = .ok (.value v) w)
    (h : WS P l Q S fuel (listed.setIfInBounds i true) cx (putL o.dst v L) G H) : WS P l Q S (fuel + 1) listed cx L G H := by
  intro a w st ss
  simp only [okP, Bool.and_eq_true] at hk
  exact wpAnyH_take (by simpa using hi) hk.1.1 hk.1.2 hk.2 (fun c a' w' => hQ.h c _ _ w' (defers_put _ _ _)) (.inl ⟨st.wanted hw, fun w' s => hv a w' st.slot s⟩) ss (h _ _ (st.put o.dst v hd st.sat st.stp) ss)
theorem WS.tp {l : List Oper} {S : World → Prop} {fuel i : Nat} {listed : Array Bool} {o : Oper} {v : Value} (hi : l[i]? = some o) (hk : okP l listed i = true) (hw : wantB l.toArray L o = some true) (hd : dOk o.dst cx.N = true) [hQ : QPan Q] (hv : Gp P L o v)
    (h : WS P l Q S fuel (listed.setIfInBounds i true) cx (putL o.dst v L) G H) : WS P l Q S (fuel + 1) listed cx L G H := WS.tv hi hk hw hd (fun a w sk _ => hv a sk w) h
theorem WS.sp {l : List Oper} {S : World → Prop} {fuel i : Nat} {listed : Array Bool} {o : Oper} (hi : l[i]? = some o) (hk : okP l listed i = true) (hw : wantB l.toArray L o = some false) (hd : dOk o.dst cx.N = true) [hQ : QPan Q]
    (h : WS P l Q S fuel (listed.setIfInBounds i true) cx (putL o.dst undef L) G H) : WS P l Q S (fuel + 1) listed cx L G H := by
  intro a w st ss
  simp only [okP, Bool.and_eq_true] at hk
  exact wpAnyH_take (by simpa using hi) hk.1.1 hk.1.2 hk.2 (fun c a' w' => hQ.h c _ _ w' (defers_put _ _ _)) (.inr ⟨st.wanted hw, rfl⟩) ss (h _ _ (st.put o.dst undef hd st.sat st.stp) ss)
theorem WS.one {l : List Oper} {S : World → Prop} {fuel i : Nat} {listed : Array Bool} {o : Oper} (hr : Region.ready .any l.toArray listed = [i]) (hi : l[i]? = some o) (hw : wantB l.toArray L o = some true)
    (h : OW P Q o cx L G H fun L' G' H' => (∀ w, Sat G' H' w → S w) ∧ WS P l Q S fuel (listed.setIfInBounds i true) cx L' G' H') : WS P l Q S (fuel + 1) listed cx L G H := by
  intro a w st _
  refine wpAnyH_all hr (by simp) fun j hj => ?_
  rw [List.mem_singleton] at hj
  subst hj
  unfold wpOp
  have ho' : l.toArray[j]? = some o := by simpa using hi
  simp only [ho', st.wanted hw, if_true]
  exact .inl (h _ (fun L' G' H' k a w st' => ⟨k.1 w st'.sat, k.2 a w st' (k.1 w st'.sat)⟩) a w st)
theorem load1_cell {d : Option Tmp} {ty : TypeId} {pos : String} {af : Array Edge} {gu : Option (Nat × Bool)} {t : Nat} {x : Operand} {p : Addr} {v : Value} (hx : ev L x = some (.pointer (some p))) [ha : Agg P t false] {a : Act} {w : World} (sk : Sk L a) (hc : w.cell? p = some v) : (execOp a.eval ⟨d, .load t x, ty, pos, af, gu⟩).run P w = .ok (.value v) w := by
  have := run_loadVar1 (P := P) (w := w) (v := v) (p := p) ha hc
  simp [execOp, sk.eval hx, Instr.loadAt, Instr.sureAddr, this]
theorem Sat.cell {w : World} {b o j : Nat} {c : Array Value} {t : TypeId} {fr : Nat × Nat} (h : Sat G H w) (hj : At H j (.blk b (.cells c t fr))) : w.cell? ⟨b, o, none⟩ = c[o]? := Own.cell (h.hold _ (List.mem_of_getElem? hj.get))
theorem OW.gv {o : Oper} {v : Value} {K : List (Nat × Value) → Gh → List Own → Prop} (g : Gv P L G H o v) (hd : dOk o.dst cx.N = true) (hk : K (putL o.dst v L) G H) : OW P Q o cx L G H K := OW.val hd (fun a w st => g a w st.slot st.sat) hk
theorem WK.reorder {K : Act → World → Prop} (h : Pk H H' []) (k : WK K cx L G H') : WK K cx L G H := WK.pk h k
end
section
variable {P : Program} {fn : Func} {G0 G : Gh} {H0 H H' F : List Own} {w0 : W0 H0} {R : Ending → Gh → List Own → Prop} {L : List (Nat × Value)} {N : Nat}
theorem QF.ofP {e : Exit} (he : e = .ret ∨ e = .normal) (v : Value) (hr : ∀ a w, St ⟨w0.w, G0, covs H0, N, [], w0.ex⟩ L G H a w → (results fn a.tmps).run P w = .ok v w) (h : R (.returned v) G H') (hs : Pk H H' F) : WK (QF P fn G0 w0.w H0 R e) ⟨w0.w, G0, covs H0, N, [], w0.ex⟩ L G H := by
  intro a w st
  have st' := st.pk hs
  have : a.defers = [] ∧ ∃ v, (results fn a.tmps).run P w = .ok v w ∧ ∃ G' H', R (.returned v) G' H' ∧ Sat G' H' w ∧ Stp (covs H0) G0 w0.w G' H' w := ⟨st.defs, v, hr a w st, G, H', h, st'.sat, st'.stp⟩
  rcases he with rfl | rfl
  · exact this
  · exact this
theorem QF.panicP {ch : List PanicEntry} (h : R (.panicked ch) G H') (hs : Pk H H' F := by exact plA) : WK (QF P fn G0 w0.w H0 R (.panic ch)) ⟨w0.w, G0, covs H0, N, [], w0.ex⟩ L G H := by
  intro a w st
  have st' := st.pk hs
  exact ⟨st.defs, G, H', h, st'.sat, st'.stp⟩
theorem QF.p0 {e : Exit} (he : e = .ret ∨ e = .normal) (hres : fn.results = #[]) (h : R (.returned (.tuple #[])) G H') (hs : Pk H H' F := by exact plA) : WK (QF P fn G0 w0.w H0 R e) ⟨w0.w, G0, covs H0, N, [], w0.ex⟩ L G H :=
  QF.ofP he (.tuple #[]) (fun a w st => by simp [results, hres]) h hs
theorem QF.p1 {e : Exit} (he : e = .ret ∨ e = .normal) {r : ResultVar} {v : Value} (hres : fn.results = #[r]) (hv : RV P L H r v) (h : R (.returned v) G H') (hs : Pk H H' F := by exact plA) : WK (QF P fn G0 w0.w H0 R e) ⟨w0.w, G0, covs H0, N, [], w0.ex⟩ L G H :=
  QF.ofP he v (fun a w st => by simp [results_rvS, hres, hv.run st]) h hs
theorem QF.p2 {e : Exit} (he : e = .ret ∨ e = .normal) {r s : ResultVar} {v u : Value} (hres : fn.results = #[r, s]) (hv : RV P L H r v) (hu : RV P L H s u) (h : R (.returned (.tuple #[v, u])) G H') (hs : Pk H H' F := by exact plA) : WK (QF P fn G0 w0.w H0 R e) ⟨w0.w, G0, covs H0, N, [], w0.ex⟩ L G H :=
  QF.ofP he (.tuple #[v, u]) (fun a w st => by simp [results_rvS, hres, hv.run st, hu.run st]) h hs
end
theorem Fn.unpk {P : Program} {f : FuncId} {vs : Array Value} {G : Gh} {H : List Own} {R : Ending → Gh → List Own → Prop} (h : Fn P f vs G H fun e G' H' => ∃ H2 F, Pk H' H2 F ∧ R e G' H2) : Fn P f vs G H R :=
  fun w hs hx => (h w hs hx).mono fun e w' ⟨G', H', ⟨H2, F, p, r⟩, s, st⟩ => ⟨G', H2, r, s.pk p, st.size, st.keep, st.gle, st.gnew, fun x hx => st.own x (p.perm.mem_iff.2 (List.mem_append_left _ hx)), st.weq⟩
section
variable {P : Program} {L : List (Nat × Value)} {d : Option Tmp} {ty : TypeId} {pos : String} {af : Array Edge} {gu : Option (Nat × Bool)}
theorem Gp.geI' {t t' : TypeId} {x y : Operand} {k : IntKind} {m n : Int} {r : Bool} (hx : ev L x = some (.int k m)) (hy : ev L y = some (.int k n)) (h : decide (n ≤ m) = r) : Gp P L ⟨d, .binOp .geq t x y t', ty, pos, af, gu⟩ (.bool r) := h ▸ Gp.geI hx hy
theorem Gp.leI' {t t' : TypeId} {x y : Operand} {k : IntKind} {m n : Int} {r : Bool} (hx : ev L x = some (.int k m)) (hy : ev L y = some (.int k n)) (h : decide (m ≤ n) = r) : Gp P L ⟨d, .binOp .leq t x y t', ty, pos, af, gu⟩ (.bool r) := h ▸ Gp.leI hx hy
theorem Gp.ltI' {t t' : TypeId} {x y : Operand} {k : IntKind} {m n : Int} {r : Bool} (hx : ev L x = some (.int k m)) (hy : ev L y = some (.int k n)) (h : decide (m < n) = r) : Gp P L ⟨d, .binOp .lss t x y t', ty, pos, af, gu⟩ (.bool r) := h ▸ Gp.ltI hx hy
theorem Gp.gtI' {t t' : TypeId} {x y : Operand} {k : IntKind} {m n : Int} {r : Bool} (hx : ev L x = some (.int k m)) (hy : ev L y = some (.int k n)) (h : decide (n < m) = r) : Gp P L ⟨d, .binOp .gtr t x y t', ty, pos, af, gu⟩ (.bool r) := h ▸ Gp.gtI hx hy
theorem Gp.eqI' {t t' : TypeId} {x y : Operand} {k : IntKind} {m n : Int} {r : Bool} (hx : ev L x = some (.int k m)) (hy : ev L y = some (.int k n)) (h : (m == n) = r) : Gp P L ⟨d, .binOp .eql t x y t', ty, pos, af, gu⟩ (.bool r) := h ▸ Gp.eqI hx hy
theorem Gp.neI' {t t' : TypeId} {x y : Operand} {k : IntKind} {m n : Int} {r : Bool} (hx : ev L x = some (.int k m)) (hy : ev L y = some (.int k n)) (h : (m != n) = r) : Gp P L ⟨d, .binOp .neq t x y t', ty, pos, af, gu⟩ (.bool r) := h ▸ Gp.neI hx hy
theorem Gp.add' {t t' : TypeId} {x y : Operand} {k : IntKind} {m n r : Int} (hx : ev L x = some (.int k m)) (hy : ev L y = some (.int k n)) (h : k.wrap (m + n) = r) : Gp P L ⟨d, .binOp .add t x y t', ty, pos, af, gu⟩ (.int k r) := h ▸ Gp.add hx hy
theorem Gp.sub' {t t' : TypeId} {x y : Operand} {k : IntKind} {m n r : Int} (hx : ev L x = some (.int k m)) (hy : ev L y = some (.int k n)) (h : k.wrap (m - n) = r) : Gp P L ⟨d, .binOp .sub t x y t', ty, pos, af, gu⟩ (.int k r) := h ▸ Gp.sub hx hy
end
end Go.Proofs.YtcnlkfocbbkdhaaGreatDoor.Gb
namespace Go.Proofs.YtcnlkfocbbkdhaaGreatDoor.Gb
open Go
def Ph (i : Nat) (g : Prop) : Prop := g
section
variable {P : Program} {Q : Exit → Act → World → Prop} {cx : Cx} {L : List (Nat × Value)} {G Gs : Gh} {H Hs : List Own} {ops : Array Oper} {rest : List Oper} {l : List Oper} {fuel i : Nat} {listed : Array Bool} {o : Oper} {v : Value} {S : World → Prop}
theorem PhA.tp (hi : l[i]? = some o) (hk : okP l listed i = true) (hw : wantB l.toArray L o = some true) (hd : dOk o.dst cx.N = true) [hQ : QPan Q] (hv : Gp P L o v) (h : WA P l Q fuel (listed.setIfInBounds i true) cx (putL o.dst v L) G H) : Ph i (WA P l Q (fuel + 1) listed cx L G H) := WA.tp hi hk hw hd hv h
theorem PhA.sp (hi : l[i]? = some o) (hk : okP l listed i = true) (hw : wantB l.toArray L o = some false) (hd : dOk o.dst cx.N = true) [hQ : QPan Q] (h : WA P l Q fuel (listed.setIfInBounds i true) cx (putL o.dst undef L) G H) : Ph i (WA P l Q (fuel + 1) listed cx L G H) := WA.sp hi hk hw hd h
theorem PhA.tv (hi : l[i]? = some o) (hk : okV l listed i o = true) (hw : wantB l.toArray L o = some true) (hd : dOk o.dst cx.N = true) [hQ : QPan Q] (hv : Gv P L G H o v) (h : WA P l Q fuel (listed.setIfInBounds i true) cx (putL o.dst v L) G H) : Ph i (WA P l Q (fuel + 1) listed cx L G H) := WA.tv hi hk hw hd hv h
theorem PhA.one (hr : Region.ready .any l.toArray listed = [i]) (hi : l[i]? = some o) (hw : wantB l.toArray L o = some true) (h : OW P Q o cx L G H fun L' G' H' => WA P l Q fuel (listed.setIfInBounds i true) cx L' G' H') : Ph i (WA P l Q (fuel + 1) listed cx L G H) := WA.one hr hi hw h
theorem PhB.tp (hi : l[i]? = some o) (hk : okP l listed i = true) (hw : wantB l.toArray L o = some true) (hd : dOk o.dst cx.N = true) [hQ : QPan Q] (hv : Gp P L o v) (h : WB P l Q Gs Hs fuel (listed.setIfInBounds i true) cx (putL o.dst v L) G H) : Ph i (WB P l Q Gs Hs (fuel + 1) listed cx L G H) := WB.tp hi hk hw hd hv h
theorem PhB.sp (hi : l[i]? = some o) (hk : okP l listed i = true) (hw : wantB l.toArray L o = some false) (hd : dOk o.dst cx.N = true) [hQ : QPan Q] (h : WB P l Q Gs Hs fuel (listed.setIfInBounds i true) cx (putL o.dst undef L) G H) : Ph i (WB P l Q Gs Hs (fuel + 1) listed cx L G H) := WB.sp hi hk hw hd h
theorem PhB.tv (hi : l[i]? = some o) (hk : okP l listed i = true) (hw : wantB l.toArray L o = some true) (hd : dOk o.dst cx.N = true) [hQ : QPan Q] (hv : Gv P L Gs Hs o v) (h : WB P l Q Gs Hs fuel (listed.setIfInBounds i true) cx (putL o.dst v L) G H) : Ph i (WB P l Q Gs Hs (fuel + 1) listed cx L G H) := WB.tv hi hk hw hd hv h
theorem PhB.one (hr : Region.ready .any l.toArray listed = [i]) (hi : l[i]? = some o) (hw : wantB l.toArray L o = some true) (h : OW P Q o cx L G H fun L' G' H' => (∀ w, Sat G' H' w → Sat Gs Hs w) ∧ WB P l Q Gs Hs fuel (listed.setIfInBounds i true) cx L' G' H') : Ph i (WB P l Q Gs Hs (fuel + 1) listed cx L G H) := WB.one hr hi hw h
theorem WL.pp (g : Gp P L o v) (k : WL P ops Q rest cx (putL o.dst v L) G H) (hw : wantB ops L o = some true := by kernel_rfl) (hd : dOk o.dst cx.N = true := by rfl) : WL P ops Q (o :: rest) cx L G H := WL.p g hw hd k
theorem WL.vv (g : Gv P L G H o v) (k : WL P ops Q rest cx (putL o.dst v L) G H) (hw : wantB ops L o = some true := by kernel_rfl) (hd : dOk o.dst cx.N = true := by rfl) : WL P ops Q (o :: rest) cx L G H := WL.v g hw hd k
theorem WL.oo (h : OW P Q o cx L G H fun L' G' H' => WL P ops Q rest cx L' G' H') (hw : wantB ops L o = some true := by kernel_rfl) : WL P ops Q (o :: rest) cx L G H := WL.op hw h
theorem WA.pp (i : Nat) (hi : l[i]? = some o) [hQ : QPan Q] (hv : Gp P L o v) (h : WA P l Q fuel (listed.setIfInBounds i true) cx (putL o.dst v L) G H) (hk : okP l listed i = true := by kernel_rfl) (hw : wantB l.toArray L o = some true := by kernel_rfl) (hd : dOk o.dst cx.N = true := by rfl) : WA P l Q (fuel + 1) listed cx L G H := WA.tp hi hk hw hd hv h
theorem WA.vv (i : Nat) (hi : l[i]? = some o) [hQ : QPan Q] (hv : Gv P L G H o v) (h : WA P l Q fuel (listed.setIfInBounds i true) cx (putL o.dst v L) G H) (hk : okV l listed i o = true := by kernel_rfl) (hw : wantB l.toArray L o = some true := by kernel_rfl) (hd : dOk o.dst cx.N = true := by rfl) : WA P l Q (fuel + 1) listed cx L G H := WA.tv hi hk hw hd hv h
theorem WA.oo (i : Nat) (hi : l[i]? = some o) (h : OW P Q o cx L G H fun L' G' H' => WA P l Q fuel (listed.setIfInBounds i true) cx L' G' H') (hr : Region.ready .any l.toArray listed = [i] := by kernel_rfl) (hw : wantB l.toArray L o = some true := by kernel_rfl) : WA P l Q (fuel + 1) listed cx L G H := WA.one hr hi hw h
theorem WB.pp (i : Nat) (hi : l[i]? = some o) [hQ : QPan Q] (hv : Gp P L o v) (h : WB P l Q Gs Hs fuel (listed.setIfInBounds i true) cx (putL o.dst v L) G H) (hk : okP l listed i = true := by kernel_rfl) (hw : wantB l.toArray L o = some true := by kernel_rfl) (hd : dOk o.dst cx.N = true := by rfl) : WB P l Q Gs Hs (fuel + 1) listed cx L G H := WB.tp hi hk hw hd hv h
theorem WB.vv (i : Nat) (hi : l[i]? = some o) [hQ : QPan Q] (hv : Gv P L Gs Hs o v) (h : WB P l Q Gs Hs fuel (listed.setIfInBounds i true) cx (putL o.dst v L) G H) (hk : okP l listed i = true := by kernel_rfl) (hw : wantB l.toArray L o = some true := by kernel_rfl) (hd : dOk o.dst cx.N = true := by rfl) : WB P l Q Gs Hs (fuel + 1) listed cx L G H := WB.tv hi hk hw hd hv h
theorem WB.oo (i : Nat) (hi : l[i]? = some o) (h : OW P Q o cx L G H fun L' G' H' => (∀ w, Sat G' H' w → Sat Gs Hs w) ∧ WB P l Q Gs Hs fuel (listed.setIfInBounds i true) cx L' G' H') (hr : Region.ready .any l.toArray listed = [i] := by kernel_rfl) (hw : wantB l.toArray L o = some true := by kernel_rfl) : WB P l Q Gs Hs (fuel + 1) listed cx L G H := WB.one hr hi hw h
end
section
variable {P : Program} {Q : Exit → Act → World → Prop} {cx : Cx} {L : List (Nat × Value)} {G : Gh} {H : List Own}
theorem WC.rt {g' : Prop} (h : g') (e : Un (WK (Q .ret) cx L G H) g' := by repeat (first | with_reducible exact Un.thN | with_reducible apply Un.thR | with_reducible apply Un.thE | with_reducible apply Un.thP | with_reducible apply Un.blN | with_reducible apply Un.blR | with_reducible apply Un.blP | with_reducible apply Un.blE | with_reducible refine Un.blO rfl ?_ | with_reducible apply Un.thJ | exact Un.rfl')) : WC P .ret Q cx L G H := WC.ret (e h)
end
theorem zw.eq {g g' : Prop} (h : g') (e : Bx g' → g := by
  intro hgo
  (first | refine WL.p (Gp.eqI rfl rfl) (by kernel_rfl) rfl ?_ | refine WL.p (Gp.eqS rfl rfl) (by kernel_rfl) rfl ?_ | refine WL.p (Gp.nilSl rfl) (by kernel_rfl) rfl ?_ | refine WL.p (Gp.eqB rfl rfl) (by kernel_rfl) rfl ?_)
  exact hgo.out) : g := e ⟨h⟩
theorem za.eq (i : Nat) {g g' : Prop} (h : g') (e : Bx g' → Ph i g := by
  intro hgo
  (first | refine PhA.tp rfl (by kernel_rfl) (by kernel_rfl) rfl (Gp.eqI rfl rfl) ?_ | refine PhA.tp rfl (by kernel_rfl) (by kernel_rfl) rfl (Gp.eqS rfl rfl) ?_ | refine PhA.tp rfl (by kernel_rfl) (by kernel_rfl) rfl (Gp.nilSl rfl) ?_ | refine PhA.tp rfl (by kernel_rfl) (by kernel_rfl) rfl (Gp.eqB rfl rfl) ?_)
  exact hgo.out) : g := e ⟨h⟩
theorem zb.eq (i : Nat) {g g' : Prop} (h : g') (e : Bx g' → Ph i g := by
  intro hgo
  (first | refine PhB.tp rfl (by kernel_rfl) (by kernel_rfl) rfl (Gp.eqI rfl rfl) ?_ | refine PhB.tp rfl (by kernel_rfl) (by kernel_rfl) rfl (Gp.eqS rfl rfl) ?_ | refine PhB.tp rfl (by kernel_rfl) (by kernel_rfl) rfl (Gp.nilSl rfl) ?_ | refine PhB.tp rfl (by kernel_rfl) (by kernel_rfl) rfl (Gp.eqB rfl rfl) ?_)
  exact hgo.out) : g := e ⟨h⟩
theorem zw.ne {g g' : Prop} (h : g') (e : Bx g' → g := by
  intro hgo
  (first | refine WL.p (Gp.neI rfl rfl) (by kernel_rfl) rfl ?_ | refine WL.p (Gp.neS rfl rfl) (by kernel_rfl) rfl ?_ | refine WL.p (Gp.neB rfl rfl) (by kernel_rfl) rfl ?_)
  exact hgo.out) : g := e ⟨h⟩
theorem za.ne (i : Nat) {g g' : Prop} (h : g') (e : Bx g' → Ph i g := by
  intro hgo
  (first | refine PhA.tp rfl (by kernel_rfl) (by kernel_rfl) rfl (Gp.neI rfl rfl) ?_ | refine PhA.tp rfl (by kernel_rfl) (by kernel_rfl) rfl (Gp.neS rfl rfl) ?_ | refine PhA.tp rfl (by kernel_rfl) (by kernel_rfl) rfl (Gp.neB rfl rfl) ?_)
  exact hgo.out) : g := e ⟨h⟩
theorem zb.ne (i : Nat) {g g' : Prop} (h : g') (e : Bx g' → Ph i g := by
  intro hgo
  (first | refine PhB.tp rfl (by kernel_rfl) (by kernel_rfl) rfl (Gp.neI rfl rfl) ?_ | refine PhB.tp rfl (by kernel_rfl) (by kernel_rfl) rfl (Gp.neS rfl rfl) ?_ | refine PhB.tp rfl (by kernel_rfl) (by kernel_rfl) rfl (Gp.neB rfl rfl) ?_)
  exact hgo.out) : g := e ⟨h⟩
theorem zw.pick {g g' : Prop} (h : g') (e : Bx g' → g := by
  intro hgo
  (first | refine WL.p (Gp.pickT rfl rfl) (by kernel_rfl) rfl ?_ | refine WL.p (Gp.pickF rfl rfl) (by kernel_rfl) rfl ?_)
  exact hgo.out) : g := e ⟨h⟩
theorem za.pick (i : Nat) {g g' : Prop} (h : g') (e : Bx g' → Ph i g := by
  intro hgo
  (first | refine PhA.tp rfl (by kernel_rfl) (by kernel_rfl) rfl (Gp.pickT rfl rfl) ?_ | refine PhA.tp rfl (by kernel_rfl) (by kernel_rfl) rfl (Gp.pickF rfl rfl) ?_)
  exact hgo.out) : g := e ⟨h⟩
theorem zb.pick (i : Nat) {g g' : Prop} (h : g') (e : Bx g' → Ph i g := by
  intro hgo
  (first | refine PhB.tp rfl (by kernel_rfl) (by kernel_rfl) rfl (Gp.pickT rfl rfl) ?_ | refine PhB.tp rfl (by kernel_rfl) (by kernel_rfl) rfl (Gp.pickF rfl rfl) ?_)
  exact hgo.out) : g := e ⟨h⟩
theorem zw.len {g g' : Prop} (h : g') (e : Bx g' → g := by
  intro hgo
  (first | refine WL.p (Gp.lenSl rfl) (by kernel_rfl) rfl ?_ | refine WL.p (Gp.lenS rfl) (by kernel_rfl) rfl ?_)
  exact hgo.out) : g := e ⟨h⟩
theorem za.len (i : Nat) {g g' : Prop} (h : g') (e : Bx g' → Ph i g := by
  intro hgo
  (first | refine PhA.tp rfl (by kernel_rfl) (by kernel_rfl) rfl (Gp.lenSl rfl) ?_ | refine PhA.tp rfl (by kernel_rfl) (by kernel_rfl) rfl (Gp.lenS rfl) ?_)
  exact hgo.out) : g := e ⟨h⟩
theorem zb.len (i : Nat) {g g' : Prop} (h : g') (e : Bx g' → Ph i g := by
  intro hgo
  (first | refine PhB.tp rfl (by kernel_rfl) (by kernel_rfl) rfl (Gp.lenSl rfl) ?_ | refine PhB.tp rfl (by kernel_rfl) (by kernel_rfl) rfl (Gp.lenS rfl) ?_)
  exact hgo.out) : g := e ⟨h⟩
theorem zw.add {g g' : Prop} (h : g') (e : Bx g' → g := by
  intro hgo
  (first | refine WL.p (Gp.add rfl rfl) (by kernel_rfl) rfl ?_ | refine WL.p (Gp.addS rfl rfl (by first | assumption | omega)) (by kernel_rfl) rfl ?_)
  exact hgo.out) : g := e ⟨h⟩
theorem za.add (i : Nat) {g g' : Prop} (h : g') (e : Bx g' → Ph i g := by
  intro hgo
  (first | refine PhA.tp rfl (by kernel_rfl) (by kernel_rfl) rfl (Gp.add rfl rfl) ?_ | refine PhA.tp rfl (by kernel_rfl) (by kernel_rfl) rfl (Gp.addS rfl rfl (by first | assumption | omega)) ?_)
  exact hgo.out) : g := e ⟨h⟩
theorem zb.add (i : Nat) {g g' : Prop} (h : g') (e : Bx g' → Ph i g := by
  intro hgo
  (first | refine PhB.tp rfl (by kernel_rfl) (by kernel_rfl) rfl (Gp.add rfl rfl) ?_ | refine PhB.tp rfl (by kernel_rfl) (by kernel_rfl) rfl (Gp.addS rfl rfl (by first | assumption | omega)) ?_)
  exact hgo.out) : g := e ⟨h⟩
theorem zw.lt {g g' : Prop} (h : g') (e : Bx g' → g := by
  intro hgo
  (first | refine WL.p (Gp.ltI rfl rfl) (by kernel_rfl) rfl ?_ | refine WL.p (Gp.ltS rfl rfl) (by kernel_rfl) rfl ?_)
  exact hgo.out) : g := e ⟨h⟩
theorem za.lt (i : Nat) {g g' : Prop} (h : g') (e : Bx g' → Ph i g := by
  intro hgo
  (first | refine PhA.tp rfl (by kernel_rfl) (by kernel_rfl) rfl (Gp.ltI rfl rfl) ?_ | refine PhA.tp rfl (by kernel_rfl) (by kernel_rfl) rfl (Gp.ltS rfl rfl) ?_)
  exact hgo.out) : g := e ⟨h⟩
theorem zb.lt (i : Nat) {g g' : Prop} (h : g') (e : Bx g' → Ph i g := by
  intro hgo
  (first | refine PhB.tp rfl (by kernel_rfl) (by kernel_rfl) rfl (Gp.ltI rfl rfl) ?_ | refine PhB.tp rfl (by kernel_rfl) (by kernel_rfl) rfl (Gp.ltS rfl rfl) ?_)
  exact hgo.out) : g := e ⟨h⟩
theorem zw.ge {g g' : Prop} (h : g') (e : Bx g' → g := by
  intro hgo
  (first | refine WL.p (Gp.geI rfl rfl) (by kernel_rfl) rfl ?_ | refine WL.p (Gp.geS rfl rfl) (by kernel_rfl) rfl ?_)
  exact hgo.out) : g := e ⟨h⟩
theorem za.ge (i : Nat) {g g' : Prop} (h : g') (e : Bx g' → Ph i g := by
  intro hgo
  (first | refine PhA.tp rfl (by kernel_rfl) (by kernel_rfl) rfl (Gp.geI rfl rfl) ?_ | refine PhA.tp rfl (by kernel_rfl) (by kernel_rfl) rfl (Gp.geS rfl rfl) ?_)
  exact hgo.out) : g := e ⟨h⟩
theorem zb.ge (i : Nat) {g g' : Prop} (h : g') (e : Bx g' → Ph i g := by
  intro hgo
  (first | refine PhB.tp rfl (by kernel_rfl) (by kernel_rfl) rfl (Gp.geI rfl rfl) ?_ | refine PhB.tp rfl (by kernel_rfl) (by kernel_rfl) rfl (Gp.geS rfl rfl) ?_)
  exact hgo.out) : g := e ⟨h⟩
theorem zw.gt {g g' : Prop} (h : g') (e : Bx g' → g := by
  intro hgo
  (first | refine WL.p (Gp.gtI rfl rfl) (by kernel_rfl) rfl ?_ | refine WL.p (Gp.gtS rfl rfl) (by kernel_rfl) rfl ?_)
  exact hgo.out) : g := e ⟨h⟩
theorem za.gt (i : Nat) {g g' : Prop} (h : g') (e : Bx g' → Ph i g := by
  intro hgo
  (first | refine PhA.tp rfl (by kernel_rfl) (by kernel_rfl) rfl (Gp.gtI rfl rfl) ?_ | refine PhA.tp rfl (by kernel_rfl) (by kernel_rfl) rfl (Gp.gtS rfl rfl) ?_)
  exact hgo.out) : g := e ⟨h⟩
theorem zb.gt (i : Nat) {g g' : Prop} (h : g') (e : Bx g' → Ph i g := by
  intro hgo
  (first | refine PhB.tp rfl (by kernel_rfl) (by kernel_rfl) rfl (Gp.gtI rfl rfl) ?_ | refine PhB.tp rfl (by kernel_rfl) (by kernel_rfl) rfl (Gp.gtS rfl rfl) ?_)
  exact hgo.out) : g := e ⟨h⟩
theorem zw.le {g g' : Prop} (h : g') (e : Bx g' → g := by
  intro hgo
  (first | refine WL.p (Gp.leI rfl rfl) (by kernel_rfl) rfl ?_ | refine WL.p (Gp.leS rfl rfl) (by kernel_rfl) rfl ?_)
  exact hgo.out) : g := e ⟨h⟩
theorem za.le (i : Nat) {g g' : Prop} (h : g') (e : Bx g' → Ph i g := by
  intro hgo
  (first | refine PhA.tp rfl (by kernel_rfl) (by kernel_rfl) rfl (Gp.leI rfl rfl) ?_ | refine PhA.tp rfl (by kernel_rfl) (by kernel_rfl) rfl (Gp.leS rfl rfl) ?_)
  exact hgo.out) : g := e ⟨h⟩
theorem zb.le (i : Nat) {g g' : Prop} (h : g') (e : Bx g' → Ph i g := by
  intro hgo
  (first | refine PhB.tp rfl (by kernel_rfl) (by kernel_rfl) rfl (Gp.leI rfl rfl) ?_ | refine PhB.tp rfl (by kernel_rfl) (by kernel_rfl) rfl (Gp.leS rfl rfl) ?_)
  exact hgo.out) : g := e ⟨h⟩
theorem zw.move {g g' : Prop} (h : g') (e : Bx g' → g := by
  intro hgo
  refine WL.p (Gp.move rfl) (by kernel_rfl) rfl ?_
  exact hgo.out) : g := e ⟨h⟩
theorem za.move (i : Nat) {g g' : Prop} (h : g') (e : Bx g' → Ph i g := by
  intro hgo
  refine PhA.tp rfl (by kernel_rfl) (by kernel_rfl) rfl (Gp.move rfl) ?_
  exact hgo.out) : g := e ⟨h⟩
theorem zb.move (i : Nat) {g g' : Prop} (h : g') (e : Bx g' → Ph i g := by
  intro hgo
  refine PhB.tp rfl (by kernel_rfl) (by kernel_rfl) rfl (Gp.move rfl) ?_
  exact hgo.out) : g := e ⟨h⟩
theorem zw.assign {g g' : Prop} (h : g') (e : Bx g' → g := by
  intro hgo
  refine WL.p (Gp.assign rfl) (by kernel_rfl) rfl ?_
  exact hgo.out) : g := e ⟨h⟩
theorem za.assign (i : Nat) {g g' : Prop} (h : g') (e : Bx g' → Ph i g := by
  intro hgo
  refine PhA.tp rfl (by kernel_rfl) (by kernel_rfl) rfl (Gp.assign rfl) ?_
  exact hgo.out) : g := e ⟨h⟩
theorem zb.assign (i : Nat) {g g' : Prop} (h : g') (e : Bx g' → Ph i g := by
  intro hgo
  refine PhB.tp rfl (by kernel_rfl) (by kernel_rfl) rfl (Gp.assign rfl) ?_
  exact hgo.out) : g := e ⟨h⟩
theorem zw.nil {g g' : Prop} (h : g') (e : Bx g' → g := by
  intro hgo
  refine WL.p (Gp.nilCheck rfl) (by kernel_rfl) rfl ?_
  exact hgo.out) : g := e ⟨h⟩
theorem za.nil (i : Nat) {g g' : Prop} (h : g') (e : Bx g' → Ph i g := by
  intro hgo
  refine PhA.tp rfl (by kernel_rfl) (by kernel_rfl) rfl (Gp.nilCheck rfl) ?_
  exact hgo.out) : g := e ⟨h⟩
theorem zb.nil (i : Nat) {g g' : Prop} (h : g') (e : Bx g' → Ph i g := by
  intro hgo
  refine PhB.tp rfl (by kernel_rfl) (by kernel_rfl) rfl (Gp.nilCheck rfl) ?_
  exact hgo.out) : g := e ⟨h⟩
theorem zw.fa {g g' : Prop} (h : g') (e : Bx g' → g := by
  intro hgo
  refine WL.p (Gp.fieldAddr rfl) (by kernel_rfl) rfl ?_
  exact hgo.out) : g := e ⟨h⟩
theorem za.fa (i : Nat) {g g' : Prop} (h : g') (e : Bx g' → Ph i g := by
  intro hgo
  refine PhA.tp rfl (by kernel_rfl) (by kernel_rfl) rfl (Gp.fieldAddr rfl) ?_
  exact hgo.out) : g := e ⟨h⟩
theorem zb.fa (i : Nat) {g g' : Prop} (h : g') (e : Bx g' → Ph i g := by
  intro hgo
  refine PhB.tp rfl (by kernel_rfl) (by kernel_rfl) rfl (Gp.fieldAddr rfl) ?_
  exact hgo.out) : g := e ⟨h⟩
theorem zw.ext {g g' : Prop} (h : g') (e : Bx g' → g := by
  intro hgo
  refine WL.p (Gp.extract rfl rfl) (by kernel_rfl) rfl ?_
  exact hgo.out) : g := e ⟨h⟩
theorem za.ext (i : Nat) {g g' : Prop} (h : g') (e : Bx g' → Ph i g := by
  intro hgo
  refine PhA.tp rfl (by kernel_rfl) (by kernel_rfl) rfl (Gp.extract rfl rfl) ?_
  exact hgo.out) : g := e ⟨h⟩
theorem zb.ext (i : Nat) {g g' : Prop} (h : g') (e : Bx g' → Ph i g := by
  intro hgo
  refine PhB.tp rfl (by kernel_rfl) (by kernel_rfl) rfl (Gp.extract rfl rfl) ?_
  exact hgo.out) : g := e ⟨h⟩
theorem zw.build {g g' : Prop} (h : g') (e : Bx g' → g := by
  intro hgo
  refine WL.p (Gp.build rfl rfl) (by kernel_rfl) rfl ?_
  exact hgo.out) : g := e ⟨h⟩
theorem za.build (i : Nat) {g g' : Prop} (h : g') (e : Bx g' → Ph i g := by
  intro hgo
  refine PhA.tp rfl (by kernel_rfl) (by kernel_rfl) rfl (Gp.build rfl rfl) ?_
  exact hgo.out) : g := e ⟨h⟩
theorem zb.build (i : Nat) {g g' : Prop} (h : g') (e : Bx g' → Ph i g := by
  intro hgo
  refine PhB.tp rfl (by kernel_rfl) (by kernel_rfl) rfl (Gp.build rfl rfl) ?_
  exact hgo.out) : g := e ⟨h⟩
theorem zw.sub {g g' : Prop} (h : g') (e : Bx g' → g := by
  intro hgo
  refine WL.p (Gp.sub rfl rfl) (by kernel_rfl) rfl ?_
  exact hgo.out) : g := e ⟨h⟩
theorem za.sub (i : Nat) {g g' : Prop} (h : g') (e : Bx g' → Ph i g := by
  intro hgo
  refine PhA.tp rfl (by kernel_rfl) (by kernel_rfl) rfl (Gp.sub rfl rfl) ?_
  exact hgo.out) : g := e ⟨h⟩
theorem zb.sub (i : Nat) {g g' : Prop} (h : g') (e : Bx g' → Ph i g := by
  intro hgo
  refine PhB.tp rfl (by kernel_rfl) (by kernel_rfl) rfl (Gp.sub rfl rfl) ?_
  exact hgo.out) : g := e ⟨h⟩
theorem zw.mul {g g' : Prop} (h : g') (e : Bx g' → g := by
  intro hgo
  refine WL.p (Gp.mul rfl rfl) (by kernel_rfl) rfl ?_
  exact hgo.out) : g := e ⟨h⟩
theorem za.mul (i : Nat) {g g' : Prop} (h : g') (e : Bx g' → Ph i g := by
  intro hgo
  refine PhA.tp rfl (by kernel_rfl) (by kernel_rfl) rfl (Gp.mul rfl rfl) ?_
  exact hgo.out) : g := e ⟨h⟩
theorem zb.mul (i : Nat) {g g' : Prop} (h : g') (e : Bx g' → Ph i g := by
  intro hgo
  refine PhB.tp rfl (by kernel_rfl) (by kernel_rfl) rfl (Gp.mul rfl rfl) ?_
  exact hgo.out) : g := e ⟨h⟩
theorem zw.not {g g' : Prop} (h : g') (e : Bx g' → g := by
  intro hgo
  refine WL.p (Gp.notB rfl) (by kernel_rfl) rfl ?_
  exact hgo.out) : g := e ⟨h⟩
theorem za.not (i : Nat) {g g' : Prop} (h : g') (e : Bx g' → Ph i g := by
  intro hgo
  refine PhA.tp rfl (by kernel_rfl) (by kernel_rfl) rfl (Gp.notB rfl) ?_
  exact hgo.out) : g := e ⟨h⟩
theorem zb.not (i : Nat) {g g' : Prop} (h : g') (e : Bx g' → Ph i g := by
  intro hgo
  refine PhB.tp rfl (by kernel_rfl) (by kernel_rfl) rfl (Gp.notB rfl) ?_
  exact hgo.out) : g := e ⟨h⟩
theorem zw.neg {g g' : Prop} (h : g') (e : Bx g' → g := by
  intro hgo
  refine WL.p (Gp.negI rfl) (by kernel_rfl) rfl ?_
  exact hgo.out) : g := e ⟨h⟩
theorem za.neg (i : Nat) {g g' : Prop} (h : g') (e : Bx g' → Ph i g := by
  intro hgo
  refine PhA.tp rfl (by kernel_rfl) (by kernel_rfl) rfl (Gp.negI rfl) ?_
  exact hgo.out) : g := e ⟨h⟩
theorem zb.neg (i : Nat) {g g' : Prop} (h : g') (e : Bx g' → Ph i g := by
  intro hgo
  refine PhB.tp rfl (by kernel_rfl) (by kernel_rfl) rfl (Gp.negI rfl) ?_
  exact hgo.out) : g := e ⟨h⟩
theorem zw.conv {g g' : Prop} (h : g') (e : Bx g' → g := by
  intro hgo
  refine WL.p (Gp.convI rfl) (by kernel_rfl) rfl ?_
  exact hgo.out) : g := e ⟨h⟩
theorem za.conv (i : Nat) {g g' : Prop} (h : g') (e : Bx g' → Ph i g := by
  intro hgo
  refine PhA.tp rfl (by kernel_rfl) (by kernel_rfl) rfl (Gp.convI rfl) ?_
  exact hgo.out) : g := e ⟨h⟩
theorem zb.conv (i : Nat) {g g' : Prop} (h : g') (e : Bx g' → Ph i g := by
  intro hgo
  refine PhB.tp rfl (by kernel_rfl) (by kernel_rfl) rfl (Gp.convI rfl) ?_
  exact hgo.out) : g := e ⟨h⟩
theorem zw.iface {g g' : Prop} (h : g') (e : Bx g' → g := by
  intro hgo
  refine WL.p (Gp.mkIface rfl (by kernel_rfl)) (by kernel_rfl) rfl ?_
  exact hgo.out) : g := e ⟨h⟩
theorem za.iface (i : Nat) {g g' : Prop} (h : g') (e : Bx g' → Ph i g := by
  intro hgo
  refine PhA.tp rfl (by kernel_rfl) (by kernel_rfl) rfl (Gp.mkIface rfl (by kernel_rfl)) ?_
  exact hgo.out) : g := e ⟨h⟩
theorem zb.iface (i : Nat) {g g' : Prop} (h : g') (e : Bx g' → Ph i g := by
  intro hgo
  refine PhB.tp rfl (by kernel_rfl) (by kernel_rfl) rfl (Gp.mkIface rfl (by kernel_rfl)) ?_
  exact hgo.out) : g := e ⟨h⟩
theorem zw.ix {g g' : Prop} (h : g') (e : Bx g' → g := by
  intro hgo
  refine WL.p (Gp.indexAddr rfl rfl (by first | assumption | omega | decide) (by first | assumption | omega | decide | (simp only [List.length_cons, List.length_nil]; decide))) (by kernel_rfl) rfl ?_
  exact hgo.out) : g := e ⟨h⟩
theorem za.ix (i : Nat) {g g' : Prop} (h : g') (e : Bx g' → Ph i g := by
  intro hgo
  refine PhA.tp rfl (by kernel_rfl) (by kernel_rfl) rfl (Gp.indexAddr rfl rfl (by first | assumption | omega | decide) (by first | assumption | omega | decide | (simp only [List.length_cons, List.length_nil]; decide))) ?_
  exact hgo.out) : g := e ⟨h⟩
theorem zb.ix (i : Nat) {g g' : Prop} (h : g') (e : Bx g' → Ph i g := by
  intro hgo
  refine PhB.tp rfl (by kernel_rfl) (by kernel_rfl) rfl (Gp.indexAddr rfl rfl (by first | assumption | omega | decide) (by first | assumption | omega | decide | (simp only [List.length_cons, List.length_nil]; decide))) ?_
  exact hgo.out) : g := e ⟨h⟩
theorem zw.ld {g g' : Prop} (h : g') (e : Bx g' → g := by
  intro hgo
  (first | (refine WL.v (Gv.load1 rfl (by (repeat first | exact .here | apply At.there)) (by first | rfl | assumption)) (by kernel_rfl) rfl ?_) | (refine WL.v (Gv.loadN rfl (by (repeat first | exact .here | apply At.there)) (by rfl) (by rfl)) (by kernel_rfl) rfl ?_) | (refine WL.v (Gv.loadG1 rfl (by assumption) rfl) (by kernel_rfl) rfl ?_) | (refine WL.v (Gv.loadG0 rfl (by assumption) rfl) (by kernel_rfl) rfl ?_) | (refine WL.v (Gv.loadGN rfl (by assumption) rfl) (by kernel_rfl) rfl ?_))
  exact hgo.out) : g := e ⟨h⟩
theorem za.ld (i : Nat) {g g' : Prop} (h : g') (e : Bx g' → Ph i g := by
  intro hgo
  (first | (refine PhA.tv rfl (by kernel_rfl) (by kernel_rfl) rfl (Gv.load1 rfl (by (repeat first | exact .here | apply At.there)) (by first | rfl | assumption)) ?_) | (refine PhA.tv rfl (by kernel_rfl) (by kernel_rfl) rfl (Gv.loadN rfl (by (repeat first | exact .here | apply At.there)) (by rfl) (by rfl)) ?_) | (refine PhA.tv rfl (by kernel_rfl) (by kernel_rfl) rfl (Gv.loadG1 rfl (by assumption) rfl) ?_) | (refine PhA.tv rfl (by kernel_rfl) (by kernel_rfl) rfl (Gv.loadG0 rfl (by assumption) rfl) ?_) | (refine PhA.tv rfl (by kernel_rfl) (by kernel_rfl) rfl (Gv.loadGN rfl (by assumption) rfl) ?_))
  exact hgo.out) : g := e ⟨h⟩
theorem zb.ld (i : Nat) {g g' : Prop} (h : g') (e : Bx g' → Ph i g := by
  intro hgo
  (first | (refine PhB.tv rfl (by kernel_rfl) (by kernel_rfl) rfl (Gv.load1 rfl (by (repeat first | exact .here | apply At.there)) (by first | rfl | assumption)) ?_) | (refine PhB.tv rfl (by kernel_rfl) (by kernel_rfl) rfl (Gv.loadN rfl (by (repeat first | exact .here | apply At.there)) (by rfl) (by rfl)) ?_) | (refine PhB.tv rfl (by kernel_rfl) (by kernel_rfl) rfl (Gv.loadG1 rfl (by assumption) rfl) ?_) | (refine PhB.tv rfl (by kernel_rfl) (by kernel_rfl) rfl (Gv.loadG0 rfl (by assumption) rfl) ?_) | (refine PhB.tv rfl (by kernel_rfl) (by kernel_rfl) rfl (Gv.loadGN rfl (by assumption) rfl) ?_))
  exact hgo.out) : g := e ⟨h⟩
theorem zw.st {g g' : Prop} (h : g') (e : Bx g' → g := by
  intro hgo
  refine WL.op (by kernel_rfl) (OW.store rfl rfl (by (repeat first | exact .here | apply At.there)) rfl (by rfl) (by rfl) (by kernel_rfl) (by rfl) ?_ rfl)
  exact hgo.out) : g := e ⟨h⟩
theorem za.st (i : Nat) {g g' : Prop} (h : g') (e : Bx g' → Ph i g := by
  intro hgo
  refine PhA.one (by kernel_rfl) rfl (by kernel_rfl) (OW.store rfl rfl (by (repeat first | exact .here | apply At.there)) rfl (by rfl) (by rfl) (by kernel_rfl) (by rfl) ?_ rfl)
  exact hgo.out) : g := e ⟨h⟩
theorem zb.st (i : Nat) {g g' : Prop} (h : g') (e : Bx g' → Ph i g := by
  intro hgo
  refine PhB.one (by kernel_rfl) rfl (by kernel_rfl) (OW.store rfl rfl (by (repeat first | exact .here | apply At.there)) rfl (by rfl) (by rfl) (by kernel_rfl) (by rfl) ?_ rfl)
  exact hgo.out) : g := e ⟨h⟩
theorem zw.skip {g g' : Prop} (h : g') (e : Bx g' → g := by
  intro hgo
  refine WL.skip (by kernel_rfl) rfl ?_
  exact hgo.out) : g := e ⟨h⟩
theorem za.skip (i : Nat) {g g' : Prop} (h : g') (e : Bx g' → Ph i g := by
  intro hgo
  refine PhA.sp rfl (by kernel_rfl) (by kernel_rfl) rfl ?_
  exact hgo.out) : g := e ⟨h⟩
theorem zb.skip (i : Nat) {g g' : Prop} (h : g') (e : Bx g' → Ph i g := by
  intro hgo
  refine PhB.sp rfl (by kernel_rfl) (by kernel_rfl) rfl ?_
  exact hgo.out) : g := e ⟨h⟩
end Go.Proofs.YtcnlkfocbbkdhaaGreatDoor.Gb
