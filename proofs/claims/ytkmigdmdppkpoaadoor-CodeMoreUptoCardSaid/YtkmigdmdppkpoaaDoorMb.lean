/- Slices: cut, made, appended to; what is ours becomes what stays. What is known of the types and functions of this seat, as the rules of the small logic ask for it. More rules: lists that are made and copied into, memory that comes to stay, calls that are put off, what is behind an interface. Calls that are put off, what recovers, function values, interfaces. Taking things of ours out of a list, in any order. Two that may come in either order; single cells of what is ours. -/
import Derived.Test.YtkmigdmdppkpoaaDoorMa
import Derived.Laws.MakeOwn
import Derived.Test.YtkmigdmdppkpoaaDoorProg
import Derived.Recover
import Derived.WideLaws
import Derived.Laws.CopyRow
import Derived.Laws.Pointers
set_option linter.unusedVariables false
set_option linter.unusedSimpArgs false
set_option linter.unusedSectionVars false
namespace Go.Proofs.YtkmigdmdppkpoaaDoor.Gb
open Go
set_option linter.unusedVariables false
set_option linter.unusedSimpArgs false

section
variable {P : Program} {Q : Exit → Act → World → Prop} {cx : Cx} {L : List (Nat × Value)} {G : Gh} {H : List Own} {K : List (Nat × Value) → Gh → List Own → Prop}
  {d : Option Tmp} {ty : TypeId} {pos : String} {af : Array Edge} {gu : Option (Nat × Bool)}

/-- these cells can be read, from the first cell of a slice on -/
def Rds (G : Gh) (H : List Own) (A : Option Addr) (cs : List Value) : Prop := cs = [] ∨ ∃ b o, A = some ⟨b, o, none⟩ ∧ ∀ w, Sat G H w → ∀ j v, cs[j]? = some v → w.cell? ⟨b, o + j, none⟩ = some v
theorem Rds.nil (G : Gh) (H : List Own) (A : Option Addr) : Rds G H A [] := .inl rfl
theorem Rds.cs {b o : Nat} {cs : List Value} (h : Cs G b o cs) : Rds G H (some ⟨b, o, none⟩) cs := .inr ⟨b, o, rfl, fun w s j v e => s.agr _ _ _ (h j v e)⟩
theorem Rds.blk {b o j : Nat} {c : Array Value} {t : TypeId} {fr : Nat × Nat} {cs : List Value} (hj : At H j (.blk b (.cells c t fr))) (hc : ∀ j v, cs[j]? = some v → c[o + j]? = some v) : Rds G H (some ⟨b, o, none⟩) cs :=
  .inr ⟨b, o, rfl, fun w s j v e => by rw [Own.cell (s.hold _ (List.mem_of_getElem? hj.get))]; exact hc j v e⟩
theorem Rds.blk0 {b j : Nat} {c : Array Value} {t : TypeId} {fr : Nat × Nat} {cs : List Value} (hj : At H j (.blk b (.cells c t fr))) (hc : c.toList = cs) : Rds G H (some ⟨b, 0, none⟩) cs :=
  Rds.blk (o := 0) hj fun j v e => by rw [← hc] at e; simpa using e
theorem Rds.mono {G' : Gh} {A : Option Addr} {cs : List Value} (h : Rds G H A cs) (hs : ∀ w, Sat G' H w → Sat G H w) : Rds G' H A cs := by
  rcases h with h | ⟨b, o, e, h⟩
  · exact .inl h
  · exact .inr ⟨b, o, e, fun w s => h w (hs w s)⟩
theorem Sat.le {G' : Gh} {w : World} (h : Sat G' H w) (hg : G.le G') : Sat G H w :=
  ⟨fun b o v e => h.agr b o v (hg b o v e), h.hold, h.apart, fun x hx b o hc => by
    cases hgb : G b o with
    | none => rfl
    | some v => have := hg b o v hgb; rw [h.ghost x hx b o hc] at this; cases this⟩
theorem Rds.le {G' : Gh} {A : Option Addr} {cs : List Value} (h : Rds G H A cs) (hg : G.le G') : Rds G' H A cs := h.mono fun _ s => s.le hg

theorem Rds.cons {A : Option Addr} {cs : List Value} (h : Rds G H A cs) (x : Own) : Rds G (x :: H) A cs := by
  rcases h with h | ⟨b, o, e, h⟩
  · exact .inl h
  · exact .inr ⟨b, o, e, fun w s => h w (s.sub (List.sublist_cons_self x H))⟩
/-- a slice's elements, one behind the other -/
theorem Sl.rds {α : Type} {k : Kd α} (hn : 0 < k.n) {A : Option Addr} {xs : List α} (h : Sl k G A xs) : ∃ cs, Rds G H A cs ∧ cs.length = xs.length * k.n ∧ cs.all (·.oneCell') = true ∧ ∀ i x, xs[i]? = some x → k.K G x ((cs.drop (i * k.n)).take k.n) := by
  have key : ∀ (xs : List α) (o0 : Nat) (b : Nat), (∀ i x, xs[i]? = some x → ∃ cs, k.K G x cs ∧ Cs G b (o0 + i * k.n) cs) →
      ∃ cs, Cs G b o0 cs ∧ cs.length = xs.length * k.n ∧ cs.all (·.oneCell') = true ∧ ∀ i x, xs[i]? = some x → k.K G x ((cs.drop (i * k.n)).take k.n) := by
    intro xs
    induction xs with
    | nil => intro o0 b _; exact ⟨[], fun j v e => by simp at e, by simp, rfl, fun i x e => by simp at e⟩
    | cons x xs ih =>
      intro o0 b h
      obtain ⟨c0, hk, hc⟩ := h 0 x rfl
      obtain ⟨cs, h1, h2, h3, h4⟩ := ih (o0 + k.n) b fun i y e => by
        obtain ⟨c, hk, hc⟩ := h (i + 1) y (by simpa using e)
        refine ⟨c, hk, ?_⟩
        rw [show o0 + k.n + i * k.n = o0 + (i + 1) * k.n by rw [Nat.add_mul]; omega]
        exact hc
      have hl := k.len hk
      refine ⟨c0 ++ cs, fun j v e => ?_, by rw [List.length_append, hl, h2, List.length_cons, Nat.add_mul]; omega, by rw [List.all_append, k.one hk, h3]; rfl, fun i y e => ?_⟩
      · rcases Nat.lt_or_ge j k.n with hj | hj
        · rw [List.getElem?_append_left (by omega)] at e
          have := hc j v e
          simpa using this
        · rw [List.getElem?_append_right (by omega), hl] at e
          have := h1 (j - k.n) v e
          rw [show o0 + k.n + (j - k.n) = o0 + j by omega] at this
          exact this
      · cases i with
        | zero =>
          simp only [List.getElem?_cons_zero, Option.some.injEq] at e
          subst e
          simp only [Nat.zero_mul, List.drop_zero]
          rw [← hl, List.take_left]
          exact hk
        | succ i =>
          have := h4 i y (by simpa using e)
          rw [List.drop_append, List.drop_eq_nil_of_le (by rw [hl, Nat.add_mul]; omega), List.nil_append, hl, show (i + 1) * k.n - k.n = i * k.n by rw [Nat.add_mul]; omega]
          exact this
  cases hxs : xs with
  | nil => exact ⟨[], .inl rfl, by simp, rfl, fun i x e => by simp at e⟩
  | cons x r =>
    rw [← hxs]
    obtain ⟨b, o, c0, hA, _, _⟩ := h 0 x (by rw [hxs]; rfl)
    obtain ⟨cs, h1, h2, h3, h4⟩ := key xs o b fun i y e => by
      obtain ⟨b', o', c, hA', hk, hc⟩ := h i y e
      rw [hA] at hA'
      cases hA'
      exact ⟨c, hk, hc⟩
    exact ⟨cs, hA ▸ Rds.cs h1, h2, h3, h4⟩

/-- an array of ours, its first n elements known -/
def Vec (T sz : Nat) (A : Option Addr) (n cap : Nat) (cs : List Value) (x : Own) : Prop :=
  cs.length = n * sz ∧ ((A = none ∧ n = 0 ∧ cap = 0 ∧ x = .spare 0 0 0) ∨ ∃ b c, A = some ⟨b, 0, none⟩ ∧ x = .blk b (.cells c T (0, 0)) ∧ n ≤ cap ∧ c.size = cap * sz ∧ c.toList.take (n * sz) = cs)
theorem Vec.le {T sz : Nat} {A : Option Addr} {n cap : Nat} {cs : List Value} {x : Own} (h : Vec T sz A n cap cs x) : n ≤ cap := by
  rcases h.2 with ⟨_, h1, h2, _⟩ | ⟨b, c, _, _, h, _⟩
  · omega
  · exact h
theorem Vec.rds {T sz : Nat} {A : Option Addr} {n cap : Nat} {cs : List Value} {x : Own} {j : Nat} (h : Vec T sz A n cap cs x) (hj : At H j x) : Rds G H A cs := by
  obtain ⟨hl, ⟨h1, h2, h3, h4⟩ | ⟨b, c, rfl, rfl, h1, h2, rfl⟩⟩ := h
  · subst h2; exact .inl (List.eq_nil_of_length_eq_zero (by simpa using hl))
  · refine Rds.blk (o := 0) hj fun j v e => ?_
    rw [List.getElem?_take] at e
    split at e
    · simpa using e
    · cases e

def evPl (L : List (Nat × Value)) : List (Nat × Operand) → Option (List (Nat × Value))
  | [] => some []
  | p :: r => match ev L p.2, evPl L r with
    | some v, some vs => some ((p.1, v) :: vs)
    | _, _ => none
def evP (L : List (Nat × Value)) (ps : Array (Nat × Operand)) : Option (List (Nat × Value)) := evPl L ps.toList
theorem Sk.evP {a : Act} (h : Sk L a) {ps : Array (Nat × Operand)} {vs : List (Nat × Value)} (hp : evP L ps = some vs) : (ps.map fun (i, x) => (i, a.eval x)).toList = vs := by
  have key : ∀ (l : List (Nat × Operand)) (vs : List (Nat × Value)), evPl L l = some vs → l.map (fun p => (p.1, a.eval p.2)) = vs := by
    intro l
    induction l with
    | nil => intro vs h; simp only [evPl, Option.some.injEq] at h; subst h; rfl
    | cons p l ih =>
      intro vs hh
      simp only [evPl] at hh
      cases hx : ev L p.2 with
      | none => simp [hx] at hh
      | some v =>
        cases hl : evPl L l with
        | none => simp [hx, hl] at hh
        | some us =>
          simp only [hx, hl, Option.some.injEq] at hh
          subst hh
          simp [h.eval hx, ih us hl]
  simpa using key ps.toList vs hp

def fillS (pl : Nat → Option (Nat × Nat)) : List Value → List (Nat × Value) → Option (List Value)
  | cs, [] => some cs
  | cs, (i, v) :: r => match pl i with
    | none => none
    | some (off, size) => bif Nat.beq v.cells.toList.length size && Nat.ble (off + v.cells.toList.length) cs.length then fillS pl (cs.take off ++ v.cells.toList ++ cs.drop (off + v.cells.toList.length)) r else none

theorem foldl_place : ∀ (vs : List Value) (off k : Nat) (cs : List Value), off + k + vs.length ≤ cs.length →
    (vs.zipIdx k).foldl (fun (a : Array Value) (p : Value × Nat) => a.setIfInBounds (off + p.2) p.1) cs.toArray = (cs.take (off + k) ++ vs ++ cs.drop (off + k + vs.length)).toArray
  | [], off, k, cs, h => by simp
  | v :: vs, off, k, cs, h => by
    simp only [List.length_cons] at h
    have ih := foldl_place vs off (k + 1) (cs.set (off + k) v) (by simp; omega)
    simp only [List.zipIdx_cons, List.foldl_cons, List.setIfInBounds_toArray, ih]
    congr 1
    apply List.ext_getElem?
    intro j
    simp only [List.getElem?_append, List.length_take, List.length_set, List.length_cons, List.getElem?_take, List.getElem?_set, List.getElem?_drop, List.length_append]
    by_cases h1 : j < off + k
    · simp [show j < min (off + (k + 1)) cs.length by omega, show j < off + (k + 1) by omega, show off + k ≠ j by omega, h1, show j < min (off + k) cs.length by omega, show j < min (off + (k + 1)) cs.length + vs.length by omega, show j < min (off + k) cs.length + (vs.length + 1) by omega]
    · by_cases h2 : j = off + k
      · subst h2
        simp [show off + k < min (off + (k + 1)) cs.length by omega, show off + k < off + (k + 1) by omega, show ¬ off + k < min (off + k) cs.length by omega, show off + k < cs.length by omega, show off + k - min (off + k) cs.length = 0 by omega, show off + k < min (off + (k + 1)) cs.length + vs.length by omega, show off + k < min (off + k) cs.length + (vs.length + 1) by omega]
      · have e1 : min (off + (k + 1)) cs.length = off + k + 1 := by omega
        have e2 : min (off + k) cs.length = off + k := by omega
        simp only [e1, e2]
        by_cases h3 : j < off + k + 1 + vs.length
        · simp [h3, show ¬ j < off + k + 1 by omega, show j < off + k + (vs.length + 1) by omega, show ¬ j < off + k by omega, show j - (off + k) = (j - (off + k + 1)) + 1 by omega]
        · have h4 : ¬ j < off + k + (vs.length + 1) := by omega
          simp only [h3, h4, if_false]
          have e3 : off + (k + 1) + vs.length + (j - (off + k + 1 + vs.length)) = j := by omega
          have e4 : off + k + (vs.length + 1) + (j - (off + k + (vs.length + 1))) = j := by omega
          simp [e3, e4, show off + k ≠ j by omega]

theorem fill_of_fillS (pl : Nat → Option (Nat × Nat)) : ∀ (vs : List (Nat × Value)) (cs cs' : List Value), fillS pl cs vs = some cs' → Instr.fill pl cs.toArray vs = some cs'.toArray
  | [], cs, cs', h => by simp only [fillS, Option.some.injEq] at h; subst h; rfl
  | (i, v) :: r, cs, cs', h => by
    simp only [fillS] at h
    simp only [Instr.fill]
    cases hp : pl i with
    | none => rw [hp] at h; cases h
    | some q =>
      obtain ⟨off, size⟩ := q
      rw [hp] at h
      simp only at h ⊢
      cases hb : (Nat.beq v.cells.toList.length size && Nat.ble (off + v.cells.toList.length) cs.length) with
      | false => rw [hb] at h; cases h
      | true =>
        rw [hb] at h
        simp only [cond_true] at h
        rw [Bool.and_eq_true] at hb
        have h1 := Nat.eq_of_beq_eq_true hb.1
        have h2 := Nat.le_of_ble_eq_true hb.2
        rw [Array.length_toList] at h1 h2
        have h3 : (v.cells.size ≠ size || off + v.cells.size > cs.toArray.size) = false := by simp [h1]; omega
        rw [h3]
        simp only [Bool.false_eq_true, if_false]
        have h4 := foldl_place v.cells.toList off 0 cs (by rw [Array.length_toList]; omega)
        simp only [Nat.add_zero] at h4
        have h5 : v.cells.zipIdx.foldl (fun (a : Array Value) (p : Value × Nat) => a.setIfInBounds (off + p.2) p.1) cs.toArray = (cs.take off ++ v.cells.toList ++ cs.drop (off + v.cells.toList.length)).toArray := by
          rw [← h4, ← Array.foldl_toList]
          simp
        exact (congrArg (Instr.fill pl · r) h5).trans (fill_of_fillS pl r _ _ h)

def repS : Nat → List Value → List Value
  | 0, _ => []
  | k + 1, z => z ++ repS k z
theorem repS_get (z : List Value) (hz : 0 < z.length) : ∀ (k i : Nat), i < k * z.length → (repS k z)[i]? = some (z[i % z.length]!)
  | 0, i, h => by omega
  | k + 1, i, h => by
    rw [Nat.add_mul] at h
    simp only [repS]
    rcases Nat.lt_or_ge i z.length with hi | hi
    · rw [List.getElem?_append_left hi, Nat.mod_eq_of_lt hi]
      simp [List.getElem!_eq_getElem?_getD, hi]
    · rw [List.getElem?_append_right hi, repS_get z hz k (i - z.length) (by omega), Nat.mod_eq_sub_mod hi]
theorem repS_length (z : List Value) : ∀ k, (repS k z).length = k * z.length
  | 0 => by simp [repS]
  | k + 1 => by simp [repS, repS_length z k, Nat.add_mul]; omega
theorem base_repS (z : Array Value) (n len : Nat) (hz : z.size = n) : (Array.range (len * n)).map (z[· % z.size]!) = (repS len z.toList).toArray := by
  subst hz
  by_cases h0 : z.size = 0
  · have : z = #[] := Array.eq_empty_of_size_eq_zero h0
    subst this
    have e : ∀ k, repS k [] = [] := by intro k; induction k with | zero => rfl | succ k ih => simp [repS, ih]
    simp [Array.range_zero', e]
  · apply Array.ext'
    apply List.ext_getElem?
    intro i
    rcases Nat.lt_or_ge i (len * z.size) with hi | hi
    · have := repS_get z.toList (by simp; omega) len i (by simpa using hi)
      simp only [Array.length_toList] at this
      rw [this]
      simp [hi, List.getElem!_eq_getElem?_getD]
      try rw [Array.getElem!_eq_getD, Array.getD_eq_getD_getElem?]
    · rw [List.getElem?_eq_none (by simpa using hi), List.getElem?_eq_none (by simpa [repS_length] using hi)]

def leLim (x : Nat) : Bool := Nat.ble x 16777216
/-- a list that is written out -/
theorem OW.buildSlice {t e n by_ len : Nat} {z : Value} {ps : Array (Nat × Operand)} {vs : List (Nat × Value)} {cells : List Value} (hp : evP L ps = some vs) [hu : Und P t (.slice e)] [hi : Inf P e n by_ z] (hlim : leLim (len * n) = true) (hz : z.cells.size = n)
    (hf : fillS (fun i => some (i * n, n)) (repS len z.cells.toList) vs = some cells) (hd : dOk d cx.N = true)
    (k : ∀ b, K (putL d (.slice (some ⟨b, 0, none⟩) len len) L) G (.blk b (.cells cells.toArray e (0, 0)) :: H)) : OW P Q ⟨d, .buildSlice t len ps, ty, pos, af, gu⟩ cx L G H K := by
  refine OW.gives hd fun a w st => ⟨.slice (some ⟨w.heap.size, 0, none⟩) len len, w.alloc (.cells cells.toArray e), G, .blk w.heap.size (.cells cells.toArray e (0, 0)) :: H, .inl ?_, st.sat.alloc _, Stp.alloc _, k _⟩
  have hl := Nat.le_of_ble_eq_true hlim
  have he := Sk.evP st.slot hp
  have hl' : ¬ (16777216 < len * n) := by omega
  have hf1 := fill_of_fillS _ _ _ _ hf
  rw [← base_repS z.cells n len hz] at hf1
  have hrun : ∀ PS : Array (Nat × Value), PS.toList = vs → (Instr.buildSlice t len PS).run P w = .ok (.slice (some ⟨w.heap.size, 0, none⟩) len len) (w.alloc (.cells cells.toArray e)) := by
    intro PS he
    by_cases h0 : len * n = 0
    · rw [h0] at hf1
      simp only [Array.range_zero', List.map_toArray, List.map_nil] at hf1
      simp [Instr.buildSlice, run_underlying hu.h, hi.sizeOf, h0, he, newRow, Array.range_zero', hf1]
    · simp [Instr.buildSlice, run_underlying hu.h, hi.sizeOf, hi.zeroValue, h0, hl', he, hf1, newRow]
  simp only [execOp, Sem.run_bind, hrun _ he, Result.andThen_ok]
  rfl

class Plc (P : Program) (t : Nat) (pl : outParam (List (Nat × Nat))) : Prop where
  h : ∀ w : World, ∃ fs, P.underlying t = some (.struct fs) ∧ (fs.toList.mapM fun f => Prod.mk f.offset <$> Go.sizeOf f.type).run P w = .ok pl w
/-- a struct that is written out -/
theorem Gp.build {t n by_ : Nat} {z : Value} {ps : Array (Nat × Operand)} {vs : List (Nat × Value)} {pl : List (Nat × Nat)} {cells : List Value} (hp : evP L ps = some vs) [hi : Inf P t n by_ z] [hpl : Plc P t pl]
    (hf' : fillS (fun i => pl[i]?) z.cells.toList vs = some cells) : Gp P L ⟨d, .build t ps, ty, pos, af, gu⟩ (.agg cells.toArray) := fun a st w => by
  have he := Sk.evP st hp
  have hf := fill_of_fillS _ _ _ _ hf' 
  obtain ⟨fs, h1, h2⟩ := hpl.h w
  have h3 : (fs.mapM fun f => Prod.mk f.offset <$> Go.sizeOf f.type).run P w = .ok pl.toArray w := by
    rw [Array.mapM_eq_mapM_toList]
    simp [h2]
  have hrun : ∀ PS : Array (Nat × Value), PS.toList = vs → (Instr.build t PS).run P w = .ok (.agg cells.toArray) w := by
    intro PS he
    simp [Instr.build, hi.zeroValue, run_underlying h1, he, h3, hf]
  simp only [execOp, Sem.run_bind, hrun _ he, Result.andThen_ok]
  rfl

/-! #### pieces -/
theorem Gp.sliceTo {t e n by_ : Nat} {z : Value} {x y : Operand} {A : Option Addr} {len cap : Nat} {k : IntKind} {i : Int} (hx : ev L x = some (.slice A len cap)) (hy : ev L y = some (.int k i)) [hu : Und P t (.slice e)] [hi : Inf P e n by_ z] (h0 : 0 ≤ i) (h1 : i ≤ cap) :
    Gp P L ⟨d, .slice t x none (some y) none, ty, pos, af, gu⟩ (.slice A i.toNat cap) := fun a st w => by
  have h : (Instr.sliceAt t (.slice A len cap) none (some (.int k i)) none).run P w = .ok (.slice A i.toNat cap) w := by
    have hA : (if cap = 0 then A else A.map fun p => p.add 0) = A := by
      split
      · rfl
      · cases A <;> simp [Addr.add]
    simp only [Instr.sliceAt, Sem.run_bind, run_underlying hu.h, Result.andThen_ok, Instr.slice, Instr.sliceBounds, Instr.sliceBound, asIntOf, Sem.run_pure, Sem.run_ite, h0, h1, and_self, if_true, hi.sizeOf, Nat.sub_zero, Nat.zero_mul, hA]
  simp [execOp, Sk.eval st hx, Sk.eval st hy, h]
theorem Gp.sliceFrom {t e n by_ : Nat} {z : Value} {x y : Operand} {A : Option Addr} {len cap : Nat} {k : IntKind} {i : Int} (hx : ev L x = some (.slice A len cap)) (hy : ev L y = some (.int k i)) [hu : Und P t (.slice e)] [hi : Inf P e n by_ z] (h0 : 0 ≤ i) (h1 : i ≤ len) :
    Gp P L ⟨d, .slice t x (some y) none none, ty, pos, af, gu⟩ (.slice (if cap = i.toNat then A else A.map (·.add (i.toNat * n))) (len - i.toNat) (cap - i.toNat)) := fun a st w => by
  have h : (Instr.sliceAt t (.slice A len cap) (some (.int k i)) none none).run P w = .ok (.slice (if cap = i.toNat then A else A.map (·.add (i.toNat * n))) (len - i.toNat) (cap - i.toNat)) w := by
    simp only [Instr.sliceAt, Sem.run_bind, run_underlying hu.h, Result.andThen_ok, Instr.slice, Instr.sliceBounds, Instr.sliceBound, asIntOf, Sem.run_pure, Sem.run_ite, h0, h1, and_self, if_true, hi.sizeOf]
  simp [execOp, Sk.eval st hx, Sk.eval st hy, h]
theorem Gp.slice2 {t e n by_ : Nat} {z : Value} {x y y' : Operand} {A : Option Addr} {len cap : Nat} {k k' : IntKind} {i j : Int} (hx : ev L x = some (.slice A len cap)) (hy : ev L y = some (.int k i)) (hy' : ev L y' = some (.int k' j)) [hu : Und P t (.slice e)] [hi : Inf P e n by_ z] (h0 : 0 ≤ i) (h1 : i ≤ j) (h2 : j ≤ cap) :
    Gp P L ⟨d, .slice t x (some y) (some y') none, ty, pos, af, gu⟩ (.slice (if cap = i.toNat then A else A.map (·.add (i.toNat * n))) (j.toNat - i.toNat) (cap - i.toNat)) := fun a st w => by
  have hj : 0 ≤ j := by omega
  have h1' : i ≤ (j.toNat : Int) := by omega
  have h : (Instr.sliceAt t (.slice A len cap) (some (.int k i)) (some (.int k' j)) none).run P w = .ok (.slice (if cap = i.toNat then A else A.map (·.add (i.toNat * n))) (j.toNat - i.toNat) (cap - i.toNat)) w := by
    simp only [Instr.sliceAt, Sem.run_bind, run_underlying hu.h, Result.andThen_ok, Instr.slice, Instr.sliceBounds, Instr.sliceBound, asIntOf, Sem.run_pure, Sem.run_ite, h0, h1', h2, hj, and_self, if_true, hi.sizeOf]
  simp [execOp, Sk.eval st hx, Sk.eval st hy, Sk.eval st hy', h]

theorem cell_add (w : World) (b o j : Nat) : w.cell? ((⟨b, o, none⟩ : Addr).add j) = w.cell? ⟨b, o + j, none⟩ := by
  have hadd : (⟨b, o, none⟩ : Addr).add j = ⟨b, o + j, none⟩ := by unfold Addr.add; split <;> simp_all
  rw [hadd]

/-- something of ours lies elsewhere now -/
theorem Sat.swap {w w' : World} (h : Sat G H w) {j : Nat} {x : Own} (hj : At H j x) (ob : Obj) (hw : w' = w.drew.alloc ob) (hf : noFr ob := by first | rfl | trivial) :
    Sat G (H.set j (.blk w.heap.size ob)) w' ∧ Stp (covs H) G w G (H.set j (.blk w.heap.size ob)) w' := by
  subst hw
  have h1 := (h.drew (w' := w.drew) rfl).alloc ob
  have h2a : Stp (covs H) G w G H w.drew := Stp.drew rfl
  have h2b : Stp (covs H) G w.drew G (.blk w.heap.size ob :: H) (w.drew.alloc ob) := Stp.alloc (w := w.drew) ob hf
  have h2 := h2a.then h2b
  have hsz : w.drew.heap.size = w.heap.size := rfl
  rw [hsz] at h1
  -- the new one in the place of the old one: fewer things, in another order
  have hsub : ∀ y ∈ H.set j (.blk w.heap.size ob), y ∈ Own.blk w.heap.size ob :: H := fun y hy => by
    rcases mem_set_or H j _ y hy with rfl | hy
    · exact .head _
    · exact .tail _ hy
  refine ⟨⟨h1.agr, fun y hy => h1.hold y (hsub y hy), ?_, fun y hy => h1.ghost y (hsub y hy)⟩, ⟨h2.size, h2.keep, h2.gle, h2.gnew, fun y hy => h2.own y (hsub y hy), h2.weq⟩⟩
  have hp := List.pairwise_cons.1 h1.apart
  have : ∀ (l : List Own) (j : Nat), l.Pairwise Own.apart → (∀ z ∈ l, Own.apart (.blk w.heap.size ob) z) → (l.set j (.blk w.heap.size ob)).Pairwise Own.apart := by
    intro l
    induction l with
    | nil => intro j _ _; simp
    | cons a l ih =>
      intro j hl hz
      rw [List.pairwise_cons] at hl
      cases j with
      | zero => simp only [List.set_cons_zero, List.pairwise_cons]; exact ⟨fun z hzz => hz z (.tail _ hzz), hl.2⟩
      | succ j =>
        simp only [List.set_cons_succ, List.pairwise_cons]
        refine ⟨fun z hzz => ?_, ih j hl.2 fun z hzz => hz z (.tail _ hzz)⟩
        rcases mem_set_or l j _ z hzz with rfl | hzz
        · exact Own.apart_symm (hz a (.head _))
        · exact hl.1 z hzz
  exact this H j hp.2 hp.1

theorem Vec.rdsFrom {T sz : Nat} {A : Option Addr} {n cap : Nat} {cs : List Value} {x : Own} {j lo : Nat} (h : Vec T sz A n cap cs x) (hj : At H j x) (hlo : lo ≤ n) : Rds G H (if cap = lo then A else A.map (·.add (lo * sz))) (cs.drop (lo * sz)) := by
  by_cases hc : cap = lo
  · have := h.le
    refine .inl (List.drop_eq_nil_of_le ?_)
    rw [h.1, show lo = n by omega]
    exact Nat.le_refl _
  · rw [if_neg hc]
    obtain ⟨hl, ⟨h1, h2, h3, h4⟩ | ⟨b, c, rfl, rfl, h1, h2, rfl⟩⟩ := h
    · subst h2; exact .inl (List.eq_nil_of_length_eq_zero (by simp; omega))
    · have hadd : (⟨b, 0, none⟩ : Addr).add (lo * sz) = ⟨b, lo * sz, none⟩ := by unfold Addr.add; split <;> simp_all
      simp only [Option.map_some, hadd]
      refine Rds.blk hj fun j v e => ?_
      rw [List.getElem?_drop, List.getElem?_take] at e
      split at e
      · simpa using e
      · cases e
theorem Vec.cut {T sz : Nat} {A : Option Addr} {n cap : Nat} {cs : List Value} {x : Own} {m : Nat} (h : Vec T sz A n cap cs x) (hm : m ≤ n) : Vec T sz A m cap (cs.take (m * sz)) x := by
  have hms : m * sz ≤ n * sz := Nat.mul_le_mul_right _ hm
  obtain ⟨hl, ⟨h1, h2, h3, h4⟩ | ⟨b, c, rfl, rfl, h1, h2, rfl⟩⟩ := h
  · exact ⟨by rw [List.length_take, hl]; omega, .inl ⟨h1, by omega, h3, h4⟩⟩
  · exact ⟨by rw [List.length_take, hl]; omega, .inr ⟨b, c, rfl, rfl, by omega, h2, by rw [List.take_take, Nat.min_eq_left hms]⟩⟩
theorem zeroCells_size {sz : Nat} {z : Value} {n : Nat} (hz : z.cells.size = sz) : (Builtin.zeroCells z.cells n).size = n * sz := by rw [size_zeroCells, hz]

theorem set_same {α : Type} : ∀ (l : List α) (j : Nat) (x : α), l[j]? = some x → l.set j x = l
  | [], _, _, _ => rfl
  | a :: l, 0, x, h => by simp at h; simp [h]
  | a :: l, j + 1, x, h => by simp at h; simp [set_same l j x h]

/-- append, onto what is ours -/
theorem OW.append {t e sz by_ : Nat} {z : Value} {x y : Operand} {A B : Option Addr} {n cap m cy j : Nat} {cs news : List Value} {o : Own} (hx : ev L x = some (.slice A n cap)) (hy : ev L y = some (.slice B m cy)) [hu : Und P t (.slice e)] [hi : Inf P e sz by_ z]
    (hz : z.cells.size = sz) (hs0 : Nat.blt 0 sz = true) (hv : Vec e sz A n cap cs o) (hj : At H j o) (hr : Rds G H B news) (hl : news.length = m * sz) (h1 : news.all (·.oneCell') = true)
    (hb : (n + m) * by_ ≤ 140737488355328) (h63 : n + m ≤ 9223372036854775807) (hd : dOk d cx.N = true)
    (k : ∀ A' cap' o', Vec e sz A' (n + m) cap' (cs ++ news) o' → K (putL d (.slice A' (n + m) cap') L) G (H.set j o')) :
    OW P Q ⟨d, .call { callee := .builtin .append, args := #[x, y], argTypes := #[t, t] }, ty, pos, af, gu⟩ cx L G H K := by
  have hsz : 0 < sz := Nat.le_of_ble_eq_true hs0
  refine OW.gives hd fun a w st => ?_
  obtain ⟨ie, hi1, hi2, hi3, hi4⟩ := hi.info
  have hu' := hu.h
  have hrun : ∀ v w', (Builtin.append_ #[t, t] ty #[.slice A n cap, .slice B m cy]).run P w = .ok v w' → (execOp a.eval ⟨d, .call { callee := .builtin .append, args := #[x, y], argTypes := #[t, t] }, ty, pos, af, gu⟩).run P w = .ok (.value v) w' := by
    intro v w' h
    simp only [execOp, resolve, invoke, builtin, Sem.run_bind, Sem.run_pure, Result.andThen_ok, List.map_toArray, List.map_cons, List.map_nil, st.eval hx, st.eval hy, h]
  -- nothing to append
  by_cases hm : m = 0
  · subst hm
    have hn : news = [] := List.eq_nil_of_length_eq_zero (by simpa using hl)
    subst hn
    refine ⟨.slice A n cap, w, G, H, .inl (hrun _ _ ?_), st.sat, Stp.drew rfl, ?_⟩
    · have hle := hv.le
      cases A with
      | none => simp [Builtin.append_, run_underlying hu', sizeOf, typeInfo, hi1, Builtin.lenOf, Builtin.firstCells, hle]; cases B <;> simp [Builtin.firstCells, loadCells, loadCellsFrom]
      | some ad => simp [Builtin.append_, run_underlying hu', sizeOf, typeInfo, hi1, Builtin.lenOf, Builtin.firstCells, hle]; cases B <;> simp [Builtin.firstCells, loadCells, loadCellsFrom, storeCells]
    · have := k A cap o (by simpa using hv)
      simp only [Nat.add_zero] at this
      rw [set_same H j o hj.get] at this
      exact this
  · have hm0 : 0 < m := by omega
    obtain ⟨bB, oB, rfl, hread⟩ : ∃ b o, B = some ⟨b, o, none⟩ ∧ ∀ w, Sat G H w → ∀ j v, news[j]? = some v → w.cell? ⟨b, o + j, none⟩ = some v := by
      rcases hr with h | h
      · have hp := Nat.mul_pos hm0 hsz
        rw [← hl, h] at hp
        simp at hp
      · exact h
    have hnews : ∀ j u, news[j]? = some u → w.cell? ((⟨bB, oB, none⟩ : Addr).add j) = some u := fun j u e => by rw [cell_add]; exact hread w st.sat j u e
    have hl' : news.length = m * ie.size := by rw [hi3]; exact hl
    obtain ⟨hcl, ⟨rfl, rfl, rfl, rfl⟩ | ⟨b, c, rfl, rfl, hnc, hcs, htk⟩⟩ := hv
    · have hcs0 : cs = [] := List.eq_nil_of_length_eq_zero (by simpa using hcl)
      subst hcs0
      have hr := run_append_nil (P := P) w t ty e ie z hu' hi1 hi2 ⟨bB, oB, none⟩ m cy news hl' hnews hm0 (by omega) (by have h' := hb; simp only [Nat.zero_add] at h'; rw [hi4]; omega)
      have hg := grownCap_ge w m 0 e
      have hsw := st.sat.swap hj (.cells (news.toArray ++ Builtin.zeroCells z.cells (grownCap w m 0 e - m)) e) rfl
      refine ⟨_, _, G, _, .inl (hrun _ _ hr), hsw.1, hsw.2, ?_⟩
      have := k (some ⟨w.heap.size, 0, none⟩) (grownCap w m 0 e) (.blk w.heap.size (.cells (news.toArray ++ Builtin.zeroCells z.cells (grownCap w m 0 e - m)) e)) ⟨by simpa using hl, .inr ⟨_, _, rfl, rfl, by omega, ?_, ?_⟩⟩
      · simpa using this
      · rw [Array.size_append, List.size_toArray, zeroCells_size hz, hl, ← Nat.add_mul]; congr 1; omega
      · simp only [Array.toList_append, List.nil_append, Nat.zero_add]; rw [← hl]; exact List.take_left
    · by_cases hroom : n + m ≤ cap
      · have hbw : w.heap[b]? = some (.cells c e (0, 0)) := st.sat.hold _ (List.mem_of_getElem? hj.get)
        have hfit : n * sz + news.length ≤ c.size := by rw [hl, hcs, ← Nat.add_mul]; exact Nat.mul_le_mul_right _ hroom
        have hr := run_append_room (P := P) w t ty e ie hu' hi1 b n cap c hbw ⟨bB, oB, none⟩ m cy news hl' hnews (fun u hu => List.all_eq_true.1 h1 u hu) hroom (by rw [hi3]; exact hfit)
        rw [hi3] at hr
        have hsp := st.sat.splice (o := n * sz) (cs := news) hj hfit
        refine ⟨_, _, G, _, .inl (hrun _ _ hr), hsp.1, hsp.2, k _ _ _ ⟨by rw [List.length_append, hcl, hl, Nat.add_mul], .inr ⟨b, _, rfl, rfl, hroom, by rw [size_splice hfit, hcs], ?_⟩⟩⟩
        simp only [splice]
        rw [htk, show (n + m) * sz = (cs ++ news).length by rw [List.length_append, hcl, hl, Nat.add_mul]]
        exact List.take_left
      · have hbw : w.heap[b]? = some (.cells c e (0, 0)) := st.sat.hold _ (List.mem_of_getElem? hj.get)
        have holds : ∀ j v, cs[j]? = some v → w.cell? ((⟨b, 0, none⟩ : Addr).add j) = some v := fun j v e => by
          rw [cell_add, cell_of_row w b _ c _ _ hbw, ← htk] at *
          rw [List.getElem?_take] at e
          split at e
          · simpa using e
          · cases e
        have hr := run_append_grow (P := P) w t ty e ie z hu' hi1 hi2 ⟨b, 0, none⟩ n cap cs (by rw [hi3]; exact hcl) holds ⟨bB, oB, none⟩ m cy news hl' hnews (by omega) (by omega) (growslice_fits (by omega) (by rw [hi4]; exact hb))
        have hg := grownCap_ge w (n + m) cap e
        have hsw := st.sat.swap hj (.cells (cs.toArray ++ news.toArray ++ Builtin.zeroCells z.cells (grownCap w (n + m) cap e - (n + m))) e) rfl
        refine ⟨_, _, G, _, .inl (hrun _ _ hr), hsw.1, hsw.2, k _ _ _ ⟨by rw [List.length_append, hcl, hl, Nat.add_mul], .inr ⟨_, _, rfl, rfl, hg, ?_, ?_⟩⟩⟩
        · simp only [Array.size_append, List.size_toArray, zeroCells_size hz, hl, hcl, ← Nat.add_mul]; congr 1; omega
        · simp only [Array.toList_append]
          rw [show (n + m) * sz = (cs ++ news).length by rw [List.length_append, hcl, hl, Nat.add_mul]]
          exact List.take_left

/-- nothing is ours too -/
theorem Sat.nothing {w : World} (h : Sat G H w) : Sat G (.spare 0 0 0 :: H) w :=
  ⟨h.agr, fun x hx => by
    rcases List.mem_cons.1 hx with rfl | hx
    · intro hlt; omega
    · exact h.hold x hx, List.pairwise_cons.2 ⟨fun y _ b o hc => by simp only [Own.cov] at hc; omega, h.apart⟩, fun x hx b o hc => by
    rcases List.mem_cons.1 hx with rfl | hx
    · simp only [Own.cov] at hc; omega
    · exact h.ghost x hx b o hc⟩
theorem Stp.nothing {S : Nat → Nat → Prop} {G0 : Gh} {w0 w : World} (h : Stp S G0 w0 G H w) : Stp S G0 w0 G (.spare 0 0 0 :: H) w :=
  ⟨h.size, h.keep, h.gle, h.gnew, fun x hx b o hc => by
    rcases List.mem_cons.1 hx with rfl | hx
    · simp only [Own.cov] at hc; omega
    · exact h.own x hx b o hc, h.weq⟩
theorem WK.nothing {K : Act → World → Prop} (h : WK K cx L G (.spare 0 0 0 :: H)) : WK K cx L G H :=
  fun a w st => h a w ⟨st.size, st.defs, st.slot, st.sat.nothing, st.stp.nothing⟩
theorem WC.nothing {c : Code} (h : WC P c Q cx L G (.spare 0 0 0 :: H)) : WC P c Q cx L G H :=
  fun a w st => h a w ⟨st.size, st.defs, st.slot, st.sat.nothing, st.stp.nothing⟩

/-- these slots are among those that are known -/
def AllLk (L : List (Nat × Value)) : List (Nat × Value) → Prop
  | [] => True
  | (t, v) :: r => lk L t = some v ∧ AllLk L r
theorem AllLk.sub {L L' : List (Nat × Value)} (h : AllLk L L') : ∀ t v, lk L' t = some v → lk L t = some v := by
  induction L' with
  | nil => intro t v e; simp [lk] at e
  | cons p r ih =>
    obtain ⟨k, u⟩ := p
    intro t v e
    simp only [lk] at e
    by_cases hk : k = t
    · subst hk
      simp only [Nat.beq_refl, cond_true, Option.some.injEq] at e
      subst e
      exact h.1
    · have hb : Nat.beq k t = false := by cases hbb : Nat.beq k t with | false => rfl | true => exact absurd (Nat.eq_of_beq_eq_true hbb) hk
      rw [hb] at e
      exact ih h.2 t v e

/-- a loop, by what holds at the head of each round -/
theorem WC.loop {c : Code} {X : Type} (Lf : X → List (Nat × Value)) (Gf : X → Gh) (Hf : X → List Own) (μ : X → Nat) (ok : X → Prop) (x0 : X) (h0 : ok x0) (hL : AllLk L (Lf x0)) (hG : Gf x0 = G) (hH : (Hf x0).Sublist H)
    (round : ∀ x, ok x → WC P c (Exit.then (fun a w => ∃ x', μ x' < μ x ∧ ok x' ∧ St cx (Lf x') (Gf x') (Hf x') a w) Q) cx (Lf x) (Gf x) (Hf x)) : WC P (.loop c) Q cx L G H := by
  intro a w st
  refine wp_loop_fuel (A := fun k x a w => μ x = k ∧ ok x ∧ St cx (Lf x) (Gf x) (Hf x) a w) (x0 := x0) ⟨rfl, h0, hG ▸ st.weaken hL.sub hH⟩ ?_
  rintro k x a w ⟨rfl, hok, st⟩
  refine Code.wp_mono (fun e a w q => ?_) (round x hok a w st)
  cases e <;> first
    | exact q
    | (obtain ⟨x', h1, h2, h3⟩ := q; exact ⟨_, x', h1, rfl, h2, h3⟩)
theorem WK.again {X : Type} {Lf : X → List (Nat × Value)} {Gf : X → Gh} {Hf : X → List Own} {μ : X → Nat} {ok : X → Prop} {x : X} (x' : X) (h1 : μ x' < μ x) (h2 : ok x') (hL : AllLk L (Lf x')) (hG : Gf x' = G) (hH : (Hf x').Sublist H) :
    WK (fun a w => ∃ x', μ x' < μ x ∧ ok x' ∧ St cx (Lf x') (Gf x') (Hf x') a w) cx L G H :=
  fun a w st => ⟨x', h1, h2, hG ▸ st.weaken hL.sub hH⟩
/-- ways that meet -/
theorem WC.join {x y : Code} {X : Type} (Lf : X → List (Nat × Value)) (Gf : X → Gh) (Hf : X → List Own) (ok : X → Prop)
    (h : WC P x (Exit.then (fun a w => ∃ x, ok x ∧ St cx (Lf x) (Gf x) (Hf x) a w) Q) cx L G H) (hy : ∀ x, ok x → WC P y Q cx (Lf x) (Gf x) (Hf x)) : WC P (.seq x y) Q cx L G H :=
  WC.seqJ _ h fun a w ⟨x, h1, h2⟩ => hy x h1 a w h2
theorem WK.meet {X : Type} {Lf : X → List (Nat × Value)} {Gf : X → Gh} {Hf : X → List Own} {ok : X → Prop} (x' : X) (h2 : ok x') (hL : AllLk L (Lf x')) (hG : Gf x' = G) (hH : (Hf x').Sublist H) :
    WK (fun a w => ∃ x, ok x ∧ St cx (Lf x) (Gf x) (Hf x) a w) cx L G H :=
  fun a w st => ⟨x', h2, hG ▸ st.weaken hL.sub hH⟩

theorem perm_at {l : List Own} {j : Nat} {x : Own} (h : At l j x) : l.Perm (x :: l.eraseIdx j) := by
  induction h with
  | here => exact List.Perm.refl _
  | there _ ih => exact (List.Perm.cons _ ih).trans (List.Perm.swap _ _ _)
end
end Go.Proofs.YtkmigdmdppkpoaaDoor.Gb
namespace Go.Proofs.YtkmigdmdppkpoaaDoor.Gb
open Go Go.Proofs
instance : Und Tryd.prog 2 (.int .i64) := ⟨by kernel_rfl⟩
instance inf2 : Inf Tryd.prog 2 1 8 (.int .i64 0) := ⟨by kernel_rfl⟩
instance : Agg Tryd.prog 2 false := ⟨fun w => by simp [isAgg, run_underlying Tryd.underlying2]⟩
instance : Und Tryd.prog 3 (.int .i64) := ⟨by kernel_rfl⟩
instance inf3 : Inf Tryd.prog 3 1 8 (.int .i64 0) := ⟨by kernel_rfl⟩
instance : Agg Tryd.prog 3 false := ⟨fun w => by simp [isAgg, run_underlying Tryd.underlying3]⟩
instance : Und Tryd.prog 4 .bool := ⟨by kernel_rfl⟩
instance inf4 : Inf Tryd.prog 4 1 1 (.bool false) := ⟨by kernel_rfl⟩
instance : Agg Tryd.prog 4 false := ⟨fun w => by simp [isAgg, run_underlying Tryd.underlying4]⟩
instance : Und Tryd.prog 5 (.int .u8) := ⟨by kernel_rfl⟩
instance inf5 : Inf Tryd.prog 5 1 1 (.int .u8 0) := ⟨by kernel_rfl⟩
instance : Agg Tryd.prog 5 false := ⟨fun w => by simp [isAgg, run_underlying Tryd.underlying5]⟩
instance : Und Tryd.prog 6 (.int .u8) := ⟨by kernel_rfl⟩
instance inf6 : Inf Tryd.prog 6 1 1 (.int .u8 0) := ⟨by kernel_rfl⟩
instance : Agg Tryd.prog 6 false := ⟨fun w => by simp [isAgg, run_underlying Tryd.underlying6]⟩
instance inf7 : Inf Tryd.prog 7 4 24 (.agg #[(.int .i64 0), (.int .i64 0), (.bool false), (.int .u8 0)]) := ⟨by kernel_rfl⟩
instance : Agg Tryd.prog 7 true := ⟨fun w => by simp [isAgg, run_underlying Tryd.underlying7]⟩
instance : Plc Tryd.prog 7 [(0, 1), (1, 1), (2, 1), (3, 1)] := ⟨fun w => ⟨_, Tryd.underlying7, run_places w _ _ (by kernel_rfl)⟩⟩
instance : Fld Tryd.prog 7 0 0 := mk_fld Tryd.underlying7 rfl (inf2).pos rfl
instance : Fld Tryd.prog 7 1 1 := mk_fld Tryd.underlying7 rfl (inf3).pos rfl
instance : Fld Tryd.prog 7 2 2 := mk_fld Tryd.underlying7 rfl (inf4).pos rfl
instance : Fld Tryd.prog 7 3 3 := mk_fld Tryd.underlying7 rfl (inf6).pos rfl
instance inf8 : Inf Tryd.prog 8 4 24 (.agg #[(.int .i64 0), (.int .i64 0), (.bool false), (.int .u8 0)]) := ⟨by kernel_rfl⟩
instance : Agg Tryd.prog 8 true := ⟨fun w => by simp [isAgg, run_underlying Tryd.underlying8]⟩
instance : Plc Tryd.prog 8 [(0, 1), (1, 1), (2, 1), (3, 1)] := ⟨fun w => ⟨_, Tryd.underlying8, run_places w _ _ (by kernel_rfl)⟩⟩
instance : Fld Tryd.prog 8 0 0 := mk_fld Tryd.underlying8 rfl (inf2).pos rfl
instance : Fld Tryd.prog 8 1 1 := mk_fld Tryd.underlying8 rfl (inf3).pos rfl
instance : Fld Tryd.prog 8 2 2 := mk_fld Tryd.underlying8 rfl (inf4).pos rfl
instance : Fld Tryd.prog 8 3 3 := mk_fld Tryd.underlying8 rfl (inf6).pos rfl
instance : Und Tryd.prog 9 .string := ⟨by kernel_rfl⟩
instance inf9 : Inf Tryd.prog 9 1 16 (.string ⟨#[]⟩) := ⟨by kernel_rfl⟩
instance : Agg Tryd.prog 9 false := ⟨fun w => by simp [isAgg, run_underlying Tryd.underlying9]⟩
instance : Und Tryd.prog 10 .string := ⟨by kernel_rfl⟩
instance inf10 : Inf Tryd.prog 10 1 16 (.string ⟨#[]⟩) := ⟨by kernel_rfl⟩
instance : Agg Tryd.prog 10 false := ⟨fun w => by simp [isAgg, run_underlying Tryd.underlying10]⟩
instance : Und Tryd.prog 11 .string := ⟨by kernel_rfl⟩
instance inf11 : Inf Tryd.prog 11 1 16 (.string ⟨#[]⟩) := ⟨by kernel_rfl⟩
instance : Agg Tryd.prog 11 false := ⟨fun w => by simp [isAgg, run_underlying Tryd.underlying11]⟩
instance : Und Tryd.prog 12 (.int .u64) := ⟨by kernel_rfl⟩
instance inf12 : Inf Tryd.prog 12 1 8 (.int .u64 0) := ⟨by kernel_rfl⟩
instance : Agg Tryd.prog 12 false := ⟨fun w => by simp [isAgg, run_underlying Tryd.underlying12]⟩
instance inf13 : Inf Tryd.prog 13 2 24 (.agg #[(.string ⟨#[]⟩), (.int .u64 0)]) := ⟨by kernel_rfl⟩
instance : Agg Tryd.prog 13 true := ⟨fun w => by simp [isAgg, run_underlying Tryd.underlying13]⟩
instance : Plc Tryd.prog 13 [(0, 1), (1, 1)] := ⟨fun w => ⟨_, Tryd.underlying13, run_places w _ _ (by kernel_rfl)⟩⟩
instance : Fld Tryd.prog 13 0 0 := mk_fld Tryd.underlying13 rfl (inf9).pos rfl
instance : Fld Tryd.prog 13 1 1 := mk_fld Tryd.underlying13 rfl (inf12).pos rfl
instance inf14 : Inf Tryd.prog 14 2 24 (.agg #[(.string ⟨#[]⟩), (.int .u64 0)]) := ⟨by kernel_rfl⟩
instance : Agg Tryd.prog 14 true := ⟨fun w => by simp [isAgg, run_underlying Tryd.underlying14]⟩
instance : Plc Tryd.prog 14 [(0, 1), (1, 1)] := ⟨fun w => ⟨_, Tryd.underlying14, run_places w _ _ (by kernel_rfl)⟩⟩
instance : Fld Tryd.prog 14 0 0 := mk_fld Tryd.underlying14 rfl (inf9).pos rfl
instance : Fld Tryd.prog 14 1 1 := mk_fld Tryd.underlying14 rfl (inf12).pos rfl
instance : Und Tryd.prog 15 (.pointer 170) := ⟨by kernel_rfl⟩
instance inf15 : Inf Tryd.prog 15 1 8 (.pointer none) := ⟨by kernel_rfl⟩
instance : Agg Tryd.prog 15 false := ⟨fun w => by simp [isAgg, run_underlying Tryd.underlying15]⟩
instance : Und Tryd.prog 16 (.pointer 173) := ⟨by kernel_rfl⟩
instance inf16 : Inf Tryd.prog 16 1 8 (.pointer none) := ⟨by kernel_rfl⟩
instance : Agg Tryd.prog 16 false := ⟨fun w => by simp [isAgg, run_underlying Tryd.underlying16]⟩
instance : Und Tryd.prog 17 (.pointer 181) := ⟨by kernel_rfl⟩
instance inf17 : Inf Tryd.prog 17 1 8 (.pointer none) := ⟨by kernel_rfl⟩
instance : Agg Tryd.prog 17 false := ⟨fun w => by simp [isAgg, run_underlying Tryd.underlying17]⟩
instance inf18 : Inf Tryd.prog 18 1 8 (.agg #[(.pointer none)]) := ⟨by kernel_rfl⟩
instance : Agg Tryd.prog 18 true := ⟨fun w => by simp [isAgg, run_underlying Tryd.underlying18]⟩
instance : Plc Tryd.prog 18 [(0, 1)] := ⟨fun w => ⟨_, Tryd.underlying18, run_places w _ _ (by kernel_rfl)⟩⟩
instance : Fld Tryd.prog 18 0 0 := mk_fld Tryd.underlying18 rfl (inf17).pos rfl
instance inf19 : Inf Tryd.prog 19 1 8 (.agg #[(.pointer none)]) := ⟨by kernel_rfl⟩
instance : Agg Tryd.prog 19 true := ⟨fun w => by simp [isAgg, run_underlying Tryd.underlying19]⟩
instance : Plc Tryd.prog 19 [(0, 1)] := ⟨fun w => ⟨_, Tryd.underlying19, run_places w _ _ (by kernel_rfl)⟩⟩
instance : Fld Tryd.prog 19 0 0 := mk_fld Tryd.underlying19 rfl (inf17).pos rfl
instance : Und Tryd.prog 21 (.int .i32) := ⟨by kernel_rfl⟩
instance inf21 : Inf Tryd.prog 21 1 4 (.int .i32 0) := ⟨by kernel_rfl⟩
instance : Agg Tryd.prog 21 false := ⟨fun w => by simp [isAgg, run_underlying Tryd.underlying21]⟩
instance : Und Tryd.prog 22 (.slice 29) := ⟨by kernel_rfl⟩
instance inf22 : Inf Tryd.prog 22 1 24 (.slice none 0 0) := ⟨by kernel_rfl⟩
instance : Agg Tryd.prog 22 false := ⟨fun w => by simp [isAgg, run_underlying Tryd.underlying22]⟩
instance : Und Tryd.prog 23 (.slice 39) := ⟨by kernel_rfl⟩
instance inf23 : Inf Tryd.prog 23 1 24 (.slice none 0 0) := ⟨by kernel_rfl⟩
instance : Agg Tryd.prog 23 false := ⟨fun w => by simp [isAgg, run_underlying Tryd.underlying23]⟩
instance : Und Tryd.prog 24 (.slice 45) := ⟨by kernel_rfl⟩
instance inf24 : Inf Tryd.prog 24 1 24 (.slice none 0 0) := ⟨by kernel_rfl⟩
instance : Agg Tryd.prog 24 false := ⟨fun w => by simp [isAgg, run_underlying Tryd.underlying24]⟩
instance inf25 : Inf Tryd.prog 25 4 88 (.agg #[(.string ⟨#[]⟩), (.slice none 0 0), (.slice none 0 0), (.slice none 0 0)]) := ⟨by kernel_rfl⟩
instance : Agg Tryd.prog 25 true := ⟨fun w => by simp [isAgg, run_underlying Tryd.underlying25]⟩
instance : Plc Tryd.prog 25 [(0, 1), (1, 1), (2, 1), (3, 1)] := ⟨fun w => ⟨_, Tryd.underlying25, run_places w _ _ (by kernel_rfl)⟩⟩
instance : Fld Tryd.prog 25 0 0 := mk_fld Tryd.underlying25 rfl (inf9).pos rfl
instance : Fld Tryd.prog 25 1 1 := mk_fld Tryd.underlying25 rfl (inf22).pos rfl
instance : Fld Tryd.prog 25 2 2 := mk_fld Tryd.underlying25 rfl (inf23).pos rfl
instance : Fld Tryd.prog 25 3 3 := mk_fld Tryd.underlying25 rfl (inf24).pos rfl
instance inf26 : Inf Tryd.prog 26 4 88 (.agg #[(.string ⟨#[]⟩), (.slice none 0 0), (.slice none 0 0), (.slice none 0 0)]) := ⟨by kernel_rfl⟩
instance : Agg Tryd.prog 26 true := ⟨fun w => by simp [isAgg, run_underlying Tryd.underlying26]⟩
instance : Plc Tryd.prog 26 [(0, 1), (1, 1), (2, 1), (3, 1)] := ⟨fun w => ⟨_, Tryd.underlying26, run_places w _ _ (by kernel_rfl)⟩⟩
instance : Fld Tryd.prog 26 0 0 := mk_fld Tryd.underlying26 rfl (inf9).pos rfl
instance : Fld Tryd.prog 26 1 1 := mk_fld Tryd.underlying26 rfl (inf22).pos rfl
instance : Fld Tryd.prog 26 2 2 := mk_fld Tryd.underlying26 rfl (inf23).pos rfl
instance : Fld Tryd.prog 26 3 3 := mk_fld Tryd.underlying26 rfl (inf24).pos rfl
instance : Und Tryd.prog 27 (.int .i64) := ⟨by kernel_rfl⟩
instance inf27 : Inf Tryd.prog 27 1 8 (.int .i64 0) := ⟨by kernel_rfl⟩
instance : Agg Tryd.prog 27 false := ⟨fun w => by simp [isAgg, run_underlying Tryd.underlying27]⟩
instance inf28 : Inf Tryd.prog 28 4 40 (.agg #[(.int .i64 0), (.int .i64 0), (.bool false), (.string ⟨#[]⟩)]) := ⟨by kernel_rfl⟩
instance : Agg Tryd.prog 28 true := ⟨fun w => by simp [isAgg, run_underlying Tryd.underlying28]⟩
instance : Plc Tryd.prog 28 [(0, 1), (1, 1), (2, 1), (3, 1)] := ⟨fun w => ⟨_, Tryd.underlying28, run_places w _ _ (by kernel_rfl)⟩⟩
instance : Fld Tryd.prog 28 0 0 := mk_fld Tryd.underlying28 rfl (inf27).pos rfl
instance : Fld Tryd.prog 28 1 1 := mk_fld Tryd.underlying28 rfl (inf2).pos rfl
instance : Fld Tryd.prog 28 2 2 := mk_fld Tryd.underlying28 rfl (inf4).pos rfl
instance : Fld Tryd.prog 28 3 3 := mk_fld Tryd.underlying28 rfl (inf9).pos rfl
instance inf29 : Inf Tryd.prog 29 4 40 (.agg #[(.int .i64 0), (.int .i64 0), (.bool false), (.string ⟨#[]⟩)]) := ⟨by kernel_rfl⟩
instance : Agg Tryd.prog 29 true := ⟨fun w => by simp [isAgg, run_underlying Tryd.underlying29]⟩
instance : Plc Tryd.prog 29 [(0, 1), (1, 1), (2, 1), (3, 1)] := ⟨fun w => ⟨_, Tryd.underlying29, run_places w _ _ (by kernel_rfl)⟩⟩
instance : Fld Tryd.prog 29 0 0 := mk_fld Tryd.underlying29 rfl (inf27).pos rfl
instance : Fld Tryd.prog 29 1 1 := mk_fld Tryd.underlying29 rfl (inf2).pos rfl
instance : Fld Tryd.prog 29 2 2 := mk_fld Tryd.underlying29 rfl (inf4).pos rfl
instance : Fld Tryd.prog 29 3 3 := mk_fld Tryd.underlying29 rfl (inf9).pos rfl
instance inf30 : Inf Tryd.prog 30 2 16 (.agg #[(.int .i64 0), (.int .i64 0)]) := ⟨by kernel_rfl⟩
instance : Agg Tryd.prog 30 true := ⟨fun w => by simp [isAgg, run_underlying Tryd.underlying30]⟩
instance : Plc Tryd.prog 30 [(0, 1), (1, 1)] := ⟨fun w => ⟨_, Tryd.underlying30, run_places w _ _ (by kernel_rfl)⟩⟩
instance : Fld Tryd.prog 30 0 0 := mk_fld Tryd.underlying30 rfl (inf3).pos rfl
instance : Fld Tryd.prog 30 1 1 := mk_fld Tryd.underlying30 rfl (inf3).pos rfl
instance inf31 : Inf Tryd.prog 31 2 16 (.agg #[(.int .i64 0), (.int .i64 0)]) := ⟨by kernel_rfl⟩
instance : Agg Tryd.prog 31 true := ⟨fun w => by simp [isAgg, run_underlying Tryd.underlying31]⟩
instance : Plc Tryd.prog 31 [(0, 1), (1, 1)] := ⟨fun w => ⟨_, Tryd.underlying31, run_places w _ _ (by kernel_rfl)⟩⟩
instance : Fld Tryd.prog 31 0 0 := mk_fld Tryd.underlying31 rfl (inf3).pos rfl
instance : Fld Tryd.prog 31 1 1 := mk_fld Tryd.underlying31 rfl (inf3).pos rfl
instance : Und Tryd.prog 32 (.int .i64) := ⟨by kernel_rfl⟩
instance inf32 : Inf Tryd.prog 32 1 8 (.int .i64 0) := ⟨by kernel_rfl⟩
instance : Agg Tryd.prog 32 false := ⟨fun w => by simp [isAgg, run_underlying Tryd.underlying32]⟩
instance : Und Tryd.prog 37 (.slice 27) := ⟨by kernel_rfl⟩
instance inf37 : Inf Tryd.prog 37 1 24 (.slice none 0 0) := ⟨by kernel_rfl⟩
instance : Agg Tryd.prog 37 false := ⟨fun w => by simp [isAgg, run_underlying Tryd.underlying37]⟩
instance inf38 : Inf Tryd.prog 38 4 64 (.agg #[(.string ⟨#[]⟩), (.string ⟨#[]⟩), (.slice none 0 0), (.int .i64 0)]) := ⟨by kernel_rfl⟩
instance : Agg Tryd.prog 38 true := ⟨fun w => by simp [isAgg, run_underlying Tryd.underlying38]⟩
instance : Plc Tryd.prog 38 [(0, 1), (1, 1), (2, 1), (3, 1)] := ⟨fun w => ⟨_, Tryd.underlying38, run_places w _ _ (by kernel_rfl)⟩⟩
instance : Fld Tryd.prog 38 0 0 := mk_fld Tryd.underlying38 rfl (inf9).pos rfl
instance : Fld Tryd.prog 38 1 1 := mk_fld Tryd.underlying38 rfl (inf9).pos rfl
instance : Fld Tryd.prog 38 2 2 := mk_fld Tryd.underlying38 rfl (inf37).pos rfl
instance : Fld Tryd.prog 38 3 3 := mk_fld Tryd.underlying38 rfl (inf27).pos rfl
instance inf39 : Inf Tryd.prog 39 4 64 (.agg #[(.string ⟨#[]⟩), (.string ⟨#[]⟩), (.slice none 0 0), (.int .i64 0)]) := ⟨by kernel_rfl⟩
instance : Agg Tryd.prog 39 true := ⟨fun w => by simp [isAgg, run_underlying Tryd.underlying39]⟩
instance : Plc Tryd.prog 39 [(0, 1), (1, 1), (2, 1), (3, 1)] := ⟨fun w => ⟨_, Tryd.underlying39, run_places w _ _ (by kernel_rfl)⟩⟩
instance : Fld Tryd.prog 39 0 0 := mk_fld Tryd.underlying39 rfl (inf9).pos rfl
instance : Fld Tryd.prog 39 1 1 := mk_fld Tryd.underlying39 rfl (inf9).pos rfl
instance : Fld Tryd.prog 39 2 2 := mk_fld Tryd.underlying39 rfl (inf37).pos rfl
instance : Fld Tryd.prog 39 3 3 := mk_fld Tryd.underlying39 rfl (inf27).pos rfl
instance : Und Tryd.prog 40 (.slice 3) := ⟨by kernel_rfl⟩
instance inf40 : Inf Tryd.prog 40 1 24 (.slice none 0 0) := ⟨by kernel_rfl⟩
instance : Agg Tryd.prog 40 false := ⟨fun w => by simp [isAgg, run_underlying Tryd.underlying40]⟩
instance : Und Tryd.prog 43 (.slice 68) := ⟨by kernel_rfl⟩
instance inf43 : Inf Tryd.prog 43 1 24 (.slice none 0 0) := ⟨by kernel_rfl⟩
instance : Agg Tryd.prog 43 false := ⟨fun w => by simp [isAgg, run_underlying Tryd.underlying43]⟩
instance inf44 : Inf Tryd.prog 44 6 88 (.agg #[(.string ⟨#[]⟩), (.bool false), (.slice none 0 0), (.int .i64 0), (.int .i64 0), (.slice none 0 0)]) := ⟨by kernel_rfl⟩
instance : Agg Tryd.prog 44 true := ⟨fun w => by simp [isAgg, run_underlying Tryd.underlying44]⟩
instance : Plc Tryd.prog 44 [(0, 1), (1, 1), (2, 1), (3, 1), (4, 1), (5, 1)] := ⟨fun w => ⟨_, Tryd.underlying44, run_places w _ _ (by kernel_rfl)⟩⟩
instance : Fld Tryd.prog 44 0 0 := mk_fld Tryd.underlying44 rfl (inf9).pos rfl
instance : Fld Tryd.prog 44 1 1 := mk_fld Tryd.underlying44 rfl (inf4).pos rfl
instance : Fld Tryd.prog 44 2 2 := mk_fld Tryd.underlying44 rfl (inf37).pos rfl
instance : Fld Tryd.prog 44 3 3 := mk_fld Tryd.underlying44 rfl (inf3).pos rfl
instance : Fld Tryd.prog 44 4 4 := mk_fld Tryd.underlying44 rfl (inf27).pos rfl
instance : Fld Tryd.prog 44 5 5 := mk_fld Tryd.underlying44 rfl (inf43).pos rfl
instance inf45 : Inf Tryd.prog 45 6 88 (.agg #[(.string ⟨#[]⟩), (.bool false), (.slice none 0 0), (.int .i64 0), (.int .i64 0), (.slice none 0 0)]) := ⟨by kernel_rfl⟩
instance : Agg Tryd.prog 45 true := ⟨fun w => by simp [isAgg, run_underlying Tryd.underlying45]⟩
instance : Plc Tryd.prog 45 [(0, 1), (1, 1), (2, 1), (3, 1), (4, 1), (5, 1)] := ⟨fun w => ⟨_, Tryd.underlying45, run_places w _ _ (by kernel_rfl)⟩⟩
instance : Fld Tryd.prog 45 0 0 := mk_fld Tryd.underlying45 rfl (inf9).pos rfl
instance : Fld Tryd.prog 45 1 1 := mk_fld Tryd.underlying45 rfl (inf4).pos rfl
instance : Fld Tryd.prog 45 2 2 := mk_fld Tryd.underlying45 rfl (inf37).pos rfl
instance : Fld Tryd.prog 45 3 3 := mk_fld Tryd.underlying45 rfl (inf3).pos rfl
instance : Fld Tryd.prog 45 4 4 := mk_fld Tryd.underlying45 rfl (inf27).pos rfl
instance : Fld Tryd.prog 45 5 5 := mk_fld Tryd.underlying45 rfl (inf43).pos rfl
instance : Und Tryd.prog 48 (.pointer 50) := ⟨by kernel_rfl⟩
instance inf48 : Inf Tryd.prog 48 1 8 (.pointer none) := ⟨by kernel_rfl⟩
instance : Agg Tryd.prog 48 false := ⟨fun w => by simp [isAgg, run_underlying Tryd.underlying48]⟩
instance inf49 : Inf Tryd.prog 49 3 72 (.agg #[(.slice none 0 0), (.slice none 0 0), (.slice none 0 0)]) := ⟨by kernel_rfl⟩
instance : Agg Tryd.prog 49 true := ⟨fun w => by simp [isAgg, run_underlying Tryd.underlying49]⟩
instance : Plc Tryd.prog 49 [(0, 1), (1, 1), (2, 1)] := ⟨fun w => ⟨_, Tryd.underlying49, run_places w _ _ (by kernel_rfl)⟩⟩
instance : Fld Tryd.prog 49 0 0 := mk_fld Tryd.underlying49 rfl (inf22).pos rfl
instance : Fld Tryd.prog 49 1 1 := mk_fld Tryd.underlying49 rfl (inf23).pos rfl
instance : Fld Tryd.prog 49 2 2 := mk_fld Tryd.underlying49 rfl (inf24).pos rfl
instance inf50 : Inf Tryd.prog 50 3 72 (.agg #[(.slice none 0 0), (.slice none 0 0), (.slice none 0 0)]) := ⟨by kernel_rfl⟩
instance : Agg Tryd.prog 50 true := ⟨fun w => by simp [isAgg, run_underlying Tryd.underlying50]⟩
instance : Plc Tryd.prog 50 [(0, 1), (1, 1), (2, 1)] := ⟨fun w => ⟨_, Tryd.underlying50, run_places w _ _ (by kernel_rfl)⟩⟩
instance : Fld Tryd.prog 50 0 0 := mk_fld Tryd.underlying50 rfl (inf22).pos rfl
instance : Fld Tryd.prog 50 1 1 := mk_fld Tryd.underlying50 rfl (inf23).pos rfl
instance : Fld Tryd.prog 50 2 2 := mk_fld Tryd.underlying50 rfl (inf24).pos rfl
instance : Und Tryd.prog 53 (.pointer 58) := ⟨by kernel_rfl⟩
instance inf53 : Inf Tryd.prog 53 1 8 (.pointer none) := ⟨by kernel_rfl⟩
instance : Agg Tryd.prog 53 false := ⟨fun w => by simp [isAgg, run_underlying Tryd.underlying53]⟩
instance : Und Tryd.prog 56 (.slice 60) := ⟨by kernel_rfl⟩
instance inf56 : Inf Tryd.prog 56 1 24 (.slice none 0 0) := ⟨by kernel_rfl⟩
instance : Agg Tryd.prog 56 false := ⟨fun w => by simp [isAgg, run_underlying Tryd.underlying56]⟩
instance inf57 : Inf Tryd.prog 57 8 120 (.agg #[(.pointer none), (.string ⟨#[]⟩), (.bool false), (.slice none 0 0), (.int .i64 0), (.int .i64 0), (.slice none 0 0), (.slice none 0 0)]) := ⟨by kernel_rfl⟩
instance : Agg Tryd.prog 57 true := ⟨fun w => by simp [isAgg, run_underlying Tryd.underlying57]⟩
instance : Plc Tryd.prog 57 [(0, 1), (1, 6), (7, 1)] := ⟨fun w => ⟨_, Tryd.underlying57, run_places w _ _ (by kernel_rfl)⟩⟩
instance : Fld Tryd.prog 57 0 0 := mk_fld Tryd.underlying57 rfl (inf48).pos rfl
instance : Fld Tryd.prog 57 1 1 := mk_fld Tryd.underlying57 rfl (inf45).pos rfl
instance : Fld Tryd.prog 57 2 7 := mk_fld Tryd.underlying57 rfl (inf56).pos rfl
instance inf58 : Inf Tryd.prog 58 8 120 (.agg #[(.pointer none), (.string ⟨#[]⟩), (.bool false), (.slice none 0 0), (.int .i64 0), (.int .i64 0), (.slice none 0 0), (.slice none 0 0)]) := ⟨by kernel_rfl⟩
instance : Agg Tryd.prog 58 true := ⟨fun w => by simp [isAgg, run_underlying Tryd.underlying58]⟩
instance : Plc Tryd.prog 58 [(0, 1), (1, 6), (7, 1)] := ⟨fun w => ⟨_, Tryd.underlying58, run_places w _ _ (by kernel_rfl)⟩⟩
instance : Fld Tryd.prog 58 0 0 := mk_fld Tryd.underlying58 rfl (inf48).pos rfl
instance : Fld Tryd.prog 58 1 1 := mk_fld Tryd.underlying58 rfl (inf45).pos rfl
instance : Fld Tryd.prog 58 2 7 := mk_fld Tryd.underlying58 rfl (inf56).pos rfl
instance inf59 : Inf Tryd.prog 59 4 56 (.agg #[(.bool false), (.bool false), (.slice none 0 0), (.slice none 0 0)]) := ⟨by kernel_rfl⟩
instance : Agg Tryd.prog 59 true := ⟨fun w => by simp [isAgg, run_underlying Tryd.underlying59]⟩
instance : Plc Tryd.prog 59 [(0, 1), (1, 1), (2, 1), (3, 1)] := ⟨fun w => ⟨_, Tryd.underlying59, run_places w _ _ (by kernel_rfl)⟩⟩
instance : Fld Tryd.prog 59 0 0 := mk_fld Tryd.underlying59 rfl (inf4).pos rfl
instance : Fld Tryd.prog 59 1 1 := mk_fld Tryd.underlying59 rfl (inf4).pos rfl
instance : Fld Tryd.prog 59 2 2 := mk_fld Tryd.underlying59 rfl (inf37).pos rfl
instance : Fld Tryd.prog 59 3 3 := mk_fld Tryd.underlying59 rfl (inf37).pos rfl
instance inf60 : Inf Tryd.prog 60 4 56 (.agg #[(.bool false), (.bool false), (.slice none 0 0), (.slice none 0 0)]) := ⟨by kernel_rfl⟩
instance : Agg Tryd.prog 60 true := ⟨fun w => by simp [isAgg, run_underlying Tryd.underlying60]⟩
instance : Plc Tryd.prog 60 [(0, 1), (1, 1), (2, 1), (3, 1)] := ⟨fun w => ⟨_, Tryd.underlying60, run_places w _ _ (by kernel_rfl)⟩⟩
instance : Fld Tryd.prog 60 0 0 := mk_fld Tryd.underlying60 rfl (inf4).pos rfl
instance : Fld Tryd.prog 60 1 1 := mk_fld Tryd.underlying60 rfl (inf4).pos rfl
instance : Fld Tryd.prog 60 2 2 := mk_fld Tryd.underlying60 rfl (inf37).pos rfl
instance : Fld Tryd.prog 60 3 3 := mk_fld Tryd.underlying60 rfl (inf37).pos rfl
instance : Und Tryd.prog 64 (.map 9 3) := ⟨by kernel_rfl⟩
instance inf64 : Inf Tryd.prog 64 1 8 (.map none) := ⟨by kernel_rfl⟩
instance : Agg Tryd.prog 64 false := ⟨fun w => by simp [isAgg, run_underlying Tryd.underlying64]⟩
instance : Und Tryd.prog 66 (.int .i64) := ⟨by kernel_rfl⟩
instance inf66 : Inf Tryd.prog 66 1 8 (.int .i64 0) := ⟨by kernel_rfl⟩
instance : Agg Tryd.prog 66 false := ⟨fun w => by simp [isAgg, run_underlying Tryd.underlying66]⟩
instance inf67 : Inf Tryd.prog 67 2 16 (.agg #[(.int .i64 0), (.int .i64 0)]) := ⟨by kernel_rfl⟩
instance : Agg Tryd.prog 67 true := ⟨fun w => by simp [isAgg, run_underlying Tryd.underlying67]⟩
instance : Plc Tryd.prog 67 [(0, 1), (1, 1)] := ⟨fun w => ⟨_, Tryd.underlying67, run_places w _ _ (by kernel_rfl)⟩⟩
instance : Fld Tryd.prog 67 0 0 := mk_fld Tryd.underlying67 rfl (inf66).pos rfl
instance : Fld Tryd.prog 67 1 1 := mk_fld Tryd.underlying67 rfl (inf3).pos rfl
instance inf68 : Inf Tryd.prog 68 2 16 (.agg #[(.int .i64 0), (.int .i64 0)]) := ⟨by kernel_rfl⟩
instance : Agg Tryd.prog 68 true := ⟨fun w => by simp [isAgg, run_underlying Tryd.underlying68]⟩
instance : Plc Tryd.prog 68 [(0, 1), (1, 1)] := ⟨fun w => ⟨_, Tryd.underlying68, run_places w _ _ (by kernel_rfl)⟩⟩
instance : Fld Tryd.prog 68 0 0 := mk_fld Tryd.underlying68 rfl (inf66).pos rfl
instance : Fld Tryd.prog 68 1 1 := mk_fld Tryd.underlying68 rfl (inf3).pos rfl
instance : Und Tryd.prog 75 (.int .i64) := ⟨by kernel_rfl⟩
instance inf75 : Inf Tryd.prog 75 1 8 (.int .i64 0) := ⟨by kernel_rfl⟩
instance : Agg Tryd.prog 75 false := ⟨fun w => by simp [isAgg, run_underlying Tryd.underlying75]⟩
instance : Und Tryd.prog 78 (.map 3 3) := ⟨by kernel_rfl⟩
instance inf78 : Inf Tryd.prog 78 1 8 (.map none) := ⟨by kernel_rfl⟩
instance : Agg Tryd.prog 78 false := ⟨fun w => by simp [isAgg, run_underlying Tryd.underlying78]⟩
instance : Und Tryd.prog 85 (.slice 9) := ⟨by kernel_rfl⟩
instance inf85 : Inf Tryd.prog 85 1 24 (.slice none 0 0) := ⟨by kernel_rfl⟩
instance : Agg Tryd.prog 85 false := ⟨fun w => by simp [isAgg, run_underlying Tryd.underlying85]⟩
instance inf90 : Inf Tryd.prog 90 4 40 (.agg #[(.string ⟨#[]⟩), (.bool false), (.int .i64 0), (.int .i64 0)]) := ⟨by kernel_rfl⟩
instance : Agg Tryd.prog 90 true := ⟨fun w => by simp [isAgg, run_underlying Tryd.underlying90]⟩
instance : Plc Tryd.prog 90 [(0, 1), (1, 1), (2, 1), (3, 1)] := ⟨fun w => ⟨_, Tryd.underlying90, run_places w _ _ (by kernel_rfl)⟩⟩
instance : Fld Tryd.prog 90 0 0 := mk_fld Tryd.underlying90 rfl (inf9).pos rfl
instance : Fld Tryd.prog 90 1 1 := mk_fld Tryd.underlying90 rfl (inf4).pos rfl
instance : Fld Tryd.prog 90 2 2 := mk_fld Tryd.underlying90 rfl (inf3).pos rfl
instance : Fld Tryd.prog 90 3 3 := mk_fld Tryd.underlying90 rfl (inf3).pos rfl
instance inf91 : Inf Tryd.prog 91 4 40 (.agg #[(.string ⟨#[]⟩), (.bool false), (.int .i64 0), (.int .i64 0)]) := ⟨by kernel_rfl⟩
instance : Agg Tryd.prog 91 true := ⟨fun w => by simp [isAgg, run_underlying Tryd.underlying91]⟩
instance : Plc Tryd.prog 91 [(0, 1), (1, 1), (2, 1), (3, 1)] := ⟨fun w => ⟨_, Tryd.underlying91, run_places w _ _ (by kernel_rfl)⟩⟩
instance : Fld Tryd.prog 91 0 0 := mk_fld Tryd.underlying91 rfl (inf9).pos rfl
instance : Fld Tryd.prog 91 1 1 := mk_fld Tryd.underlying91 rfl (inf4).pos rfl
instance : Fld Tryd.prog 91 2 2 := mk_fld Tryd.underlying91 rfl (inf3).pos rfl
instance : Fld Tryd.prog 91 3 3 := mk_fld Tryd.underlying91 rfl (inf3).pos rfl
instance inf107 : Inf Tryd.prog 107 108 1080 (.agg #[(.string ⟨#[]⟩), (.bool false), (.int .i64 0), (.int .i64 0), (.string ⟨#[]⟩), (.bool false), (.int .i64 0), (.int .i64 0), (.string ⟨#[]⟩), (.bool false), (.int .i64 0), (.int .i64 0), (.string ⟨#[]⟩), (.bool false), (.int .i64 0), (.int .i64 0), (.string ⟨#[]⟩), (.bool false), (.int .i64 0), (.int .i64 0), (.string ⟨#[]⟩), (.bool false), (.int .i64 0), (.int .i64 0), (.string ⟨#[]⟩), (.bool false), (.int .i64 0), (.int .i64 0), (.string ⟨#[]⟩), (.bool false), (.int .i64 0), (.int .i64 0), (.string ⟨#[]⟩), (.bool false), (.int .i64 0), (.int .i64 0), (.string ⟨#[]⟩), (.bool false), (.int .i64 0), (.int .i64 0), (.string ⟨#[]⟩), (.bool false), (.int .i64 0), (.int .i64 0), (.string ⟨#[]⟩), (.bool false), (.int .i64 0), (.int .i64 0), (.string ⟨#[]⟩), (.bool false), (.int .i64 0), (.int .i64 0), (.string ⟨#[]⟩), (.bool false), (.int .i64 0), (.int .i64 0), (.string ⟨#[]⟩), (.bool false), (.int .i64 0), (.int .i64 0), (.string ⟨#[]⟩), (.bool false), (.int .i64 0), (.int .i64 0), (.string ⟨#[]⟩), (.bool false), (.int .i64 0), (.int .i64 0), (.string ⟨#[]⟩), (.bool false), (.int .i64 0), (.int .i64 0), (.string ⟨#[]⟩), (.bool false), (.int .i64 0), (.int .i64 0), (.string ⟨#[]⟩), (.bool false), (.int .i64 0), (.int .i64 0), (.string ⟨#[]⟩), (.bool false), (.int .i64 0), (.int .i64 0), (.string ⟨#[]⟩), (.bool false), (.int .i64 0), (.int .i64 0), (.string ⟨#[]⟩), (.bool false), (.int .i64 0), (.int .i64 0), (.string ⟨#[]⟩), (.bool false), (.int .i64 0), (.int .i64 0), (.string ⟨#[]⟩), (.bool false), (.int .i64 0), (.int .i64 0), (.string ⟨#[]⟩), (.bool false), (.int .i64 0), (.int .i64 0), (.string ⟨#[]⟩), (.bool false), (.int .i64 0), (.int .i64 0)]) := ⟨by kernel_rfl⟩
instance : Agg Tryd.prog 107 true := ⟨fun w => by simp [isAgg, run_underlying Tryd.underlying107]⟩
instance inf111 : Inf Tryd.prog 111 16 256 (.agg #[(.string ⟨#[]⟩), (.string ⟨#[]⟩), (.string ⟨#[]⟩), (.string ⟨#[]⟩), (.string ⟨#[]⟩), (.string ⟨#[]⟩), (.string ⟨#[]⟩), (.string ⟨#[]⟩), (.string ⟨#[]⟩), (.string ⟨#[]⟩), (.string ⟨#[]⟩), (.string ⟨#[]⟩), (.string ⟨#[]⟩), (.string ⟨#[]⟩), (.string ⟨#[]⟩), (.string ⟨#[]⟩)]) := ⟨by kernel_rfl⟩
instance : Agg Tryd.prog 111 true := ⟨fun w => by simp [isAgg, run_underlying Tryd.underlying111]⟩
instance : Und Tryd.prog 117 (.slice 5) := ⟨by kernel_rfl⟩
instance inf117 : Inf Tryd.prog 117 1 24 (.slice none 0 0) := ⟨by kernel_rfl⟩
instance : Agg Tryd.prog 117 false := ⟨fun w => by simp [isAgg, run_underlying Tryd.underlying117]⟩
instance inf120 : Inf Tryd.prog 120 7 112 (.agg #[(.string ⟨#[]⟩), (.string ⟨#[]⟩), (.string ⟨#[]⟩), (.string ⟨#[]⟩), (.string ⟨#[]⟩), (.string ⟨#[]⟩), (.string ⟨#[]⟩)]) := ⟨by kernel_rfl⟩
instance : Agg Tryd.prog 120 true := ⟨fun w => by simp [isAgg, run_underlying Tryd.underlying120]⟩
instance : Und Tryd.prog 127 (.int .u64) := ⟨by kernel_rfl⟩
instance inf127 : Inf Tryd.prog 127 1 8 (.int .u64 0) := ⟨by kernel_rfl⟩
instance : Agg Tryd.prog 127 false := ⟨fun w => by simp [isAgg, run_underlying Tryd.underlying127]⟩
instance : Und Tryd.prog 130 (.int .i64) := ⟨by kernel_rfl⟩
instance inf130 : Inf Tryd.prog 130 1 8 (.int .i64 0) := ⟨by kernel_rfl⟩
instance : Agg Tryd.prog 130 false := ⟨fun w => by simp [isAgg, run_underlying Tryd.underlying130]⟩
instance : Und Tryd.prog 131 (.int .u64) := ⟨by kernel_rfl⟩
instance inf131 : Inf Tryd.prog 131 1 8 (.int .u64 0) := ⟨by kernel_rfl⟩
instance : Agg Tryd.prog 131 false := ⟨fun w => by simp [isAgg, run_underlying Tryd.underlying131]⟩
instance : Und Tryd.prog 134 (.pointer 147) := ⟨by kernel_rfl⟩
instance inf134 : Inf Tryd.prog 134 1 8 (.pointer none) := ⟨by kernel_rfl⟩
instance : Agg Tryd.prog 134 false := ⟨fun w => by simp [isAgg, run_underlying Tryd.underlying134]⟩
instance inf138 : Inf Tryd.prog 138 24 24 (.agg #[(.int .u8 0), (.int .u8 0), (.int .u8 0), (.int .u8 0), (.int .u8 0), (.int .u8 0), (.int .u8 0), (.int .u8 0), (.int .u8 0), (.int .u8 0), (.int .u8 0), (.int .u8 0), (.int .u8 0), (.int .u8 0), (.int .u8 0), (.int .u8 0), (.int .u8 0), (.int .u8 0), (.int .u8 0), (.int .u8 0), (.int .u8 0), (.int .u8 0), (.int .u8 0), (.int .u8 0)]) := ⟨by kernel_rfl⟩
instance : Agg Tryd.prog 138 true := ⟨fun w => by simp [isAgg, run_underlying Tryd.underlying138]⟩
instance inf146 : Inf Tryd.prog 146 3 48 (.agg #[(.string ⟨#[]⟩), (.string ⟨#[]⟩), .nilIface]) := ⟨by kernel_rfl⟩
instance : Agg Tryd.prog 146 true := ⟨fun w => by simp [isAgg, run_underlying Tryd.underlying146]⟩
instance : Plc Tryd.prog 146 [(0, 1), (1, 1), (2, 1)] := ⟨fun w => ⟨_, Tryd.underlying146, run_places w _ _ (by kernel_rfl)⟩⟩
instance : Fld Tryd.prog 146 0 0 := mk_fld Tryd.underlying146 rfl (inf9).pos rfl
instance : Fld Tryd.prog 146 1 1 := mk_fld Tryd.underlying146 rfl (inf9).pos rfl
instance inf147 : Inf Tryd.prog 147 3 48 (.agg #[(.string ⟨#[]⟩), (.string ⟨#[]⟩), .nilIface]) := ⟨by kernel_rfl⟩
instance : Agg Tryd.prog 147 true := ⟨fun w => by simp [isAgg, run_underlying Tryd.underlying147]⟩
instance : Plc Tryd.prog 147 [(0, 1), (1, 1), (2, 1)] := ⟨fun w => ⟨_, Tryd.underlying147, run_places w _ _ (by kernel_rfl)⟩⟩
instance : Fld Tryd.prog 147 0 0 := mk_fld Tryd.underlying147 rfl (inf9).pos rfl
instance : Fld Tryd.prog 147 1 1 := mk_fld Tryd.underlying147 rfl (inf9).pos rfl
instance inf150 : Inf Tryd.prog 150 20 160 (.agg #[(.int .u64 0), (.int .u64 0), (.int .u64 0), (.int .u64 0), (.int .u64 0), (.int .u64 0), (.int .u64 0), (.int .u64 0), (.int .u64 0), (.int .u64 0), (.int .u64 0), (.int .u64 0), (.int .u64 0), (.int .u64 0), (.int .u64 0), (.int .u64 0), (.int .u64 0), (.int .u64 0), (.int .u64 0), (.int .u64 0)]) := ⟨by kernel_rfl⟩
instance : Agg Tryd.prog 150 true := ⟨fun w => by simp [isAgg, run_underlying Tryd.underlying150]⟩
instance : Und Tryd.prog 151 (.int .u32) := ⟨by kernel_rfl⟩
instance inf151 : Inf Tryd.prog 151 1 4 (.int .u32 0) := ⟨by kernel_rfl⟩
instance : Agg Tryd.prog 151 false := ⟨fun w => by simp [isAgg, run_underlying Tryd.underlying151]⟩
instance inf152 : Inf Tryd.prog 152 65 65 (.agg #[(.int .u8 0), (.int .u8 0), (.int .u8 0), (.int .u8 0), (.int .u8 0), (.int .u8 0), (.int .u8 0), (.int .u8 0), (.int .u8 0), (.int .u8 0), (.int .u8 0), (.int .u8 0), (.int .u8 0), (.int .u8 0), (.int .u8 0), (.int .u8 0), (.int .u8 0), (.int .u8 0), (.int .u8 0), (.int .u8 0), (.int .u8 0), (.int .u8 0), (.int .u8 0), (.int .u8 0), (.int .u8 0), (.int .u8 0), (.int .u8 0), (.int .u8 0), (.int .u8 0), (.int .u8 0), (.int .u8 0), (.int .u8 0), (.int .u8 0), (.int .u8 0), (.int .u8 0), (.int .u8 0), (.int .u8 0), (.int .u8 0), (.int .u8 0), (.int .u8 0), (.int .u8 0), (.int .u8 0), (.int .u8 0), (.int .u8 0), (.int .u8 0), (.int .u8 0), (.int .u8 0), (.int .u8 0), (.int .u8 0), (.int .u8 0), (.int .u8 0), (.int .u8 0), (.int .u8 0), (.int .u8 0), (.int .u8 0), (.int .u8 0), (.int .u8 0), (.int .u8 0), (.int .u8 0), (.int .u8 0), (.int .u8 0), (.int .u8 0), (.int .u8 0), (.int .u8 0), (.int .u8 0)]) := ⟨by kernel_rfl⟩
instance : Agg Tryd.prog 152 true := ⟨fun w => by simp [isAgg, run_underlying Tryd.underlying152]⟩
instance inf156 : Inf Tryd.prog 156 2 2 (.agg #[(.int .u8 0), (.int .u8 0)]) := ⟨by kernel_rfl⟩
instance : Agg Tryd.prog 156 true := ⟨fun w => by simp [isAgg, run_underlying Tryd.underlying156]⟩
instance : Plc Tryd.prog 156 [(0, 1), (1, 1)] := ⟨fun w => ⟨_, Tryd.underlying156, run_places w _ _ (by kernel_rfl)⟩⟩
instance : Fld Tryd.prog 156 0 0 := mk_fld Tryd.underlying156 rfl (inf5).pos rfl
instance : Fld Tryd.prog 156 1 1 := mk_fld Tryd.underlying156 rfl (inf5).pos rfl
instance inf157 : Inf Tryd.prog 157 2 2 (.agg #[(.int .u8 0), (.int .u8 0)]) := ⟨by kernel_rfl⟩
instance : Agg Tryd.prog 157 true := ⟨fun w => by simp [isAgg, run_underlying Tryd.underlying157]⟩
instance : Plc Tryd.prog 157 [(0, 1), (1, 1)] := ⟨fun w => ⟨_, Tryd.underlying157, run_places w _ _ (by kernel_rfl)⟩⟩
instance : Fld Tryd.prog 157 0 0 := mk_fld Tryd.underlying157 rfl (inf5).pos rfl
instance : Fld Tryd.prog 157 1 1 := mk_fld Tryd.underlying157 rfl (inf5).pos rfl
instance inf158 : Inf Tryd.prog 158 32 32 (.agg #[(.int .u8 0), (.int .u8 0), (.int .u8 0), (.int .u8 0), (.int .u8 0), (.int .u8 0), (.int .u8 0), (.int .u8 0), (.int .u8 0), (.int .u8 0), (.int .u8 0), (.int .u8 0), (.int .u8 0), (.int .u8 0), (.int .u8 0), (.int .u8 0), (.int .u8 0), (.int .u8 0), (.int .u8 0), (.int .u8 0), (.int .u8 0), (.int .u8 0), (.int .u8 0), (.int .u8 0), (.int .u8 0), (.int .u8 0), (.int .u8 0), (.int .u8 0), (.int .u8 0), (.int .u8 0), (.int .u8 0), (.int .u8 0)]) := ⟨by kernel_rfl⟩
instance : Agg Tryd.prog 158 true := ⟨fun w => by simp [isAgg, run_underlying Tryd.underlying158]⟩
instance : Und Tryd.prog 161 (.pointer 5) := ⟨by kernel_rfl⟩
instance inf161 : Inf Tryd.prog 161 1 8 (.pointer none) := ⟨by kernel_rfl⟩
instance : Agg Tryd.prog 161 false := ⟨fun w => by simp [isAgg, run_underlying Tryd.underlying161]⟩
instance : Und Tryd.prog 162 (.pointer 164) := ⟨by kernel_rfl⟩
instance inf162 : Inf Tryd.prog 162 1 8 (.pointer none) := ⟨by kernel_rfl⟩
instance : Agg Tryd.prog 162 false := ⟨fun w => by simp [isAgg, run_underlying Tryd.underlying162]⟩
instance inf163 : Inf Tryd.prog 163 1 16 (.agg #[(.string ⟨#[]⟩)]) := ⟨by kernel_rfl⟩
instance : Agg Tryd.prog 163 true := ⟨fun w => by simp [isAgg, run_underlying Tryd.underlying163]⟩
instance : Plc Tryd.prog 163 [(0, 1)] := ⟨fun w => ⟨_, Tryd.underlying163, run_places w _ _ (by kernel_rfl)⟩⟩
instance : Fld Tryd.prog 163 0 0 := mk_fld Tryd.underlying163 rfl (inf9).pos rfl
instance inf164 : Inf Tryd.prog 164 1 16 (.agg #[(.string ⟨#[]⟩)]) := ⟨by kernel_rfl⟩
instance : Agg Tryd.prog 164 true := ⟨fun w => by simp [isAgg, run_underlying Tryd.underlying164]⟩
instance : Plc Tryd.prog 164 [(0, 1)] := ⟨fun w => ⟨_, Tryd.underlying164, run_places w _ _ (by kernel_rfl)⟩⟩
instance : Fld Tryd.prog 164 0 0 := mk_fld Tryd.underlying164 rfl (inf9).pos rfl
instance inf166 : Inf Tryd.prog 166 32 32 (.agg #[(.int .u8 0), (.int .u8 0), (.int .u8 0), (.int .u8 0), (.int .u8 0), (.int .u8 0), (.int .u8 0), (.int .u8 0), (.int .u8 0), (.int .u8 0), (.int .u8 0), (.int .u8 0), (.int .u8 0), (.int .u8 0), (.int .u8 0), (.int .u8 0), (.int .u8 0), (.int .u8 0), (.int .u8 0), (.int .u8 0), (.int .u8 0), (.int .u8 0), (.int .u8 0), (.int .u8 0), (.int .u8 0), (.int .u8 0), (.int .u8 0), (.int .u8 0), (.int .u8 0), (.int .u8 0), (.int .u8 0), (.int .u8 0)]) := ⟨by kernel_rfl⟩
instance : Agg Tryd.prog 166 true := ⟨fun w => by simp [isAgg, run_underlying Tryd.underlying166]⟩
instance inf167 : Inf Tryd.prog 167 64 64 (.agg #[(.int .u8 0), (.int .u8 0), (.int .u8 0), (.int .u8 0), (.int .u8 0), (.int .u8 0), (.int .u8 0), (.int .u8 0), (.int .u8 0), (.int .u8 0), (.int .u8 0), (.int .u8 0), (.int .u8 0), (.int .u8 0), (.int .u8 0), (.int .u8 0), (.int .u8 0), (.int .u8 0), (.int .u8 0), (.int .u8 0), (.int .u8 0), (.int .u8 0), (.int .u8 0), (.int .u8 0), (.int .u8 0), (.int .u8 0), (.int .u8 0), (.int .u8 0), (.int .u8 0), (.int .u8 0), (.int .u8 0), (.int .u8 0), (.int .u8 0), (.int .u8 0), (.int .u8 0), (.int .u8 0), (.int .u8 0), (.int .u8 0), (.int .u8 0), (.int .u8 0), (.int .u8 0), (.int .u8 0), (.int .u8 0), (.int .u8 0), (.int .u8 0), (.int .u8 0), (.int .u8 0), (.int .u8 0), (.int .u8 0), (.int .u8 0), (.int .u8 0), (.int .u8 0), (.int .u8 0), (.int .u8 0), (.int .u8 0), (.int .u8 0), (.int .u8 0), (.int .u8 0), (.int .u8 0), (.int .u8 0), (.int .u8 0), (.int .u8 0), (.int .u8 0), (.int .u8 0)]) := ⟨by kernel_rfl⟩
instance : Agg Tryd.prog 167 true := ⟨fun w => by simp [isAgg, run_underlying Tryd.underlying167]⟩
instance inf169 : Inf Tryd.prog 169 4 40 (.agg #[(.pointer none), (.pointer none), (.pointer none), (.string ⟨#[]⟩)]) := ⟨by kernel_rfl⟩
instance : Agg Tryd.prog 169 true := ⟨fun w => by simp [isAgg, run_underlying Tryd.underlying169]⟩
instance : Plc Tryd.prog 169 [(0, 1), (1, 1), (2, 1), (3, 1)] := ⟨fun w => ⟨_, Tryd.underlying169, run_places w _ _ (by kernel_rfl)⟩⟩
instance : Fld Tryd.prog 169 0 0 := mk_fld Tryd.underlying169 rfl (inf17).pos rfl
instance : Fld Tryd.prog 169 1 1 := mk_fld Tryd.underlying169 rfl (inf17).pos rfl
instance : Fld Tryd.prog 169 2 2 := mk_fld Tryd.underlying169 rfl (inf17).pos rfl
instance : Fld Tryd.prog 169 3 3 := mk_fld Tryd.underlying169 rfl (inf9).pos rfl
instance inf170 : Inf Tryd.prog 170 4 40 (.agg #[(.pointer none), (.pointer none), (.pointer none), (.string ⟨#[]⟩)]) := ⟨by kernel_rfl⟩
instance : Agg Tryd.prog 170 true := ⟨fun w => by simp [isAgg, run_underlying Tryd.underlying170]⟩
instance : Plc Tryd.prog 170 [(0, 1), (1, 1), (2, 1), (3, 1)] := ⟨fun w => ⟨_, Tryd.underlying170, run_places w _ _ (by kernel_rfl)⟩⟩
instance : Fld Tryd.prog 170 0 0 := mk_fld Tryd.underlying170 rfl (inf17).pos rfl
instance : Fld Tryd.prog 170 1 1 := mk_fld Tryd.underlying170 rfl (inf17).pos rfl
instance : Fld Tryd.prog 170 2 2 := mk_fld Tryd.underlying170 rfl (inf17).pos rfl
instance : Fld Tryd.prog 170 3 3 := mk_fld Tryd.underlying170 rfl (inf9).pos rfl
instance inf171 : Inf Tryd.prog 171 0 0 (.agg #[]) := ⟨by kernel_rfl⟩
instance : Agg Tryd.prog 171 true := ⟨fun w => by simp [isAgg, run_underlying Tryd.underlying171]⟩
instance inf172 : Inf Tryd.prog 172 0 0 (.agg #[]) := ⟨by kernel_rfl⟩
instance : Agg Tryd.prog 172 true := ⟨fun w => by simp [isAgg, run_underlying Tryd.underlying172]⟩
instance : Plc Tryd.prog 172 [(0, 0)] := ⟨fun w => ⟨_, Tryd.underlying172, run_places w _ _ (by kernel_rfl)⟩⟩
instance inf173 : Inf Tryd.prog 173 0 0 (.agg #[]) := ⟨by kernel_rfl⟩
instance : Agg Tryd.prog 173 true := ⟨fun w => by simp [isAgg, run_underlying Tryd.underlying173]⟩
instance : Plc Tryd.prog 173 [(0, 0)] := ⟨fun w => ⟨_, Tryd.underlying173, run_places w _ _ (by kernel_rfl)⟩⟩
instance : Und Tryd.prog 175 (.int .u8) := ⟨by kernel_rfl⟩
instance inf175 : Inf Tryd.prog 175 1 1 (.int .u8 0) := ⟨by kernel_rfl⟩
instance : Agg Tryd.prog 175 false := ⟨fun w => by simp [isAgg, run_underlying Tryd.underlying175]⟩
instance : Und Tryd.prog 176 (.int .u8) := ⟨by kernel_rfl⟩
instance inf176 : Inf Tryd.prog 176 1 1 (.int .u8 0) := ⟨by kernel_rfl⟩
instance : Agg Tryd.prog 176 false := ⟨fun w => by simp [isAgg, run_underlying Tryd.underlying176]⟩
instance : Und Tryd.prog 178 (.int .i32) := ⟨by kernel_rfl⟩
instance inf178 : Inf Tryd.prog 178 1 4 (.int .i32 0) := ⟨by kernel_rfl⟩
instance : Agg Tryd.prog 178 false := ⟨fun w => by simp [isAgg, run_underlying Tryd.underlying178]⟩
instance : Und Tryd.prog 179 (.int .i32) := ⟨by kernel_rfl⟩
instance inf179 : Inf Tryd.prog 179 1 4 (.int .i32 0) := ⟨by kernel_rfl⟩
instance : Agg Tryd.prog 179 false := ⟨fun w => by simp [isAgg, run_underlying Tryd.underlying179]⟩
instance inf180 : Inf Tryd.prog 180 11 48 (.agg #[(.int .u64 0), (.int .u64 0), (.int .u32 0), (.int .u8 0), (.int .u8 0), (.int .u8 0), (.int .u8 0), .nilFunc, (.pointer none), (.int .i32 0), (.int .i32 0)]) := ⟨by kernel_rfl⟩
instance : Agg Tryd.prog 180 true := ⟨fun w => by simp [isAgg, run_underlying Tryd.underlying180]⟩
instance : Plc Tryd.prog 180 [(0, 1), (1, 1), (2, 1), (3, 1), (4, 1), (5, 1), (6, 1), (7, 1), (8, 1), (9, 1), (10, 1)] := ⟨fun w => ⟨_, Tryd.underlying180, run_places w _ _ (by kernel_rfl)⟩⟩
instance : Fld Tryd.prog 180 0 0 := mk_fld Tryd.underlying180 rfl (inf12).pos rfl
instance : Fld Tryd.prog 180 1 1 := mk_fld Tryd.underlying180 rfl (inf12).pos rfl
instance : Fld Tryd.prog 180 2 2 := mk_fld Tryd.underlying180 rfl (inf151).pos rfl
instance : Fld Tryd.prog 180 3 3 := mk_fld Tryd.underlying180 rfl (inf175).pos rfl
instance : Fld Tryd.prog 180 4 4 := mk_fld Tryd.underlying180 rfl (inf5).pos rfl
instance : Fld Tryd.prog 180 5 5 := mk_fld Tryd.underlying180 rfl (inf5).pos rfl
instance : Fld Tryd.prog 180 6 6 := mk_fld Tryd.underlying180 rfl (inf176).pos rfl
instance : Fld Tryd.prog 180 8 8 := mk_fld Tryd.underlying180 rfl (inf161).pos rfl
instance : Fld Tryd.prog 180 9 9 := mk_fld Tryd.underlying180 rfl (inf178).pos rfl
instance : Fld Tryd.prog 180 10 10 := mk_fld Tryd.underlying180 rfl (inf179).pos rfl
instance inf181 : Inf Tryd.prog 181 11 48 (.agg #[(.int .u64 0), (.int .u64 0), (.int .u32 0), (.int .u8 0), (.int .u8 0), (.int .u8 0), (.int .u8 0), .nilFunc, (.pointer none), (.int .i32 0), (.int .i32 0)]) := ⟨by kernel_rfl⟩
instance : Agg Tryd.prog 181 true := ⟨fun w => by simp [isAgg, run_underlying Tryd.underlying181]⟩
instance : Plc Tryd.prog 181 [(0, 1), (1, 1), (2, 1), (3, 1), (4, 1), (5, 1), (6, 1), (7, 1), (8, 1), (9, 1), (10, 1)] := ⟨fun w => ⟨_, Tryd.underlying181, run_places w _ _ (by kernel_rfl)⟩⟩
instance : Fld Tryd.prog 181 0 0 := mk_fld Tryd.underlying181 rfl (inf12).pos rfl
instance : Fld Tryd.prog 181 1 1 := mk_fld Tryd.underlying181 rfl (inf12).pos rfl
instance : Fld Tryd.prog 181 2 2 := mk_fld Tryd.underlying181 rfl (inf151).pos rfl
instance : Fld Tryd.prog 181 3 3 := mk_fld Tryd.underlying181 rfl (inf175).pos rfl
instance : Fld Tryd.prog 181 4 4 := mk_fld Tryd.underlying181 rfl (inf5).pos rfl
instance : Fld Tryd.prog 181 5 5 := mk_fld Tryd.underlying181 rfl (inf5).pos rfl
instance : Fld Tryd.prog 181 6 6 := mk_fld Tryd.underlying181 rfl (inf176).pos rfl
instance : Fld Tryd.prog 181 8 8 := mk_fld Tryd.underlying181 rfl (inf161).pos rfl
instance : Fld Tryd.prog 181 9 9 := mk_fld Tryd.underlying181 rfl (inf178).pos rfl
instance : Fld Tryd.prog 181 10 10 := mk_fld Tryd.underlying181 rfl (inf179).pos rfl
-- 3: treadle/treadlelaw18.CodeMore
instance : Body Tryd.prog 3 := mk_body Tryd.func3 (by decide) rfl
-- 4: treadle/code.Object
instance : Body Tryd.prog 4 := mk_body Tryd.func4 (by decide) rfl
-- 5: treadle/treadleref18.Value
instance : Body Tryd.prog 5 := mk_body Tryd.func5 (by decide) rfl
-- 6: treadle/treadlelaw18.awake
instance : Body Tryd.prog 6 := mk_body Tryd.func6 (by decide) rfl
-- 7: treadle/code.Heights
instance : Body Tryd.prog 7 := mk_body Tryd.func7 (by decide) rfl
-- 8: treadle/code.object
instance : Body Tryd.prog 8 := mk_body Tryd.func8 (by decide) rfl
-- 9: (*treadle/code.world).all
instance : Body Tryd.prog 9 := mk_body Tryd.func9 (by decide) rfl
-- 10: treadle/treadlelaw18.small
instance : Body Tryd.prog 10 := mk_body Tryd.func10 (by decide) rfl
-- 11: treadle/code.find
instance : Body Tryd.prog 11 := mk_body Tryd.func11 (by decide) rfl
-- 12: treadle/code.file
instance : Body Tryd.prog 12 := mk_body Tryd.func12 (by decide) rfl
-- 13: treadle/code.values
instance : Body Tryd.prog 13 := mk_body Tryd.func13 (by decide) rfl
-- 14: treadle/lex.Word
instance : Body Tryd.prog 14 := mk_body Tryd.func14 (by decide) rfl
-- 15: treadle/code.head
instance : Body Tryd.prog 15 := mk_body Tryd.func15 (by decide) rfl
-- 16: treadle/code.proc
instance : Body Tryd.prog 16 := mk_body Tryd.func16 (by decide) rfl
-- 17: (*treadle/code.world).alone
instance : Body Tryd.prog 17 := mk_body Tryd.func17 (by decide) rfl
-- 18: (*treadle/code.world).flow
instance : Body Tryd.prog 18 := mk_body Tryd.func18 (by decide) rfl
-- 19: (*treadle/code.flow).wrong
instance : Body Tryd.prog 19 := mk_body Tryd.func19 (by decide) rfl
-- 20: treadle/path.Check
instance : Body Tryd.prog 20 := mk_body Tryd.func20 (by decide) rfl
-- 21: treadle/code.value
instance : Body Tryd.prog 21 := mk_body Tryd.func21 (by decide) rfl
-- 22: treadle/lex.just
instance : Body Tryd.prog 22 := mk_body Tryd.func22 (by decide) rfl
-- 23: treadle/code.typed
instance : Body Tryd.prog 23 := mk_body Tryd.func23 (by decide) rfl
-- 24: treadle/code.may
instance : Body Tryd.prog 24 := mk_body Tryd.func24 (by decide) rfl
-- 25: (*treadle/code.flow).behind
instance : Body Tryd.prog 25 := mk_body Tryd.func25 (by decide) rfl
-- 26: treadle/code.next
instance : Body Tryd.prog 26 := mk_body Tryd.func26 (by decide) rfl
-- 27: treadle/code.joined
instance : Body Tryd.prog 27 := mk_body Tryd.func27 (by decide) rfl
-- 28: treadle/code.same
instance : Body Tryd.prog 28 := mk_body Tryd.func28 (by decide) rfl
-- 29: (treadle/code.state).copied
instance : Body Tryd.prog 29 := mk_body Tryd.func29 (by decide) rfl
-- 30: (*treadle/code.flow).at
instance : Body Tryd.prog 30 := mk_body Tryd.func30 (by decide) rfl
-- 31: treadle/path.Names
instance : Body Tryd.prog 31 := mk_body Tryd.func31 (by decide) rfl
-- 32: treadle/lex.token
instance : Body Tryd.prog 32 := mk_body Tryd.func32 (by decide) rfl
-- 33: treadle/code.rowOf
instance : Body Tryd.prog 33 := mk_body Tryd.func33 (by decide) rfl
-- 34: (*treadle/code.flow).effect
instance : Body Tryd.prog 34 := mk_body Tryd.func34 (by decide) rfl
-- 35: treadle/code.joinRow
instance : Body Tryd.prog 35 := mk_body Tryd.func35 (by decide) rfl
-- 36: slices.Equal[[]treadle/api.Type,treadle/api.Type]
instance : Body Tryd.prog 36 := mk_body Tryd.func36 (by decide) rfl
-- 37: slices.Clone[[]treadle/api.Type,treadle/api.Type]
instance : Body Tryd.prog 37 := mk_body Tryd.func37 (by decide) rfl
-- 38: (*treadle/code.flow).kinds
instance : Body Tryd.prog 38 := mk_body Tryd.func38 (by decide) rfl
-- 39: strings.Split
instance : Body Tryd.prog 39 := mk_body Tryd.func39 (by decide) rfl
-- 40: treadle/path.Name
instance : Body Tryd.prog 40 := mk_body Tryd.func40 (by decide) rfl
-- 41: treadle/lex.letter
instance : Body Tryd.prog 41 := mk_body Tryd.func41 (by decide) rfl
-- 42: treadle/lex.run
instance : Body Tryd.prog 42 := mk_body Tryd.func42 (by decide) rfl
-- 43: treadle/lex.token$1
instance : Body Tryd.prog 43 := mk_body Tryd.func43 (by decide) rfl
-- 44: treadle/lex.digit
instance : Body Tryd.prog 44 := mk_body Tryd.func44 (by decide) rfl
-- 45: treadle/lex.Key
instance : Body Tryd.prog 45 := mk_body Tryd.func45 (by decide) rfl
-- 46: treadle/lex.whole
instance : Body Tryd.prog 46 := mk_body Tryd.func46 (by decide) rfl
-- 47: treadle/lex.quoted
instance : Body Tryd.prog 47 := mk_body Tryd.func47 (by decide) rfl
-- 48: treadle/lex.sign
instance : Body Tryd.prog 48 := mk_body Tryd.func48 (by decide) rfl
-- 49: (*treadle/code.flow).effect$1
instance : Body Tryd.prog 49 := mk_body Tryd.func49 (by decide) rfl
-- 50: (*treadle/code.flow).effect$2
instance : Body Tryd.prog 50 := mk_body Tryd.func50 (by decide) rfl
-- 51: (*treadle/code.flow).kinds$1
instance : Body Tryd.prog 51 := mk_body Tryd.func51 (by decide) rfl
-- 52: strings.genSplit
instance : Body Tryd.prog 52 := mk_body Tryd.func52 (by decide) rfl
-- 53: strconv.ParseInt
instance : Body Tryd.prog 53 := mk_body Tryd.func53 (by decide) rfl
-- 54: strconv.FormatInt
instance : Body Tryd.prog 54 := mk_body Tryd.func54 (by decide) rfl
-- 55: treadle/lex.piece
instance : Body Tryd.prog 55 := mk_body Tryd.func55 (by decide) rfl
-- 56: strings.HasPrefix
instance : Body Tryd.prog 56 := mk_body Tryd.func56 (by decide) rfl
-- 57: strings.IndexByte
instance : Body Tryd.prog 57 := mk_body Tryd.func57 (by decide) rfl
-- 58: strings.explode
instance : Body Tryd.prog 58 := mk_body Tryd.func58 (by decide) rfl
-- 59: strings.Count
instance : Body Tryd.prog 59 := mk_body Tryd.func59 (by decide) rfl
-- 60: strings.Index
instance : Body Tryd.prog 60 := mk_body Tryd.func60 (by decide) rfl
-- 61: internal/strconv.ParseInt
instance : Body Tryd.prog 61 := mk_body Tryd.func61 (by decide) rfl
-- 62: strconv.toError
instance : Body Tryd.prog 62 := mk_body Tryd.func62 (by decide) rfl
-- 63: internal/strconv.FormatInt
instance : Body Tryd.prog 63 := mk_body Tryd.func63 (by decide) rfl
-- 64: treadle/lex.nibble
instance : Body Tryd.prog 64 := mk_body Tryd.func64 (by decide) rfl
-- 65: internal/stringslite.HasPrefix
instance : Body Tryd.prog 65 := mk_body Tryd.func65 (by decide) rfl
-- 66: internal/stringslite.IndexByte
instance : Body Tryd.prog 66 := mk_body Tryd.func66 (by decide) rfl
-- 67: unicode/utf8.RuneCountInString
instance : Body Tryd.prog 67 := mk_body Tryd.func67 (by decide) rfl
-- 68: unicode/utf8.DecodeRuneInString
instance : Body Tryd.prog 68 := mk_body Tryd.func68 (by decide) rfl
-- 70: internal/stringslite.Index
instance : Body Tryd.prog 70 := mk_body Tryd.func70 (by decide) rfl
-- 71: internal/strconv.ParseUint
instance : Body Tryd.prog 71 := mk_body Tryd.func71 (by decide) rfl
-- 72: strconv.syntaxError
instance : Body Tryd.prog 72 := mk_body Tryd.func72 (by decide) rfl
-- 73: strconv.rangeError
instance : Body Tryd.prog 73 := mk_body Tryd.func73 (by decide) rfl
-- 74: strconv.baseError
instance : Body Tryd.prog 74 := mk_body Tryd.func74 (by decide) rfl
-- 75: strconv.bitSizeError
instance : Body Tryd.prog 75 := mk_body Tryd.func75 (by decide) rfl
-- 76: internal/strconv.small
instance : Body Tryd.prog 76 := mk_body Tryd.func76 (by decide) rfl
-- 77: internal/strconv.numDigits
instance : Body Tryd.prog 77 := mk_body Tryd.func77 (by decide) rfl
-- 78: internal/strconv.formatBase10
instance : Body Tryd.prog 78 := mk_body Tryd.func78 (by decide) rfl
-- 79: internal/strconv.formatBits
instance : Body Tryd.prog 79 := mk_body Tryd.func79 (by decide) rfl
-- 81: unicode/utf8.decodeRuneInStringSlow
instance : Body Tryd.prog 81 := mk_body Tryd.func81 (by decide) rfl
-- 83: internal/bytealg.Cutover
instance : Body Tryd.prog 83 := mk_body Tryd.func83 (by decide) rfl
-- 84: internal/bytealg.IndexRabinKarp[string]
instance : Body Tryd.prog 84 := mk_body Tryd.func84 (by decide) rfl
-- 85: internal/strconv.lower
instance : Body Tryd.prog 85 := mk_body Tryd.func85 (by decide) rfl
-- 86: internal/strconv.underscoreOK
instance : Body Tryd.prog 86 := mk_body Tryd.func86 (by decide) rfl
-- 87: internal/stringslite.Clone
instance : Body Tryd.prog 87 := mk_body Tryd.func87 (by decide) rfl
-- 88: errors.New
instance : Body Tryd.prog 88 := mk_body Tryd.func88 (by decide) rfl
-- 89: strconv.Itoa
instance : Body Tryd.prog 89 := mk_body Tryd.func89 (by decide) rfl
-- 90: internal/strconv.log10Pow2
instance : Body Tryd.prog 90 := mk_body Tryd.func90 (by decide) rfl
-- 91: math/bits.Len64
instance : Body Tryd.prog 91 := mk_body Tryd.func91 (by decide) rfl
-- 92: internal/strconv.bool2[int]
instance : Body Tryd.prog 92 := mk_body Tryd.func92 (by decide) rfl
-- 93: internal/strconv.isPowerOfTwo
instance : Body Tryd.prog 93 := mk_body Tryd.func93 (by decide) rfl
-- 94: math/bits.TrailingZeros
instance : Body Tryd.prog 94 := mk_body Tryd.func94 (by decide) rfl
-- 95: internal/bytealg.hashStr[string]
instance : Body Tryd.prog 95 := mk_body Tryd.func95 (by decide) rfl
-- 96: internal/strconv.Itoa
instance : Body Tryd.prog 96 := mk_body Tryd.func96 (by decide) rfl
-- 97: math/bits.TrailingZeros32
instance : Body Tryd.prog 97 := mk_body Tryd.func97 (by decide) rfl
-- 98: math/bits.TrailingZeros64
instance : Body Tryd.prog 98 := mk_body Tryd.func98 (by decide) rfl
-- 128: gosem.cut.vars
instance : Body Tryd.prog 128 := mk_body Tryd.func128 (by decide) rfl
theorem mixed : Tryd.prog.follows .mixedOrders = true := by kernel_rfl
end Go.Proofs.YtkmigdmdppkpoaaDoor.Gb
namespace Go.Proofs.YtkmigdmdppkpoaaDoor.Gb
open Go
set_option linter.unusedVariables false
set_option linter.unusedSimpArgs false

section
variable {P : Program} {Q : Exit → Act → World → Prop} {cx : Cx} {L : List (Nat × Value)} {G : Gh} {H : List Own} {K : List (Nat × Value) → Gh → List Own → Prop} {ops : Array Oper} {rest : List Oper}
  {d : Option Tmp} {ty : TypeId} {pos : String} {af : Array Edge} {gu : Option (Nat × Bool)}

/-- a list that is made -/
theorem OW.makeSlice {t e n by_ : Nat} {z : Value} {x y : Operand} {k k' : IntKind} {m : Int} (hx : ev L x = some (.int k m)) (hy : ev L y = some (.int k' m)) [hu : Und P t (.slice e)] [hi : Inf P e n by_ z] (hz : z.cells.size = n)
    (h0 : 0 ≤ m) (hb : (by_ : Int) * m ≤ 281474976710656) (h63 : m ≤ 9223372036854775807) (hd : dOk d cx.N = true)
    (kk : ∀ b x, Vec e n (some ⟨b, 0, none⟩) m.toNat m.toNat (repS m.toNat z.cells.toList) x → K (putL d (.slice (some ⟨b, 0, none⟩) m.toNat m.toNat) L) G (x :: H)) : OW P Q ⟨d, .makeSlice t x y, ty, pos, af, gu⟩ cx L G H K := by
  refine OW.gives hd fun a w st => ?_
  obtain ⟨ie, hi1, hi2, hi3, hi4⟩ := hi.info
  have hr := run_make (P := P) w t e ie z hu.h hi1 hi2 k k' m m h0 (Int.le_refl _) (by rw [hi4]; exact hb) h63
  have hc : madeCells z.cells (m.toNat * ie.size) = (repS m.toNat z.cells.toList).toArray := by unfold madeCells; rw [hi3]; exact base_repS z.cells n m.toNat hz
  rw [hc] at hr
  have hlen : (repS m.toNat z.cells.toList).length = m.toNat * n := by rw [repS_length, Array.length_toList, hz]
  refine ⟨_, _, G, _, .inl ?_, st.sat.alloc _, Stp.alloc _, kk w.heap.size (.blk w.heap.size (.cells (repS m.toNat z.cells.toList).toArray e (0, 0))) ⟨hlen, .inr ⟨_, _, rfl, rfl, Nat.le_refl _, by simp [hlen], by simp [← hlen]⟩⟩⟩
  simp only [execOp, Sem.run_bind, st.eval hx, st.eval hy, hr, Result.andThen_ok]
  rfl

/-- copied into the beginning of what is ours -/
theorem OW.copy {t t2 e sz by_ : Nat} {z : Value} {x y : Operand} {A B : Option Addr} {n cap m cy j : Nat} {cs news : List Value} {o : Own} (hx : ev L x = some (.slice A n cap)) (hy : ev L y = some (.slice B m cy)) [hu : Und P t (.slice e)] [hi : Inf P e sz by_ z]
    (hs0 : Nat.blt 0 sz = true) (hv : Vec e sz A n cap cs o) (hj : At H j o) (hr : Rds G H B news) (hl : news.length = m * sz) (h1 : news.all (·.oneCell') = true) (hmn : m ≤ n) (hd : dOk d cx.N = true)
    (k : ∀ o', Vec e sz A n cap (news ++ cs.drop (m * sz)) o' → K (putL d (goInt m) L) G (H.set j o')) :
    OW P Q ⟨d, .call { callee := .builtin .copy, args := #[x, y], argTypes := #[t, t2] }, ty, pos, af, gu⟩ cx L G H K := by
  have hsz : 0 < sz := Nat.le_of_ble_eq_true hs0
  refine OW.gives hd fun a w st => ?_
  obtain ⟨ie, hi1, hi2, hi3, hi4⟩ := hi.info
  have hu' := hu.h
  have hrun : ∀ v w', (Builtin.copy_ #[t, t2] ty #[.slice A n cap, .slice B m cy]).run P w = .ok v w' → (execOp a.eval ⟨d, .call { callee := .builtin .copy, args := #[x, y], argTypes := #[t, t2] }, ty, pos, af, gu⟩).run P w = .ok (.value v) w' := by
    intro v w' h
    simp only [execOp, resolve, invoke, builtin, Sem.run_bind, Sem.run_pure, Result.andThen_ok, List.map_toArray, List.map_cons, List.map_nil, st.eval hx, st.eval hy, h]
  by_cases hm : m = 0
  · subst hm
    have hn : news = [] := List.eq_nil_of_length_eq_zero (by simpa using hl)
    subst hn
    refine ⟨goInt 0, w, G, H, .inl (hrun _ _ ?_), st.sat, Stp.drew rfl, ?_⟩
    · cases A <;> cases B <;> simp [Builtin.copy_, run_underlying hu', sizeOf, typeInfo, hi1, Builtin.lenOf, Builtin.firstCells, storeCells, loadCells, loadCellsFrom]
    · have := k o (by simpa using hv)
      rw [set_same H j o hj.get] at this
      exact this
  · have hm0 : 0 < m := by omega
    obtain ⟨bB, oB, rfl, hread⟩ : ∃ b o, B = some ⟨b, o, none⟩ ∧ ∀ w, Sat G H w → ∀ j v, news[j]? = some v → w.cell? ⟨b, o + j, none⟩ = some v := by
      rcases hr with h | h
      · have hp := Nat.mul_pos hm0 hsz
        rw [← hl, h] at hp
        simp at hp
      · exact h
    obtain ⟨hcl, ⟨rfl, rfl, rfl, rfl⟩ | ⟨b, c, rfl, rfl, hnc, hcs, htk⟩⟩ := hv
    · omega
    · have hbw : w.heap[b]? = some (.cells c e (0, 0)) := st.sat.hold _ (List.mem_of_getElem? hj.get)
      have hms : m * sz ≤ n * sz := Nat.mul_le_mul_right _ hmn
      have hns : n * sz ≤ cap * sz := Nat.mul_le_mul_right _ hnc
      have hfit : 0 + news.length ≤ c.size := by omega
      have hld := run_loadCells_list (P := P) w ⟨bB, oB, none⟩ news (fun j u e => by rw [cell_add]; exact hread w st.sat j u e)
      have hst := run_storeCells_at P b 0 e news 0 c w hbw (by simpa using hfit) (fun u hu => List.all_eq_true.1 h1 u hu)
      simp only [Nat.add_zero] at hst
      have hsp := st.sat.splice (o := 0) (cs := news) hj hfit
      refine ⟨goInt m, _, G, _, .inl (hrun _ _ ?_), hsp.1, hsp.2, k _ ⟨?_, .inr ⟨b, _, rfl, rfl, hnc, by rw [size_splice hfit, hcs], ?_⟩⟩⟩
      · rw [hl] at hld
        have hmin : Nat.min m n = m := Nat.min_eq_left hmn
        simp [Builtin.copy_, run_underlying hu', Builtin.lenOf, Builtin.firstCells, sizeOf, typeInfo, hi1, hi3, hmin, hld, hst, splice]
      · rw [List.length_append, List.length_drop, hcl, hl]; omega
      · have h0 : (splice c 0 news).toList = news ++ c.toList.drop news.length := by simp [splice]
        rw [h0, List.take_append, List.take_of_length_le (by omega), ← htk, List.drop_take]
        rw [hl]

/-! #### memory that stays from now on -/
def Gh.add (G : Gh) (b : Nat) (c : Array Value) : Gh := fun b' o => if b' = b then c[o]? else G b' o
theorem Sat.frozen {w : World} (h : Sat G H w) {j b : Nat} {c : Array Value} {T : TypeId} (hj : At H j (.blk b (.cells c T (0, 0)))) : G.le (G.add b c) ∧ Sat (G.add b c) (H.eraseIdx j) w := by
  have hh : w.heap[b]? = some (.cells c T (0, 0)) := h.hold _ (List.mem_of_getElem? hj.get)
  have hg : ∀ o, G b o = none := fun o => h.ghost _ (List.mem_of_getElem? hj.get) b o rfl
  have hp := h.perm (perm_at hj)
  have hap := List.pairwise_cons.1 hp.apart
  refine ⟨fun b' o v e => ?_, ⟨fun b' o v e => ?_, fun x hx => hp.hold x (.tail _ hx), hap.2, fun x hx b' o hc => ?_⟩⟩
  · unfold Gh.add
    split
    · rename_i hb; subst hb; rw [hg o] at e; cases e
    · exact e
  · unfold Gh.add at e
    split at e
    · rename_i hb
      subst hb
      simp [World.cell?, hh, e]
    · exact h.agr b' o v e
  · unfold Gh.add
    split
    · rename_i hb; subst hb; exact absurd hc (hap.1 x hx b' o rfl)
    · exact hp.ghost x (.tail _ hx) b' o hc
theorem St.freeze {a : Act} {w : World} (st : St cx L G H a w) {j b : Nat} {c : Array Value} {T : TypeId} (hj : At H j (.blk b (.cells c T (0, 0)))) : St cx L (G.add b c) (H.eraseIdx j) a w := by
  have h := st.sat.frozen hj
  refine ⟨st.size, st.defs, st.slot, h.2, ⟨st.stp.size, st.stp.keep, Gh.le_trans st.stp.gle h.1, fun b' o v e => ?_, fun x hx => st.stp.own x (List.mem_of_mem_eraseIdx hx), st.stp.weq⟩⟩
  unfold Gh.add at e
  split at e
  · rename_i hb
    subst hb
    exact .inr (st.stp.own _ (List.mem_of_getElem? hj.get) b' o rfl)
  · exact st.stp.gnew b' o v e
theorem WC.freeze {c0 : Code} {j b : Nat} {c : Array Value} {T : TypeId} (hj : At H j (.blk b (.cells c T (0, 0)))) (h : G.le (G.add b c) → WC P c0 Q cx L (G.add b c) (H.eraseIdx j)) : WC P c0 Q cx L G H :=
  fun a w st => h (st.sat.frozen hj).1 a w (st.freeze hj)
theorem WL.freeze {j b : Nat} {c : Array Value} {T : TypeId} (hj : At H j (.blk b (.cells c T (0, 0)))) (h : G.le (G.add b c) → WL P ops Q rest cx L (G.add b c) (H.eraseIdx j)) : WL P ops Q rest cx L G H :=
  fun a w st => h (st.sat.frozen hj).1 a w (st.freeze hj)
theorem WK.freeze {K : Act → World → Prop} {j b : Nat} {c : Array Value} {T : TypeId} (hj : At H j (.blk b (.cells c T (0, 0)))) (h : G.le (G.add b c) → WK K cx L (G.add b c) (H.eraseIdx j)) : WK K cx L G H :=
  fun a w st => h (st.sat.frozen hj).1 a w (st.freeze hj)
theorem Gh.add_at {b : Nat} {c : Array Value} {o : Nat} : G.add b c b o = c[o]? := by simp [Gh.add]
theorem WK.frozenVec {K : Act → World → Prop} {T sz n cap j : Nat} {A : Option Addr} {cs : List Value} {x : Own} (hv : Vec T sz A n cap cs x) (hj : At H j x)
    (h : ∀ G', G.le G' → (cs = [] ∨ ∃ b, A = some ⟨b, 0, none⟩ ∧ Cs G' b 0 cs) → WK K cx L G' (H.eraseIdx j)) : WK K cx L G H := by
  obtain ⟨hl, ⟨h1, h2, h3, h4⟩ | ⟨b, c, rfl, rfl, h1, h2, rfl⟩⟩ := hv
  · refine WK.weaken (L' := L) (fun _ _ e => e) (List.eraseIdx_sublist ..) (h G (Gh.le_refl _) (.inl ?_))
    subst h2; exact List.eq_nil_of_length_eq_zero (by simpa using hl)
  · refine WK.freeze hj fun hg => h _ hg (.inr ⟨b, rfl, fun i v e => ?_⟩)
    rw [Nat.zero_add, Gh.add_at]
    rw [List.getElem?_take] at e
    split at e
    · simpa using e
    · cases e
theorem WC.frozenVec {c0 : Code} {T sz n cap j : Nat} {A : Option Addr} {cs : List Value} {x : Own} (hv : Vec T sz A n cap cs x) (hj : At H j x)
    (h : ∀ G', G.le G' → (cs = [] ∨ ∃ b, A = some ⟨b, 0, none⟩ ∧ Cs G' b 0 cs) → WC P c0 Q cx L G' (H.eraseIdx j)) : WC P c0 Q cx L G H :=
  WK.frozenVec (K := c0.wp P Q) hv hj h

/-- an element of what is ours is set -/
theorem Vec.put {T sz n cap b i : Nat} {A : Option Addr} {cs : List Value} {c : Array Value} (h : Vec T sz A n cap cs (.blk b (.cells c T (0, 0)))) (hi : i < n) (es : List Value) (he : es.length = sz) :
    A = some ⟨b, 0, none⟩ ∧ i * sz + es.length ≤ c.size ∧ Vec T sz A n cap (cs.take (i * sz) ++ es ++ cs.drop (i * sz + es.length)) (.blk b (.cells (splice c (i * sz) es) T (0, 0))) := by
  obtain ⟨hl, ⟨h1, h2, h3, h4⟩ | ⟨b', c', rfl, hx, h1, h2, rfl⟩⟩ := h
  · omega
  · cases hx
    have e1 : (i + 1) * sz ≤ n * sz := Nat.mul_le_mul_right _ hi
    have e2 : n * sz ≤ cap * sz := Nat.mul_le_mul_right _ h1
    rw [Nat.add_mul] at e1
    have hfit : i * sz + es.length ≤ c.size := by omega
    refine ⟨rfl, hfit, ?_, .inr ⟨b, _, rfl, rfl, h1, by rw [size_splice hfit, h2], ?_⟩⟩
    · simp only [List.length_append, List.length_take, List.length_drop, hl] at hl ⊢; omega
    · simp only [splice]
      apply List.ext_getElem?
      intro k
      simp only [List.getElem?_take, List.getElem?_append, List.length_append, List.length_take, List.getElem?_drop, Array.length_toList]
      have m1 : min (i * sz) c.size = i * sz := by omega
      have m2 : min (i * sz) (min (n * sz) c.size) = i * sz := by omega
      simp only [m1, m2]
      by_cases hk : k < n * sz
      · simp only [hk, if_true]
        by_cases h3 : k < i * sz + es.length
        · simp only [h3, if_true]
        · simp only [h3, if_false, show i * sz + es.length + (k - (i * sz + es.length)) = k by omega, hk, if_true]
      · simp only [hk, if_false]
        rw [if_neg (by omega), if_neg (by omega)]
theorem Rds.sub {A : Option Addr} {cs : List Value} {H' : List Own} (h : Rds G H A cs) (hs : H.Sublist H') : Rds G H' A cs := by
  rcases h with h | ⟨b, o, e, h⟩
  · exact .inl h
  · exact .inr ⟨b, o, e, fun w s => h w (s.sub hs)⟩
end
end Go.Proofs.YtkmigdmdppkpoaaDoor.Gb
namespace Go.Proofs.YtkmigdmdppkpoaaDoor.Gb
open Go
set_option linter.unusedVariables false
set_option linter.unusedSimpArgs false

section
variable {P : Program} {Q : Exit → Act → World → Prop} {cx : Cx} {L : List (Nat × Value)} {G : Gh} {H : List Own} {K : List (Nat × Value) → Gh → List Own → Prop} {ops : Array Oper} {rest : List Oper}
  {d : Option Tmp} {ty : TypeId} {pos : String} {af : Array Edge} {gu : Option (Nat × Bool)}

theorem Sk.evs {a : Act} (st : Sk L a) {xs : Array Operand} {vs : List Value} (h : Gb.evs L xs = some vs) : xs.map a.eval = vs.toArray := by
  have key : ∀ (l : List Operand) (vs : List Value), evl L l = some vs → l.map a.eval = vs := by
    intro l
    induction l with
    | nil => intro vs h; simp only [evl, Option.some.injEq] at h; subst h; rfl
    | cons x l ih =>
      intro vs h
      simp only [evl] at h
      cases hx : ev L x with
      | none => simp [hx] at h
      | some v =>
        cases hl : evl L l with
        | none => simp [hx, hl] at h
        | some us =>
          simp only [hx, hl, Option.some.injEq] at h
          subst h
          simp [st.eval hx, ih us hl]
  apply Array.ext'
  simp [key xs.toList vs h]

theorem Gp.makeFunc {fn : Go.Fn} {xs ys : Array Operand} {us vs : List Value} (hx : evs L xs = some us) (hy : evs L ys = some vs) : Gp P L ⟨d, .makeFunc fn xs ys, ty, pos, af, gu⟩ (.func fn us.toArray vs.toArray) :=
  fun a st w => by
    have e1 := Sk.evs st hx
    have e2 := Sk.evs st hy
    simp only [execOp, e1, e2]
    rfl

/-- a call of a function value -/
theorem OW.callV {g : Operand} {f : Nat} {cap : Array Value} {xs : Array Operand} {ats : Array TypeId} {vs : List Value} {Hf F : List Own} {R : Ending → Gh → List Own → Prop} (hg : ev L g = some (.func (.func f) #[] cap)) (hx : Gb.evs L xs = some vs) [hb : Body P f] (hp : H.Perm (Hf ++ F))
    (hf : Fn P f (vs.toArray ++ cap) G Hf R) (hd : dOk d cx.N = true)
    (k : ∀ v G' H', R (.returned v) G' H' → G.le G' → K (putL d v L) G' (H' ++ F))
    (kp : ∀ ch G' H', R (.panicked ch) G' H' → G.le G' → WK (Q (.panic ch)) cx L G' (H' ++ F))
    (ko : ∀ G' H', ¬ R .outgrown G' H') : OW P Q ⟨d, .call { callee := .value g, args := xs, argTypes := ats }, ty, pos, af, gu⟩ cx L G H K := by
  intro next hn a w st
  have st' := st.perm hp
  have hrun : (execOp a.eval ⟨d, .call { callee := .value g, args := xs, argTypes := ats }, ty, pos, af, gu⟩).run P w = .ok (.enter f (vs.toArray ++ cap)) w := by
    have e := st.evs hx
    have eg := st.eval hg
    simp [execOp, resolve, Deferred.ofValue, eg, invoke, e, hb.h]
  unfold Oper.wp
  rw [hrun]
  simp only [Oper.upon]
  refine (hf w (st'.sat.sub (List.sublist_append_left Hf F)) (cx.ex.then st'.stp fun x hx => List.mem_append_left _ hx)).mono fun e w' ⟨G', H', r, hs, hp'⟩ => ?_
  have hs' := st'.sat.frame hs hp'
  have hst := st'.stp.then (hp'.frame (F := F))
  cases e with
  | returned v => exact hn _ _ _ (k v G' H' r hp'.gle) _ _ (st.put d v hd hs' hst)
  | panicked ch => exact kp ch G' H' r hp'.gle a w' ⟨st.size, st.defs, st.slot, hs', hst⟩
  | outgrown => exact (ko G' H' r).elim

/-- a call is put off -/
theorem WL.defer {g : Operand} {fv : Go.Fn} {cap : Array Value} (hg : ev L g = some (.func fv #[] cap))
    (hw : wantB ops L ⟨d, .defer { callee := .value g, args := #[], argTypes := #[] }, ty, pos, af, gu⟩ = some true) (hd : dOk d cx.N = true)
    (k : WL P ops Q rest ⟨cx.w0, cx.G0, cx.S, cx.N, { target := .fn fv cap, args := #[] } :: cx.D, cx.ex⟩ (putL d undef L) G H) :
    WL P ops Q (⟨d, .defer { callee := .value g, args := #[], argTypes := #[] }, ty, pos, af, gu⟩ :: rest) cx L G H := by
  intro a w st
  unfold wpList
  rw [if_pos (st.wanted hw)]
  refine .inl ?_
  have hrun : (execOp a.eval ⟨d, .defer { callee := .value g, args := #[], argTypes := #[] }, ty, pos, af, gu⟩).run P w = .ok (.defer { target := .fn fv cap, args := #[] }) w := by
    have eg := st.eval hg
    simp [execOp, resolve, Deferred.ofValue, eg]
  unfold Oper.wp
  rw [hrun]
  simp only [Oper.upon]
  refine k _ _ ⟨(size_put _ d undef).trans st.size, ?_, slot_put (a := { a with defers := { target := .fn fv cap, args := #[] } :: a.defers }) st.size st.slot d undef hd, st.sat, st.stp⟩
  rw [defers_put]
  show _ :: a.defers = _
  rw [st.defs]

theorem Gp.assertNil {x : Operand} {s t n by_ : Nat} {z : Value} {fs : Array Field} (hx : ev L x = some .nilIface) (hu : P.underlying t = some (.struct fs)) [hi : Inf P t n by_ z] : Gp P L ⟨d, .typeAssert x s t true, ty, pos, af, gu⟩ (.tuple #[z, .bool false]) :=
  fun a st w => by simp [execOp, st.eval hx, Instr.typeAssert, run_underlying hu, hi.zeroValue]
theorem Gp.assertIs {x : Operand} {s t : Nat} {v : Value} {fs : Array Field} (hx : ev L x = some (.iface t v)) (hu : P.underlying t = some (.struct fs)) : Gp P L ⟨d, .typeAssert x s t true, ty, pos, af, gu⟩ (.tuple #[v, .bool true]) :=
  fun a st w => by simp [execOp, st.eval hx, Instr.typeAssert, run_underlying hu]
theorem Gp.neNilNil {x : Operand} {t t' : Nat} (hx : ev L x = some .nilIface) (hu : P.underlying t = some (.interface (P.methodsAt t))) : Gp P L ⟨d, .binOp .neq t x (.const .nilIface) t', ty, pos, af, gu⟩ (.bool false) :=
  fun a st w => by
    have hc : a.eval (.const .nilIface) = .nilIface := rfl
    simp [execOp, st.eval hx, hc, eqGuard, run_neq_nil_nil w t hu]
theorem Gp.neHeldNil {x : Operand} {t t' u : Nat} {v : Value} (hx : ev L x = some (.iface u v)) (hu : P.underlying t = some (.interface (P.methodsAt t))) : Gp P L ⟨d, .binOp .neq t x (.const .nilIface) t', ty, pos, af, gu⟩ (.bool true) :=
  fun a st w => by
    have hc : a.eval (.const .nilIface) = .nilIface := rfl
    simp [execOp, st.eval hx, hc, eqGuard, run_neq_held_nil w t u v hu]
theorem Gp.nePtrNil {x : Operand} {t t' : Nat} {p : Option Addr} (hx : ev L x = some (.pointer p)) (hu : P.underlying t = some (.pointer (P.pointee t))) : Gp P L ⟨d, .binOp .neq t x (.const (.pointer none)) t', ty, pos, af, gu⟩ (.bool (!p.isNone)) :=
  fun a st w => by
    have hc : a.eval (.const (.pointer none)) = .pointer none := rfl
    have he : ∀ op, eqGuard op t x (.const (.pointer none)) (.pointer p) (.pointer none) = pure () := fun op => by cases op <;> rfl
    simp [execOp, st.eval hx, hc, he, run_neq_pointer_nil w t p hu]
theorem Gp.eqPtrNil {x : Operand} {t t' : Nat} {p : Option Addr} (hx : ev L x = some (.pointer p)) (hu : P.underlying t = some (.pointer (P.pointee t))) : Gp P L ⟨d, .binOp .eql t x (.const (.pointer none)) t', ty, pos, af, gu⟩ (.bool p.isNone) :=
  fun a st w => by
    have hc : a.eval (.const (.pointer none)) = .pointer none := rfl
    have he : ∀ op, eqGuard op t x (.const (.pointer none)) (.pointer p) (.pointer none) = pure () := fun op => by cases op <;> rfl
    simp [execOp, st.eval hx, hc, he, run_eql_pointer_nil w t p hu]
end

/-! #### functions that put calls off -/
/-- what a call does that was put off: from the mode that its caller is in, to an end and a mode -/
def FnD (P : Program) (f : FuncId) (vs : Array Value) (u : FrameMode) (G : Gh) (H : List Own) (u' : FrameMode) (R : Ending → Gh → List Own → Prop) : Prop :=
  ∀ w, Sat G H w → Ex (covs H) w → CallsD P f vs u w fun e u'' w' => u'' = u' ∧ ∃ G' H', R e G' H' ∧ Sat G' H' w' ∧ Stp (covs H) G w G' H' w'

theorem FnD.recover {P : Program} {f : FuncId} {fn : Func} {i d1 d2 : Nat} {ty1 ty2 : TypeId} {p1 p2 : String} {af1 af2 : Array Edge} {rest : Code} {vs : List Value} {G : Gh} {H : List Own} {R : Ending → Gh → List Own → Prop} {u u' : FrameMode} {v : Value}
    (hf : P.funcs[f]? = some fn) (hb : fn.body = some (.seq (.region i #[⟨some d1, .call { callee := .builtin .recover, args := #[], argTypes := #[] }, ty1, p1, af1, none⟩, ⟨some d2, .assign (.tmp d1), ty2, p2, af2, none⟩] false) rest))
    (hn' : Nat.ble vs.length fn.ntmps = true) (hd1 : Nat.blt d1 fn.ntmps = true) (hd2 : Nat.blt d2 fn.ntmps = true)
    (hu : (u = .returning ∧ v = .nilIface ∧ u' = .returning) ∨ (∃ older, u = .panicking ({ v := v, recovered := false } :: older) ∧ u' = .panicking ({ v := v, recovered := true } :: older)))
    (h : ∀ w0 : W0 H, WC P rest (QF P fn G w0.w H R) ⟨w0.w, G, covs H, fn.ntmps, [], w0.ex⟩ ((d2, v) :: (d1, v) :: argL 0 vs) G H) : FnD P f vs.toArray u G H u' R := by
  have hn := Nat.le_of_ble_eq_true hn'
  intro w hs hx
  refine callsD_of_wpS hf hb fun c₀ cs hc => ?_
  refine wpS_seq (wpS_region ?_)
  have hrange : List.range (#[(⟨some d1, .call { callee := .builtin .recover, args := #[], argTypes := #[] }, ty1, p1, af1, none⟩ : Oper), ⟨some d2, .assign (.tmp d1), ty2, p2, af2, none⟩] : Array Oper).size = [0, 1] := rfl
  rw [hrange]
  have hwant : ∀ (o : Oper) x, o.guard = none → Region.wanted o x = true := fun o x ho => by simp [Region.wanted, ho]
  have hexec : ∀ ρ (w : World), (execOp ρ ⟨some d1, .call { callee := .builtin .recover, args := #[], argTypes := #[] }, ty1, p1, af1, none⟩).run P w = .ok .recover w := fun ρ w => by
    simp [execOp, resolve, invoke, builtin]
  have hrec : (recoverD (c₀ :: cs) = none ∧ v = .nilIface ∧ u' = u) ∨ recoverD (c₀ :: cs) = some (v, { c₀ with mode := u' } :: cs) := by
    rcases hu with ⟨rfl, rfl, rfl⟩ | ⟨older, rfl, rfl⟩
    · exact .inl ⟨by simp [recoverD, hc], rfl, rfl⟩
    · exact .inr (by simp [recoverD, hc])
  have key : ∀ cs', cs' = { c₀ with mode := u' } :: cs → wpOpsS P #[⟨some d1, .call { callee := .builtin .recover, args := #[], argTypes := #[] }, ty1, p1, af1, none⟩, ⟨some d2, .assign (.tmp d1), ty2, p2, af2, none⟩]
      (Exit.thenS (rest.wpS P (bodyPostS P fn c₀ cs fun e u'' w' => u'' = u' ∧ ∃ G' H', R e G' H' ∧ Sat G' H' w' ∧ Stp (covs H) G w G' H' w')) (bodyPostS P fn c₀ cs fun e u'' w' => u'' = u' ∧ ∃ G' H', R e G' H' ∧ Sat G' H' w' ∧ Stp (covs H) G w G' H' w'))
      [1] (Act.put { tmps := vs.toArray ++ Array.replicate (fn.ntmps - vs.toArray.size) undef, defers := [] } (some d1) v) cs' w := by
    intro cs' hcs
    subst hcs
    simp only [wpOpsS, List.getElem?_toArray, List.getElem?_cons_succ, List.getElem?_cons_zero]
    rw [if_pos (hwant _ _ rfl)]
    have h0 : St ⟨w, G, covs H, fn.ntmps, [], hx⟩ (argL 0 vs) G H { tmps := vs.toArray ++ Array.replicate (fn.ntmps - vs.toArray.size) undef, defers := [] } w :=
      ⟨by simp; omega, rfl, fun t v ht => by have := argL_slot (N := fn.ntmps - vs.length) vs [] t v ht; simpa using this, hs, Stp.refl G H w⟩
    have h1 := h0.put (some d1) v hd1 hs (Stp.refl G H w)
    have hev : (Act.put { tmps := vs.toArray ++ Array.replicate (fn.ntmps - vs.toArray.size) undef, defers := [] } (some d1) v).eval (.tmp d1) = v := h1.eval (x := .tmp d1) (by simp [ev, putL, lk])
    simp only [execOp, hev, Sem.run_pure, Oper.upon]
    refine wpS_of_wp ?_
    refine Code.wp_mono (fun e a' w' q => ?_) (h ⟨w, hx⟩ _ w (h1.put (some d2) v hd2 hs (Stp.refl G H w)))
    cases e with
    | normal => obtain ⟨q1, v', q2, q3⟩ := q; exact ⟨q1, u', rfl, v', q2, rfl, q3⟩
    | ret => obtain ⟨q1, v', q2, q3⟩ := q; exact ⟨q1, u', rfl, v', q2, rfl, q3⟩
    | panic ch => exact ⟨q.1, u', rfl, rfl, q.2⟩
    | outgrown => exact ⟨u', rfl, q⟩
    | exit id => exact q
    | goto l => exact q
  simp only [wpOpsS, List.getElem?_toArray, List.getElem?_cons_zero]
  rw [if_pos (hwant _ _ rfl)]
  simp only [hexec]
  rcases hrec with ⟨hr, hv, huu⟩ | hr
  · rw [hr, ← hv]
    exact key _ (by rw [huu, ← hc])
  · rw [hr]
    exact key _ rfl

/-- where a function ends that has put calls off -/
def QD (P : Program) (fn : Func) (G0 : Gh) (w0 : World) (H0 : List Own) (R : Ending → Gh → List Own → Prop) : Exit → Act → World → Prop :=
  bodyPostD P fn fun e w' => ∃ G' H', R e G' H' ∧ Sat G' H' w' ∧ Stp (covs H0) G0 w0 G' H' w'

theorem Fn.enterD {P : Program} {f : FuncId} {fn : Func} {c : Code} {vs : List Value} {G : Gh} {H : List Own} {R : Ending → Gh → List Own → Prop} (hf : P.funcs[f]? = some fn) (hb : fn.body = some c) (hn' : Nat.ble vs.length fn.ntmps = true)
    (h : ∀ w0 : W0 H, WC P c (QD P fn G w0.w H R) ⟨w0.w, G, covs H, fn.ntmps, [], w0.ex⟩ (argL 0 vs) G H) : Fn P f vs.toArray G H R := by
  have hn := Nat.le_of_ble_eq_true hn'
  intro w hs hx
  refine calls_of_wp_defers hf hb (h ⟨w, hx⟩ _ w ⟨by simp; omega, rfl, fun t v ht => ?_, hs, Stp.refl G H w⟩)
  have := argL_slot (N := fn.ntmps - vs.length) vs [] t v ht
  simpa using this

/-- what a function's results are, by the slots and what is ours -/
def ResRun (P : Program) (fn : Func) (L : List (Nat × Value)) (G : Gh) (H : List Own) (v : Value) : Prop := ∀ a w, Sk L a → Sat G H w → (results fn a.tmps).run P w = .ok v w
theorem ResRun.zero {P : Program} {fn : Func} {L : List (Nat × Value)} {G : Gh} {H : List Own} (h : fn.results = #[]) : ResRun P fn L G H (.tuple #[]) := fun a w _ _ => by simp [results, h]

section
variable {P : Program} {fn : Func} {G0 G : Gh} {H0 H : List Own} {w0 : W0 H0} {R : Ending → Gh → List Own → Prop} {L : List (Nat × Value)} {N : Nat}

theorem QD.once {u u' : FrameMode} {g : Nat} {cap : Array Value} {Hf F : List Own} {R1 : Ending → Gh → List Own → Prop} (hur : u ≠ .run) [hb : Body P g] (hp : H.Perm (Hf ++ F)) (hf : FnD P g cap u G Hf u' R1) (hset : settle u' = .returning)
    (k : ∀ v G' H', R1 (.returned v) G' H' → G.le G' → ∃ v, ResRun P fn L G' (H' ++ F) v ∧ R (.returned v) G' (H' ++ F))
    (kp : ∀ ch G' H', ¬ R1 (.panicked ch) G' H') (ko : ∀ G' H', ¬ R1 .outgrown G' H') {a : Act} {w : World} (st : St ⟨w0.w, G0, covs H0, N, [{ target := .fn (.func g) cap, args := #[] }], w0.ex⟩ L G H a w) :
    Leaves P fn a.tmps (fun e w' => ∃ G' H', R e G' H' ∧ Sat G' H' w' ∧ Stp (covs H0) G0 w0.w G' H' w') [{ target := .fn (.func g) cap, args := #[] }] u w := by
  have st' := st.perm hp
  refine leaves_cons (f := g) (args := cap) hur (by simp [invoke, hb.h]) ?_
  refine (hf w (st'.sat.sub (List.sublist_append_left Hf F)) (w0.ex.then st'.stp fun x hx => List.mem_append_left _ hx)).mono fun e u'' w' ⟨hu, G', H', r, hs, hp'⟩ => ?_
  subst hu
  have hs' := st'.sat.frame hs hp'
  have hst := st'.stp.then (hp'.frame (F := F))
  cases e with
  | returned v =>
    obtain ⟨v', h1, h2⟩ := k v G' H' r hp'.gle
    show Leaves _ _ _ _ [] (settle _) _
    rw [hset]
    exact ⟨v', h1 a w' st.slot hs', G', _, h2, hs', hst⟩
  | panicked ch => exact (kp ch G' H' r).elim
  | outgrown => exact (ko G' H' r).elim

theorem QD.leave {e : Exit} (he : e = .ret ∨ e = .normal) {g : Nat} {cap : Array Value} {Hf F : List Own} {R1 : Ending → Gh → List Own → Prop} [hb : Body P g] (hp : H.Perm (Hf ++ F)) (hf : FnD P g cap .returning G Hf .returning R1)
    (k : ∀ v G' H', R1 (.returned v) G' H' → G.le G' → ∃ v, ResRun P fn L G' (H' ++ F) v ∧ R (.returned v) G' (H' ++ F))
    (kp : ∀ ch G' H', ¬ R1 (.panicked ch) G' H') (ko : ∀ G' H', ¬ R1 .outgrown G' H') :
    WK (QD P fn G0 w0.w H0 R e) ⟨w0.w, G0, covs H0, N, [{ target := .fn (.func g) cap, args := #[] }], w0.ex⟩ L G H := fun a w st => by
  have := QD.once (fn := fn) (R := R) (by simp) hp hf rfl k kp ko st
  rcases he with rfl | rfl
  · show Leaves _ _ _ _ a.defers _ _; rw [st.defs]; exact this
  · show Leaves _ _ _ _ a.defers _ _; rw [st.defs]; exact this
theorem QD.caught {v : Value} {g : Nat} {cap : Array Value} {Hf F : List Own} {R1 : Ending → Gh → List Own → Prop} [hb : Body P g] (hp : H.Perm (Hf ++ F)) (hf : FnD P g cap (.panicking [{ v := v, recovered := false }]) G Hf (.panicking [{ v := v, recovered := true }]) R1)
    (k : ∀ v G' H', R1 (.returned v) G' H' → G.le G' → ∃ v, ResRun P fn L G' (H' ++ F) v ∧ R (.returned v) G' (H' ++ F))
    (kp : ∀ ch G' H', ¬ R1 (.panicked ch) G' H') (ko : ∀ G' H', ¬ R1 .outgrown G' H') :
    WK (QD P fn G0 w0.w H0 R (.panic [{ v := v, recovered := false }])) ⟨w0.w, G0, covs H0, N, [{ target := .fn (.func g) cap, args := #[] }], w0.ex⟩ L G H := fun a w st => by
  have := QD.once (fn := fn) (R := R) (by simp) hp hf rfl k kp ko st
  show Leaves _ _ _ _ a.defers _ _; rw [st.defs]; exact this
end
end Go.Proofs.YtkmigdmdppkpoaaDoor.Gb
namespace Go.Proofs.YtkmigdmdppkpoaaDoor.Gb
open Go
set_option linter.unusedVariables false
set_option linter.unusedSimpArgs false

inductive Rem : List Own → Own → List Own → Prop where
  | here {x : Own} {l : List Own} : Rem (x :: l) x l
  | there {x y : Own} {l l' : List Own} (h : Rem l x l') : Rem (y :: l) x (y :: l')
theorem Rem.perm {l l' : List Own} {x : Own} (h : Rem l x l') : l.Perm (x :: l') := by
  induction h with
  | here => exact List.Perm.refl _
  | there _ ih => exact (List.Perm.cons _ ih).trans (List.Perm.swap _ _ _)
inductive Pk : List Own → List Own → List Own → Prop where
  | nil {H : List Own} : Pk H [] H
  | all {H : List Own} : Pk H H []
  | cons {H H' xs F : List Own} {x : Own} (h : Rem H x H') (k : Pk H' xs F) : Pk H (x :: xs) F
  | skip {H xs F : List Own} {y : Own} (k : Pk H xs F) : Pk (y :: H) xs (y :: F)
theorem Pk.perm {H xs F : List Own} (h : Pk H xs F) : H.Perm (xs ++ F) := by
  induction h with
  | nil => exact List.Perm.refl _
  | all => rw [List.append_nil]
  | cons h _ ih => exact h.perm.trans (List.Perm.cons _ ih)
  | skip _ ih => exact (List.Perm.cons _ ih).trans List.perm_middle.symm

theorem Pk.app : ∀ {H F : List Own}, Pk (H ++ F) H F
  | [], _ => .nil
  | _ :: _, _ => .cons .here Pk.app

theorem Pk.appR : ∀ {F H : List Own}, Pk (F ++ H) H F
  | [], _ => .all
  | _ :: _, _ => .skip Pk.appR
theorem Pk.skipA {l xs F : List Own} (h : Pk l xs F) : ∀ {H : List Own}, Pk (H ++ l) xs (H ++ F)
  | [] => h
  | _ :: _ => .skip (Pk.skipA h)
theorem Pk.na {H xs F : List Own} (h : Pk H xs F) : Pk (List.append [] H) xs F := h
theorem Rem.app {x : Own} {l l' : List Own} (h : Rem l x l') : ∀ {H : List Own}, Rem (H ++ l) x (H ++ l')
  | [] => h
  | _ :: _ => .there (Rem.app h)

theorem Pk.assoc {A B C xs F : List Own} (h : Pk (A ++ (B ++ C)) xs F) : Pk ((A ++ B) ++ C) xs F := by rw [List.append_assoc]; exact h

section
variable {P : Program} {Q : Exit → Act → World → Prop} {cx : Cx} {L : List (Nat × Value)} {G : Gh} {H H' F : List Own}
theorem WC.front {c : Code} (h : Pk H H' F) (k : WC P c Q cx L G (H' ++ F)) : WC P c Q cx L G H := fun a w st => k a w (st.perm h.perm)
theorem WL.front {ops : Array Oper} {rest : List Oper} (h : Pk H H' F) (k : WL P ops Q rest cx L G (H' ++ F)) : WL P ops Q rest cx L G H := fun a w st => k a w (st.perm h.perm)
theorem WK.front {K : Act → World → Prop} (h : Pk H H' F) (k : WK K cx L G (H' ++ F)) : WK K cx L G H := fun a w st => k a w (st.perm h.perm)
theorem St.pk {a : Act} {w : World} (st : St cx L G H a w) (h : Pk H H' F) : St cx L G H' a w := (st.perm h.perm).weaken (fun _ _ e => e) (List.sublist_append_left _ _)
theorem WK.pk {K : Act → World → Prop} (h : Pk H H' F) (k : WK K cx L G H') : WK K cx L G H := fun a w st => k a w (st.pk h)
theorem WC.pk {c : Code} (h : Pk H H' F) (k : WC P c Q cx L G H') : WC P c Q cx L G H := fun a w st => k a w (st.pk h)
theorem WC.pick {c : Code} (H' : List Own) (k : WC P c Q cx L G H') (h : Pk H H' F := by repeat (first | exact Pk.nil | exact Pk.all | exact Pk.app | exact Pk.appR | with_reducible apply Pk.na | (apply Pk.cons; (repeat first | exact .here | apply Rem.there | apply Rem.app)) | apply Pk.assoc | apply Pk.skip | apply Pk.skipA)) : WC P c Q cx L G H := WC.pk h k
theorem WK.pick {K : Act → World → Prop} (H' : List Own) (k : WK K cx L G H') (h : Pk H H' F := by repeat (first | exact Pk.nil | exact Pk.all | exact Pk.app | exact Pk.appR | with_reducible apply Pk.na | (apply Pk.cons; (repeat first | exact .here | apply Rem.there | apply Rem.app)) | apply Pk.assoc | apply Pk.skip | apply Pk.skipA)) : WK K cx L G H := WK.pk h k
theorem WL.pick {ops : Array Oper} {rest : List Oper} (H' : List Own) (k : WL P ops Q rest cx L G H') (h : Pk H H' F := by repeat (first | exact Pk.nil | exact Pk.all | exact Pk.app | exact Pk.appR | with_reducible apply Pk.na | (apply Pk.cons; (repeat first | exact .here | apply Rem.there | apply Rem.app)) | apply Pk.assoc | apply Pk.skip | apply Pk.skipA)) : WL P ops Q rest cx L G H := fun a w st => k a w (st.pk h)
theorem OW.callK {K : List (Nat × Value) → Gh → List Own → Prop} {d : Option Tmp} {ty : TypeId} {pos : String} {af : Array Edge} {gu : Option (Nat × Bool)} {f : Nat} {xs : Array Operand} {ats : Array TypeId} {vs : List Value} {Hf F : List Own} {R : Ending → Gh → List Own → Prop} (hx : Gb.evs L xs = some vs) [hb : Body P f]
    (hf : Fn P f vs.toArray G Hf R) (hd : dOk d cx.N = true)
    (k : ∀ v G' H', R (.returned v) G' H' → G.le G' → K (putL d v L) G' (H' ++ F)) (hp : Pk H Hf F := by repeat (first | exact Pk.nil | exact Pk.all | exact Pk.app | exact Pk.appR | with_reducible apply Pk.na | (apply Pk.cons; (repeat first | exact .here | apply Rem.there | apply Rem.app)) | apply Pk.assoc | apply Pk.skip | apply Pk.skipA)) (hno : ∀ e G' H', R e G' H' → ∃ v, e = .returned v := by intro e G' H' h; repeat (first | exact ⟨_, h.1⟩ | (obtain ⟨_, h⟩ := h))) : OW P Q ⟨d, .call { callee := .value (.func f), args := xs, argTypes := ats }, ty, pos, af, gu⟩ cx L G H K :=
  OW.callR hx hp.perm hf hd hno k
theorem Sat.pk {w : World} (h : Sat G H w) (p : Pk H H' F) : Sat G H' w := (h.perm p.perm).sub (List.sublist_append_left _ _)
theorem WC.drawS {id : Nat} {l : List Oper} {Hs : List Own} (hm : P.follows .mixedOrders = true) (hs : Pk H Hs F) (h : WB P l Q G Hs l.length (Array.replicate l.length false) cx L G H) : WC P (.region id l.toArray true) Q cx L G H := by
  intro a w st
  refine wp_region_held (S := Sat G Hs) hm ?_
  have := h a { w with drawn := w.drawn + 1 } (st.drew rfl) ((st.drew (w' := { w with drawn := w.drawn + 1 }) rfl).sat.pk hs)
  simpa using this
theorem Gv.loadRN {d : Option Tmp} {ty : TypeId} {pos : String} {af : Array Edge} {gu : Option (Nat × Bool)} {t n by_ : Nat} {z : Value} {x : Operand} {b o i : Nat} {Ha : List Own} {cs es : List Value} (hx : ev L x = some (.pointer (some ⟨b, o + i, none⟩))) [ha : Agg P t true] [hi : Inf P t n by_ z]
    (hr : ∀ w, Sat G Ha w → ∀ j v, cs[j]? = some v → w.cell? ⟨b, o + j, none⟩ = some v) (hs : Ha.Sublist H) (hc : (cs.drop i).take n = es) (hl : es.length = n) : Gv P L G H ⟨d, .load t x, ty, pos, af, gu⟩ (.agg es.toArray) :=
  fun a w sk st0 => by
    have := run_loadVarN (P := P) (w := w) (b := b) (o := o + i) ha hi hl (fun j v hv => by
      rw [← hc, List.getElem?_take] at hv
      split at hv
      · rw [List.getElem?_drop] at hv
        rw [Nat.add_assoc]; exact hr w (st0.sub hs) _ v hv
      · cases hv)
    simp [execOp, sk.eval hx, Instr.loadAt, Instr.sureAddr, this]
theorem Gv.loadR1 {d : Option Tmp} {ty : TypeId} {pos : String} {af : Array Edge} {gu : Option (Nat × Bool)} {t : Nat} {x : Operand} {b o i : Nat} {Ha : List Own} {cs : List Value} {v : Value} (hx : ev L x = some (.pointer (some ⟨b, o + i, none⟩))) [ha : Agg P t false]
    (hr : ∀ w, Sat G Ha w → ∀ j v, cs[j]? = some v → w.cell? ⟨b, o + j, none⟩ = some v) (hs : Ha.Sublist H) (hc : cs[i]? = some v) : Gv P L G H ⟨d, .load t x, ty, pos, af, gu⟩ v :=
  fun a w sk st0 => by
    have := run_loadVar1 (P := P) (w := w) (v := v) (p := ⟨b, o + i, none⟩) ha (hr w (st0.sub hs) _ v hc)
    simp [execOp, sk.eval hx, Instr.loadAt, Instr.sureAddr, this]
/-! #### a region whose order is drawn, where something stays true -/
def WS (P : Program) (l : List Oper) (Q : Exit → Act → World → Prop) (S : World → Prop) (fuel : Nat) (listed : Array Bool) (cx : Cx) (L : List (Nat × Value)) (G : Gh) (H : List Own) : Prop :=
  ∀ a w, St cx L G H a w → S w → wpAnyH P .any l.toArray Q S fuel listed a w
theorem WC.drawW {id : Nat} {l : List Oper} {S : World → Prop} (hm : P.follows .mixedOrders = true) (hS : ∀ w, Sat G H w → S w) (h : WS P l Q S l.length (Array.replicate l.length false) cx L G H) : WC P (.region id l.toArray true) Q cx L G H := by
  intro a w st
  refine wp_region_held (S := S) hm ?_
  have := h a { w with drawn := w.drawn + 1 } (st.drew rfl) (hS _ (st.drew (w' := { w with drawn := w.drawn + 1 }) rfl).sat)
  simpa using this
theorem WS.done {l : List Oper} {S : World → Prop} {fuel : Nat} {listed : Array Bool} (hr : Region.ready .any l.toArray listed = []) (h : WK (Q .normal) cx L G H) : WS P l Q S fuel listed cx L G H :=
  fun a w st _ => wpAnyH_done hr (h a w st) fuel
theorem WS.tv {l : List Oper} {S : World → Prop} {fuel i : Nat} {listed : Array Bool} {o : Oper} {v : Value} (hi : l[i]? = some o) (hk : okP l listed i = true) (hw : wantB l.toArray L o = some true) (hd : dOk o.dst cx.N = true) [hQ : QPan Q] (hv : ∀ a w, Sk L a → S w → (execOp a.eval o).run P w = .ok (.value v) w)
    (h : WS P l Q S fuel (listed.setIfInBounds i true) cx (putL o.dst v L) G H) : WS P l Q S (fuel + 1) listed cx L G H := by
  intro a w st ss
  simp only [okP, Bool.and_eq_true] at hk
  exact wpAnyH_take (by simpa using hi) hk.1.1 hk.1.2 hk.2 (fun c a' w' => hQ.h c _ _ w' (defers_put _ _ _)) (.inl ⟨st.wanted hw, fun w' s => hv a w' st.slot s⟩) ss (h _ _ (st.put o.dst v hd st.sat st.stp) ss)
theorem WS.tp {l : List Oper} {S : World → Prop} {fuel i : Nat} {listed : Array Bool} {o : Oper} {v : Value} (hi : l[i]? = some o) (hk : okP l listed i = true) (hw : wantB l.toArray L o = some true) (hd : dOk o.dst cx.N = true) [hQ : QPan Q] (hv : Gp P L o v)
    (h : WS P l Q S fuel (listed.setIfInBounds i true) cx (putL o.dst v L) G H) : WS P l Q S (fuel + 1) listed cx L G H := WS.tv hi hk hw hd (fun a w sk _ => hv a sk w) h
theorem WS.sp {l : List Oper} {S : World → Prop} {fuel i : Nat} {listed : Array Bool} {o : Oper} (hi : l[i]? = some o) (hk : okP l listed i = true) (hw : wantB l.toArray L o = some false) (hd : dOk o.dst cx.N = true) [hQ : QPan Q]
    (h : WS P l Q S fuel (listed.setIfInBounds i true) cx (putL o.dst undef L) G H) : WS P l Q S (fuel + 1) listed cx L G H := by
  intro a w st ss
  simp only [okP, Bool.and_eq_true] at hk
  exact wpAnyH_take (by simpa using hi) hk.1.1 hk.1.2 hk.2 (fun c a' w' => hQ.h c _ _ w' (defers_put _ _ _)) (.inr ⟨st.wanted hw, rfl⟩) ss (h _ _ (st.put o.dst undef hd st.sat st.stp) ss)
theorem WS.one {l : List Oper} {S : World → Prop} {fuel i : Nat} {listed : Array Bool} {o : Oper} (hr : Region.ready .any l.toArray listed = [i]) (hi : l[i]? = some o) (hw : wantB l.toArray L o = some true)
    (h : OW P Q o cx L G H fun L' G' H' => (∀ w, Sat G' H' w → S w) ∧ WS P l Q S fuel (listed.setIfInBounds i true) cx L' G' H') : WS P l Q S (fuel + 1) listed cx L G H := by
  intro a w st _
  refine wpAnyH_all hr (by simp) fun j hj => ?_
  rw [List.mem_singleton] at hj
  subst hj
  unfold wpOp
  have ho' : l.toArray[j]? = some o := by simpa using hi
  simp only [ho', st.wanted hw, if_true]
  exact .inl (h _ (fun L' G' H' k a w st' => ⟨k.1 w st'.sat, k.2 a w st' (k.1 w st'.sat)⟩) a w st)
/-- one cell is known -/
theorem load1_cell {d : Option Tmp} {ty : TypeId} {pos : String} {af : Array Edge} {gu : Option (Nat × Bool)} {t : Nat} {x : Operand} {p : Addr} {v : Value} (hx : ev L x = some (.pointer (some p))) [ha : Agg P t false] {a : Act} {w : World} (sk : Sk L a) (hc : w.cell? p = some v) : (execOp a.eval ⟨d, .load t x, ty, pos, af, gu⟩).run P w = .ok (.value v) w := by
  have := run_loadVar1 (P := P) (w := w) (v := v) (p := p) ha hc
  simp [execOp, sk.eval hx, Instr.loadAt, Instr.sureAddr, this]
theorem Sat.cell {w : World} {b o j : Nat} {c : Array Value} {t : TypeId} {fr : Nat × Nat} (h : Sat G H w) (hj : At H j (.blk b (.cells c t fr))) : w.cell? ⟨b, o, none⟩ = c[o]? := Own.cell (h.hold _ (List.mem_of_getElem? hj.get))
theorem OW.gv {o : Oper} {v : Value} {K : List (Nat × Value) → Gh → List Own → Prop} (g : Gv P L G H o v) (hd : dOk o.dst cx.N = true) (hk : K (putL o.dst v L) G H) : OW P Q o cx L G H K := OW.val hd (fun a w st => g a w st.slot st.sat) hk
theorem WK.reorder {K : Act → World → Prop} (h : Pk H H' []) (k : WK K cx L G H') : WK K cx L G H := WK.pk h k
end

section
variable {P : Program} {fn : Func} {G0 G : Gh} {H0 H H' F : List Own} {w0 : W0 H0} {R : Ending → Gh → List Own → Prop} {L : List (Nat × Value)} {N : Nat}
theorem QF.ofP {e : Exit} (he : e = .ret ∨ e = .normal) (v : Value) (hr : ∀ a w, St ⟨w0.w, G0, covs H0, N, [], w0.ex⟩ L G H a w → (results fn a.tmps).run P w = .ok v w) (h : R (.returned v) G H') (hs : Pk H H' F) : WK (QF P fn G0 w0.w H0 R e) ⟨w0.w, G0, covs H0, N, [], w0.ex⟩ L G H := by
  intro a w st
  have st' := st.pk hs
  have : a.defers = [] ∧ ∃ v, (results fn a.tmps).run P w = .ok v w ∧ ∃ G' H', R (.returned v) G' H' ∧ Sat G' H' w ∧ Stp (covs H0) G0 w0.w G' H' w := ⟨st.defs, v, hr a w st, G, H', h, st'.sat, st'.stp⟩
  rcases he with rfl | rfl
  · exact this
  · exact this
theorem QF.panicP {ch : List PanicEntry} (h : R (.panicked ch) G H') (hs : Pk H H' F := by repeat (first | exact Pk.nil | exact Pk.all | exact Pk.app | exact Pk.appR | with_reducible apply Pk.na | (apply Pk.cons; (repeat first | exact .here | apply Rem.there | apply Rem.app)) | apply Pk.assoc | apply Pk.skip | apply Pk.skipA)) : WK (QF P fn G0 w0.w H0 R (.panic ch)) ⟨w0.w, G0, covs H0, N, [], w0.ex⟩ L G H := by
  intro a w st
  have st' := st.pk hs
  exact ⟨st.defs, G, H', h, st'.sat, st'.stp⟩
theorem QF.p0 {e : Exit} (he : e = .ret ∨ e = .normal) (hres : fn.results = #[]) (h : R (.returned (.tuple #[])) G H') (hs : Pk H H' F := by repeat (first | exact Pk.nil | exact Pk.all | exact Pk.app | exact Pk.appR | with_reducible apply Pk.na | (apply Pk.cons; (repeat first | exact .here | apply Rem.there | apply Rem.app)) | apply Pk.assoc | apply Pk.skip | apply Pk.skipA)) : WK (QF P fn G0 w0.w H0 R e) ⟨w0.w, G0, covs H0, N, [], w0.ex⟩ L G H :=
  QF.ofP he (.tuple #[]) (fun a w st => by simp [results, hres]) h hs
theorem QF.p1 {e : Exit} (he : e = .ret ∨ e = .normal) {r : ResultVar} {v : Value} (hres : fn.results = #[r]) (hv : RV P L H r v) (h : R (.returned v) G H') (hs : Pk H H' F := by repeat (first | exact Pk.nil | exact Pk.all | exact Pk.app | exact Pk.appR | with_reducible apply Pk.na | (apply Pk.cons; (repeat first | exact .here | apply Rem.there | apply Rem.app)) | apply Pk.assoc | apply Pk.skip | apply Pk.skipA)) : WK (QF P fn G0 w0.w H0 R e) ⟨w0.w, G0, covs H0, N, [], w0.ex⟩ L G H :=
  QF.ofP he v (fun a w st => by simp [results_rvS, hres, hv.run st]) h hs
theorem QF.p2 {e : Exit} (he : e = .ret ∨ e = .normal) {r s : ResultVar} {v u : Value} (hres : fn.results = #[r, s]) (hv : RV P L H r v) (hu : RV P L H s u) (h : R (.returned (.tuple #[v, u])) G H') (hs : Pk H H' F := by repeat (first | exact Pk.nil | exact Pk.all | exact Pk.app | exact Pk.appR | with_reducible apply Pk.na | (apply Pk.cons; (repeat first | exact .here | apply Rem.there | apply Rem.app)) | apply Pk.assoc | apply Pk.skip | apply Pk.skipA)) : WK (QF P fn G0 w0.w H0 R e) ⟨w0.w, G0, covs H0, N, [], w0.ex⟩ L G H :=
  QF.ofP he (.tuple #[v, u]) (fun a w st => by simp [results_rvS, hres, hv.run st, hu.run st]) h hs
end
/-- what of ours is left may be picked out -/
theorem Fn.unpk {P : Program} {f : FuncId} {vs : Array Value} {G : Gh} {H : List Own} {R : Ending → Gh → List Own → Prop} (h : Fn P f vs G H fun e G' H' => ∃ H2 F, Pk H' H2 F ∧ R e G' H2) : Fn P f vs G H R :=
  fun w hs hx => (h w hs hx).mono fun e w' ⟨G', H', ⟨H2, F, p, r⟩, s, st⟩ => ⟨G', H2, r, s.pk p, st.size, st.keep, st.gle, st.gnew, fun x hx => st.own x (p.perm.mem_iff.2 (List.mem_append_left _ hx)), st.weq⟩
section
variable {P : Program} {L : List (Nat × Value)} {d : Option Tmp} {ty : TypeId} {pos : String} {af : Array Edge} {gu : Option (Nat × Bool)}
theorem Gp.geI' {t t' : TypeId} {x y : Operand} {k : IntKind} {m n : Int} {r : Bool} (hx : ev L x = some (.int k m)) (hy : ev L y = some (.int k n)) (h : decide (n ≤ m) = r) : Gp P L ⟨d, .binOp .geq t x y t', ty, pos, af, gu⟩ (.bool r) := h ▸ Gp.geI hx hy
theorem Gp.leI' {t t' : TypeId} {x y : Operand} {k : IntKind} {m n : Int} {r : Bool} (hx : ev L x = some (.int k m)) (hy : ev L y = some (.int k n)) (h : decide (m ≤ n) = r) : Gp P L ⟨d, .binOp .leq t x y t', ty, pos, af, gu⟩ (.bool r) := h ▸ Gp.leI hx hy
theorem Gp.ltI' {t t' : TypeId} {x y : Operand} {k : IntKind} {m n : Int} {r : Bool} (hx : ev L x = some (.int k m)) (hy : ev L y = some (.int k n)) (h : decide (m < n) = r) : Gp P L ⟨d, .binOp .lss t x y t', ty, pos, af, gu⟩ (.bool r) := h ▸ Gp.ltI hx hy
theorem Gp.gtI' {t t' : TypeId} {x y : Operand} {k : IntKind} {m n : Int} {r : Bool} (hx : ev L x = some (.int k m)) (hy : ev L y = some (.int k n)) (h : decide (n < m) = r) : Gp P L ⟨d, .binOp .gtr t x y t', ty, pos, af, gu⟩ (.bool r) := h ▸ Gp.gtI hx hy
theorem Gp.eqI' {t t' : TypeId} {x y : Operand} {k : IntKind} {m n : Int} {r : Bool} (hx : ev L x = some (.int k m)) (hy : ev L y = some (.int k n)) (h : (m == n) = r) : Gp P L ⟨d, .binOp .eql t x y t', ty, pos, af, gu⟩ (.bool r) := h ▸ Gp.eqI hx hy
theorem Gp.neI' {t t' : TypeId} {x y : Operand} {k : IntKind} {m n : Int} {r : Bool} (hx : ev L x = some (.int k m)) (hy : ev L y = some (.int k n)) (h : (m != n) = r) : Gp P L ⟨d, .binOp .neq t x y t', ty, pos, af, gu⟩ (.bool r) := h ▸ Gp.neI hx hy
theorem Gp.add' {t t' : TypeId} {x y : Operand} {k : IntKind} {m n r : Int} (hx : ev L x = some (.int k m)) (hy : ev L y = some (.int k n)) (h : k.wrap (m + n) = r) : Gp P L ⟨d, .binOp .add t x y t', ty, pos, af, gu⟩ (.int k r) := h ▸ Gp.add hx hy
theorem Gp.sub' {t t' : TypeId} {x y : Operand} {k : IntKind} {m n r : Int} (hx : ev L x = some (.int k m)) (hy : ev L y = some (.int k n)) (h : k.wrap (m - n) = r) : Gp P L ⟨d, .binOp .sub t x y t', ty, pos, af, gu⟩ (.int k r) := h ▸ Gp.sub hx hy
end
end Go.Proofs.YtkmigdmdppkpoaaDoor.Gb
namespace Go.Proofs.YtkmigdmdppkpoaaDoor.Gb
open Go
set_option linter.unusedVariables false
set_option linter.unusedSimpArgs false

section
variable {P : Program} {Q : Exit → Act → World → Prop} {cx : Cx} {L : List (Nat × Value)} {G : Gh} {H : List Own} {l : List Oper}
theorem WA.two {fuel i j : Nat} {listed : Array Bool} {o o' : Oper} (hr : Region.ready .any l.toArray listed = [i, j]) (hi : l[i]? = some o) (hj : l[j]? = some o') (hw : wantB l.toArray L o = some true) (hw' : wantB l.toArray L o' = some true)
    (h : OW P Q o cx L G H fun L' G' H' => WA P l Q fuel (listed.setIfInBounds i true) cx L' G' H') (h' : OW P Q o' cx L G H fun L' G' H' => WA P l Q fuel (listed.setIfInBounds j true) cx L' G' H') : WA P l Q (fuel + 1) listed cx L G H :=
  WA.all hr (by simp) fun k hk => by
    simp only [List.mem_cons, List.not_mem_nil, or_false] at hk
    rcases hk with rfl | rfl
    · exact ⟨o, hi, hw, h⟩
    · exact ⟨o', hj, hw', h'⟩
theorem WB.two {Gs : Gh} {Hs : List Own} {fuel i j : Nat} {listed : Array Bool} {o o' : Oper} (hr : Region.ready .any l.toArray listed = [i, j]) (hi : l[i]? = some o) (hj : l[j]? = some o') (hw : wantB l.toArray L o = some true) (hw' : wantB l.toArray L o' = some true)
    (h : OW P Q o cx L G H fun L' G' H' => (∀ w, Sat G' H' w → Sat Gs Hs w) ∧ WB P l Q Gs Hs fuel (listed.setIfInBounds i true) cx L' G' H') (h' : OW P Q o' cx L G H fun L' G' H' => (∀ w, Sat G' H' w → Sat Gs Hs w) ∧ WB P l Q Gs Hs fuel (listed.setIfInBounds j true) cx L' G' H') : WB P l Q Gs Hs (fuel + 1) listed cx L G H :=
  WB.all hr (by simp) fun k hk => by
    simp only [List.mem_cons, List.not_mem_nil, or_false] at hk
    rcases hk with rfl | rfl
    · exact ⟨o, hi, hw, h⟩
    · exact ⟨o', hj, hw', h'⟩
end

theorem splice_one {c : Array Value} {o : Nat} {v : Value} (h : o < c.size) : (splice c o [v]).toList = c.toList.set o v := by
  simp only [splice, List.length_singleton]
  apply List.ext_getElem?
  intro j
  simp only [List.getElem?_append, List.length_append, List.length_take, Array.length_toList, List.length_singleton, List.getElem?_take, List.getElem?_drop, List.getElem?_set]
  have m1 : min o c.size = o := by omega
  rw [m1]
  by_cases h1 : j < o
  · simp [h1, show j < o + 1 by omega, show o ≠ j by omega]
  · by_cases h2 : o = j
    · subst h2; simp [h]
    · simp [h1, h2, show ¬ j < o + 1 by omega, show o + 1 + (j - (o + 1)) = j by omega]
theorem Vec.put1 {T sz n cap b o : Nat} {A : Option Addr} {cs : List Value} {c : Array Value} (h : Vec T sz A n cap cs (.blk b (.cells c T (0, 0)))) (ho : o < n * sz) (v : Value) :
    A = some ⟨b, 0, none⟩ ∧ o + 1 ≤ c.size ∧ Vec T sz A n cap (cs.set o v) (.blk b (.cells (splice c o [v]) T (0, 0))) := by
  obtain ⟨hl, ⟨h1, h2, h3, h4⟩ | ⟨b', c', rfl, hx, h1, h2, rfl⟩⟩ := h
  · subst h2; simp at ho
  · cases hx
    have e2 : n * sz ≤ cap * sz := Nat.mul_le_mul_right _ h1
    refine ⟨rfl, by omega, by simpa using hl, .inr ⟨b, _, rfl, rfl, h1, by rw [size_splice (by simp; omega), h2], ?_⟩⟩
    rw [splice_one (by omega), List.take_set]
theorem set_elem {l : List Value} {k i j s : Nat} {v : Value} (hj : j < s) : (((l.set (i * s + j) v).drop (k * s)).take s) = if k = i then ((l.drop (k * s)).take s).set j v else (l.drop (k * s)).take s := by
  have hs : 0 < s := by omega
  apply List.ext_getElem?
  intro m
  by_cases hk : k = i
  · subst hk
    simp only [if_true, List.getElem?_take, List.getElem?_drop, List.getElem?_set, List.length_take, List.length_drop]
    by_cases hm : m < s
    · simp only [hm, if_true]
      by_cases hjm : j = m
      · subst hjm
        by_cases hq : k * s + j < l.length
        · simp [hq, show j < min s (l.length - k * s) by omega]
        · simp [hq, show ¬ j < min s (l.length - k * s) by omega]
      · simp [hjm]
    · simp only [hm, if_false]
      by_cases hjm : j = m
      · omega
      · simp [hjm]
  · simp only [if_neg hk, List.getElem?_take, List.getElem?_drop, List.getElem?_set]
    by_cases hm : m < s
    · simp only [hm, if_true]
      rw [if_neg]
      intro e
      rcases Nat.lt_or_gt_of_ne hk with h | h
      · have : (k + 1) * s ≤ i * s := Nat.mul_le_mul_right _ h
        rw [Nat.add_mul] at this; omega
      · have : (i + 1) * s ≤ k * s := Nat.mul_le_mul_right _ h
        rw [Nat.add_mul] at this; omega
    · simp [hm]
theorem elem_cell {c : Array Value} {cs es : List Value} {n i s k : Nat} {w : Value} (h : c.toList.take n = cs) (he : (cs.drop (i * s)).take s = es) (hw : es[k]? = some w) : c[0 + ((i : Nat) : Int).toNat * s + k]? = some w := by
  subst he
  rw [List.getElem?_take] at hw
  split at hw
  · rw [List.getElem?_drop, ← h, List.getElem?_take] at hw
    split at hw
    · simpa using hw
    · cases hw
  · cases hw
theorem Sl.none_zero {α : Type} {k : Kd α} {G : Gh} {A : Option Addr} {xs : List α} (h : Sl k G A xs) (hA : A = none) : xs.length = 0 := by
  cases xs with
  | nil => rfl
  | cons x r => obtain ⟨b, o, cs, e, _⟩ := h 0 x rfl; rw [hA] at e; cases e
/-- what came to stay is a slice of its kind -/
theorem Sl.ofCs {α : Type} {k : Kd α} {G : Gh} {A : Option Addr} {xs : List α} {cs : List Value} (hz : cs = [] ∨ ∃ b, A = some ⟨b, 0, none⟩ ∧ Cs G b 0 cs) (hl : cs.length = xs.length * k.n) (hn : 0 < k.n) (hk : ∀ i x, xs[i]? = some x → k.K G x ((cs.drop (i * k.n)).take k.n)) : Sl k G A xs := by
  intro i x hx
  have hi := (List.getElem?_eq_some_iff.1 hx).1
  have hle : (i + 1) * k.n ≤ xs.length * k.n := Nat.mul_le_mul_right _ hi
  rw [Nat.add_mul] at hle
  rcases hz with rfl | ⟨b, rfl, hc⟩
  · simp at hl; omega
  · refine ⟨b, 0, _, rfl, hk i x hx, fun j v e => ?_⟩
    rw [List.getElem?_take] at e
    split at e
    · rw [List.getElem?_drop] at e
      have := hc _ v e
      rw [Nat.zero_add] at this ⊢; exact this
    · cases e
end Go.Proofs.YtkmigdmdppkpoaaDoor.Gb
