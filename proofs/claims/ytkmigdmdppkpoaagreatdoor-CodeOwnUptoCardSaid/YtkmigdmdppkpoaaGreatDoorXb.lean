/- Slices: cut, made, appended to; what is ours becomes what stays. What is known of the types and functions of this seat, as the rules of the small logic ask for it. More rules: lists that are made and copied into, memory that comes to stay, calls that are put off, what is behind an interface. Calls that are put off, what recovers, function values, interfaces. Taking things of ours out of a list, in any order. -/
import Derived.Test.YtkmigdmdppkpoaaGreatDoorXa
import Derived.Laws.MakeOwn
import Derived.Test.YtkmigdmdppkpoaaGreatDoorProg
import Derived.Recover
import Derived.WideLaws
import Derived.Laws.CopyRow
import Derived.Laws.Pointers
set_option linter.unusedVariables false
set_option linter.unusedSimpArgs false
set_option linter.unusedSectionVars false
namespace Go.Proofs.YtkmigdmdppkpoaaGreatDoor.Gb
open Go
set_option linter.unusedVariables false
set_option linter.unusedSimpArgs false

section
variable {P : Program} {Q : Exit → Act → World → Prop} {cx : Cx} {L : List (Nat × Value)} {G : Gh} {H : List Own} {K : List (Nat × Value) → Gh → List Own → Prop}
  {d : Option Tmp} {ty : TypeId} {pos : String} {af : Array Edge} {gu : Option (Nat × Bool)}

/-- these cells can be read, from the first cell of a slice on -/
def Rds (G : Gh) (H : List Own) (A : Option Addr) (cs : List Value) : Prop := cs = [] ∨ ∃ b o, A = some ⟨b, o, none⟩ ∧ ∀ w, Sat G H w → ∀ j v, cs[j]? = some v → w.cell? ⟨b, o + j, none⟩ = some v
theorem Rds.nil (G : Gh) (H : List Own) (A : Option Addr) : Rds G H A [] := .inl rfl
theorem Rds.cs {b o : Nat} {cs : List Value} (h : Cs G b o cs) : Rds G H (some ⟨b, o, none⟩) cs := .inr ⟨b, o, rfl, fun w s j v e => s.agr _ _ _ (h j v e)⟩
theorem Rds.blk {b o j : Nat} {c : Array Value} {t : TypeId} {fr : Nat × Nat} {cs : List Value} (hj : At H j (.blk b (.cells c t fr))) (hc : ∀ j v, cs[j]? = some v → c[o + j]? = some v) : Rds G H (some ⟨b, o, none⟩) cs :=
  .inr ⟨b, o, rfl, fun w s j v e => by rw [Own.cell (s.hold _ (List.mem_of_getElem? hj.get))]; exact hc j v e⟩
theorem Rds.blk0 {b j : Nat} {c : Array Value} {t : TypeId} {fr : Nat × Nat} {cs : List Value} (hj : At H j (.blk b (.cells c t fr))) (hc : c.toList = cs) : Rds G H (some ⟨b, 0, none⟩) cs :=
  Rds.blk (o := 0) hj fun j v e => by rw [← hc] at e; simpa using e
theorem Rds.mono {G' : Gh} {A : Option Addr} {cs : List Value} (h : Rds G H A cs) (hs : ∀ w, Sat G' H w → Sat G H w) : Rds G' H A cs := by
  rcases h with h | ⟨b, o, e, h⟩
  · exact .inl h
  · exact .inr ⟨b, o, e, fun w s => h w (hs w s)⟩
theorem Sat.le {G' : Gh} {w : World} (h : Sat G' H w) (hg : G.le G') : Sat G H w :=
  ⟨fun b o v e => h.agr b o v (hg b o v e), h.hold, h.apart, fun x hx b o hc => by
    cases hgb : G b o with
    | none => rfl
    | some v => have := hg b o v hgb; rw [h.ghost x hx b o hc] at this; cases this⟩
theorem Rds.le {G' : Gh} {A : Option Addr} {cs : List Value} (h : Rds G H A cs) (hg : G.le G') : Rds G' H A cs := h.mono fun _ s => s.le hg

theorem Rds.cons {A : Option Addr} {cs : List Value} (h : Rds G H A cs) (x : Own) : Rds G (x :: H) A cs := by
  rcases h with h | ⟨b, o, e, h⟩
  · exact .inl h
  · exact .inr ⟨b, o, e, fun w s => h w (s.sub (List.sublist_cons_self x H))⟩
/-- a slice's elements, one behind the other -/
theorem Sl.rds {α : Type} {k : Kd α} (hn : 0 < k.n) {A : Option Addr} {xs : List α} (h : Sl k G A xs) : ∃ cs, Rds G H A cs ∧ cs.length = xs.length * k.n ∧ cs.all (·.oneCell') = true ∧ ∀ i x, xs[i]? = some x → k.K G x ((cs.drop (i * k.n)).take k.n) := by
  have key : ∀ (xs : List α) (o0 : Nat) (b : Nat), (∀ i x, xs[i]? = some x → ∃ cs, k.K G x cs ∧ Cs G b (o0 + i * k.n) cs) →
      ∃ cs, Cs G b o0 cs ∧ cs.length = xs.length * k.n ∧ cs.all (·.oneCell') = true ∧ ∀ i x, xs[i]? = some x → k.K G x ((cs.drop (i * k.n)).take k.n) := by
    intro xs
    induction xs with
    | nil => intro o0 b _; exact ⟨[], fun j v e => by simp at e, by simp, rfl, fun i x e => by simp at e⟩
    | cons x xs ih =>
      intro o0 b h
      obtain ⟨c0, hk, hc⟩ := h 0 x rfl
      obtain ⟨cs, h1, h2, h3, h4⟩ := ih (o0 + k.n) b fun i y e => by
        obtain ⟨c, hk, hc⟩ := h (i + 1) y (by simpa using e)
        refine ⟨c, hk, ?_⟩
        rw [show o0 + k.n + i * k.n = o0 + (i + 1) * k.n by rw [Nat.add_mul]; omega]
        exact hc
      have hl := k.len hk
      refine ⟨c0 ++ cs, fun j v e => ?_, by rw [List.length_append, hl, h2, List.length_cons, Nat.add_mul]; omega, by rw [List.all_append, k.one hk, h3]; rfl, fun i y e => ?_⟩
      · rcases Nat.lt_or_ge j k.n with hj | hj
        · rw [List.getElem?_append_left (by omega)] at e
          have := hc j v e
          simpa using this
        · rw [List.getElem?_append_right (by omega), hl] at e
          have := h1 (j - k.n) v e
          rw [show o0 + k.n + (j - k.n) = o0 + j by omega] at this
          exact this
      · cases i with
        | zero =>
          simp only [List.getElem?_cons_zero, Option.some.injEq] at e
          subst e
          simp only [Nat.zero_mul, List.drop_zero]
          rw [← hl, List.take_left]
          exact hk
        | succ i =>
          have := h4 i y (by simpa using e)
          rw [List.drop_append, List.drop_eq_nil_of_le (by rw [hl, Nat.add_mul]; omega), List.nil_append, hl, show (i + 1) * k.n - k.n = i * k.n by rw [Nat.add_mul]; omega]
          exact this
  cases hxs : xs with
  | nil => exact ⟨[], .inl rfl, by simp, rfl, fun i x e => by simp at e⟩
  | cons x r =>
    rw [← hxs]
    obtain ⟨b, o, c0, hA, _, _⟩ := h 0 x (by rw [hxs]; rfl)
    obtain ⟨cs, h1, h2, h3, h4⟩ := key xs o b fun i y e => by
      obtain ⟨b', o', c, hA', hk, hc⟩ := h i y e
      rw [hA] at hA'
      cases hA'
      exact ⟨c, hk, hc⟩
    exact ⟨cs, hA ▸ Rds.cs h1, h2, h3, h4⟩

/-- an array of ours, its first n elements known -/
def Vec (T sz : Nat) (A : Option Addr) (n cap : Nat) (cs : List Value) (x : Own) : Prop :=
  cs.length = n * sz ∧ ((A = none ∧ n = 0 ∧ cap = 0 ∧ x = .spare 0 0 0) ∨ ∃ b c, A = some ⟨b, 0, none⟩ ∧ x = .blk b (.cells c T (0, 0)) ∧ n ≤ cap ∧ c.size = cap * sz ∧ c.toList.take (n * sz) = cs)
theorem Vec.le {T sz : Nat} {A : Option Addr} {n cap : Nat} {cs : List Value} {x : Own} (h : Vec T sz A n cap cs x) : n ≤ cap := by
  rcases h.2 with ⟨_, h1, h2, _⟩ | ⟨b, c, _, _, h, _⟩
  · omega
  · exact h
theorem Vec.rds {T sz : Nat} {A : Option Addr} {n cap : Nat} {cs : List Value} {x : Own} {j : Nat} (h : Vec T sz A n cap cs x) (hj : At H j x) : Rds G H A cs := by
  obtain ⟨hl, ⟨h1, h2, h3, h4⟩ | ⟨b, c, rfl, rfl, h1, h2, rfl⟩⟩ := h
  · subst h2; exact .inl (List.eq_nil_of_length_eq_zero (by simpa using hl))
  · refine Rds.blk (o := 0) hj fun j v e => ?_
    rw [List.getElem?_take] at e
    split at e
    · simpa using e
    · cases e

def evPl (L : List (Nat × Value)) : List (Nat × Operand) → Option (List (Nat × Value))
  | [] => some []
  | p :: r => match ev L p.2, evPl L r with
    | some v, some vs => some ((p.1, v) :: vs)
    | _, _ => none
def evP (L : List (Nat × Value)) (ps : Array (Nat × Operand)) : Option (List (Nat × Value)) := evPl L ps.toList
theorem Sk.evP {a : Act} (h : Sk L a) {ps : Array (Nat × Operand)} {vs : List (Nat × Value)} (hp : evP L ps = some vs) : (ps.map fun (i, x) => (i, a.eval x)).toList = vs := by
  have key : ∀ (l : List (Nat × Operand)) (vs : List (Nat × Value)), evPl L l = some vs → l.map (fun p => (p.1, a.eval p.2)) = vs := by
    intro l
    induction l with
    | nil => intro vs h; simp only [evPl, Option.some.injEq] at h; subst h; rfl
    | cons p l ih =>
      intro vs hh
      simp only [evPl] at hh
      cases hx : ev L p.2 with
      | none => simp [hx] at hh
      | some v =>
        cases hl : evPl L l with
        | none => simp [hx, hl] at hh
        | some us =>
          simp only [hx, hl, Option.some.injEq] at hh
          subst hh
          simp [h.eval hx, ih us hl]
  simpa using key ps.toList vs hp

def fillS (pl : Nat → Option (Nat × Nat)) : List Value → List (Nat × Value) → Option (List Value)
  | cs, [] => some cs
  | cs, (i, v) :: r => match pl i with
    | none => none
    | some (off, size) => bif Nat.beq v.cells.toList.length size && Nat.ble (off + v.cells.toList.length) cs.length then fillS pl (cs.take off ++ v.cells.toList ++ cs.drop (off + v.cells.toList.length)) r else none

theorem foldl_place : ∀ (vs : List Value) (off k : Nat) (cs : List Value), off + k + vs.length ≤ cs.length →
    (vs.zipIdx k).foldl (fun (a : Array Value) (p : Value × Nat) => a.setIfInBounds (off + p.2) p.1) cs.toArray = (cs.take (off + k) ++ vs ++ cs.drop (off + k + vs.length)).toArray
  | [], off, k, cs, h => by simp
  | v :: vs, off, k, cs, h => by
    simp only [List.length_cons] at h
    have ih := foldl_place vs off (k + 1) (cs.set (off + k) v) (by simp; omega)
    simp only [List.zipIdx_cons, List.foldl_cons, List.setIfInBounds_toArray, ih]
    congr 1
    apply List.ext_getElem?
    intro j
    simp only [List.getElem?_append, List.length_take, List.length_set, List.length_cons, List.getElem?_take, List.getElem?_set, List.getElem?_drop, List.length_append]
    by_cases h1 : j < off + k
    · simp [show j < min (off + (k + 1)) cs.length by omega, show j < off + (k + 1) by omega, show off + k ≠ j by omega, h1, show j < min (off + k) cs.length by omega, show j < min (off + (k + 1)) cs.length + vs.length by omega, show j < min (off + k) cs.length + (vs.length + 1) by omega]
    · by_cases h2 : j = off + k
      · subst h2
        simp [show off + k < min (off + (k + 1)) cs.length by omega, show off + k < off + (k + 1) by omega, show ¬ off + k < min (off + k) cs.length by omega, show off + k < cs.length by omega, show off + k - min (off + k) cs.length = 0 by omega, show off + k < min (off + (k + 1)) cs.length + vs.length by omega, show off + k < min (off + k) cs.length + (vs.length + 1) by omega]
      · have e1 : min (off + (k + 1)) cs.length = off + k + 1 := by omega
        have e2 : min (off + k) cs.length = off + k := by omega
        simp only [e1, e2]
        by_cases h3 : j < off + k + 1 + vs.length
        · simp [h3, show ¬ j < off + k + 1 by omega, show j < off + k + (vs.length + 1) by omega, show ¬ j < off + k by omega, show j - (off + k) = (j - (off + k + 1)) + 1 by omega]
        · have h4 : ¬ j < off + k + (vs.length + 1) := by omega
          simp only [h3, h4, if_false]
          have e3 : off + (k + 1) + vs.length + (j - (off + k + 1 + vs.length)) = j := by omega
          have e4 : off + k + (vs.length + 1) + (j - (off + k + (vs.length + 1))) = j := by omega
          simp [e3, e4, show off + k ≠ j by omega]

theorem fill_of_fillS (pl : Nat → Option (Nat × Nat)) : ∀ (vs : List (Nat × Value)) (cs cs' : List Value), fillS pl cs vs = some cs' → Instr.fill pl cs.toArray vs = some cs'.toArray
  | [], cs, cs', h => by simp only [fillS, Option.some.injEq] at h; subst h; rfl
  | (i, v) :: r, cs, cs', h => by
    simp only [fillS] at h
    simp only [Instr.fill]
    cases hp : pl i with
    | none => rw [hp] at h; cases h
    | some q =>
      obtain ⟨off, size⟩ := q
      rw [hp] at h
      simp only at h ⊢
      cases hb : (Nat.beq v.cells.toList.length size && Nat.ble (off + v.cells.toList.length) cs.length) with
      | false => rw [hb] at h; cases h
      | true =>
        rw [hb] at h
        simp only [cond_true] at h
        rw [Bool.and_eq_true] at hb
        have h1 := Nat.eq_of_beq_eq_true hb.1
        have h2 := Nat.le_of_ble_eq_true hb.2
        rw [Array.length_toList] at h1 h2
        have h3 : (v.cells.size ≠ size || off + v.cells.size > cs.toArray.size) = false := by simp [h1]; omega
        rw [h3]
        simp only [Bool.false_eq_true, if_false]
        have h4 := foldl_place v.cells.toList off 0 cs (by rw [Array.length_toList]; omega)
        simp only [Nat.add_zero] at h4
        have h5 : v.cells.zipIdx.foldl (fun (a : Array Value) (p : Value × Nat) => a.setIfInBounds (off + p.2) p.1) cs.toArray = (cs.take off ++ v.cells.toList ++ cs.drop (off + v.cells.toList.length)).toArray := by
          rw [← h4, ← Array.foldl_toList]
          simp
        exact (congrArg (Instr.fill pl · r) h5).trans (fill_of_fillS pl r _ _ h)

def repS : Nat → List Value → List Value
  | 0, _ => []
  | k + 1, z => z ++ repS k z
theorem repS_get (z : List Value) (hz : 0 < z.length) : ∀ (k i : Nat), i < k * z.length → (repS k z)[i]? = some (z[i % z.length]!)
  | 0, i, h => by omega
  | k + 1, i, h => by
    rw [Nat.add_mul] at h
    simp only [repS]
    rcases Nat.lt_or_ge i z.length with hi | hi
    · rw [List.getElem?_append_left hi, Nat.mod_eq_of_lt hi]
      simp [List.getElem!_eq_getElem?_getD, hi]
    · rw [List.getElem?_append_right hi, repS_get z hz k (i - z.length) (by omega), Nat.mod_eq_sub_mod hi]
theorem repS_length (z : List Value) : ∀ k, (repS k z).length = k * z.length
  | 0 => by simp [repS]
  | k + 1 => by simp [repS, repS_length z k, Nat.add_mul]; omega
theorem base_repS (z : Array Value) (n len : Nat) (hz : z.size = n) : (Array.range (len * n)).map (z[· % z.size]!) = (repS len z.toList).toArray := by
  subst hz
  by_cases h0 : z.size = 0
  · have : z = #[] := Array.eq_empty_of_size_eq_zero h0
    subst this
    have e : ∀ k, repS k [] = [] := by intro k; induction k with | zero => rfl | succ k ih => simp [repS, ih]
    simp [Array.range_zero', e]
  · apply Array.ext'
    apply List.ext_getElem?
    intro i
    rcases Nat.lt_or_ge i (len * z.size) with hi | hi
    · have := repS_get z.toList (by simp; omega) len i (by simpa using hi)
      simp only [Array.length_toList] at this
      rw [this]
      simp [hi, List.getElem!_eq_getElem?_getD]
      try rw [Array.getElem!_eq_getD, Array.getD_eq_getD_getElem?]
    · rw [List.getElem?_eq_none (by simpa using hi), List.getElem?_eq_none (by simpa [repS_length] using hi)]

def leLim (x : Nat) : Bool := Nat.ble x 16777216
/-- a list that is written out -/
theorem OW.buildSlice {t e n by_ len : Nat} {z : Value} {ps : Array (Nat × Operand)} {vs : List (Nat × Value)} {cells : List Value} (hp : evP L ps = some vs) [hu : Und P t (.slice e)] [hi : Inf P e n by_ z] (hlim : leLim (len * n) = true) (hz : z.cells.size = n)
    (hf : fillS (fun i => some (i * n, n)) (repS len z.cells.toList) vs = some cells) (hd : dOk d cx.N = true)
    (k : ∀ b, K (putL d (.slice (some ⟨b, 0, none⟩) len len) L) G (.blk b (.cells cells.toArray e (0, 0)) :: H)) : OW P Q ⟨d, .buildSlice t len ps, ty, pos, af, gu⟩ cx L G H K := by
  refine OW.gives hd fun a w st => ⟨.slice (some ⟨w.heap.size, 0, none⟩) len len, w.alloc (.cells cells.toArray e), G, .blk w.heap.size (.cells cells.toArray e (0, 0)) :: H, .inl ?_, st.sat.alloc _, Stp.alloc _, k _⟩
  have hl := Nat.le_of_ble_eq_true hlim
  have he := Sk.evP st.slot hp
  have hl' : ¬ (16777216 < len * n) := by omega
  have hf1 := fill_of_fillS _ _ _ _ hf
  rw [← base_repS z.cells n len hz] at hf1
  have hrun : ∀ PS : Array (Nat × Value), PS.toList = vs → (Instr.buildSlice t len PS).run P w = .ok (.slice (some ⟨w.heap.size, 0, none⟩) len len) (w.alloc (.cells cells.toArray e)) := by
    intro PS he
    by_cases h0 : len * n = 0
    · rw [h0] at hf1
      simp only [Array.range_zero', List.map_toArray, List.map_nil] at hf1
      simp [Instr.buildSlice, run_underlying hu.h, hi.sizeOf, h0, he, newRow, Array.range_zero', hf1]
    · simp [Instr.buildSlice, run_underlying hu.h, hi.sizeOf, hi.zeroValue, h0, hl', he, hf1, newRow]
  simp only [execOp, Sem.run_bind, hrun _ he, Result.andThen_ok]
  rfl

class Plc (P : Program) (t : Nat) (pl : outParam (List (Nat × Nat))) : Prop where
  h : ∀ w : World, ∃ fs, P.underlying t = some (.struct fs) ∧ (fs.toList.mapM fun f => Prod.mk f.offset <$> Go.sizeOf f.type).run P w = .ok pl w
/-- a struct that is written out -/
theorem Gp.build {t n by_ : Nat} {z : Value} {ps : Array (Nat × Operand)} {vs : List (Nat × Value)} {pl : List (Nat × Nat)} {cells : List Value} (hp : evP L ps = some vs) [hi : Inf P t n by_ z] [hpl : Plc P t pl]
    (hf' : fillS (fun i => pl[i]?) z.cells.toList vs = some cells) : Gp P L ⟨d, .build t ps, ty, pos, af, gu⟩ (.agg cells.toArray) := fun a st w => by
  have he := Sk.evP st hp
  have hf := fill_of_fillS _ _ _ _ hf' 
  obtain ⟨fs, h1, h2⟩ := hpl.h w
  have h3 : (fs.mapM fun f => Prod.mk f.offset <$> Go.sizeOf f.type).run P w = .ok pl.toArray w := by
    rw [Array.mapM_eq_mapM_toList]
    simp [h2]
  have hrun : ∀ PS : Array (Nat × Value), PS.toList = vs → (Instr.build t PS).run P w = .ok (.agg cells.toArray) w := by
    intro PS he
    simp [Instr.build, hi.zeroValue, run_underlying h1, he, h3, hf]
  simp only [execOp, Sem.run_bind, hrun _ he, Result.andThen_ok]
  rfl

/-! #### pieces -/
theorem Gp.sliceTo {t e n by_ : Nat} {z : Value} {x y : Operand} {A : Option Addr} {len cap : Nat} {k : IntKind} {i : Int} (hx : ev L x = some (.slice A len cap)) (hy : ev L y = some (.int k i)) [hu : Und P t (.slice e)] [hi : Inf P e n by_ z] (h0 : 0 ≤ i) (h1 : i ≤ cap) :
    Gp P L ⟨d, .slice t x none (some y) none, ty, pos, af, gu⟩ (.slice A i.toNat cap) := fun a st w => by
  have h : (Instr.sliceAt t (.slice A len cap) none (some (.int k i)) none).run P w = .ok (.slice A i.toNat cap) w := by
    have hA : (if cap = 0 then A else A.map fun p => p.add 0) = A := by
      split
      · rfl
      · cases A <;> simp [Addr.add]
    simp only [Instr.sliceAt, Sem.run_bind, run_underlying hu.h, Result.andThen_ok, Instr.slice, Instr.sliceBounds, Instr.sliceBound, asIntOf, Sem.run_pure, Sem.run_ite, h0, h1, and_self, if_true, hi.sizeOf, Nat.sub_zero, Nat.zero_mul, hA]
  simp [execOp, Sk.eval st hx, Sk.eval st hy, h]
theorem Gp.sliceFrom {t e n by_ : Nat} {z : Value} {x y : Operand} {A : Option Addr} {len cap : Nat} {k : IntKind} {i : Int} (hx : ev L x = some (.slice A len cap)) (hy : ev L y = some (.int k i)) [hu : Und P t (.slice e)] [hi : Inf P e n by_ z] (h0 : 0 ≤ i) (h1 : i ≤ len) :
    Gp P L ⟨d, .slice t x (some y) none none, ty, pos, af, gu⟩ (.slice (if cap = i.toNat then A else A.map (·.add (i.toNat * n))) (len - i.toNat) (cap - i.toNat)) := fun a st w => by
  have h : (Instr.sliceAt t (.slice A len cap) (some (.int k i)) none none).run P w = .ok (.slice (if cap = i.toNat then A else A.map (·.add (i.toNat * n))) (len - i.toNat) (cap - i.toNat)) w := by
    simp only [Instr.sliceAt, Sem.run_bind, run_underlying hu.h, Result.andThen_ok, Instr.slice, Instr.sliceBounds, Instr.sliceBound, asIntOf, Sem.run_pure, Sem.run_ite, h0, h1, and_self, if_true, hi.sizeOf]
  simp [execOp, Sk.eval st hx, Sk.eval st hy, h]
theorem Gp.slice2 {t e n by_ : Nat} {z : Value} {x y y' : Operand} {A : Option Addr} {len cap : Nat} {k k' : IntKind} {i j : Int} (hx : ev L x = some (.slice A len cap)) (hy : ev L y = some (.int k i)) (hy' : ev L y' = some (.int k' j)) [hu : Und P t (.slice e)] [hi : Inf P e n by_ z] (h0 : 0 ≤ i) (h1 : i ≤ j) (h2 : j ≤ cap) :
    Gp P L ⟨d, .slice t x (some y) (some y') none, ty, pos, af, gu⟩ (.slice (if cap = i.toNat then A else A.map (·.add (i.toNat * n))) (j.toNat - i.toNat) (cap - i.toNat)) := fun a st w => by
  have hj : 0 ≤ j := by omega
  have h1' : i ≤ (j.toNat : Int) := by omega
  have h : (Instr.sliceAt t (.slice A len cap) (some (.int k i)) (some (.int k' j)) none).run P w = .ok (.slice (if cap = i.toNat then A else A.map (·.add (i.toNat * n))) (j.toNat - i.toNat) (cap - i.toNat)) w := by
    simp only [Instr.sliceAt, Sem.run_bind, run_underlying hu.h, Result.andThen_ok, Instr.slice, Instr.sliceBounds, Instr.sliceBound, asIntOf, Sem.run_pure, Sem.run_ite, h0, h1', h2, hj, and_self, if_true, hi.sizeOf]
  simp [execOp, Sk.eval st hx, Sk.eval st hy, Sk.eval st hy', h]

theorem cell_add (w : World) (b o j : Nat) : w.cell? ((⟨b, o, none⟩ : Addr).add j) = w.cell? ⟨b, o + j, none⟩ := by
  have hadd : (⟨b, o, none⟩ : Addr).add j = ⟨b, o + j, none⟩ := by unfold Addr.add; split <;> simp_all
  rw [hadd]

/-- something of ours lies elsewhere now -/
theorem Sat.swap {w w' : World} (h : Sat G H w) {j : Nat} {x : Own} (hj : At H j x) (ob : Obj) (hw : w' = w.drew.alloc ob) (hf : noFr ob := by first | rfl | trivial) :
    Sat G (H.set j (.blk w.heap.size ob)) w' ∧ Stp (covs H) G w G (H.set j (.blk w.heap.size ob)) w' := by
  subst hw
  have h1 := (h.drew (w' := w.drew) rfl).alloc ob
  have h2a : Stp (covs H) G w G H w.drew := Stp.drew rfl
  have h2b : Stp (covs H) G w.drew G (.blk w.heap.size ob :: H) (w.drew.alloc ob) := Stp.alloc (w := w.drew) ob hf
  have h2 := h2a.then h2b
  have hsz : w.drew.heap.size = w.heap.size := rfl
  rw [hsz] at h1
  -- the new one in the place of the old one: fewer things, in another order
  have hsub : ∀ y ∈ H.set j (.blk w.heap.size ob), y ∈ Own.blk w.heap.size ob :: H := fun y hy => by
    rcases mem_set_or H j _ y hy with rfl | hy
    · exact .head _
    · exact .tail _ hy
  refine ⟨⟨h1.agr, fun y hy => h1.hold y (hsub y hy), ?_, fun y hy => h1.ghost y (hsub y hy)⟩, ⟨h2.size, h2.keep, h2.gle, h2.gnew, fun y hy => h2.own y (hsub y hy), h2.weq⟩⟩
  have hp := List.pairwise_cons.1 h1.apart
  have : ∀ (l : List Own) (j : Nat), l.Pairwise Own.apart → (∀ z ∈ l, Own.apart (.blk w.heap.size ob) z) → (l.set j (.blk w.heap.size ob)).Pairwise Own.apart := by
    intro l
    induction l with
    | nil => intro j _ _; simp
    | cons a l ih =>
      intro j hl hz
      rw [List.pairwise_cons] at hl
      cases j with
      | zero => simp only [List.set_cons_zero, List.pairwise_cons]; exact ⟨fun z hzz => hz z (.tail _ hzz), hl.2⟩
      | succ j =>
        simp only [List.set_cons_succ, List.pairwise_cons]
        refine ⟨fun z hzz => ?_, ih j hl.2 fun z hzz => hz z (.tail _ hzz)⟩
        rcases mem_set_or l j _ z hzz with rfl | hzz
        · exact Own.apart_symm (hz a (.head _))
        · exact hl.1 z hzz
  exact this H j hp.2 hp.1

theorem Vec.cut {T sz : Nat} {A : Option Addr} {n cap : Nat} {cs : List Value} {x : Own} {m : Nat} (h : Vec T sz A n cap cs x) (hm : m ≤ n) : Vec T sz A m cap (cs.take (m * sz)) x := by
  have hms : m * sz ≤ n * sz := Nat.mul_le_mul_right _ hm
  obtain ⟨hl, ⟨h1, h2, h3, h4⟩ | ⟨b, c, rfl, rfl, h1, h2, rfl⟩⟩ := h
  · exact ⟨by rw [List.length_take, hl]; omega, .inl ⟨h1, by omega, h3, h4⟩⟩
  · exact ⟨by rw [List.length_take, hl]; omega, .inr ⟨b, c, rfl, rfl, by omega, h2, by rw [List.take_take, Nat.min_eq_left hms]⟩⟩
theorem zeroCells_size {sz : Nat} {z : Value} {n : Nat} (hz : z.cells.size = sz) : (Builtin.zeroCells z.cells n).size = n * sz := by rw [size_zeroCells, hz]

theorem set_same {α : Type} : ∀ (l : List α) (j : Nat) (x : α), l[j]? = some x → l.set j x = l
  | [], _, _, _ => rfl
  | a :: l, 0, x, h => by simp at h; simp [h]
  | a :: l, j + 1, x, h => by simp at h; simp [set_same l j x h]

/-- append, onto what is ours -/
theorem OW.append {t e sz by_ : Nat} {z : Value} {x y : Operand} {A B : Option Addr} {n cap m cy j : Nat} {cs news : List Value} {o : Own} (hx : ev L x = some (.slice A n cap)) (hy : ev L y = some (.slice B m cy)) [hu : Und P t (.slice e)] [hi : Inf P e sz by_ z]
    (hz : z.cells.size = sz) (hs0 : Nat.blt 0 sz = true) (hv : Vec e sz A n cap cs o) (hj : At H j o) (hr : Rds G H B news) (hl : news.length = m * sz) (h1 : news.all (·.oneCell') = true)
    (hb : (n + m) * by_ ≤ 140737488355328) (h63 : n + m ≤ 9223372036854775807) (hd : dOk d cx.N = true)
    (k : ∀ A' cap' o', Vec e sz A' (n + m) cap' (cs ++ news) o' → K (putL d (.slice A' (n + m) cap') L) G (H.set j o')) :
    OW P Q ⟨d, .call { callee := .builtin .append, args := #[x, y], argTypes := #[t, t] }, ty, pos, af, gu⟩ cx L G H K := by
  have hsz : 0 < sz := Nat.le_of_ble_eq_true hs0
  refine OW.gives hd fun a w st => ?_
  obtain ⟨ie, hi1, hi2, hi3, hi4⟩ := hi.info
  have hu' := hu.h
  have hrun : ∀ v w', (Builtin.append_ #[t, t] ty #[.slice A n cap, .slice B m cy]).run P w = .ok v w' → (execOp a.eval ⟨d, .call { callee := .builtin .append, args := #[x, y], argTypes := #[t, t] }, ty, pos, af, gu⟩).run P w = .ok (.value v) w' := by
    intro v w' h
    simp only [execOp, resolve, invoke, builtin, Sem.run_bind, Sem.run_pure, Result.andThen_ok, List.map_toArray, List.map_cons, List.map_nil, st.eval hx, st.eval hy, h]
  -- nothing to append
  by_cases hm : m = 0
  · subst hm
    have hn : news = [] := List.eq_nil_of_length_eq_zero (by simpa using hl)
    subst hn
    refine ⟨.slice A n cap, w, G, H, .inl (hrun _ _ ?_), st.sat, Stp.drew rfl, ?_⟩
    · have hle := hv.le
      cases A with
      | none => simp [Builtin.append_, run_underlying hu', sizeOf, typeInfo, hi1, Builtin.lenOf, Builtin.firstCells, hle]; cases B <;> simp [Builtin.firstCells, loadCells, loadCellsFrom]
      | some ad => simp [Builtin.append_, run_underlying hu', sizeOf, typeInfo, hi1, Builtin.lenOf, Builtin.firstCells, hle]; cases B <;> simp [Builtin.firstCells, loadCells, loadCellsFrom, storeCells]
    · have := k A cap o (by simpa using hv)
      simp only [Nat.add_zero] at this
      rw [set_same H j o hj.get] at this
      exact this
  · have hm0 : 0 < m := by omega
    obtain ⟨bB, oB, rfl, hread⟩ : ∃ b o, B = some ⟨b, o, none⟩ ∧ ∀ w, Sat G H w → ∀ j v, news[j]? = some v → w.cell? ⟨b, o + j, none⟩ = some v := by
      rcases hr with h | h
      · have hp := Nat.mul_pos hm0 hsz
        rw [← hl, h] at hp
        simp at hp
      · exact h
    have hnews : ∀ j u, news[j]? = some u → w.cell? ((⟨bB, oB, none⟩ : Addr).add j) = some u := fun j u e => by rw [cell_add]; exact hread w st.sat j u e
    have hl' : news.length = m * ie.size := by rw [hi3]; exact hl
    obtain ⟨hcl, ⟨rfl, rfl, rfl, rfl⟩ | ⟨b, c, rfl, rfl, hnc, hcs, htk⟩⟩ := hv
    · have hcs0 : cs = [] := List.eq_nil_of_length_eq_zero (by simpa using hcl)
      subst hcs0
      have hr := run_append_nil (P := P) w t ty e ie z hu' hi1 hi2 ⟨bB, oB, none⟩ m cy news hl' hnews hm0 (by omega) (by have h' := hb; simp only [Nat.zero_add] at h'; rw [hi4]; omega)
      have hg := grownCap_ge w m 0 e
      have hsw := st.sat.swap hj (.cells (news.toArray ++ Builtin.zeroCells z.cells (grownCap w m 0 e - m)) e) rfl
      refine ⟨_, _, G, _, .inl (hrun _ _ hr), hsw.1, hsw.2, ?_⟩
      have := k (some ⟨w.heap.size, 0, none⟩) (grownCap w m 0 e) (.blk w.heap.size (.cells (news.toArray ++ Builtin.zeroCells z.cells (grownCap w m 0 e - m)) e)) ⟨by simpa using hl, .inr ⟨_, _, rfl, rfl, by omega, ?_, ?_⟩⟩
      · simpa using this
      · rw [Array.size_append, List.size_toArray, zeroCells_size hz, hl, ← Nat.add_mul]; congr 1; omega
      · simp only [Array.toList_append, List.nil_append, Nat.zero_add]; rw [← hl]; exact List.take_left
    · by_cases hroom : n + m ≤ cap
      · have hbw : w.heap[b]? = some (.cells c e (0, 0)) := st.sat.hold _ (List.mem_of_getElem? hj.get)
        have hfit : n * sz + news.length ≤ c.size := by rw [hl, hcs, ← Nat.add_mul]; exact Nat.mul_le_mul_right _ hroom
        have hr := run_append_room (P := P) w t ty e ie hu' hi1 b n cap c hbw ⟨bB, oB, none⟩ m cy news hl' hnews (fun u hu => List.all_eq_true.1 h1 u hu) hroom (by rw [hi3]; exact hfit)
        rw [hi3] at hr
        have hsp := st.sat.splice (o := n * sz) (cs := news) hj hfit
        refine ⟨_, _, G, _, .inl (hrun _ _ hr), hsp.1, hsp.2, k _ _ _ ⟨by rw [List.length_append, hcl, hl, Nat.add_mul], .inr ⟨b, _, rfl, rfl, hroom, by rw [size_splice hfit, hcs], ?_⟩⟩⟩
        simp only [splice]
        rw [htk, show (n + m) * sz = (cs ++ news).length by rw [List.length_append, hcl, hl, Nat.add_mul]]
        exact List.take_left
      · have hbw : w.heap[b]? = some (.cells c e (0, 0)) := st.sat.hold _ (List.mem_of_getElem? hj.get)
        have holds : ∀ j v, cs[j]? = some v → w.cell? ((⟨b, 0, none⟩ : Addr).add j) = some v := fun j v e => by
          rw [cell_add, cell_of_row w b _ c _ _ hbw, ← htk] at *
          rw [List.getElem?_take] at e
          split at e
          · simpa using e
          · cases e
        have hr := run_append_grow (P := P) w t ty e ie z hu' hi1 hi2 ⟨b, 0, none⟩ n cap cs (by rw [hi3]; exact hcl) holds ⟨bB, oB, none⟩ m cy news hl' hnews (by omega) (by omega) (growslice_fits (by omega) (by rw [hi4]; exact hb))
        have hg := grownCap_ge w (n + m) cap e
        have hsw := st.sat.swap hj (.cells (cs.toArray ++ news.toArray ++ Builtin.zeroCells z.cells (grownCap w (n + m) cap e - (n + m))) e) rfl
        refine ⟨_, _, G, _, .inl (hrun _ _ hr), hsw.1, hsw.2, k _ _ _ ⟨by rw [List.length_append, hcl, hl, Nat.add_mul], .inr ⟨_, _, rfl, rfl, hg, ?_, ?_⟩⟩⟩
        · simp only [Array.size_append, List.size_toArray, zeroCells_size hz, hl, hcl, ← Nat.add_mul]; congr 1; omega
        · simp only [Array.toList_append]
          rw [show (n + m) * sz = (cs ++ news).length by rw [List.length_append, hcl, hl, Nat.add_mul]]
          exact List.take_left

/-- nothing is ours too -/
theorem Sat.nothing {w : World} (h : Sat G H w) : Sat G (.spare 0 0 0 :: H) w :=
  ⟨h.agr, fun x hx => by
    rcases List.mem_cons.1 hx with rfl | hx
    · intro hlt; omega
    · exact h.hold x hx, List.pairwise_cons.2 ⟨fun y _ b o hc => by simp only [Own.cov] at hc; omega, h.apart⟩, fun x hx b o hc => by
    rcases List.mem_cons.1 hx with rfl | hx
    · simp only [Own.cov] at hc; omega
    · exact h.ghost x hx b o hc⟩
theorem Stp.nothing {S : Nat → Nat → Prop} {G0 : Gh} {w0 w : World} (h : Stp S G0 w0 G H w) : Stp S G0 w0 G (.spare 0 0 0 :: H) w :=
  ⟨h.size, h.keep, h.gle, h.gnew, fun x hx b o hc => by
    rcases List.mem_cons.1 hx with rfl | hx
    · simp only [Own.cov] at hc; omega
    · exact h.own x hx b o hc, h.weq⟩
theorem WK.nothing {K : Act → World → Prop} (h : WK K cx L G (.spare 0 0 0 :: H)) : WK K cx L G H :=
  fun a w st => h a w ⟨st.size, st.defs, st.slot, st.sat.nothing, st.stp.nothing⟩
theorem WC.nothing {c : Code} (h : WC P c Q cx L G (.spare 0 0 0 :: H)) : WC P c Q cx L G H :=
  fun a w st => h a w ⟨st.size, st.defs, st.slot, st.sat.nothing, st.stp.nothing⟩

/-- these slots are among those that are known -/
def AllLk (L : List (Nat × Value)) : List (Nat × Value) → Prop
  | [] => True
  | (t, v) :: r => lk L t = some v ∧ AllLk L r
theorem AllLk.sub {L L' : List (Nat × Value)} (h : AllLk L L') : ∀ t v, lk L' t = some v → lk L t = some v := by
  induction L' with
  | nil => intro t v e; simp [lk] at e
  | cons p r ih =>
    obtain ⟨k, u⟩ := p
    intro t v e
    simp only [lk] at e
    by_cases hk : k = t
    · subst hk
      simp only [Nat.beq_refl, cond_true, Option.some.injEq] at e
      subst e
      exact h.1
    · have hb : Nat.beq k t = false := by cases hbb : Nat.beq k t with | false => rfl | true => exact absurd (Nat.eq_of_beq_eq_true hbb) hk
      rw [hb] at e
      exact ih h.2 t v e

/-- a loop, by what holds at the head of each round -/
theorem WC.loop {c : Code} {X : Type} (Lf : X → List (Nat × Value)) (Gf : X → Gh) (Hf : X → List Own) (μ : X → Nat) (ok : X → Prop) (x0 : X) (h0 : ok x0) (hL : AllLk L (Lf x0)) (hG : Gf x0 = G) (hH : (Hf x0).Sublist H)
    (round : ∀ x, ok x → WC P c (Exit.then (fun a w => ∃ x', μ x' < μ x ∧ ok x' ∧ St cx (Lf x') (Gf x') (Hf x') a w) Q) cx (Lf x) (Gf x) (Hf x)) : WC P (.loop c) Q cx L G H := by
  intro a w st
  refine wp_loop_fuel (A := fun k x a w => μ x = k ∧ ok x ∧ St cx (Lf x) (Gf x) (Hf x) a w) (x0 := x0) ⟨rfl, h0, hG ▸ st.weaken hL.sub hH⟩ ?_
  rintro k x a w ⟨rfl, hok, st⟩
  refine Code.wp_mono (fun e a w q => ?_) (round x hok a w st)
  cases e <;> first
    | exact q
    | (obtain ⟨x', h1, h2, h3⟩ := q; exact ⟨_, x', h1, rfl, h2, h3⟩)
theorem WK.again {X : Type} {Lf : X → List (Nat × Value)} {Gf : X → Gh} {Hf : X → List Own} {μ : X → Nat} {ok : X → Prop} {x : X} (x' : X) (h1 : μ x' < μ x) (h2 : ok x') (hL : AllLk L (Lf x')) (hG : Gf x' = G) (hH : (Hf x').Sublist H) :
    WK (fun a w => ∃ x', μ x' < μ x ∧ ok x' ∧ St cx (Lf x') (Gf x') (Hf x') a w) cx L G H :=
  fun a w st => ⟨x', h1, h2, hG ▸ st.weaken hL.sub hH⟩
/-- ways that meet -/
theorem WC.join {x y : Code} {X : Type} (Lf : X → List (Nat × Value)) (Gf : X → Gh) (Hf : X → List Own) (ok : X → Prop)
    (h : WC P x (Exit.then (fun a w => ∃ x, ok x ∧ St cx (Lf x) (Gf x) (Hf x) a w) Q) cx L G H) (hy : ∀ x, ok x → WC P y Q cx (Lf x) (Gf x) (Hf x)) : WC P (.seq x y) Q cx L G H :=
  WC.seqJ _ h fun a w ⟨x, h1, h2⟩ => hy x h1 a w h2
theorem WK.meet {X : Type} {Lf : X → List (Nat × Value)} {Gf : X → Gh} {Hf : X → List Own} {ok : X → Prop} (x' : X) (h2 : ok x') (hL : AllLk L (Lf x')) (hG : Gf x' = G) (hH : (Hf x').Sublist H) :
    WK (fun a w => ∃ x, ok x ∧ St cx (Lf x) (Gf x) (Hf x) a w) cx L G H :=
  fun a w st => ⟨x', h2, hG ▸ st.weaken hL.sub hH⟩

theorem perm_at {l : List Own} {j : Nat} {x : Own} (h : At l j x) : l.Perm (x :: l.eraseIdx j) := by
  induction h with
  | here => exact List.Perm.refl _
  | there _ ih => exact (List.Perm.cons _ ih).trans (List.Perm.swap _ _ _)
end
end Go.Proofs.YtkmigdmdppkpoaaGreatDoor.Gb
namespace Go.Proofs.YtkmigdmdppkpoaaGreatDoor.Gb
open Go Go.Proofs
instance : Und Tryz.prog 2 (.int .i64) := ⟨by kernel_rfl⟩
instance inf2 : Inf Tryz.prog 2 1 8 (.int .i64 0) := ⟨by kernel_rfl⟩
instance : Agg Tryz.prog 2 false := ⟨fun w => by simp [isAgg, run_underlying Tryz.underlying2]⟩
instance : Und Tryz.prog 3 (.int .i64) := ⟨by kernel_rfl⟩
instance inf3 : Inf Tryz.prog 3 1 8 (.int .i64 0) := ⟨by kernel_rfl⟩
instance : Agg Tryz.prog 3 false := ⟨fun w => by simp [isAgg, run_underlying Tryz.underlying3]⟩
instance : Und Tryz.prog 4 .bool := ⟨by kernel_rfl⟩
instance inf4 : Inf Tryz.prog 4 1 1 (.bool false) := ⟨by kernel_rfl⟩
instance : Agg Tryz.prog 4 false := ⟨fun w => by simp [isAgg, run_underlying Tryz.underlying4]⟩
instance : Und Tryz.prog 5 (.int .u8) := ⟨by kernel_rfl⟩
instance inf5 : Inf Tryz.prog 5 1 1 (.int .u8 0) := ⟨by kernel_rfl⟩
instance : Agg Tryz.prog 5 false := ⟨fun w => by simp [isAgg, run_underlying Tryz.underlying5]⟩
instance : Und Tryz.prog 6 (.int .u8) := ⟨by kernel_rfl⟩
instance inf6 : Inf Tryz.prog 6 1 1 (.int .u8 0) := ⟨by kernel_rfl⟩
instance : Agg Tryz.prog 6 false := ⟨fun w => by simp [isAgg, run_underlying Tryz.underlying6]⟩
instance inf7 : Inf Tryz.prog 7 4 24 (.agg #[(.int .i64 0), (.int .i64 0), (.bool false), (.int .u8 0)]) := ⟨by kernel_rfl⟩
instance : Agg Tryz.prog 7 true := ⟨fun w => by simp [isAgg, run_underlying Tryz.underlying7]⟩
instance : Plc Tryz.prog 7 [(0, 1), (1, 1), (2, 1), (3, 1)] := ⟨fun w => ⟨_, Tryz.underlying7, run_places w _ _ (by kernel_rfl)⟩⟩
instance : Fld Tryz.prog 7 0 0 := mk_fld Tryz.underlying7 rfl (inf2).pos rfl
instance : Fld Tryz.prog 7 1 1 := mk_fld Tryz.underlying7 rfl (inf3).pos rfl
instance : Fld Tryz.prog 7 2 2 := mk_fld Tryz.underlying7 rfl (inf4).pos rfl
instance : Fld Tryz.prog 7 3 3 := mk_fld Tryz.underlying7 rfl (inf6).pos rfl
instance inf8 : Inf Tryz.prog 8 4 24 (.agg #[(.int .i64 0), (.int .i64 0), (.bool false), (.int .u8 0)]) := ⟨by kernel_rfl⟩
instance : Agg Tryz.prog 8 true := ⟨fun w => by simp [isAgg, run_underlying Tryz.underlying8]⟩
instance : Plc Tryz.prog 8 [(0, 1), (1, 1), (2, 1), (3, 1)] := ⟨fun w => ⟨_, Tryz.underlying8, run_places w _ _ (by kernel_rfl)⟩⟩
instance : Fld Tryz.prog 8 0 0 := mk_fld Tryz.underlying8 rfl (inf2).pos rfl
instance : Fld Tryz.prog 8 1 1 := mk_fld Tryz.underlying8 rfl (inf3).pos rfl
instance : Fld Tryz.prog 8 2 2 := mk_fld Tryz.underlying8 rfl (inf4).pos rfl
instance : Fld Tryz.prog 8 3 3 := mk_fld Tryz.underlying8 rfl (inf6).pos rfl
instance : Und Tryz.prog 9 .string := ⟨by kernel_rfl⟩
instance inf9 : Inf Tryz.prog 9 1 16 (.string ⟨#[]⟩) := ⟨by kernel_rfl⟩
instance : Agg Tryz.prog 9 false := ⟨fun w => by simp [isAgg, run_underlying Tryz.underlying9]⟩
instance : Und Tryz.prog 10 .string := ⟨by kernel_rfl⟩
instance inf10 : Inf Tryz.prog 10 1 16 (.string ⟨#[]⟩) := ⟨by kernel_rfl⟩
instance : Agg Tryz.prog 10 false := ⟨fun w => by simp [isAgg, run_underlying Tryz.underlying10]⟩
instance : Und Tryz.prog 11 .string := ⟨by kernel_rfl⟩
instance inf11 : Inf Tryz.prog 11 1 16 (.string ⟨#[]⟩) := ⟨by kernel_rfl⟩
instance : Agg Tryz.prog 11 false := ⟨fun w => by simp [isAgg, run_underlying Tryz.underlying11]⟩
instance : Und Tryz.prog 12 (.int .u64) := ⟨by kernel_rfl⟩
instance inf12 : Inf Tryz.prog 12 1 8 (.int .u64 0) := ⟨by kernel_rfl⟩
instance : Agg Tryz.prog 12 false := ⟨fun w => by simp [isAgg, run_underlying Tryz.underlying12]⟩
instance inf13 : Inf Tryz.prog 13 2 24 (.agg #[(.string ⟨#[]⟩), (.int .u64 0)]) := ⟨by kernel_rfl⟩
instance : Agg Tryz.prog 13 true := ⟨fun w => by simp [isAgg, run_underlying Tryz.underlying13]⟩
instance : Plc Tryz.prog 13 [(0, 1), (1, 1)] := ⟨fun w => ⟨_, Tryz.underlying13, run_places w _ _ (by kernel_rfl)⟩⟩
instance : Fld Tryz.prog 13 0 0 := mk_fld Tryz.underlying13 rfl (inf9).pos rfl
instance : Fld Tryz.prog 13 1 1 := mk_fld Tryz.underlying13 rfl (inf12).pos rfl
instance inf14 : Inf Tryz.prog 14 2 24 (.agg #[(.string ⟨#[]⟩), (.int .u64 0)]) := ⟨by kernel_rfl⟩
instance : Agg Tryz.prog 14 true := ⟨fun w => by simp [isAgg, run_underlying Tryz.underlying14]⟩
instance : Plc Tryz.prog 14 [(0, 1), (1, 1)] := ⟨fun w => ⟨_, Tryz.underlying14, run_places w _ _ (by kernel_rfl)⟩⟩
instance : Fld Tryz.prog 14 0 0 := mk_fld Tryz.underlying14 rfl (inf9).pos rfl
instance : Fld Tryz.prog 14 1 1 := mk_fld Tryz.underlying14 rfl (inf12).pos rfl
instance : Und Tryz.prog 15 (.pointer 263) := ⟨by kernel_rfl⟩
instance inf15 : Inf Tryz.prog 15 1 8 (.pointer none) := ⟨by kernel_rfl⟩
instance : Agg Tryz.prog 15 false := ⟨fun w => by simp [isAgg, run_underlying Tryz.underlying15]⟩
instance : Und Tryz.prog 16 (.pointer 266) := ⟨by kernel_rfl⟩
instance inf16 : Inf Tryz.prog 16 1 8 (.pointer none) := ⟨by kernel_rfl⟩
instance : Agg Tryz.prog 16 false := ⟨fun w => by simp [isAgg, run_underlying Tryz.underlying16]⟩
instance : Und Tryz.prog 17 (.pointer 273) := ⟨by kernel_rfl⟩
instance inf17 : Inf Tryz.prog 17 1 8 (.pointer none) := ⟨by kernel_rfl⟩
instance : Agg Tryz.prog 17 false := ⟨fun w => by simp [isAgg, run_underlying Tryz.underlying17]⟩
instance inf18 : Inf Tryz.prog 18 1 8 (.agg #[(.pointer none)]) := ⟨by kernel_rfl⟩
instance : Agg Tryz.prog 18 true := ⟨fun w => by simp [isAgg, run_underlying Tryz.underlying18]⟩
instance : Plc Tryz.prog 18 [(0, 1)] := ⟨fun w => ⟨_, Tryz.underlying18, run_places w _ _ (by kernel_rfl)⟩⟩
instance : Fld Tryz.prog 18 0 0 := mk_fld Tryz.underlying18 rfl (inf17).pos rfl
instance inf19 : Inf Tryz.prog 19 1 8 (.agg #[(.pointer none)]) := ⟨by kernel_rfl⟩
instance : Agg Tryz.prog 19 true := ⟨fun w => by simp [isAgg, run_underlying Tryz.underlying19]⟩
instance : Plc Tryz.prog 19 [(0, 1)] := ⟨fun w => ⟨_, Tryz.underlying19, run_places w _ _ (by kernel_rfl)⟩⟩
instance : Fld Tryz.prog 19 0 0 := mk_fld Tryz.underlying19 rfl (inf17).pos rfl
instance : Und Tryz.prog 21 (.int .i32) := ⟨by kernel_rfl⟩
instance inf21 : Inf Tryz.prog 21 1 4 (.int .i32 0) := ⟨by kernel_rfl⟩
instance : Agg Tryz.prog 21 false := ⟨fun w => by simp [isAgg, run_underlying Tryz.underlying21]⟩
instance : Und Tryz.prog 22 (.slice 99) := ⟨by kernel_rfl⟩
instance inf22 : Inf Tryz.prog 22 1 24 (.slice none 0 0) := ⟨by kernel_rfl⟩
instance : Agg Tryz.prog 22 false := ⟨fun w => by simp [isAgg, run_underlying Tryz.underlying22]⟩
instance : Und Tryz.prog 23 (.slice 105) := ⟨by kernel_rfl⟩
instance inf23 : Inf Tryz.prog 23 1 24 (.slice none 0 0) := ⟨by kernel_rfl⟩
instance : Agg Tryz.prog 23 false := ⟨fun w => by simp [isAgg, run_underlying Tryz.underlying23]⟩
instance : Und Tryz.prog 24 (.slice 45) := ⟨by kernel_rfl⟩
instance inf24 : Inf Tryz.prog 24 1 24 (.slice none 0 0) := ⟨by kernel_rfl⟩
instance : Agg Tryz.prog 24 false := ⟨fun w => by simp [isAgg, run_underlying Tryz.underlying24]⟩
instance inf25 : Inf Tryz.prog 25 4 88 (.agg #[(.string ⟨#[]⟩), (.slice none 0 0), (.slice none 0 0), (.slice none 0 0)]) := ⟨by kernel_rfl⟩
instance : Agg Tryz.prog 25 true := ⟨fun w => by simp [isAgg, run_underlying Tryz.underlying25]⟩
instance : Plc Tryz.prog 25 [(0, 1), (1, 1), (2, 1), (3, 1)] := ⟨fun w => ⟨_, Tryz.underlying25, run_places w _ _ (by kernel_rfl)⟩⟩
instance : Fld Tryz.prog 25 0 0 := mk_fld Tryz.underlying25 rfl (inf9).pos rfl
instance : Fld Tryz.prog 25 1 1 := mk_fld Tryz.underlying25 rfl (inf22).pos rfl
instance : Fld Tryz.prog 25 2 2 := mk_fld Tryz.underlying25 rfl (inf23).pos rfl
instance : Fld Tryz.prog 25 3 3 := mk_fld Tryz.underlying25 rfl (inf24).pos rfl
instance inf26 : Inf Tryz.prog 26 4 88 (.agg #[(.string ⟨#[]⟩), (.slice none 0 0), (.slice none 0 0), (.slice none 0 0)]) := ⟨by kernel_rfl⟩
instance : Agg Tryz.prog 26 true := ⟨fun w => by simp [isAgg, run_underlying Tryz.underlying26]⟩
instance : Plc Tryz.prog 26 [(0, 1), (1, 1), (2, 1), (3, 1)] := ⟨fun w => ⟨_, Tryz.underlying26, run_places w _ _ (by kernel_rfl)⟩⟩
instance : Fld Tryz.prog 26 0 0 := mk_fld Tryz.underlying26 rfl (inf9).pos rfl
instance : Fld Tryz.prog 26 1 1 := mk_fld Tryz.underlying26 rfl (inf22).pos rfl
instance : Fld Tryz.prog 26 2 2 := mk_fld Tryz.underlying26 rfl (inf23).pos rfl
instance : Fld Tryz.prog 26 3 3 := mk_fld Tryz.underlying26 rfl (inf24).pos rfl
instance : Und Tryz.prog 27 (.slice 3) := ⟨by kernel_rfl⟩
instance inf27 : Inf Tryz.prog 27 1 24 (.slice none 0 0) := ⟨by kernel_rfl⟩
instance : Agg Tryz.prog 27 false := ⟨fun w => by simp [isAgg, run_underlying Tryz.underlying27]⟩
instance : Und Tryz.prog 28 (.int .i64) := ⟨by kernel_rfl⟩
instance inf28 : Inf Tryz.prog 28 1 8 (.int .i64 0) := ⟨by kernel_rfl⟩
instance : Agg Tryz.prog 28 false := ⟨fun w => by simp [isAgg, run_underlying Tryz.underlying28]⟩
instance : Und Tryz.prog 31 (.slice 42) := ⟨by kernel_rfl⟩
instance inf31 : Inf Tryz.prog 31 1 24 (.slice none 0 0) := ⟨by kernel_rfl⟩
instance : Agg Tryz.prog 31 false := ⟨fun w => by simp [isAgg, run_underlying Tryz.underlying31]⟩
instance : Und Tryz.prog 37 (.slice 4) := ⟨by kernel_rfl⟩
instance inf37 : Inf Tryz.prog 37 1 24 (.slice none 0 0) := ⟨by kernel_rfl⟩
instance : Agg Tryz.prog 37 false := ⟨fun w => by simp [isAgg, run_underlying Tryz.underlying37]⟩
instance inf38 : Inf Tryz.prog 38 2 16 (.agg #[(.int .i64 0), (.int .i64 0)]) := ⟨by kernel_rfl⟩
instance : Agg Tryz.prog 38 true := ⟨fun w => by simp [isAgg, run_underlying Tryz.underlying38]⟩
instance : Plc Tryz.prog 38 [(0, 1), (1, 1)] := ⟨fun w => ⟨_, Tryz.underlying38, run_places w _ _ (by kernel_rfl)⟩⟩
instance : Fld Tryz.prog 38 0 0 := mk_fld Tryz.underlying38 rfl (inf3).pos rfl
instance : Fld Tryz.prog 38 1 1 := mk_fld Tryz.underlying38 rfl (inf3).pos rfl
instance inf39 : Inf Tryz.prog 39 2 16 (.agg #[(.int .i64 0), (.int .i64 0)]) := ⟨by kernel_rfl⟩
instance : Agg Tryz.prog 39 true := ⟨fun w => by simp [isAgg, run_underlying Tryz.underlying39]⟩
instance : Plc Tryz.prog 39 [(0, 1), (1, 1)] := ⟨fun w => ⟨_, Tryz.underlying39, run_places w _ _ (by kernel_rfl)⟩⟩
instance : Fld Tryz.prog 39 0 0 := mk_fld Tryz.underlying39 rfl (inf3).pos rfl
instance : Fld Tryz.prog 39 1 1 := mk_fld Tryz.underlying39 rfl (inf3).pos rfl
instance : Und Tryz.prog 42 (.int .i64) := ⟨by kernel_rfl⟩
instance inf42 : Inf Tryz.prog 42 1 8 (.int .i64 0) := ⟨by kernel_rfl⟩
instance : Agg Tryz.prog 42 false := ⟨fun w => by simp [isAgg, run_underlying Tryz.underlying42]⟩
instance : Und Tryz.prog 43 (.slice 50) := ⟨by kernel_rfl⟩
instance inf43 : Inf Tryz.prog 43 1 24 (.slice none 0 0) := ⟨by kernel_rfl⟩
instance : Agg Tryz.prog 43 false := ⟨fun w => by simp [isAgg, run_underlying Tryz.underlying43]⟩
instance inf44 : Inf Tryz.prog 44 6 88 (.agg #[(.string ⟨#[]⟩), (.bool false), (.slice none 0 0), (.int .i64 0), (.int .i64 0), (.slice none 0 0)]) := ⟨by kernel_rfl⟩
instance : Agg Tryz.prog 44 true := ⟨fun w => by simp [isAgg, run_underlying Tryz.underlying44]⟩
instance : Plc Tryz.prog 44 [(0, 1), (1, 1), (2, 1), (3, 1), (4, 1), (5, 1)] := ⟨fun w => ⟨_, Tryz.underlying44, run_places w _ _ (by kernel_rfl)⟩⟩
instance : Fld Tryz.prog 44 0 0 := mk_fld Tryz.underlying44 rfl (inf9).pos rfl
instance : Fld Tryz.prog 44 1 1 := mk_fld Tryz.underlying44 rfl (inf4).pos rfl
instance : Fld Tryz.prog 44 2 2 := mk_fld Tryz.underlying44 rfl (inf31).pos rfl
instance : Fld Tryz.prog 44 3 3 := mk_fld Tryz.underlying44 rfl (inf3).pos rfl
instance : Fld Tryz.prog 44 4 4 := mk_fld Tryz.underlying44 rfl (inf42).pos rfl
instance : Fld Tryz.prog 44 5 5 := mk_fld Tryz.underlying44 rfl (inf43).pos rfl
instance inf45 : Inf Tryz.prog 45 6 88 (.agg #[(.string ⟨#[]⟩), (.bool false), (.slice none 0 0), (.int .i64 0), (.int .i64 0), (.slice none 0 0)]) := ⟨by kernel_rfl⟩
instance : Agg Tryz.prog 45 true := ⟨fun w => by simp [isAgg, run_underlying Tryz.underlying45]⟩
instance : Plc Tryz.prog 45 [(0, 1), (1, 1), (2, 1), (3, 1), (4, 1), (5, 1)] := ⟨fun w => ⟨_, Tryz.underlying45, run_places w _ _ (by kernel_rfl)⟩⟩
instance : Fld Tryz.prog 45 0 0 := mk_fld Tryz.underlying45 rfl (inf9).pos rfl
instance : Fld Tryz.prog 45 1 1 := mk_fld Tryz.underlying45 rfl (inf4).pos rfl
instance : Fld Tryz.prog 45 2 2 := mk_fld Tryz.underlying45 rfl (inf31).pos rfl
instance : Fld Tryz.prog 45 3 3 := mk_fld Tryz.underlying45 rfl (inf3).pos rfl
instance : Fld Tryz.prog 45 4 4 := mk_fld Tryz.underlying45 rfl (inf42).pos rfl
instance : Fld Tryz.prog 45 5 5 := mk_fld Tryz.underlying45 rfl (inf43).pos rfl
instance inf46 : Inf Tryz.prog 46 2 48 (.agg #[(.slice none 0 0), (.slice none 0 0)]) := ⟨by kernel_rfl⟩
instance : Agg Tryz.prog 46 true := ⟨fun w => by simp [isAgg, run_underlying Tryz.underlying46]⟩
instance : Plc Tryz.prog 46 [(0, 1), (1, 1)] := ⟨fun w => ⟨_, Tryz.underlying46, run_places w _ _ (by kernel_rfl)⟩⟩
instance : Fld Tryz.prog 46 0 0 := mk_fld Tryz.underlying46 rfl (inf31).pos rfl
instance : Fld Tryz.prog 46 1 1 := mk_fld Tryz.underlying46 rfl (inf31).pos rfl
instance inf47 : Inf Tryz.prog 47 2 48 (.agg #[(.slice none 0 0), (.slice none 0 0)]) := ⟨by kernel_rfl⟩
instance : Agg Tryz.prog 47 true := ⟨fun w => by simp [isAgg, run_underlying Tryz.underlying47]⟩
instance : Plc Tryz.prog 47 [(0, 1), (1, 1)] := ⟨fun w => ⟨_, Tryz.underlying47, run_places w _ _ (by kernel_rfl)⟩⟩
instance : Fld Tryz.prog 47 0 0 := mk_fld Tryz.underlying47 rfl (inf31).pos rfl
instance : Fld Tryz.prog 47 1 1 := mk_fld Tryz.underlying47 rfl (inf31).pos rfl
instance : Und Tryz.prog 48 (.int .i64) := ⟨by kernel_rfl⟩
instance inf48 : Inf Tryz.prog 48 1 8 (.int .i64 0) := ⟨by kernel_rfl⟩
instance : Agg Tryz.prog 48 false := ⟨fun w => by simp [isAgg, run_underlying Tryz.underlying48]⟩
instance inf49 : Inf Tryz.prog 49 2 16 (.agg #[(.int .i64 0), (.int .i64 0)]) := ⟨by kernel_rfl⟩
instance : Agg Tryz.prog 49 true := ⟨fun w => by simp [isAgg, run_underlying Tryz.underlying49]⟩
instance : Plc Tryz.prog 49 [(0, 1), (1, 1)] := ⟨fun w => ⟨_, Tryz.underlying49, run_places w _ _ (by kernel_rfl)⟩⟩
instance : Fld Tryz.prog 49 0 0 := mk_fld Tryz.underlying49 rfl (inf48).pos rfl
instance : Fld Tryz.prog 49 1 1 := mk_fld Tryz.underlying49 rfl (inf3).pos rfl
instance inf50 : Inf Tryz.prog 50 2 16 (.agg #[(.int .i64 0), (.int .i64 0)]) := ⟨by kernel_rfl⟩
instance : Agg Tryz.prog 50 true := ⟨fun w => by simp [isAgg, run_underlying Tryz.underlying50]⟩
instance : Plc Tryz.prog 50 [(0, 1), (1, 1)] := ⟨fun w => ⟨_, Tryz.underlying50, run_places w _ _ (by kernel_rfl)⟩⟩
instance : Fld Tryz.prog 50 0 0 := mk_fld Tryz.underlying50 rfl (inf48).pos rfl
instance : Fld Tryz.prog 50 1 1 := mk_fld Tryz.underlying50 rfl (inf3).pos rfl
instance : Und Tryz.prog 59 (.slice 9) := ⟨by kernel_rfl⟩
instance inf59 : Inf Tryz.prog 59 1 24 (.slice none 0 0) := ⟨by kernel_rfl⟩
instance : Agg Tryz.prog 59 false := ⟨fun w => by simp [isAgg, run_underlying Tryz.underlying59]⟩
instance : Und Tryz.prog 65 (.slice 5) := ⟨by kernel_rfl⟩
instance inf65 : Inf Tryz.prog 65 1 24 (.slice none 0 0) := ⟨by kernel_rfl⟩
instance : Agg Tryz.prog 65 false := ⟨fun w => by simp [isAgg, run_underlying Tryz.underlying65]⟩
instance inf71 : Inf Tryz.prog 71 2 16 (.agg #[(.int .i64 0), (.int .i64 0)]) := ⟨by kernel_rfl⟩
instance : Agg Tryz.prog 71 true := ⟨fun w => by simp [isAgg, run_underlying Tryz.underlying71]⟩
instance : Plc Tryz.prog 71 [(0, 1), (1, 1)] := ⟨fun w => ⟨_, Tryz.underlying71, run_places w _ _ (by kernel_rfl)⟩⟩
instance : Fld Tryz.prog 71 0 0 := mk_fld Tryz.underlying71 rfl (inf28).pos rfl
instance : Fld Tryz.prog 71 1 1 := mk_fld Tryz.underlying71 rfl (inf3).pos rfl
instance inf72 : Inf Tryz.prog 72 2 16 (.agg #[(.int .i64 0), (.int .i64 0)]) := ⟨by kernel_rfl⟩
instance : Agg Tryz.prog 72 true := ⟨fun w => by simp [isAgg, run_underlying Tryz.underlying72]⟩
instance : Plc Tryz.prog 72 [(0, 1), (1, 1)] := ⟨fun w => ⟨_, Tryz.underlying72, run_places w _ _ (by kernel_rfl)⟩⟩
instance : Fld Tryz.prog 72 0 0 := mk_fld Tryz.underlying72 rfl (inf28).pos rfl
instance : Fld Tryz.prog 72 1 1 := mk_fld Tryz.underlying72 rfl (inf3).pos rfl
instance : Und Tryz.prog 82 (.pointer 88) := ⟨by kernel_rfl⟩
instance inf82 : Inf Tryz.prog 82 1 8 (.pointer none) := ⟨by kernel_rfl⟩
instance : Agg Tryz.prog 82 false := ⟨fun w => by simp [isAgg, run_underlying Tryz.underlying82]⟩
instance : Und Tryz.prog 85 (.pointer 102) := ⟨by kernel_rfl⟩
instance inf85 : Inf Tryz.prog 85 1 8 (.pointer none) := ⟨by kernel_rfl⟩
instance : Agg Tryz.prog 85 false := ⟨fun w => by simp [isAgg, run_underlying Tryz.underlying85]⟩
instance : Und Tryz.prog 86 (.slice 90) := ⟨by kernel_rfl⟩
instance inf86 : Inf Tryz.prog 86 1 24 (.slice none 0 0) := ⟨by kernel_rfl⟩
instance : Agg Tryz.prog 86 false := ⟨fun w => by simp [isAgg, run_underlying Tryz.underlying86]⟩
instance inf87 : Inf Tryz.prog 87 8 120 (.agg #[(.pointer none), (.string ⟨#[]⟩), (.bool false), (.slice none 0 0), (.int .i64 0), (.int .i64 0), (.slice none 0 0), (.slice none 0 0)]) := ⟨by kernel_rfl⟩
instance : Agg Tryz.prog 87 true := ⟨fun w => by simp [isAgg, run_underlying Tryz.underlying87]⟩
instance : Plc Tryz.prog 87 [(0, 1), (1, 6), (7, 1)] := ⟨fun w => ⟨_, Tryz.underlying87, run_places w _ _ (by kernel_rfl)⟩⟩
instance : Fld Tryz.prog 87 0 0 := mk_fld Tryz.underlying87 rfl (inf85).pos rfl
instance : Fld Tryz.prog 87 1 1 := mk_fld Tryz.underlying87 rfl (inf45).pos rfl
instance : Fld Tryz.prog 87 2 7 := mk_fld Tryz.underlying87 rfl (inf86).pos rfl
instance inf88 : Inf Tryz.prog 88 8 120 (.agg #[(.pointer none), (.string ⟨#[]⟩), (.bool false), (.slice none 0 0), (.int .i64 0), (.int .i64 0), (.slice none 0 0), (.slice none 0 0)]) := ⟨by kernel_rfl⟩
instance : Agg Tryz.prog 88 true := ⟨fun w => by simp [isAgg, run_underlying Tryz.underlying88]⟩
instance : Plc Tryz.prog 88 [(0, 1), (1, 6), (7, 1)] := ⟨fun w => ⟨_, Tryz.underlying88, run_places w _ _ (by kernel_rfl)⟩⟩
instance : Fld Tryz.prog 88 0 0 := mk_fld Tryz.underlying88 rfl (inf85).pos rfl
instance : Fld Tryz.prog 88 1 1 := mk_fld Tryz.underlying88 rfl (inf45).pos rfl
instance : Fld Tryz.prog 88 2 7 := mk_fld Tryz.underlying88 rfl (inf86).pos rfl
instance inf89 : Inf Tryz.prog 89 4 56 (.agg #[(.bool false), (.bool false), (.slice none 0 0), (.slice none 0 0)]) := ⟨by kernel_rfl⟩
instance : Agg Tryz.prog 89 true := ⟨fun w => by simp [isAgg, run_underlying Tryz.underlying89]⟩
instance : Plc Tryz.prog 89 [(0, 1), (1, 1), (2, 1), (3, 1)] := ⟨fun w => ⟨_, Tryz.underlying89, run_places w _ _ (by kernel_rfl)⟩⟩
instance : Fld Tryz.prog 89 0 0 := mk_fld Tryz.underlying89 rfl (inf4).pos rfl
instance : Fld Tryz.prog 89 1 1 := mk_fld Tryz.underlying89 rfl (inf4).pos rfl
instance : Fld Tryz.prog 89 2 2 := mk_fld Tryz.underlying89 rfl (inf31).pos rfl
instance : Fld Tryz.prog 89 3 3 := mk_fld Tryz.underlying89 rfl (inf31).pos rfl
instance inf90 : Inf Tryz.prog 90 4 56 (.agg #[(.bool false), (.bool false), (.slice none 0 0), (.slice none 0 0)]) := ⟨by kernel_rfl⟩
instance : Agg Tryz.prog 90 true := ⟨fun w => by simp [isAgg, run_underlying Tryz.underlying90]⟩
instance : Plc Tryz.prog 90 [(0, 1), (1, 1), (2, 1), (3, 1)] := ⟨fun w => ⟨_, Tryz.underlying90, run_places w _ _ (by kernel_rfl)⟩⟩
instance : Fld Tryz.prog 90 0 0 := mk_fld Tryz.underlying90 rfl (inf4).pos rfl
instance : Fld Tryz.prog 90 1 1 := mk_fld Tryz.underlying90 rfl (inf4).pos rfl
instance : Fld Tryz.prog 90 2 2 := mk_fld Tryz.underlying90 rfl (inf31).pos rfl
instance : Fld Tryz.prog 90 3 3 := mk_fld Tryz.underlying90 rfl (inf31).pos rfl
instance : Und Tryz.prog 91 (.slice 95) := ⟨by kernel_rfl⟩
instance inf91 : Inf Tryz.prog 91 1 24 (.slice none 0 0) := ⟨by kernel_rfl⟩
instance : Agg Tryz.prog 91 false := ⟨fun w => by simp [isAgg, run_underlying Tryz.underlying91]⟩
instance inf94 : Inf Tryz.prog 94 4 64 (.agg #[(.bool false), (.slice none 0 0), (.bool false), (.slice none 0 0)]) := ⟨by kernel_rfl⟩
instance : Agg Tryz.prog 94 true := ⟨fun w => by simp [isAgg, run_underlying Tryz.underlying94]⟩
instance : Plc Tryz.prog 94 [(0, 1), (1, 1), (2, 1), (3, 1)] := ⟨fun w => ⟨_, Tryz.underlying94, run_places w _ _ (by kernel_rfl)⟩⟩
instance : Fld Tryz.prog 94 0 0 := mk_fld Tryz.underlying94 rfl (inf4).pos rfl
instance : Fld Tryz.prog 94 1 1 := mk_fld Tryz.underlying94 rfl (inf31).pos rfl
instance : Fld Tryz.prog 94 2 2 := mk_fld Tryz.underlying94 rfl (inf4).pos rfl
instance : Fld Tryz.prog 94 3 3 := mk_fld Tryz.underlying94 rfl (inf31).pos rfl
instance inf95 : Inf Tryz.prog 95 4 64 (.agg #[(.bool false), (.slice none 0 0), (.bool false), (.slice none 0 0)]) := ⟨by kernel_rfl⟩
instance : Agg Tryz.prog 95 true := ⟨fun w => by simp [isAgg, run_underlying Tryz.underlying95]⟩
instance : Plc Tryz.prog 95 [(0, 1), (1, 1), (2, 1), (3, 1)] := ⟨fun w => ⟨_, Tryz.underlying95, run_places w _ _ (by kernel_rfl)⟩⟩
instance : Fld Tryz.prog 95 0 0 := mk_fld Tryz.underlying95 rfl (inf4).pos rfl
instance : Fld Tryz.prog 95 1 1 := mk_fld Tryz.underlying95 rfl (inf31).pos rfl
instance : Fld Tryz.prog 95 2 2 := mk_fld Tryz.underlying95 rfl (inf4).pos rfl
instance : Fld Tryz.prog 95 3 3 := mk_fld Tryz.underlying95 rfl (inf31).pos rfl
instance inf98 : Inf Tryz.prog 98 4 40 (.agg #[(.int .i64 0), (.int .i64 0), (.bool false), (.string ⟨#[]⟩)]) := ⟨by kernel_rfl⟩
instance : Agg Tryz.prog 98 true := ⟨fun w => by simp [isAgg, run_underlying Tryz.underlying98]⟩
instance : Plc Tryz.prog 98 [(0, 1), (1, 1), (2, 1), (3, 1)] := ⟨fun w => ⟨_, Tryz.underlying98, run_places w _ _ (by kernel_rfl)⟩⟩
instance : Fld Tryz.prog 98 0 0 := mk_fld Tryz.underlying98 rfl (inf42).pos rfl
instance : Fld Tryz.prog 98 1 1 := mk_fld Tryz.underlying98 rfl (inf2).pos rfl
instance : Fld Tryz.prog 98 2 2 := mk_fld Tryz.underlying98 rfl (inf4).pos rfl
instance : Fld Tryz.prog 98 3 3 := mk_fld Tryz.underlying98 rfl (inf9).pos rfl
instance inf99 : Inf Tryz.prog 99 4 40 (.agg #[(.int .i64 0), (.int .i64 0), (.bool false), (.string ⟨#[]⟩)]) := ⟨by kernel_rfl⟩
instance : Agg Tryz.prog 99 true := ⟨fun w => by simp [isAgg, run_underlying Tryz.underlying99]⟩
instance : Plc Tryz.prog 99 [(0, 1), (1, 1), (2, 1), (3, 1)] := ⟨fun w => ⟨_, Tryz.underlying99, run_places w _ _ (by kernel_rfl)⟩⟩
instance : Fld Tryz.prog 99 0 0 := mk_fld Tryz.underlying99 rfl (inf42).pos rfl
instance : Fld Tryz.prog 99 1 1 := mk_fld Tryz.underlying99 rfl (inf2).pos rfl
instance : Fld Tryz.prog 99 2 2 := mk_fld Tryz.underlying99 rfl (inf4).pos rfl
instance : Fld Tryz.prog 99 3 3 := mk_fld Tryz.underlying99 rfl (inf9).pos rfl
instance inf101 : Inf Tryz.prog 101 3 72 (.agg #[(.slice none 0 0), (.slice none 0 0), (.slice none 0 0)]) := ⟨by kernel_rfl⟩
instance : Agg Tryz.prog 101 true := ⟨fun w => by simp [isAgg, run_underlying Tryz.underlying101]⟩
instance : Plc Tryz.prog 101 [(0, 1), (1, 1), (2, 1)] := ⟨fun w => ⟨_, Tryz.underlying101, run_places w _ _ (by kernel_rfl)⟩⟩
instance : Fld Tryz.prog 101 0 0 := mk_fld Tryz.underlying101 rfl (inf22).pos rfl
instance : Fld Tryz.prog 101 1 1 := mk_fld Tryz.underlying101 rfl (inf23).pos rfl
instance : Fld Tryz.prog 101 2 2 := mk_fld Tryz.underlying101 rfl (inf24).pos rfl
instance inf102 : Inf Tryz.prog 102 3 72 (.agg #[(.slice none 0 0), (.slice none 0 0), (.slice none 0 0)]) := ⟨by kernel_rfl⟩
instance : Agg Tryz.prog 102 true := ⟨fun w => by simp [isAgg, run_underlying Tryz.underlying102]⟩
instance : Plc Tryz.prog 102 [(0, 1), (1, 1), (2, 1)] := ⟨fun w => ⟨_, Tryz.underlying102, run_places w _ _ (by kernel_rfl)⟩⟩
instance : Fld Tryz.prog 102 0 0 := mk_fld Tryz.underlying102 rfl (inf22).pos rfl
instance : Fld Tryz.prog 102 1 1 := mk_fld Tryz.underlying102 rfl (inf23).pos rfl
instance : Fld Tryz.prog 102 2 2 := mk_fld Tryz.underlying102 rfl (inf24).pos rfl
instance inf104 : Inf Tryz.prog 104 4 64 (.agg #[(.string ⟨#[]⟩), (.string ⟨#[]⟩), (.slice none 0 0), (.int .i64 0)]) := ⟨by kernel_rfl⟩
instance : Agg Tryz.prog 104 true := ⟨fun w => by simp [isAgg, run_underlying Tryz.underlying104]⟩
instance : Plc Tryz.prog 104 [(0, 1), (1, 1), (2, 1), (3, 1)] := ⟨fun w => ⟨_, Tryz.underlying104, run_places w _ _ (by kernel_rfl)⟩⟩
instance : Fld Tryz.prog 104 0 0 := mk_fld Tryz.underlying104 rfl (inf9).pos rfl
instance : Fld Tryz.prog 104 1 1 := mk_fld Tryz.underlying104 rfl (inf9).pos rfl
instance : Fld Tryz.prog 104 2 2 := mk_fld Tryz.underlying104 rfl (inf31).pos rfl
instance : Fld Tryz.prog 104 3 3 := mk_fld Tryz.underlying104 rfl (inf42).pos rfl
instance inf105 : Inf Tryz.prog 105 4 64 (.agg #[(.string ⟨#[]⟩), (.string ⟨#[]⟩), (.slice none 0 0), (.int .i64 0)]) := ⟨by kernel_rfl⟩
instance : Agg Tryz.prog 105 true := ⟨fun w => by simp [isAgg, run_underlying Tryz.underlying105]⟩
instance : Plc Tryz.prog 105 [(0, 1), (1, 1), (2, 1), (3, 1)] := ⟨fun w => ⟨_, Tryz.underlying105, run_places w _ _ (by kernel_rfl)⟩⟩
instance : Fld Tryz.prog 105 0 0 := mk_fld Tryz.underlying105 rfl (inf9).pos rfl
instance : Fld Tryz.prog 105 1 1 := mk_fld Tryz.underlying105 rfl (inf9).pos rfl
instance : Fld Tryz.prog 105 2 2 := mk_fld Tryz.underlying105 rfl (inf31).pos rfl
instance : Fld Tryz.prog 105 3 3 := mk_fld Tryz.underlying105 rfl (inf42).pos rfl
instance inf108 : Inf Tryz.prog 108 4 40 (.agg #[(.string ⟨#[]⟩), (.bool false), (.int .i64 0), (.int .i64 0)]) := ⟨by kernel_rfl⟩
instance : Agg Tryz.prog 108 true := ⟨fun w => by simp [isAgg, run_underlying Tryz.underlying108]⟩
instance : Plc Tryz.prog 108 [(0, 1), (1, 1), (2, 1), (3, 1)] := ⟨fun w => ⟨_, Tryz.underlying108, run_places w _ _ (by kernel_rfl)⟩⟩
instance : Fld Tryz.prog 108 0 0 := mk_fld Tryz.underlying108 rfl (inf9).pos rfl
instance : Fld Tryz.prog 108 1 1 := mk_fld Tryz.underlying108 rfl (inf4).pos rfl
instance : Fld Tryz.prog 108 2 2 := mk_fld Tryz.underlying108 rfl (inf3).pos rfl
instance : Fld Tryz.prog 108 3 3 := mk_fld Tryz.underlying108 rfl (inf3).pos rfl
instance inf109 : Inf Tryz.prog 109 4 40 (.agg #[(.string ⟨#[]⟩), (.bool false), (.int .i64 0), (.int .i64 0)]) := ⟨by kernel_rfl⟩
instance : Agg Tryz.prog 109 true := ⟨fun w => by simp [isAgg, run_underlying Tryz.underlying109]⟩
instance : Plc Tryz.prog 109 [(0, 1), (1, 1), (2, 1), (3, 1)] := ⟨fun w => ⟨_, Tryz.underlying109, run_places w _ _ (by kernel_rfl)⟩⟩
instance : Fld Tryz.prog 109 0 0 := mk_fld Tryz.underlying109 rfl (inf9).pos rfl
instance : Fld Tryz.prog 109 1 1 := mk_fld Tryz.underlying109 rfl (inf4).pos rfl
instance : Fld Tryz.prog 109 2 2 := mk_fld Tryz.underlying109 rfl (inf3).pos rfl
instance : Fld Tryz.prog 109 3 3 := mk_fld Tryz.underlying109 rfl (inf3).pos rfl
instance : Und Tryz.prog 117 (.int .u64) := ⟨by kernel_rfl⟩
instance inf117 : Inf Tryz.prog 117 1 8 (.int .u64 0) := ⟨by kernel_rfl⟩
instance : Agg Tryz.prog 117 false := ⟨fun w => by simp [isAgg, run_underlying Tryz.underlying117]⟩
instance : Und Tryz.prog 127 (.pointer 159) := ⟨by kernel_rfl⟩
instance inf127 : Inf Tryz.prog 127 1 8 (.pointer none) := ⟨by kernel_rfl⟩
instance : Agg Tryz.prog 127 false := ⟨fun w => by simp [isAgg, run_underlying Tryz.underlying127]⟩
instance inf133 : Inf Tryz.prog 133 4 48 (.agg #[(.slice none 0 0), (.int .i64 0), (.int .i64 0), (.int .i64 0)]) := ⟨by kernel_rfl⟩
instance : Agg Tryz.prog 133 true := ⟨fun w => by simp [isAgg, run_underlying Tryz.underlying133]⟩
instance : Plc Tryz.prog 133 [(0, 1), (1, 1), (2, 1), (3, 1)] := ⟨fun w => ⟨_, Tryz.underlying133, run_places w _ _ (by kernel_rfl)⟩⟩
instance : Fld Tryz.prog 133 0 0 := mk_fld Tryz.underlying133 rfl (inf65).pos rfl
instance : Fld Tryz.prog 133 1 1 := mk_fld Tryz.underlying133 rfl (inf3).pos rfl
instance : Fld Tryz.prog 133 2 2 := mk_fld Tryz.underlying133 rfl (inf3).pos rfl
instance : Fld Tryz.prog 133 3 3 := mk_fld Tryz.underlying133 rfl (inf3).pos rfl
instance inf134 : Inf Tryz.prog 134 4 48 (.agg #[(.slice none 0 0), (.int .i64 0), (.int .i64 0), (.int .i64 0)]) := ⟨by kernel_rfl⟩
instance : Agg Tryz.prog 134 true := ⟨fun w => by simp [isAgg, run_underlying Tryz.underlying134]⟩
instance : Plc Tryz.prog 134 [(0, 1), (1, 1), (2, 1), (3, 1)] := ⟨fun w => ⟨_, Tryz.underlying134, run_places w _ _ (by kernel_rfl)⟩⟩
instance : Fld Tryz.prog 134 0 0 := mk_fld Tryz.underlying134 rfl (inf65).pos rfl
instance : Fld Tryz.prog 134 1 1 := mk_fld Tryz.underlying134 rfl (inf3).pos rfl
instance : Fld Tryz.prog 134 2 2 := mk_fld Tryz.underlying134 rfl (inf3).pos rfl
instance : Fld Tryz.prog 134 3 3 := mk_fld Tryz.underlying134 rfl (inf3).pos rfl
instance : Und Tryz.prog 137 (.pointer 134) := ⟨by kernel_rfl⟩
instance inf137 : Inf Tryz.prog 137 1 8 (.pointer none) := ⟨by kernel_rfl⟩
instance : Agg Tryz.prog 137 false := ⟨fun w => by simp [isAgg, run_underlying Tryz.underlying137]⟩
instance inf142 : Inf Tryz.prog 142 3 72 (.agg #[(.slice none 0 0), (.slice none 0 0), (.slice none 0 0)]) := ⟨by kernel_rfl⟩
instance : Agg Tryz.prog 142 true := ⟨fun w => by simp [isAgg, run_underlying Tryz.underlying142]⟩
instance : Plc Tryz.prog 142 [(0, 1), (1, 1), (2, 1)] := ⟨fun w => ⟨_, Tryz.underlying142, run_places w _ _ (by kernel_rfl)⟩⟩
instance : Fld Tryz.prog 142 0 0 := mk_fld Tryz.underlying142 rfl (inf22).pos rfl
instance : Fld Tryz.prog 142 1 1 := mk_fld Tryz.underlying142 rfl (inf23).pos rfl
instance : Fld Tryz.prog 142 2 2 := mk_fld Tryz.underlying142 rfl (inf24).pos rfl
instance inf143 : Inf Tryz.prog 143 3 72 (.agg #[(.slice none 0 0), (.slice none 0 0), (.slice none 0 0)]) := ⟨by kernel_rfl⟩
instance : Agg Tryz.prog 143 true := ⟨fun w => by simp [isAgg, run_underlying Tryz.underlying143]⟩
instance : Plc Tryz.prog 143 [(0, 1), (1, 1), (2, 1)] := ⟨fun w => ⟨_, Tryz.underlying143, run_places w _ _ (by kernel_rfl)⟩⟩
instance : Fld Tryz.prog 143 0 0 := mk_fld Tryz.underlying143 rfl (inf22).pos rfl
instance : Fld Tryz.prog 143 1 1 := mk_fld Tryz.underlying143 rfl (inf23).pos rfl
instance : Fld Tryz.prog 143 2 2 := mk_fld Tryz.underlying143 rfl (inf24).pos rfl
instance : Und Tryz.prog 148 (.map 9 3) := ⟨by kernel_rfl⟩
instance inf148 : Inf Tryz.prog 148 1 8 (.map none) := ⟨by kernel_rfl⟩
instance : Agg Tryz.prog 148 false := ⟨fun w => by simp [isAgg, run_underlying Tryz.underlying148]⟩
instance inf153 : Inf Tryz.prog 153 108 1080 (.agg #[(.string ⟨#[]⟩), (.bool false), (.int .i64 0), (.int .i64 0), (.string ⟨#[]⟩), (.bool false), (.int .i64 0), (.int .i64 0), (.string ⟨#[]⟩), (.bool false), (.int .i64 0), (.int .i64 0), (.string ⟨#[]⟩), (.bool false), (.int .i64 0), (.int .i64 0), (.string ⟨#[]⟩), (.bool false), (.int .i64 0), (.int .i64 0), (.string ⟨#[]⟩), (.bool false), (.int .i64 0), (.int .i64 0), (.string ⟨#[]⟩), (.bool false), (.int .i64 0), (.int .i64 0), (.string ⟨#[]⟩), (.bool false), (.int .i64 0), (.int .i64 0), (.string ⟨#[]⟩), (.bool false), (.int .i64 0), (.int .i64 0), (.string ⟨#[]⟩), (.bool false), (.int .i64 0), (.int .i64 0), (.string ⟨#[]⟩), (.bool false), (.int .i64 0), (.int .i64 0), (.string ⟨#[]⟩), (.bool false), (.int .i64 0), (.int .i64 0), (.string ⟨#[]⟩), (.bool false), (.int .i64 0), (.int .i64 0), (.string ⟨#[]⟩), (.bool false), (.int .i64 0), (.int .i64 0), (.string ⟨#[]⟩), (.bool false), (.int .i64 0), (.int .i64 0), (.string ⟨#[]⟩), (.bool false), (.int .i64 0), (.int .i64 0), (.string ⟨#[]⟩), (.bool false), (.int .i64 0), (.int .i64 0), (.string ⟨#[]⟩), (.bool false), (.int .i64 0), (.int .i64 0), (.string ⟨#[]⟩), (.bool false), (.int .i64 0), (.int .i64 0), (.string ⟨#[]⟩), (.bool false), (.int .i64 0), (.int .i64 0), (.string ⟨#[]⟩), (.bool false), (.int .i64 0), (.int .i64 0), (.string ⟨#[]⟩), (.bool false), (.int .i64 0), (.int .i64 0), (.string ⟨#[]⟩), (.bool false), (.int .i64 0), (.int .i64 0), (.string ⟨#[]⟩), (.bool false), (.int .i64 0), (.int .i64 0), (.string ⟨#[]⟩), (.bool false), (.int .i64 0), (.int .i64 0), (.string ⟨#[]⟩), (.bool false), (.int .i64 0), (.int .i64 0), (.string ⟨#[]⟩), (.bool false), (.int .i64 0), (.int .i64 0)]) := ⟨by kernel_rfl⟩
instance : Agg Tryz.prog 153 true := ⟨fun w => by simp [isAgg, run_underlying Tryz.underlying153]⟩
instance inf156 : Inf Tryz.prog 156 3 40 (.agg #[(.slice none 0 0), (.int .i64 0), (.bool false)]) := ⟨by kernel_rfl⟩
instance : Agg Tryz.prog 156 true := ⟨fun w => by simp [isAgg, run_underlying Tryz.underlying156]⟩
instance : Plc Tryz.prog 156 [(0, 1), (1, 1), (2, 1)] := ⟨fun w => ⟨_, Tryz.underlying156, run_places w _ _ (by kernel_rfl)⟩⟩
instance : Fld Tryz.prog 156 0 0 := mk_fld Tryz.underlying156 rfl (inf65).pos rfl
instance : Fld Tryz.prog 156 1 1 := mk_fld Tryz.underlying156 rfl (inf3).pos rfl
instance : Fld Tryz.prog 156 2 2 := mk_fld Tryz.underlying156 rfl (inf4).pos rfl
instance inf157 : Inf Tryz.prog 157 3 40 (.agg #[(.slice none 0 0), (.int .i64 0), (.bool false)]) := ⟨by kernel_rfl⟩
instance : Agg Tryz.prog 157 true := ⟨fun w => by simp [isAgg, run_underlying Tryz.underlying157]⟩
instance : Plc Tryz.prog 157 [(0, 1), (1, 1), (2, 1)] := ⟨fun w => ⟨_, Tryz.underlying157, run_places w _ _ (by kernel_rfl)⟩⟩
instance : Fld Tryz.prog 157 0 0 := mk_fld Tryz.underlying157 rfl (inf65).pos rfl
instance : Fld Tryz.prog 157 1 1 := mk_fld Tryz.underlying157 rfl (inf3).pos rfl
instance : Fld Tryz.prog 157 2 2 := mk_fld Tryz.underlying157 rfl (inf4).pos rfl
instance inf158 : Inf Tryz.prog 158 5 56 (.agg #[(.slice none 0 0), (.int .i64 0), (.bool false), (.int .i64 0), (.int .i64 0)]) := ⟨by kernel_rfl⟩
instance : Agg Tryz.prog 158 true := ⟨fun w => by simp [isAgg, run_underlying Tryz.underlying158]⟩
instance : Plc Tryz.prog 158 [(0, 3), (3, 2)] := ⟨fun w => ⟨_, Tryz.underlying158, run_places w _ _ (by kernel_rfl)⟩⟩
instance : Fld Tryz.prog 158 0 0 := mk_fld Tryz.underlying158 rfl (inf157).pos rfl
instance : Fld Tryz.prog 158 1 3 := mk_fld Tryz.underlying158 rfl (inf72).pos rfl
instance inf159 : Inf Tryz.prog 159 5 56 (.agg #[(.slice none 0 0), (.int .i64 0), (.bool false), (.int .i64 0), (.int .i64 0)]) := ⟨by kernel_rfl⟩
instance : Agg Tryz.prog 159 true := ⟨fun w => by simp [isAgg, run_underlying Tryz.underlying159]⟩
instance : Plc Tryz.prog 159 [(0, 3), (3, 2)] := ⟨fun w => ⟨_, Tryz.underlying159, run_places w _ _ (by kernel_rfl)⟩⟩
instance : Fld Tryz.prog 159 0 0 := mk_fld Tryz.underlying159 rfl (inf157).pos rfl
instance : Fld Tryz.prog 159 1 3 := mk_fld Tryz.underlying159 rfl (inf72).pos rfl
instance : Und Tryz.prog 165 (.map 3 3) := ⟨by kernel_rfl⟩
instance inf165 : Inf Tryz.prog 165 1 8 (.map none) := ⟨by kernel_rfl⟩
instance : Agg Tryz.prog 165 false := ⟨fun w => by simp [isAgg, run_underlying Tryz.underlying165]⟩
instance : Und Tryz.prog 177 (.int .i64) := ⟨by kernel_rfl⟩
instance inf177 : Inf Tryz.prog 177 1 8 (.int .i64 0) := ⟨by kernel_rfl⟩
instance : Agg Tryz.prog 177 false := ⟨fun w => by simp [isAgg, run_underlying Tryz.underlying177]⟩
instance : Und Tryz.prog 180 (.int .u64) := ⟨by kernel_rfl⟩
instance inf180 : Inf Tryz.prog 180 1 8 (.int .u64 0) := ⟨by kernel_rfl⟩
instance : Agg Tryz.prog 180 false := ⟨fun w => by simp [isAgg, run_underlying Tryz.underlying180]⟩
instance : Und Tryz.prog 182 (.int .i64) := ⟨by kernel_rfl⟩
instance inf182 : Inf Tryz.prog 182 1 8 (.int .i64 0) := ⟨by kernel_rfl⟩
instance : Agg Tryz.prog 182 false := ⟨fun w => by simp [isAgg, run_underlying Tryz.underlying182]⟩
instance : Und Tryz.prog 185 (.pointer 207) := ⟨by kernel_rfl⟩
instance inf185 : Inf Tryz.prog 185 1 8 (.pointer none) := ⟨by kernel_rfl⟩
instance : Agg Tryz.prog 185 false := ⟨fun w => by simp [isAgg, run_underlying Tryz.underlying185]⟩
instance : Und Tryz.prog 188 (.pointer 157) := ⟨by kernel_rfl⟩
instance inf188 : Inf Tryz.prog 188 1 8 (.pointer none) := ⟨by kernel_rfl⟩
instance : Agg Tryz.prog 188 false := ⟨fun w => by simp [isAgg, run_underlying Tryz.underlying188]⟩
instance inf206 : Inf Tryz.prog 206 3 48 (.agg #[(.string ⟨#[]⟩), (.string ⟨#[]⟩), .nilIface]) := ⟨by kernel_rfl⟩
instance : Agg Tryz.prog 206 true := ⟨fun w => by simp [isAgg, run_underlying Tryz.underlying206]⟩
instance : Plc Tryz.prog 206 [(0, 1), (1, 1), (2, 1)] := ⟨fun w => ⟨_, Tryz.underlying206, run_places w _ _ (by kernel_rfl)⟩⟩
instance : Fld Tryz.prog 206 0 0 := mk_fld Tryz.underlying206 rfl (inf9).pos rfl
instance : Fld Tryz.prog 206 1 1 := mk_fld Tryz.underlying206 rfl (inf9).pos rfl
instance inf207 : Inf Tryz.prog 207 3 48 (.agg #[(.string ⟨#[]⟩), (.string ⟨#[]⟩), .nilIface]) := ⟨by kernel_rfl⟩
instance : Agg Tryz.prog 207 true := ⟨fun w => by simp [isAgg, run_underlying Tryz.underlying207]⟩
instance : Plc Tryz.prog 207 [(0, 1), (1, 1), (2, 1)] := ⟨fun w => ⟨_, Tryz.underlying207, run_places w _ _ (by kernel_rfl)⟩⟩
instance : Fld Tryz.prog 207 0 0 := mk_fld Tryz.underlying207 rfl (inf9).pos rfl
instance : Fld Tryz.prog 207 1 1 := mk_fld Tryz.underlying207 rfl (inf9).pos rfl
instance inf225 : Inf Tryz.prog 225 24 24 (.agg #[(.int .u8 0), (.int .u8 0), (.int .u8 0), (.int .u8 0), (.int .u8 0), (.int .u8 0), (.int .u8 0), (.int .u8 0), (.int .u8 0), (.int .u8 0), (.int .u8 0), (.int .u8 0), (.int .u8 0), (.int .u8 0), (.int .u8 0), (.int .u8 0), (.int .u8 0), (.int .u8 0), (.int .u8 0), (.int .u8 0), (.int .u8 0), (.int .u8 0), (.int .u8 0), (.int .u8 0)]) := ⟨by kernel_rfl⟩
instance : Agg Tryz.prog 225 true := ⟨fun w => by simp [isAgg, run_underlying Tryz.underlying225]⟩
instance : Und Tryz.prog 230 (.int .u32) := ⟨by kernel_rfl⟩
instance inf230 : Inf Tryz.prog 230 1 4 (.int .u32 0) := ⟨by kernel_rfl⟩
instance : Agg Tryz.prog 230 false := ⟨fun w => by simp [isAgg, run_underlying Tryz.underlying230]⟩
instance : Und Tryz.prog 234 (.pointer 5) := ⟨by kernel_rfl⟩
instance inf234 : Inf Tryz.prog 234 1 8 (.pointer none) := ⟨by kernel_rfl⟩
instance : Agg Tryz.prog 234 false := ⟨fun w => by simp [isAgg, run_underlying Tryz.underlying234]⟩
instance : Und Tryz.prog 235 (.pointer 237) := ⟨by kernel_rfl⟩
instance inf235 : Inf Tryz.prog 235 1 8 (.pointer none) := ⟨by kernel_rfl⟩
instance : Agg Tryz.prog 235 false := ⟨fun w => by simp [isAgg, run_underlying Tryz.underlying235]⟩
instance inf236 : Inf Tryz.prog 236 1 16 (.agg #[(.string ⟨#[]⟩)]) := ⟨by kernel_rfl⟩
instance : Agg Tryz.prog 236 true := ⟨fun w => by simp [isAgg, run_underlying Tryz.underlying236]⟩
instance : Plc Tryz.prog 236 [(0, 1)] := ⟨fun w => ⟨_, Tryz.underlying236, run_places w _ _ (by kernel_rfl)⟩⟩
instance : Fld Tryz.prog 236 0 0 := mk_fld Tryz.underlying236 rfl (inf9).pos rfl
instance inf237 : Inf Tryz.prog 237 1 16 (.agg #[(.string ⟨#[]⟩)]) := ⟨by kernel_rfl⟩
instance : Agg Tryz.prog 237 true := ⟨fun w => by simp [isAgg, run_underlying Tryz.underlying237]⟩
instance : Plc Tryz.prog 237 [(0, 1)] := ⟨fun w => ⟨_, Tryz.underlying237, run_places w _ _ (by kernel_rfl)⟩⟩
instance : Fld Tryz.prog 237 0 0 := mk_fld Tryz.underlying237 rfl (inf9).pos rfl
instance inf240 : Inf Tryz.prog 240 16 256 (.agg #[(.string ⟨#[]⟩), (.string ⟨#[]⟩), (.string ⟨#[]⟩), (.string ⟨#[]⟩), (.string ⟨#[]⟩), (.string ⟨#[]⟩), (.string ⟨#[]⟩), (.string ⟨#[]⟩), (.string ⟨#[]⟩), (.string ⟨#[]⟩), (.string ⟨#[]⟩), (.string ⟨#[]⟩), (.string ⟨#[]⟩), (.string ⟨#[]⟩), (.string ⟨#[]⟩), (.string ⟨#[]⟩)]) := ⟨by kernel_rfl⟩
instance : Agg Tryz.prog 240 true := ⟨fun w => by simp [isAgg, run_underlying Tryz.underlying240]⟩
instance inf243 : Inf Tryz.prog 243 7 112 (.agg #[(.string ⟨#[]⟩), (.string ⟨#[]⟩), (.string ⟨#[]⟩), (.string ⟨#[]⟩), (.string ⟨#[]⟩), (.string ⟨#[]⟩), (.string ⟨#[]⟩)]) := ⟨by kernel_rfl⟩
instance : Agg Tryz.prog 243 true := ⟨fun w => by simp [isAgg, run_underlying Tryz.underlying243]⟩
instance inf246 : Inf Tryz.prog 246 20 160 (.agg #[(.int .u64 0), (.int .u64 0), (.int .u64 0), (.int .u64 0), (.int .u64 0), (.int .u64 0), (.int .u64 0), (.int .u64 0), (.int .u64 0), (.int .u64 0), (.int .u64 0), (.int .u64 0), (.int .u64 0), (.int .u64 0), (.int .u64 0), (.int .u64 0), (.int .u64 0), (.int .u64 0), (.int .u64 0), (.int .u64 0)]) := ⟨by kernel_rfl⟩
instance : Agg Tryz.prog 246 true := ⟨fun w => by simp [isAgg, run_underlying Tryz.underlying246]⟩
instance inf247 : Inf Tryz.prog 247 65 65 (.agg #[(.int .u8 0), (.int .u8 0), (.int .u8 0), (.int .u8 0), (.int .u8 0), (.int .u8 0), (.int .u8 0), (.int .u8 0), (.int .u8 0), (.int .u8 0), (.int .u8 0), (.int .u8 0), (.int .u8 0), (.int .u8 0), (.int .u8 0), (.int .u8 0), (.int .u8 0), (.int .u8 0), (.int .u8 0), (.int .u8 0), (.int .u8 0), (.int .u8 0), (.int .u8 0), (.int .u8 0), (.int .u8 0), (.int .u8 0), (.int .u8 0), (.int .u8 0), (.int .u8 0), (.int .u8 0), (.int .u8 0), (.int .u8 0), (.int .u8 0), (.int .u8 0), (.int .u8 0), (.int .u8 0), (.int .u8 0), (.int .u8 0), (.int .u8 0), (.int .u8 0), (.int .u8 0), (.int .u8 0), (.int .u8 0), (.int .u8 0), (.int .u8 0), (.int .u8 0), (.int .u8 0), (.int .u8 0), (.int .u8 0), (.int .u8 0), (.int .u8 0), (.int .u8 0), (.int .u8 0), (.int .u8 0), (.int .u8 0), (.int .u8 0), (.int .u8 0), (.int .u8 0), (.int .u8 0), (.int .u8 0), (.int .u8 0), (.int .u8 0), (.int .u8 0), (.int .u8 0), (.int .u8 0)]) := ⟨by kernel_rfl⟩
instance : Agg Tryz.prog 247 true := ⟨fun w => by simp [isAgg, run_underlying Tryz.underlying247]⟩
instance inf255 : Inf Tryz.prog 255 32 32 (.agg #[(.int .u8 0), (.int .u8 0), (.int .u8 0), (.int .u8 0), (.int .u8 0), (.int .u8 0), (.int .u8 0), (.int .u8 0), (.int .u8 0), (.int .u8 0), (.int .u8 0), (.int .u8 0), (.int .u8 0), (.int .u8 0), (.int .u8 0), (.int .u8 0), (.int .u8 0), (.int .u8 0), (.int .u8 0), (.int .u8 0), (.int .u8 0), (.int .u8 0), (.int .u8 0), (.int .u8 0), (.int .u8 0), (.int .u8 0), (.int .u8 0), (.int .u8 0), (.int .u8 0), (.int .u8 0), (.int .u8 0), (.int .u8 0)]) := ⟨by kernel_rfl⟩
instance : Agg Tryz.prog 255 true := ⟨fun w => by simp [isAgg, run_underlying Tryz.underlying255]⟩
instance inf256 : Inf Tryz.prog 256 64 64 (.agg #[(.int .u8 0), (.int .u8 0), (.int .u8 0), (.int .u8 0), (.int .u8 0), (.int .u8 0), (.int .u8 0), (.int .u8 0), (.int .u8 0), (.int .u8 0), (.int .u8 0), (.int .u8 0), (.int .u8 0), (.int .u8 0), (.int .u8 0), (.int .u8 0), (.int .u8 0), (.int .u8 0), (.int .u8 0), (.int .u8 0), (.int .u8 0), (.int .u8 0), (.int .u8 0), (.int .u8 0), (.int .u8 0), (.int .u8 0), (.int .u8 0), (.int .u8 0), (.int .u8 0), (.int .u8 0), (.int .u8 0), (.int .u8 0), (.int .u8 0), (.int .u8 0), (.int .u8 0), (.int .u8 0), (.int .u8 0), (.int .u8 0), (.int .u8 0), (.int .u8 0), (.int .u8 0), (.int .u8 0), (.int .u8 0), (.int .u8 0), (.int .u8 0), (.int .u8 0), (.int .u8 0), (.int .u8 0), (.int .u8 0), (.int .u8 0), (.int .u8 0), (.int .u8 0), (.int .u8 0), (.int .u8 0), (.int .u8 0), (.int .u8 0), (.int .u8 0), (.int .u8 0), (.int .u8 0), (.int .u8 0), (.int .u8 0), (.int .u8 0), (.int .u8 0), (.int .u8 0)]) := ⟨by kernel_rfl⟩
instance : Agg Tryz.prog 256 true := ⟨fun w => by simp [isAgg, run_underlying Tryz.underlying256]⟩
instance inf258 : Inf Tryz.prog 258 2 2 (.agg #[(.int .u8 0), (.int .u8 0)]) := ⟨by kernel_rfl⟩
instance : Agg Tryz.prog 258 true := ⟨fun w => by simp [isAgg, run_underlying Tryz.underlying258]⟩
instance : Plc Tryz.prog 258 [(0, 1), (1, 1)] := ⟨fun w => ⟨_, Tryz.underlying258, run_places w _ _ (by kernel_rfl)⟩⟩
instance : Fld Tryz.prog 258 0 0 := mk_fld Tryz.underlying258 rfl (inf5).pos rfl
instance : Fld Tryz.prog 258 1 1 := mk_fld Tryz.underlying258 rfl (inf5).pos rfl
instance inf259 : Inf Tryz.prog 259 2 2 (.agg #[(.int .u8 0), (.int .u8 0)]) := ⟨by kernel_rfl⟩
instance : Agg Tryz.prog 259 true := ⟨fun w => by simp [isAgg, run_underlying Tryz.underlying259]⟩
instance : Plc Tryz.prog 259 [(0, 1), (1, 1)] := ⟨fun w => ⟨_, Tryz.underlying259, run_places w _ _ (by kernel_rfl)⟩⟩
instance : Fld Tryz.prog 259 0 0 := mk_fld Tryz.underlying259 rfl (inf5).pos rfl
instance : Fld Tryz.prog 259 1 1 := mk_fld Tryz.underlying259 rfl (inf5).pos rfl
instance inf260 : Inf Tryz.prog 260 32 32 (.agg #[(.int .u8 0), (.int .u8 0), (.int .u8 0), (.int .u8 0), (.int .u8 0), (.int .u8 0), (.int .u8 0), (.int .u8 0), (.int .u8 0), (.int .u8 0), (.int .u8 0), (.int .u8 0), (.int .u8 0), (.int .u8 0), (.int .u8 0), (.int .u8 0), (.int .u8 0), (.int .u8 0), (.int .u8 0), (.int .u8 0), (.int .u8 0), (.int .u8 0), (.int .u8 0), (.int .u8 0), (.int .u8 0), (.int .u8 0), (.int .u8 0), (.int .u8 0), (.int .u8 0), (.int .u8 0), (.int .u8 0), (.int .u8 0)]) := ⟨by kernel_rfl⟩
instance : Agg Tryz.prog 260 true := ⟨fun w => by simp [isAgg, run_underlying Tryz.underlying260]⟩
instance inf262 : Inf Tryz.prog 262 4 40 (.agg #[(.pointer none), (.pointer none), (.pointer none), (.string ⟨#[]⟩)]) := ⟨by kernel_rfl⟩
instance : Agg Tryz.prog 262 true := ⟨fun w => by simp [isAgg, run_underlying Tryz.underlying262]⟩
instance : Plc Tryz.prog 262 [(0, 1), (1, 1), (2, 1), (3, 1)] := ⟨fun w => ⟨_, Tryz.underlying262, run_places w _ _ (by kernel_rfl)⟩⟩
instance : Fld Tryz.prog 262 0 0 := mk_fld Tryz.underlying262 rfl (inf17).pos rfl
instance : Fld Tryz.prog 262 1 1 := mk_fld Tryz.underlying262 rfl (inf17).pos rfl
instance : Fld Tryz.prog 262 2 2 := mk_fld Tryz.underlying262 rfl (inf17).pos rfl
instance : Fld Tryz.prog 262 3 3 := mk_fld Tryz.underlying262 rfl (inf9).pos rfl
instance inf263 : Inf Tryz.prog 263 4 40 (.agg #[(.pointer none), (.pointer none), (.pointer none), (.string ⟨#[]⟩)]) := ⟨by kernel_rfl⟩
instance : Agg Tryz.prog 263 true := ⟨fun w => by simp [isAgg, run_underlying Tryz.underlying263]⟩
instance : Plc Tryz.prog 263 [(0, 1), (1, 1), (2, 1), (3, 1)] := ⟨fun w => ⟨_, Tryz.underlying263, run_places w _ _ (by kernel_rfl)⟩⟩
instance : Fld Tryz.prog 263 0 0 := mk_fld Tryz.underlying263 rfl (inf17).pos rfl
instance : Fld Tryz.prog 263 1 1 := mk_fld Tryz.underlying263 rfl (inf17).pos rfl
instance : Fld Tryz.prog 263 2 2 := mk_fld Tryz.underlying263 rfl (inf17).pos rfl
instance : Fld Tryz.prog 263 3 3 := mk_fld Tryz.underlying263 rfl (inf9).pos rfl
instance inf264 : Inf Tryz.prog 264 0 0 (.agg #[]) := ⟨by kernel_rfl⟩
instance : Agg Tryz.prog 264 true := ⟨fun w => by simp [isAgg, run_underlying Tryz.underlying264]⟩
instance inf265 : Inf Tryz.prog 265 0 0 (.agg #[]) := ⟨by kernel_rfl⟩
instance : Agg Tryz.prog 265 true := ⟨fun w => by simp [isAgg, run_underlying Tryz.underlying265]⟩
instance : Plc Tryz.prog 265 [(0, 0)] := ⟨fun w => ⟨_, Tryz.underlying265, run_places w _ _ (by kernel_rfl)⟩⟩
instance inf266 : Inf Tryz.prog 266 0 0 (.agg #[]) := ⟨by kernel_rfl⟩
instance : Agg Tryz.prog 266 true := ⟨fun w => by simp [isAgg, run_underlying Tryz.underlying266]⟩
instance : Plc Tryz.prog 266 [(0, 0)] := ⟨fun w => ⟨_, Tryz.underlying266, run_places w _ _ (by kernel_rfl)⟩⟩
instance : Und Tryz.prog 267 (.int .u8) := ⟨by kernel_rfl⟩
instance inf267 : Inf Tryz.prog 267 1 1 (.int .u8 0) := ⟨by kernel_rfl⟩
instance : Agg Tryz.prog 267 false := ⟨fun w => by simp [isAgg, run_underlying Tryz.underlying267]⟩
instance : Und Tryz.prog 268 (.int .u8) := ⟨by kernel_rfl⟩
instance inf268 : Inf Tryz.prog 268 1 1 (.int .u8 0) := ⟨by kernel_rfl⟩
instance : Agg Tryz.prog 268 false := ⟨fun w => by simp [isAgg, run_underlying Tryz.underlying268]⟩
instance : Und Tryz.prog 270 (.int .i32) := ⟨by kernel_rfl⟩
instance inf270 : Inf Tryz.prog 270 1 4 (.int .i32 0) := ⟨by kernel_rfl⟩
instance : Agg Tryz.prog 270 false := ⟨fun w => by simp [isAgg, run_underlying Tryz.underlying270]⟩
instance : Und Tryz.prog 271 (.int .i32) := ⟨by kernel_rfl⟩
instance inf271 : Inf Tryz.prog 271 1 4 (.int .i32 0) := ⟨by kernel_rfl⟩
instance : Agg Tryz.prog 271 false := ⟨fun w => by simp [isAgg, run_underlying Tryz.underlying271]⟩
instance inf272 : Inf Tryz.prog 272 11 48 (.agg #[(.int .u64 0), (.int .u64 0), (.int .u32 0), (.int .u8 0), (.int .u8 0), (.int .u8 0), (.int .u8 0), .nilFunc, (.pointer none), (.int .i32 0), (.int .i32 0)]) := ⟨by kernel_rfl⟩
instance : Agg Tryz.prog 272 true := ⟨fun w => by simp [isAgg, run_underlying Tryz.underlying272]⟩
instance : Plc Tryz.prog 272 [(0, 1), (1, 1), (2, 1), (3, 1), (4, 1), (5, 1), (6, 1), (7, 1), (8, 1), (9, 1), (10, 1)] := ⟨fun w => ⟨_, Tryz.underlying272, run_places w _ _ (by kernel_rfl)⟩⟩
instance : Fld Tryz.prog 272 0 0 := mk_fld Tryz.underlying272 rfl (inf12).pos rfl
instance : Fld Tryz.prog 272 1 1 := mk_fld Tryz.underlying272 rfl (inf12).pos rfl
instance : Fld Tryz.prog 272 2 2 := mk_fld Tryz.underlying272 rfl (inf230).pos rfl
instance : Fld Tryz.prog 272 3 3 := mk_fld Tryz.underlying272 rfl (inf267).pos rfl
instance : Fld Tryz.prog 272 4 4 := mk_fld Tryz.underlying272 rfl (inf5).pos rfl
instance : Fld Tryz.prog 272 5 5 := mk_fld Tryz.underlying272 rfl (inf5).pos rfl
instance : Fld Tryz.prog 272 6 6 := mk_fld Tryz.underlying272 rfl (inf268).pos rfl
instance : Fld Tryz.prog 272 8 8 := mk_fld Tryz.underlying272 rfl (inf234).pos rfl
instance : Fld Tryz.prog 272 9 9 := mk_fld Tryz.underlying272 rfl (inf270).pos rfl
instance : Fld Tryz.prog 272 10 10 := mk_fld Tryz.underlying272 rfl (inf271).pos rfl
instance inf273 : Inf Tryz.prog 273 11 48 (.agg #[(.int .u64 0), (.int .u64 0), (.int .u32 0), (.int .u8 0), (.int .u8 0), (.int .u8 0), (.int .u8 0), .nilFunc, (.pointer none), (.int .i32 0), (.int .i32 0)]) := ⟨by kernel_rfl⟩
instance : Agg Tryz.prog 273 true := ⟨fun w => by simp [isAgg, run_underlying Tryz.underlying273]⟩
instance : Plc Tryz.prog 273 [(0, 1), (1, 1), (2, 1), (3, 1), (4, 1), (5, 1), (6, 1), (7, 1), (8, 1), (9, 1), (10, 1)] := ⟨fun w => ⟨_, Tryz.underlying273, run_places w _ _ (by kernel_rfl)⟩⟩
instance : Fld Tryz.prog 273 0 0 := mk_fld Tryz.underlying273 rfl (inf12).pos rfl
instance : Fld Tryz.prog 273 1 1 := mk_fld Tryz.underlying273 rfl (inf12).pos rfl
instance : Fld Tryz.prog 273 2 2 := mk_fld Tryz.underlying273 rfl (inf230).pos rfl
instance : Fld Tryz.prog 273 3 3 := mk_fld Tryz.underlying273 rfl (inf267).pos rfl
instance : Fld Tryz.prog 273 4 4 := mk_fld Tryz.underlying273 rfl (inf5).pos rfl
instance : Fld Tryz.prog 273 5 5 := mk_fld Tryz.underlying273 rfl (inf5).pos rfl
instance : Fld Tryz.prog 273 6 6 := mk_fld Tryz.underlying273 rfl (inf268).pos rfl
instance : Fld Tryz.prog 273 8 8 := mk_fld Tryz.underlying273 rfl (inf234).pos rfl
instance : Fld Tryz.prog 273 9 9 := mk_fld Tryz.underlying273 rfl (inf270).pos rfl
instance : Fld Tryz.prog 273 10 10 := mk_fld Tryz.underlying273 rfl (inf271).pos rfl
-- 3: treadle/treadlelaw18.CodeStates
instance : Body Tryz.prog 3 := mk_body Tryz.func3 (by decide) rfl
-- 4: treadle/treadlelaw18.CodeWays
instance : Body Tryz.prog 4 := mk_body Tryz.func4 (by decide) rfl
-- 5: treadle/treadlelaw18.CodeNames
instance : Body Tryz.prog 5 := mk_body Tryz.func5 (by decide) rfl
-- 6: treadle/treadlelaw18.CodeLines
instance : Body Tryz.prog 6 := mk_body Tryz.func6 (by decide) rfl
-- 7: treadle/treadlelaw18.CodeBytes
instance : Body Tryz.prog 7 := mk_body Tryz.func7 (by decide) rfl
-- 8: treadle/treadlelaw18.CodeParses
instance : Body Tryz.prog 8 := mk_body Tryz.func8 (by decide) rfl
-- 9: treadle/treadlelaw18.CodeReads
instance : Body Tryz.prog 9 := mk_body Tryz.func9 (by decide) rfl
-- 10: treadle/treadlelaw18.CodeText
instance : Body Tryz.prog 10 := mk_body Tryz.func10 (by decide) rfl
-- 11: treadle/treadlelaw18.CodeBack
instance : Body Tryz.prog 11 := mk_body Tryz.func11 (by decide) rfl
-- 12: treadle/treadlelaw18.CodeOwn
instance : Body Tryz.prog 12 := mk_body Tryz.func12 (by decide) rfl
-- 13: treadle/code.Heights
instance : Body Tryz.prog 13 := mk_body Tryz.func13 (by decide) rfl
-- 14: treadle/treadleref18.Heights
instance : Body Tryz.prog 14 := mk_body Tryz.func14 (by decide) rfl
-- 15: treadle/code.Types
instance : Body Tryz.prog 15 := mk_body Tryz.func15 (by decide) rfl
-- 16: treadle/treadleref18.Types
instance : Body Tryz.prog 16 := mk_body Tryz.func16 (by decide) rfl
-- 17: treadle/treadlelaw18.sameTypes
instance : Body Tryz.prog 17 := mk_body Tryz.func17 (by decide) rfl
-- 18: treadle/treadlelaw18.awake
instance : Body Tryz.prog 18 := mk_body Tryz.func18 (by decide) rfl
-- 19: treadle/code.Object
instance : Body Tryz.prog 19 := mk_body Tryz.func19 (by decide) rfl
-- 20: treadle/treadlelaw18.fits
instance : Body Tryz.prog 20 := mk_body Tryz.func20 (by decide) rfl
-- 21: treadle/treadlelaw18.does
instance : Body Tryz.prog 21 := mk_body Tryz.func21 (by decide) rfl
-- 22: treadle/code.Name
instance : Body Tryz.prog 22 := mk_body Tryz.func22 (by decide) rfl
-- 23: treadle/treadleref18.Name
instance : Body Tryz.prog 23 := mk_body Tryz.func23 (by decide) rfl
-- 24: treadle/code.Find
instance : Body Tryz.prog 24 := mk_body Tryz.func24 (by decide) rfl
-- 25: treadle/treadleref18.Find
instance : Body Tryz.prog 25 := mk_body Tryz.func25 (by decide) rfl
-- 26: treadle/code.Lines
instance : Body Tryz.prog 26 := mk_body Tryz.func26 (by decide) rfl
-- 27: treadle/treadleref18.Lines
instance : Body Tryz.prog 27 := mk_body Tryz.func27 (by decide) rfl
-- 28: treadle/treadlelaw18.sameTexts
instance : Body Tryz.prog 28 := mk_body Tryz.func28 (by decide) rfl
-- 29: treadle/code.Bytes
instance : Body Tryz.prog 29 := mk_body Tryz.func29 (by decide) rfl
-- 30: treadle/treadleref18.Bytes
instance : Body Tryz.prog 30 := mk_body Tryz.func30 (by decide) rfl
-- 31: treadle/treadlelaw18.sameBytes
instance : Body Tryz.prog 31 := mk_body Tryz.func31 (by decide) rfl
-- 32: treadle/treadlelaw18.sameInstrs
instance : Body Tryz.prog 32 := mk_body Tryz.func32 (by decide) rfl
-- 33: treadle/code.Parse
instance : Body Tryz.prog 33 := mk_body Tryz.func33 (by decide) rfl
-- 34: treadle/treadleref18.Parse
instance : Body Tryz.prog 34 := mk_body Tryz.func34 (by decide) rfl
-- 35: treadle/code.Read
instance : Body Tryz.prog 35 := mk_body Tryz.func35 (by decide) rfl
-- 36: treadle/treadleref18.Read
instance : Body Tryz.prog 36 := mk_body Tryz.func36 (by decide) rfl
-- 37: treadle/code.find
instance : Body Tryz.prog 37 := mk_body Tryz.func37 (by decide) rfl
-- 38: treadle/treadleref18.asked
instance : Body Tryz.prog 38 := mk_body Tryz.func38 (by decide) rfl
-- 39: (treadle/code.state).copied
instance : Body Tryz.prog 39 := mk_body Tryz.func39 (by decide) rfl
-- 40: treadle/treadlelaw18.small
instance : Body Tryz.prog 40 := mk_body Tryz.func40 (by decide) rfl
-- 41: treadle/code.object
instance : Body Tryz.prog 41 := mk_body Tryz.func41 (by decide) rfl
-- 42: (*treadle/code.world).all
instance : Body Tryz.prog 42 := mk_body Tryz.func42 (by decide) rfl
-- 43: treadle/treadlelaw18.pops
instance : Body Tryz.prog 43 := mk_body Tryz.func43 (by decide) rfl
-- 44: treadle/treadlelaw18.typed
instance : Body Tryz.prog 44 := mk_body Tryz.func44 (by decide) rfl
-- 45: treadle/code.rowOf
instance : Body Tryz.prog 45 := mk_body Tryz.func45 (by decide) rfl
-- 46: treadle/treadleref18.is
instance : Body Tryz.prog 46 := mk_body Tryz.func46 (by decide) rfl
-- 47: treadle/treadleref18.names
instance : Body Tryz.prog 47 := mk_body Tryz.func47 (by decide) rfl
-- 48: treadle/code.may
instance : Body Tryz.prog 48 := mk_body Tryz.func48 (by decide) rfl
-- 49: treadle/code.line
instance : Body Tryz.prog 49 := mk_body Tryz.func49 (by decide) rfl
-- 50: treadle/treadleref18.lone
instance : Body Tryz.prog 50 := mk_body Tryz.func50 (by decide) rfl
-- 51: treadle/treadleref18.Numbered
instance : Body Tryz.prog 51 := mk_body Tryz.func51 (by decide) rfl
-- 52: treadle/treadleref18.decimal
instance : Body Tryz.prog 52 := mk_body Tryz.func52 (by decide) rfl
-- 53: treadle/wire.PutUint
instance : Body Tryz.prog 53 := mk_body Tryz.func53 (by decide) rfl
-- 54: treadle/treadleref01.Uint
instance : Body Tryz.prog 54 := mk_body Tryz.func54 (by decide) rfl
-- 55: strings.Cut
instance : Body Tryz.prog 55 := mk_body Tryz.func55 (by decide) rfl
-- 56: strconv.Atoi
instance : Body Tryz.prog 56 := mk_body Tryz.func56 (by decide) rfl
-- 57: treadle/treadleref18.digits
instance : Body Tryz.prog 57 := mk_body Tryz.func57 (by decide) rfl
-- 58: treadle/wire.NewReader
instance : Body Tryz.prog 58 := mk_body Tryz.func58 (by decide) rfl
-- 59: (*treadle/wire.Reader).Count
instance : Body Tryz.prog 59 := mk_body Tryz.func59 (by decide) rfl
-- 60: (*treadle/wire.Reader).At
instance : Body Tryz.prog 60 := mk_body Tryz.func60 (by decide) rfl
-- 61: (*treadle/wire.Reader).Byte
instance : Body Tryz.prog 61 := mk_body Tryz.func61 (by decide) rfl
-- 62: (*treadle/wire.Reader).Fault
instance : Body Tryz.prog 62 := mk_body Tryz.func62 (by decide) rfl
-- 63: (*treadle/wire.Reader).End
instance : Body Tryz.prog 63 := mk_body Tryz.func63 (by decide) rfl
-- 64: treadle/treadleref01.New
instance : Body Tryz.prog 64 := mk_body Tryz.func64 (by decide) rfl
-- 65: treadle/treadleref18.ReadFrom
instance : Body Tryz.prog 65 := mk_body Tryz.func65 (by decide) rfl
-- 66: (*treadle/treadleref01.Reader).End
instance : Body Tryz.prog 66 := mk_body Tryz.func66 (by decide) rfl
-- 67: (*treadle/code.world).flow
instance : Body Tryz.prog 67 := mk_body Tryz.func67 (by decide) rfl
-- 68: treadle/treadleref18.Object
instance : Body Tryz.prog 68 := mk_body Tryz.func68 (by decide) rfl
-- 69: treadle/treadleref18.States
instance : Body Tryz.prog 69 := mk_body Tryz.func69 (by decide) rfl
-- 70: slices.Clone[[]treadle/api.Type,treadle/api.Type]
instance : Body Tryz.prog 70 := mk_body Tryz.func70 (by decide) rfl
-- 71: treadle/code.file
instance : Body Tryz.prog 71 := mk_body Tryz.func71 (by decide) rfl
-- 72: treadle/code.values
instance : Body Tryz.prog 72 := mk_body Tryz.func72 (by decide) rfl
-- 73: treadle/lex.Word
instance : Body Tryz.prog 73 := mk_body Tryz.func73 (by decide) rfl
-- 74: treadle/code.head
instance : Body Tryz.prog 74 := mk_body Tryz.func74 (by decide) rfl
-- 75: treadle/code.proc
instance : Body Tryz.prog 75 := mk_body Tryz.func75 (by decide) rfl
-- 76: (*treadle/code.world).alone
instance : Body Tryz.prog 76 := mk_body Tryz.func76 (by decide) rfl
-- 77: (*treadle/code.flow).wrong
instance : Body Tryz.prog 77 := mk_body Tryz.func77 (by decide) rfl
-- 78: strconv.Itoa
instance : Body Tryz.prog 78 := mk_body Tryz.func78 (by decide) rfl
-- 79: treadle/wire.short
instance : Body Tryz.prog 79 := mk_body Tryz.func79 (by decide) rfl
-- 80: treadle/wire.fresh
instance : Body Tryz.prog 80 := mk_body Tryz.func80 (by decide) rfl
-- 81: internal/stringslite.Cut
instance : Body Tryz.prog 81 := mk_body Tryz.func81 (by decide) rfl
-- 82: internal/strconv.Atoi
instance : Body Tryz.prog 82 := mk_body Tryz.func82 (by decide) rfl
-- 83: strconv.toError
instance : Body Tryz.prog 83 := mk_body Tryz.func83 (by decide) rfl
-- 84: (*treadle/wire.Reader).well
instance : Body Tryz.prog 84 := mk_body Tryz.func84 (by decide) rfl
-- 85: (*treadle/wire.Reader).fails
instance : Body Tryz.prog 85 := mk_body Tryz.func85 (by decide) rfl
-- 86: (*treadle/wire.Reader).number
instance : Body Tryz.prog 86 := mk_body Tryz.func86 (by decide) rfl
-- 87: (*treadle/wire.tape).left
instance : Body Tryz.prog 87 := mk_body Tryz.func87 (by decide) rfl
-- 88: (*treadle/treadleref01.Reader).Count
instance : Body Tryz.prog 88 := mk_body Tryz.func88 (by decide) rfl
-- 89: (*treadle/treadleref01.Reader).Byte
instance : Body Tryz.prog 89 := mk_body Tryz.func89 (by decide) rfl
-- 90: (*treadle/treadleref01.Reader).Fail
instance : Body Tryz.prog 90 := mk_body Tryz.func90 (by decide) rfl
-- 91: (*treadle/treadleref01.Reader).fail
instance : Body Tryz.prog 91 := mk_body Tryz.func91 (by decide) rfl
-- 92: (*treadle/code.flow).behind
instance : Body Tryz.prog 92 := mk_body Tryz.func92 (by decide) rfl
-- 93: treadle/code.next
instance : Body Tryz.prog 93 := mk_body Tryz.func93 (by decide) rfl
-- 94: treadle/code.joined
instance : Body Tryz.prog 94 := mk_body Tryz.func94 (by decide) rfl
-- 95: treadle/code.same
instance : Body Tryz.prog 95 := mk_body Tryz.func95 (by decide) rfl
-- 96: treadle/treadleref18.place
instance : Body Tryz.prog 96 := mk_body Tryz.func96 (by decide) rfl
-- 97: treadle/treadleref18.Value
instance : Body Tryz.prog 97 := mk_body Tryz.func97 (by decide) rfl
-- 98: treadle/treadleref12.Word
instance : Body Tryz.prog 98 := mk_body Tryz.func98 (by decide) rfl
-- 99: treadle/treadleref18.head
instance : Body Tryz.prog 99 := mk_body Tryz.func99 (by decide) rfl
-- 100: treadle/treadleref18.proc
instance : Body Tryz.prog 100 := mk_body Tryz.func100 (by decide) rfl
-- 101: treadle/treadleref18.behind
instance : Body Tryz.prog 101 := mk_body Tryz.func101 (by decide) rfl
-- 102: treadle/treadleref18.onwards
instance : Body Tryz.prog 102 := mk_body Tryz.func102 (by decide) rfl
-- 103: treadle/treadleref18.join
instance : Body Tryz.prog 103 := mk_body Tryz.func103 (by decide) rfl
-- 104: treadle/treadleref18.alike
instance : Body Tryz.prog 104 := mk_body Tryz.func104 (by decide) rfl
-- 105: treadle/path.Check
instance : Body Tryz.prog 105 := mk_body Tryz.func105 (by decide) rfl
-- 106: treadle/code.value
instance : Body Tryz.prog 106 := mk_body Tryz.func106 (by decide) rfl
-- 107: treadle/lex.just
instance : Body Tryz.prog 107 := mk_body Tryz.func107 (by decide) rfl
-- 108: treadle/code.typed
instance : Body Tryz.prog 108 := mk_body Tryz.func108 (by decide) rfl
-- 109: (*treadle/code.flow).at
instance : Body Tryz.prog 109 := mk_body Tryz.func109 (by decide) rfl
-- 110: internal/strconv.Itoa
instance : Body Tryz.prog 110 := mk_body Tryz.func110 (by decide) rfl
-- 111: internal/stringslite.Index
instance : Body Tryz.prog 111 := mk_body Tryz.func111 (by decide) rfl
-- 112: internal/strconv.ParseInt
instance : Body Tryz.prog 112 := mk_body Tryz.func112 (by decide) rfl
-- 113: strconv.syntaxError
instance : Body Tryz.prog 113 := mk_body Tryz.func113 (by decide) rfl
-- 114: strconv.rangeError
instance : Body Tryz.prog 114 := mk_body Tryz.func114 (by decide) rfl
-- 115: strconv.baseError
instance : Body Tryz.prog 115 := mk_body Tryz.func115 (by decide) rfl
-- 116: strconv.bitSizeError
instance : Body Tryz.prog 116 := mk_body Tryz.func116 (by decide) rfl
-- 117: (*treadle/treadleref01.Reader).Uint
instance : Body Tryz.prog 117 := mk_body Tryz.func117 (by decide) rfl
-- 118: (*treadle/treadleref01.Reader).Raw
instance : Body Tryz.prog 118 := mk_body Tryz.func118 (by decide) rfl
-- 119: (*treadle/code.flow).effect
instance : Body Tryz.prog 119 := mk_body Tryz.func119 (by decide) rfl
-- 120: treadle/code.joinRow
instance : Body Tryz.prog 120 := mk_body Tryz.func120 (by decide) rfl
-- 121: slices.Equal[[]treadle/api.Type,treadle/api.Type]
instance : Body Tryz.prog 121 := mk_body Tryz.func121 (by decide) rfl
-- 122: treadle/treadleref04.Path
instance : Body Tryz.prog 122 := mk_body Tryz.func122 (by decide) rfl
-- 123: treadle/treadleref12.name
instance : Body Tryz.prog 123 := mk_body Tryz.func123 (by decide) rfl
-- 124: treadle/treadleref12.Key
instance : Body Tryz.prog 124 := mk_body Tryz.func124 (by decide) rfl
-- 125: treadle/treadleref18.itself
instance : Body Tryz.prog 125 := mk_body Tryz.func125 (by decide) rfl
-- 126: treadle/treadleref18.met
instance : Body Tryz.prog 126 := mk_body Tryz.func126 (by decide) rfl
-- 127: treadle/treadleref18.effect
instance : Body Tryz.prog 127 := mk_body Tryz.func127 (by decide) rfl
-- 128: treadle/treadleref18.joined
instance : Body Tryz.prog 128 := mk_body Tryz.func128 (by decide) rfl
-- 129: treadle/treadleref18.same
instance : Body Tryz.prog 129 := mk_body Tryz.func129 (by decide) rfl
-- 130: treadle/path.Names
instance : Body Tryz.prog 130 := mk_body Tryz.func130 (by decide) rfl
-- 131: treadle/lex.token
instance : Body Tryz.prog 131 := mk_body Tryz.func131 (by decide) rfl
-- 132: (*treadle/code.flow).kinds
instance : Body Tryz.prog 132 := mk_body Tryz.func132 (by decide) rfl
-- 133: internal/strconv.FormatInt
instance : Body Tryz.prog 133 := mk_body Tryz.func133 (by decide) rfl
-- 134: internal/stringslite.IndexByte
instance : Body Tryz.prog 134 := mk_body Tryz.func134 (by decide) rfl
-- 136: internal/bytealg.Cutover
instance : Body Tryz.prog 136 := mk_body Tryz.func136 (by decide) rfl
-- 137: internal/bytealg.IndexRabinKarp[string]
instance : Body Tryz.prog 137 := mk_body Tryz.func137 (by decide) rfl
-- 138: internal/strconv.ParseUint
instance : Body Tryz.prog 138 := mk_body Tryz.func138 (by decide) rfl
-- 139: internal/stringslite.Clone
instance : Body Tryz.prog 139 := mk_body Tryz.func139 (by decide) rfl
-- 140: errors.New
instance : Body Tryz.prog 140 := mk_body Tryz.func140 (by decide) rfl
-- 141: treadle/treadleref01.short
instance : Body Tryz.prog 141 := mk_body Tryz.func141 (by decide) rfl
-- 142: (*treadle/code.flow).effect$1
instance : Body Tryz.prog 142 := mk_body Tryz.func142 (by decide) rfl
-- 143: (*treadle/code.flow).effect$2
instance : Body Tryz.prog 143 := mk_body Tryz.func143 (by decide) rfl
-- 144: treadle/treadleref04.Names
instance : Body Tryz.prog 144 := mk_body Tryz.func144 (by decide) rfl
-- 145: treadle/treadleref12.Letter
instance : Body Tryz.prog 145 := mk_body Tryz.func145 (by decide) rfl
-- 146: treadle/treadleref12.Digit
instance : Body Tryz.prog 146 := mk_body Tryz.func146 (by decide) rfl
-- 147: treadle/treadleref12.among
instance : Body Tryz.prog 147 := mk_body Tryz.func147 (by decide) rfl
-- 148: treadle/treadleref12.keys
instance : Body Tryz.prog 148 := mk_body Tryz.func148 (by decide) rfl
-- 149: treadle/treadleref18.kinds
instance : Body Tryz.prog 149 := mk_body Tryz.func149 (by decide) rfl
-- 150: strings.Split
instance : Body Tryz.prog 150 := mk_body Tryz.func150 (by decide) rfl
-- 151: treadle/path.Name
instance : Body Tryz.prog 151 := mk_body Tryz.func151 (by decide) rfl
-- 152: treadle/lex.letter
instance : Body Tryz.prog 152 := mk_body Tryz.func152 (by decide) rfl
-- 153: treadle/lex.run
instance : Body Tryz.prog 153 := mk_body Tryz.func153 (by decide) rfl
-- 154: treadle/lex.token$1
instance : Body Tryz.prog 154 := mk_body Tryz.func154 (by decide) rfl
-- 155: treadle/lex.digit
instance : Body Tryz.prog 155 := mk_body Tryz.func155 (by decide) rfl
-- 156: treadle/lex.Key
instance : Body Tryz.prog 156 := mk_body Tryz.func156 (by decide) rfl
-- 157: treadle/lex.whole
instance : Body Tryz.prog 157 := mk_body Tryz.func157 (by decide) rfl
-- 158: treadle/lex.quoted
instance : Body Tryz.prog 158 := mk_body Tryz.func158 (by decide) rfl
-- 159: treadle/lex.sign
instance : Body Tryz.prog 159 := mk_body Tryz.func159 (by decide) rfl
-- 160: (*treadle/code.flow).kinds$1
instance : Body Tryz.prog 160 := mk_body Tryz.func160 (by decide) rfl
-- 161: internal/strconv.small
instance : Body Tryz.prog 161 := mk_body Tryz.func161 (by decide) rfl
-- 162: internal/strconv.numDigits
instance : Body Tryz.prog 162 := mk_body Tryz.func162 (by decide) rfl
-- 163: internal/strconv.formatBase10
instance : Body Tryz.prog 163 := mk_body Tryz.func163 (by decide) rfl
-- 164: internal/strconv.formatBits
instance : Body Tryz.prog 164 := mk_body Tryz.func164 (by decide) rfl
-- 166: internal/bytealg.hashStr[string]
instance : Body Tryz.prog 166 := mk_body Tryz.func166 (by decide) rfl
-- 167: internal/strconv.lower
instance : Body Tryz.prog 167 := mk_body Tryz.func167 (by decide) rfl
-- 168: internal/strconv.underscoreOK
instance : Body Tryz.prog 168 := mk_body Tryz.func168 (by decide) rfl
-- 169: treadle/treadleref04.Pieces
instance : Body Tryz.prog 169 := mk_body Tryz.func169 (by decide) rfl
-- 170: treadle/treadleref04.Name
instance : Body Tryz.prog 170 := mk_body Tryz.func170 (by decide) rfl
-- 171: strings.genSplit
instance : Body Tryz.prog 171 := mk_body Tryz.func171 (by decide) rfl
-- 172: strconv.ParseInt
instance : Body Tryz.prog 172 := mk_body Tryz.func172 (by decide) rfl
-- 173: strconv.FormatInt
instance : Body Tryz.prog 173 := mk_body Tryz.func173 (by decide) rfl
-- 174: treadle/lex.piece
instance : Body Tryz.prog 174 := mk_body Tryz.func174 (by decide) rfl
-- 175: strings.HasPrefix
instance : Body Tryz.prog 175 := mk_body Tryz.func175 (by decide) rfl
-- 176: strings.IndexByte
instance : Body Tryz.prog 176 := mk_body Tryz.func176 (by decide) rfl
-- 177: internal/strconv.log10Pow2
instance : Body Tryz.prog 177 := mk_body Tryz.func177 (by decide) rfl
-- 178: math/bits.Len64
instance : Body Tryz.prog 178 := mk_body Tryz.func178 (by decide) rfl
-- 179: internal/strconv.bool2[int]
instance : Body Tryz.prog 179 := mk_body Tryz.func179 (by decide) rfl
-- 180: internal/strconv.isPowerOfTwo
instance : Body Tryz.prog 180 := mk_body Tryz.func180 (by decide) rfl
-- 181: math/bits.TrailingZeros
instance : Body Tryz.prog 181 := mk_body Tryz.func181 (by decide) rfl
-- 182: strings.explode
instance : Body Tryz.prog 182 := mk_body Tryz.func182 (by decide) rfl
-- 183: strings.Count
instance : Body Tryz.prog 183 := mk_body Tryz.func183 (by decide) rfl
-- 184: strings.Index
instance : Body Tryz.prog 184 := mk_body Tryz.func184 (by decide) rfl
-- 185: treadle/lex.nibble
instance : Body Tryz.prog 185 := mk_body Tryz.func185 (by decide) rfl
-- 186: internal/stringslite.HasPrefix
instance : Body Tryz.prog 186 := mk_body Tryz.func186 (by decide) rfl
-- 187: math/bits.TrailingZeros32
instance : Body Tryz.prog 187 := mk_body Tryz.func187 (by decide) rfl
-- 188: math/bits.TrailingZeros64
instance : Body Tryz.prog 188 := mk_body Tryz.func188 (by decide) rfl
-- 189: unicode/utf8.RuneCountInString
instance : Body Tryz.prog 189 := mk_body Tryz.func189 (by decide) rfl
-- 190: unicode/utf8.DecodeRuneInString
instance : Body Tryz.prog 190 := mk_body Tryz.func190 (by decide) rfl
-- 192: unicode/utf8.decodeRuneInStringSlow
instance : Body Tryz.prog 192 := mk_body Tryz.func192 (by decide) rfl
-- 223: gosem.cut.vars
instance : Body Tryz.prog 223 := mk_body Tryz.func223 (by decide) rfl
theorem mixed : Tryz.prog.follows .mixedOrders = true := by kernel_rfl
end Go.Proofs.YtkmigdmdppkpoaaGreatDoor.Gb
namespace Go.Proofs.YtkmigdmdppkpoaaGreatDoor.Gb
open Go
set_option linter.unusedVariables false
set_option linter.unusedSimpArgs false

section
variable {P : Program} {Q : Exit → Act → World → Prop} {cx : Cx} {L : List (Nat × Value)} {G : Gh} {H : List Own} {K : List (Nat × Value) → Gh → List Own → Prop} {ops : Array Oper} {rest : List Oper}
  {d : Option Tmp} {ty : TypeId} {pos : String} {af : Array Edge} {gu : Option (Nat × Bool)}

/-- a list that is made -/
theorem OW.makeSlice {t e n by_ : Nat} {z : Value} {x y : Operand} {k k' : IntKind} {m : Int} (hx : ev L x = some (.int k m)) (hy : ev L y = some (.int k' m)) [hu : Und P t (.slice e)] [hi : Inf P e n by_ z] (hz : z.cells.size = n)
    (h0 : 0 ≤ m) (hb : (by_ : Int) * m ≤ 281474976710656) (h63 : m ≤ 9223372036854775807) (hd : dOk d cx.N = true)
    (kk : ∀ b x, Vec e n (some ⟨b, 0, none⟩) m.toNat m.toNat (repS m.toNat z.cells.toList) x → K (putL d (.slice (some ⟨b, 0, none⟩) m.toNat m.toNat) L) G (x :: H)) : OW P Q ⟨d, .makeSlice t x y, ty, pos, af, gu⟩ cx L G H K := by
  refine OW.gives hd fun a w st => ?_
  obtain ⟨ie, hi1, hi2, hi3, hi4⟩ := hi.info
  have hr := run_make (P := P) w t e ie z hu.h hi1 hi2 k k' m m h0 (Int.le_refl _) (by rw [hi4]; exact hb) h63
  have hc : madeCells z.cells (m.toNat * ie.size) = (repS m.toNat z.cells.toList).toArray := by unfold madeCells; rw [hi3]; exact base_repS z.cells n m.toNat hz
  rw [hc] at hr
  have hlen : (repS m.toNat z.cells.toList).length = m.toNat * n := by rw [repS_length, Array.length_toList, hz]
  refine ⟨_, _, G, _, .inl ?_, st.sat.alloc _, Stp.alloc _, kk w.heap.size (.blk w.heap.size (.cells (repS m.toNat z.cells.toList).toArray e (0, 0))) ⟨hlen, .inr ⟨_, _, rfl, rfl, Nat.le_refl _, by simp [hlen], by simp [← hlen]⟩⟩⟩
  simp only [execOp, Sem.run_bind, st.eval hx, st.eval hy, hr, Result.andThen_ok]
  rfl

/-- copied into the beginning of what is ours -/
theorem OW.copy {t t2 e sz by_ : Nat} {z : Value} {x y : Operand} {A B : Option Addr} {n cap m cy j : Nat} {cs news : List Value} {o : Own} (hx : ev L x = some (.slice A n cap)) (hy : ev L y = some (.slice B m cy)) [hu : Und P t (.slice e)] [hi : Inf P e sz by_ z]
    (hs0 : Nat.blt 0 sz = true) (hv : Vec e sz A n cap cs o) (hj : At H j o) (hr : Rds G H B news) (hl : news.length = m * sz) (h1 : news.all (·.oneCell') = true) (hmn : m ≤ n) (hd : dOk d cx.N = true)
    (k : ∀ o', Vec e sz A n cap (news ++ cs.drop (m * sz)) o' → K (putL d (goInt m) L) G (H.set j o')) :
    OW P Q ⟨d, .call { callee := .builtin .copy, args := #[x, y], argTypes := #[t, t2] }, ty, pos, af, gu⟩ cx L G H K := by
  have hsz : 0 < sz := Nat.le_of_ble_eq_true hs0
  refine OW.gives hd fun a w st => ?_
  obtain ⟨ie, hi1, hi2, hi3, hi4⟩ := hi.info
  have hu' := hu.h
  have hrun : ∀ v w', (Builtin.copy_ #[t, t2] ty #[.slice A n cap, .slice B m cy]).run P w = .ok v w' → (execOp a.eval ⟨d, .call { callee := .builtin .copy, args := #[x, y], argTypes := #[t, t2] }, ty, pos, af, gu⟩).run P w = .ok (.value v) w' := by
    intro v w' h
    simp only [execOp, resolve, invoke, builtin, Sem.run_bind, Sem.run_pure, Result.andThen_ok, List.map_toArray, List.map_cons, List.map_nil, st.eval hx, st.eval hy, h]
  by_cases hm : m = 0
  · subst hm
    have hn : news = [] := List.eq_nil_of_length_eq_zero (by simpa using hl)
    subst hn
    refine ⟨goInt 0, w, G, H, .inl (hrun _ _ ?_), st.sat, Stp.drew rfl, ?_⟩
    · cases A <;> cases B <;> simp [Builtin.copy_, run_underlying hu', sizeOf, typeInfo, hi1, Builtin.lenOf, Builtin.firstCells, storeCells, loadCells, loadCellsFrom]
    · have := k o (by simpa using hv)
      rw [set_same H j o hj.get] at this
      exact this
  · have hm0 : 0 < m := by omega
    obtain ⟨bB, oB, rfl, hread⟩ : ∃ b o, B = some ⟨b, o, none⟩ ∧ ∀ w, Sat G H w → ∀ j v, news[j]? = some v → w.cell? ⟨b, o + j, none⟩ = some v := by
      rcases hr with h | h
      · have hp := Nat.mul_pos hm0 hsz
        rw [← hl, h] at hp
        simp at hp
      · exact h
    obtain ⟨hcl, ⟨rfl, rfl, rfl, rfl⟩ | ⟨b, c, rfl, rfl, hnc, hcs, htk⟩⟩ := hv
    · omega
    · have hbw : w.heap[b]? = some (.cells c e (0, 0)) := st.sat.hold _ (List.mem_of_getElem? hj.get)
      have hms : m * sz ≤ n * sz := Nat.mul_le_mul_right _ hmn
      have hns : n * sz ≤ cap * sz := Nat.mul_le_mul_right _ hnc
      have hfit : 0 + news.length ≤ c.size := by omega
      have hld := run_loadCells_list (P := P) w ⟨bB, oB, none⟩ news (fun j u e => by rw [cell_add]; exact hread w st.sat j u e)
      have hst := run_storeCells_at P b 0 e news 0 c w hbw (by simpa using hfit) (fun u hu => List.all_eq_true.1 h1 u hu)
      simp only [Nat.add_zero] at hst
      have hsp := st.sat.splice (o := 0) (cs := news) hj hfit
      refine ⟨goInt m, _, G, _, .inl (hrun _ _ ?_), hsp.1, hsp.2, k _ ⟨?_, .inr ⟨b, _, rfl, rfl, hnc, by rw [size_splice hfit, hcs], ?_⟩⟩⟩
      · rw [hl] at hld
        have hmin : Nat.min m n = m := Nat.min_eq_left hmn
        simp [Builtin.copy_, run_underlying hu', Builtin.lenOf, Builtin.firstCells, sizeOf, typeInfo, hi1, hi3, hmin, hld, hst, splice]
      · rw [List.length_append, List.length_drop, hcl, hl]; omega
      · have h0 : (splice c 0 news).toList = news ++ c.toList.drop news.length := by simp [splice]
        rw [h0, List.take_append, List.take_of_length_le (by omega), ← htk, List.drop_take]
        rw [hl]

/-! #### memory that stays from now on -/
def Gh.add (G : Gh) (b : Nat) (c : Array Value) : Gh := fun b' o => if b' = b then c[o]? else G b' o
theorem Sat.frozen {w : World} (h : Sat G H w) {j b : Nat} {c : Array Value} {T : TypeId} (hj : At H j (.blk b (.cells c T (0, 0)))) : G.le (G.add b c) ∧ Sat (G.add b c) (H.eraseIdx j) w := by
  have hh : w.heap[b]? = some (.cells c T (0, 0)) := h.hold _ (List.mem_of_getElem? hj.get)
  have hg : ∀ o, G b o = none := fun o => h.ghost _ (List.mem_of_getElem? hj.get) b o rfl
  have hp := h.perm (perm_at hj)
  have hap := List.pairwise_cons.1 hp.apart
  refine ⟨fun b' o v e => ?_, ⟨fun b' o v e => ?_, fun x hx => hp.hold x (.tail _ hx), hap.2, fun x hx b' o hc => ?_⟩⟩
  · unfold Gh.add
    split
    · rename_i hb; subst hb; rw [hg o] at e; cases e
    · exact e
  · unfold Gh.add at e
    split at e
    · rename_i hb
      subst hb
      simp [World.cell?, hh, e]
    · exact h.agr b' o v e
  · unfold Gh.add
    split
    · rename_i hb; subst hb; exact absurd hc (hap.1 x hx b' o rfl)
    · exact hp.ghost x (.tail _ hx) b' o hc
theorem St.freeze {a : Act} {w : World} (st : St cx L G H a w) {j b : Nat} {c : Array Value} {T : TypeId} (hj : At H j (.blk b (.cells c T (0, 0)))) : St cx L (G.add b c) (H.eraseIdx j) a w := by
  have h := st.sat.frozen hj
  refine ⟨st.size, st.defs, st.slot, h.2, ⟨st.stp.size, st.stp.keep, Gh.le_trans st.stp.gle h.1, fun b' o v e => ?_, fun x hx => st.stp.own x (List.mem_of_mem_eraseIdx hx), st.stp.weq⟩⟩
  unfold Gh.add at e
  split at e
  · rename_i hb
    subst hb
    exact .inr (st.stp.own _ (List.mem_of_getElem? hj.get) b' o rfl)
  · exact st.stp.gnew b' o v e
theorem WC.freeze {c0 : Code} {j b : Nat} {c : Array Value} {T : TypeId} (hj : At H j (.blk b (.cells c T (0, 0)))) (h : G.le (G.add b c) → WC P c0 Q cx L (G.add b c) (H.eraseIdx j)) : WC P c0 Q cx L G H :=
  fun a w st => h (st.sat.frozen hj).1 a w (st.freeze hj)
theorem WL.freeze {j b : Nat} {c : Array Value} {T : TypeId} (hj : At H j (.blk b (.cells c T (0, 0)))) (h : G.le (G.add b c) → WL P ops Q rest cx L (G.add b c) (H.eraseIdx j)) : WL P ops Q rest cx L G H :=
  fun a w st => h (st.sat.frozen hj).1 a w (st.freeze hj)
theorem WK.freeze {K : Act → World → Prop} {j b : Nat} {c : Array Value} {T : TypeId} (hj : At H j (.blk b (.cells c T (0, 0)))) (h : G.le (G.add b c) → WK K cx L (G.add b c) (H.eraseIdx j)) : WK K cx L G H :=
  fun a w st => h (st.sat.frozen hj).1 a w (st.freeze hj)
theorem Gh.add_at {b : Nat} {c : Array Value} {o : Nat} : G.add b c b o = c[o]? := by simp [Gh.add]
theorem WK.frozenVec {K : Act → World → Prop} {T sz n cap j : Nat} {A : Option Addr} {cs : List Value} {x : Own} (hv : Vec T sz A n cap cs x) (hj : At H j x)
    (h : ∀ G', G.le G' → (cs = [] ∨ ∃ b, A = some ⟨b, 0, none⟩ ∧ Cs G' b 0 cs) → WK K cx L G' (H.eraseIdx j)) : WK K cx L G H := by
  obtain ⟨hl, ⟨h1, h2, h3, h4⟩ | ⟨b, c, rfl, rfl, h1, h2, rfl⟩⟩ := hv
  · refine WK.weaken (L' := L) (fun _ _ e => e) (List.eraseIdx_sublist ..) (h G (Gh.le_refl _) (.inl ?_))
    subst h2; exact List.eq_nil_of_length_eq_zero (by simpa using hl)
  · refine WK.freeze hj fun hg => h _ hg (.inr ⟨b, rfl, fun i v e => ?_⟩)
    rw [Nat.zero_add, Gh.add_at]
    rw [List.getElem?_take] at e
    split at e
    · simpa using e
    · cases e
theorem WC.frozenVec {c0 : Code} {T sz n cap j : Nat} {A : Option Addr} {cs : List Value} {x : Own} (hv : Vec T sz A n cap cs x) (hj : At H j x)
    (h : ∀ G', G.le G' → (cs = [] ∨ ∃ b, A = some ⟨b, 0, none⟩ ∧ Cs G' b 0 cs) → WC P c0 Q cx L G' (H.eraseIdx j)) : WC P c0 Q cx L G H :=
  WK.frozenVec (K := c0.wp P Q) hv hj h

/-- an element of what is ours is set -/
theorem Vec.put {T sz n cap b i : Nat} {A : Option Addr} {cs : List Value} {c : Array Value} (h : Vec T sz A n cap cs (.blk b (.cells c T (0, 0)))) (hi : i < n) (es : List Value) (he : es.length = sz) :
    A = some ⟨b, 0, none⟩ ∧ i * sz + es.length ≤ c.size ∧ Vec T sz A n cap (cs.take (i * sz) ++ es ++ cs.drop (i * sz + es.length)) (.blk b (.cells (splice c (i * sz) es) T (0, 0))) := by
  obtain ⟨hl, ⟨h1, h2, h3, h4⟩ | ⟨b', c', rfl, hx, h1, h2, rfl⟩⟩ := h
  · omega
  · cases hx
    have e1 : (i + 1) * sz ≤ n * sz := Nat.mul_le_mul_right _ hi
    have e2 : n * sz ≤ cap * sz := Nat.mul_le_mul_right _ h1
    rw [Nat.add_mul] at e1
    have hfit : i * sz + es.length ≤ c.size := by omega
    refine ⟨rfl, hfit, ?_, .inr ⟨b, _, rfl, rfl, h1, by rw [size_splice hfit, h2], ?_⟩⟩
    · simp only [List.length_append, List.length_take, List.length_drop, hl] at hl ⊢; omega
    · simp only [splice]
      apply List.ext_getElem?
      intro k
      simp only [List.getElem?_take, List.getElem?_append, List.length_append, List.length_take, List.getElem?_drop, Array.length_toList]
      have m1 : min (i * sz) c.size = i * sz := by omega
      have m2 : min (i * sz) (min (n * sz) c.size) = i * sz := by omega
      simp only [m1, m2]
      by_cases hk : k < n * sz
      · simp only [hk, if_true]
        by_cases h3 : k < i * sz + es.length
        · simp only [h3, if_true]
        · simp only [h3, if_false, show i * sz + es.length + (k - (i * sz + es.length)) = k by omega, hk, if_true]
      · simp only [hk, if_false]
        rw [if_neg (by omega), if_neg (by omega)]
theorem Rds.sub {A : Option Addr} {cs : List Value} {H' : List Own} (h : Rds G H A cs) (hs : H.Sublist H') : Rds G H' A cs := by
  rcases h with h | ⟨b, o, e, h⟩
  · exact .inl h
  · exact .inr ⟨b, o, e, fun w s => h w (s.sub hs)⟩
end
end Go.Proofs.YtkmigdmdppkpoaaGreatDoor.Gb
namespace Go.Proofs.YtkmigdmdppkpoaaGreatDoor.Gb
open Go
set_option linter.unusedVariables false
set_option linter.unusedSimpArgs false

section
variable {P : Program} {Q : Exit → Act → World → Prop} {cx : Cx} {L : List (Nat × Value)} {G : Gh} {H : List Own} {K : List (Nat × Value) → Gh → List Own → Prop} {ops : Array Oper} {rest : List Oper}
  {d : Option Tmp} {ty : TypeId} {pos : String} {af : Array Edge} {gu : Option (Nat × Bool)}

theorem Sk.evs {a : Act} (st : Sk L a) {xs : Array Operand} {vs : List Value} (h : Gb.evs L xs = some vs) : xs.map a.eval = vs.toArray := by
  have key : ∀ (l : List Operand) (vs : List Value), evl L l = some vs → l.map a.eval = vs := by
    intro l
    induction l with
    | nil => intro vs h; simp only [evl, Option.some.injEq] at h; subst h; rfl
    | cons x l ih =>
      intro vs h
      simp only [evl] at h
      cases hx : ev L x with
      | none => simp [hx] at h
      | some v =>
        cases hl : evl L l with
        | none => simp [hx, hl] at h
        | some us =>
          simp only [hx, hl, Option.some.injEq] at h
          subst h
          simp [st.eval hx, ih us hl]
  apply Array.ext'
  simp [key xs.toList vs h]

theorem Gp.makeFunc {fn : Go.Fn} {xs ys : Array Operand} {us vs : List Value} (hx : evs L xs = some us) (hy : evs L ys = some vs) : Gp P L ⟨d, .makeFunc fn xs ys, ty, pos, af, gu⟩ (.func fn us.toArray vs.toArray) :=
  fun a st w => by
    have e1 := Sk.evs st hx
    have e2 := Sk.evs st hy
    simp only [execOp, e1, e2]
    rfl

/-- a call of a function value -/
theorem OW.callV {g : Operand} {f : Nat} {cap : Array Value} {xs : Array Operand} {ats : Array TypeId} {vs : List Value} {Hf F : List Own} {R : Ending → Gh → List Own → Prop} (hg : ev L g = some (.func (.func f) #[] cap)) (hx : Gb.evs L xs = some vs) [hb : Body P f] (hp : H.Perm (Hf ++ F))
    (hf : Fn P f (vs.toArray ++ cap) G Hf R) (hd : dOk d cx.N = true)
    (k : ∀ v G' H', R (.returned v) G' H' → G.le G' → K (putL d v L) G' (H' ++ F))
    (kp : ∀ ch G' H', R (.panicked ch) G' H' → G.le G' → WK (Q (.panic ch)) cx L G' (H' ++ F))
    (ko : ∀ G' H', ¬ R .outgrown G' H') : OW P Q ⟨d, .call { callee := .value g, args := xs, argTypes := ats }, ty, pos, af, gu⟩ cx L G H K := by
  intro next hn a w st
  have st' := st.perm hp
  have hrun : (execOp a.eval ⟨d, .call { callee := .value g, args := xs, argTypes := ats }, ty, pos, af, gu⟩).run P w = .ok (.enter f (vs.toArray ++ cap)) w := by
    have e := st.evs hx
    have eg := st.eval hg
    simp [execOp, resolve, Deferred.ofValue, eg, invoke, e, hb.h]
  unfold Oper.wp
  rw [hrun]
  simp only [Oper.upon]
  refine (hf w (st'.sat.sub (List.sublist_append_left Hf F)) (cx.ex.then st'.stp fun x hx => List.mem_append_left _ hx)).mono fun e w' ⟨G', H', r, hs, hp'⟩ => ?_
  have hs' := st'.sat.frame hs hp'
  have hst := st'.stp.then (hp'.frame (F := F))
  cases e with
  | returned v => exact hn _ _ _ (k v G' H' r hp'.gle) _ _ (st.put d v hd hs' hst)
  | panicked ch => exact kp ch G' H' r hp'.gle a w' ⟨st.size, st.defs, st.slot, hs', hst⟩
  | outgrown => exact (ko G' H' r).elim

theorem Gp.nePtrNil {x : Operand} {t t' : Nat} {p : Option Addr} (hx : ev L x = some (.pointer p)) (hu : P.underlying t = some (.pointer (P.pointee t))) : Gp P L ⟨d, .binOp .neq t x (.const (.pointer none)) t', ty, pos, af, gu⟩ (.bool (!p.isNone)) :=
  fun a st w => by
    have hc : a.eval (.const (.pointer none)) = .pointer none := rfl
    have he : ∀ op, eqGuard op t x (.const (.pointer none)) (.pointer p) (.pointer none) = pure () := fun op => by cases op <;> rfl
    simp [execOp, st.eval hx, hc, he, run_neq_pointer_nil w t p hu]
theorem Gp.eqPtrNil {x : Operand} {t t' : Nat} {p : Option Addr} (hx : ev L x = some (.pointer p)) (hu : P.underlying t = some (.pointer (P.pointee t))) : Gp P L ⟨d, .binOp .eql t x (.const (.pointer none)) t', ty, pos, af, gu⟩ (.bool p.isNone) :=
  fun a st w => by
    have hc : a.eval (.const (.pointer none)) = .pointer none := rfl
    have he : ∀ op, eqGuard op t x (.const (.pointer none)) (.pointer p) (.pointer none) = pure () := fun op => by cases op <;> rfl
    simp [execOp, st.eval hx, hc, he, run_eql_pointer_nil w t p hu]
end

/-! #### functions that put calls off -/
/-- what a call does that was put off: from the mode that its caller is in, to an end and a mode -/
def FnD (P : Program) (f : FuncId) (vs : Array Value) (u : FrameMode) (G : Gh) (H : List Own) (u' : FrameMode) (R : Ending → Gh → List Own → Prop) : Prop :=
  ∀ w, Sat G H w → Ex (covs H) w → CallsD P f vs u w fun e u'' w' => u'' = u' ∧ ∃ G' H', R e G' H' ∧ Sat G' H' w' ∧ Stp (covs H) G w G' H' w'

/-- where a function ends that has put calls off -/
def QD (P : Program) (fn : Func) (G0 : Gh) (w0 : World) (H0 : List Own) (R : Ending → Gh → List Own → Prop) : Exit → Act → World → Prop :=
  bodyPostD P fn fun e w' => ∃ G' H', R e G' H' ∧ Sat G' H' w' ∧ Stp (covs H0) G0 w0 G' H' w'

/-- what a function's results are, by the slots and what is ours -/
def ResRun (P : Program) (fn : Func) (L : List (Nat × Value)) (G : Gh) (H : List Own) (v : Value) : Prop := ∀ a w, Sk L a → Sat G H w → (results fn a.tmps).run P w = .ok v w
theorem ResRun.zero {P : Program} {fn : Func} {L : List (Nat × Value)} {G : Gh} {H : List Own} (h : fn.results = #[]) : ResRun P fn L G H (.tuple #[]) := fun a w _ _ => by simp [results, h]

section
variable {P : Program} {fn : Func} {G0 G : Gh} {H0 H : List Own} {w0 : W0 H0} {R : Ending → Gh → List Own → Prop} {L : List (Nat × Value)} {N : Nat}

theorem QD.once {u u' : FrameMode} {g : Nat} {cap : Array Value} {Hf F : List Own} {R1 : Ending → Gh → List Own → Prop} (hur : u ≠ .run) [hb : Body P g] (hp : H.Perm (Hf ++ F)) (hf : FnD P g cap u G Hf u' R1) (hset : settle u' = .returning)
    (k : ∀ v G' H', R1 (.returned v) G' H' → G.le G' → ∃ v, ResRun P fn L G' (H' ++ F) v ∧ R (.returned v) G' (H' ++ F))
    (kp : ∀ ch G' H', ¬ R1 (.panicked ch) G' H') (ko : ∀ G' H', ¬ R1 .outgrown G' H') {a : Act} {w : World} (st : St ⟨w0.w, G0, covs H0, N, [{ target := .fn (.func g) cap, args := #[] }], w0.ex⟩ L G H a w) :
    Leaves P fn a.tmps (fun e w' => ∃ G' H', R e G' H' ∧ Sat G' H' w' ∧ Stp (covs H0) G0 w0.w G' H' w') [{ target := .fn (.func g) cap, args := #[] }] u w := by
  have st' := st.perm hp
  refine leaves_cons (f := g) (args := cap) hur (by simp [invoke, hb.h]) ?_
  refine (hf w (st'.sat.sub (List.sublist_append_left Hf F)) (w0.ex.then st'.stp fun x hx => List.mem_append_left _ hx)).mono fun e u'' w' ⟨hu, G', H', r, hs, hp'⟩ => ?_
  subst hu
  have hs' := st'.sat.frame hs hp'
  have hst := st'.stp.then (hp'.frame (F := F))
  cases e with
  | returned v =>
    obtain ⟨v', h1, h2⟩ := k v G' H' r hp'.gle
    show Leaves _ _ _ _ [] (settle _) _
    rw [hset]
    exact ⟨v', h1 a w' st.slot hs', G', _, h2, hs', hst⟩
  | panicked ch => exact (kp ch G' H' r).elim
  | outgrown => exact (ko G' H' r).elim

end
end Go.Proofs.YtkmigdmdppkpoaaGreatDoor.Gb
namespace Go.Proofs.YtkmigdmdppkpoaaGreatDoor.Gb
open Go
set_option linter.unusedVariables false
set_option linter.unusedSimpArgs false

inductive Rem : List Own → Own → List Own → Prop where
  | here {x : Own} {l : List Own} : Rem (x :: l) x l
  | there {x y : Own} {l l' : List Own} (h : Rem l x l') : Rem (y :: l) x (y :: l')
theorem Rem.perm {l l' : List Own} {x : Own} (h : Rem l x l') : l.Perm (x :: l') := by
  induction h with
  | here => exact List.Perm.refl _
  | there _ ih => exact (List.Perm.cons _ ih).trans (List.Perm.swap _ _ _)
inductive Pk : List Own → List Own → List Own → Prop where
  | nil {H : List Own} : Pk H [] H
  | all {H : List Own} : Pk H H []
  | cons {H H' xs F : List Own} {x : Own} (h : Rem H x H') (k : Pk H' xs F) : Pk H (x :: xs) F
  | skip {H xs F : List Own} {y : Own} (k : Pk H xs F) : Pk (y :: H) xs (y :: F)
theorem Pk.perm {H xs F : List Own} (h : Pk H xs F) : H.Perm (xs ++ F) := by
  induction h with
  | nil => exact List.Perm.refl _
  | all => rw [List.append_nil]
  | cons h _ ih => exact h.perm.trans (List.Perm.cons _ ih)
  | skip _ ih => exact (List.Perm.cons _ ih).trans List.perm_middle.symm

theorem Pk.app : ∀ {H F : List Own}, Pk (H ++ F) H F
  | [], _ => .nil
  | _ :: _, _ => .cons .here Pk.app

theorem Pk.appR : ∀ {F H : List Own}, Pk (F ++ H) H F
  | [], _ => .all
  | _ :: _, _ => .skip Pk.appR
theorem Pk.skipA {l xs F : List Own} (h : Pk l xs F) : ∀ {H : List Own}, Pk (H ++ l) xs (H ++ F)
  | [] => h
  | _ :: _ => .skip (Pk.skipA h)
theorem Pk.na {H xs F : List Own} (h : Pk H xs F) : Pk (List.append [] H) xs F := h
theorem Rem.app {x : Own} {l l' : List Own} (h : Rem l x l') : ∀ {H : List Own}, Rem (H ++ l) x (H ++ l')
  | [] => h
  | _ :: _ => .there (Rem.app h)

theorem Pk.assoc {A B C xs F : List Own} (h : Pk (A ++ (B ++ C)) xs F) : Pk ((A ++ B) ++ C) xs F := by rw [List.append_assoc]; exact h

section
variable {P : Program} {Q : Exit → Act → World → Prop} {cx : Cx} {L : List (Nat × Value)} {G : Gh} {H H' F : List Own}
theorem WC.front {c : Code} (h : Pk H H' F) (k : WC P c Q cx L G (H' ++ F)) : WC P c Q cx L G H := fun a w st => k a w (st.perm h.perm)
theorem WL.front {ops : Array Oper} {rest : List Oper} (h : Pk H H' F) (k : WL P ops Q rest cx L G (H' ++ F)) : WL P ops Q rest cx L G H := fun a w st => k a w (st.perm h.perm)
theorem WK.front {K : Act → World → Prop} (h : Pk H H' F) (k : WK K cx L G (H' ++ F)) : WK K cx L G H := fun a w st => k a w (st.perm h.perm)
theorem St.pk {a : Act} {w : World} (st : St cx L G H a w) (h : Pk H H' F) : St cx L G H' a w := (st.perm h.perm).weaken (fun _ _ e => e) (List.sublist_append_left _ _)
theorem WK.pk {K : Act → World → Prop} (h : Pk H H' F) (k : WK K cx L G H') : WK K cx L G H := fun a w st => k a w (st.pk h)
theorem WC.pk {c : Code} (h : Pk H H' F) (k : WC P c Q cx L G H') : WC P c Q cx L G H := fun a w st => k a w (st.pk h)
theorem WC.pick {c : Code} (H' : List Own) (k : WC P c Q cx L G H') (h : Pk H H' F := by repeat (first | exact Pk.nil | exact Pk.all | exact Pk.app | exact Pk.appR | with_reducible apply Pk.na | (apply Pk.cons; (repeat first | exact .here | apply Rem.there | apply Rem.app)) | apply Pk.assoc | apply Pk.skip | apply Pk.skipA)) : WC P c Q cx L G H := WC.pk h k
theorem WK.pick {K : Act → World → Prop} (H' : List Own) (k : WK K cx L G H') (h : Pk H H' F := by repeat (first | exact Pk.nil | exact Pk.all | exact Pk.app | exact Pk.appR | with_reducible apply Pk.na | (apply Pk.cons; (repeat first | exact .here | apply Rem.there | apply Rem.app)) | apply Pk.assoc | apply Pk.skip | apply Pk.skipA)) : WK K cx L G H := WK.pk h k
theorem WL.pick {ops : Array Oper} {rest : List Oper} (H' : List Own) (k : WL P ops Q rest cx L G H') (h : Pk H H' F := by repeat (first | exact Pk.nil | exact Pk.all | exact Pk.app | exact Pk.appR | with_reducible apply Pk.na | (apply Pk.cons; (repeat first | exact .here | apply Rem.there | apply Rem.app)) | apply Pk.assoc | apply Pk.skip | apply Pk.skipA)) : WL P ops Q rest cx L G H := fun a w st => k a w (st.pk h)
theorem OW.callK {K : List (Nat × Value) → Gh → List Own → Prop} {d : Option Tmp} {ty : TypeId} {pos : String} {af : Array Edge} {gu : Option (Nat × Bool)} {f : Nat} {xs : Array Operand} {ats : Array TypeId} {vs : List Value} {Hf F : List Own} {R : Ending → Gh → List Own → Prop} (hx : Gb.evs L xs = some vs) [hb : Body P f]
    (hf : Fn P f vs.toArray G Hf R) (hd : dOk d cx.N = true)
    (k : ∀ v G' H', R (.returned v) G' H' → G.le G' → K (putL d v L) G' (H' ++ F)) (hp : Pk H Hf F := by repeat (first | exact Pk.nil | exact Pk.all | exact Pk.app | exact Pk.appR | with_reducible apply Pk.na | (apply Pk.cons; (repeat first | exact .here | apply Rem.there | apply Rem.app)) | apply Pk.assoc | apply Pk.skip | apply Pk.skipA)) (hno : ∀ e G' H', R e G' H' → ∃ v, e = .returned v := by intro e G' H' h; repeat (first | exact ⟨_, h.1⟩ | (obtain ⟨_, h⟩ := h))) : OW P Q ⟨d, .call { callee := .value (.func f), args := xs, argTypes := ats }, ty, pos, af, gu⟩ cx L G H K :=
  OW.callR hx hp.perm hf hd hno k
theorem Sat.pk {w : World} (h : Sat G H w) (p : Pk H H' F) : Sat G H' w := (h.perm p.perm).sub (List.sublist_append_left _ _)
theorem WC.drawS {id : Nat} {l : List Oper} {Hs : List Own} (hm : P.follows .mixedOrders = true) (hs : Pk H Hs F) (h : WB P l Q G Hs l.length (Array.replicate l.length false) cx L G H) : WC P (.region id l.toArray true) Q cx L G H := by
  intro a w st
  refine wp_region_held (S := Sat G Hs) hm ?_
  have := h a { w with drawn := w.drawn + 1 } (st.drew rfl) ((st.drew (w' := { w with drawn := w.drawn + 1 }) rfl).sat.pk hs)
  simpa using this
theorem Gv.loadRN {d : Option Tmp} {ty : TypeId} {pos : String} {af : Array Edge} {gu : Option (Nat × Bool)} {t n by_ : Nat} {z : Value} {x : Operand} {b o i : Nat} {Ha : List Own} {cs es : List Value} (hx : ev L x = some (.pointer (some ⟨b, o + i, none⟩))) [ha : Agg P t true] [hi : Inf P t n by_ z]
    (hr : ∀ w, Sat G Ha w → ∀ j v, cs[j]? = some v → w.cell? ⟨b, o + j, none⟩ = some v) (hs : Ha.Sublist H) (hc : (cs.drop i).take n = es) (hl : es.length = n) : Gv P L G H ⟨d, .load t x, ty, pos, af, gu⟩ (.agg es.toArray) :=
  fun a w sk st0 => by
    have := run_loadVarN (P := P) (w := w) (b := b) (o := o + i) ha hi hl (fun j v hv => by
      rw [← hc, List.getElem?_take] at hv
      split at hv
      · rw [List.getElem?_drop] at hv
        rw [Nat.add_assoc]; exact hr w (st0.sub hs) _ v hv
      · cases hv)
    simp [execOp, sk.eval hx, Instr.loadAt, Instr.sureAddr, this]
/-! #### a region whose order is drawn, where something stays true -/
def WS (P : Program) (l : List Oper) (Q : Exit → Act → World → Prop) (S : World → Prop) (fuel : Nat) (listed : Array Bool) (cx : Cx) (L : List (Nat × Value)) (G : Gh) (H : List Own) : Prop :=
  ∀ a w, St cx L G H a w → S w → wpAnyH P .any l.toArray Q S fuel listed a w
theorem WS.done {l : List Oper} {S : World → Prop} {fuel : Nat} {listed : Array Bool} (hr : Region.ready .any l.toArray listed = []) (h : WK (Q .normal) cx L G H) : WS P l Q S fuel listed cx L G H :=
  fun a w st _ => wpAnyH_done hr (h a w st) fuel
theorem WS.tv {l : List Oper} {S : World → Prop} {fuel i : Nat} {listed : Array Bool} {o : Oper} {v : Value} (hi : l[i]? = some o) (hk : okP l listed i = true) (hw : wantB l.toArray L o = some true) (hd : dOk o.dst cx.N = true) [hQ : QPan Q] (hv : ∀ a w, Sk L a → S w → (execOp a.eval o).run P w = .ok (.value v) w)
    (h : WS P l Q S fuel (listed.setIfInBounds i true) cx (putL o.dst v L) G H) : WS P l Q S (fuel + 1) listed cx L G H := by
  intro a w st ss
  simp only [okP, Bool.and_eq_true] at hk
  exact wpAnyH_take (by simpa using hi) hk.1.1 hk.1.2 hk.2 (fun c a' w' => hQ.h c _ _ w' (defers_put _ _ _)) (.inl ⟨st.wanted hw, fun w' s => hv a w' st.slot s⟩) ss (h _ _ (st.put o.dst v hd st.sat st.stp) ss)
theorem WS.tp {l : List Oper} {S : World → Prop} {fuel i : Nat} {listed : Array Bool} {o : Oper} {v : Value} (hi : l[i]? = some o) (hk : okP l listed i = true) (hw : wantB l.toArray L o = some true) (hd : dOk o.dst cx.N = true) [hQ : QPan Q] (hv : Gp P L o v)
    (h : WS P l Q S fuel (listed.setIfInBounds i true) cx (putL o.dst v L) G H) : WS P l Q S (fuel + 1) listed cx L G H := WS.tv hi hk hw hd (fun a w sk _ => hv a sk w) h
theorem WS.sp {l : List Oper} {S : World → Prop} {fuel i : Nat} {listed : Array Bool} {o : Oper} (hi : l[i]? = some o) (hk : okP l listed i = true) (hw : wantB l.toArray L o = some false) (hd : dOk o.dst cx.N = true) [hQ : QPan Q]
    (h : WS P l Q S fuel (listed.setIfInBounds i true) cx (putL o.dst undef L) G H) : WS P l Q S (fuel + 1) listed cx L G H := by
  intro a w st ss
  simp only [okP, Bool.and_eq_true] at hk
  exact wpAnyH_take (by simpa using hi) hk.1.1 hk.1.2 hk.2 (fun c a' w' => hQ.h c _ _ w' (defers_put _ _ _)) (.inr ⟨st.wanted hw, rfl⟩) ss (h _ _ (st.put o.dst undef hd st.sat st.stp) ss)
theorem WS.one {l : List Oper} {S : World → Prop} {fuel i : Nat} {listed : Array Bool} {o : Oper} (hr : Region.ready .any l.toArray listed = [i]) (hi : l[i]? = some o) (hw : wantB l.toArray L o = some true)
    (h : OW P Q o cx L G H fun L' G' H' => (∀ w, Sat G' H' w → S w) ∧ WS P l Q S fuel (listed.setIfInBounds i true) cx L' G' H') : WS P l Q S (fuel + 1) listed cx L G H := by
  intro a w st _
  refine wpAnyH_all hr (by simp) fun j hj => ?_
  rw [List.mem_singleton] at hj
  subst hj
  unfold wpOp
  have ho' : l.toArray[j]? = some o := by simpa using hi
  simp only [ho', st.wanted hw, if_true]
  exact .inl (h _ (fun L' G' H' k a w st' => ⟨k.1 w st'.sat, k.2 a w st' (k.1 w st'.sat)⟩) a w st)
theorem Sat.cell {w : World} {b o j : Nat} {c : Array Value} {t : TypeId} {fr : Nat × Nat} (h : Sat G H w) (hj : At H j (.blk b (.cells c t fr))) : w.cell? ⟨b, o, none⟩ = c[o]? := Own.cell (h.hold _ (List.mem_of_getElem? hj.get))
theorem OW.gv {o : Oper} {v : Value} {K : List (Nat × Value) → Gh → List Own → Prop} (g : Gv P L G H o v) (hd : dOk o.dst cx.N = true) (hk : K (putL o.dst v L) G H) : OW P Q o cx L G H K := OW.val hd (fun a w st => g a w st.slot st.sat) hk
end

section
variable {P : Program} {fn : Func} {G0 G : Gh} {H0 H H' F : List Own} {w0 : W0 H0} {R : Ending → Gh → List Own → Prop} {L : List (Nat × Value)} {N : Nat}
theorem QF.ofP {e : Exit} (he : e = .ret ∨ e = .normal) (v : Value) (hr : ∀ a w, St ⟨w0.w, G0, covs H0, N, [], w0.ex⟩ L G H a w → (results fn a.tmps).run P w = .ok v w) (h : R (.returned v) G H') (hs : Pk H H' F) : WK (QF P fn G0 w0.w H0 R e) ⟨w0.w, G0, covs H0, N, [], w0.ex⟩ L G H := by
  intro a w st
  have st' := st.pk hs
  have : a.defers = [] ∧ ∃ v, (results fn a.tmps).run P w = .ok v w ∧ ∃ G' H', R (.returned v) G' H' ∧ Sat G' H' w ∧ Stp (covs H0) G0 w0.w G' H' w := ⟨st.defs, v, hr a w st, G, H', h, st'.sat, st'.stp⟩
  rcases he with rfl | rfl
  · exact this
  · exact this
theorem QF.p0 {e : Exit} (he : e = .ret ∨ e = .normal) (hres : fn.results = #[]) (h : R (.returned (.tuple #[])) G H') (hs : Pk H H' F := by repeat (first | exact Pk.nil | exact Pk.all | exact Pk.app | exact Pk.appR | with_reducible apply Pk.na | (apply Pk.cons; (repeat first | exact .here | apply Rem.there | apply Rem.app)) | apply Pk.assoc | apply Pk.skip | apply Pk.skipA)) : WK (QF P fn G0 w0.w H0 R e) ⟨w0.w, G0, covs H0, N, [], w0.ex⟩ L G H :=
  QF.ofP he (.tuple #[]) (fun a w st => by simp [results, hres]) h hs
theorem QF.p1 {e : Exit} (he : e = .ret ∨ e = .normal) {r : ResultVar} {v : Value} (hres : fn.results = #[r]) (hv : RV P L H r v) (h : R (.returned v) G H') (hs : Pk H H' F := by repeat (first | exact Pk.nil | exact Pk.all | exact Pk.app | exact Pk.appR | with_reducible apply Pk.na | (apply Pk.cons; (repeat first | exact .here | apply Rem.there | apply Rem.app)) | apply Pk.assoc | apply Pk.skip | apply Pk.skipA)) : WK (QF P fn G0 w0.w H0 R e) ⟨w0.w, G0, covs H0, N, [], w0.ex⟩ L G H :=
  QF.ofP he v (fun a w st => by simp [results_rvS, hres, hv.run st]) h hs
theorem QF.p2 {e : Exit} (he : e = .ret ∨ e = .normal) {r s : ResultVar} {v u : Value} (hres : fn.results = #[r, s]) (hv : RV P L H r v) (hu : RV P L H s u) (h : R (.returned (.tuple #[v, u])) G H') (hs : Pk H H' F := by repeat (first | exact Pk.nil | exact Pk.all | exact Pk.app | exact Pk.appR | with_reducible apply Pk.na | (apply Pk.cons; (repeat first | exact .here | apply Rem.there | apply Rem.app)) | apply Pk.assoc | apply Pk.skip | apply Pk.skipA)) : WK (QF P fn G0 w0.w H0 R e) ⟨w0.w, G0, covs H0, N, [], w0.ex⟩ L G H :=
  QF.ofP he (.tuple #[v, u]) (fun a w st => by simp [results_rvS, hres, hv.run st, hu.run st]) h hs
end
section
variable {P : Program} {L : List (Nat × Value)} {d : Option Tmp} {ty : TypeId} {pos : String} {af : Array Edge} {gu : Option (Nat × Bool)}
theorem Gp.geI' {t t' : TypeId} {x y : Operand} {k : IntKind} {m n : Int} {r : Bool} (hx : ev L x = some (.int k m)) (hy : ev L y = some (.int k n)) (h : decide (n ≤ m) = r) : Gp P L ⟨d, .binOp .geq t x y t', ty, pos, af, gu⟩ (.bool r) := h ▸ Gp.geI hx hy
theorem Gp.leI' {t t' : TypeId} {x y : Operand} {k : IntKind} {m n : Int} {r : Bool} (hx : ev L x = some (.int k m)) (hy : ev L y = some (.int k n)) (h : decide (m ≤ n) = r) : Gp P L ⟨d, .binOp .leq t x y t', ty, pos, af, gu⟩ (.bool r) := h ▸ Gp.leI hx hy
theorem Gp.ltI' {t t' : TypeId} {x y : Operand} {k : IntKind} {m n : Int} {r : Bool} (hx : ev L x = some (.int k m)) (hy : ev L y = some (.int k n)) (h : decide (m < n) = r) : Gp P L ⟨d, .binOp .lss t x y t', ty, pos, af, gu⟩ (.bool r) := h ▸ Gp.ltI hx hy
theorem Gp.gtI' {t t' : TypeId} {x y : Operand} {k : IntKind} {m n : Int} {r : Bool} (hx : ev L x = some (.int k m)) (hy : ev L y = some (.int k n)) (h : decide (n < m) = r) : Gp P L ⟨d, .binOp .gtr t x y t', ty, pos, af, gu⟩ (.bool r) := h ▸ Gp.gtI hx hy
theorem Gp.eqI' {t t' : TypeId} {x y : Operand} {k : IntKind} {m n : Int} {r : Bool} (hx : ev L x = some (.int k m)) (hy : ev L y = some (.int k n)) (h : (m == n) = r) : Gp P L ⟨d, .binOp .eql t x y t', ty, pos, af, gu⟩ (.bool r) := h ▸ Gp.eqI hx hy
theorem Gp.neI' {t t' : TypeId} {x y : Operand} {k : IntKind} {m n : Int} {r : Bool} (hx : ev L x = some (.int k m)) (hy : ev L y = some (.int k n)) (h : (m != n) = r) : Gp P L ⟨d, .binOp .neq t x y t', ty, pos, af, gu⟩ (.bool r) := h ▸ Gp.neI hx hy
theorem Gp.add' {t t' : TypeId} {x y : Operand} {k : IntKind} {m n r : Int} (hx : ev L x = some (.int k m)) (hy : ev L y = some (.int k n)) (h : k.wrap (m + n) = r) : Gp P L ⟨d, .binOp .add t x y t', ty, pos, af, gu⟩ (.int k r) := h ▸ Gp.add hx hy
theorem Gp.sub' {t t' : TypeId} {x y : Operand} {k : IntKind} {m n r : Int} (hx : ev L x = some (.int k m)) (hy : ev L y = some (.int k n)) (h : k.wrap (m - n) = r) : Gp P L ⟨d, .binOp .sub t x y t', ty, pos, af, gu⟩ (.int k r) := h ▸ Gp.sub hx hy
end
end Go.Proofs.YtkmigdmdppkpoaaGreatDoor.Gb
