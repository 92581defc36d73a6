/- Slices: cut, made, appended to; what is ours becomes what stays. -/
import Derived.Test.YtjgohbepageicaaGf
import Derived.Laws.MakeOwn
namespace Go.Proofs.Ytjgohbepageicaa.Gb
open Go
set_option linter.unusedVariables false
set_option linter.unusedSimpArgs false

section
variable {P : Program} {Q : Exit → Act → World → Prop} {cx : Cx} {L : List (Nat × Value)} {G : Gh} {H : List Own} {K : List (Nat × Value) → Gh → List Own → Prop}
  {d : Option Tmp} {ty : TypeId} {pos : String} {af : Array Edge} {gu : Option (Nat × Bool)}

/-- these cells can be read, from the first cell of a slice on -/
def Rds (G : Gh) (H : List Own) (A : Option Addr) (cs : List Value) : Prop := cs = [] ∨ ∃ b o, A = some ⟨b, o, none⟩ ∧ ∀ w, Sat G H w → ∀ j v, cs[j]? = some v → w.cell? ⟨b, o + j, none⟩ = some v
theorem Rds.nil (G : Gh) (H : List Own) (A : Option Addr) : Rds G H A [] := .inl rfl
theorem Rds.cs {b o : Nat} {cs : List Value} (h : Cs G b o cs) : Rds G H (some ⟨b, o, none⟩) cs := .inr ⟨b, o, rfl, fun w s j v e => s.agr _ _ _ (h j v e)⟩
theorem Rds.blk {b o j : Nat} {c : Array Value} {t : TypeId} {fr : Nat × Nat} {cs : List Value} (hj : At H j (.blk b (.cells c t fr))) (hc : ∀ j v, cs[j]? = some v → c[o + j]? = some v) : Rds G H (some ⟨b, o, none⟩) cs :=
  .inr ⟨b, o, rfl, fun w s j v e => by rw [Own.cell (s.hold _ (List.mem_of_getElem? hj.get))]; exact hc j v e⟩
theorem Rds.blk0 {b j : Nat} {c : Array Value} {t : TypeId} {fr : Nat × Nat} {cs : List Value} (hj : At H j (.blk b (.cells c t fr))) (hc : c.toList = cs) : Rds G H (some ⟨b, 0, none⟩) cs :=
  Rds.blk (o := 0) hj fun j v e => by rw [← hc] at e; simpa using e
theorem Rds.mono {G' : Gh} {A : Option Addr} {cs : List Value} (h : Rds G H A cs) (hs : ∀ w, Sat G' H w → Sat G H w) : Rds G' H A cs := by
  rcases h with h | ⟨b, o, e, h⟩
  · exact .inl h
  · exact .inr ⟨b, o, e, fun w s => h w (hs w s)⟩
theorem Sat.le {G' : Gh} {w : World} (h : Sat G' H w) (hg : G.le G') : Sat G H w :=
  ⟨fun b o v e => h.agr b o v (hg b o v e), h.hold, h.apart, fun x hx b o hc => by
    cases hgb : G b o with
    | none => rfl
    | some v => have := hg b o v hgb; rw [h.ghost x hx b o hc] at this; cases this⟩
theorem Rds.le {G' : Gh} {A : Option Addr} {cs : List Value} (h : Rds G H A cs) (hg : G.le G') : Rds G' H A cs := h.mono fun _ s => s.le hg

theorem Rds.cons {A : Option Addr} {cs : List Value} (h : Rds G H A cs) (x : Own) : Rds G (x :: H) A cs := by
  rcases h with h | ⟨b, o, e, h⟩
  · exact .inl h
  · exact .inr ⟨b, o, e, fun w s => h w (s.sub (List.sublist_cons_self x H))⟩
/-- a slice's elements, one behind the other -/
theorem Sl.rds {α : Type} {k : Kd α} (hn : 0 < k.n) {A : Option Addr} {xs : List α} (h : Sl k G A xs) : ∃ cs, Rds G H A cs ∧ cs.length = xs.length * k.n ∧ cs.all (·.oneCell') = true ∧ ∀ i x, xs[i]? = some x → k.K G x ((cs.drop (i * k.n)).take k.n) := by
  have key : ∀ (xs : List α) (o0 : Nat) (b : Nat), (∀ i x, xs[i]? = some x → ∃ cs, k.K G x cs ∧ Cs G b (o0 + i * k.n) cs) →
      ∃ cs, Cs G b o0 cs ∧ cs.length = xs.length * k.n ∧ cs.all (·.oneCell') = true ∧ ∀ i x, xs[i]? = some x → k.K G x ((cs.drop (i * k.n)).take k.n) := by
    intro xs
    induction xs with
    | nil => intro o0 b _; exact ⟨[], fun j v e => by simp at e, by simp, rfl, fun i x e => by simp at e⟩
    | cons x xs ih =>
      intro o0 b h
      obtain ⟨c0, hk, hc⟩ := h 0 x rfl
      obtain ⟨cs, h1, h2, h3, h4⟩ := ih (o0 + k.n) b fun i y e => by
        obtain ⟨c, hk, hc⟩ := h (i + 1) y (by simpa using e)
        refine ⟨c, hk, ?_⟩
        rw [show o0 + k.n + i * k.n = o0 + (i + 1) * k.n by rw [Nat.add_mul]; omega]
        exact hc
      have hl := k.len hk
      refine ⟨c0 ++ cs, fun j v e => ?_, by rw [List.length_append, hl, h2, List.length_cons, Nat.add_mul]; omega, by rw [List.all_append, k.one hk, h3]; rfl, fun i y e => ?_⟩
      · rcases Nat.lt_or_ge j k.n with hj | hj
        · rw [List.getElem?_append_left (by omega)] at e
          have := hc j v e
          simpa using this
        · rw [List.getElem?_append_right (by omega), hl] at e
          have := h1 (j - k.n) v e
          rw [show o0 + k.n + (j - k.n) = o0 + j by omega] at this
          exact this
      · cases i with
        | zero =>
          simp only [List.getElem?_cons_zero, Option.some.injEq] at e
          subst e
          simp only [Nat.zero_mul, List.drop_zero]
          rw [← hl, List.take_left]
          exact hk
        | succ i =>
          have := h4 i y (by simpa using e)
          rw [List.drop_append, List.drop_eq_nil_of_le (by rw [hl, Nat.add_mul]; omega), List.nil_append, hl, show (i + 1) * k.n - k.n = i * k.n by rw [Nat.add_mul]; omega]
          exact this
  cases hxs : xs with
  | nil => exact ⟨[], .inl rfl, by simp, rfl, fun i x e => by simp at e⟩
  | cons x r =>
    rw [← hxs]
    obtain ⟨b, o, c0, hA, _, _⟩ := h 0 x (by rw [hxs]; rfl)
    obtain ⟨cs, h1, h2, h3, h4⟩ := key xs o b fun i y e => by
      obtain ⟨b', o', c, hA', hk, hc⟩ := h i y e
      rw [hA] at hA'
      cases hA'
      exact ⟨c, hk, hc⟩
    exact ⟨cs, hA ▸ Rds.cs h1, h2, h3, h4⟩

/-- an array of ours, its first n elements known -/
def Vec (T sz : Nat) (A : Option Addr) (n cap : Nat) (cs : List Value) (x : Own) : Prop :=
  cs.length = n * sz ∧ ((A = none ∧ n = 0 ∧ cap = 0 ∧ x = .spare 0 0 0) ∨ ∃ b c, A = some ⟨b, 0, none⟩ ∧ x = .blk b (.cells c T (0, 0)) ∧ n ≤ cap ∧ c.size = cap * sz ∧ c.toList.take (n * sz) = cs)
theorem Vec.le {T sz : Nat} {A : Option Addr} {n cap : Nat} {cs : List Value} {x : Own} (h : Vec T sz A n cap cs x) : n ≤ cap := by
  rcases h.2 with ⟨_, h1, h2, _⟩ | ⟨b, c, _, _, h, _⟩
  · omega
  · exact h
theorem Vec.rds {T sz : Nat} {A : Option Addr} {n cap : Nat} {cs : List Value} {x : Own} {j : Nat} (h : Vec T sz A n cap cs x) (hj : At H j x) : Rds G H A cs := by
  obtain ⟨hl, ⟨h1, h2, h3, h4⟩ | ⟨b, c, rfl, rfl, h1, h2, rfl⟩⟩ := h
  · subst h2; exact .inl (List.eq_nil_of_length_eq_zero (by simpa using hl))
  · refine Rds.blk (o := 0) hj fun j v e => ?_
    rw [List.getElem?_take] at e
    split at e
    · simpa using e
    · cases e

def evPl (L : List (Nat × Value)) : List (Nat × Operand) → Option (List (Nat × Value))
  | [] => some []
  | p :: r => match ev L p.2, evPl L r with
    | some v, some vs => some ((p.1, v) :: vs)
    | _, _ => none
def evP (L : List (Nat × Value)) (ps : Array (Nat × Operand)) : Option (List (Nat × Value)) := evPl L ps.toList
theorem Sk.evP {a : Act} (h : Sk L a) {ps : Array (Nat × Operand)} {vs : List (Nat × Value)} (hp : evP L ps = some vs) : (ps.map fun (i, x) => (i, a.eval x)).toList = vs := by
  have key : ∀ (l : List (Nat × Operand)) (vs : List (Nat × Value)), evPl L l = some vs → l.map (fun p => (p.1, a.eval p.2)) = vs := by
    intro l
    induction l with
    | nil => intro vs h; simp only [evPl, Option.some.injEq] at h; subst h; rfl
    | cons p l ih =>
      intro vs hh
      simp only [evPl] at hh
      cases hx : ev L p.2 with
      | none => simp [hx] at hh
      | some v =>
        cases hl : evPl L l with
        | none => simp [hx, hl] at hh
        | some us =>
          simp only [hx, hl, Option.some.injEq] at hh
          subst hh
          simp [h.eval hx, ih us hl]
  simpa using key ps.toList vs hp

def fillS (pl : Nat → Option (Nat × Nat)) : List Value → List (Nat × Value) → Option (List Value)
  | cs, [] => some cs
  | cs, (i, v) :: r => match pl i with
    | none => none
    | some (off, size) => bif Nat.beq v.cells.toList.length size && Nat.ble (off + v.cells.toList.length) cs.length then fillS pl (cs.take off ++ v.cells.toList ++ cs.drop (off + v.cells.toList.length)) r else none

theorem foldl_place : ∀ (vs : List Value) (off k : Nat) (cs : List Value), off + k + vs.length ≤ cs.length →
    (vs.zipIdx k).foldl (fun (a : Array Value) (p : Value × Nat) => a.setIfInBounds (off + p.2) p.1) cs.toArray = (cs.take (off + k) ++ vs ++ cs.drop (off + k + vs.length)).toArray
  | [], off, k, cs, h => by simp
  | v :: vs, off, k, cs, h => by
    simp only [List.length_cons] at h
    have ih := foldl_place vs off (k + 1) (cs.set (off + k) v) (by simp; omega)
    simp only [List.zipIdx_cons, List.foldl_cons, List.setIfInBounds_toArray, ih]
    congr 1
    apply List.ext_getElem?
    intro j
    simp only [List.getElem?_append, List.length_take, List.length_set, List.length_cons, List.getElem?_take, List.getElem?_set, List.getElem?_drop, List.length_append]
    by_cases h1 : j < off + k
    · simp [show j < min (off + (k + 1)) cs.length by omega, show j < off + (k + 1) by omega, show off + k ≠ j by omega, h1, show j < min (off + k) cs.length by omega, show j < min (off + (k + 1)) cs.length + vs.length by omega, show j < min (off + k) cs.length + (vs.length + 1) by omega]
    · by_cases h2 : j = off + k
      · subst h2
        simp [show off + k < min (off + (k + 1)) cs.length by omega, show off + k < off + (k + 1) by omega, show ¬ off + k < min (off + k) cs.length by omega, show off + k < cs.length by omega, show off + k - min (off + k) cs.length = 0 by omega, show off + k < min (off + (k + 1)) cs.length + vs.length by omega, show off + k < min (off + k) cs.length + (vs.length + 1) by omega]
      · have e1 : min (off + (k + 1)) cs.length = off + k + 1 := by omega
        have e2 : min (off + k) cs.length = off + k := by omega
        simp only [e1, e2]
        by_cases h3 : j < off + k + 1 + vs.length
        · simp [h3, show ¬ j < off + k + 1 by omega, show j < off + k + (vs.length + 1) by omega, show ¬ j < off + k by omega, show j - (off + k) = (j - (off + k + 1)) + 1 by omega]
        · have h4 : ¬ j < off + k + (vs.length + 1) := by omega
          simp only [h3, h4, if_false]
          have e3 : off + (k + 1) + vs.length + (j - (off + k + 1 + vs.length)) = j := by omega
          have e4 : off + k + (vs.length + 1) + (j - (off + k + (vs.length + 1))) = j := by omega
          simp [e3, e4, show off + k ≠ j by omega]

theorem fill_of_fillS (pl : Nat → Option (Nat × Nat)) : ∀ (vs : List (Nat × Value)) (cs cs' : List Value), fillS pl cs vs = some cs' → Instr.fill pl cs.toArray vs = some cs'.toArray
  | [], cs, cs', h => by simp only [fillS, Option.some.injEq] at h; subst h; rfl
  | (i, v) :: r, cs, cs', h => by
    simp only [fillS] at h
    simp only [Instr.fill]
    cases hp : pl i with
    | none => rw [hp] at h; cases h
    | some q =>
      obtain ⟨off, size⟩ := q
      rw [hp] at h
      simp only at h ⊢
      cases hb : (Nat.beq v.cells.toList.length size && Nat.ble (off + v.cells.toList.length) cs.length) with
      | false => rw [hb] at h; cases h
      | true =>
        rw [hb] at h
        simp only [cond_true] at h
        rw [Bool.and_eq_true] at hb
        have h1 := Nat.eq_of_beq_eq_true hb.1
        have h2 := Nat.le_of_ble_eq_true hb.2
        rw [Array.length_toList] at h1 h2
        have h3 : (v.cells.size ≠ size || off + v.cells.size > cs.toArray.size) = false := by simp [h1]; omega
        rw [h3]
        simp only [Bool.false_eq_true, if_false]
        have h4 := foldl_place v.cells.toList off 0 cs (by rw [Array.length_toList]; omega)
        simp only [Nat.add_zero] at h4
        have h5 : v.cells.zipIdx.foldl (fun (a : Array Value) (p : Value × Nat) => a.setIfInBounds (off + p.2) p.1) cs.toArray = (cs.take off ++ v.cells.toList ++ cs.drop (off + v.cells.toList.length)).toArray := by
          rw [← h4, ← Array.foldl_toList]
          simp
        exact (congrArg (Instr.fill pl · r) h5).trans (fill_of_fillS pl r _ _ h)

def repS : Nat → List Value → List Value
  | 0, _ => []
  | k + 1, z => z ++ repS k z
theorem repS_get (z : List Value) (hz : 0 < z.length) : ∀ (k i : Nat), i < k * z.length → (repS k z)[i]? = some (z[i % z.length]!)
  | 0, i, h => by omega
  | k + 1, i, h => by
    rw [Nat.add_mul] at h
    simp only [repS]
    rcases Nat.lt_or_ge i z.length with hi | hi
    · rw [List.getElem?_append_left hi, Nat.mod_eq_of_lt hi]
      simp [List.getElem!_eq_getElem?_getD, hi]
    · rw [List.getElem?_append_right hi, repS_get z hz k (i - z.length) (by omega), Nat.mod_eq_sub_mod hi]
theorem repS_length (z : List Value) : ∀ k, (repS k z).length = k * z.length
  | 0 => by simp [repS]
  | k + 1 => by simp [repS, repS_length z k, Nat.add_mul]; omega
theorem base_repS (z : Array Value) (n len : Nat) (hz : z.size = n) : (Array.range (len * n)).map (z[· % z.size]!) = (repS len z.toList).toArray := by
  subst hz
  by_cases h0 : z.size = 0
  · have : z = #[] := Array.eq_empty_of_size_eq_zero h0
    subst this
    have e : ∀ k, repS k [] = [] := by intro k; induction k with | zero => rfl | succ k ih => simp [repS, ih]
    simp [Array.range_zero', e]
  · apply Array.ext'
    apply List.ext_getElem?
    intro i
    rcases Nat.lt_or_ge i (len * z.size) with hi | hi
    · have := repS_get z.toList (by simp; omega) len i (by simpa using hi)
      simp only [Array.length_toList] at this
      rw [this]
      simp [hi, List.getElem!_eq_getElem?_getD]
      try rw [Array.getElem!_eq_getD, Array.getD_eq_getD_getElem?]
    · rw [List.getElem?_eq_none (by simpa using hi), List.getElem?_eq_none (by simpa [repS_length] using hi)]

def leLim (x : Nat) : Bool := Nat.ble x 16777216
/-- a list that is written out -/
theorem OW.buildSlice {t e n by_ len : Nat} {z : Value} {ps : Array (Nat × Operand)} {vs : List (Nat × Value)} {cells : List Value} (hp : evP L ps = some vs) [hu : Und P t (.slice e)] [hi : Inf P e n by_ z] (hlim : leLim (len * n) = true) (hz : z.cells.size = n)
    (hf : fillS (fun i => some (i * n, n)) (repS len z.cells.toList) vs = some cells) (hd : dOk d cx.N = true)
    (k : ∀ b, K (putL d (.slice (some ⟨b, 0, none⟩) len len) L) G (.blk b (.cells cells.toArray e (0, 0)) :: H)) : OW P Q ⟨d, .buildSlice t len ps, ty, pos, af, gu⟩ cx L G H K := by
  refine OW.gives hd fun a w st => ⟨.slice (some ⟨w.heap.size, 0, none⟩) len len, w.alloc (.cells cells.toArray e), G, .blk w.heap.size (.cells cells.toArray e (0, 0)) :: H, .inl ?_, st.sat.alloc _, Stp.alloc _, k _⟩
  have hl := Nat.le_of_ble_eq_true hlim
  have he := Sk.evP st.slot hp
  have hl' : ¬ (16777216 < len * n) := by omega
  have hf1 := fill_of_fillS _ _ _ _ hf
  rw [← base_repS z.cells n len hz] at hf1
  have hrun : ∀ PS : Array (Nat × Value), PS.toList = vs → (Instr.buildSlice t len PS).run P w = .ok (.slice (some ⟨w.heap.size, 0, none⟩) len len) (w.alloc (.cells cells.toArray e)) := by
    intro PS he
    by_cases h0 : len * n = 0
    · rw [h0] at hf1
      simp only [Array.range_zero', List.map_toArray, List.map_nil] at hf1
      simp [Instr.buildSlice, run_underlying hu.h, hi.sizeOf, h0, he, newRow, Array.range_zero', hf1]
    · simp [Instr.buildSlice, run_underlying hu.h, hi.sizeOf, hi.zeroValue, h0, hl', he, hf1, newRow]
  simp only [execOp, Sem.run_bind, hrun _ he, Result.andThen_ok]
  rfl

class Plc (P : Program) (t : Nat) (pl : outParam (List (Nat × Nat))) : Prop where
  h : ∀ w : World, ∃ fs, P.underlying t = some (.struct fs) ∧ (fs.toList.mapM fun f => Prod.mk f.offset <$> Go.sizeOf f.type).run P w = .ok pl w
/-- a struct that is written out -/
theorem Gp.build {t n by_ : Nat} {z : Value} {ps : Array (Nat × Operand)} {vs : List (Nat × Value)} {pl : List (Nat × Nat)} {cells : List Value} (hp : evP L ps = some vs) [hi : Inf P t n by_ z] [hpl : Plc P t pl]
    (hf' : fillS (fun i => pl[i]?) z.cells.toList vs = some cells) : Gp P L ⟨d, .build t ps, ty, pos, af, gu⟩ (.agg cells.toArray) := fun a st w => by
  have he := Sk.evP st hp
  have hf := fill_of_fillS _ _ _ _ hf' 
  obtain ⟨fs, h1, h2⟩ := hpl.h w
  have h3 : (fs.mapM fun f => Prod.mk f.offset <$> Go.sizeOf f.type).run P w = .ok pl.toArray w := by
    rw [Array.mapM_eq_mapM_toList]
    simp [h2]
  have hrun : ∀ PS : Array (Nat × Value), PS.toList = vs → (Instr.build t PS).run P w = .ok (.agg cells.toArray) w := by
    intro PS he
    simp [Instr.build, hi.zeroValue, run_underlying h1, he, h3, hf]
  simp only [execOp, Sem.run_bind, hrun _ he, Result.andThen_ok]
  rfl

/-! #### pieces -/
theorem Gp.sliceTo {t e n by_ : Nat} {z : Value} {x y : Operand} {A : Option Addr} {len cap : Nat} {k : IntKind} {i : Int} (hx : ev L x = some (.slice A len cap)) (hy : ev L y = some (.int k i)) [hu : Und P t (.slice e)] [hi : Inf P e n by_ z] (h0 : 0 ≤ i) (h1 : i ≤ cap) :
    Gp P L ⟨d, .slice t x none (some y) none, ty, pos, af, gu⟩ (.slice A i.toNat cap) := fun a st w => by
  have h : (Instr.sliceAt t (.slice A len cap) none (some (.int k i)) none).run P w = .ok (.slice A i.toNat cap) w := by
    have hA : (if cap = 0 then A else A.map fun p => p.add 0) = A := by
      split
      · rfl
      · cases A <;> simp [Addr.add]
    simp only [Instr.sliceAt, Sem.run_bind, run_underlying hu.h, Result.andThen_ok, Instr.slice, Instr.sliceBounds, Instr.sliceBound, asIntOf, Sem.run_pure, Sem.run_ite, h0, h1, and_self, if_true, hi.sizeOf, Nat.sub_zero, Nat.zero_mul, hA]
  simp [execOp, Sk.eval st hx, Sk.eval st hy, h]
theorem Gp.sliceFrom {t e n by_ : Nat} {z : Value} {x y : Operand} {A : Option Addr} {len cap : Nat} {k : IntKind} {i : Int} (hx : ev L x = some (.slice A len cap)) (hy : ev L y = some (.int k i)) [hu : Und P t (.slice e)] [hi : Inf P e n by_ z] (h0 : 0 ≤ i) (h1 : i ≤ len) :
    Gp P L ⟨d, .slice t x (some y) none none, ty, pos, af, gu⟩ (.slice (if cap = i.toNat then A else A.map (·.add (i.toNat * n))) (len - i.toNat) (cap - i.toNat)) := fun a st w => by
  have h : (Instr.sliceAt t (.slice A len cap) (some (.int k i)) none none).run P w = .ok (.slice (if cap = i.toNat then A else A.map (·.add (i.toNat * n))) (len - i.toNat) (cap - i.toNat)) w := by
    simp only [Instr.sliceAt, Sem.run_bind, run_underlying hu.h, Result.andThen_ok, Instr.slice, Instr.sliceBounds, Instr.sliceBound, asIntOf, Sem.run_pure, Sem.run_ite, h0, h1, and_self, if_true, hi.sizeOf]
  simp [execOp, Sk.eval st hx, Sk.eval st hy, h]
theorem Gp.slice2 {t e n by_ : Nat} {z : Value} {x y y' : Operand} {A : Option Addr} {len cap : Nat} {k k' : IntKind} {i j : Int} (hx : ev L x = some (.slice A len cap)) (hy : ev L y = some (.int k i)) (hy' : ev L y' = some (.int k' j)) [hu : Und P t (.slice e)] [hi : Inf P e n by_ z] (h0 : 0 ≤ i) (h1 : i ≤ j) (h2 : j ≤ cap) :
    Gp P L ⟨d, .slice t x (some y) (some y') none, ty, pos, af, gu⟩ (.slice (if cap = i.toNat then A else A.map (·.add (i.toNat * n))) (j.toNat - i.toNat) (cap - i.toNat)) := fun a st w => by
  have hj : 0 ≤ j := by omega
  have h1' : i ≤ (j.toNat : Int) := by omega
  have h : (Instr.sliceAt t (.slice A len cap) (some (.int k i)) (some (.int k' j)) none).run P w = .ok (.slice (if cap = i.toNat then A else A.map (·.add (i.toNat * n))) (j.toNat - i.toNat) (cap - i.toNat)) w := by
    simp only [Instr.sliceAt, Sem.run_bind, run_underlying hu.h, Result.andThen_ok, Instr.slice, Instr.sliceBounds, Instr.sliceBound, asIntOf, Sem.run_pure, Sem.run_ite, h0, h1', h2, hj, and_self, if_true, hi.sizeOf]
  simp [execOp, Sk.eval st hx, Sk.eval st hy, Sk.eval st hy', h]

theorem cell_add (w : World) (b o j : Nat) : w.cell? ((⟨b, o, none⟩ : Addr).add j) = w.cell? ⟨b, o + j, none⟩ := by
  have hadd : (⟨b, o, none⟩ : Addr).add j = ⟨b, o + j, none⟩ := by unfold Addr.add; split <;> simp_all
  rw [hadd]

/-- something of ours lies elsewhere now -/
theorem Sat.swap {w w' : World} (h : Sat G H w) {j : Nat} {x : Own} (hj : At H j x) (ob : Obj) (hw : w' = w.drew.alloc ob) (hf : noFr ob := by first | rfl | trivial) :
    Sat G (H.set j (.blk w.heap.size ob)) w' ∧ Stp (covs H) G w G (H.set j (.blk w.heap.size ob)) w' := by
  subst hw
  have h1 := (h.drew (w' := w.drew) rfl).alloc ob
  have h2a : Stp (covs H) G w G H w.drew := Stp.drew rfl
  have h2b : Stp (covs H) G w.drew G (.blk w.heap.size ob :: H) (w.drew.alloc ob) := Stp.alloc (w := w.drew) ob hf
  have h2 := h2a.then h2b
  have hsz : w.drew.heap.size = w.heap.size := rfl
  rw [hsz] at h1
  -- the new one in the place of the old one: fewer things, in another order
  have hsub : ∀ y ∈ H.set j (.blk w.heap.size ob), y ∈ Own.blk w.heap.size ob :: H := fun y hy => by
    rcases mem_set_or H j _ y hy with rfl | hy
    · exact .head _
    · exact .tail _ hy
  refine ⟨⟨h1.agr, fun y hy => h1.hold y (hsub y hy), ?_, fun y hy => h1.ghost y (hsub y hy)⟩, ⟨h2.size, h2.keep, h2.gle, h2.gnew, fun y hy => h2.own y (hsub y hy), h2.weq⟩⟩
  have hp := List.pairwise_cons.1 h1.apart
  have : ∀ (l : List Own) (j : Nat), l.Pairwise Own.apart → (∀ z ∈ l, Own.apart (.blk w.heap.size ob) z) → (l.set j (.blk w.heap.size ob)).Pairwise Own.apart := by
    intro l
    induction l with
    | nil => intro j _ _; simp
    | cons a l ih =>
      intro j hl hz
      rw [List.pairwise_cons] at hl
      cases j with
      | zero => simp only [List.set_cons_zero, List.pairwise_cons]; exact ⟨fun z hzz => hz z (.tail _ hzz), hl.2⟩
      | succ j =>
        simp only [List.set_cons_succ, List.pairwise_cons]
        refine ⟨fun z hzz => ?_, ih j hl.2 fun z hzz => hz z (.tail _ hzz)⟩
        rcases mem_set_or l j _ z hzz with rfl | hzz
        · exact Own.apart_symm (hz a (.head _))
        · exact hl.1 z hzz
  exact this H j hp.2 hp.1

theorem Vec.rdsFrom {T sz : Nat} {A : Option Addr} {n cap : Nat} {cs : List Value} {x : Own} {j lo : Nat} (h : Vec T sz A n cap cs x) (hj : At H j x) (hlo : lo ≤ n) : Rds G H (if cap = lo then A else A.map (·.add (lo * sz))) (cs.drop (lo * sz)) := by
  by_cases hc : cap = lo
  · have := h.le
    refine .inl (List.drop_eq_nil_of_le ?_)
    rw [h.1, show lo = n by omega]
    exact Nat.le_refl _
  · rw [if_neg hc]
    obtain ⟨hl, ⟨h1, h2, h3, h4⟩ | ⟨b, c, rfl, rfl, h1, h2, rfl⟩⟩ := h
    · subst h2; exact .inl (List.eq_nil_of_length_eq_zero (by simp; omega))
    · have hadd : (⟨b, 0, none⟩ : Addr).add (lo * sz) = ⟨b, lo * sz, none⟩ := by unfold Addr.add; split <;> simp_all
      simp only [Option.map_some, hadd]
      refine Rds.blk hj fun j v e => ?_
      rw [List.getElem?_drop, List.getElem?_take] at e
      split at e
      · simpa using e
      · cases e
theorem Vec.cut {T sz : Nat} {A : Option Addr} {n cap : Nat} {cs : List Value} {x : Own} {m : Nat} (h : Vec T sz A n cap cs x) (hm : m ≤ n) : Vec T sz A m cap (cs.take (m * sz)) x := by
  have hms : m * sz ≤ n * sz := Nat.mul_le_mul_right _ hm
  obtain ⟨hl, ⟨h1, h2, h3, h4⟩ | ⟨b, c, rfl, rfl, h1, h2, rfl⟩⟩ := h
  · exact ⟨by rw [List.length_take, hl]; omega, .inl ⟨h1, by omega, h3, h4⟩⟩
  · exact ⟨by rw [List.length_take, hl]; omega, .inr ⟨b, c, rfl, rfl, by omega, h2, by rw [List.take_take, Nat.min_eq_left hms]⟩⟩
theorem zeroCells_size {sz : Nat} {z : Value} {n : Nat} (hz : z.cells.size = sz) : (Builtin.zeroCells z.cells n).size = n * sz := by rw [size_zeroCells, hz]

theorem set_same {α : Type} : ∀ (l : List α) (j : Nat) (x : α), l[j]? = some x → l.set j x = l
  | [], _, _, _ => rfl
  | a :: l, 0, x, h => by simp at h; simp [h]
  | a :: l, j + 1, x, h => by simp at h; simp [set_same l j x h]

/-- append, onto what is ours -/
theorem OW.append {t e sz by_ : Nat} {z : Value} {x y : Operand} {A B : Option Addr} {n cap m cy j : Nat} {cs news : List Value} {o : Own} (hx : ev L x = some (.slice A n cap)) (hy : ev L y = some (.slice B m cy)) [hu : Und P t (.slice e)] [hi : Inf P e sz by_ z]
    (hz : z.cells.size = sz) (hs0 : Nat.blt 0 sz = true) (hv : Vec e sz A n cap cs o) (hj : At H j o) (hr : Rds G H B news) (hl : news.length = m * sz) (h1 : news.all (·.oneCell') = true)
    (hb : (n + m) * by_ ≤ 140737488355328) (h63 : n + m ≤ 9223372036854775807) (hd : dOk d cx.N = true)
    (k : ∀ A' cap' o', Vec e sz A' (n + m) cap' (cs ++ news) o' → K (putL d (.slice A' (n + m) cap') L) G (H.set j o')) :
    OW P Q ⟨d, .call { callee := .builtin .append, args := #[x, y], argTypes := #[t, t] }, ty, pos, af, gu⟩ cx L G H K := by
  have hsz : 0 < sz := Nat.le_of_ble_eq_true hs0
  refine OW.gives hd fun a w st => ?_
  obtain ⟨ie, hi1, hi2, hi3, hi4⟩ := hi.info
  have hu' := hu.h
  have hrun : ∀ v w', (Builtin.append_ #[t, t] ty #[.slice A n cap, .slice B m cy]).run P w = .ok v w' → (execOp a.eval ⟨d, .call { callee := .builtin .append, args := #[x, y], argTypes := #[t, t] }, ty, pos, af, gu⟩).run P w = .ok (.value v) w' := by
    intro v w' h
    simp only [execOp, resolve, invoke, builtin, Sem.run_bind, Sem.run_pure, Result.andThen_ok, List.map_toArray, List.map_cons, List.map_nil, st.eval hx, st.eval hy, h]
  -- nothing to append
  by_cases hm : m = 0
  · subst hm
    have hn : news = [] := List.eq_nil_of_length_eq_zero (by simpa using hl)
    subst hn
    refine ⟨.slice A n cap, w, G, H, .inl (hrun _ _ ?_), st.sat, Stp.drew rfl, ?_⟩
    · have hle := hv.le
      cases A with
      | none => simp [Builtin.append_, run_underlying hu', sizeOf, typeInfo, hi1, Builtin.lenOf, Builtin.firstCells, hle]; cases B <;> simp [Builtin.firstCells, loadCells, loadCellsFrom]
      | some ad => simp [Builtin.append_, run_underlying hu', sizeOf, typeInfo, hi1, Builtin.lenOf, Builtin.firstCells, hle]; cases B <;> simp [Builtin.firstCells, loadCells, loadCellsFrom, storeCells]
    · have := k A cap o (by simpa using hv)
      simp only [Nat.add_zero] at this
      rw [set_same H j o hj.get] at this
      exact this
  · have hm0 : 0 < m := by omega
    obtain ⟨bB, oB, rfl, hread⟩ : ∃ b o, B = some ⟨b, o, none⟩ ∧ ∀ w, Sat G H w → ∀ j v, news[j]? = some v → w.cell? ⟨b, o + j, none⟩ = some v := by
      rcases hr with h | h
      · have hp := Nat.mul_pos hm0 hsz
        rw [← hl, h] at hp
        simp at hp
      · exact h
    have hnews : ∀ j u, news[j]? = some u → w.cell? ((⟨bB, oB, none⟩ : Addr).add j) = some u := fun j u e => by rw [cell_add]; exact hread w st.sat j u e
    have hl' : news.length = m * ie.size := by rw [hi3]; exact hl
    obtain ⟨hcl, ⟨rfl, rfl, rfl, rfl⟩ | ⟨b, c, rfl, rfl, hnc, hcs, htk⟩⟩ := hv
    · have hcs0 : cs = [] := List.eq_nil_of_length_eq_zero (by simpa using hcl)
      subst hcs0
      have hr := run_append_nil (P := P) w t ty e ie z hu' hi1 hi2 ⟨bB, oB, none⟩ m cy news hl' hnews hm0 (by omega) (by have h' := hb; simp only [Nat.zero_add] at h'; rw [hi4]; omega)
      have hg := grownCap_ge w m 0 e
      have hsw := st.sat.swap hj (.cells (news.toArray ++ Builtin.zeroCells z.cells (grownCap w m 0 e - m)) e) rfl
      refine ⟨_, _, G, _, .inl (hrun _ _ hr), hsw.1, hsw.2, ?_⟩
      have := k (some ⟨w.heap.size, 0, none⟩) (grownCap w m 0 e) (.blk w.heap.size (.cells (news.toArray ++ Builtin.zeroCells z.cells (grownCap w m 0 e - m)) e)) ⟨by simpa using hl, .inr ⟨_, _, rfl, rfl, by omega, ?_, ?_⟩⟩
      · simpa using this
      · rw [Array.size_append, List.size_toArray, zeroCells_size hz, hl, ← Nat.add_mul]; congr 1; omega
      · simp only [Array.toList_append, List.nil_append, Nat.zero_add]; rw [← hl]; exact List.take_left
    · by_cases hroom : n + m ≤ cap
      · have hbw : w.heap[b]? = some (.cells c e (0, 0)) := st.sat.hold _ (List.mem_of_getElem? hj.get)
        have hfit : n * sz + news.length ≤ c.size := by rw [hl, hcs, ← Nat.add_mul]; exact Nat.mul_le_mul_right _ hroom
        have hr := run_append_room (P := P) w t ty e ie hu' hi1 b n cap c hbw ⟨bB, oB, none⟩ m cy news hl' hnews (fun u hu => List.all_eq_true.1 h1 u hu) hroom (by rw [hi3]; exact hfit)
        rw [hi3] at hr
        have hsp := st.sat.splice (o := n * sz) (cs := news) hj hfit
        refine ⟨_, _, G, _, .inl (hrun _ _ hr), hsp.1, hsp.2, k _ _ _ ⟨by rw [List.length_append, hcl, hl, Nat.add_mul], .inr ⟨b, _, rfl, rfl, hroom, by rw [size_splice hfit, hcs], ?_⟩⟩⟩
        simp only [splice]
        rw [htk, show (n + m) * sz = (cs ++ news).length by rw [List.length_append, hcl, hl, Nat.add_mul]]
        exact List.take_left
      · have hbw : w.heap[b]? = some (.cells c e (0, 0)) := st.sat.hold _ (List.mem_of_getElem? hj.get)
        have holds : ∀ j v, cs[j]? = some v → w.cell? ((⟨b, 0, none⟩ : Addr).add j) = some v := fun j v e => by
          rw [cell_add, cell_of_row w b _ c _ _ hbw, ← htk] at *
          rw [List.getElem?_take] at e
          split at e
          · simpa using e
          · cases e
        have hr := run_append_grow (P := P) w t ty e ie z hu' hi1 hi2 ⟨b, 0, none⟩ n cap cs (by rw [hi3]; exact hcl) holds ⟨bB, oB, none⟩ m cy news hl' hnews (by omega) (by omega) (growslice_fits (by omega) (by rw [hi4]; exact hb))
        have hg := grownCap_ge w (n + m) cap e
        have hsw := st.sat.swap hj (.cells (cs.toArray ++ news.toArray ++ Builtin.zeroCells z.cells (grownCap w (n + m) cap e - (n + m))) e) rfl
        refine ⟨_, _, G, _, .inl (hrun _ _ hr), hsw.1, hsw.2, k _ _ _ ⟨by rw [List.length_append, hcl, hl, Nat.add_mul], .inr ⟨_, _, rfl, rfl, hg, ?_, ?_⟩⟩⟩
        · simp only [Array.size_append, List.size_toArray, zeroCells_size hz, hl, hcl, ← Nat.add_mul]; congr 1; omega
        · simp only [Array.toList_append]
          rw [show (n + m) * sz = (cs ++ news).length by rw [List.length_append, hcl, hl, Nat.add_mul]]
          exact List.take_left

/-- nothing is ours too -/
theorem Sat.nothing {w : World} (h : Sat G H w) : Sat G (.spare 0 0 0 :: H) w :=
  ⟨h.agr, fun x hx => by
    rcases List.mem_cons.1 hx with rfl | hx
    · intro hlt; omega
    · exact h.hold x hx, List.pairwise_cons.2 ⟨fun y _ b o hc => by simp only [Own.cov] at hc; omega, h.apart⟩, fun x hx b o hc => by
    rcases List.mem_cons.1 hx with rfl | hx
    · simp only [Own.cov] at hc; omega
    · exact h.ghost x hx b o hc⟩
theorem Stp.nothing {S : Nat → Nat → Prop} {G0 : Gh} {w0 w : World} (h : Stp S G0 w0 G H w) : Stp S G0 w0 G (.spare 0 0 0 :: H) w :=
  ⟨h.size, h.keep, h.gle, h.gnew, fun x hx b o hc => by
    rcases List.mem_cons.1 hx with rfl | hx
    · simp only [Own.cov] at hc; omega
    · exact h.own x hx b o hc, h.weq⟩
theorem WK.nothing {K : Act → World → Prop} (h : WK K cx L G (.spare 0 0 0 :: H)) : WK K cx L G H :=
  fun a w st => h a w ⟨st.size, st.defs, st.slot, st.sat.nothing, st.stp.nothing⟩
theorem WC.nothing {c : Code} (h : WC P c Q cx L G (.spare 0 0 0 :: H)) : WC P c Q cx L G H :=
  fun a w st => h a w ⟨st.size, st.defs, st.slot, st.sat.nothing, st.stp.nothing⟩

/-- these slots are among those that are known -/
def AllLk (L : List (Nat × Value)) : List (Nat × Value) → Prop
  | [] => True
  | (t, v) :: r => lk L t = some v ∧ AllLk L r
theorem AllLk.sub {L L' : List (Nat × Value)} (h : AllLk L L') : ∀ t v, lk L' t = some v → lk L t = some v := by
  induction L' with
  | nil => intro t v e; simp [lk] at e
  | cons p r ih =>
    obtain ⟨k, u⟩ := p
    intro t v e
    simp only [lk] at e
    by_cases hk : k = t
    · subst hk
      simp only [Nat.beq_refl, cond_true, Option.some.injEq] at e
      subst e
      exact h.1
    · have hb : Nat.beq k t = false := by cases hbb : Nat.beq k t with | false => rfl | true => exact absurd (Nat.eq_of_beq_eq_true hbb) hk
      rw [hb] at e
      exact ih h.2 t v e

/-- a loop, by what holds at the head of each round -/
theorem WC.loop {c : Code} {X : Type} (Lf : X → List (Nat × Value)) (Gf : X → Gh) (Hf : X → List Own) (μ : X → Nat) (ok : X → Prop) (x0 : X) (h0 : ok x0) (hL : AllLk L (Lf x0)) (hG : Gf x0 = G) (hH : (Hf x0).Sublist H)
    (round : ∀ x, ok x → WC P c (Exit.then (fun a w => ∃ x', μ x' < μ x ∧ ok x' ∧ St cx (Lf x') (Gf x') (Hf x') a w) Q) cx (Lf x) (Gf x) (Hf x)) : WC P (.loop c) Q cx L G H := by
  intro a w st
  refine wp_loop_fuel (A := fun k x a w => μ x = k ∧ ok x ∧ St cx (Lf x) (Gf x) (Hf x) a w) (x0 := x0) ⟨rfl, h0, hG ▸ st.weaken hL.sub hH⟩ ?_
  rintro k x a w ⟨rfl, hok, st⟩
  refine Code.wp_mono (fun e a w q => ?_) (round x hok a w st)
  cases e <;> first
    | exact q
    | (obtain ⟨x', h1, h2, h3⟩ := q; exact ⟨_, x', h1, rfl, h2, h3⟩)
theorem WK.again {X : Type} {Lf : X → List (Nat × Value)} {Gf : X → Gh} {Hf : X → List Own} {μ : X → Nat} {ok : X → Prop} {x : X} (x' : X) (h1 : μ x' < μ x) (h2 : ok x') (hL : AllLk L (Lf x')) (hG : Gf x' = G) (hH : (Hf x').Sublist H) :
    WK (fun a w => ∃ x', μ x' < μ x ∧ ok x' ∧ St cx (Lf x') (Gf x') (Hf x') a w) cx L G H :=
  fun a w st => ⟨x', h1, h2, hG ▸ st.weaken hL.sub hH⟩
/-- ways that meet -/
theorem WC.join {x y : Code} {X : Type} (Lf : X → List (Nat × Value)) (Gf : X → Gh) (Hf : X → List Own) (ok : X → Prop)
    (h : WC P x (Exit.then (fun a w => ∃ x, ok x ∧ St cx (Lf x) (Gf x) (Hf x) a w) Q) cx L G H) (hy : ∀ x, ok x → WC P y Q cx (Lf x) (Gf x) (Hf x)) : WC P (.seq x y) Q cx L G H :=
  WC.seqJ _ h fun a w ⟨x, h1, h2⟩ => hy x h1 a w h2
theorem WK.meet {X : Type} {Lf : X → List (Nat × Value)} {Gf : X → Gh} {Hf : X → List Own} {ok : X → Prop} (x' : X) (h2 : ok x') (hL : AllLk L (Lf x')) (hG : Gf x' = G) (hH : (Hf x').Sublist H) :
    WK (fun a w => ∃ x, ok x ∧ St cx (Lf x) (Gf x) (Hf x) a w) cx L G H :=
  fun a w st => ⟨x', h2, hG ▸ st.weaken hL.sub hH⟩

theorem perm_at {l : List Own} {j : Nat} {x : Own} (h : At l j x) : l.Perm (x :: l.eraseIdx j) := by
  induction h with
  | here => exact List.Perm.refl _
  | there _ ih => exact (List.Perm.cons _ ih).trans (List.Perm.swap _ _ _)
end
end Go.Proofs.Ytjgohbepageicaa.Gb
