/- Slices: cut, made, appended to; what is ours becomes what stays. What is known of the types and functions of this seat, as the rules of the small logic ask for it. More rules: lists that are made and copied into, memory that comes to stay, calls that are put off, what is behind an interface. Calls that are put off, what recovers, function values, interfaces. -/
import Derived.Test.YtbfgljcjblfleaaGreatDoorMa
import Derived.Laws.MakeOwn
import Derived.Test.YtbfgljcjblfleaaGreatDoorProg
import Derived.Recover
import Derived.WideLaws
import Derived.Laws.CopyRow
import Derived.Laws.Pointers
set_option linter.unusedVariables false
set_option linter.unusedSimpArgs false
set_option linter.unusedSectionVars false
namespace Go.Proofs.YtbfgljcjblfleaaGreatDoor.Gb
open Go
section
variable {P : Program} {Q : Exit → Act → World → Prop} {cx : Cx} {L : List (Nat × Value)} {G : Gh} {H : List Own} {K : List (Nat × Value) → Gh → List Own → Prop}
  {d : Option Tmp} {ty : TypeId} {pos : String} {af : Array Edge} {gu : Option (Nat × Bool)}
def Rds (G : Gh) (H : List Own) (A : Option Addr) (cs : List Value) : Prop := cs = [] ∨ ∃ b o, A = some ⟨b, o, none⟩ ∧ ∀ w, Sat G H w → ∀ j v, cs[j]? = some v → w.cell? ⟨b, o + j, none⟩ = some v
theorem Rds.nil (G : Gh) (H : List Own) (A : Option Addr) : Rds G H A [] := .inl rfl
theorem Rds.cs {b o : Nat} {cs : List Value} (h : Cs G b o cs) : Rds G H (some ⟨b, o, none⟩) cs := .inr ⟨b, o, rfl, fun w s j v e => s.agr _ _ _ (h j v e)⟩
theorem Rds.blk {b o j : Nat} {c : Array Value} {t : TypeId} {fr : Nat × Nat} {cs : List Value} (hj : At H j (.blk b (.cells c t fr))) (hc : ∀ j v, cs[j]? = some v → c[o + j]? = some v) : Rds G H (some ⟨b, o, none⟩) cs :=
  .inr ⟨b, o, rfl, fun w s j v e => by rw [Own.cell (s.hold _ (List.mem_of_getElem? hj.get))]; exact hc j v e⟩
theorem Rds.blk0 {b j : Nat} {c : Array Value} {t : TypeId} {fr : Nat × Nat} {cs : List Value} (hj : At H j (.blk b (.cells c t fr))) (hc : c.toList = cs) : Rds G H (some ⟨b, 0, none⟩) cs :=
  Rds.blk (o := 0) hj fun j v e => by rw [← hc] at e; simpa using e
theorem Rds.mono {G' : Gh} {A : Option Addr} {cs : List Value} (h : Rds G H A cs) (hs : ∀ w, Sat G' H w → Sat G H w) : Rds G' H A cs := by
  rcases h with h | ⟨b, o, e, h⟩
  · exact .inl h
  · exact .inr ⟨b, o, e, fun w s => h w (hs w s)⟩
theorem Sat.le {G' : Gh} {w : World} (h : Sat G' H w) (hg : G.le G') : Sat G H w :=
  ⟨fun b o v e => h.agr b o v (hg b o v e), h.hold, h.apart, fun x hx b o hc => by
    cases hgb : G b o with
    | none => rfl
    | some v => have := hg b o v hgb; rw [h.ghost x hx b o hc] at this; cases this⟩
theorem Rds.le {G' : Gh} {A : Option Addr} {cs : List Value} (h : Rds G H A cs) (hg : G.le G') : Rds G' H A cs := h.mono fun _ s => s.le hg
theorem Rds.cons {A : Option Addr} {cs : List Value} (h : Rds G H A cs) (x : Own) : Rds G (x :: H) A cs := by
  rcases h with h | ⟨b, o, e, h⟩
  · exact .inl h
  · exact .inr ⟨b, o, e, fun w s => h w (s.sub (List.sublist_cons_self x H))⟩
theorem Sl.rds {α : Type} {k : Kd α} (hn : 0 < k.n) {A : Option Addr} {xs : List α} (h : Sl k G A xs) : ∃ cs, Rds G H A cs ∧ cs.length = xs.length * k.n ∧ cs.all (·.oneCell') = true ∧ ∀ i x, xs[i]? = some x → k.K G x ((cs.drop (i * k.n)).take k.n) := by
  have key : ∀ (xs : List α) (o0 : Nat) (b : Nat), (∀ i x, xs[i]? = some x → ∃ cs, k.K G x cs ∧ Cs G b (o0 + i * k.n) cs) →
      ∃ cs, Cs G b o0 cs ∧ cs.length = xs.length * k.n ∧ cs.all (·.oneCell') = true ∧ ∀ i x, xs[i]? = some x → k.K G x ((cs.drop (i * k.n)).take k.n) := by
    intro xs
    induction xs with
    | nil => intro o0 b _; exact ⟨[], fun j v e => by simp at e, by simp, rfl, fun i x e => by simp at e⟩
    | cons x xs ih =>
      intro o0 b h
      obtain ⟨c0, hk, hc⟩ := h 0 x rfl
      obtain ⟨cs, h1, h2, h3, h4⟩ := ih (o0 + k.n) b fun i y e => by
        obtain ⟨c, hk, hc⟩ := h (i + 1) y (by simpa using e)
        refine ⟨c, hk, ?_⟩
        rw [show o0 + k.n + i * k.n = o0 + (i + 1) * k.n by rw [Nat.add_mul]; omega]
        exact hc
      have hl := k.len hk
      refine ⟨c0 ++ cs, fun j v e => ?_, by rw [List.length_append, hl, h2, List.length_cons, Nat.add_mul]; omega, by rw [List.all_append, k.one hk, h3]; rfl, fun i y e => ?_⟩
      · rcases Nat.lt_or_ge j k.n with hj | hj
        · rw [List.getElem?_append_left (by omega)] at e
          have := hc j v e
          simpa using this
        · rw [List.getElem?_append_right (by omega), hl] at e
          have := h1 (j - k.n) v e
          rw [show o0 + k.n + (j - k.n) = o0 + j by omega] at this
          exact this
      · cases i with
        | zero =>
          simp only [List.getElem?_cons_zero, Option.some.injEq] at e
          subst e
          simp only [Nat.zero_mul, List.drop_zero]
          rw [← hl, List.take_left]
          exact hk
        | succ i =>
          have := h4 i y (by simpa using e)
          rw [List.drop_append, List.drop_eq_nil_of_le (by rw [hl, Nat.add_mul]; omega), List.nil_append, hl, show (i + 1) * k.n - k.n = i * k.n by rw [Nat.add_mul]; omega]
          exact this
  cases hxs : xs with
  | nil => exact ⟨[], .inl rfl, by simp, rfl, fun i x e => by simp at e⟩
  | cons x r =>
    rw [← hxs]
    obtain ⟨b, o, c0, hA, _, _⟩ := h 0 x (by rw [hxs]; rfl)
    obtain ⟨cs, h1, h2, h3, h4⟩ := key xs o b fun i y e => by
      obtain ⟨b', o', c, hA', hk, hc⟩ := h i y e
      rw [hA] at hA'
      cases hA'
      exact ⟨c, hk, hc⟩
    exact ⟨cs, hA ▸ Rds.cs h1, h2, h3, h4⟩
def Vec (T sz : Nat) (A : Option Addr) (n cap : Nat) (cs : List Value) (x : Own) : Prop :=
  cs.length = n * sz ∧ ((A = none ∧ n = 0 ∧ cap = 0 ∧ x = .spare 0 0 0) ∨ ∃ b c, A = some ⟨b, 0, none⟩ ∧ x = .blk b (.cells c T (0, 0)) ∧ n ≤ cap ∧ c.size = cap * sz ∧ c.toList.take (n * sz) = cs)
theorem Vec.le {T sz : Nat} {A : Option Addr} {n cap : Nat} {cs : List Value} {x : Own} (h : Vec T sz A n cap cs x) : n ≤ cap := by
  rcases h.2 with ⟨_, h1, h2, _⟩ | ⟨b, c, _, _, h, _⟩
  · omega
  · exact h
theorem Vec.rds {T sz : Nat} {A : Option Addr} {n cap : Nat} {cs : List Value} {x : Own} {j : Nat} (h : Vec T sz A n cap cs x) (hj : At H j x) : Rds G H A cs := by
  obtain ⟨hl, ⟨h1, h2, h3, h4⟩ | ⟨b, c, rfl, rfl, h1, h2, rfl⟩⟩ := h
  · subst h2; exact .inl (List.eq_nil_of_length_eq_zero (by simpa using hl))
  · refine Rds.blk (o := 0) hj fun j v e => ?_
    rw [List.getElem?_take] at e
    split at e
    · simpa using e
    · cases e
def evPl (L : List (Nat × Value)) : List (Nat × Operand) → Option (List (Nat × Value))
  | [] => some []
  | p :: r => match ev L p.2, evPl L r with
    | some v, some vs => some ((p.1, v) :: vs)
    | _, _ => none
def evP (L : List (Nat × Value)) (ps : Array (Nat × Operand)) : Option (List (Nat × Value)) := evPl L ps.toList
theorem Sk.evP {a : Act} (h : Sk L a) {ps : Array (Nat × Operand)} {vs : List (Nat × Value)} (hp : evP L ps = some vs) : (ps.map fun (i, x) => (i, a.eval x)).toList = vs := by
  have key : ∀ (l : List (Nat × Operand)) (vs : List (Nat × Value)), evPl L l = some vs → l.map (fun p => (p.1, a.eval p.2)) = vs := by
    intro l
    induction l with
    | nil => intro vs h; simp only [evPl, Option.some.injEq] at h; subst h; rfl
    | cons p l ih =>
      intro vs hh
      simp only [evPl] at hh
      cases hx : ev L p.2 with
      | none => simp [hx] at hh
      | some v =>
        cases hl : evPl L l with
        | none => simp [hx, hl] at hh
        | some us =>
          simp only [hx, hl, Option.some.injEq] at hh
          subst hh
          simp [h.eval hx, ih us hl]
  simpa using key ps.toList vs hp
def fillS (pl : Nat → Option (Nat × Nat)) : List Value → List (Nat × Value) → Option (List Value)
  | cs, [] => some cs
  | cs, (i, v) :: r => match pl i with
    | none => none
    | some (off, size) => bif Nat.beq v.cells.toList.length size && Nat.ble (off + v.cells.toList.length) cs.length then fillS pl (cs.take off ++ v.cells.toList ++ cs.drop (off + v.cells.toList.length)) r else none
theorem foldl_place : ∀ (vs : List Value) (off k : Nat) (cs : List Value), off + k + vs.length ≤ cs.length →
    (vs.zipIdx k).foldl (fun (a : Array Value) (p : Value × Nat) => a.setIfInBounds (off + p.2) p.1) cs.toArray = (cs.take (off + k) ++ vs ++ cs.drop (off + k + vs.length)).toArray
  | [], off, k, cs, h => by simp
  | v :: vs, off, k, cs, h => by
    simp only [List.length_cons] at h
    have ih := foldl_place vs off (k + 1) (cs.set (off + k) v) (by simp; omega)
    simp only [List.zipIdx_cons, List.foldl_cons, List.setIfInBounds_toArray, ih]
    congr 1
    apply List.ext_getElem?
    intro j
    simp only [List.getElem?_append, List.length_take, List.length_set, List.length_cons, List.getElem?_take, List.getElem?_set, List.getElem?_drop, List.length_append]
    by_cases h1 : j < off + k
    · simp [show j < min (off + (k + 1)) cs.length by omega, show j < off + (k + 1) by omega, show off + k ≠ j by omega, h1, show j < min (off + k) cs.length by omega, show j < min (off + (k + 1)) cs.length + vs.length by omega, show j < min (off + k) cs.length + (vs.length + 1) by omega]
    · by_cases h2 : j = off + k
      · subst h2
        simp [show off + k < min (off + (k + 1)) cs.length by omega, show off + k < off + (k + 1) by omega, show ¬ off + k < min (off + k) cs.length by omega, show off + k < cs.length by omega, show off + k - min (off + k) cs.length = 0 by omega, show off + k < min (off + (k + 1)) cs.length + vs.length by omega, show off + k < min (off + k) cs.length + (vs.length + 1) by omega]
      · have e1 : min (off + (k + 1)) cs.length = off + k + 1 := by omega
        have e2 : min (off + k) cs.length = off + k := by omega
        simp only [e1, e2]
        by_cases h3 : j < off + k + 1 + vs.length
        · simp [h3, show ¬ j < off + k + 1 by omega, show j < off + k + (vs.length + 1) by omega, show ¬ j < off + k by omega, show j - (off + k) = (j - (off + k + 1)) + 1 by omega]
        · have h4 : ¬ j < off + k + (vs.length + 1) := by omega
          simp only [h3, h4, if_false]
          have e3 : off + (k + 1) + vs.length + (j - (off + k + 1 + vs.length)) = j := by omega
          have e4 : off + k + (vs.length + 1) + (j - (off + k + (vs.length + 1))) = j := by omega
          simp [e3, e4, show off + k ≠ j by omega]
theorem fill_of_fillS (pl : Nat → Option (Nat × Nat)) : ∀ (vs : List (Nat × Value)) (cs cs' : List Value), fillS pl cs vs = some cs' → Instr.fill pl cs.toArray vs = some cs'.toArray
  | [], cs, cs', h => by simp only [fillS, Option.some.injEq] at h; subst h; rfl
  | (i, v) :: r, cs, cs', h => by
    simp only [fillS] at h
    simp only [Instr.fill]
    cases hp : pl i with
    | none => rw [hp] at h; cases h
    | some q =>
      obtain ⟨off, size⟩ := q
      rw [hp] at h
      simp only at h ⊢
      cases hb : (Nat.beq v.cells.toList.length size && Nat.ble (off + v.cells.toList.length) cs.length) with
      | false => rw [hb] at h; cases h
      | true =>
        rw [hb] at h
        simp only [cond_true] at h
        rw [Bool.and_eq_true] at hb
        have h1 := Nat.eq_of_beq_eq_true hb.1
        have h2 := Nat.le_of_ble_eq_true hb.2
        rw [Array.length_toList] at h1 h2
        have h3 : (v.cells.size ≠ size || off + v.cells.size > cs.toArray.size) = false := by simp [h1]; omega
        rw [h3]
        simp only [Bool.false_eq_true, if_false]
        have h4 := foldl_place v.cells.toList off 0 cs (by rw [Array.length_toList]; omega)
        simp only [Nat.add_zero] at h4
        have h5 : v.cells.zipIdx.foldl (fun (a : Array Value) (p : Value × Nat) => a.setIfInBounds (off + p.2) p.1) cs.toArray = (cs.take off ++ v.cells.toList ++ cs.drop (off + v.cells.toList.length)).toArray := by
          rw [← h4, ← Array.foldl_toList]
          simp
        exact (congrArg (Instr.fill pl · r) h5).trans (fill_of_fillS pl r _ _ h)
def repS : Nat → List Value → List Value
  | 0, _ => []
  | k + 1, z => z ++ repS k z
theorem repS_get (z : List Value) (hz : 0 < z.length) : ∀ (k i : Nat), i < k * z.length → (repS k z)[i]? = some (z[i % z.length]!)
  | 0, i, h => by omega
  | k + 1, i, h => by
    rw [Nat.add_mul] at h
    simp only [repS]
    rcases Nat.lt_or_ge i z.length with hi | hi
    · rw [List.getElem?_append_left hi, Nat.mod_eq_of_lt hi]
      simp [List.getElem!_eq_getElem?_getD, hi]
    · rw [List.getElem?_append_right hi, repS_get z hz k (i - z.length) (by omega), Nat.mod_eq_sub_mod hi]
theorem repS_length (z : List Value) : ∀ k, (repS k z).length = k * z.length
  | 0 => by simp [repS]
  | k + 1 => by simp [repS, repS_length z k, Nat.add_mul]; omega
theorem base_repS (z : Array Value) (n len : Nat) (hz : z.size = n) : (Array.range (len * n)).map (z[· % z.size]!) = (repS len z.toList).toArray := by
  subst hz
  by_cases h0 : z.size = 0
  · have : z = #[] := Array.eq_empty_of_size_eq_zero h0
    subst this
    have e : ∀ k, repS k [] = [] := by intro k; induction k with | zero => rfl | succ k ih => simp [repS, ih]
    simp [Array.range_zero', e]
  · apply Array.ext'
    apply List.ext_getElem?
    intro i
    rcases Nat.lt_or_ge i (len * z.size) with hi | hi
    · have := repS_get z.toList (by simp; omega) len i (by simpa using hi)
      simp only [Array.length_toList] at this
      rw [this]
      simp [hi, List.getElem!_eq_getElem?_getD]
      try rw [Array.getElem!_eq_getD, Array.getD_eq_getD_getElem?]
    · rw [List.getElem?_eq_none (by simpa using hi), List.getElem?_eq_none (by simpa [repS_length] using hi)]
def leLim (x : Nat) : Bool := Nat.ble x 16777216
theorem OW.buildSlice {t e n by_ len : Nat} {z : Value} {ps : Array (Nat × Operand)} {vs : List (Nat × Value)} {cells : List Value} (hp : evP L ps = some vs) [hu : Und P t (.slice e)] [hi : Inf P e n by_ z] (hlim : leLim (len * n) = true) (hz : z.cells.size = n)
    (hf : fillS (fun i => some (i * n, n)) (repS len z.cells.toList) vs = some cells) (hd : dOk d cx.N = true)
    (k : ∀ b, K (putL d (.slice (some ⟨b, 0, none⟩) len len) L) G (.blk b (.cells cells.toArray e (0, 0)) :: H)) : OW P Q ⟨d, .buildSlice t len ps, ty, pos, af, gu⟩ cx L G H K := by
  refine OW.gives hd fun a w st => ⟨.slice (some ⟨w.heap.size, 0, none⟩) len len, w.alloc (.cells cells.toArray e), G, .blk w.heap.size (.cells cells.toArray e (0, 0)) :: H, .inl ?_, st.sat.alloc _, Stp.alloc _, k _⟩
  have hl := Nat.le_of_ble_eq_true hlim
  have he := Sk.evP st.slot hp
  have hl' : ¬ (16777216 < len * n) := by omega
  have hf1 := fill_of_fillS _ _ _ _ hf
  rw [← base_repS z.cells n len hz] at hf1
  have hrun : ∀ PS : Array (Nat × Value), PS.toList = vs → (Instr.buildSlice t len PS).run P w = .ok (.slice (some ⟨w.heap.size, 0, none⟩) len len) (w.alloc (.cells cells.toArray e)) := by
    intro PS he
    by_cases h0 : len * n = 0
    · rw [h0] at hf1
      simp only [Array.range_zero', List.map_toArray, List.map_nil] at hf1
      simp [Instr.buildSlice, run_underlying hu.h, hi.sizeOf, h0, he, newRow, Array.range_zero', hf1]
    · simp [Instr.buildSlice, run_underlying hu.h, hi.sizeOf, hi.zeroValue, h0, hl', he, hf1, newRow]
  simp only [execOp, Sem.run_bind, hrun _ he, Result.andThen_ok]
  rfl
class Plc (P : Program) (t : Nat) (pl : outParam (List (Nat × Nat))) : Prop where
  h : ∀ w : World, ∃ fs, P.underlying t = some (.struct fs) ∧ (fs.toList.mapM fun f => Prod.mk f.offset <$> Go.sizeOf f.type).run P w = .ok pl w
theorem Gp.build {t n by_ : Nat} {z : Value} {ps : Array (Nat × Operand)} {vs : List (Nat × Value)} {pl : List (Nat × Nat)} {cells : List Value} (hp : evP L ps = some vs) [hi : Inf P t n by_ z] [hpl : Plc P t pl]
    (hf' : fillS (fun i => pl[i]?) z.cells.toList vs = some cells) : Gp P L ⟨d, .build t ps, ty, pos, af, gu⟩ (.agg cells.toArray) := fun a st w => by
  have he := Sk.evP st hp
  have hf := fill_of_fillS _ _ _ _ hf' 
  obtain ⟨fs, h1, h2⟩ := hpl.h w
  have h3 : (fs.mapM fun f => Prod.mk f.offset <$> Go.sizeOf f.type).run P w = .ok pl.toArray w := by
    rw [Array.mapM_eq_mapM_toList]
    simp [h2]
  have hrun : ∀ PS : Array (Nat × Value), PS.toList = vs → (Instr.build t PS).run P w = .ok (.agg cells.toArray) w := by
    intro PS he
    simp [Instr.build, hi.zeroValue, run_underlying h1, he, h3, hf]
  simp only [execOp, Sem.run_bind, hrun _ he, Result.andThen_ok]
  rfl
theorem Gp.sliceTo {t e n by_ : Nat} {z : Value} {x y : Operand} {A : Option Addr} {len cap : Nat} {k : IntKind} {i : Int} (hx : ev L x = some (.slice A len cap)) (hy : ev L y = some (.int k i)) [hu : Und P t (.slice e)] [hi : Inf P e n by_ z] (h0 : 0 ≤ i) (h1 : i ≤ cap) :
    Gp P L ⟨d, .slice t x none (some y) none, ty, pos, af, gu⟩ (.slice A i.toNat cap) := fun a st w => by
  have h : (Instr.sliceAt t (.slice A len cap) none (some (.int k i)) none).run P w = .ok (.slice A i.toNat cap) w := by
    have hA : (if cap = 0 then A else A.map fun p => p.add 0) = A := by
      split
      · rfl
      · cases A <;> simp [Addr.add]
    simp only [Instr.sliceAt, Sem.run_bind, run_underlying hu.h, Result.andThen_ok, Instr.slice, Instr.sliceBounds, Instr.sliceBound, asIntOf, Sem.run_pure, Sem.run_ite, h0, h1, and_self, if_true, hi.sizeOf, Nat.sub_zero, Nat.zero_mul, hA]
  simp [execOp, Sk.eval st hx, Sk.eval st hy, h]
theorem Gp.sliceFrom {t e n by_ : Nat} {z : Value} {x y : Operand} {A : Option Addr} {len cap : Nat} {k : IntKind} {i : Int} (hx : ev L x = some (.slice A len cap)) (hy : ev L y = some (.int k i)) [hu : Und P t (.slice e)] [hi : Inf P e n by_ z] (h0 : 0 ≤ i) (h1 : i ≤ len) :
    Gp P L ⟨d, .slice t x (some y) none none, ty, pos, af, gu⟩ (.slice (if cap = i.toNat then A else A.map (·.add (i.toNat * n))) (len - i.toNat) (cap - i.toNat)) := fun a st w => by
  have h : (Instr.sliceAt t (.slice A len cap) (some (.int k i)) none none).run P w = .ok (.slice (if cap = i.toNat then A else A.map (·.add (i.toNat * n))) (len - i.toNat) (cap - i.toNat)) w := by
    simp only [Instr.sliceAt, Sem.run_bind, run_underlying hu.h, Result.andThen_ok, Instr.slice, Instr.sliceBounds, Instr.sliceBound, asIntOf, Sem.run_pure, Sem.run_ite, h0, h1, and_self, if_true, hi.sizeOf]
  simp [execOp, Sk.eval st hx, Sk.eval st hy, h]
theorem cell_add (w : World) (b o j : Nat) : w.cell? ((⟨b, o, none⟩ : Addr).add j) = w.cell? ⟨b, o + j, none⟩ := by
  have hadd : (⟨b, o, none⟩ : Addr).add j = ⟨b, o + j, none⟩ := by unfold Addr.add; split <;> simp_all
  rw [hadd]
theorem Sat.swap {w w' : World} (h : Sat G H w) {j : Nat} {x : Own} (hj : At H j x) (ob : Obj) (hw : w' = w.drew.alloc ob) (hf : noFr ob := by first | rfl | trivial) :
    Sat G (H.set j (.blk w.heap.size ob)) w' ∧ Stp (covs H) G w G (H.set j (.blk w.heap.size ob)) w' := by
  subst hw
  have h1 := (h.drew (w' := w.drew) rfl).alloc ob
  have h2a : Stp (covs H) G w G H w.drew := Stp.drew rfl
  have h2b : Stp (covs H) G w.drew G (.blk w.heap.size ob :: H) (w.drew.alloc ob) := Stp.alloc (w := w.drew) ob hf
  have h2 := h2a.then h2b
  have hsz : w.drew.heap.size = w.heap.size := rfl
  rw [hsz] at h1
  -- the new one in the place of the old one: fewer things, in another order
  have hsub : ∀ y ∈ H.set j (.blk w.heap.size ob), y ∈ Own.blk w.heap.size ob :: H := fun y hy => by
    rcases mem_set_or H j _ y hy with rfl | hy
    · exact .head _
    · exact .tail _ hy
  refine ⟨⟨h1.agr, fun y hy => h1.hold y (hsub y hy), ?_, fun y hy => h1.ghost y (hsub y hy)⟩, ⟨h2.size, h2.keep, h2.gle, h2.gnew, fun y hy => h2.own y (hsub y hy), h2.weq⟩⟩
  have hp := List.pairwise_cons.1 h1.apart
  have : ∀ (l : List Own) (j : Nat), l.Pairwise Own.apart → (∀ z ∈ l, Own.apart (.blk w.heap.size ob) z) → (l.set j (.blk w.heap.size ob)).Pairwise Own.apart := by
    intro l
    induction l with
    | nil => intro j _ _; simp
    | cons a l ih =>
      intro j hl hz
      rw [List.pairwise_cons] at hl
      cases j with
      | zero => simp only [List.set_cons_zero, List.pairwise_cons]; exact ⟨fun z hzz => hz z (.tail _ hzz), hl.2⟩
      | succ j =>
        simp only [List.set_cons_succ, List.pairwise_cons]
        refine ⟨fun z hzz => ?_, ih j hl.2 fun z hzz => hz z (.tail _ hzz)⟩
        rcases mem_set_or l j _ z hzz with rfl | hzz
        · exact Own.apart_symm (hz a (.head _))
        · exact hl.1 z hzz
  exact this H j hp.2 hp.1
theorem Vec.rdsFrom {T sz : Nat} {A : Option Addr} {n cap : Nat} {cs : List Value} {x : Own} {j lo : Nat} (h : Vec T sz A n cap cs x) (hj : At H j x) (hlo : lo ≤ n) : Rds G H (if cap = lo then A else A.map (·.add (lo * sz))) (cs.drop (lo * sz)) := by
  by_cases hc : cap = lo
  · have := h.le
    refine .inl (List.drop_eq_nil_of_le ?_)
    rw [h.1, show lo = n by omega]
    exact Nat.le_refl _
  · rw [if_neg hc]
    obtain ⟨hl, ⟨h1, h2, h3, h4⟩ | ⟨b, c, rfl, rfl, h1, h2, rfl⟩⟩ := h
    · subst h2; exact .inl (List.eq_nil_of_length_eq_zero (by simp; omega))
    · have hadd : (⟨b, 0, none⟩ : Addr).add (lo * sz) = ⟨b, lo * sz, none⟩ := by unfold Addr.add; split <;> simp_all
      simp only [Option.map_some, hadd]
      refine Rds.blk hj fun j v e => ?_
      rw [List.getElem?_drop, List.getElem?_take] at e
      split at e
      · simpa using e
      · cases e
theorem Vec.cut {T sz : Nat} {A : Option Addr} {n cap : Nat} {cs : List Value} {x : Own} {m : Nat} (h : Vec T sz A n cap cs x) (hm : m ≤ n) : Vec T sz A m cap (cs.take (m * sz)) x := by
  have hms : m * sz ≤ n * sz := Nat.mul_le_mul_right _ hm
  obtain ⟨hl, ⟨h1, h2, h3, h4⟩ | ⟨b, c, rfl, rfl, h1, h2, rfl⟩⟩ := h
  · exact ⟨by rw [List.length_take, hl]; omega, .inl ⟨h1, by omega, h3, h4⟩⟩
  · exact ⟨by rw [List.length_take, hl]; omega, .inr ⟨b, c, rfl, rfl, by omega, h2, by rw [List.take_take, Nat.min_eq_left hms]⟩⟩
theorem zeroCells_size {sz : Nat} {z : Value} {n : Nat} (hz : z.cells.size = sz) : (Builtin.zeroCells z.cells n).size = n * sz := by rw [size_zeroCells, hz]
theorem set_same {α : Type} : ∀ (l : List α) (j : Nat) (x : α), l[j]? = some x → l.set j x = l
  | [], _, _, _ => rfl
  | a :: l, 0, x, h => by simp at h; simp [h]
  | a :: l, j + 1, x, h => by simp at h; simp [set_same l j x h]
theorem OW.append {t e sz by_ : Nat} {z : Value} {x y : Operand} {A B : Option Addr} {n cap m cy j : Nat} {cs news : List Value} {o : Own} (hx : ev L x = some (.slice A n cap)) (hy : ev L y = some (.slice B m cy)) [hu : Und P t (.slice e)] [hi : Inf P e sz by_ z]
    (hz : z.cells.size = sz) (hs0 : Nat.blt 0 sz = true) (hv : Vec e sz A n cap cs o) (hj : At H j o) (hr : Rds G H B news) (hl : news.length = m * sz) (h1 : news.all (·.oneCell') = true)
    (hb : (n + m) * by_ ≤ 140737488355328) (h63 : n + m ≤ 9223372036854775807) (hd : dOk d cx.N = true)
    (k : ∀ A' cap' o', Vec e sz A' (n + m) cap' (cs ++ news) o' → K (putL d (.slice A' (n + m) cap') L) G (H.set j o')) :
    OW P Q ⟨d, .call { callee := .builtin .append, args := #[x, y], argTypes := #[t, t] }, ty, pos, af, gu⟩ cx L G H K := by
  have hsz : 0 < sz := Nat.le_of_ble_eq_true hs0
  refine OW.gives hd fun a w st => ?_
  obtain ⟨ie, hi1, hi2, hi3, hi4⟩ := hi.info
  have hu' := hu.h
  have hrun : ∀ v w', (Builtin.append_ #[t, t] ty #[.slice A n cap, .slice B m cy]).run P w = .ok v w' → (execOp a.eval ⟨d, .call { callee := .builtin .append, args := #[x, y], argTypes := #[t, t] }, ty, pos, af, gu⟩).run P w = .ok (.value v) w' := by
    intro v w' h
    simp only [execOp, resolve, invoke, builtin, Sem.run_bind, Sem.run_pure, Result.andThen_ok, List.map_toArray, List.map_cons, List.map_nil, st.eval hx, st.eval hy, h]
  -- nothing to append
  by_cases hm : m = 0
  · subst hm
    have hn : news = [] := List.eq_nil_of_length_eq_zero (by simpa using hl)
    subst hn
    refine ⟨.slice A n cap, w, G, H, .inl (hrun _ _ ?_), st.sat, Stp.drew rfl, ?_⟩
    · have hle := hv.le
      cases A with
      | none => simp [Builtin.append_, run_underlying hu', sizeOf, typeInfo, hi1, Builtin.lenOf, Builtin.firstCells, hle]; cases B <;> simp [Builtin.firstCells, loadCells, loadCellsFrom]
      | some ad => simp [Builtin.append_, run_underlying hu', sizeOf, typeInfo, hi1, Builtin.lenOf, Builtin.firstCells, hle]; cases B <;> simp [Builtin.firstCells, loadCells, loadCellsFrom, storeCells]
    · have := k A cap o (by simpa using hv)
      simp only [Nat.add_zero] at this
      rw [set_same H j o hj.get] at this
      exact this
  · have hm0 : 0 < m := by omega
    obtain ⟨bB, oB, rfl, hread⟩ : ∃ b o, B = some ⟨b, o, none⟩ ∧ ∀ w, Sat G H w → ∀ j v, news[j]? = some v → w.cell? ⟨b, o + j, none⟩ = some v := by
      rcases hr with h | h
      · have hp := Nat.mul_pos hm0 hsz
        rw [← hl, h] at hp
        simp at hp
      · exact h
    have hnews : ∀ j u, news[j]? = some u → w.cell? ((⟨bB, oB, none⟩ : Addr).add j) = some u := fun j u e => by rw [cell_add]; exact hread w st.sat j u e
    have hl' : news.length = m * ie.size := by rw [hi3]; exact hl
    obtain ⟨hcl, ⟨rfl, rfl, rfl, rfl⟩ | ⟨b, c, rfl, rfl, hnc, hcs, htk⟩⟩ := hv
    · have hcs0 : cs = [] := List.eq_nil_of_length_eq_zero (by simpa using hcl)
      subst hcs0
      have hr := run_append_nil (P := P) w t ty e ie z hu' hi1 hi2 ⟨bB, oB, none⟩ m cy news hl' hnews hm0 (by omega) (by have h' := hb; simp only [Nat.zero_add] at h'; rw [hi4]; omega)
      have hg := grownCap_ge w m 0 e
      have hsw := st.sat.swap hj (.cells (news.toArray ++ Builtin.zeroCells z.cells (grownCap w m 0 e - m)) e) rfl
      refine ⟨_, _, G, _, .inl (hrun _ _ hr), hsw.1, hsw.2, ?_⟩
      have := k (some ⟨w.heap.size, 0, none⟩) (grownCap w m 0 e) (.blk w.heap.size (.cells (news.toArray ++ Builtin.zeroCells z.cells (grownCap w m 0 e - m)) e)) ⟨by simpa using hl, .inr ⟨_, _, rfl, rfl, by omega, ?_, ?_⟩⟩
      · simpa using this
      · rw [Array.size_append, List.size_toArray, zeroCells_size hz, hl, ← Nat.add_mul]; congr 1; omega
      · simp only [Array.toList_append, List.nil_append, Nat.zero_add]; rw [← hl]; exact List.take_left
    · by_cases hroom : n + m ≤ cap
      · have hbw : w.heap[b]? = some (.cells c e (0, 0)) := st.sat.hold _ (List.mem_of_getElem? hj.get)
        have hfit : n * sz + news.length ≤ c.size := by rw [hl, hcs, ← Nat.add_mul]; exact Nat.mul_le_mul_right _ hroom
        have hr := run_append_room (P := P) w t ty e ie hu' hi1 b n cap c hbw ⟨bB, oB, none⟩ m cy news hl' hnews (fun u hu => List.all_eq_true.1 h1 u hu) hroom (by rw [hi3]; exact hfit)
        rw [hi3] at hr
        have hsp := st.sat.splice (o := n * sz) (cs := news) hj hfit
        refine ⟨_, _, G, _, .inl (hrun _ _ hr), hsp.1, hsp.2, k _ _ _ ⟨by rw [List.length_append, hcl, hl, Nat.add_mul], .inr ⟨b, _, rfl, rfl, hroom, by rw [size_splice hfit, hcs], ?_⟩⟩⟩
        simp only [splice]
        rw [htk, show (n + m) * sz = (cs ++ news).length by rw [List.length_append, hcl, hl, Nat.add_mul]]
        exact List.take_left
      · have hbw : w.heap[b]? = some (.cells c e (0, 0)) := st.sat.hold _ (List.mem_of_getElem? hj.get)
        have holds : ∀ j v, cs[j]? = some v → w.cell? ((⟨b, 0, none⟩ : Addr).add j) = some v := fun j v e => by
          rw [cell_add, cell_of_row w b _ c _ _ hbw, ← htk] at *
          rw [List.getElem?_take] at e
          split at e
          · simpa using e
          · cases e
        have hr := run_append_grow (P := P) w t ty e ie z hu' hi1 hi2 ⟨b, 0, none⟩ n cap cs (by rw [hi3]; exact hcl) holds ⟨bB, oB, none⟩ m cy news hl' hnews (by omega) (by omega) (growslice_fits (by omega) (by rw [hi4]; exact hb))
        have hg := grownCap_ge w (n + m) cap e
        have hsw := st.sat.swap hj (.cells (cs.toArray ++ news.toArray ++ Builtin.zeroCells z.cells (grownCap w (n + m) cap e - (n + m))) e) rfl
        refine ⟨_, _, G, _, .inl (hrun _ _ hr), hsw.1, hsw.2, k _ _ _ ⟨by rw [List.length_append, hcl, hl, Nat.add_mul], .inr ⟨_, _, rfl, rfl, hg, ?_, ?_⟩⟩⟩
        · simp only [Array.size_append, List.size_toArray, zeroCells_size hz, hl, hcl, ← Nat.add_mul]; congr 1; omega
        · simp only [Array.toList_append]
          rw [show (n + m) * sz = (cs ++ news).length by rw [List.length_append, hcl, hl, Nat.add_mul]]
          exact List.take_left
theorem Sat.nothing {w : World} (h : Sat G H w) : Sat G (.spare 0 0 0 :: H) w :=
  ⟨h.agr, fun x hx => by
    rcases List.mem_cons.1 hx with rfl | hx
    · intro hlt; omega
    · exact h.hold x hx, List.pairwise_cons.2 ⟨fun y _ b o hc => by simp only [Own.cov] at hc; omega, h.apart⟩, fun x hx b o hc => by
    rcases List.mem_cons.1 hx with rfl | hx
    · simp only [Own.cov] at hc; omega
    · exact h.ghost x hx b o hc⟩
theorem Stp.nothing {S : Nat → Nat → Prop} {G0 : Gh} {w0 w : World} (h : Stp S G0 w0 G H w) : Stp S G0 w0 G (.spare 0 0 0 :: H) w :=
  ⟨h.size, h.keep, h.gle, h.gnew, fun x hx b o hc => by
    rcases List.mem_cons.1 hx with rfl | hx
    · simp only [Own.cov] at hc; omega
    · exact h.own x hx b o hc, h.weq⟩
theorem WK.nothing {K : Act → World → Prop} (h : WK K cx L G (.spare 0 0 0 :: H)) : WK K cx L G H :=
  fun a w st => h a w ⟨st.size, st.defs, st.slot, st.sat.nothing, st.stp.nothing⟩
theorem WC.nothing {c : Code} (h : WC P c Q cx L G (.spare 0 0 0 :: H)) : WC P c Q cx L G H :=
  fun a w st => h a w ⟨st.size, st.defs, st.slot, st.sat.nothing, st.stp.nothing⟩
def AllLk (L : List (Nat × Value)) : List (Nat × Value) → Prop
  | [] => True
  | (t, v) :: r => lk L t = some v ∧ AllLk L r
theorem AllLk.sub {L L' : List (Nat × Value)} (h : AllLk L L') : ∀ t v, lk L' t = some v → lk L t = some v := by
  induction L' with
  | nil => intro t v e; simp [lk] at e
  | cons p r ih =>
    obtain ⟨k, u⟩ := p
    intro t v e
    simp only [lk] at e
    by_cases hk : k = t
    · subst hk
      simp only [Nat.beq_refl, cond_true, Option.some.injEq] at e
      subst e
      exact h.1
    · have hb : Nat.beq k t = false := by cases hbb : Nat.beq k t with | false => rfl | true => exact absurd (Nat.eq_of_beq_eq_true hbb) hk
      rw [hb] at e
      exact ih h.2 t v e
theorem WC.loop {c : Code} {X : Type} (Lf : X → List (Nat × Value)) (Gf : X → Gh) (Hf : X → List Own) (μ : X → Nat) (ok : X → Prop) (x0 : X) (h0 : ok x0) (hL : AllLk L (Lf x0)) (hG : Gf x0 = G) (hH : (Hf x0).Sublist H)
    (round : ∀ x, ok x → WC P c (Exit.then (fun a w => ∃ x', μ x' < μ x ∧ ok x' ∧ St cx (Lf x') (Gf x') (Hf x') a w) Q) cx (Lf x) (Gf x) (Hf x)) : WC P (.loop c) Q cx L G H := by
  intro a w st
  refine wp_loop_fuel (A := fun k x a w => μ x = k ∧ ok x ∧ St cx (Lf x) (Gf x) (Hf x) a w) (x0 := x0) ⟨rfl, h0, hG ▸ st.weaken hL.sub hH⟩ ?_
  rintro k x a w ⟨rfl, hok, st⟩
  refine Code.wp_mono (fun e a w q => ?_) (round x hok a w st)
  cases e <;> first
    | exact q
    | (obtain ⟨x', h1, h2, h3⟩ := q; exact ⟨_, x', h1, rfl, h2, h3⟩)
theorem WK.again {X : Type} {Lf : X → List (Nat × Value)} {Gf : X → Gh} {Hf : X → List Own} {μ : X → Nat} {ok : X → Prop} {x : X} (x' : X) (h1 : μ x' < μ x) (h2 : ok x') (hL : AllLk L (Lf x')) (hG : Gf x' = G) (hH : (Hf x').Sublist H) :
    WK (fun a w => ∃ x', μ x' < μ x ∧ ok x' ∧ St cx (Lf x') (Gf x') (Hf x') a w) cx L G H :=
  fun a w st => ⟨x', h1, h2, hG ▸ st.weaken hL.sub hH⟩
theorem WC.join {x y : Code} {X : Type} (Lf : X → List (Nat × Value)) (Gf : X → Gh) (Hf : X → List Own) (ok : X → Prop)
    (h : WC P x (Exit.then (fun a w => ∃ x, ok x ∧ St cx (Lf x) (Gf x) (Hf x) a w) Q) cx L G H) (hy : ∀ x, ok x → WC P y Q cx (Lf x) (Gf x) (Hf x)) : WC P (.seq x y) Q cx L G H :=
  WC.seqJ _ h fun a w ⟨x, h1, h2⟩ => hy x h1 a w h2
theorem WK.meet {X : Type} {Lf : X → List (Nat × Value)} {Gf : X → Gh} {Hf : X → List Own} {ok : X → Prop} (x' : X) (h2 : ok x') (hL : AllLk L (Lf x')) (hG : Gf x' = G) (hH : (Hf x').Sublist H) :
    WK (fun a w => ∃ x, ok x ∧ St cx (Lf x) (Gf x) (Hf x) a w) cx L G H :=
  fun a w st => ⟨x', h2, hG ▸ st.weaken hL.sub hH⟩
theorem perm_at {l : List Own} {j : Nat} {x : Own} (h : At l j x) : l.Perm (x :: l.eraseIdx j) := by
  induction h with
  | here => exact List.Perm.refl _
  | there _ ih => exact (List.Perm.cons _ ih).trans (List.Perm.swap _ _ _)
end
end Go.Proofs.YtbfgljcjblfleaaGreatDoor.Gb
namespace Go.Proofs.YtbfgljcjblfleaaGreatDoor.Gb
open Go Go.Proofs
instance : Und Tryz.prog 2 (.int .i64) := ⟨by kernel_rfl⟩
instance inf2 : Inf Tryz.prog 2 1 8 (.int .i64 0) := ⟨by kernel_rfl⟩
instance : Agg Tryz.prog 2 false := ⟨fun w => by simp [isAgg, run_underlying Tryz.underlying2]⟩
instance : Und Tryz.prog 3 (.int .i64) := ⟨by kernel_rfl⟩
instance inf3 : Inf Tryz.prog 3 1 8 (.int .i64 0) := ⟨by kernel_rfl⟩
instance : Agg Tryz.prog 3 false := ⟨fun w => by simp [isAgg, run_underlying Tryz.underlying3]⟩
instance : Und Tryz.prog 4 .bool := ⟨by kernel_rfl⟩
instance inf4 : Inf Tryz.prog 4 1 1 (.bool false) := ⟨by kernel_rfl⟩
instance : Agg Tryz.prog 4 false := ⟨fun w => by simp [isAgg, run_underlying Tryz.underlying4]⟩
instance : Und Tryz.prog 5 (.int .u8) := ⟨by kernel_rfl⟩
instance inf5 : Inf Tryz.prog 5 1 1 (.int .u8 0) := ⟨by kernel_rfl⟩
instance : Agg Tryz.prog 5 false := ⟨fun w => by simp [isAgg, run_underlying Tryz.underlying5]⟩
instance : Und Tryz.prog 6 (.int .u8) := ⟨by kernel_rfl⟩
instance inf6 : Inf Tryz.prog 6 1 1 (.int .u8 0) := ⟨by kernel_rfl⟩
instance : Agg Tryz.prog 6 false := ⟨fun w => by simp [isAgg, run_underlying Tryz.underlying6]⟩
instance inf7 : Inf Tryz.prog 7 4 24 (.agg #[(.int .i64 0), (.int .i64 0), (.bool false), (.int .u8 0)]) := ⟨by kernel_rfl⟩
instance : Agg Tryz.prog 7 true := ⟨fun w => by simp [isAgg, run_underlying Tryz.underlying7]⟩
instance : Plc Tryz.prog 7 [(0, 1), (1, 1), (2, 1), (3, 1)] := ⟨fun w => ⟨_, Tryz.underlying7, run_places w _ _ (by kernel_rfl)⟩⟩
instance : Fld Tryz.prog 7 0 0 := mk_fld Tryz.underlying7 rfl (inf2).pos rfl
instance : Fld Tryz.prog 7 1 1 := mk_fld Tryz.underlying7 rfl (inf3).pos rfl
instance : Fld Tryz.prog 7 2 2 := mk_fld Tryz.underlying7 rfl (inf4).pos rfl
instance : Fld Tryz.prog 7 3 3 := mk_fld Tryz.underlying7 rfl (inf6).pos rfl
instance inf8 : Inf Tryz.prog 8 4 24 (.agg #[(.int .i64 0), (.int .i64 0), (.bool false), (.int .u8 0)]) := ⟨by kernel_rfl⟩
instance : Agg Tryz.prog 8 true := ⟨fun w => by simp [isAgg, run_underlying Tryz.underlying8]⟩
instance : Plc Tryz.prog 8 [(0, 1), (1, 1), (2, 1), (3, 1)] := ⟨fun w => ⟨_, Tryz.underlying8, run_places w _ _ (by kernel_rfl)⟩⟩
instance : Fld Tryz.prog 8 0 0 := mk_fld Tryz.underlying8 rfl (inf2).pos rfl
instance : Fld Tryz.prog 8 1 1 := mk_fld Tryz.underlying8 rfl (inf3).pos rfl
instance : Fld Tryz.prog 8 2 2 := mk_fld Tryz.underlying8 rfl (inf4).pos rfl
instance : Fld Tryz.prog 8 3 3 := mk_fld Tryz.underlying8 rfl (inf6).pos rfl
instance : Und Tryz.prog 9 .string := ⟨by kernel_rfl⟩
instance inf9 : Inf Tryz.prog 9 1 16 (.string ⟨#[]⟩) := ⟨by kernel_rfl⟩
instance : Agg Tryz.prog 9 false := ⟨fun w => by simp [isAgg, run_underlying Tryz.underlying9]⟩
instance : Und Tryz.prog 10 .string := ⟨by kernel_rfl⟩
instance inf10 : Inf Tryz.prog 10 1 16 (.string ⟨#[]⟩) := ⟨by kernel_rfl⟩
instance : Agg Tryz.prog 10 false := ⟨fun w => by simp [isAgg, run_underlying Tryz.underlying10]⟩
instance : Und Tryz.prog 11 .string := ⟨by kernel_rfl⟩
instance inf11 : Inf Tryz.prog 11 1 16 (.string ⟨#[]⟩) := ⟨by kernel_rfl⟩
instance : Agg Tryz.prog 11 false := ⟨fun w => by simp [isAgg, run_underlying Tryz.underlying11]⟩
instance : Und Tryz.prog 12 (.int .u64) := ⟨by kernel_rfl⟩
instance inf12 : Inf Tryz.prog 12 1 8 (.int .u64 0) := ⟨by kernel_rfl⟩
instance : Agg Tryz.prog 12 false := ⟨fun w => by simp [isAgg, run_underlying Tryz.underlying12]⟩
instance inf13 : Inf Tryz.prog 13 2 24 (.agg #[(.string ⟨#[]⟩), (.int .u64 0)]) := ⟨by kernel_rfl⟩
instance : Agg Tryz.prog 13 true := ⟨fun w => by simp [isAgg, run_underlying Tryz.underlying13]⟩
instance : Plc Tryz.prog 13 [(0, 1), (1, 1)] := ⟨fun w => ⟨_, Tryz.underlying13, run_places w _ _ (by kernel_rfl)⟩⟩
instance : Fld Tryz.prog 13 0 0 := mk_fld Tryz.underlying13 rfl (inf9).pos rfl
instance : Fld Tryz.prog 13 1 1 := mk_fld Tryz.underlying13 rfl (inf12).pos rfl
instance inf14 : Inf Tryz.prog 14 2 24 (.agg #[(.string ⟨#[]⟩), (.int .u64 0)]) := ⟨by kernel_rfl⟩
instance : Agg Tryz.prog 14 true := ⟨fun w => by simp [isAgg, run_underlying Tryz.underlying14]⟩
instance : Plc Tryz.prog 14 [(0, 1), (1, 1)] := ⟨fun w => ⟨_, Tryz.underlying14, run_places w _ _ (by kernel_rfl)⟩⟩
instance : Fld Tryz.prog 14 0 0 := mk_fld Tryz.underlying14 rfl (inf9).pos rfl
instance : Fld Tryz.prog 14 1 1 := mk_fld Tryz.underlying14 rfl (inf12).pos rfl
instance : Und Tryz.prog 15 (.pointer 223) := ⟨by kernel_rfl⟩
instance inf15 : Inf Tryz.prog 15 1 8 (.pointer none) := ⟨by kernel_rfl⟩
instance : Agg Tryz.prog 15 false := ⟨fun w => by simp [isAgg, run_underlying Tryz.underlying15]⟩
instance : Und Tryz.prog 16 (.pointer 226) := ⟨by kernel_rfl⟩
instance inf16 : Inf Tryz.prog 16 1 8 (.pointer none) := ⟨by kernel_rfl⟩
instance : Agg Tryz.prog 16 false := ⟨fun w => by simp [isAgg, run_underlying Tryz.underlying16]⟩
instance : Und Tryz.prog 17 (.pointer 233) := ⟨by kernel_rfl⟩
instance inf17 : Inf Tryz.prog 17 1 8 (.pointer none) := ⟨by kernel_rfl⟩
instance : Agg Tryz.prog 17 false := ⟨fun w => by simp [isAgg, run_underlying Tryz.underlying17]⟩
instance inf18 : Inf Tryz.prog 18 1 8 (.agg #[(.pointer none)]) := ⟨by kernel_rfl⟩
instance : Agg Tryz.prog 18 true := ⟨fun w => by simp [isAgg, run_underlying Tryz.underlying18]⟩
instance : Plc Tryz.prog 18 [(0, 1)] := ⟨fun w => ⟨_, Tryz.underlying18, run_places w _ _ (by kernel_rfl)⟩⟩
instance : Fld Tryz.prog 18 0 0 := mk_fld Tryz.underlying18 rfl (inf17).pos rfl
instance inf19 : Inf Tryz.prog 19 1 8 (.agg #[(.pointer none)]) := ⟨by kernel_rfl⟩
instance : Agg Tryz.prog 19 true := ⟨fun w => by simp [isAgg, run_underlying Tryz.underlying19]⟩
instance : Plc Tryz.prog 19 [(0, 1)] := ⟨fun w => ⟨_, Tryz.underlying19, run_places w _ _ (by kernel_rfl)⟩⟩
instance : Fld Tryz.prog 19 0 0 := mk_fld Tryz.underlying19 rfl (inf17).pos rfl
instance : Und Tryz.prog 21 (.int .i32) := ⟨by kernel_rfl⟩
instance inf21 : Inf Tryz.prog 21 1 4 (.int .i32 0) := ⟨by kernel_rfl⟩
instance : Agg Tryz.prog 21 false := ⟨fun w => by simp [isAgg, run_underlying Tryz.underlying21]⟩
instance : Und Tryz.prog 22 (.slice 49) := ⟨by kernel_rfl⟩
instance inf22 : Inf Tryz.prog 22 1 24 (.slice none 0 0) := ⟨by kernel_rfl⟩
instance : Agg Tryz.prog 22 false := ⟨fun w => by simp [isAgg, run_underlying Tryz.underlying22]⟩
instance : Und Tryz.prog 23 (.slice 93) := ⟨by kernel_rfl⟩
instance inf23 : Inf Tryz.prog 23 1 24 (.slice none 0 0) := ⟨by kernel_rfl⟩
instance : Agg Tryz.prog 23 false := ⟨fun w => by simp [isAgg, run_underlying Tryz.underlying23]⟩
instance : Und Tryz.prog 24 (.slice 65) := ⟨by kernel_rfl⟩
instance inf24 : Inf Tryz.prog 24 1 24 (.slice none 0 0) := ⟨by kernel_rfl⟩
instance : Agg Tryz.prog 24 false := ⟨fun w => by simp [isAgg, run_underlying Tryz.underlying24]⟩
instance inf25 : Inf Tryz.prog 25 4 88 (.agg #[(.string ⟨#[]⟩), (.slice none 0 0), (.slice none 0 0), (.slice none 0 0)]) := ⟨by kernel_rfl⟩
instance : Agg Tryz.prog 25 true := ⟨fun w => by simp [isAgg, run_underlying Tryz.underlying25]⟩
instance : Plc Tryz.prog 25 [(0, 1), (1, 1), (2, 1), (3, 1)] := ⟨fun w => ⟨_, Tryz.underlying25, run_places w _ _ (by kernel_rfl)⟩⟩
instance : Fld Tryz.prog 25 0 0 := mk_fld Tryz.underlying25 rfl (inf9).pos rfl
instance : Fld Tryz.prog 25 1 1 := mk_fld Tryz.underlying25 rfl (inf22).pos rfl
instance : Fld Tryz.prog 25 2 2 := mk_fld Tryz.underlying25 rfl (inf23).pos rfl
instance : Fld Tryz.prog 25 3 3 := mk_fld Tryz.underlying25 rfl (inf24).pos rfl
instance inf26 : Inf Tryz.prog 26 4 88 (.agg #[(.string ⟨#[]⟩), (.slice none 0 0), (.slice none 0 0), (.slice none 0 0)]) := ⟨by kernel_rfl⟩
instance : Agg Tryz.prog 26 true := ⟨fun w => by simp [isAgg, run_underlying Tryz.underlying26]⟩
instance : Plc Tryz.prog 26 [(0, 1), (1, 1), (2, 1), (3, 1)] := ⟨fun w => ⟨_, Tryz.underlying26, run_places w _ _ (by kernel_rfl)⟩⟩
instance : Fld Tryz.prog 26 0 0 := mk_fld Tryz.underlying26 rfl (inf9).pos rfl
instance : Fld Tryz.prog 26 1 1 := mk_fld Tryz.underlying26 rfl (inf22).pos rfl
instance : Fld Tryz.prog 26 2 2 := mk_fld Tryz.underlying26 rfl (inf23).pos rfl
instance : Fld Tryz.prog 26 3 3 := mk_fld Tryz.underlying26 rfl (inf24).pos rfl
instance : Und Tryz.prog 27 (.int .u16) := ⟨by kernel_rfl⟩
instance inf27 : Inf Tryz.prog 27 1 2 (.int .u16 0) := ⟨by kernel_rfl⟩
instance : Agg Tryz.prog 27 false := ⟨fun w => by simp [isAgg, run_underlying Tryz.underlying27]⟩
instance inf28 : Inf Tryz.prog 28 2 16 (.agg #[(.int .i64 0), (.int .i64 0)]) := ⟨by kernel_rfl⟩
instance : Agg Tryz.prog 28 true := ⟨fun w => by simp [isAgg, run_underlying Tryz.underlying28]⟩
instance : Plc Tryz.prog 28 [(0, 1), (1, 1)] := ⟨fun w => ⟨_, Tryz.underlying28, run_places w _ _ (by kernel_rfl)⟩⟩
instance : Fld Tryz.prog 28 0 0 := mk_fld Tryz.underlying28 rfl (inf3).pos rfl
instance : Fld Tryz.prog 28 1 1 := mk_fld Tryz.underlying28 rfl (inf3).pos rfl
instance inf29 : Inf Tryz.prog 29 2 16 (.agg #[(.int .i64 0), (.int .i64 0)]) := ⟨by kernel_rfl⟩
instance : Agg Tryz.prog 29 true := ⟨fun w => by simp [isAgg, run_underlying Tryz.underlying29]⟩
instance : Plc Tryz.prog 29 [(0, 1), (1, 1)] := ⟨fun w => ⟨_, Tryz.underlying29, run_places w _ _ (by kernel_rfl)⟩⟩
instance : Fld Tryz.prog 29 0 0 := mk_fld Tryz.underlying29 rfl (inf3).pos rfl
instance : Fld Tryz.prog 29 1 1 := mk_fld Tryz.underlying29 rfl (inf3).pos rfl
instance : Und Tryz.prog 30 (.int .i64) := ⟨by kernel_rfl⟩
instance inf30 : Inf Tryz.prog 30 1 8 (.int .i64 0) := ⟨by kernel_rfl⟩
instance : Agg Tryz.prog 30 false := ⟨fun w => by simp [isAgg, run_underlying Tryz.underlying30]⟩
instance : Und Tryz.prog 34 (.slice 235) := ⟨by kernel_rfl⟩
instance inf34 : Inf Tryz.prog 34 1 24 (.slice none 0 0) := ⟨by kernel_rfl⟩
instance : Agg Tryz.prog 34 false := ⟨fun w => by simp [isAgg, run_underlying Tryz.underlying34]⟩
instance inf35 : Inf Tryz.prog 35 3 72 (.agg #[(.slice none 0 0), (.slice none 0 0), (.slice none 0 0)]) := ⟨by kernel_rfl⟩
instance : Agg Tryz.prog 35 true := ⟨fun w => by simp [isAgg, run_underlying Tryz.underlying35]⟩
instance : Plc Tryz.prog 35 [(0, 1), (1, 1), (2, 1)] := ⟨fun w => ⟨_, Tryz.underlying35, run_places w _ _ (by kernel_rfl)⟩⟩
instance : Fld Tryz.prog 35 0 0 := mk_fld Tryz.underlying35 rfl (inf22).pos rfl
instance : Fld Tryz.prog 35 1 1 := mk_fld Tryz.underlying35 rfl (inf24).pos rfl
instance : Fld Tryz.prog 35 2 2 := mk_fld Tryz.underlying35 rfl (inf34).pos rfl
instance inf36 : Inf Tryz.prog 36 3 72 (.agg #[(.slice none 0 0), (.slice none 0 0), (.slice none 0 0)]) := ⟨by kernel_rfl⟩
instance : Agg Tryz.prog 36 true := ⟨fun w => by simp [isAgg, run_underlying Tryz.underlying36]⟩
instance : Plc Tryz.prog 36 [(0, 1), (1, 1), (2, 1)] := ⟨fun w => ⟨_, Tryz.underlying36, run_places w _ _ (by kernel_rfl)⟩⟩
instance : Fld Tryz.prog 36 0 0 := mk_fld Tryz.underlying36 rfl (inf22).pos rfl
instance : Fld Tryz.prog 36 1 1 := mk_fld Tryz.underlying36 rfl (inf24).pos rfl
instance : Fld Tryz.prog 36 2 2 := mk_fld Tryz.underlying36 rfl (inf34).pos rfl
instance : Und Tryz.prog 37 (.pointer 71) := ⟨by kernel_rfl⟩
instance inf37 : Inf Tryz.prog 37 1 8 (.pointer none) := ⟨by kernel_rfl⟩
instance : Agg Tryz.prog 37 false := ⟨fun w => by simp [isAgg, run_underlying Tryz.underlying37]⟩
instance : Und Tryz.prog 41 (.slice 47) := ⟨by kernel_rfl⟩
instance inf41 : Inf Tryz.prog 41 1 24 (.slice none 0 0) := ⟨by kernel_rfl⟩
instance : Agg Tryz.prog 41 false := ⟨fun w => by simp [isAgg, run_underlying Tryz.underlying41]⟩
instance : Und Tryz.prog 47 (.int .i64) := ⟨by kernel_rfl⟩
instance inf47 : Inf Tryz.prog 47 1 8 (.int .i64 0) := ⟨by kernel_rfl⟩
instance : Agg Tryz.prog 47 false := ⟨fun w => by simp [isAgg, run_underlying Tryz.underlying47]⟩
instance inf48 : Inf Tryz.prog 48 4 40 (.agg #[(.int .i64 0), (.int .i64 0), (.bool false), (.string ⟨#[]⟩)]) := ⟨by kernel_rfl⟩
instance : Agg Tryz.prog 48 true := ⟨fun w => by simp [isAgg, run_underlying Tryz.underlying48]⟩
instance : Plc Tryz.prog 48 [(0, 1), (1, 1), (2, 1), (3, 1)] := ⟨fun w => ⟨_, Tryz.underlying48, run_places w _ _ (by kernel_rfl)⟩⟩
instance : Fld Tryz.prog 48 0 0 := mk_fld Tryz.underlying48 rfl (inf47).pos rfl
instance : Fld Tryz.prog 48 1 1 := mk_fld Tryz.underlying48 rfl (inf2).pos rfl
instance : Fld Tryz.prog 48 2 2 := mk_fld Tryz.underlying48 rfl (inf4).pos rfl
instance : Fld Tryz.prog 48 3 3 := mk_fld Tryz.underlying48 rfl (inf9).pos rfl
instance inf49 : Inf Tryz.prog 49 4 40 (.agg #[(.int .i64 0), (.int .i64 0), (.bool false), (.string ⟨#[]⟩)]) := ⟨by kernel_rfl⟩
instance : Agg Tryz.prog 49 true := ⟨fun w => by simp [isAgg, run_underlying Tryz.underlying49]⟩
instance : Plc Tryz.prog 49 [(0, 1), (1, 1), (2, 1), (3, 1)] := ⟨fun w => ⟨_, Tryz.underlying49, run_places w _ _ (by kernel_rfl)⟩⟩
instance : Fld Tryz.prog 49 0 0 := mk_fld Tryz.underlying49 rfl (inf47).pos rfl
instance : Fld Tryz.prog 49 1 1 := mk_fld Tryz.underlying49 rfl (inf2).pos rfl
instance : Fld Tryz.prog 49 2 2 := mk_fld Tryz.underlying49 rfl (inf4).pos rfl
instance : Fld Tryz.prog 49 3 3 := mk_fld Tryz.underlying49 rfl (inf9).pos rfl
instance inf50 : Inf Tryz.prog 50 7 80 (.agg #[(.int .i64 0), (.int .i64 0), (.int .i64 0), (.bool false), (.string ⟨#[]⟩), (.slice none 0 0), (.int .i64 0)]) := ⟨by kernel_rfl⟩
instance : Agg Tryz.prog 50 true := ⟨fun w => by simp [isAgg, run_underlying Tryz.underlying50]⟩
instance : Plc Tryz.prog 50 [(0, 1), (1, 4), (5, 1), (6, 1)] := ⟨fun w => ⟨_, Tryz.underlying50, run_places w _ _ (by kernel_rfl)⟩⟩
instance : Fld Tryz.prog 50 0 0 := mk_fld Tryz.underlying50 rfl (inf3).pos rfl
instance : Fld Tryz.prog 50 1 1 := mk_fld Tryz.underlying50 rfl (inf49).pos rfl
instance : Fld Tryz.prog 50 2 5 := mk_fld Tryz.underlying50 rfl (inf22).pos rfl
instance : Fld Tryz.prog 50 3 6 := mk_fld Tryz.underlying50 rfl (inf3).pos rfl
instance inf51 : Inf Tryz.prog 51 7 80 (.agg #[(.int .i64 0), (.int .i64 0), (.int .i64 0), (.bool false), (.string ⟨#[]⟩), (.slice none 0 0), (.int .i64 0)]) := ⟨by kernel_rfl⟩
instance : Agg Tryz.prog 51 true := ⟨fun w => by simp [isAgg, run_underlying Tryz.underlying51]⟩
instance : Plc Tryz.prog 51 [(0, 1), (1, 4), (5, 1), (6, 1)] := ⟨fun w => ⟨_, Tryz.underlying51, run_places w _ _ (by kernel_rfl)⟩⟩
instance : Fld Tryz.prog 51 0 0 := mk_fld Tryz.underlying51 rfl (inf3).pos rfl
instance : Fld Tryz.prog 51 1 1 := mk_fld Tryz.underlying51 rfl (inf49).pos rfl
instance : Fld Tryz.prog 51 2 5 := mk_fld Tryz.underlying51 rfl (inf22).pos rfl
instance : Fld Tryz.prog 51 3 6 := mk_fld Tryz.underlying51 rfl (inf3).pos rfl
instance : Und Tryz.prog 56 (.pointer 58) := ⟨by kernel_rfl⟩
instance inf56 : Inf Tryz.prog 56 1 8 (.pointer none) := ⟨by kernel_rfl⟩
instance : Agg Tryz.prog 56 false := ⟨fun w => by simp [isAgg, run_underlying Tryz.underlying56]⟩
instance inf57 : Inf Tryz.prog 57 3 72 (.agg #[(.slice none 0 0), (.slice none 0 0), (.slice none 0 0)]) := ⟨by kernel_rfl⟩
instance : Agg Tryz.prog 57 true := ⟨fun w => by simp [isAgg, run_underlying Tryz.underlying57]⟩
instance : Plc Tryz.prog 57 [(0, 1), (1, 1), (2, 1)] := ⟨fun w => ⟨_, Tryz.underlying57, run_places w _ _ (by kernel_rfl)⟩⟩
instance : Fld Tryz.prog 57 0 0 := mk_fld Tryz.underlying57 rfl (inf22).pos rfl
instance : Fld Tryz.prog 57 1 1 := mk_fld Tryz.underlying57 rfl (inf23).pos rfl
instance : Fld Tryz.prog 57 2 2 := mk_fld Tryz.underlying57 rfl (inf24).pos rfl
instance inf58 : Inf Tryz.prog 58 3 72 (.agg #[(.slice none 0 0), (.slice none 0 0), (.slice none 0 0)]) := ⟨by kernel_rfl⟩
instance : Agg Tryz.prog 58 true := ⟨fun w => by simp [isAgg, run_underlying Tryz.underlying58]⟩
instance : Plc Tryz.prog 58 [(0, 1), (1, 1), (2, 1)] := ⟨fun w => ⟨_, Tryz.underlying58, run_places w _ _ (by kernel_rfl)⟩⟩
instance : Fld Tryz.prog 58 0 0 := mk_fld Tryz.underlying58 rfl (inf22).pos rfl
instance : Fld Tryz.prog 58 1 1 := mk_fld Tryz.underlying58 rfl (inf23).pos rfl
instance : Fld Tryz.prog 58 2 2 := mk_fld Tryz.underlying58 rfl (inf24).pos rfl
instance : Und Tryz.prog 62 (.int .i64) := ⟨by kernel_rfl⟩
instance inf62 : Inf Tryz.prog 62 1 8 (.int .i64 0) := ⟨by kernel_rfl⟩
instance : Agg Tryz.prog 62 false := ⟨fun w => by simp [isAgg, run_underlying Tryz.underlying62]⟩
instance : Und Tryz.prog 63 (.slice 97) := ⟨by kernel_rfl⟩
instance inf63 : Inf Tryz.prog 63 1 24 (.slice none 0 0) := ⟨by kernel_rfl⟩
instance : Agg Tryz.prog 63 false := ⟨fun w => by simp [isAgg, run_underlying Tryz.underlying63]⟩
instance inf64 : Inf Tryz.prog 64 6 88 (.agg #[(.string ⟨#[]⟩), (.bool false), (.slice none 0 0), (.int .i64 0), (.int .i64 0), (.slice none 0 0)]) := ⟨by kernel_rfl⟩
instance : Agg Tryz.prog 64 true := ⟨fun w => by simp [isAgg, run_underlying Tryz.underlying64]⟩
instance : Plc Tryz.prog 64 [(0, 1), (1, 1), (2, 1), (3, 1), (4, 1), (5, 1)] := ⟨fun w => ⟨_, Tryz.underlying64, run_places w _ _ (by kernel_rfl)⟩⟩
instance : Fld Tryz.prog 64 0 0 := mk_fld Tryz.underlying64 rfl (inf9).pos rfl
instance : Fld Tryz.prog 64 1 1 := mk_fld Tryz.underlying64 rfl (inf4).pos rfl
instance : Fld Tryz.prog 64 2 2 := mk_fld Tryz.underlying64 rfl (inf41).pos rfl
instance : Fld Tryz.prog 64 3 3 := mk_fld Tryz.underlying64 rfl (inf3).pos rfl
instance : Fld Tryz.prog 64 4 4 := mk_fld Tryz.underlying64 rfl (inf47).pos rfl
instance : Fld Tryz.prog 64 5 5 := mk_fld Tryz.underlying64 rfl (inf63).pos rfl
instance inf65 : Inf Tryz.prog 65 6 88 (.agg #[(.string ⟨#[]⟩), (.bool false), (.slice none 0 0), (.int .i64 0), (.int .i64 0), (.slice none 0 0)]) := ⟨by kernel_rfl⟩
instance : Agg Tryz.prog 65 true := ⟨fun w => by simp [isAgg, run_underlying Tryz.underlying65]⟩
instance : Plc Tryz.prog 65 [(0, 1), (1, 1), (2, 1), (3, 1), (4, 1), (5, 1)] := ⟨fun w => ⟨_, Tryz.underlying65, run_places w _ _ (by kernel_rfl)⟩⟩
instance : Fld Tryz.prog 65 0 0 := mk_fld Tryz.underlying65 rfl (inf9).pos rfl
instance : Fld Tryz.prog 65 1 1 := mk_fld Tryz.underlying65 rfl (inf4).pos rfl
instance : Fld Tryz.prog 65 2 2 := mk_fld Tryz.underlying65 rfl (inf41).pos rfl
instance : Fld Tryz.prog 65 3 3 := mk_fld Tryz.underlying65 rfl (inf3).pos rfl
instance : Fld Tryz.prog 65 4 4 := mk_fld Tryz.underlying65 rfl (inf47).pos rfl
instance : Fld Tryz.prog 65 5 5 := mk_fld Tryz.underlying65 rfl (inf63).pos rfl
instance : Und Tryz.prog 69 (.slice 77) := ⟨by kernel_rfl⟩
instance inf69 : Inf Tryz.prog 69 1 24 (.slice none 0 0) := ⟨by kernel_rfl⟩
instance : Agg Tryz.prog 69 false := ⟨fun w => by simp [isAgg, run_underlying Tryz.underlying69]⟩
instance inf70 : Inf Tryz.prog 70 12 184 (.agg #[(.slice none 0 0), (.slice none 0 0), (.slice none 0 0), (.slice none 0 0), (.int .i64 0), (.int .i64 0), (.int .i64 0), (.bool false), (.string ⟨#[]⟩), (.slice none 0 0), (.int .i64 0), (.bool false)]) := ⟨by kernel_rfl⟩
instance : Agg Tryz.prog 70 true := ⟨fun w => by simp [isAgg, run_underlying Tryz.underlying70]⟩
instance : Plc Tryz.prog 70 [(0, 3), (3, 1), (4, 7), (11, 1)] := ⟨fun w => ⟨_, Tryz.underlying70, run_places w _ _ (by kernel_rfl)⟩⟩
instance : Fld Tryz.prog 70 0 0 := mk_fld Tryz.underlying70 rfl (inf36).pos rfl
instance : Fld Tryz.prog 70 1 3 := mk_fld Tryz.underlying70 rfl (inf69).pos rfl
instance : Fld Tryz.prog 70 2 4 := mk_fld Tryz.underlying70 rfl (inf51).pos rfl
instance : Fld Tryz.prog 70 3 11 := mk_fld Tryz.underlying70 rfl (inf4).pos rfl
instance inf71 : Inf Tryz.prog 71 12 184 (.agg #[(.slice none 0 0), (.slice none 0 0), (.slice none 0 0), (.slice none 0 0), (.int .i64 0), (.int .i64 0), (.int .i64 0), (.bool false), (.string ⟨#[]⟩), (.slice none 0 0), (.int .i64 0), (.bool false)]) := ⟨by kernel_rfl⟩
instance : Agg Tryz.prog 71 true := ⟨fun w => by simp [isAgg, run_underlying Tryz.underlying71]⟩
instance : Plc Tryz.prog 71 [(0, 3), (3, 1), (4, 7), (11, 1)] := ⟨fun w => ⟨_, Tryz.underlying71, run_places w _ _ (by kernel_rfl)⟩⟩
instance : Fld Tryz.prog 71 0 0 := mk_fld Tryz.underlying71 rfl (inf36).pos rfl
instance : Fld Tryz.prog 71 1 3 := mk_fld Tryz.underlying71 rfl (inf69).pos rfl
instance : Fld Tryz.prog 71 2 4 := mk_fld Tryz.underlying71 rfl (inf51).pos rfl
instance : Fld Tryz.prog 71 3 11 := mk_fld Tryz.underlying71 rfl (inf4).pos rfl
instance inf73 : Inf Tryz.prog 73 1 24 (.agg #[(.slice none 0 0)]) := ⟨by kernel_rfl⟩
instance : Agg Tryz.prog 73 true := ⟨fun w => by simp [isAgg, run_underlying Tryz.underlying73]⟩
instance : Plc Tryz.prog 73 [(0, 1)] := ⟨fun w => ⟨_, Tryz.underlying73, run_places w _ _ (by kernel_rfl)⟩⟩
instance : Fld Tryz.prog 73 0 0 := mk_fld Tryz.underlying73 rfl (inf22).pos rfl
instance inf74 : Inf Tryz.prog 74 1 24 (.agg #[(.slice none 0 0)]) := ⟨by kernel_rfl⟩
instance : Agg Tryz.prog 74 true := ⟨fun w => by simp [isAgg, run_underlying Tryz.underlying74]⟩
instance : Plc Tryz.prog 74 [(0, 1)] := ⟨fun w => ⟨_, Tryz.underlying74, run_places w _ _ (by kernel_rfl)⟩⟩
instance : Fld Tryz.prog 74 0 0 := mk_fld Tryz.underlying74 rfl (inf22).pos rfl
instance inf75 : Inf Tryz.prog 75 4 64 (.agg #[(.slice none 0 0), (.int .i64 0), (.int .i64 0), (.slice none 0 0)]) := ⟨by kernel_rfl⟩
instance : Agg Tryz.prog 75 true := ⟨fun w => by simp [isAgg, run_underlying Tryz.underlying75]⟩
instance : Plc Tryz.prog 75 [(0, 1), (1, 1), (2, 1), (3, 1)] := ⟨fun w => ⟨_, Tryz.underlying75, run_places w _ _ (by kernel_rfl)⟩⟩
instance : Fld Tryz.prog 75 0 0 := mk_fld Tryz.underlying75 rfl (inf74).pos rfl
instance : Fld Tryz.prog 75 1 1 := mk_fld Tryz.underlying75 rfl (inf3).pos rfl
instance : Fld Tryz.prog 75 2 2 := mk_fld Tryz.underlying75 rfl (inf3).pos rfl
instance : Fld Tryz.prog 75 3 3 := mk_fld Tryz.underlying75 rfl (inf22).pos rfl
instance inf76 : Inf Tryz.prog 76 4 64 (.agg #[(.slice none 0 0), (.int .i64 0), (.int .i64 0), (.slice none 0 0)]) := ⟨by kernel_rfl⟩
instance : Agg Tryz.prog 76 true := ⟨fun w => by simp [isAgg, run_underlying Tryz.underlying76]⟩
instance : Plc Tryz.prog 76 [(0, 1), (1, 1), (2, 1), (3, 1)] := ⟨fun w => ⟨_, Tryz.underlying76, run_places w _ _ (by kernel_rfl)⟩⟩
instance : Fld Tryz.prog 76 0 0 := mk_fld Tryz.underlying76 rfl (inf74).pos rfl
instance : Fld Tryz.prog 76 1 1 := mk_fld Tryz.underlying76 rfl (inf3).pos rfl
instance : Fld Tryz.prog 76 2 2 := mk_fld Tryz.underlying76 rfl (inf3).pos rfl
instance : Fld Tryz.prog 76 3 3 := mk_fld Tryz.underlying76 rfl (inf22).pos rfl
instance : Und Tryz.prog 77 (.pointer 76) := ⟨by kernel_rfl⟩
instance inf77 : Inf Tryz.prog 77 1 8 (.pointer none) := ⟨by kernel_rfl⟩
instance : Agg Tryz.prog 77 false := ⟨fun w => by simp [isAgg, run_underlying Tryz.underlying77]⟩
instance : Und Tryz.prog 79 (.pointer 84) := ⟨by kernel_rfl⟩
instance inf79 : Inf Tryz.prog 79 1 8 (.pointer none) := ⟨by kernel_rfl⟩
instance : Agg Tryz.prog 79 false := ⟨fun w => by simp [isAgg, run_underlying Tryz.underlying79]⟩
instance : Und Tryz.prog 82 (.slice 86) := ⟨by kernel_rfl⟩
instance inf82 : Inf Tryz.prog 82 1 24 (.slice none 0 0) := ⟨by kernel_rfl⟩
instance : Agg Tryz.prog 82 false := ⟨fun w => by simp [isAgg, run_underlying Tryz.underlying82]⟩
instance inf83 : Inf Tryz.prog 83 8 120 (.agg #[(.pointer none), (.string ⟨#[]⟩), (.bool false), (.slice none 0 0), (.int .i64 0), (.int .i64 0), (.slice none 0 0), (.slice none 0 0)]) := ⟨by kernel_rfl⟩
instance : Agg Tryz.prog 83 true := ⟨fun w => by simp [isAgg, run_underlying Tryz.underlying83]⟩
instance : Plc Tryz.prog 83 [(0, 1), (1, 6), (7, 1)] := ⟨fun w => ⟨_, Tryz.underlying83, run_places w _ _ (by kernel_rfl)⟩⟩
instance : Fld Tryz.prog 83 0 0 := mk_fld Tryz.underlying83 rfl (inf56).pos rfl
instance : Fld Tryz.prog 83 1 1 := mk_fld Tryz.underlying83 rfl (inf65).pos rfl
instance : Fld Tryz.prog 83 2 7 := mk_fld Tryz.underlying83 rfl (inf82).pos rfl
instance inf84 : Inf Tryz.prog 84 8 120 (.agg #[(.pointer none), (.string ⟨#[]⟩), (.bool false), (.slice none 0 0), (.int .i64 0), (.int .i64 0), (.slice none 0 0), (.slice none 0 0)]) := ⟨by kernel_rfl⟩
instance : Agg Tryz.prog 84 true := ⟨fun w => by simp [isAgg, run_underlying Tryz.underlying84]⟩
instance : Plc Tryz.prog 84 [(0, 1), (1, 6), (7, 1)] := ⟨fun w => ⟨_, Tryz.underlying84, run_places w _ _ (by kernel_rfl)⟩⟩
instance : Fld Tryz.prog 84 0 0 := mk_fld Tryz.underlying84 rfl (inf56).pos rfl
instance : Fld Tryz.prog 84 1 1 := mk_fld Tryz.underlying84 rfl (inf65).pos rfl
instance : Fld Tryz.prog 84 2 7 := mk_fld Tryz.underlying84 rfl (inf82).pos rfl
instance inf85 : Inf Tryz.prog 85 4 56 (.agg #[(.bool false), (.bool false), (.slice none 0 0), (.slice none 0 0)]) := ⟨by kernel_rfl⟩
instance : Agg Tryz.prog 85 true := ⟨fun w => by simp [isAgg, run_underlying Tryz.underlying85]⟩
instance : Plc Tryz.prog 85 [(0, 1), (1, 1), (2, 1), (3, 1)] := ⟨fun w => ⟨_, Tryz.underlying85, run_places w _ _ (by kernel_rfl)⟩⟩
instance : Fld Tryz.prog 85 0 0 := mk_fld Tryz.underlying85 rfl (inf4).pos rfl
instance : Fld Tryz.prog 85 1 1 := mk_fld Tryz.underlying85 rfl (inf4).pos rfl
instance : Fld Tryz.prog 85 2 2 := mk_fld Tryz.underlying85 rfl (inf41).pos rfl
instance : Fld Tryz.prog 85 3 3 := mk_fld Tryz.underlying85 rfl (inf41).pos rfl
instance inf86 : Inf Tryz.prog 86 4 56 (.agg #[(.bool false), (.bool false), (.slice none 0 0), (.slice none 0 0)]) := ⟨by kernel_rfl⟩
instance : Agg Tryz.prog 86 true := ⟨fun w => by simp [isAgg, run_underlying Tryz.underlying86]⟩
instance : Plc Tryz.prog 86 [(0, 1), (1, 1), (2, 1), (3, 1)] := ⟨fun w => ⟨_, Tryz.underlying86, run_places w _ _ (by kernel_rfl)⟩⟩
instance : Fld Tryz.prog 86 0 0 := mk_fld Tryz.underlying86 rfl (inf4).pos rfl
instance : Fld Tryz.prog 86 1 1 := mk_fld Tryz.underlying86 rfl (inf4).pos rfl
instance : Fld Tryz.prog 86 2 2 := mk_fld Tryz.underlying86 rfl (inf41).pos rfl
instance : Fld Tryz.prog 86 3 3 := mk_fld Tryz.underlying86 rfl (inf41).pos rfl
instance inf92 : Inf Tryz.prog 92 4 64 (.agg #[(.string ⟨#[]⟩), (.string ⟨#[]⟩), (.slice none 0 0), (.int .i64 0)]) := ⟨by kernel_rfl⟩
instance : Agg Tryz.prog 92 true := ⟨fun w => by simp [isAgg, run_underlying Tryz.underlying92]⟩
instance : Plc Tryz.prog 92 [(0, 1), (1, 1), (2, 1), (3, 1)] := ⟨fun w => ⟨_, Tryz.underlying92, run_places w _ _ (by kernel_rfl)⟩⟩
instance : Fld Tryz.prog 92 0 0 := mk_fld Tryz.underlying92 rfl (inf9).pos rfl
instance : Fld Tryz.prog 92 1 1 := mk_fld Tryz.underlying92 rfl (inf9).pos rfl
instance : Fld Tryz.prog 92 2 2 := mk_fld Tryz.underlying92 rfl (inf41).pos rfl
instance : Fld Tryz.prog 92 3 3 := mk_fld Tryz.underlying92 rfl (inf47).pos rfl
instance inf93 : Inf Tryz.prog 93 4 64 (.agg #[(.string ⟨#[]⟩), (.string ⟨#[]⟩), (.slice none 0 0), (.int .i64 0)]) := ⟨by kernel_rfl⟩
instance : Agg Tryz.prog 93 true := ⟨fun w => by simp [isAgg, run_underlying Tryz.underlying93]⟩
instance : Plc Tryz.prog 93 [(0, 1), (1, 1), (2, 1), (3, 1)] := ⟨fun w => ⟨_, Tryz.underlying93, run_places w _ _ (by kernel_rfl)⟩⟩
instance : Fld Tryz.prog 93 0 0 := mk_fld Tryz.underlying93 rfl (inf9).pos rfl
instance : Fld Tryz.prog 93 1 1 := mk_fld Tryz.underlying93 rfl (inf9).pos rfl
instance : Fld Tryz.prog 93 2 2 := mk_fld Tryz.underlying93 rfl (inf41).pos rfl
instance : Fld Tryz.prog 93 3 3 := mk_fld Tryz.underlying93 rfl (inf47).pos rfl
instance : Und Tryz.prog 95 (.map 9 3) := ⟨by kernel_rfl⟩
instance inf95 : Inf Tryz.prog 95 1 8 (.map none) := ⟨by kernel_rfl⟩
instance : Agg Tryz.prog 95 false := ⟨fun w => by simp [isAgg, run_underlying Tryz.underlying95]⟩
instance inf96 : Inf Tryz.prog 96 2 16 (.agg #[(.int .i64 0), (.int .i64 0)]) := ⟨by kernel_rfl⟩
instance : Agg Tryz.prog 96 true := ⟨fun w => by simp [isAgg, run_underlying Tryz.underlying96]⟩
instance : Plc Tryz.prog 96 [(0, 1), (1, 1)] := ⟨fun w => ⟨_, Tryz.underlying96, run_places w _ _ (by kernel_rfl)⟩⟩
instance : Fld Tryz.prog 96 0 0 := mk_fld Tryz.underlying96 rfl (inf62).pos rfl
instance : Fld Tryz.prog 96 1 1 := mk_fld Tryz.underlying96 rfl (inf3).pos rfl
instance inf97 : Inf Tryz.prog 97 2 16 (.agg #[(.int .i64 0), (.int .i64 0)]) := ⟨by kernel_rfl⟩
instance : Agg Tryz.prog 97 true := ⟨fun w => by simp [isAgg, run_underlying Tryz.underlying97]⟩
instance : Plc Tryz.prog 97 [(0, 1), (1, 1)] := ⟨fun w => ⟨_, Tryz.underlying97, run_places w _ _ (by kernel_rfl)⟩⟩
instance : Fld Tryz.prog 97 0 0 := mk_fld Tryz.underlying97 rfl (inf62).pos rfl
instance : Fld Tryz.prog 97 1 1 := mk_fld Tryz.underlying97 rfl (inf3).pos rfl
instance inf106 : Inf Tryz.prog 106 5 72 (.agg #[(.pointer none), (.slice none 0 0), (.int .i64 0), (.int .i64 0), (.slice none 0 0)]) := ⟨by kernel_rfl⟩
instance : Agg Tryz.prog 106 true := ⟨fun w => by simp [isAgg, run_underlying Tryz.underlying106]⟩
instance : Plc Tryz.prog 106 [(0, 1), (1, 4)] := ⟨fun w => ⟨_, Tryz.underlying106, run_places w _ _ (by kernel_rfl)⟩⟩
instance : Fld Tryz.prog 106 0 0 := mk_fld Tryz.underlying106 rfl (inf77).pos rfl
instance : Fld Tryz.prog 106 1 1 := mk_fld Tryz.underlying106 rfl (inf76).pos rfl
instance inf107 : Inf Tryz.prog 107 5 72 (.agg #[(.pointer none), (.slice none 0 0), (.int .i64 0), (.int .i64 0), (.slice none 0 0)]) := ⟨by kernel_rfl⟩
instance : Agg Tryz.prog 107 true := ⟨fun w => by simp [isAgg, run_underlying Tryz.underlying107]⟩
instance : Plc Tryz.prog 107 [(0, 1), (1, 4)] := ⟨fun w => ⟨_, Tryz.underlying107, run_places w _ _ (by kernel_rfl)⟩⟩
instance : Fld Tryz.prog 107 0 0 := mk_fld Tryz.underlying107 rfl (inf77).pos rfl
instance : Fld Tryz.prog 107 1 1 := mk_fld Tryz.underlying107 rfl (inf76).pos rfl
instance inf108 : Inf Tryz.prog 108 1 8 (.agg #[(.int .i64 0)]) := ⟨by kernel_rfl⟩
instance : Agg Tryz.prog 108 true := ⟨fun w => by simp [isAgg, run_underlying Tryz.underlying108]⟩
instance : Plc Tryz.prog 108 [(0, 1)] := ⟨fun w => ⟨_, Tryz.underlying108, run_places w _ _ (by kernel_rfl)⟩⟩
instance : Fld Tryz.prog 108 0 0 := mk_fld Tryz.underlying108 rfl (inf3).pos rfl
instance inf109 : Inf Tryz.prog 109 1 8 (.agg #[(.int .i64 0)]) := ⟨by kernel_rfl⟩
instance : Agg Tryz.prog 109 true := ⟨fun w => by simp [isAgg, run_underlying Tryz.underlying109]⟩
instance : Plc Tryz.prog 109 [(0, 1)] := ⟨fun w => ⟨_, Tryz.underlying109, run_places w _ _ (by kernel_rfl)⟩⟩
instance : Fld Tryz.prog 109 0 0 := mk_fld Tryz.underlying109 rfl (inf3).pos rfl
instance : Und Tryz.prog 114 (.int .i64) := ⟨by kernel_rfl⟩
instance inf114 : Inf Tryz.prog 114 1 8 (.int .i64 0) := ⟨by kernel_rfl⟩
instance : Agg Tryz.prog 114 false := ⟨fun w => by simp [isAgg, run_underlying Tryz.underlying114]⟩
instance : Und Tryz.prog 117 (.map 3 3) := ⟨by kernel_rfl⟩
instance inf117 : Inf Tryz.prog 117 1 8 (.map none) := ⟨by kernel_rfl⟩
instance : Agg Tryz.prog 117 false := ⟨fun w => by simp [isAgg, run_underlying Tryz.underlying117]⟩
instance : Und Tryz.prog 119 (.slice 3) := ⟨by kernel_rfl⟩
instance inf119 : Inf Tryz.prog 119 1 24 (.slice none 0 0) := ⟨by kernel_rfl⟩
instance : Agg Tryz.prog 119 false := ⟨fun w => by simp [isAgg, run_underlying Tryz.underlying119]⟩
instance : Und Tryz.prog 130 (.slice 9) := ⟨by kernel_rfl⟩
instance inf130 : Inf Tryz.prog 130 1 24 (.slice none 0 0) := ⟨by kernel_rfl⟩
instance : Agg Tryz.prog 130 false := ⟨fun w => by simp [isAgg, run_underlying Tryz.underlying130]⟩
instance inf135 : Inf Tryz.prog 135 4 40 (.agg #[(.string ⟨#[]⟩), (.bool false), (.int .i64 0), (.int .i64 0)]) := ⟨by kernel_rfl⟩
instance : Agg Tryz.prog 135 true := ⟨fun w => by simp [isAgg, run_underlying Tryz.underlying135]⟩
instance : Plc Tryz.prog 135 [(0, 1), (1, 1), (2, 1), (3, 1)] := ⟨fun w => ⟨_, Tryz.underlying135, run_places w _ _ (by kernel_rfl)⟩⟩
instance : Fld Tryz.prog 135 0 0 := mk_fld Tryz.underlying135 rfl (inf9).pos rfl
instance : Fld Tryz.prog 135 1 1 := mk_fld Tryz.underlying135 rfl (inf4).pos rfl
instance : Fld Tryz.prog 135 2 2 := mk_fld Tryz.underlying135 rfl (inf3).pos rfl
instance : Fld Tryz.prog 135 3 3 := mk_fld Tryz.underlying135 rfl (inf3).pos rfl
instance inf136 : Inf Tryz.prog 136 4 40 (.agg #[(.string ⟨#[]⟩), (.bool false), (.int .i64 0), (.int .i64 0)]) := ⟨by kernel_rfl⟩
instance : Agg Tryz.prog 136 true := ⟨fun w => by simp [isAgg, run_underlying Tryz.underlying136]⟩
instance : Plc Tryz.prog 136 [(0, 1), (1, 1), (2, 1), (3, 1)] := ⟨fun w => ⟨_, Tryz.underlying136, run_places w _ _ (by kernel_rfl)⟩⟩
instance : Fld Tryz.prog 136 0 0 := mk_fld Tryz.underlying136 rfl (inf9).pos rfl
instance : Fld Tryz.prog 136 1 1 := mk_fld Tryz.underlying136 rfl (inf4).pos rfl
instance : Fld Tryz.prog 136 2 2 := mk_fld Tryz.underlying136 rfl (inf3).pos rfl
instance : Fld Tryz.prog 136 3 3 := mk_fld Tryz.underlying136 rfl (inf3).pos rfl
instance inf157 : Inf Tryz.prog 157 108 1080 (.agg #[(.string ⟨#[]⟩), (.bool false), (.int .i64 0), (.int .i64 0), (.string ⟨#[]⟩), (.bool false), (.int .i64 0), (.int .i64 0), (.string ⟨#[]⟩), (.bool false), (.int .i64 0), (.int .i64 0), (.string ⟨#[]⟩), (.bool false), (.int .i64 0), (.int .i64 0), (.string ⟨#[]⟩), (.bool false), (.int .i64 0), (.int .i64 0), (.string ⟨#[]⟩), (.bool false), (.int .i64 0), (.int .i64 0), (.string ⟨#[]⟩), (.bool false), (.int .i64 0), (.int .i64 0), (.string ⟨#[]⟩), (.bool false), (.int .i64 0), (.int .i64 0), (.string ⟨#[]⟩), (.bool false), (.int .i64 0), (.int .i64 0), (.string ⟨#[]⟩), (.bool false), (.int .i64 0), (.int .i64 0), (.string ⟨#[]⟩), (.bool false), (.int .i64 0), (.int .i64 0), (.string ⟨#[]⟩), (.bool false), (.int .i64 0), (.int .i64 0), (.string ⟨#[]⟩), (.bool false), (.int .i64 0), (.int .i64 0), (.string ⟨#[]⟩), (.bool false), (.int .i64 0), (.int .i64 0), (.string ⟨#[]⟩), (.bool false), (.int .i64 0), (.int .i64 0), (.string ⟨#[]⟩), (.bool false), (.int .i64 0), (.int .i64 0), (.string ⟨#[]⟩), (.bool false), (.int .i64 0), (.int .i64 0), (.string ⟨#[]⟩), (.bool false), (.int .i64 0), (.int .i64 0), (.string ⟨#[]⟩), (.bool false), (.int .i64 0), (.int .i64 0), (.string ⟨#[]⟩), (.bool false), (.int .i64 0), (.int .i64 0), (.string ⟨#[]⟩), (.bool false), (.int .i64 0), (.int .i64 0), (.string ⟨#[]⟩), (.bool false), (.int .i64 0), (.int .i64 0), (.string ⟨#[]⟩), (.bool false), (.int .i64 0), (.int .i64 0), (.string ⟨#[]⟩), (.bool false), (.int .i64 0), (.int .i64 0), (.string ⟨#[]⟩), (.bool false), (.int .i64 0), (.int .i64 0), (.string ⟨#[]⟩), (.bool false), (.int .i64 0), (.int .i64 0), (.string ⟨#[]⟩), (.bool false), (.int .i64 0), (.int .i64 0)]) := ⟨by kernel_rfl⟩
instance : Agg Tryz.prog 157 true := ⟨fun w => by simp [isAgg, run_underlying Tryz.underlying157]⟩
instance : Und Tryz.prog 160 (.pointer 74) := ⟨by kernel_rfl⟩
instance inf160 : Inf Tryz.prog 160 1 8 (.pointer none) := ⟨by kernel_rfl⟩
instance : Agg Tryz.prog 160 false := ⟨fun w => by simp [isAgg, run_underlying Tryz.underlying160]⟩
instance inf165 : Inf Tryz.prog 165 16 256 (.agg #[(.string ⟨#[]⟩), (.string ⟨#[]⟩), (.string ⟨#[]⟩), (.string ⟨#[]⟩), (.string ⟨#[]⟩), (.string ⟨#[]⟩), (.string ⟨#[]⟩), (.string ⟨#[]⟩), (.string ⟨#[]⟩), (.string ⟨#[]⟩), (.string ⟨#[]⟩), (.string ⟨#[]⟩), (.string ⟨#[]⟩), (.string ⟨#[]⟩), (.string ⟨#[]⟩), (.string ⟨#[]⟩)]) := ⟨by kernel_rfl⟩
instance : Agg Tryz.prog 165 true := ⟨fun w => by simp [isAgg, run_underlying Tryz.underlying165]⟩
instance : Und Tryz.prog 171 (.slice 5) := ⟨by kernel_rfl⟩
instance inf171 : Inf Tryz.prog 171 1 24 (.slice none 0 0) := ⟨by kernel_rfl⟩
instance : Agg Tryz.prog 171 false := ⟨fun w => by simp [isAgg, run_underlying Tryz.underlying171]⟩
instance inf174 : Inf Tryz.prog 174 7 112 (.agg #[(.string ⟨#[]⟩), (.string ⟨#[]⟩), (.string ⟨#[]⟩), (.string ⟨#[]⟩), (.string ⟨#[]⟩), (.string ⟨#[]⟩), (.string ⟨#[]⟩)]) := ⟨by kernel_rfl⟩
instance : Agg Tryz.prog 174 true := ⟨fun w => by simp [isAgg, run_underlying Tryz.underlying174]⟩
instance : Und Tryz.prog 181 (.int .u64) := ⟨by kernel_rfl⟩
instance inf181 : Inf Tryz.prog 181 1 8 (.int .u64 0) := ⟨by kernel_rfl⟩
instance : Agg Tryz.prog 181 false := ⟨fun w => by simp [isAgg, run_underlying Tryz.underlying181]⟩
instance : Und Tryz.prog 184 (.int .i64) := ⟨by kernel_rfl⟩
instance inf184 : Inf Tryz.prog 184 1 8 (.int .i64 0) := ⟨by kernel_rfl⟩
instance : Agg Tryz.prog 184 false := ⟨fun w => by simp [isAgg, run_underlying Tryz.underlying184]⟩
instance : Und Tryz.prog 185 (.int .u64) := ⟨by kernel_rfl⟩
instance inf185 : Inf Tryz.prog 185 1 8 (.int .u64 0) := ⟨by kernel_rfl⟩
instance : Agg Tryz.prog 185 false := ⟨fun w => by simp [isAgg, run_underlying Tryz.underlying185]⟩
instance : Und Tryz.prog 188 (.pointer 200) := ⟨by kernel_rfl⟩
instance inf188 : Inf Tryz.prog 188 1 8 (.pointer none) := ⟨by kernel_rfl⟩
instance : Agg Tryz.prog 188 false := ⟨fun w => by simp [isAgg, run_underlying Tryz.underlying188]⟩
instance inf192 : Inf Tryz.prog 192 24 24 (.agg #[(.int .u8 0), (.int .u8 0), (.int .u8 0), (.int .u8 0), (.int .u8 0), (.int .u8 0), (.int .u8 0), (.int .u8 0), (.int .u8 0), (.int .u8 0), (.int .u8 0), (.int .u8 0), (.int .u8 0), (.int .u8 0), (.int .u8 0), (.int .u8 0), (.int .u8 0), (.int .u8 0), (.int .u8 0), (.int .u8 0), (.int .u8 0), (.int .u8 0), (.int .u8 0), (.int .u8 0)]) := ⟨by kernel_rfl⟩
instance : Agg Tryz.prog 192 true := ⟨fun w => by simp [isAgg, run_underlying Tryz.underlying192]⟩
instance inf199 : Inf Tryz.prog 199 3 48 (.agg #[(.string ⟨#[]⟩), (.string ⟨#[]⟩), .nilIface]) := ⟨by kernel_rfl⟩
instance : Agg Tryz.prog 199 true := ⟨fun w => by simp [isAgg, run_underlying Tryz.underlying199]⟩
instance : Plc Tryz.prog 199 [(0, 1), (1, 1), (2, 1)] := ⟨fun w => ⟨_, Tryz.underlying199, run_places w _ _ (by kernel_rfl)⟩⟩
instance : Fld Tryz.prog 199 0 0 := mk_fld Tryz.underlying199 rfl (inf9).pos rfl
instance : Fld Tryz.prog 199 1 1 := mk_fld Tryz.underlying199 rfl (inf9).pos rfl
instance inf200 : Inf Tryz.prog 200 3 48 (.agg #[(.string ⟨#[]⟩), (.string ⟨#[]⟩), .nilIface]) := ⟨by kernel_rfl⟩
instance : Agg Tryz.prog 200 true := ⟨fun w => by simp [isAgg, run_underlying Tryz.underlying200]⟩
instance : Plc Tryz.prog 200 [(0, 1), (1, 1), (2, 1)] := ⟨fun w => ⟨_, Tryz.underlying200, run_places w _ _ (by kernel_rfl)⟩⟩
instance : Fld Tryz.prog 200 0 0 := mk_fld Tryz.underlying200 rfl (inf9).pos rfl
instance : Fld Tryz.prog 200 1 1 := mk_fld Tryz.underlying200 rfl (inf9).pos rfl
instance inf203 : Inf Tryz.prog 203 20 160 (.agg #[(.int .u64 0), (.int .u64 0), (.int .u64 0), (.int .u64 0), (.int .u64 0), (.int .u64 0), (.int .u64 0), (.int .u64 0), (.int .u64 0), (.int .u64 0), (.int .u64 0), (.int .u64 0), (.int .u64 0), (.int .u64 0), (.int .u64 0), (.int .u64 0), (.int .u64 0), (.int .u64 0), (.int .u64 0), (.int .u64 0)]) := ⟨by kernel_rfl⟩
instance : Agg Tryz.prog 203 true := ⟨fun w => by simp [isAgg, run_underlying Tryz.underlying203]⟩
instance : Und Tryz.prog 204 (.int .u32) := ⟨by kernel_rfl⟩
instance inf204 : Inf Tryz.prog 204 1 4 (.int .u32 0) := ⟨by kernel_rfl⟩
instance : Agg Tryz.prog 204 false := ⟨fun w => by simp [isAgg, run_underlying Tryz.underlying204]⟩
instance inf205 : Inf Tryz.prog 205 65 65 (.agg #[(.int .u8 0), (.int .u8 0), (.int .u8 0), (.int .u8 0), (.int .u8 0), (.int .u8 0), (.int .u8 0), (.int .u8 0), (.int .u8 0), (.int .u8 0), (.int .u8 0), (.int .u8 0), (.int .u8 0), (.int .u8 0), (.int .u8 0), (.int .u8 0), (.int .u8 0), (.int .u8 0), (.int .u8 0), (.int .u8 0), (.int .u8 0), (.int .u8 0), (.int .u8 0), (.int .u8 0), (.int .u8 0), (.int .u8 0), (.int .u8 0), (.int .u8 0), (.int .u8 0), (.int .u8 0), (.int .u8 0), (.int .u8 0), (.int .u8 0), (.int .u8 0), (.int .u8 0), (.int .u8 0), (.int .u8 0), (.int .u8 0), (.int .u8 0), (.int .u8 0), (.int .u8 0), (.int .u8 0), (.int .u8 0), (.int .u8 0), (.int .u8 0), (.int .u8 0), (.int .u8 0), (.int .u8 0), (.int .u8 0), (.int .u8 0), (.int .u8 0), (.int .u8 0), (.int .u8 0), (.int .u8 0), (.int .u8 0), (.int .u8 0), (.int .u8 0), (.int .u8 0), (.int .u8 0), (.int .u8 0), (.int .u8 0), (.int .u8 0), (.int .u8 0), (.int .u8 0), (.int .u8 0)]) := ⟨by kernel_rfl⟩
instance : Agg Tryz.prog 205 true := ⟨fun w => by simp [isAgg, run_underlying Tryz.underlying205]⟩
instance inf209 : Inf Tryz.prog 209 2 2 (.agg #[(.int .u8 0), (.int .u8 0)]) := ⟨by kernel_rfl⟩
instance : Agg Tryz.prog 209 true := ⟨fun w => by simp [isAgg, run_underlying Tryz.underlying209]⟩
instance : Plc Tryz.prog 209 [(0, 1), (1, 1)] := ⟨fun w => ⟨_, Tryz.underlying209, run_places w _ _ (by kernel_rfl)⟩⟩
instance : Fld Tryz.prog 209 0 0 := mk_fld Tryz.underlying209 rfl (inf5).pos rfl
instance : Fld Tryz.prog 209 1 1 := mk_fld Tryz.underlying209 rfl (inf5).pos rfl
instance inf210 : Inf Tryz.prog 210 2 2 (.agg #[(.int .u8 0), (.int .u8 0)]) := ⟨by kernel_rfl⟩
instance : Agg Tryz.prog 210 true := ⟨fun w => by simp [isAgg, run_underlying Tryz.underlying210]⟩
instance : Plc Tryz.prog 210 [(0, 1), (1, 1)] := ⟨fun w => ⟨_, Tryz.underlying210, run_places w _ _ (by kernel_rfl)⟩⟩
instance : Fld Tryz.prog 210 0 0 := mk_fld Tryz.underlying210 rfl (inf5).pos rfl
instance : Fld Tryz.prog 210 1 1 := mk_fld Tryz.underlying210 rfl (inf5).pos rfl
instance inf211 : Inf Tryz.prog 211 32 32 (.agg #[(.int .u8 0), (.int .u8 0), (.int .u8 0), (.int .u8 0), (.int .u8 0), (.int .u8 0), (.int .u8 0), (.int .u8 0), (.int .u8 0), (.int .u8 0), (.int .u8 0), (.int .u8 0), (.int .u8 0), (.int .u8 0), (.int .u8 0), (.int .u8 0), (.int .u8 0), (.int .u8 0), (.int .u8 0), (.int .u8 0), (.int .u8 0), (.int .u8 0), (.int .u8 0), (.int .u8 0), (.int .u8 0), (.int .u8 0), (.int .u8 0), (.int .u8 0), (.int .u8 0), (.int .u8 0), (.int .u8 0), (.int .u8 0)]) := ⟨by kernel_rfl⟩
instance : Agg Tryz.prog 211 true := ⟨fun w => by simp [isAgg, run_underlying Tryz.underlying211]⟩
instance : Und Tryz.prog 214 (.pointer 5) := ⟨by kernel_rfl⟩
instance inf214 : Inf Tryz.prog 214 1 8 (.pointer none) := ⟨by kernel_rfl⟩
instance : Agg Tryz.prog 214 false := ⟨fun w => by simp [isAgg, run_underlying Tryz.underlying214]⟩
instance : Und Tryz.prog 215 (.pointer 217) := ⟨by kernel_rfl⟩
instance inf215 : Inf Tryz.prog 215 1 8 (.pointer none) := ⟨by kernel_rfl⟩
instance : Agg Tryz.prog 215 false := ⟨fun w => by simp [isAgg, run_underlying Tryz.underlying215]⟩
instance inf216 : Inf Tryz.prog 216 1 16 (.agg #[(.string ⟨#[]⟩)]) := ⟨by kernel_rfl⟩
instance : Agg Tryz.prog 216 true := ⟨fun w => by simp [isAgg, run_underlying Tryz.underlying216]⟩
instance : Plc Tryz.prog 216 [(0, 1)] := ⟨fun w => ⟨_, Tryz.underlying216, run_places w _ _ (by kernel_rfl)⟩⟩
instance : Fld Tryz.prog 216 0 0 := mk_fld Tryz.underlying216 rfl (inf9).pos rfl
instance inf217 : Inf Tryz.prog 217 1 16 (.agg #[(.string ⟨#[]⟩)]) := ⟨by kernel_rfl⟩
instance : Agg Tryz.prog 217 true := ⟨fun w => by simp [isAgg, run_underlying Tryz.underlying217]⟩
instance : Plc Tryz.prog 217 [(0, 1)] := ⟨fun w => ⟨_, Tryz.underlying217, run_places w _ _ (by kernel_rfl)⟩⟩
instance : Fld Tryz.prog 217 0 0 := mk_fld Tryz.underlying217 rfl (inf9).pos rfl
instance inf219 : Inf Tryz.prog 219 32 32 (.agg #[(.int .u8 0), (.int .u8 0), (.int .u8 0), (.int .u8 0), (.int .u8 0), (.int .u8 0), (.int .u8 0), (.int .u8 0), (.int .u8 0), (.int .u8 0), (.int .u8 0), (.int .u8 0), (.int .u8 0), (.int .u8 0), (.int .u8 0), (.int .u8 0), (.int .u8 0), (.int .u8 0), (.int .u8 0), (.int .u8 0), (.int .u8 0), (.int .u8 0), (.int .u8 0), (.int .u8 0), (.int .u8 0), (.int .u8 0), (.int .u8 0), (.int .u8 0), (.int .u8 0), (.int .u8 0), (.int .u8 0), (.int .u8 0)]) := ⟨by kernel_rfl⟩
instance : Agg Tryz.prog 219 true := ⟨fun w => by simp [isAgg, run_underlying Tryz.underlying219]⟩
instance inf220 : Inf Tryz.prog 220 64 64 (.agg #[(.int .u8 0), (.int .u8 0), (.int .u8 0), (.int .u8 0), (.int .u8 0), (.int .u8 0), (.int .u8 0), (.int .u8 0), (.int .u8 0), (.int .u8 0), (.int .u8 0), (.int .u8 0), (.int .u8 0), (.int .u8 0), (.int .u8 0), (.int .u8 0), (.int .u8 0), (.int .u8 0), (.int .u8 0), (.int .u8 0), (.int .u8 0), (.int .u8 0), (.int .u8 0), (.int .u8 0), (.int .u8 0), (.int .u8 0), (.int .u8 0), (.int .u8 0), (.int .u8 0), (.int .u8 0), (.int .u8 0), (.int .u8 0), (.int .u8 0), (.int .u8 0), (.int .u8 0), (.int .u8 0), (.int .u8 0), (.int .u8 0), (.int .u8 0), (.int .u8 0), (.int .u8 0), (.int .u8 0), (.int .u8 0), (.int .u8 0), (.int .u8 0), (.int .u8 0), (.int .u8 0), (.int .u8 0), (.int .u8 0), (.int .u8 0), (.int .u8 0), (.int .u8 0), (.int .u8 0), (.int .u8 0), (.int .u8 0), (.int .u8 0), (.int .u8 0), (.int .u8 0), (.int .u8 0), (.int .u8 0), (.int .u8 0), (.int .u8 0), (.int .u8 0), (.int .u8 0)]) := ⟨by kernel_rfl⟩
instance : Agg Tryz.prog 220 true := ⟨fun w => by simp [isAgg, run_underlying Tryz.underlying220]⟩
instance inf222 : Inf Tryz.prog 222 4 40 (.agg #[(.pointer none), (.pointer none), (.pointer none), (.string ⟨#[]⟩)]) := ⟨by kernel_rfl⟩
instance : Agg Tryz.prog 222 true := ⟨fun w => by simp [isAgg, run_underlying Tryz.underlying222]⟩
instance : Plc Tryz.prog 222 [(0, 1), (1, 1), (2, 1), (3, 1)] := ⟨fun w => ⟨_, Tryz.underlying222, run_places w _ _ (by kernel_rfl)⟩⟩
instance : Fld Tryz.prog 222 0 0 := mk_fld Tryz.underlying222 rfl (inf17).pos rfl
instance : Fld Tryz.prog 222 1 1 := mk_fld Tryz.underlying222 rfl (inf17).pos rfl
instance : Fld Tryz.prog 222 2 2 := mk_fld Tryz.underlying222 rfl (inf17).pos rfl
instance : Fld Tryz.prog 222 3 3 := mk_fld Tryz.underlying222 rfl (inf9).pos rfl
instance inf223 : Inf Tryz.prog 223 4 40 (.agg #[(.pointer none), (.pointer none), (.pointer none), (.string ⟨#[]⟩)]) := ⟨by kernel_rfl⟩
instance : Agg Tryz.prog 223 true := ⟨fun w => by simp [isAgg, run_underlying Tryz.underlying223]⟩
instance : Plc Tryz.prog 223 [(0, 1), (1, 1), (2, 1), (3, 1)] := ⟨fun w => ⟨_, Tryz.underlying223, run_places w _ _ (by kernel_rfl)⟩⟩
instance : Fld Tryz.prog 223 0 0 := mk_fld Tryz.underlying223 rfl (inf17).pos rfl
instance : Fld Tryz.prog 223 1 1 := mk_fld Tryz.underlying223 rfl (inf17).pos rfl
instance : Fld Tryz.prog 223 2 2 := mk_fld Tryz.underlying223 rfl (inf17).pos rfl
instance : Fld Tryz.prog 223 3 3 := mk_fld Tryz.underlying223 rfl (inf9).pos rfl
instance inf224 : Inf Tryz.prog 224 0 0 (.agg #[]) := ⟨by kernel_rfl⟩
instance : Agg Tryz.prog 224 true := ⟨fun w => by simp [isAgg, run_underlying Tryz.underlying224]⟩
instance inf225 : Inf Tryz.prog 225 0 0 (.agg #[]) := ⟨by kernel_rfl⟩
instance : Agg Tryz.prog 225 true := ⟨fun w => by simp [isAgg, run_underlying Tryz.underlying225]⟩
instance : Plc Tryz.prog 225 [(0, 0)] := ⟨fun w => ⟨_, Tryz.underlying225, run_places w _ _ (by kernel_rfl)⟩⟩
instance inf226 : Inf Tryz.prog 226 0 0 (.agg #[]) := ⟨by kernel_rfl⟩
instance : Agg Tryz.prog 226 true := ⟨fun w => by simp [isAgg, run_underlying Tryz.underlying226]⟩
instance : Plc Tryz.prog 226 [(0, 0)] := ⟨fun w => ⟨_, Tryz.underlying226, run_places w _ _ (by kernel_rfl)⟩⟩
instance : Und Tryz.prog 227 (.int .u8) := ⟨by kernel_rfl⟩
instance inf227 : Inf Tryz.prog 227 1 1 (.int .u8 0) := ⟨by kernel_rfl⟩
instance : Agg Tryz.prog 227 false := ⟨fun w => by simp [isAgg, run_underlying Tryz.underlying227]⟩
instance : Und Tryz.prog 228 (.int .u8) := ⟨by kernel_rfl⟩
instance inf228 : Inf Tryz.prog 228 1 1 (.int .u8 0) := ⟨by kernel_rfl⟩
instance : Agg Tryz.prog 228 false := ⟨fun w => by simp [isAgg, run_underlying Tryz.underlying228]⟩
instance : Und Tryz.prog 230 (.int .i32) := ⟨by kernel_rfl⟩
instance inf230 : Inf Tryz.prog 230 1 4 (.int .i32 0) := ⟨by kernel_rfl⟩
instance : Agg Tryz.prog 230 false := ⟨fun w => by simp [isAgg, run_underlying Tryz.underlying230]⟩
instance : Und Tryz.prog 231 (.int .i32) := ⟨by kernel_rfl⟩
instance inf231 : Inf Tryz.prog 231 1 4 (.int .i32 0) := ⟨by kernel_rfl⟩
instance : Agg Tryz.prog 231 false := ⟨fun w => by simp [isAgg, run_underlying Tryz.underlying231]⟩
instance inf232 : Inf Tryz.prog 232 11 48 (.agg #[(.int .u64 0), (.int .u64 0), (.int .u32 0), (.int .u8 0), (.int .u8 0), (.int .u8 0), (.int .u8 0), .nilFunc, (.pointer none), (.int .i32 0), (.int .i32 0)]) := ⟨by kernel_rfl⟩
instance : Agg Tryz.prog 232 true := ⟨fun w => by simp [isAgg, run_underlying Tryz.underlying232]⟩
instance : Plc Tryz.prog 232 [(0, 1), (1, 1), (2, 1), (3, 1), (4, 1), (5, 1), (6, 1), (7, 1), (8, 1), (9, 1), (10, 1)] := ⟨fun w => ⟨_, Tryz.underlying232, run_places w _ _ (by kernel_rfl)⟩⟩
instance : Fld Tryz.prog 232 0 0 := mk_fld Tryz.underlying232 rfl (inf12).pos rfl
instance : Fld Tryz.prog 232 1 1 := mk_fld Tryz.underlying232 rfl (inf12).pos rfl
instance : Fld Tryz.prog 232 2 2 := mk_fld Tryz.underlying232 rfl (inf204).pos rfl
instance : Fld Tryz.prog 232 3 3 := mk_fld Tryz.underlying232 rfl (inf227).pos rfl
instance : Fld Tryz.prog 232 4 4 := mk_fld Tryz.underlying232 rfl (inf5).pos rfl
instance : Fld Tryz.prog 232 5 5 := mk_fld Tryz.underlying232 rfl (inf5).pos rfl
instance : Fld Tryz.prog 232 6 6 := mk_fld Tryz.underlying232 rfl (inf228).pos rfl
instance : Fld Tryz.prog 232 8 8 := mk_fld Tryz.underlying232 rfl (inf214).pos rfl
instance : Fld Tryz.prog 232 9 9 := mk_fld Tryz.underlying232 rfl (inf230).pos rfl
instance : Fld Tryz.prog 232 10 10 := mk_fld Tryz.underlying232 rfl (inf231).pos rfl
instance inf233 : Inf Tryz.prog 233 11 48 (.agg #[(.int .u64 0), (.int .u64 0), (.int .u32 0), (.int .u8 0), (.int .u8 0), (.int .u8 0), (.int .u8 0), .nilFunc, (.pointer none), (.int .i32 0), (.int .i32 0)]) := ⟨by kernel_rfl⟩
instance : Agg Tryz.prog 233 true := ⟨fun w => by simp [isAgg, run_underlying Tryz.underlying233]⟩
instance : Plc Tryz.prog 233 [(0, 1), (1, 1), (2, 1), (3, 1), (4, 1), (5, 1), (6, 1), (7, 1), (8, 1), (9, 1), (10, 1)] := ⟨fun w => ⟨_, Tryz.underlying233, run_places w _ _ (by kernel_rfl)⟩⟩
instance : Fld Tryz.prog 233 0 0 := mk_fld Tryz.underlying233 rfl (inf12).pos rfl
instance : Fld Tryz.prog 233 1 1 := mk_fld Tryz.underlying233 rfl (inf12).pos rfl
instance : Fld Tryz.prog 233 2 2 := mk_fld Tryz.underlying233 rfl (inf204).pos rfl
instance : Fld Tryz.prog 233 3 3 := mk_fld Tryz.underlying233 rfl (inf227).pos rfl
instance : Fld Tryz.prog 233 4 4 := mk_fld Tryz.underlying233 rfl (inf5).pos rfl
instance : Fld Tryz.prog 233 5 5 := mk_fld Tryz.underlying233 rfl (inf5).pos rfl
instance : Fld Tryz.prog 233 6 6 := mk_fld Tryz.underlying233 rfl (inf228).pos rfl
instance : Fld Tryz.prog 233 8 8 := mk_fld Tryz.underlying233 rfl (inf214).pos rfl
instance : Fld Tryz.prog 233 9 9 := mk_fld Tryz.underlying233 rfl (inf230).pos rfl
instance : Fld Tryz.prog 233 10 10 := mk_fld Tryz.underlying233 rfl (inf231).pos rfl
instance inf234 : Inf Tryz.prog 234 3 40 (.agg #[(.string ⟨#[]⟩), (.string ⟨#[]⟩), (.int .i64 0)]) := ⟨by kernel_rfl⟩
instance : Agg Tryz.prog 234 true := ⟨fun w => by simp [isAgg, run_underlying Tryz.underlying234]⟩
instance : Plc Tryz.prog 234 [(0, 1), (1, 1), (2, 1)] := ⟨fun w => ⟨_, Tryz.underlying234, run_places w _ _ (by kernel_rfl)⟩⟩
instance : Fld Tryz.prog 234 0 0 := mk_fld Tryz.underlying234 rfl (inf9).pos rfl
instance : Fld Tryz.prog 234 1 1 := mk_fld Tryz.underlying234 rfl (inf9).pos rfl
instance : Fld Tryz.prog 234 2 2 := mk_fld Tryz.underlying234 rfl (inf3).pos rfl
instance inf235 : Inf Tryz.prog 235 3 40 (.agg #[(.string ⟨#[]⟩), (.string ⟨#[]⟩), (.int .i64 0)]) := ⟨by kernel_rfl⟩
instance : Agg Tryz.prog 235 true := ⟨fun w => by simp [isAgg, run_underlying Tryz.underlying235]⟩
instance : Plc Tryz.prog 235 [(0, 1), (1, 1), (2, 1)] := ⟨fun w => ⟨_, Tryz.underlying235, run_places w _ _ (by kernel_rfl)⟩⟩
instance : Fld Tryz.prog 235 0 0 := mk_fld Tryz.underlying235 rfl (inf9).pos rfl
instance : Fld Tryz.prog 235 1 1 := mk_fld Tryz.underlying235 rfl (inf9).pos rfl
instance : Fld Tryz.prog 235 2 2 := mk_fld Tryz.underlying235 rfl (inf3).pos rfl
-- 3: treadle/treadlelaw20.VmSafe
instance : Body Tryz.prog 3 := mk_body Tryz.func3 (by decide) rfl
-- 4: treadle/code.Object
instance : Body Tryz.prog 4 := mk_body Tryz.func4 (by decide) rfl
-- 5: treadle/treadlelaw20.awake
instance : Body Tryz.prog 5 := mk_body Tryz.func5 (by decide) rfl
-- 6: treadle/vm.Start
instance : Body Tryz.prog 6 := mk_body Tryz.func6 (by decide) rfl
-- 7: (*treadle/vm.Machine).Ended
instance : Body Tryz.prog 7 := mk_body Tryz.func7 (by decide) rfl
-- 8: (*treadle/vm.Machine).Spot
instance : Body Tryz.prog 8 := mk_body Tryz.func8 (by decide) rfl
-- 9: treadle/code.Types
instance : Body Tryz.prog 9 := mk_body Tryz.func9 (by decide) rfl
-- 10: treadle/treadlelaw20.fits
instance : Body Tryz.prog 10 := mk_body Tryz.func10 (by decide) rfl
-- 11: (*treadle/vm.Machine).Vars
instance : Body Tryz.prog 11 := mk_body Tryz.func11 (by decide) rfl
-- 12: (*treadle/vm.Machine).Stack
instance : Body Tryz.prog 12 := mk_body Tryz.func12 (by decide) rfl
-- 13: (*treadle/vm.Machine).Step
instance : Body Tryz.prog 13 := mk_body Tryz.func13 (by decide) rfl
-- 14: (*treadle/vm.Machine).Outcome
instance : Body Tryz.prog 14 := mk_body Tryz.func14 (by decide) rfl
-- 15: treadle/vm.Run
instance : Body Tryz.prog 15 := mk_body Tryz.func15 (by decide) rfl
-- 16: treadle/code.object
instance : Body Tryz.prog 16 := mk_body Tryz.func16 (by decide) rfl
-- 17: (*treadle/code.world).all
instance : Body Tryz.prog 17 := mk_body Tryz.func17 (by decide) rfl
-- 18: treadle/treadlelaw20.two
instance : Body Tryz.prog 18 := mk_body Tryz.func18 (by decide) rfl
-- 19: treadle/treadlelaw20.number
instance : Body Tryz.prog 19 := mk_body Tryz.func19 (by decide) rfl
-- 20: treadle/vm.sized
instance : Body Tryz.prog 20 := mk_body Tryz.func20 (by decide) rfl
-- 21: treadle/vm.value
instance : Body Tryz.prog 21 := mk_body Tryz.func21 (by decide) rfl
-- 22: treadle/vm.own
instance : Body Tryz.prog 22 := mk_body Tryz.func22 (by decide) rfl
-- 23: (*treadle/vm.Machine).enter
instance : Body Tryz.prog 23 := mk_body Tryz.func23 (by decide) rfl
-- 24: (*treadle/vm.Machine).made
instance : Body Tryz.prog 24 := mk_body Tryz.func24 (by decide) rfl
-- 25: (*treadle/vm.Machine).top
instance : Body Tryz.prog 25 := mk_body Tryz.func25 (by decide) rfl
-- 26: treadle/code.find
instance : Body Tryz.prog 26 := mk_body Tryz.func26 (by decide) rfl
-- 27: (treadle/code.state).copied
instance : Body Tryz.prog 27 := mk_body Tryz.func27 (by decide) rfl
-- 28: (*treadle/vm.Machine).Depth
instance : Body Tryz.prog 28 := mk_body Tryz.func28 (by decide) rfl
-- 29: slices.Clone[[]treadle/api.Value,treadle/api.Value]
instance : Body Tryz.prog 29 := mk_body Tryz.func29 (by decide) rfl
-- 30: (*treadle/vm.Machine).step
instance : Body Tryz.prog 30 := mk_body Tryz.func30 (by decide) rfl
-- 31: treadle/code.file
instance : Body Tryz.prog 31 := mk_body Tryz.func31 (by decide) rfl
-- 32: treadle/code.values
instance : Body Tryz.prog 32 := mk_body Tryz.func32 (by decide) rfl
-- 33: treadle/lex.Word
instance : Body Tryz.prog 33 := mk_body Tryz.func33 (by decide) rfl
-- 34: treadle/code.head
instance : Body Tryz.prog 34 := mk_body Tryz.func34 (by decide) rfl
-- 35: treadle/code.proc
instance : Body Tryz.prog 35 := mk_body Tryz.func35 (by decide) rfl
-- 36: (*treadle/code.world).alone
instance : Body Tryz.prog 36 := mk_body Tryz.func36 (by decide) rfl
-- 37: (*treadle/code.world).flow
instance : Body Tryz.prog 37 := mk_body Tryz.func37 (by decide) rfl
-- 38: (*treadle/code.flow).wrong
instance : Body Tryz.prog 38 := mk_body Tryz.func38 (by decide) rfl
-- 39: slices.Clone[[]treadle/api.Proc,treadle/api.Proc]
instance : Body Tryz.prog 39 := mk_body Tryz.func39 (by decide) rfl
-- 40: slices.Clone[[]treadle/api.Type,treadle/api.Type]
instance : Body Tryz.prog 40 := mk_body Tryz.func40 (by decide) rfl
-- 41: slices.Clone[[]treadle/api.Instr,treadle/api.Instr]
instance : Body Tryz.prog 41 := mk_body Tryz.func41 (by decide) rfl
-- 42: (*treadle/vm.frame).copied
instance : Body Tryz.prog 42 := mk_body Tryz.func42 (by decide) rfl
-- 43: (*treadle/vm.Machine).step$1
instance : Body Tryz.prog 43 := mk_body Tryz.func43 (by decide) rfl
-- 44: (*treadle/vm.Machine).do
instance : Body Tryz.prog 44 := mk_body Tryz.func44 (by decide) rfl
-- 45: treadle/path.Check
instance : Body Tryz.prog 45 := mk_body Tryz.func45 (by decide) rfl
-- 46: treadle/code.value
instance : Body Tryz.prog 46 := mk_body Tryz.func46 (by decide) rfl
-- 47: treadle/lex.just
instance : Body Tryz.prog 47 := mk_body Tryz.func47 (by decide) rfl
-- 48: treadle/code.typed
instance : Body Tryz.prog 48 := mk_body Tryz.func48 (by decide) rfl
-- 49: treadle/code.may
instance : Body Tryz.prog 49 := mk_body Tryz.func49 (by decide) rfl
-- 50: (*treadle/code.flow).behind
instance : Body Tryz.prog 50 := mk_body Tryz.func50 (by decide) rfl
-- 51: treadle/code.next
instance : Body Tryz.prog 51 := mk_body Tryz.func51 (by decide) rfl
-- 52: treadle/code.joined
instance : Body Tryz.prog 52 := mk_body Tryz.func52 (by decide) rfl
-- 53: treadle/code.same
instance : Body Tryz.prog 53 := mk_body Tryz.func53 (by decide) rfl
-- 54: (*treadle/code.flow).at
instance : Body Tryz.prog 54 := mk_body Tryz.func54 (by decide) rfl
-- 55: treadle/vm.need
instance : Body Tryz.prog 55 := mk_body Tryz.func55 (by decide) rfl
-- 56: (*treadle/vm.Machine).lay
instance : Body Tryz.prog 56 := mk_body Tryz.func56 (by decide) rfl
-- 57: (*treadle/vm.Machine).take
instance : Body Tryz.prog 57 := mk_body Tryz.func57 (by decide) rfl
-- 58: (*treadle/vm.Machine).typed
instance : Body Tryz.prog 58 := mk_body Tryz.func58 (by decide) rfl
-- 59: (*treadle/vm.Machine).call
instance : Body Tryz.prog 59 := mk_body Tryz.func59 (by decide) rfl
-- 60: (*treadle/vm.Machine).plain
instance : Body Tryz.prog 60 := mk_body Tryz.func60 (by decide) rfl
-- 61: treadle/path.Names
instance : Body Tryz.prog 61 := mk_body Tryz.func61 (by decide) rfl
-- 62: treadle/lex.token
instance : Body Tryz.prog 62 := mk_body Tryz.func62 (by decide) rfl
-- 63: treadle/code.rowOf
instance : Body Tryz.prog 63 := mk_body Tryz.func63 (by decide) rfl
-- 64: (*treadle/code.flow).effect
instance : Body Tryz.prog 64 := mk_body Tryz.func64 (by decide) rfl
-- 65: treadle/code.joinRow
instance : Body Tryz.prog 65 := mk_body Tryz.func65 (by decide) rfl
-- 66: slices.Equal[[]treadle/api.Type,treadle/api.Type]
instance : Body Tryz.prog 66 := mk_body Tryz.func66 (by decide) rfl
-- 67: (*treadle/code.flow).kinds
instance : Body Tryz.prog 67 := mk_body Tryz.func67 (by decide) rfl
-- 68: treadle/vm.stuck
instance : Body Tryz.prog 68 := mk_body Tryz.func68 (by decide) rfl
-- 69: (*treadle/vm.stack).high
instance : Body Tryz.prog 69 := mk_body Tryz.func69 (by decide) rfl
-- 70: (*treadle/vm.stack).push
instance : Body Tryz.prog 70 := mk_body Tryz.func70 (by decide) rfl
-- 71: (*treadle/vm.stack).pop
instance : Body Tryz.prog 71 := mk_body Tryz.func71 (by decide) rfl
-- 72: (*treadle/vm.Machine).leave
instance : Body Tryz.prog 72 := mk_body Tryz.func72 (by decide) rfl
-- 73: treadle/vm.truth
instance : Body Tryz.prog 73 := mk_body Tryz.func73 (by decide) rfl
-- 74: treadle/vm.number
instance : Body Tryz.prog 74 := mk_body Tryz.func74 (by decide) rfl
-- 75: (*treadle/vm.Machine).ordered
instance : Body Tryz.prog 75 := mk_body Tryz.func75 (by decide) rfl
-- 76: treadle/vm.reckon
instance : Body Tryz.prog 76 := mk_body Tryz.func76 (by decide) rfl
-- 77: strings.Split
instance : Body Tryz.prog 77 := mk_body Tryz.func77 (by decide) rfl
-- 78: treadle/path.Name
instance : Body Tryz.prog 78 := mk_body Tryz.func78 (by decide) rfl
-- 79: treadle/lex.letter
instance : Body Tryz.prog 79 := mk_body Tryz.func79 (by decide) rfl
-- 80: treadle/lex.run
instance : Body Tryz.prog 80 := mk_body Tryz.func80 (by decide) rfl
-- 81: treadle/lex.token$1
instance : Body Tryz.prog 81 := mk_body Tryz.func81 (by decide) rfl
-- 82: treadle/lex.digit
instance : Body Tryz.prog 82 := mk_body Tryz.func82 (by decide) rfl
-- 83: treadle/lex.Key
instance : Body Tryz.prog 83 := mk_body Tryz.func83 (by decide) rfl
-- 84: treadle/lex.whole
instance : Body Tryz.prog 84 := mk_body Tryz.func84 (by decide) rfl
-- 85: treadle/lex.quoted
instance : Body Tryz.prog 85 := mk_body Tryz.func85 (by decide) rfl
-- 86: treadle/lex.sign
instance : Body Tryz.prog 86 := mk_body Tryz.func86 (by decide) rfl
-- 87: (*treadle/code.flow).effect$1
instance : Body Tryz.prog 87 := mk_body Tryz.func87 (by decide) rfl
-- 88: (*treadle/code.flow).effect$2
instance : Body Tryz.prog 88 := mk_body Tryz.func88 (by decide) rfl
-- 89: (*treadle/code.flow).kinds$1
instance : Body Tryz.prog 89 := mk_body Tryz.func89 (by decide) rfl
-- 90: cmp.Or[int]
instance : Body Tryz.prog 90 := mk_body Tryz.func90 (by decide) rfl
-- 91: cmp.Compare[int64]
instance : Body Tryz.prog 91 := mk_body Tryz.func91 (by decide) rfl
-- 92: cmp.Compare[string]
instance : Body Tryz.prog 92 := mk_body Tryz.func92 (by decide) rfl
-- 93: strings.genSplit
instance : Body Tryz.prog 93 := mk_body Tryz.func93 (by decide) rfl
-- 94: strconv.ParseInt
instance : Body Tryz.prog 94 := mk_body Tryz.func94 (by decide) rfl
-- 95: strconv.FormatInt
instance : Body Tryz.prog 95 := mk_body Tryz.func95 (by decide) rfl
-- 96: treadle/lex.piece
instance : Body Tryz.prog 96 := mk_body Tryz.func96 (by decide) rfl
-- 97: strings.HasPrefix
instance : Body Tryz.prog 97 := mk_body Tryz.func97 (by decide) rfl
-- 98: strings.IndexByte
instance : Body Tryz.prog 98 := mk_body Tryz.func98 (by decide) rfl
-- 99: cmp.isNaN[int64]
instance : Body Tryz.prog 99 := mk_body Tryz.func99 (by decide) rfl
-- 100: cmp.isNaN[string]
instance : Body Tryz.prog 100 := mk_body Tryz.func100 (by decide) rfl
-- 101: strings.explode
instance : Body Tryz.prog 101 := mk_body Tryz.func101 (by decide) rfl
-- 102: strings.Count
instance : Body Tryz.prog 102 := mk_body Tryz.func102 (by decide) rfl
-- 103: strings.Index
instance : Body Tryz.prog 103 := mk_body Tryz.func103 (by decide) rfl
-- 104: internal/strconv.ParseInt
instance : Body Tryz.prog 104 := mk_body Tryz.func104 (by decide) rfl
-- 105: strconv.toError
instance : Body Tryz.prog 105 := mk_body Tryz.func105 (by decide) rfl
-- 106: internal/strconv.FormatInt
instance : Body Tryz.prog 106 := mk_body Tryz.func106 (by decide) rfl
-- 107: treadle/lex.nibble
instance : Body Tryz.prog 107 := mk_body Tryz.func107 (by decide) rfl
-- 108: internal/stringslite.HasPrefix
instance : Body Tryz.prog 108 := mk_body Tryz.func108 (by decide) rfl
-- 109: internal/stringslite.IndexByte
instance : Body Tryz.prog 109 := mk_body Tryz.func109 (by decide) rfl
-- 110: unicode/utf8.RuneCountInString
instance : Body Tryz.prog 110 := mk_body Tryz.func110 (by decide) rfl
-- 111: unicode/utf8.DecodeRuneInString
instance : Body Tryz.prog 111 := mk_body Tryz.func111 (by decide) rfl
-- 113: internal/stringslite.Index
instance : Body Tryz.prog 113 := mk_body Tryz.func113 (by decide) rfl
-- 114: internal/strconv.ParseUint
instance : Body Tryz.prog 114 := mk_body Tryz.func114 (by decide) rfl
-- 115: strconv.syntaxError
instance : Body Tryz.prog 115 := mk_body Tryz.func115 (by decide) rfl
-- 116: strconv.rangeError
instance : Body Tryz.prog 116 := mk_body Tryz.func116 (by decide) rfl
-- 117: strconv.baseError
instance : Body Tryz.prog 117 := mk_body Tryz.func117 (by decide) rfl
-- 118: strconv.bitSizeError
instance : Body Tryz.prog 118 := mk_body Tryz.func118 (by decide) rfl
-- 119: internal/strconv.small
instance : Body Tryz.prog 119 := mk_body Tryz.func119 (by decide) rfl
-- 120: internal/strconv.numDigits
instance : Body Tryz.prog 120 := mk_body Tryz.func120 (by decide) rfl
-- 121: internal/strconv.formatBase10
instance : Body Tryz.prog 121 := mk_body Tryz.func121 (by decide) rfl
-- 122: internal/strconv.formatBits
instance : Body Tryz.prog 122 := mk_body Tryz.func122 (by decide) rfl
-- 124: unicode/utf8.decodeRuneInStringSlow
instance : Body Tryz.prog 124 := mk_body Tryz.func124 (by decide) rfl
-- 126: internal/bytealg.Cutover
instance : Body Tryz.prog 126 := mk_body Tryz.func126 (by decide) rfl
-- 127: internal/bytealg.IndexRabinKarp[string]
instance : Body Tryz.prog 127 := mk_body Tryz.func127 (by decide) rfl
-- 128: internal/strconv.lower
instance : Body Tryz.prog 128 := mk_body Tryz.func128 (by decide) rfl
-- 129: internal/strconv.underscoreOK
instance : Body Tryz.prog 129 := mk_body Tryz.func129 (by decide) rfl
-- 130: internal/stringslite.Clone
instance : Body Tryz.prog 130 := mk_body Tryz.func130 (by decide) rfl
-- 131: errors.New
instance : Body Tryz.prog 131 := mk_body Tryz.func131 (by decide) rfl
-- 132: strconv.Itoa
instance : Body Tryz.prog 132 := mk_body Tryz.func132 (by decide) rfl
-- 133: internal/strconv.log10Pow2
instance : Body Tryz.prog 133 := mk_body Tryz.func133 (by decide) rfl
-- 134: math/bits.Len64
instance : Body Tryz.prog 134 := mk_body Tryz.func134 (by decide) rfl
-- 135: internal/strconv.bool2[int]
instance : Body Tryz.prog 135 := mk_body Tryz.func135 (by decide) rfl
-- 136: internal/strconv.isPowerOfTwo
instance : Body Tryz.prog 136 := mk_body Tryz.func136 (by decide) rfl
-- 137: math/bits.TrailingZeros
instance : Body Tryz.prog 137 := mk_body Tryz.func137 (by decide) rfl
-- 138: internal/bytealg.hashStr[string]
instance : Body Tryz.prog 138 := mk_body Tryz.func138 (by decide) rfl
-- 139: internal/strconv.Itoa
instance : Body Tryz.prog 139 := mk_body Tryz.func139 (by decide) rfl
-- 140: math/bits.TrailingZeros32
instance : Body Tryz.prog 140 := mk_body Tryz.func140 (by decide) rfl
-- 141: math/bits.TrailingZeros64
instance : Body Tryz.prog 141 := mk_body Tryz.func141 (by decide) rfl
-- 171: gosem.cut.vars
instance : Body Tryz.prog 171 := mk_body Tryz.func171 (by decide) rfl
theorem mixed : Tryz.prog.follows .mixedOrders = true := by kernel_rfl
end Go.Proofs.YtbfgljcjblfleaaGreatDoor.Gb
namespace Go.Proofs.YtbfgljcjblfleaaGreatDoor.Gb
open Go
section
variable {P : Program} {Q : Exit → Act → World → Prop} {cx : Cx} {L : List (Nat × Value)} {G : Gh} {H : List Own} {K : List (Nat × Value) → Gh → List Own → Prop} {ops : Array Oper} {rest : List Oper}
  {d : Option Tmp} {ty : TypeId} {pos : String} {af : Array Edge} {gu : Option (Nat × Bool)}
theorem OW.makeSlice {t e n by_ : Nat} {z : Value} {x y : Operand} {k k' : IntKind} {m : Int} (hx : ev L x = some (.int k m)) (hy : ev L y = some (.int k' m)) [hu : Und P t (.slice e)] [hi : Inf P e n by_ z] (hz : z.cells.size = n)
    (h0 : 0 ≤ m) (hb : (by_ : Int) * m ≤ 281474976710656) (h63 : m ≤ 9223372036854775807) (hd : dOk d cx.N = true)
    (kk : ∀ b x, Vec e n (some ⟨b, 0, none⟩) m.toNat m.toNat (repS m.toNat z.cells.toList) x → K (putL d (.slice (some ⟨b, 0, none⟩) m.toNat m.toNat) L) G (x :: H)) : OW P Q ⟨d, .makeSlice t x y, ty, pos, af, gu⟩ cx L G H K := by
  refine OW.gives hd fun a w st => ?_
  obtain ⟨ie, hi1, hi2, hi3, hi4⟩ := hi.info
  have hr := run_make (P := P) w t e ie z hu.h hi1 hi2 k k' m m h0 (Int.le_refl _) (by rw [hi4]; exact hb) h63
  have hc : madeCells z.cells (m.toNat * ie.size) = (repS m.toNat z.cells.toList).toArray := by unfold madeCells; rw [hi3]; exact base_repS z.cells n m.toNat hz
  rw [hc] at hr
  have hlen : (repS m.toNat z.cells.toList).length = m.toNat * n := by rw [repS_length, Array.length_toList, hz]
  refine ⟨_, _, G, _, .inl ?_, st.sat.alloc _, Stp.alloc _, kk w.heap.size (.blk w.heap.size (.cells (repS m.toNat z.cells.toList).toArray e (0, 0))) ⟨hlen, .inr ⟨_, _, rfl, rfl, Nat.le_refl _, by simp [hlen], by simp [← hlen]⟩⟩⟩
  simp only [execOp, Sem.run_bind, st.eval hx, st.eval hy, hr, Result.andThen_ok]
  rfl
theorem OW.copy {t t2 e sz by_ : Nat} {z : Value} {x y : Operand} {A B : Option Addr} {n cap m cy j : Nat} {cs news : List Value} {o : Own} (hx : ev L x = some (.slice A n cap)) (hy : ev L y = some (.slice B m cy)) [hu : Und P t (.slice e)] [hi : Inf P e sz by_ z]
    (hs0 : Nat.blt 0 sz = true) (hv : Vec e sz A n cap cs o) (hj : At H j o) (hr : Rds G H B news) (hl : news.length = m * sz) (h1 : news.all (·.oneCell') = true) (hmn : m ≤ n) (hd : dOk d cx.N = true)
    (k : ∀ o', Vec e sz A n cap (news ++ cs.drop (m * sz)) o' → K (putL d (goInt m) L) G (H.set j o')) :
    OW P Q ⟨d, .call { callee := .builtin .copy, args := #[x, y], argTypes := #[t, t2] }, ty, pos, af, gu⟩ cx L G H K := by
  have hsz : 0 < sz := Nat.le_of_ble_eq_true hs0
  refine OW.gives hd fun a w st => ?_
  obtain ⟨ie, hi1, hi2, hi3, hi4⟩ := hi.info
  have hu' := hu.h
  have hrun : ∀ v w', (Builtin.copy_ #[t, t2] ty #[.slice A n cap, .slice B m cy]).run P w = .ok v w' → (execOp a.eval ⟨d, .call { callee := .builtin .copy, args := #[x, y], argTypes := #[t, t2] }, ty, pos, af, gu⟩).run P w = .ok (.value v) w' := by
    intro v w' h
    simp only [execOp, resolve, invoke, builtin, Sem.run_bind, Sem.run_pure, Result.andThen_ok, List.map_toArray, List.map_cons, List.map_nil, st.eval hx, st.eval hy, h]
  by_cases hm : m = 0
  · subst hm
    have hn : news = [] := List.eq_nil_of_length_eq_zero (by simpa using hl)
    subst hn
    refine ⟨goInt 0, w, G, H, .inl (hrun _ _ ?_), st.sat, Stp.drew rfl, ?_⟩
    · cases A <;> cases B <;> simp [Builtin.copy_, run_underlying hu', sizeOf, typeInfo, hi1, Builtin.lenOf, Builtin.firstCells, storeCells, loadCells, loadCellsFrom]
    · have := k o (by simpa using hv)
      rw [set_same H j o hj.get] at this
      exact this
  · have hm0 : 0 < m := by omega
    obtain ⟨bB, oB, rfl, hread⟩ : ∃ b o, B = some ⟨b, o, none⟩ ∧ ∀ w, Sat G H w → ∀ j v, news[j]? = some v → w.cell? ⟨b, o + j, none⟩ = some v := by
      rcases hr with h | h
      · have hp := Nat.mul_pos hm0 hsz
        rw [← hl, h] at hp
        simp at hp
      · exact h
    obtain ⟨hcl, ⟨rfl, rfl, rfl, rfl⟩ | ⟨b, c, rfl, rfl, hnc, hcs, htk⟩⟩ := hv
    · omega
    · have hbw : w.heap[b]? = some (.cells c e (0, 0)) := st.sat.hold _ (List.mem_of_getElem? hj.get)
      have hms : m * sz ≤ n * sz := Nat.mul_le_mul_right _ hmn
      have hns : n * sz ≤ cap * sz := Nat.mul_le_mul_right _ hnc
      have hfit : 0 + news.length ≤ c.size := by omega
      have hld := run_loadCells_list (P := P) w ⟨bB, oB, none⟩ news (fun j u e => by rw [cell_add]; exact hread w st.sat j u e)
      have hst := run_storeCells_at P b 0 e news 0 c w hbw (by simpa using hfit) (fun u hu => List.all_eq_true.1 h1 u hu)
      simp only [Nat.add_zero] at hst
      have hsp := st.sat.splice (o := 0) (cs := news) hj hfit
      refine ⟨goInt m, _, G, _, .inl (hrun _ _ ?_), hsp.1, hsp.2, k _ ⟨?_, .inr ⟨b, _, rfl, rfl, hnc, by rw [size_splice hfit, hcs], ?_⟩⟩⟩
      · rw [hl] at hld
        have hmin : Nat.min m n = m := Nat.min_eq_left hmn
        simp [Builtin.copy_, run_underlying hu', Builtin.lenOf, Builtin.firstCells, sizeOf, typeInfo, hi1, hi3, hmin, hld, hst, splice]
      · rw [List.length_append, List.length_drop, hcl, hl]; omega
      · have h0 : (splice c 0 news).toList = news ++ c.toList.drop news.length := by simp [splice]
        rw [h0, List.take_append, List.take_of_length_le (by omega), ← htk, List.drop_take]
        rw [hl]
def Gh.add (G : Gh) (b : Nat) (c : Array Value) : Gh := fun b' o => if b' = b then c[o]? else G b' o
theorem Sat.frozen {w : World} (h : Sat G H w) {j b : Nat} {c : Array Value} {T : TypeId} (hj : At H j (.blk b (.cells c T (0, 0)))) : G.le (G.add b c) ∧ Sat (G.add b c) (H.eraseIdx j) w := by
  have hh : w.heap[b]? = some (.cells c T (0, 0)) := h.hold _ (List.mem_of_getElem? hj.get)
  have hg : ∀ o, G b o = none := fun o => h.ghost _ (List.mem_of_getElem? hj.get) b o rfl
  have hp := h.perm (perm_at hj)
  have hap := List.pairwise_cons.1 hp.apart
  refine ⟨fun b' o v e => ?_, ⟨fun b' o v e => ?_, fun x hx => hp.hold x (.tail _ hx), hap.2, fun x hx b' o hc => ?_⟩⟩
  · unfold Gh.add
    split
    · rename_i hb; subst hb; rw [hg o] at e; cases e
    · exact e
  · unfold Gh.add at e
    split at e
    · rename_i hb
      subst hb
      simp [World.cell?, hh, e]
    · exact h.agr b' o v e
  · unfold Gh.add
    split
    · rename_i hb; subst hb; exact absurd hc (hap.1 x hx b' o rfl)
    · exact hp.ghost x (.tail _ hx) b' o hc
theorem St.freeze {a : Act} {w : World} (st : St cx L G H a w) {j b : Nat} {c : Array Value} {T : TypeId} (hj : At H j (.blk b (.cells c T (0, 0)))) : St cx L (G.add b c) (H.eraseIdx j) a w := by
  have h := st.sat.frozen hj
  refine ⟨st.size, st.defs, st.slot, h.2, ⟨st.stp.size, st.stp.keep, Gh.le_trans st.stp.gle h.1, fun b' o v e => ?_, fun x hx => st.stp.own x (List.mem_of_mem_eraseIdx hx), st.stp.weq⟩⟩
  unfold Gh.add at e
  split at e
  · rename_i hb
    subst hb
    exact .inr (st.stp.own _ (List.mem_of_getElem? hj.get) b' o rfl)
  · exact st.stp.gnew b' o v e
theorem WC.freeze {c0 : Code} {j b : Nat} {c : Array Value} {T : TypeId} (hj : At H j (.blk b (.cells c T (0, 0)))) (h : G.le (G.add b c) → WC P c0 Q cx L (G.add b c) (H.eraseIdx j)) : WC P c0 Q cx L G H :=
  fun a w st => h (st.sat.frozen hj).1 a w (st.freeze hj)
theorem WL.freeze {j b : Nat} {c : Array Value} {T : TypeId} (hj : At H j (.blk b (.cells c T (0, 0)))) (h : G.le (G.add b c) → WL P ops Q rest cx L (G.add b c) (H.eraseIdx j)) : WL P ops Q rest cx L G H :=
  fun a w st => h (st.sat.frozen hj).1 a w (st.freeze hj)
theorem WK.freeze {K : Act → World → Prop} {j b : Nat} {c : Array Value} {T : TypeId} (hj : At H j (.blk b (.cells c T (0, 0)))) (h : G.le (G.add b c) → WK K cx L (G.add b c) (H.eraseIdx j)) : WK K cx L G H :=
  fun a w st => h (st.sat.frozen hj).1 a w (st.freeze hj)
theorem Gh.add_at {b : Nat} {c : Array Value} {o : Nat} : G.add b c b o = c[o]? := by simp [Gh.add]
theorem WK.frozenVec {K : Act → World → Prop} {T sz n cap j : Nat} {A : Option Addr} {cs : List Value} {x : Own} (hv : Vec T sz A n cap cs x) (hj : At H j x)
    (h : ∀ G', G.le G' → (cs = [] ∨ ∃ b, A = some ⟨b, 0, none⟩ ∧ Cs G' b 0 cs) → WK K cx L G' (H.eraseIdx j)) : WK K cx L G H := by
  obtain ⟨hl, ⟨h1, h2, h3, h4⟩ | ⟨b, c, rfl, rfl, h1, h2, rfl⟩⟩ := hv
  · refine WK.weaken (L' := L) (fun _ _ e => e) (List.eraseIdx_sublist ..) (h G (Gh.le_refl _) (.inl ?_))
    subst h2; exact List.eq_nil_of_length_eq_zero (by simpa using hl)
  · refine WK.freeze hj fun hg => h _ hg (.inr ⟨b, rfl, fun i v e => ?_⟩)
    rw [Nat.zero_add, Gh.add_at]
    rw [List.getElem?_take] at e
    split at e
    · simpa using e
    · cases e
theorem WC.frozenVec {c0 : Code} {T sz n cap j : Nat} {A : Option Addr} {cs : List Value} {x : Own} (hv : Vec T sz A n cap cs x) (hj : At H j x)
    (h : ∀ G', G.le G' → (cs = [] ∨ ∃ b, A = some ⟨b, 0, none⟩ ∧ Cs G' b 0 cs) → WC P c0 Q cx L G' (H.eraseIdx j)) : WC P c0 Q cx L G H :=
  WK.frozenVec (K := c0.wp P Q) hv hj h
theorem Vec.put {T sz n cap b i : Nat} {A : Option Addr} {cs : List Value} {c : Array Value} (h : Vec T sz A n cap cs (.blk b (.cells c T (0, 0)))) (hi : i < n) (es : List Value) (he : es.length = sz) :
    A = some ⟨b, 0, none⟩ ∧ i * sz + es.length ≤ c.size ∧ Vec T sz A n cap (cs.take (i * sz) ++ es ++ cs.drop (i * sz + es.length)) (.blk b (.cells (splice c (i * sz) es) T (0, 0))) := by
  obtain ⟨hl, ⟨h1, h2, h3, h4⟩ | ⟨b', c', rfl, hx, h1, h2, rfl⟩⟩ := h
  · omega
  · cases hx
    have e1 : (i + 1) * sz ≤ n * sz := Nat.mul_le_mul_right _ hi
    have e2 : n * sz ≤ cap * sz := Nat.mul_le_mul_right _ h1
    rw [Nat.add_mul] at e1
    have hfit : i * sz + es.length ≤ c.size := by omega
    refine ⟨rfl, hfit, ?_, .inr ⟨b, _, rfl, rfl, h1, by rw [size_splice hfit, h2], ?_⟩⟩
    · simp only [List.length_append, List.length_take, List.length_drop, hl] at hl ⊢; omega
    · simp only [splice]
      apply List.ext_getElem?
      intro k
      simp only [List.getElem?_take, List.getElem?_append, List.length_append, List.length_take, List.getElem?_drop, Array.length_toList]
      have m1 : min (i * sz) c.size = i * sz := by omega
      have m2 : min (i * sz) (min (n * sz) c.size) = i * sz := by omega
      simp only [m1, m2]
      by_cases hk : k < n * sz
      · simp only [hk, if_true]
        by_cases h3 : k < i * sz + es.length
        · simp only [h3, if_true]
        · simp only [h3, if_false, show i * sz + es.length + (k - (i * sz + es.length)) = k by omega, hk, if_true]
      · simp only [hk, if_false]
        rw [if_neg (by omega), if_neg (by omega)]
theorem Rds.sub {A : Option Addr} {cs : List Value} {H' : List Own} (h : Rds G H A cs) (hs : H.Sublist H') : Rds G H' A cs := by
  rcases h with h | ⟨b, o, e, h⟩
  · exact .inl h
  · exact .inr ⟨b, o, e, fun w s => h w (s.sub hs)⟩
end
end Go.Proofs.YtbfgljcjblfleaaGreatDoor.Gb
namespace Go.Proofs.YtbfgljcjblfleaaGreatDoor.Gb
open Go
section
variable {P : Program} {Q : Exit → Act → World → Prop} {cx : Cx} {L : List (Nat × Value)} {G : Gh} {H : List Own} {K : List (Nat × Value) → Gh → List Own → Prop} {ops : Array Oper} {rest : List Oper}
  {d : Option Tmp} {ty : TypeId} {pos : String} {af : Array Edge} {gu : Option (Nat × Bool)}
theorem Sk.evs {a : Act} (st : Sk L a) {xs : Array Operand} {vs : List Value} (h : Gb.evs L xs = some vs) : xs.map a.eval = vs.toArray := by
  have key : ∀ (l : List Operand) (vs : List Value), evl L l = some vs → l.map a.eval = vs := by
    intro l
    induction l with
    | nil => intro vs h; simp only [evl, Option.some.injEq] at h; subst h; rfl
    | cons x l ih =>
      intro vs h
      simp only [evl] at h
      cases hx : ev L x with
      | none => simp [hx] at h
      | some v =>
        cases hl : evl L l with
        | none => simp [hx, hl] at h
        | some us =>
          simp only [hx, hl, Option.some.injEq] at h
          subst h
          simp [st.eval hx, ih us hl]
  apply Array.ext'
  simp [key xs.toList vs h]
theorem Gp.makeFunc {fn : Go.Fn} {xs ys : Array Operand} {us vs : List Value} (hx : evs L xs = some us) (hy : evs L ys = some vs) : Gp P L ⟨d, .makeFunc fn xs ys, ty, pos, af, gu⟩ (.func fn us.toArray vs.toArray) :=
  fun a st w => by
    have e1 := Sk.evs st hx
    have e2 := Sk.evs st hy
    simp only [execOp, e1, e2]
    rfl
theorem OW.callV {g : Operand} {f : Nat} {cap : Array Value} {xs : Array Operand} {ats : Array TypeId} {vs : List Value} {Hf F : List Own} {R : Ending → Gh → List Own → Prop} (hg : ev L g = some (.func (.func f) #[] cap)) (hx : Gb.evs L xs = some vs) [hb : Body P f] (hp : H.Perm (Hf ++ F))
    (hf : Fn P f (vs.toArray ++ cap) G Hf R) (hd : dOk d cx.N = true)
    (k : ∀ v G' H', R (.returned v) G' H' → G.le G' → K (putL d v L) G' (H' ++ F))
    (kp : ∀ ch G' H', R (.panicked ch) G' H' → G.le G' → WK (Q (.panic ch)) cx L G' (H' ++ F))
    (ko : ∀ G' H', ¬ R .outgrown G' H') : OW P Q ⟨d, .call { callee := .value g, args := xs, argTypes := ats }, ty, pos, af, gu⟩ cx L G H K := by
  intro next hn a w st
  have st' := st.perm hp
  have hrun : (execOp a.eval ⟨d, .call { callee := .value g, args := xs, argTypes := ats }, ty, pos, af, gu⟩).run P w = .ok (.enter f (vs.toArray ++ cap)) w := by
    have e := st.evs hx
    have eg := st.eval hg
    simp [execOp, resolve, Deferred.ofValue, eg, invoke, e, hb.h]
  unfold Oper.wp
  rw [hrun]
  simp only [Oper.upon]
  refine (hf w (st'.sat.sub (List.sublist_append_left Hf F)) (cx.ex.then st'.stp fun x hx => List.mem_append_left _ hx)).mono fun e w' ⟨G', H', r, hs, hp'⟩ => ?_
  have hs' := st'.sat.frame hs hp'
  have hst := st'.stp.then (hp'.frame (F := F))
  cases e with
  | returned v => exact hn _ _ _ (k v G' H' r hp'.gle) _ _ (st.put d v hd hs' hst)
  | panicked ch => exact kp ch G' H' r hp'.gle a w' ⟨st.size, st.defs, st.slot, hs', hst⟩
  | outgrown => exact (ko G' H' r).elim
theorem WL.defer {g : Operand} {fv : Go.Fn} {cap : Array Value} (hg : ev L g = some (.func fv #[] cap))
    (hw : wantB ops L ⟨d, .defer { callee := .value g, args := #[], argTypes := #[] }, ty, pos, af, gu⟩ = some true) (hd : dOk d cx.N = true)
    (k : WL P ops Q rest ⟨cx.w0, cx.G0, cx.S, cx.N, { target := .fn fv cap, args := #[] } :: cx.D, cx.ex⟩ (putL d undef L) G H) :
    WL P ops Q (⟨d, .defer { callee := .value g, args := #[], argTypes := #[] }, ty, pos, af, gu⟩ :: rest) cx L G H := by
  intro a w st
  unfold wpList
  rw [if_pos (st.wanted hw)]
  refine .inl ?_
  have hrun : (execOp a.eval ⟨d, .defer { callee := .value g, args := #[], argTypes := #[] }, ty, pos, af, gu⟩).run P w = .ok (.defer { target := .fn fv cap, args := #[] }) w := by
    have eg := st.eval hg
    simp [execOp, resolve, Deferred.ofValue, eg]
  unfold Oper.wp
  rw [hrun]
  simp only [Oper.upon]
  refine k _ _ ⟨(size_put _ d undef).trans st.size, ?_, slot_put (a := { a with defers := { target := .fn fv cap, args := #[] } :: a.defers }) st.size st.slot d undef hd, st.sat, st.stp⟩
  rw [defers_put]
  show _ :: a.defers = _
  rw [st.defs]
theorem Gp.assertNil {x : Operand} {s t n by_ : Nat} {z : Value} {fs : Array Field} (hx : ev L x = some .nilIface) (hu : P.underlying t = some (.struct fs)) [hi : Inf P t n by_ z] : Gp P L ⟨d, .typeAssert x s t true, ty, pos, af, gu⟩ (.tuple #[z, .bool false]) :=
  fun a st w => by simp [execOp, st.eval hx, Instr.typeAssert, run_underlying hu, hi.zeroValue]
theorem Gp.assertIs {x : Operand} {s t : Nat} {v : Value} {fs : Array Field} (hx : ev L x = some (.iface t v)) (hu : P.underlying t = some (.struct fs)) : Gp P L ⟨d, .typeAssert x s t true, ty, pos, af, gu⟩ (.tuple #[v, .bool true]) :=
  fun a st w => by simp [execOp, st.eval hx, Instr.typeAssert, run_underlying hu]
theorem Gp.neNilNil {x : Operand} {t t' : Nat} (hx : ev L x = some .nilIface) (hu : P.underlying t = some (.interface (P.methodsAt t))) : Gp P L ⟨d, .binOp .neq t x (.const .nilIface) t', ty, pos, af, gu⟩ (.bool false) :=
  fun a st w => by
    have hc : a.eval (.const .nilIface) = .nilIface := rfl
    simp [execOp, st.eval hx, hc, eqGuard, run_neq_nil_nil w t hu]
theorem Gp.neHeldNil {x : Operand} {t t' u : Nat} {v : Value} (hx : ev L x = some (.iface u v)) (hu : P.underlying t = some (.interface (P.methodsAt t))) : Gp P L ⟨d, .binOp .neq t x (.const .nilIface) t', ty, pos, af, gu⟩ (.bool true) :=
  fun a st w => by
    have hc : a.eval (.const .nilIface) = .nilIface := rfl
    simp [execOp, st.eval hx, hc, eqGuard, run_neq_held_nil w t u v hu]
theorem Gp.nePtrNil {x : Operand} {t t' : Nat} {p : Option Addr} (hx : ev L x = some (.pointer p)) (hu : P.underlying t = some (.pointer (P.pointee t))) : Gp P L ⟨d, .binOp .neq t x (.const (.pointer none)) t', ty, pos, af, gu⟩ (.bool (!p.isNone)) :=
  fun a st w => by
    have hc : a.eval (.const (.pointer none)) = .pointer none := rfl
    have he : ∀ op, eqGuard op t x (.const (.pointer none)) (.pointer p) (.pointer none) = pure () := fun op => by cases op <;> rfl
    simp [execOp, st.eval hx, hc, he, run_neq_pointer_nil w t p hu]
theorem Gp.eqPtrNil {x : Operand} {t t' : Nat} {p : Option Addr} (hx : ev L x = some (.pointer p)) (hu : P.underlying t = some (.pointer (P.pointee t))) : Gp P L ⟨d, .binOp .eql t x (.const (.pointer none)) t', ty, pos, af, gu⟩ (.bool p.isNone) :=
  fun a st w => by
    have hc : a.eval (.const (.pointer none)) = .pointer none := rfl
    have he : ∀ op, eqGuard op t x (.const (.pointer none)) (.pointer p) (.pointer none) = pure () := fun op => by cases op <;> rfl
    simp [execOp, st.eval hx, hc, he, run_eql_pointer_nil w t p hu]
end
def FnD (P : Program) (f : FuncId) (vs : Array Value) (u : FrameMode) (G : Gh) (H : List Own) (u' : FrameMode) (R : Ending → Gh → List Own → Prop) : Prop :=
  ∀ w, Sat G H w → Ex (covs H) w → CallsD P f vs u w fun e u'' w' => u'' = u' ∧ ∃ G' H', R e G' H' ∧ Sat G' H' w' ∧ Stp (covs H) G w G' H' w'
theorem FnD.recover {P : Program} {f : FuncId} {fn : Func} {i d1 d2 : Nat} {ty1 ty2 : TypeId} {p1 p2 : String} {af1 af2 : Array Edge} {rest : Code} {vs : List Value} {G : Gh} {H : List Own} {R : Ending → Gh → List Own → Prop} {u u' : FrameMode} {v : Value}
    (hf : P.funcs[f]? = some fn) (hb : fn.body = some (.seq (.region i #[⟨some d1, .call { callee := .builtin .recover, args := #[], argTypes := #[] }, ty1, p1, af1, none⟩, ⟨some d2, .assign (.tmp d1), ty2, p2, af2, none⟩] false) rest))
    (hn' : Nat.ble vs.length fn.ntmps = true) (hd1 : Nat.blt d1 fn.ntmps = true) (hd2 : Nat.blt d2 fn.ntmps = true)
    (hu : (u = .returning ∧ v = .nilIface ∧ u' = .returning) ∨ (∃ older, u = .panicking ({ v := v, recovered := false } :: older) ∧ u' = .panicking ({ v := v, recovered := true } :: older)))
    (h : ∀ w0 : W0 H, WC P rest (QF P fn G w0.w H R) ⟨w0.w, G, covs H, fn.ntmps, [], w0.ex⟩ ((d2, v) :: (d1, v) :: argL 0 vs) G H) : FnD P f vs.toArray u G H u' R := by
  have hn := Nat.le_of_ble_eq_true hn'
  intro w hs hx
  refine callsD_of_wpS hf hb fun c₀ cs hc => ?_
  refine wpS_seq (wpS_region ?_)
  have hrange : List.range (#[(⟨some d1, .call { callee := .builtin .recover, args := #[], argTypes := #[] }, ty1, p1, af1, none⟩ : Oper), ⟨some d2, .assign (.tmp d1), ty2, p2, af2, none⟩] : Array Oper).size = [0, 1] := rfl
  rw [hrange]
  have hwant : ∀ (o : Oper) x, o.guard = none → Region.wanted o x = true := fun o x ho => by simp [Region.wanted, ho]
  have hexec : ∀ ρ (w : World), (execOp ρ ⟨some d1, .call { callee := .builtin .recover, args := #[], argTypes := #[] }, ty1, p1, af1, none⟩).run P w = .ok .recover w := fun ρ w => by
    simp [execOp, resolve, invoke, builtin]
  have hrec : (recoverD (c₀ :: cs) = none ∧ v = .nilIface ∧ u' = u) ∨ recoverD (c₀ :: cs) = some (v, { c₀ with mode := u' } :: cs) := by
    rcases hu with ⟨rfl, rfl, rfl⟩ | ⟨older, rfl, rfl⟩
    · exact .inl ⟨by simp [recoverD, hc], rfl, rfl⟩
    · exact .inr (by simp [recoverD, hc])
  have key : ∀ cs', cs' = { c₀ with mode := u' } :: cs → wpOpsS P #[⟨some d1, .call { callee := .builtin .recover, args := #[], argTypes := #[] }, ty1, p1, af1, none⟩, ⟨some d2, .assign (.tmp d1), ty2, p2, af2, none⟩]
      (Exit.thenS (rest.wpS P (bodyPostS P fn c₀ cs fun e u'' w' => u'' = u' ∧ ∃ G' H', R e G' H' ∧ Sat G' H' w' ∧ Stp (covs H) G w G' H' w')) (bodyPostS P fn c₀ cs fun e u'' w' => u'' = u' ∧ ∃ G' H', R e G' H' ∧ Sat G' H' w' ∧ Stp (covs H) G w G' H' w'))
      [1] (Act.put { tmps := vs.toArray ++ Array.replicate (fn.ntmps - vs.toArray.size) undef, defers := [] } (some d1) v) cs' w := by
    intro cs' hcs
    subst hcs
    simp only [wpOpsS, List.getElem?_toArray, List.getElem?_cons_succ, List.getElem?_cons_zero]
    rw [if_pos (hwant _ _ rfl)]
    have h0 : St ⟨w, G, covs H, fn.ntmps, [], hx⟩ (argL 0 vs) G H { tmps := vs.toArray ++ Array.replicate (fn.ntmps - vs.toArray.size) undef, defers := [] } w :=
      ⟨by simp; omega, rfl, fun t v ht => by have := argL_slot (N := fn.ntmps - vs.length) vs [] t v ht; simpa using this, hs, Stp.refl G H w⟩
    have h1 := h0.put (some d1) v hd1 hs (Stp.refl G H w)
    have hev : (Act.put { tmps := vs.toArray ++ Array.replicate (fn.ntmps - vs.toArray.size) undef, defers := [] } (some d1) v).eval (.tmp d1) = v := h1.eval (x := .tmp d1) (by simp [ev, putL, lk])
    simp only [execOp, hev, Sem.run_pure, Oper.upon]
    refine wpS_of_wp ?_
    refine Code.wp_mono (fun e a' w' q => ?_) (h ⟨w, hx⟩ _ w (h1.put (some d2) v hd2 hs (Stp.refl G H w)))
    cases e with
    | normal => obtain ⟨q1, v', q2, q3⟩ := q; exact ⟨q1, u', rfl, v', q2, rfl, q3⟩
    | ret => obtain ⟨q1, v', q2, q3⟩ := q; exact ⟨q1, u', rfl, v', q2, rfl, q3⟩
    | panic ch => exact ⟨q.1, u', rfl, rfl, q.2⟩
    | outgrown => exact ⟨u', rfl, q⟩
    | exit id => exact q
    | goto l => exact q
  simp only [wpOpsS, List.getElem?_toArray, List.getElem?_cons_zero]
  rw [if_pos (hwant _ _ rfl)]
  simp only [hexec]
  rcases hrec with ⟨hr, hv, huu⟩ | hr
  · rw [hr, ← hv]
    exact key _ (by rw [huu, ← hc])
  · rw [hr]
    exact key _ rfl
def QD (P : Program) (fn : Func) (G0 : Gh) (w0 : World) (H0 : List Own) (R : Ending → Gh → List Own → Prop) : Exit → Act → World → Prop :=
  bodyPostD P fn fun e w' => ∃ G' H', R e G' H' ∧ Sat G' H' w' ∧ Stp (covs H0) G0 w0 G' H' w'
theorem Fn.enterD {P : Program} {f : FuncId} {fn : Func} {c : Code} {vs : List Value} {G : Gh} {H : List Own} {R : Ending → Gh → List Own → Prop} (hf : P.funcs[f]? = some fn) (hb : fn.body = some c) (hn' : Nat.ble vs.length fn.ntmps = true)
    (h : ∀ w0 : W0 H, WC P c (QD P fn G w0.w H R) ⟨w0.w, G, covs H, fn.ntmps, [], w0.ex⟩ (argL 0 vs) G H) : Fn P f vs.toArray G H R := by
  have hn := Nat.le_of_ble_eq_true hn'
  intro w hs hx
  refine calls_of_wp_defers hf hb (h ⟨w, hx⟩ _ w ⟨by simp; omega, rfl, fun t v ht => ?_, hs, Stp.refl G H w⟩)
  have := argL_slot (N := fn.ntmps - vs.length) vs [] t v ht
  simpa using this
def ResRun (P : Program) (fn : Func) (L : List (Nat × Value)) (G : Gh) (H : List Own) (v : Value) : Prop := ∀ a w, Sk L a → Sat G H w → (results fn a.tmps).run P w = .ok v w
theorem ResRun.zero {P : Program} {fn : Func} {L : List (Nat × Value)} {G : Gh} {H : List Own} (h : fn.results = #[]) : ResRun P fn L G H (.tuple #[]) := fun a w _ _ => by simp [results, h]
section
variable {P : Program} {fn : Func} {G0 G : Gh} {H0 H : List Own} {w0 : W0 H0} {R : Ending → Gh → List Own → Prop} {L : List (Nat × Value)} {N : Nat}
theorem QD.once {u u' : FrameMode} {g : Nat} {cap : Array Value} {Hf F : List Own} {R1 : Ending → Gh → List Own → Prop} (hur : u ≠ .run) [hb : Body P g] (hp : H.Perm (Hf ++ F)) (hf : FnD P g cap u G Hf u' R1) (hset : settle u' = .returning)
    (k : ∀ v G' H', R1 (.returned v) G' H' → G.le G' → ∃ v, ResRun P fn L G' (H' ++ F) v ∧ R (.returned v) G' (H' ++ F))
    (kp : ∀ ch G' H', ¬ R1 (.panicked ch) G' H') (ko : ∀ G' H', ¬ R1 .outgrown G' H') {a : Act} {w : World} (st : St ⟨w0.w, G0, covs H0, N, [{ target := .fn (.func g) cap, args := #[] }], w0.ex⟩ L G H a w) :
    Leaves P fn a.tmps (fun e w' => ∃ G' H', R e G' H' ∧ Sat G' H' w' ∧ Stp (covs H0) G0 w0.w G' H' w') [{ target := .fn (.func g) cap, args := #[] }] u w := by
  have st' := st.perm hp
  refine leaves_cons (f := g) (args := cap) hur (by simp [invoke, hb.h]) ?_
  refine (hf w (st'.sat.sub (List.sublist_append_left Hf F)) (w0.ex.then st'.stp fun x hx => List.mem_append_left _ hx)).mono fun e u'' w' ⟨hu, G', H', r, hs, hp'⟩ => ?_
  subst hu
  have hs' := st'.sat.frame hs hp'
  have hst := st'.stp.then (hp'.frame (F := F))
  cases e with
  | returned v =>
    obtain ⟨v', h1, h2⟩ := k v G' H' r hp'.gle
    show Leaves _ _ _ _ [] (settle _) _
    rw [hset]
    exact ⟨v', h1 a w' st.slot hs', G', _, h2, hs', hst⟩
  | panicked ch => exact (kp ch G' H' r).elim
  | outgrown => exact (ko G' H' r).elim
theorem QD.leave {e : Exit} (he : e = .ret ∨ e = .normal) {g : Nat} {cap : Array Value} {Hf F : List Own} {R1 : Ending → Gh → List Own → Prop} [hb : Body P g] (hp : H.Perm (Hf ++ F)) (hf : FnD P g cap .returning G Hf .returning R1)
    (k : ∀ v G' H', R1 (.returned v) G' H' → G.le G' → ∃ v, ResRun P fn L G' (H' ++ F) v ∧ R (.returned v) G' (H' ++ F))
    (kp : ∀ ch G' H', ¬ R1 (.panicked ch) G' H') (ko : ∀ G' H', ¬ R1 .outgrown G' H') :
    WK (QD P fn G0 w0.w H0 R e) ⟨w0.w, G0, covs H0, N, [{ target := .fn (.func g) cap, args := #[] }], w0.ex⟩ L G H := fun a w st => by
  have := QD.once (fn := fn) (R := R) (by simp) hp hf rfl k kp ko st
  rcases he with rfl | rfl
  · show Leaves _ _ _ _ a.defers _ _; rw [st.defs]; exact this
  · show Leaves _ _ _ _ a.defers _ _; rw [st.defs]; exact this
theorem QD.caught {v : Value} {g : Nat} {cap : Array Value} {Hf F : List Own} {R1 : Ending → Gh → List Own → Prop} [hb : Body P g] (hp : H.Perm (Hf ++ F)) (hf : FnD P g cap (.panicking [{ v := v, recovered := false }]) G Hf (.panicking [{ v := v, recovered := true }]) R1)
    (k : ∀ v G' H', R1 (.returned v) G' H' → G.le G' → ∃ v, ResRun P fn L G' (H' ++ F) v ∧ R (.returned v) G' (H' ++ F))
    (kp : ∀ ch G' H', ¬ R1 (.panicked ch) G' H') (ko : ∀ G' H', ¬ R1 .outgrown G' H') :
    WK (QD P fn G0 w0.w H0 R (.panic [{ v := v, recovered := false }])) ⟨w0.w, G0, covs H0, N, [{ target := .fn (.func g) cap, args := #[] }], w0.ex⟩ L G H := fun a w st => by
  have := QD.once (fn := fn) (R := R) (by simp) hp hf rfl k kp ko st
  show Leaves _ _ _ _ a.defers _ _; rw [st.defs]; exact this
end
end Go.Proofs.YtbfgljcjblfleaaGreatDoor.Gb
