/- Two that may come in either order; single cells of what is ours. -/
import Derived.Test.YtjgohbepageicaaGk
namespace Go.Proofs.Ytjgohbepageicaa.Gb
open Go
set_option linter.unusedVariables false
set_option linter.unusedSimpArgs false

section
variable {P : Program} {Q : Exit → Act → World → Prop} {cx : Cx} {L : List (Nat × Value)} {G : Gh} {H : List Own} {l : List Oper}
theorem WA.two {fuel i j : Nat} {listed : Array Bool} {o o' : Oper} (hr : Region.ready .any l.toArray listed = [i, j]) (hi : l[i]? = some o) (hj : l[j]? = some o') (hw : wantB l.toArray L o = some true) (hw' : wantB l.toArray L o' = some true)
    (h : OW P Q o cx L G H fun L' G' H' => WA P l Q fuel (listed.setIfInBounds i true) cx L' G' H') (h' : OW P Q o' cx L G H fun L' G' H' => WA P l Q fuel (listed.setIfInBounds j true) cx L' G' H') : WA P l Q (fuel + 1) listed cx L G H :=
  WA.all hr (by simp) fun k hk => by
    simp only [List.mem_cons, List.not_mem_nil, or_false] at hk
    rcases hk with rfl | rfl
    · exact ⟨o, hi, hw, h⟩
    · exact ⟨o', hj, hw', h'⟩
theorem WB.two {Gs : Gh} {Hs : List Own} {fuel i j : Nat} {listed : Array Bool} {o o' : Oper} (hr : Region.ready .any l.toArray listed = [i, j]) (hi : l[i]? = some o) (hj : l[j]? = some o') (hw : wantB l.toArray L o = some true) (hw' : wantB l.toArray L o' = some true)
    (h : OW P Q o cx L G H fun L' G' H' => (∀ w, Sat G' H' w → Sat Gs Hs w) ∧ WB P l Q Gs Hs fuel (listed.setIfInBounds i true) cx L' G' H') (h' : OW P Q o' cx L G H fun L' G' H' => (∀ w, Sat G' H' w → Sat Gs Hs w) ∧ WB P l Q Gs Hs fuel (listed.setIfInBounds j true) cx L' G' H') : WB P l Q Gs Hs (fuel + 1) listed cx L G H :=
  WB.all hr (by simp) fun k hk => by
    simp only [List.mem_cons, List.not_mem_nil, or_false] at hk
    rcases hk with rfl | rfl
    · exact ⟨o, hi, hw, h⟩
    · exact ⟨o', hj, hw', h'⟩
end

theorem splice_one {c : Array Value} {o : Nat} {v : Value} (h : o < c.size) : (splice c o [v]).toList = c.toList.set o v := by
  simp only [splice, List.length_singleton]
  apply List.ext_getElem?
  intro j
  simp only [List.getElem?_append, List.length_append, List.length_take, Array.length_toList, List.length_singleton, List.getElem?_take, List.getElem?_drop, List.getElem?_set]
  have m1 : min o c.size = o := by omega
  rw [m1]
  by_cases h1 : j < o
  · simp [h1, show j < o + 1 by omega, show o ≠ j by omega]
  · by_cases h2 : o = j
    · subst h2; simp [h]
    · simp [h1, h2, show ¬ j < o + 1 by omega, show o + 1 + (j - (o + 1)) = j by omega]
theorem Vec.put1 {T sz n cap b o : Nat} {A : Option Addr} {cs : List Value} {c : Array Value} (h : Vec T sz A n cap cs (.blk b (.cells c T (0, 0)))) (ho : o < n * sz) (v : Value) :
    A = some ⟨b, 0, none⟩ ∧ o + 1 ≤ c.size ∧ Vec T sz A n cap (cs.set o v) (.blk b (.cells (splice c o [v]) T (0, 0))) := by
  obtain ⟨hl, ⟨h1, h2, h3, h4⟩ | ⟨b', c', rfl, hx, h1, h2, rfl⟩⟩ := h
  · subst h2; simp at ho
  · cases hx
    have e2 : n * sz ≤ cap * sz := Nat.mul_le_mul_right _ h1
    refine ⟨rfl, by omega, by simpa using hl, .inr ⟨b, _, rfl, rfl, h1, by rw [size_splice (by simp; omega), h2], ?_⟩⟩
    rw [splice_one (by omega), List.take_set]
theorem set_elem {l : List Value} {k i j s : Nat} {v : Value} (hj : j < s) : (((l.set (i * s + j) v).drop (k * s)).take s) = if k = i then ((l.drop (k * s)).take s).set j v else (l.drop (k * s)).take s := by
  have hs : 0 < s := by omega
  apply List.ext_getElem?
  intro m
  by_cases hk : k = i
  · subst hk
    simp only [if_true, List.getElem?_take, List.getElem?_drop, List.getElem?_set, List.length_take, List.length_drop]
    by_cases hm : m < s
    · simp only [hm, if_true]
      by_cases hjm : j = m
      · subst hjm
        by_cases hq : k * s + j < l.length
        · simp [hq, show j < min s (l.length - k * s) by omega]
        · simp [hq, show ¬ j < min s (l.length - k * s) by omega]
      · simp [hjm]
    · simp only [hm, if_false]
      by_cases hjm : j = m
      · omega
      · simp [hjm]
  · simp only [if_neg hk, List.getElem?_take, List.getElem?_drop, List.getElem?_set]
    by_cases hm : m < s
    · simp only [hm, if_true]
      rw [if_neg]
      intro e
      rcases Nat.lt_or_gt_of_ne hk with h | h
      · have : (k + 1) * s ≤ i * s := Nat.mul_le_mul_right _ h
        rw [Nat.add_mul] at this; omega
      · have : (i + 1) * s ≤ k * s := Nat.mul_le_mul_right _ h
        rw [Nat.add_mul] at this; omega
    · simp [hm]
theorem elem_cell {c : Array Value} {cs es : List Value} {n i s k : Nat} {w : Value} (h : c.toList.take n = cs) (he : (cs.drop (i * s)).take s = es) (hw : es[k]? = some w) : c[0 + ((i : Nat) : Int).toNat * s + k]? = some w := by
  subst he
  rw [List.getElem?_take] at hw
  split at hw
  · rw [List.getElem?_drop, ← h, List.getElem?_take] at hw
    split at hw
    · simpa using hw
    · cases hw
  · cases hw
theorem Sl.none_zero {α : Type} {k : Kd α} {G : Gh} {A : Option Addr} {xs : List α} (h : Sl k G A xs) (hA : A = none) : xs.length = 0 := by
  cases xs with
  | nil => rfl
  | cons x r => obtain ⟨b, o, cs, e, _⟩ := h 0 x rfl; rw [hA] at e; cases e
/-- what came to stay is a slice of its kind -/
theorem Sl.ofCs {α : Type} {k : Kd α} {G : Gh} {A : Option Addr} {xs : List α} {cs : List Value} (hz : cs = [] ∨ ∃ b, A = some ⟨b, 0, none⟩ ∧ Cs G b 0 cs) (hl : cs.length = xs.length * k.n) (hn : 0 < k.n) (hk : ∀ i x, xs[i]? = some x → k.K G x ((cs.drop (i * k.n)).take k.n)) : Sl k G A xs := by
  intro i x hx
  have hi := (List.getElem?_eq_some_iff.1 hx).1
  have hle : (i + 1) * k.n ≤ xs.length * k.n := Nat.mul_le_mul_right _ hi
  rw [Nat.add_mul] at hle
  rcases hz with rfl | ⟨b, rfl, hc⟩
  · simp at hl; omega
  · refine ⟨b, 0, _, rfl, hk i x hx, fun j v e => ?_⟩
    rw [List.getElem?_take] at e
    split at e
    · rw [List.getElem?_drop] at e
      have := hc _ v e
      rw [Nat.zero_add] at this ⊢; exact this
    · cases e
end Go.Proofs.Ytjgohbepageicaa.Gb
