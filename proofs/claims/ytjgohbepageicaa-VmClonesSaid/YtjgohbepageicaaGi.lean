/- More rules: lists that are made and copied into, memory that comes to stay, calls that are put off, what is behind an interface. -/
import Derived.Test.YtjgohbepageicaaGg
import Derived.Recover
import Derived.WideLaws
import Derived.Laws.CopyRow
import Derived.Laws.Pointers
namespace Go.Proofs.Ytjgohbepageicaa.Gb
open Go
set_option linter.unusedVariables false
set_option linter.unusedSimpArgs false

section
variable {P : Program} {Q : Exit → Act → World → Prop} {cx : Cx} {L : List (Nat × Value)} {G : Gh} {H : List Own} {K : List (Nat × Value) → Gh → List Own → Prop} {ops : Array Oper} {rest : List Oper}
  {d : Option Tmp} {ty : TypeId} {pos : String} {af : Array Edge} {gu : Option (Nat × Bool)}

/-- a list that is made -/
theorem OW.makeSlice {t e n by_ : Nat} {z : Value} {x y : Operand} {k k' : IntKind} {m : Int} (hx : ev L x = some (.int k m)) (hy : ev L y = some (.int k' m)) [hu : Und P t (.slice e)] [hi : Inf P e n by_ z] (hz : z.cells.size = n)
    (h0 : 0 ≤ m) (hb : (by_ : Int) * m ≤ 281474976710656) (h63 : m ≤ 9223372036854775807) (hd : dOk d cx.N = true)
    (kk : ∀ b x, Vec e n (some ⟨b, 0, none⟩) m.toNat m.toNat (repS m.toNat z.cells.toList) x → K (putL d (.slice (some ⟨b, 0, none⟩) m.toNat m.toNat) L) G (x :: H)) : OW P Q ⟨d, .makeSlice t x y, ty, pos, af, gu⟩ cx L G H K := by
  refine OW.gives hd fun a w st => ?_
  obtain ⟨ie, hi1, hi2, hi3, hi4⟩ := hi.info
  have hr := run_make (P := P) w t e ie z hu.h hi1 hi2 k k' m m h0 (Int.le_refl _) (by rw [hi4]; exact hb) h63
  have hc : madeCells z.cells (m.toNat * ie.size) = (repS m.toNat z.cells.toList).toArray := by unfold madeCells; rw [hi3]; exact base_repS z.cells n m.toNat hz
  rw [hc] at hr
  have hlen : (repS m.toNat z.cells.toList).length = m.toNat * n := by rw [repS_length, Array.length_toList, hz]
  refine ⟨_, _, G, _, .inl ?_, st.sat.alloc _, Stp.alloc _, kk w.heap.size (.blk w.heap.size (.cells (repS m.toNat z.cells.toList).toArray e (0, 0))) ⟨hlen, .inr ⟨_, _, rfl, rfl, Nat.le_refl _, by simp [hlen], by simp [← hlen]⟩⟩⟩
  simp only [execOp, Sem.run_bind, st.eval hx, st.eval hy, hr, Result.andThen_ok]
  rfl

/-- copied into the beginning of what is ours -/
theorem OW.copy {t t2 e sz by_ : Nat} {z : Value} {x y : Operand} {A B : Option Addr} {n cap m cy j : Nat} {cs news : List Value} {o : Own} (hx : ev L x = some (.slice A n cap)) (hy : ev L y = some (.slice B m cy)) [hu : Und P t (.slice e)] [hi : Inf P e sz by_ z]
    (hs0 : Nat.blt 0 sz = true) (hv : Vec e sz A n cap cs o) (hj : At H j o) (hr : Rds G H B news) (hl : news.length = m * sz) (h1 : news.all (·.oneCell') = true) (hmn : m ≤ n) (hd : dOk d cx.N = true)
    (k : ∀ o', Vec e sz A n cap (news ++ cs.drop (m * sz)) o' → K (putL d (goInt m) L) G (H.set j o')) :
    OW P Q ⟨d, .call { callee := .builtin .copy, args := #[x, y], argTypes := #[t, t2] }, ty, pos, af, gu⟩ cx L G H K := by
  have hsz : 0 < sz := Nat.le_of_ble_eq_true hs0
  refine OW.gives hd fun a w st => ?_
  obtain ⟨ie, hi1, hi2, hi3, hi4⟩ := hi.info
  have hu' := hu.h
  have hrun : ∀ v w', (Builtin.copy_ #[t, t2] ty #[.slice A n cap, .slice B m cy]).run P w = .ok v w' → (execOp a.eval ⟨d, .call { callee := .builtin .copy, args := #[x, y], argTypes := #[t, t2] }, ty, pos, af, gu⟩).run P w = .ok (.value v) w' := by
    intro v w' h
    simp only [execOp, resolve, invoke, builtin, Sem.run_bind, Sem.run_pure, Result.andThen_ok, List.map_toArray, List.map_cons, List.map_nil, st.eval hx, st.eval hy, h]
  by_cases hm : m = 0
  · subst hm
    have hn : news = [] := List.eq_nil_of_length_eq_zero (by simpa using hl)
    subst hn
    refine ⟨goInt 0, w, G, H, .inl (hrun _ _ ?_), st.sat, Stp.drew rfl, ?_⟩
    · cases A <;> cases B <;> simp [Builtin.copy_, run_underlying hu', sizeOf, typeInfo, hi1, Builtin.lenOf, Builtin.firstCells, storeCells, loadCells, loadCellsFrom]
    · have := k o (by simpa using hv)
      rw [set_same H j o hj.get] at this
      exact this
  · have hm0 : 0 < m := by omega
    obtain ⟨bB, oB, rfl, hread⟩ : ∃ b o, B = some ⟨b, o, none⟩ ∧ ∀ w, Sat G H w → ∀ j v, news[j]? = some v → w.cell? ⟨b, o + j, none⟩ = some v := by
      rcases hr with h | h
      · have hp := Nat.mul_pos hm0 hsz
        rw [← hl, h] at hp
        simp at hp
      · exact h
    obtain ⟨hcl, ⟨rfl, rfl, rfl, rfl⟩ | ⟨b, c, rfl, rfl, hnc, hcs, htk⟩⟩ := hv
    · omega
    · have hbw : w.heap[b]? = some (.cells c e (0, 0)) := st.sat.hold _ (List.mem_of_getElem? hj.get)
      have hms : m * sz ≤ n * sz := Nat.mul_le_mul_right _ hmn
      have hns : n * sz ≤ cap * sz := Nat.mul_le_mul_right _ hnc
      have hfit : 0 + news.length ≤ c.size := by omega
      have hld := run_loadCells_list (P := P) w ⟨bB, oB, none⟩ news (fun j u e => by rw [cell_add]; exact hread w st.sat j u e)
      have hst := run_storeCells_at P b 0 e news 0 c w hbw (by simpa using hfit) (fun u hu => List.all_eq_true.1 h1 u hu)
      simp only [Nat.add_zero] at hst
      have hsp := st.sat.splice (o := 0) (cs := news) hj hfit
      refine ⟨goInt m, _, G, _, .inl (hrun _ _ ?_), hsp.1, hsp.2, k _ ⟨?_, .inr ⟨b, _, rfl, rfl, hnc, by rw [size_splice hfit, hcs], ?_⟩⟩⟩
      · rw [hl] at hld
        have hmin : Nat.min m n = m := Nat.min_eq_left hmn
        simp [Builtin.copy_, run_underlying hu', Builtin.lenOf, Builtin.firstCells, sizeOf, typeInfo, hi1, hi3, hmin, hld, hst, splice]
      · rw [List.length_append, List.length_drop, hcl, hl]; omega
      · have h0 : (splice c 0 news).toList = news ++ c.toList.drop news.length := by simp [splice]
        rw [h0, List.take_append, List.take_of_length_le (by omega), ← htk, List.drop_take]
        rw [hl]

/-! #### memory that stays from now on -/
def Gh.add (G : Gh) (b : Nat) (c : Array Value) : Gh := fun b' o => if b' = b then c[o]? else G b' o
theorem Sat.frozen {w : World} (h : Sat G H w) {j b : Nat} {c : Array Value} {T : TypeId} (hj : At H j (.blk b (.cells c T (0, 0)))) : G.le (G.add b c) ∧ Sat (G.add b c) (H.eraseIdx j) w := by
  have hh : w.heap[b]? = some (.cells c T (0, 0)) := h.hold _ (List.mem_of_getElem? hj.get)
  have hg : ∀ o, G b o = none := fun o => h.ghost _ (List.mem_of_getElem? hj.get) b o rfl
  have hp := h.perm (perm_at hj)
  have hap := List.pairwise_cons.1 hp.apart
  refine ⟨fun b' o v e => ?_, ⟨fun b' o v e => ?_, fun x hx => hp.hold x (.tail _ hx), hap.2, fun x hx b' o hc => ?_⟩⟩
  · unfold Gh.add
    split
    · rename_i hb; subst hb; rw [hg o] at e; cases e
    · exact e
  · unfold Gh.add at e
    split at e
    · rename_i hb
      subst hb
      simp [World.cell?, hh, e]
    · exact h.agr b' o v e
  · unfold Gh.add
    split
    · rename_i hb; subst hb; exact absurd hc (hap.1 x hx b' o rfl)
    · exact hp.ghost x (.tail _ hx) b' o hc
theorem St.freeze {a : Act} {w : World} (st : St cx L G H a w) {j b : Nat} {c : Array Value} {T : TypeId} (hj : At H j (.blk b (.cells c T (0, 0)))) : St cx L (G.add b c) (H.eraseIdx j) a w := by
  have h := st.sat.frozen hj
  refine ⟨st.size, st.defs, st.slot, h.2, ⟨st.stp.size, st.stp.keep, Gh.le_trans st.stp.gle h.1, fun b' o v e => ?_, fun x hx => st.stp.own x (List.mem_of_mem_eraseIdx hx), st.stp.weq⟩⟩
  unfold Gh.add at e
  split at e
  · rename_i hb
    subst hb
    exact .inr (st.stp.own _ (List.mem_of_getElem? hj.get) b' o rfl)
  · exact st.stp.gnew b' o v e
theorem WC.freeze {c0 : Code} {j b : Nat} {c : Array Value} {T : TypeId} (hj : At H j (.blk b (.cells c T (0, 0)))) (h : G.le (G.add b c) → WC P c0 Q cx L (G.add b c) (H.eraseIdx j)) : WC P c0 Q cx L G H :=
  fun a w st => h (st.sat.frozen hj).1 a w (st.freeze hj)
theorem WL.freeze {j b : Nat} {c : Array Value} {T : TypeId} (hj : At H j (.blk b (.cells c T (0, 0)))) (h : G.le (G.add b c) → WL P ops Q rest cx L (G.add b c) (H.eraseIdx j)) : WL P ops Q rest cx L G H :=
  fun a w st => h (st.sat.frozen hj).1 a w (st.freeze hj)
theorem WK.freeze {K : Act → World → Prop} {j b : Nat} {c : Array Value} {T : TypeId} (hj : At H j (.blk b (.cells c T (0, 0)))) (h : G.le (G.add b c) → WK K cx L (G.add b c) (H.eraseIdx j)) : WK K cx L G H :=
  fun a w st => h (st.sat.frozen hj).1 a w (st.freeze hj)
theorem Gh.add_at {b : Nat} {c : Array Value} {o : Nat} : G.add b c b o = c[o]? := by simp [Gh.add]
theorem WK.frozenVec {K : Act → World → Prop} {T sz n cap j : Nat} {A : Option Addr} {cs : List Value} {x : Own} (hv : Vec T sz A n cap cs x) (hj : At H j x)
    (h : ∀ G', G.le G' → (cs = [] ∨ ∃ b, A = some ⟨b, 0, none⟩ ∧ Cs G' b 0 cs) → WK K cx L G' (H.eraseIdx j)) : WK K cx L G H := by
  obtain ⟨hl, ⟨h1, h2, h3, h4⟩ | ⟨b, c, rfl, rfl, h1, h2, rfl⟩⟩ := hv
  · refine WK.weaken (L' := L) (fun _ _ e => e) (List.eraseIdx_sublist ..) (h G (Gh.le_refl _) (.inl ?_))
    subst h2; exact List.eq_nil_of_length_eq_zero (by simpa using hl)
  · refine WK.freeze hj fun hg => h _ hg (.inr ⟨b, rfl, fun i v e => ?_⟩)
    rw [Nat.zero_add, Gh.add_at]
    rw [List.getElem?_take] at e
    split at e
    · simpa using e
    · cases e
theorem WC.frozenVec {c0 : Code} {T sz n cap j : Nat} {A : Option Addr} {cs : List Value} {x : Own} (hv : Vec T sz A n cap cs x) (hj : At H j x)
    (h : ∀ G', G.le G' → (cs = [] ∨ ∃ b, A = some ⟨b, 0, none⟩ ∧ Cs G' b 0 cs) → WC P c0 Q cx L G' (H.eraseIdx j)) : WC P c0 Q cx L G H :=
  WK.frozenVec (K := c0.wp P Q) hv hj h

/-- an element of what is ours is set -/
theorem Vec.put {T sz n cap b i : Nat} {A : Option Addr} {cs : List Value} {c : Array Value} (h : Vec T sz A n cap cs (.blk b (.cells c T (0, 0)))) (hi : i < n) (es : List Value) (he : es.length = sz) :
    A = some ⟨b, 0, none⟩ ∧ i * sz + es.length ≤ c.size ∧ Vec T sz A n cap (cs.take (i * sz) ++ es ++ cs.drop (i * sz + es.length)) (.blk b (.cells (splice c (i * sz) es) T (0, 0))) := by
  obtain ⟨hl, ⟨h1, h2, h3, h4⟩ | ⟨b', c', rfl, hx, h1, h2, rfl⟩⟩ := h
  · omega
  · cases hx
    have e1 : (i + 1) * sz ≤ n * sz := Nat.mul_le_mul_right _ hi
    have e2 : n * sz ≤ cap * sz := Nat.mul_le_mul_right _ h1
    rw [Nat.add_mul] at e1
    have hfit : i * sz + es.length ≤ c.size := by omega
    refine ⟨rfl, hfit, ?_, .inr ⟨b, _, rfl, rfl, h1, by rw [size_splice hfit, h2], ?_⟩⟩
    · simp only [List.length_append, List.length_take, List.length_drop, hl] at hl ⊢; omega
    · simp only [splice]
      apply List.ext_getElem?
      intro k
      simp only [List.getElem?_take, List.getElem?_append, List.length_append, List.length_take, List.getElem?_drop, Array.length_toList]
      have m1 : min (i * sz) c.size = i * sz := by omega
      have m2 : min (i * sz) (min (n * sz) c.size) = i * sz := by omega
      simp only [m1, m2]
      by_cases hk : k < n * sz
      · simp only [hk, if_true]
        by_cases h3 : k < i * sz + es.length
        · simp only [h3, if_true]
        · simp only [h3, if_false, show i * sz + es.length + (k - (i * sz + es.length)) = k by omega, hk, if_true]
      · simp only [hk, if_false]
        rw [if_neg (by omega), if_neg (by omega)]
theorem Rds.sub {A : Option Addr} {cs : List Value} {H' : List Own} (h : Rds G H A cs) (hs : H.Sublist H') : Rds G H' A cs := by
  rcases h with h | ⟨b, o, e, h⟩
  · exact .inl h
  · exact .inr ⟨b, o, e, fun w s => h w (s.sub hs)⟩
end
end Go.Proofs.Ytjgohbepageicaa.Gb
