/- CodeStates, where what it reads is of bounded bulk. -/
import Derived.Test.YtkmigdmdppkpoaaGreatDoorWj
import Derived.SizedLaws
import Derived.ChangeSlices
import Derived.Carry
import Derived.Test.YtkmigdmdppkpoaaGreatDoorRows
import Derived.ProofKit
import Derived.OpenShut
import Derived.Lay
import Derived.LaidMore
import Derived.Lib.LaidU8
import Derived.Shelf.Vars
import Derived.HandedShaped
import Derived.Deep.DeepHandedRow
import Derived.Test.YtkmigdmdppkpoaaGreatDoorTie
import Derived.Test.YtkmigdmdppkpoaaGreatDoorCards
import Derived.SevenTiedAt
import Derived.ShutString
import Derived.ChangeMaps5
set_option linter.unusedVariables false
set_option linter.unusedSimpArgs false
set_option linter.unusedSectionVars false
namespace Go.Proofs.YtkmigdmdppkpoaaGreatDoor.Gb
open Go Go.RowKit Go.ChangeShapes Go.WideShapes

section
variable {H : Type} (enc : TypeId × Value → H) (P : Program) (w : World)

/-- values of a type are known, with what their weights say -/
def Opens (t : TypeId) {α : Type} (k : Kd α) (B : α → Prop) : Prop :=
  ∀ fuel cs d ps, DataW.trod enc P w 0 (fun _ => true) true fuel t cs = some (d, ps) → (∀ n ∈ d.weights P t, n ≤ reachBytes) → ∃ a, k.K (Gw w) a cs ∧ B a

theorem Opens.mono {t : TypeId} {α : Type} {k : Kd α} {B B' : α → Prop} (h : Opens enc P w t k B) (hb : ∀ a, B a → B' a) : Opens enc P w t k B' :=
  fun fuel cs d ps e hw => let ⟨a, h1, h2⟩ := h fuel cs d ps e hw; ⟨a, h1, hb a h2⟩
theorem Opens.int {t : TypeId} {i : IntKind} (ht : P.underlying t = some (.int i)) : Opens enc P w t (Kd.int i) (fun n => (Lit.int i n).wf = true) :=
  fun fuel cs d ps e _ => let ⟨n, h1, _, h3⟩ := DataW.trod_int ht e; ⟨n, h1, h3⟩
theorem Opens.bool {t : TypeId} (ht : P.underlying t = some .bool) : Opens enc P w t Kd.bool (fun _ => True) :=
  fun fuel cs d ps e _ => let ⟨n, h1, _⟩ := DataW.trod_bool ht e; ⟨n, h1, trivial⟩
theorem Opens.str {t : TypeId} (ht : P.underlying t = some .string) : Opens enc P w t Kd.str (fun s => s.size ≤ 140737488351232) :=
  fun fuel cs d ps e hw => by
    obtain ⟨s, h1, h2, h3⟩ := DataW.trod_string ht e
    obtain ⟨rfl, rfl⟩ := Prod.mk.inj h2
    refine ⟨s, h1, ?_⟩
    have := hw s.data.toList.length (by simp [DataW.weights])
    rw [Array.length_toList] at this
    exact this

theorem weightsAll_mem {e : TypeId} : ∀ {ds : List (DataW H)} {j : Nat} {d : DataW H}, ds[j]? = some d → ∀ n ∈ d.weights P e, n ∈ DataW.weightsAll P e ds
  | d0 :: ds, 0, d, hd, n, hn => by
    simp only [List.getElem?_cons_zero, Option.some.injEq] at hd
    subst hd
    simp only [DataW.weightsAll, List.mem_append]
    exact .inl hn
  | d0 :: ds, j + 1, d, hd, n, hn => by
    simp only [List.getElem?_cons_succ] at hd
    simp only [DataW.weightsAll, List.mem_append]
    exact .inr (weightsAll_mem hd n hn)
  | [], _, _, hd, _, _ => by simp at hd

theorem mapM_cells {a : Addr} : ∀ {l : List Nat} {cs : List Value}, (l.mapM fun i => w.cell? (a.add i)) = some cs → cs.length = l.length ∧ ∀ (j i : Nat) (v : Value), l[j]? = some i → cs[j]? = some v → w.cell? (a.add i) = some v
  | [], cs, h => by
    simp at h; subst h
    exact ⟨rfl, fun j i v e => by simp at e⟩
  | i0 :: l, cs, h => by
    rw [List.mapM_cons] at h
    cases h0 : w.cell? (a.add i0) with
    | none => rw [h0] at h; simp at h
    | some v0 =>
      rw [h0] at h
      cases h1 : l.mapM (fun i => w.cell? (a.add i)) with
      | none => rw [h1] at h; simp at h
      | some cs' =>
        rw [h1] at h
        simp at h
        subst h
        obtain ⟨h2, h3⟩ := mapM_cells h1
        refine ⟨by simp [h2], fun j i v ej ev => ?_⟩
        cases j with
        | zero => simp at ej ev; subst ej ev; exact h0
        | succ j => simp at ej ev; exact h3 j i v ej ev

theorem cells_get {b : Nat} {a : Addr} {n : Nat} {cs : List Value} (h : w.cells? b a n = some cs) : cs.length = n ∧ ∀ (j : Nat) (v : Value), cs[j]? = some v → w.cell? (a.add j) = some v := by
  unfold World.cells? at h
  split at h
  · obtain ⟨h1, h2⟩ := mapM_cells w h
    rw [List.length_range] at h1
    refine ⟨h1, fun j v e => h2 j j v ?_ e⟩
    have hj := (List.getElem?_eq_some_iff.1 e).1
    rw [List.getElem?_range (by omega)]
  · cases h

theorem cell_plain {a : Addr} {v : Value} (h : w.cell? a = some v) : a.spot = none := by
  unfold World.cell? at h
  split at h
  · split at h
    · cases h
    · rename_i hs; simpa using hs
  · cases h

theorem Opens.slice {t e : TypeId} {α : Type} {k : Kd α} {B : α → Prop} (ht : P.underlying t = some (.slice e)) (hc : P.cellsOf e = k.n) (h0 : 0 < k.n) {by_ : Nat} (hby : P.bytesOf e = by_) (h : Opens enc P w e k B) :
    Opens enc P w t (Kd.slice k) (fun xs => xs.length * by_ ≤ 140737488351232 ∧ ∀ x ∈ xs, B x) := by
  subst hby
  intro fuel cs d ps hd hw
  rcases DataW.trod_slice ht hd with ⟨rfl, _⟩ | ⟨a, len, cap, elems, rest, n, _, rfl, hx, _, hl, _, hlen, hel, _, _⟩
  · exact ⟨[], ⟨none, 0, rfl, Nat.le_refl _, Sl.nil _ _ _⟩, by simp, by simp⟩
  · obtain ⟨rfl, rfl⟩ := Prod.mk.inj hx
    have hw1 : (elems.length + rest.length) * P.bytesOf e ≤ reachBytes := by
      have := hw ((elems.map (·.1)).length + (rest.map (·.1)).length |> (· * P.bytesOf e)) (by simp [DataW.weights, ht])
      simpa using this
    have hwe : ∀ (j : Nat) (d' : DataW H), (elems.map (·.1))[j]? = some d' → ∀ n ∈ d'.weights P e, n ≤ reachBytes := fun j d' hj n hn =>
      hw n (by simp only [DataW.weights, ht, List.mem_cons, List.mem_append]; exact .inr (.inl (weightsAll_mem P hj n hn)))
    have one : ∀ i, i < len → ∃ y cs', w.cells? 0 (a.add (i * P.cellsOf e)) (P.cellsOf e) = some cs' ∧ k.K (Gw w) y cs' ∧ B y := by
      intro i hi
      have hi' := hel i hi
      cases hcs : w.cells? 0 (a.add (i * P.cellsOf e)) (P.cellsOf e) with
      | none =>
        rw [hcs, List.getElem?_eq_getElem (by omega)] at hi'
        cases hi'
      | some cs' =>
        rw [hcs, List.getElem?_eq_getElem (by omega : i < elems.length)] at hi'
        simp only [Option.bind_some] at hi'
        obtain ⟨y, h1, h2⟩ := h n cs' _ _ hi' (hwe i _ (by rw [List.getElem?_map, List.getElem?_eq_getElem (by omega : i < elems.length)]; rfl))
        exact ⟨y, cs', rfl, h1, h2⟩
    have all : ∀ m, m ≤ len → ∃ xs : List α, xs.length = m ∧ (∀ x ∈ xs, B x) ∧ ∀ i x, xs[i]? = some x → ∃ cs', w.cells? 0 (a.add (i * P.cellsOf e)) (P.cellsOf e) = some cs' ∧ k.K (Gw w) x cs' := by
      intro m
      induction m with
      | zero => exact fun _ => ⟨[], rfl, by simp, by simp⟩
      | succ m ih =>
        intro hm
        obtain ⟨xs, e1, e2, e3⟩ := ih (by omega)
        obtain ⟨y, cs', h1, h2, h3⟩ := one m (by omega)
        refine ⟨xs ++ [y], by simp [e1], fun x hx => ?_, fun i x hx => ?_⟩
        · rcases List.mem_append.1 hx with hx | hx
          · exact e2 x hx
          · simp at hx; subst hx; exact h3
        · rcases Nat.lt_or_ge i xs.length with hi | hi
          · rw [List.getElem?_append_left hi] at hx; exact e3 i x hx
          · have : i = m := by have := (List.getElem?_eq_some_iff.1 hx).1; simp at this; omega
            subst this
            rw [List.getElem?_append_right hi] at hx
            simp [e1] at hx
            subst hx
            exact ⟨cs', h1, h2⟩
    obtain ⟨xs, e1, e2, e3⟩ := all len (Nat.le_refl _)
    refine ⟨xs, ⟨some a, cap, by rw [e1], by omega, fun i x hx => ?_⟩, ?_, e2⟩
    · have hi := (List.getElem?_eq_some_iff.1 hx).1
      obtain ⟨cs0, h10, h20⟩ := e3 0 _ (List.getElem?_eq_getElem (by omega : 0 < xs.length))
      obtain ⟨h30, h40⟩ := cells_get w h10
      have hsp := cell_plain w (h40 0 _ (List.getElem?_eq_getElem (by rw [h30, hc]; exact h0)))
      obtain ⟨cs', h1, h2⟩ := e3 i x hx
      obtain ⟨h3, h4⟩ := cells_get w h1
      obtain ⟨ab, ao, asp⟩ := a
      obtain rfl : asp = none := by simpa [Addr.add] using hsp
      refine ⟨ab, ao, cs', rfl, h2, fun j v e => ?_⟩
      have h5 := h4 j v e
      rw [hc] at h5
      have e5 : ((⟨ab, ao, none⟩ : Addr).add (i * k.n)).add j = ⟨ab, ao + i * k.n + j, none⟩ := by
        unfold Addr.add
        split <;> split <;> simp_all
      rw [e5] at h5
      exact h5
    · rw [e1, ← hlen]
      exact Nat.le_trans (Nat.mul_le_mul_right _ (Nat.le_add_right _ _)) hw1

/-- a struct's field -/
theorem field_raw {t : TypeId} {fs : Array Field} {fuel : Nat} {cs : List Value} {d : DataW H} {ps : List MemPlace} (ht : P.underlying t = some (.struct fs)) (hd : DataW.trod enc P w 0 (fun _ => true) true fuel t cs = some (d, ps)) (hw : ∀ n ∈ d.weights P t, n ≤ reachBytes) :
    cs.length = P.cellsOf t ∧ ∀ (i : Nat) (f : Field), fs[i]? = some f → ∀ {t' o n : Nat}, f.type = t' → f.offset = o → P.cellsOf t' = n → ∃ fuel' d' ps', DataW.trod enc P w 0 (fun _ => true) true fuel' t' ((cs.drop o).take n) = some (d', ps') ∧ ∀ n ∈ d'.weights P t', n ≤ reachBytes := by
  obtain ⟨xs, n, _, hx, hl, hn, hf⟩ := DataW.trod_struct ht hd
  obtain ⟨rfl, rfl⟩ := Prod.mk.inj hx
  refine ⟨hl, fun i f hi t' o n' e1 e2 e3 => ?_⟩
  subst e1 e2 e3
  have h1 := hf i f hi
  have hilt : i < xs.length := by rw [hn]; exact (Array.getElem?_eq_some_iff.1 hi).1
  rw [List.getElem?_eq_getElem hilt] at h1
  refine ⟨n, _, _, h1, fun m hm => hw m ?_⟩
  simp only [DataW.weights, ht]
  exact DataW.weights_mem_each (j := i) (t := f.type) (d := (xs[i]).1) (by simp [hi]) (by simp [hilt]) m hm
theorem field_open {t : TypeId} {fs : Array Field} {fuel : Nat} {cs : List Value} {d : DataW H} {ps : List MemPlace} (ht : P.underlying t = some (.struct fs)) (hd : DataW.trod enc P w 0 (fun _ => true) true fuel t cs = some (d, ps)) (hw : ∀ n ∈ d.weights P t, n ≤ reachBytes) :
    cs.length = P.cellsOf t ∧ ∀ (i : Nat) (f : Field), fs[i]? = some f → ∀ {t' o n : Nat}, f.type = t' → f.offset = o → P.cellsOf t' = n → ∀ {α : Type} {k : Kd α} {B : α → Prop}, Opens enc P w t' k B → ∃ a, k.K (Gw w) a ((cs.drop o).take n) ∧ B a := by
  obtain ⟨hl, hf⟩ := field_raw enc P w ht hd hw
  refine ⟨hl, fun i f hi t' o n e1 e2 e3 α k B hO => ?_⟩
  obtain ⟨fuel', d', ps', h1, h2⟩ := hf i f hi e1 e2 e3
  exact hO fuel' _ d' ps' h1 h2
end
theorem Kept.same {W W' : World} (h : Kept W W') {p : MemPlace} (hp : p.block < W.heap.size) : W.sameAt W' p := by
  cases p with
  | cell b o => exact World.cell?_of_block (w := W) (h.heap b hp)
  | map b => exact h.heap b hp
/-- an argument reads as it did -/
theorem Kept.trod {H : Type} {enc : TypeId × Value → H} {P : Program} {t : TypeId} (hl : laidOutB P = true) (hr : P.readableRec t = true) (hrow : t < P.types.size) {W W' : World} {v : Value} {d : DataW H} {ps : List MemPlace}
    (h : DataW.Trod enc P W 0 (fun _ => true) true t v d ps) (hb : Kept W W') :
    DataW.Trod enc P W' 0 (fun b => decide (b < W.heap.size)) true t v d ps := by
  have hlt : ∀ x ∈ ps, x.block < W.heap.size := by obtain ⟨m, hm⟩ := h; exact DataW.trod_lt m _ _ _ hm
  exact WideElems.Trod_stays hl hr hrow h (fun x hx => hb.same (hlt x hx)) (fun x hx => by simpa using hlt x hx)
theorem sized_each {H : Type} {P : Program} {ts : List TypeId} {ds : List (DataW H)} (h : (DataW.weightsEach P ts ds).all (· ≤ reachBytes) = true) {j : Nat} {t : TypeId} {d : DataW H} (ht : ts[j]? = some t) (hd : ds[j]? = some d) : ∀ n ∈ d.weights P t, n ≤ reachBytes :=
  fun n hn => by simpa using List.all_eq_true.1 h _ (DataW.weights_mem_each ht hd n hn)
end Go.Proofs.YtkmigdmdppkpoaaGreatDoor.Gb
namespace Go.Proofs.YtkmigdmdppkpoaaGreatDoor.Gb
open Go Go.Proofs Go.RowKit Go.ChangeShapes Go.WideShapes
set_option linter.unusedVariables false
section
variable {H : Type} (enc : TypeId × Value → H) (P : Program) (w : World)
theorem open_sliceK {t e : TypeId} {α : Type} {k : Kd α} {B : α → Prop} (ht : P.underlying t = some (.slice e)) (hc : P.cellsOf e = k.n) (h0 : 0 < k.n) {by_ : Nat} (hby : P.bytesOf e = by_) (h : Opens enc P w e k B)
    {v : Value} {d : DataW H} {ps : List MemPlace} {base : Nat} (hval : Value.okWide P w .any base t v) (hd : DataW.Trod enc P w 0 (fun _ => true) true t v d ps) (hw : ∀ n ∈ d.weights P t, n ≤ reachBytes) :
    ∃ (A : Option Addr) (cap : Nat) (xs : List α), v = .slice A xs.length cap ∧ xs.length ≤ cap ∧ Sl k (Gw w) A xs ∧ xs.length * by_ ≤ 140737488351232 ∧ ∀ x ∈ xs, B x := by
  obtain ⟨A, len, cap, rfl⟩ := okWide_slice ht hval
  obtain ⟨fuel, hd⟩ := hd
  obtain ⟨xs, ⟨A', cap', h1, hle, h2⟩, h3, h4⟩ := Opens.slice enc P w ht hc h0 hby h fuel _ d ps hd hw
  have e1 : [Value.slice A len cap] = [Value.slice A' xs.length cap'] := h1
  cases e1
  exact ⟨_, _, xs, rfl, hle, h2, h3, h4⟩
end
end Go.Proofs.YtkmigdmdppkpoaaGreatDoor.Gb
namespace Go.Proofs.YtkmigdmdppkpoaaGreatDoor.Gb
open Go Go.Proofs
set_option linter.unusedVariables false
set_option linter.unusedSimpArgs false
set_option linter.unusedSectionVars false
attribute [local irreducible] Tryz.prog

/-- a row's wrap: what is listed, what the world's shape gives, and the weights -/
theorem handed_all {H : Type} {enc : TypeId × Value → H} {a : Assume} {C : Checked} {os : Os} {f : FuncId} {fn : Func} {s : ChangeSpec} {conds : List PathCond} {apart fresh handsOn again : Bool} {X : World → Prop}
    (hX : ∀ (w w' : World), w.heap = w'.heap → X w → X w')
    (own : ownKnob C.prog.godebug = none) (started : os.Started) (noInit : C.prog.inits.idxOf? f = none) (hfn : C.prog.funcs[f]? = some fn)
    (witness : ∃ (w : World) (tape : Tape) (i : Input), w.os = os ∧ (w.forCall tape i).Shaped C.prog ∧ i.vars = [] ∧ Input.okWide C.prog (w.forCall tape i) .any w.heap.size f i ∧
      ((s.pre enc C.prog fn conds apart (w.forCall tape i).memory i.args ∧ X (w.forCall tape i).memory) ∧ sizedMet enc C.prog fn (OpenSpec.ofChange s) apart (w.forCall tape i).memory i.args) ∧ a.holds C.prog (lone (Frame.enter C.prog f i.args .normal) [] (w.forCall tape i)))
    (contract : ∀ (W : World) (base : Nat) (args : Array Value) (ds gs : List (DataW H)) (before : List MemPlace),
      (∀ (j : Nat) t v, fn.params[j]? = some t → args[j]? = some v → Value.okWide C.prog W .any base t v) →
      DataW.Whole enc C.prog fn.params.toList s.vars apart W args.toList ds gs before →
      (DataW.weightsEach C.prog (fn.params.toList ++ s.plain.varTypes C.prog) (ds ++ gs)).all (· ≤ reachBytes) = true → X W → W.ShapedOpen C.prog →
      Calls C.prog f args W fun e W' => ∃ v, e = .returned v ∧ s.post enc C.prog fn apart fresh handsOn again W args v W') :
    ReturnsInHanded a C os f .any (fun w args => (s.pre enc C.prog fn conds apart w args ∧ X w) ∧ sizedMet enc C.prog fn (OpenSpec.ofChange s) apart w args) (s.post enc C.prog fn apart fresh handsOn again) := by
  refine returnsInHanded_of_calls own started noInit witness ?_
  intro w tape i _ hsh _ hok hpre hholds
  obtain ⟨_, _, _, fn', hfn', _, _, _, _, hval⟩ := hok
  obtain rfl : fn' = fn := Option.some.inj (hfn'.symm.trans hfn)
  obtain ⟨⟨⟨ds, gs, before, hw, hc⟩, hx⟩, hz⟩ := hpre
  have hw' := DataW.Whole.of_heap (w' := w.forCall tape i) (by rfl) hw
  refine (contract (w.forCall tape i) w.heap.size i.args ds gs before hval hw' (hz.weights hw) (hX _ _ (by rfl) hx) hsh).mono fun e W' ⟨v, he, hp⟩ => ?_
  subst he
  exact ChangeSpec.post_blind hp

theorem gSyn : Tryz.prog.globalNamed "strconv.ErrSyntax" = some 1 := by kernel_rfl
theorem gRng : Tryz.prog.globalNamed "strconv.ErrRange" = some 2 := by kernel_rfl
theorem cell_of_iface {W : World} {n nm : String} {g t : Nat} {ms : Array (String × TypeId)} {d : DataW Unit} (hg : Tryz.prog.globalNamed n = some g) (ht : (Tryz.prog.globals[g]?).map (·.type) = some t) (hu : Tryz.prog.underlying t = some (.interface ms)) (h : Lib.VarReads Tryz.prog W n (.iface nm d)) :
    ∃ te pe, Gw W g 0 = some (.iface te pe) := by
  obtain ⟨g', t', cs, fuel, p, h1, h2, h3, h4⟩ := h
  obtain rfl := Option.some.inj (hg.symm.trans h1)
  obtain rfl := Option.some.inj (ht.symm.trans h2)
  obtain ⟨_, u, v, hc, _⟩ := iface_of_trod hu h4
  refine ⟨u, v, ?_⟩
  have := World.var?_cell h1 h3 0
  unfold Gw
  rw [this, ← Array.getElem?_toList, hc]; rfl
theorem tSyn : (Tryz.prog.globals[1]?).map (·.type) = some 122 := by kernel_rfl
theorem tRng : (Tryz.prog.globals[2]?).map (·.type) = some 122 := by kernel_rfl
theorem uErr : Tryz.prog.underlying 122 = some (.interface (Tryz.prog.methodsAt 122)) := by kernel_rfl
theorem tTab : (Tryz.prog.globals[3]?).map (·.type) = some 246 := by kernel_rfl
theorem ex_of {W : World} (h : Lib.VarReads Tryz.prog W "internal/strconv.uint64pow10" Rows.laid_internal_strconv_uint64pow10) : Ex (covs []) W := by
  obtain ⟨g', t', cs, fuel, p, h1, h2, h3, h4⟩ := h
  obtain rfl := Option.some.inj (gTab.symm.trans h1)
  obtain rfl := Option.some.inj (tTab.symm.trans h2)
  have hc := Lib.cells_of_tab (k := .u64) (zs := Lib.pow10Tab) (show Tryz.prog.underlying 246 = some (.array 20 117) by kernel_rfl) (by kernel_rfl) (by kernel_rfl) (by kernel_rfl) h4
  intro q hq
  obtain rfl : q = (3, _) := by simpa [exL] using hq
  refine ⟨?_, fun o ⟨x, hx, _⟩ => by cases hx⟩
  unfold World.var? at h3
  rw [gTab] at h3
  simp only [Option.bind_some] at h3
  cases ho : W.heap[3]? with
  | none => rw [ho] at h3; cases h3
  | some ob =>
    rw [ho] at h3
    cases ob <;> simp at h3
    rename_i c T fr
    subst h3
    exact ⟨T, fr, by rw [show c = (Lib.pow10Tab.map fun z => Value.int .u64 z).toArray from Array.toList_inj.1 hc]; rfl⟩
theorem env_of {W : World} (h1 : Lib.VarReads Tryz.prog W "strconv.ErrSyntax" Rows.laid_strconv_ErrSyntax) (h2 : Lib.VarReads Tryz.prog W "strconv.ErrRange" Rows.laid_strconv_ErrRange) (hs : W.ShapedOpen Tryz.prog) : Env (Gw W) where
  syn := cell_of_iface gSyn tSyn uErr h1
  rng := cell_of_iface gRng tRng uErr h2
  mxl := by
    have h := cell_of_shapedOpen_int (P := Tryz.prog) (w := W) (g := 0) (t := 3) (zero := #[.int .i64 0]) (k := .i64) hs (of_decide_eq_true (by kernel_rfl)) (by kernel_rfl) rfl (by kernel_rfl) (by kernel_rfl) (by kernel_rfl)
    obtain ⟨m, hm⟩ := h
    exact ⟨m, hm⟩
end Go.Proofs.YtkmigdmdppkpoaaGreatDoor.Gb
namespace Go.Proofs.YtkmigdmdppkpoaaGreatDoor.Gb
open Go Go.Proofs Go.RowKit Go.ChangeShapes Go.WideShapes Go.MapKept
set_option linter.unusedVariables false
set_option linter.unusedSimpArgs false
set_option linter.unusedSectionVars false

theorem bulk_part {H : Type} {d : DataW H} {l : List (DataW H)} (h : d ∈ l) : Rows.uptoBulk d ≤ Rows.uptoBulkAll l := by
  induction l with
  | nil => cases h
  | cons x r ih =>
    simp only [Rows.uptoBulkAll]
    rcases List.mem_cons.1 h with rfl | h
    · omega
    · have := ih h; omega
theorem bulk_one {H : Type} (d : DataW H) : 1 ≤ Rows.uptoBulk d := by
  cases d with
  | lit l => cases l <;> simp [Rows.uptoBulk]
  | nil => simp [Rows.uptoBulk]
  | ptr d => simp [Rows.uptoBulk]
  | slice elems spare => simp [Rows.uptoBulk]
  | agg parts => simp [Rows.uptoBulk]
  | iface t d => simp [Rows.uptoBulk]
  | map entries => simp [Rows.uptoBulk]
  | held h => simp [Rows.uptoBulk]
theorem bulk_length {H : Type} (l : List (DataW H)) : l.length ≤ Rows.uptoBulkAll l := by
  induction l with
  | nil => simp [Rows.uptoBulkAll]
  | cons x r ih => have := bulk_one x; simp only [Rows.uptoBulkAll, List.length_cons]; omega
theorem bulk_of {H : Type} {l : List (DataW H)} (h : Rows.uptoSmall H l = true) {d : DataW H} (hd : d ∈ l) : Rows.uptoBulk d ≤ 1048576 :=
  Nat.le_trans (bulk_part hd) (of_decide_eq_true h)

section
variable {H : Type} (enc : TypeId × Value → H) (P : Program) (w : World)
/-- values of a type are known, with what their bulk says -/
def OpensU (t : TypeId) {α : Type} (k : Kd α) (B : α → Prop) : Prop :=
  ∀ fuel cs d ps, DataW.trod enc P w 0 (fun _ => true) true fuel t cs = some (d, ps) → Rows.uptoBulk d ≤ 1048576 → ∃ a, k.K (Gw w) a cs ∧ B a
theorem OpensU.int {t : TypeId} {i : IntKind} (ht : P.underlying t = some (.int i)) : OpensU enc P w t (Kd.int i) (fun n => (Lit.int i n).wf = true) :=
  fun fuel cs d ps e _ => let ⟨n, h1, _, h3⟩ := DataW.trod_int ht e; ⟨n, h1, h3⟩
theorem OpensU.bool {t : TypeId} (ht : P.underlying t = some .bool) : OpensU enc P w t Kd.bool (fun _ => True) :=
  fun fuel cs d ps e _ => let ⟨n, h1, _⟩ := DataW.trod_bool ht e; ⟨n, h1, trivial⟩
theorem OpensU.str {t : TypeId} (ht : P.underlying t = some .string) : OpensU enc P w t Kd.str (fun s => s.size ≤ 1048576) :=
  fun fuel cs d ps e hw => by
    obtain ⟨s, h1, h2, h3⟩ := DataW.trod_string ht e
    obtain ⟨rfl, rfl⟩ := Prod.mk.inj h2
    refine ⟨s, h1, ?_⟩
    simp only [Rows.uptoBulk, Array.length_toList] at hw
    show s.data.size ≤ 1048576
    omega
theorem OpensU.slice {t e : TypeId} {α : Type} {k : Kd α} {B : α → Prop} (ht : P.underlying t = some (.slice e)) (hc : P.cellsOf e = k.n) (h0 : 0 < k.n) (h : OpensU enc P w e k B) :
    OpensU enc P w t (Kd.slice k) (fun xs => xs.length ≤ 1048576 ∧ ∀ x ∈ xs, B x) := by
  intro fuel cs d ps hd hw
  rcases DataW.trod_slice ht hd with ⟨rfl, _⟩ | ⟨a, len, cap, elems, rest, n, _, rfl, hx, _, hl, _, hlen, hel, _, _⟩
  · exact ⟨[], ⟨none, 0, rfl, Nat.le_refl _, Sl.nil _ _ _⟩, by simp, by simp⟩
  · obtain ⟨rfl, rfl⟩ := Prod.mk.inj hx
    simp only [Rows.uptoBulk] at hw
    have hlb := bulk_length (elems.map (·.1))
    rw [List.length_map] at hlb
    have hwe : ∀ (j : Nat) (d' : DataW H), (elems.map (·.1))[j]? = some d' → Rows.uptoBulk d' ≤ 1048576 := fun j d' hj => by
      have := bulk_part (List.mem_of_getElem? hj); omega
    have one : ∀ i, i < len → ∃ y cs', w.cells? 0 (a.add (i * P.cellsOf e)) (P.cellsOf e) = some cs' ∧ k.K (Gw w) y cs' ∧ B y := by
      intro i hi
      have hi' := hel i hi
      cases hcs : w.cells? 0 (a.add (i * P.cellsOf e)) (P.cellsOf e) with
      | none =>
        rw [hcs, List.getElem?_eq_getElem (by omega)] at hi'
        cases hi'
      | some cs' =>
        rw [hcs, List.getElem?_eq_getElem (by omega : i < elems.length)] at hi'
        simp only [Option.bind_some] at hi'
        obtain ⟨y, h1, h2⟩ := h n cs' _ _ hi' (hwe i _ (by rw [List.getElem?_map, List.getElem?_eq_getElem (by omega : i < elems.length)]; rfl))
        exact ⟨y, cs', rfl, h1, h2⟩
    have all : ∀ m, m ≤ len → ∃ xs : List α, xs.length = m ∧ (∀ x ∈ xs, B x) ∧ ∀ i x, xs[i]? = some x → ∃ cs', w.cells? 0 (a.add (i * P.cellsOf e)) (P.cellsOf e) = some cs' ∧ k.K (Gw w) x cs' := by
      intro m
      induction m with
      | zero => exact fun _ => ⟨[], rfl, by simp, by simp⟩
      | succ m ih =>
        intro hm
        obtain ⟨xs, e1, e2, e3⟩ := ih (by omega)
        obtain ⟨y, cs', h1, h2, h3⟩ := one m (by omega)
        refine ⟨xs ++ [y], by simp [e1], fun x hx => ?_, fun i x hx => ?_⟩
        · rcases List.mem_append.1 hx with hx | hx
          · exact e2 x hx
          · simp at hx; subst hx; exact h3
        · rcases Nat.lt_or_ge i xs.length with hi | hi
          · rw [List.getElem?_append_left hi] at hx; exact e3 i x hx
          · have : i = m := by have := (List.getElem?_eq_some_iff.1 hx).1; simp at this; omega
            subst this
            rw [List.getElem?_append_right hi] at hx
            simp [e1] at hx
            subst hx
            exact ⟨cs', h1, h2⟩
    obtain ⟨xs, e1, e2, e3⟩ := all len (Nat.le_refl _)
    refine ⟨xs, ⟨some a, cap, by rw [e1], by omega, fun i x hx => ?_⟩, by omega, e2⟩
    have hi := (List.getElem?_eq_some_iff.1 hx).1
    obtain ⟨cs0, h10, h20⟩ := e3 0 _ (List.getElem?_eq_getElem (by omega : 0 < xs.length))
    obtain ⟨h30, h40⟩ := cells_get w h10
    have hsp := cell_plain w (h40 0 _ (List.getElem?_eq_getElem (by rw [h30, hc]; exact h0)))
    obtain ⟨cs', h1, h2⟩ := e3 i x hx
    obtain ⟨h3, h4⟩ := cells_get w h1
    obtain ⟨ab, ao, asp⟩ := a
    obtain rfl : asp = none := by simpa [Addr.add] using hsp
    refine ⟨ab, ao, cs', rfl, h2, fun j v e => ?_⟩
    have h5 := h4 j v e
    rw [hc] at h5
    have e5 : ((⟨ab, ao, none⟩ : Addr).add (i * k.n)).add j = ⟨ab, ao + i * k.n + j, none⟩ := by
      unfold Addr.add
      split <;> split <;> simp_all
    rw [e5] at h5
    exact h5
theorem field_openU {t : TypeId} {fs : Array Field} {fuel : Nat} {cs : List Value} {d : DataW H} {ps : List MemPlace} (ht : P.underlying t = some (.struct fs)) (hd : DataW.trod enc P w 0 (fun _ => true) true fuel t cs = some (d, ps)) (hw : Rows.uptoBulk d ≤ 1048576) :
    cs.length = P.cellsOf t ∧ ∀ (i : Nat) (f : Field), fs[i]? = some f → ∀ {t' o n : Nat}, f.type = t' → f.offset = o → P.cellsOf t' = n → ∀ {α : Type} {k : Kd α} {B : α → Prop}, OpensU enc P w t' k B → ∃ a, k.K (Gw w) a ((cs.drop o).take n) ∧ B a := by
  obtain ⟨xs, n, _, hx, hl, hn, hf⟩ := DataW.trod_struct ht hd
  obtain ⟨rfl, rfl⟩ := Prod.mk.inj hx
  refine ⟨hl, fun i f hi t' o n' e1 e2 e3 α k B hO => ?_⟩
  subst e1 e2 e3
  have h1 := hf i f hi
  have hilt : i < xs.length := by rw [hn]; exact (Array.getElem?_eq_some_iff.1 hi).1
  rw [List.getElem?_eq_getElem hilt] at h1
  refine hO n _ _ _ h1 ?_
  simp only [Rows.uptoBulk] at hw
  exact Nat.le_trans (bulk_part (l := xs.map (·.1)) (d := (xs[i]).1) (List.mem_map.2 ⟨_, List.getElem_mem hilt, rfl⟩)) (by omega)
theorem open_sliceU {t e : TypeId} {α : Type} {k : Kd α} {B : α → Prop} (ht : P.underlying t = some (.slice e)) (hc : P.cellsOf e = k.n) (h0 : 0 < k.n) (h : OpensU enc P w e k B)
    {v : Value} {d : DataW H} {ps : List MemPlace} {base : Nat} (hval : Value.okWide P w .any base t v) (hd : DataW.Trod enc P w 0 (fun _ => true) true t v d ps) (hw : Rows.uptoBulk d ≤ 1048576) :
    ∃ (A : Option Addr) (cap : Nat) (xs : List α), v = .slice A xs.length cap ∧ xs.length ≤ cap ∧ Sl k (Gw w) A xs ∧ xs.length ≤ 1048576 ∧ ∀ x ∈ xs, B x := by
  obtain ⟨A, len, cap, rfl⟩ := okWide_slice ht hval
  obtain ⟨fuel, hd⟩ := hd
  obtain ⟨xs, ⟨A', cap', h1, hle, h2⟩, h3, h4⟩ := OpensU.slice enc P w ht hc h0 h fuel _ d ps hd hw
  have e1 : [Value.slice A len cap] = [Value.slice A' xs.length cap'] := h1
  cases e1
  exact ⟨_, _, xs, rfl, hle, h2, h3, h4⟩
end

/-- there is an input that fits, at a world of one's own making -/
theorem witness_row {H : Type} {enc : TypeId × Value → H} {C : Checked} {os : Os} {f : FuncId} {fn : Func} {s : OpenSpec} {conds : List PathCond} {apart : Bool} {laid : List (String × DataW Unit)} (modest : Bool) (w0 : World) (args : Array Value) (hos : w0.os = os)
    (hsh : (w0.forCall (fun _ _ => 0) ⟨#[], args, []⟩).Shaped C.prog) (hok : Input.okWideB C.prog (w0.forCall (fun _ _ => 0) ⟨#[], args, []⟩) f ⟨#[], args, []⟩ = true)
    (hrow : s.preRow enc C.prog fn conds apart laid (w0.forCall (fun _ _ => 0) ⟨#[], args, []⟩).memory args) :
    ∃ (w : World) (tape : Tape) (i : Input), w.os = os ∧ (w.forCall tape i).Shaped C.prog ∧ i.vars = [] ∧ Input.okWide C.prog (w.forCall tape i) .any w.heap.size f i ∧
      s.preRow enc C.prog fn conds apart laid (w.forCall tape i).memory i.args ∧ ({ modest := modest } : Assume).holds C.prog (lone (Frame.enter C.prog f i.args .normal) [] (w.forCall tape i)) :=
  ⟨w0, fun _ _ => 0, ⟨#[], args, []⟩, hos, hsh, (Input.okWide_of_okWideB (base := 0) hok).1, (Input.okWide_of_okWideB hok).2, hrow, by
    simp only [Assume.holds]
    exact ⟨by simp, by simp, fun _ => Modest.zero, by simp, by simp⟩⟩
theorem elist2 {α : Type} {l : List α} (h : l.length = 2) : ∃ a b, l = [a, b] := match l, h with | [a, b], _ => ⟨a, b, rfl⟩
theorem elist4 {α : Type} {l : List α} (h : l.length = 4) : ∃ a b c d, l = [a, b, c, d] := match l, h with | [a, b, c, d], _ => ⟨a, b, c, d, rfl⟩
theorem elist6 {α : Type} {l : List α} (h : l.length = 6) : ∃ a b c d e f, l = [a, b, c, d, e, f] := match l, h with | [a, b, c, d, e, f], _ => ⟨a, b, c, d, e, f, rfl⟩
theorem ecellsV : Tryz.prog.cellsOf 99 = 4 := by kernel_rfl
theorem ecellsI : Tryz.prog.cellsOf 50 = 2 := by kernel_rfl
theorem ecellsP : Tryz.prog.cellsOf 45 = 6 := by kernel_rfl
theorem ecellsN : Tryz.prog.cellsOf 105 = 4 := by kernel_rfl
theorem ecellsO : Tryz.prog.cellsOf 26 = 4 := by kernel_rfl
theorem ecells_int : Tryz.prog.cellsOf 3 = 1 := by kernel_rfl
theorem ecells_typ : Tryz.prog.cellsOf 42 = 1 := by kernel_rfl
theorem ecells_cod : Tryz.prog.cellsOf 48 = 1 := by kernel_rfl
theorem ecells_i64 : Tryz.prog.cellsOf 2 = 1 := by kernel_rfl
theorem ecells_bool : Tryz.prog.cellsOf 4 = 1 := by kernel_rfl
theorem ecells_str : Tryz.prog.cellsOf 9 = 1 := by kernel_rfl
theorem ecells_lv : Tryz.prog.cellsOf 22 = 1 := by kernel_rfl
theorem ecells_ln : Tryz.prog.cellsOf 23 = 1 := by kernel_rfl
theorem ecells_lp : Tryz.prog.cellsOf 24 = 1 := by kernel_rfl
theorem ecells_li : Tryz.prog.cellsOf 43 = 1 := by kernel_rfl
theorem ecells_lt : Tryz.prog.cellsOf 31 = 1 := by kernel_rfl
section
attribute [local irreducible] Tryz.prog
variable {H : Type} (enc : TypeId × Value → H) (w : World)
theorem OpensU.value : OpensU enc Tryz.prog w 99 Kd.val (fun v => v.s.size ≤ 1048576) := by
  intro fuel cs d ps hd hw
  obtain ⟨hl, hf⟩ := field_openU enc Tryz.prog w Tryz.underlying99 hd hw
  obtain ⟨c0, c1, c2, c3, rfl⟩ := elist4 (hl.trans ecellsV)
  obtain ⟨t, h0, _⟩ := hf 0 _ rfl rfl rfl ecells_typ (OpensU.int enc Tryz.prog w Tryz.underlying42)
  obtain ⟨i, h1, _⟩ := hf 1 _ rfl rfl rfl ecells_i64 (OpensU.int enc Tryz.prog w Tryz.underlying2)
  obtain ⟨b, h2, _⟩ := hf 2 _ rfl rfl rfl ecells_bool (OpensU.bool enc Tryz.prog w Tryz.underlying4)
  obtain ⟨s, h3, hs⟩ := hf 3 _ rfl rfl rfl ecells_str (OpensU.str enc Tryz.prog w Tryz.underlying9)
  have e0 : [c0] = [Value.int .i64 t] := h0
  have e1 : [c1] = [Value.int .i64 i] := h1
  have e2 : [c2] = [Value.bool b] := h2
  have e3 : [c3] = [Value.string s] := h3
  cases e0; cases e1; cases e2; cases e3
  exact ⟨⟨t, i, b, s⟩, rfl, hs⟩
theorem OpensU.instr : OpensU enc Tryz.prog w 50 Kd.ins (fun _ => True) := by
  intro fuel cs d ps hd hw
  obtain ⟨hl, hf⟩ := field_openU enc Tryz.prog w Tryz.underlying50 hd hw
  obtain ⟨c0, c1, rfl⟩ := elist2 (hl.trans ecellsI)
  obtain ⟨c, h0, _⟩ := hf 0 _ rfl rfl rfl ecells_cod (OpensU.int enc Tryz.prog w Tryz.underlying48)
  obtain ⟨n, h1, _⟩ := hf 1 _ rfl rfl rfl ecells_int (OpensU.int enc Tryz.prog w Tryz.underlying3)
  have e0 : [c0] = [Value.int .i64 c] := h0
  have e1 : [c1] = [Value.int .i64 n] := h1
  cases e0; cases e1
  exact ⟨(c, n), rfl, trivial⟩
theorem OpensU.proc : OpensU enc Tryz.prog w 45 Kd.prc (fun p => p.name.size ≤ 1048576 ∧ p.params.length ≤ 1048576 ∧ p.code.length ≤ 1048576) := by
  intro fuel cs d ps hd hw
  obtain ⟨hl, hf⟩ := field_openU enc Tryz.prog w Tryz.underlying45 hd hw
  obtain ⟨c0, c1, c2, c3, c4, c5, rfl⟩ := elist6 (hl.trans ecellsP)
  obtain ⟨nm, h0, hnm⟩ := hf 0 _ rfl rfl rfl ecells_str (OpensU.str enc Tryz.prog w Tryz.underlying9)
  obtain ⟨ex, h1, _⟩ := hf 1 _ rfl rfl rfl ecells_bool (OpensU.bool enc Tryz.prog w Tryz.underlying4)
  obtain ⟨pr, h2, hp⟩ := hf 2 _ rfl rfl rfl ecells_lt (OpensU.slice enc Tryz.prog w Tryz.underlying31 (k := Kd.int .i64) ecells_typ (by decide) (OpensU.int enc Tryz.prog w Tryz.underlying42))
  obtain ⟨lo, h3, _⟩ := hf 3 _ rfl rfl rfl ecells_int (OpensU.int enc Tryz.prog w Tryz.underlying3)
  obtain ⟨re, h4, _⟩ := hf 4 _ rfl rfl rfl ecells_typ (OpensU.int enc Tryz.prog w Tryz.underlying42)
  obtain ⟨co, h5, hc⟩ := hf 5 _ rfl rfl rfl ecells_li (OpensU.slice enc Tryz.prog w Tryz.underlying43 (k := Kd.ins) ecellsI (by decide) (OpensU.instr enc w))
  obtain ⟨PA, pc, h2', _, hPA⟩ := h2
  obtain ⟨CA, cc, h5', _, hCA⟩ := h5
  have e0 : [c0] = [Value.string nm] := h0
  have e1 : [c1] = [Value.bool ex] := h1
  have e2 : [c2] = [Value.slice PA pr.length pc] := h2'
  have e3 : [c3] = [Value.int .i64 lo] := h3
  have e4 : [c4] = [Value.int .i64 re] := h4
  have e5 : [c5] = [Value.slice CA co.length cc] := h5'
  cases e0; cases e1; cases e2; cases e3; cases e4; cases e5
  exact ⟨⟨nm, ex, pr, lo, re, co⟩, ⟨PA, pc, CA, cc, rfl, hPA, hCA⟩, hnm, hp.1, hc.1⟩
theorem OpensU.need : OpensU enc Tryz.prog w 105 Kd.ned (fun q => q.path.size ≤ 1048576 ∧ q.name.size ≤ 1048576 ∧ q.params.length ≤ 1048576) := by
  intro fuel cs d ps hd hw
  obtain ⟨hl, hf⟩ := field_openU enc Tryz.prog w Tryz.underlying105 hd hw
  obtain ⟨c0, c1, c2, c3, rfl⟩ := elist4 (hl.trans ecellsN)
  obtain ⟨pt, h0, hpt⟩ := hf 0 _ rfl rfl rfl ecells_str (OpensU.str enc Tryz.prog w Tryz.underlying9)
  obtain ⟨nm, h1, hnm⟩ := hf 1 _ rfl rfl rfl ecells_str (OpensU.str enc Tryz.prog w Tryz.underlying9)
  obtain ⟨pr, h2, hp⟩ := hf 2 _ rfl rfl rfl ecells_lt (OpensU.slice enc Tryz.prog w Tryz.underlying31 (k := Kd.int .i64) ecells_typ (by decide) (OpensU.int enc Tryz.prog w Tryz.underlying42))
  obtain ⟨re, h3, _⟩ := hf 3 _ rfl rfl rfl ecells_typ (OpensU.int enc Tryz.prog w Tryz.underlying42)
  obtain ⟨PA, pc, h2', _, hPA⟩ := h2
  have e0 : [c0] = [Value.string pt] := h0
  have e1 : [c1] = [Value.string nm] := h1
  have e2 : [c2] = [Value.slice PA pr.length pc] := h2'
  have e3 : [c3] = [Value.int .i64 re] := h3
  cases e0; cases e1; cases e2; cases e3
  exact ⟨⟨pt, nm, pr, re⟩, ⟨PA, pc, rfl, hPA⟩, hpt, hnm, hp.1⟩
theorem open_objU {v : Value} {d : DataW H} {ps : List MemPlace} {base : Nat} (hval : Value.okWide Tryz.prog w .any base 26 v) (hd : DataW.Trod enc Tryz.prog w 0 (fun _ => true) true 26 v d ps) (hw : Rows.uptoBulk d ≤ 1048576) :
    ∃ (o : Ob) (CA NA PA : Option Addr) (cc nc pc : Nat), v = .agg (obC o CA NA PA cc nc pc) ∧ ORep (Gw w) o CA NA PA ∧ OLim o := by
  obtain ⟨cells, rfl, _⟩ := okWide_struct Tryz.underlying26 hval
  obtain ⟨fuel, hd⟩ := hd
  obtain ⟨hl, hf⟩ := field_openU enc Tryz.prog w Tryz.underlying26 hd hw
  have hcl : (Value.agg cells).cells.toList = cells.toList := rfl
  rw [hcl] at hl hf
  obtain ⟨c0, c1, c2, c3, hcs⟩ := elist4 (hl.trans ecellsO)
  rw [hcs] at hf
  obtain ⟨pt, h0, hpt⟩ := hf 0 _ rfl rfl rfl ecells_str (OpensU.str enc Tryz.prog w Tryz.underlying9)
  obtain ⟨co, h1, hc⟩ := hf 1 _ rfl rfl rfl ecells_lv (OpensU.slice enc Tryz.prog w Tryz.underlying22 (k := Kd.val) ecellsV (by decide) (OpensU.value enc w))
  obtain ⟨ne, h2, hn⟩ := hf 2 _ rfl rfl rfl ecells_ln (OpensU.slice enc Tryz.prog w Tryz.underlying23 (k := Kd.ned) ecellsN (by decide) (OpensU.need enc w))
  obtain ⟨pr, h3, hp⟩ := hf 3 _ rfl rfl rfl ecells_lp (OpensU.slice enc Tryz.prog w Tryz.underlying24 (k := Kd.prc) ecellsP (by decide) (OpensU.proc enc w))
  obtain ⟨CA, cc, h1', _, hCA⟩ := h1
  obtain ⟨NA, nc, h2', _, hNA⟩ := h2
  obtain ⟨PA, pc, h3', _, hPA⟩ := h3
  have e0 : [c0] = [Value.string pt] := h0
  have e1 : [c1] = [Value.slice CA co.length cc] := h1'
  have e2 : [c2] = [Value.slice NA ne.length nc] := h2'
  have e3 : [c3] = [Value.slice PA pr.length pc] := h3'
  cases e0; cases e1; cases e2; cases e3
  refine ⟨⟨pt, co, ne, pr⟩, CA, NA, PA, cc, nc, pc, ?_, ⟨hCA, hNA, hPA⟩, ⟨?_, ?_, ?_, ?_, fun q hq => ?_, fun q hq => ?_⟩⟩
  · unfold obC
    congr 1
    cases cells
    simp at hcs
    rw [hcs]
  · dsimp only; omega
  · have := hc.1; dsimp only; omega
  · have := hn.1; dsimp only; omega
  · have := hp.1; dsimp only; omega
  · have := hn.2 q hq; omega
  · have := hp.2 q hq; omega
theorem open_boolsU {v : Value} {d : DataW H} {ps : List MemPlace} {base : Nat} (hval : Value.okWide Tryz.prog w .any base 37 v) (hd : DataW.Trod enc Tryz.prog w 0 (fun _ => true) true 37 v d ps) (hw : Rows.uptoBulk d ≤ 1048576) :
    ∃ (x : List Bool) (A : Option Addr) (c : Nat), v = .slice A x.length c ∧ Sl Kd.bool (Gw w) A x ∧ x.length ≤ c ∧ x.length ≤ 1048576 := by
  obtain ⟨A, c, x, h1, h2, h3, h4, _⟩ := open_sliceU enc Tryz.prog w Tryz.underlying37 (k := Kd.bool) ecells_bool (by decide) (OpensU.bool enc Tryz.prog w Tryz.underlying4) hval hd hw
  exact ⟨x, A, c, h1, h3, h2, h4⟩
theorem open_insU {v : Value} {d : DataW H} {ps : List MemPlace} {base : Nat} (hval : Value.okWide Tryz.prog w .any base 43 v) (hd : DataW.Trod enc Tryz.prog w 0 (fun _ => true) true 43 v d ps) (hw : Rows.uptoBulk d ≤ 1048576) :
    ∃ (x : List (Int × Int)) (A : Option Addr) (c : Nat), v = .slice A x.length c ∧ Sl Kd.ins (Gw w) A x ∧ x.length ≤ c ∧ x.length ≤ 1048576 := by
  obtain ⟨A, c, x, h1, h2, h3, h4, _⟩ := open_sliceU enc Tryz.prog w Tryz.underlying43 (k := Kd.ins) ecellsI (by decide) (OpensU.instr enc w) hval hd hw
  exact ⟨x, A, c, h1, h3, h2, h4⟩
end
end Go.Proofs.YtkmigdmdppkpoaaGreatDoor.Gb
namespace Go.Proofs.YtkmigdmdppkpoaaGreatDoor.codeStates
open Go Go.Proofs Go.ChangeShapes Go.WideShapes Go.ChangeAt Go.RowKit Go.ChangeMaps
set_option linter.unusedVariables false
attribute [local irreducible] Tryz.prog
theorem walk (W : World) (hE : Gb.Env (Gb.Gw W)) (hX : Gb.Ex (Gb.covs []) W) (o : Gb.Ob) (CA NA PA : Option Addr) (cc nc pc : Nat) (hO : Gb.ORep (Gb.Gw W) o CA NA PA) (hL : Gb.OLim o)
    (n : Int) (hn : (Lit.int .i64 n).wf = true) (k : Int) (hk : (Lit.int .i64 k).wf = true) :
    Calls Tryz.prog 3 #[.agg (Gb.obC o CA NA PA cc nc pc), .int .i64 n, .int .i64 k] W fun e W' => e = .returned (.bool true) ∧ Gb.Kept W W' :=
  (Gb.codeStates_fn (Gb.Gw W) hE o CA NA PA cc nc pc hO hL n k).keptG (R' := fun e => e = .returned (.bool true)) (fun e G' H' h => h.1) (Gb.Sat.whole W) hX
theorem own : ownKnob Tryz.prog.godebug = none := by kernel_rfl
theorem laidOut : laidOutB Tryz.prog = true := by kernel_rfl
theorem reads (os : Os) {H : Type} (enc : TypeId × Value → H) : ∃ places, DataW.whole enc Tryz.prog ((World.laidAll Tryz.prog os Rows.codeStatesUptoRow.laid).forCall (fun _ _ => 0) ⟨#[], #[.agg #[.string ⟨#[]⟩, .slice none 0 0, .slice none 0 0, .slice none 0 0], .int .i64 0, .int .i64 0], []⟩).memory Tryz.f3.params.toList Rows.codeStatesSpec.vars false (#[.agg #[.string ⟨#[]⟩, .slice none 0 0, .slice none 0 0, .slice none 0 0], .int .i64 0, .int .i64 0] : Array Value).toList 8 = some ([.agg [.lit (.string []), .nil, .nil, .nil], .lit (.int .i64 0), .lit (.int .i64 0)], [], places) :=
  ⟨[], by kernel_rfl⟩
set_option maxRecDepth 100000 in
theorem lifted (os : Os) (started : os.Started) (H : Type) (enc : TypeId × Value → H) (F : Stop.Interp) :
    ReturnsInHanded {} Tryz.checked os 3 .any ((Rows.OpenSpec.upto Rows.codeStatesSpec).preRow enc Tryz.prog Tryz.f3 Rows.codeStatesUptoRow.domain false Rows.codeStatesUptoRow.laid) (((Rows.OpenSpec.upto Rows.codeStatesSpec).at F).post enc Tryz.prog Tryz.f3 false true false false) := by
  obtain ⟨places, hx⟩ := reads os enc
  refine returnsInHanded_of_row (C := Tryz.checked) (s := Rows.OpenSpec.upto Rows.codeStatesSpec) own started (by kernel_rfl) Tryz.func3
    (Gb.witness_row (enc := enc) (C := Tryz.checked) false (World.laidAll Tryz.prog os Rows.codeStatesUptoRow.laid) #[.agg #[.string ⟨#[]⟩, .slice none 0 0, .slice none 0 0, .slice none 0 0], .int .i64 0, .int .i64 0] (World.laidAll_os _ _ _) (World.shaped_of_ZipB (by kernel_rfl) (by kernel_rfl)) (by kernel_rfl)
      (OpenSpec.preRow_of_cond 8 hx (by kernel_rfl) (fun k hk => by cases hk; kernel_rfl) (by kernel_rfl) (by rw [MakeChecks.laidMetH_plain _ _ _ (by kernel_rfl)]; exact laidMet_laidAll _ (by kernel_rfl) (by kernel_rfl)))) ?_
  intro W base args ds gs before hval0 hW _ hcond _ hL hsh _
  rw [MakeChecks.laidMetH_plain _ _ _ (by kernel_rfl)] at hL
  have hE := Gb.env_of (Lib.laidMet.reads hL (by simp [Rows.codeStatesUptoRow])) (Lib.laidMet.reads hL (by simp [Rows.codeStatesUptoRow])) hsh
  have hX := Gb.ex_of (Lib.laidMet.reads hL (by simp [Rows.codeStatesUptoRow]))
  have hval : ∀ (j : Nat) t v, Tryz.f3.params[j]? = some t → args[j]? = some v → Value.okWide Tryz.prog W .any base t v := hval0
  have hbk := hcond _ rfl
  have hW' := hW
  obtain ⟨p, q, hA0, hV, rfl, hfz, hnd⟩ := hW
  have hA : DataW.TrodAll enc Tryz.prog W 0 (fun _ => true) true Tryz.f3.params.toList args.toList ds p := hA0
  rw [Tryz.params3] at hA hval
  obtain ⟨v0, vs0, d0, ds0, p0, q0, hargs, rfl, rfl, h0, r0⟩ := trodAll_cons hA
  obtain ⟨v1, vs1, d1, ds1, p1, q1, rfl, rfl, rfl, h1, r1⟩ := trodAll_cons r0
  obtain ⟨v2, vs2, d2, ds2, p2, q2, rfl, rfl, rfl, h2, r2⟩ := trodAll_cons r1
  obtain ⟨rfl, rfl, rfl⟩ := trodAll_nil r2
  obtain rfl : args = #[v0, v1, v2] := by cases args; simp_all
  obtain ⟨rfl, rfl⟩ := trodVars_none hV
  obtain ⟨o0, CA0, NA0, PA0, cc0, nc0, pc0, rfl, hO0, hL0⟩ := Gb.open_objU enc W (hval 0 26 v0 rfl rfl) h0 (Gb.bulk_of hbk (by simp))
  obtain ⟨a1, rfl, rfl, rfl, w1⟩ := open_int Tryz.underlying3 (hval 1 3 v1 rfl rfl) h1
  obtain ⟨a2, rfl, rfl, rfl, w2⟩ := open_int Tryz.underlying3 (hval 2 3 v2 rfl rfl) h2
  clear hA0 hval0 hbk hcond
  refine (walk W hE hX o0 CA0 NA0 PA0 cc0 nc0 pc0 hO0 hL0 a1 w1 a2 w2).mono fun e W' ⟨he, hg⟩ => ?_
  subst he
  exact ⟨_, rfl, _, _, _, [], _, [], hW', trodAll_mk1 (shut_bool Tryz.underlying4 _), (trodAll_cons_mk (Gb.Kept.trod laidOut (by kernel_rfl) (of_decide_eq_true (by kernel_rfl)) h0 hg) (trodAll_cons_mk (shut_int Tryz.underlying3 w1) (trodAll_cons_mk (shut_int Tryz.underlying3 w2) trodAll_mk0))), rfl, hg.frame _, fun h => by cases h⟩
theorem over : Rows.CodeStatesUptoSaid :=
  OpenClaim.holds_of_cond 3 Tryz.f3 rfl rfl rfl rfl rfl rfl rfl ⟨rfl, rfl, rfl, rfl, rfl⟩ rfl rfl rfl rfl rfl (by kernel_rfl) Tryz.func3 (by kernel_rfl)
    (of_decide_eq_true (by kernel_rfl)) (by unfold Func.isWrapper; first | (rw [if_pos (by decide +kernel)]; kernel_rfl) | (rw [if_neg (by decide +kernel)]; exact ⟨rfl, rfl⟩))
    (fun os started H enc _ F => by rw [OpenClaim.pre_eq_preRow]; exact lifted os started H enc F)
/-- the statement -/
theorem proved : Rows.CodeStatesUptoCardSaid :=
  Claim7.holds_tied_plain_at .later [] _ _ _ _
    over (fun _ h => by cases h) (by kernel_rfl) (fun _ h => by cases h) codeStatesUpto_row_tie rfl ⟨rfl, rfl⟩ (by kernel_rfl) rfl
    (fun f fn hf hfn => by
      obtain rfl : f = 3 := Option.some.inj ((show Tryz.prog.funcNamed "treadle/treadlelaw18.CodeStates" = some 3 by kernel_rfl).symm.trans hf) |>.symm
      obtain rfl : fn = Tryz.f3 := (Option.some.inj (Tryz.func3.symm.trans hfn)).symm
      exact ⟨by kernel_rfl, fun j t ht => by
        rw [Tryz.params3] at ht
        have hm : t ∈ [26, 3, 3] := by simpa using Array.mem_of_getElem? ht
        have hall : ([26, 3, 3].all fun u => !Tryz.prog.wantsStandIn u) = true := by kernel_rfl
        exact (show Tryz.prog.wantsStandIn t = false by simpa using List.all_eq_true.1 hall t hm)⟩)
    (by kernel_rfl)
#print axioms proved
end Go.Proofs.YtkmigdmdppkpoaaGreatDoor.codeStates
