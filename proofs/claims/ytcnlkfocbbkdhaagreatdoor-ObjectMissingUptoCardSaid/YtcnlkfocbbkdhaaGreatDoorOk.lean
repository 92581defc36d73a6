/- Arguments of a bounded bulk, opened with the sum of all that they hold: lists of objects. -/
import Derived.Test.YtcnlkfocbbkdhaaGreatDoorOj
set_option linter.unusedVariables false
set_option linter.unusedSimpArgs false
set_option linter.unusedSectionVars false
namespace Go.Proofs.YtcnlkfocbbkdhaaGreatDoor.Gb
open Go Go.Proofs
section
open Go.RowKit Go.ChangeShapes Go.WideShapes Go.MapKept
theorem bulk_app {H : Type} (a b : List (DataW H)) : Rows.uptoBulkAll (a ++ b) = Rows.uptoBulkAll a + Rows.uptoBulkAll b := by
 induction a with
 | nil => simp [Rows.uptoBulkAll]
 | cons x r ih => simp only [List.cons_append, Rows.uptoBulkAll]; omega
theorem bulk_take {H : Type} {l : List (DataW H)} {i : Nat} {d : DataW H} (h : l[i]? = some d) : Rows.uptoBulkAll (l.take (i + 1)) = Rows.uptoBulkAll (l.take i) + Rows.uptoBulk d := by
 rw [take_snoc' h, bulk_app]; simp [Rows.uptoBulkAll]
theorem bulk_take_le {H : Type} (l : List (DataW H)) (i : Nat) : Rows.uptoBulkAll (l.take i) ≤ Rows.uptoBulkAll l := by
 have h := bulk_app (l.take i) (l.drop i)
 rw [List.take_append_drop] at h
 omega
theorem sum_mem {α : Type} {m : α → Nat} {l : List α} {x : α} (h : x ∈ l) : m x ≤ (l.map m).sum := by
 induction l with
 | nil => cases h
 | cons y r ih =>
  simp only [List.map_cons, List.sum_cons]
  rcases List.mem_cons.1 h with rfl | h
  ·omega
  ·have := ih h; omega
theorem sum_len {α : Type} {m : α → Nat} (l : List α) (h : ∀ x ∈ l, 1 ≤ m x) : l.length ≤ (l.map m).sum := by
 induction l with
 | nil => simp
 | cons y r ih =>
  have h1 := h y List.mem_cons_self
  have h2 := ih fun x hx => h x (List.mem_cons_of_mem _ hx)
  simp only [List.map_cons, List.sum_cons, List.length_cons]
  omega
theorem sum_le {α : Type} {f m : α → Nat} (l : List α) (h : ∀ x ∈ l, f x ≤ m x) : (l.map f).sum ≤ (l.map m).sum := by
 induction l with
 | nil => simp
 | cons y r ih =>
  have h1 := h y List.mem_cons_self
  have h2 := ih fun x hx => h x (List.mem_cons_of_mem _ hx)
  simp only [List.map_cons, List.sum_cons]
  omega
section
variable {H : Type} (enc : TypeId × Value → H) (P : Program) (w : World)
def OpensW (t : TypeId) {α : Type} (k : Kd α) (m : α → Nat) (B : α → Prop) : Prop :=
 ∀ fuel cs d ps, DataW.trod enc P w 0 (fun _ => true) true fuel t cs = some (d, ps) → Rows.uptoBulk d ≤ 1048576 → ∃ a, k.K (Gw w) a cs ∧ m a ≤ Rows.uptoBulk d ∧ B a
theorem OpensW.int {t : TypeId} {i : IntKind} (ht : P.underlying t = some (.int i)) : OpensW enc P w t (Kd.int i) (fun _ => 1) (fun n => (Lit.int i n).wf = true) :=
 fun fuel cs d ps e _ => let ⟨n, h1, _, h3⟩ := DataW.trod_int ht e; ⟨n, h1, bulk_one d, h3⟩
theorem OpensW.bool {t : TypeId} (ht : P.underlying t = some .bool) : OpensW enc P w t Kd.bool (fun _ => 1) (fun _ => True) :=
 fun fuel cs d ps e _ => let ⟨n, h1, _⟩ := DataW.trod_bool ht e; ⟨n, h1, bulk_one d, trivial⟩
theorem OpensW.str {t : TypeId} (ht : P.underlying t = some .string) : OpensW enc P w t Kd.str (fun s => s.size + 1) (fun _ => True) :=
 fun fuel cs d ps e hw => by
  obtain ⟨s, h1, h2, h3⟩ := DataW.trod_string ht e
  obtain ⟨rfl, rfl⟩ := Prod.mk.inj h2
  refine ⟨s, h1, ?_, trivial⟩
  simp only [Rows.uptoBulk, Array.length_toList]
  exact Nat.le_refl _
theorem OpensW.slice {t e : TypeId} {α : Type} {k : Kd α} {m : α → Nat} {B : α → Prop} (ht : P.underlying t = some (.slice e)) (hc : P.cellsOf e = k.n) (h0 : 0 < k.n) (h : OpensW enc P w e k m B) :
  OpensW enc P w t (Kd.slice k) (fun xs => (xs.map m).sum + 1) (fun xs => ∀ x ∈ xs, B x) := by
 intro fuel cs d ps hd hw
 rcases DataW.trod_slice ht hd with ⟨rfl, _⟩ | ⟨a, len, cap, elems, rest, n, _, rfl, hx, _, hl, _, hlen, hel, _, _⟩
 ·exact ⟨[], ⟨none, 0, rfl, Nat.le_refl _, Sl.nil _ _ _⟩, by simpa using bulk_one d, by simp⟩
 ·obtain ⟨rfl, rfl⟩ := Prod.mk.inj hx
  simp only [Rows.uptoBulk] at hw
  have hwe : ∀ (j : Nat) (d' : DataW H), (elems.map (·.1))[j]? = some d' → Rows.uptoBulk d' ≤ 1048576 := fun j d' hj => by
   have := bulk_part (List.mem_of_getElem? hj); omega
  have one : ∀ i, i < len → ∃ y cs' d', w.cells? 0 (a.add (i * P.cellsOf e)) (P.cellsOf e) = some cs' ∧ k.K (Gw w) y cs' ∧ (elems.map (·.1))[i]? = some d' ∧ m y ≤ Rows.uptoBulk d' ∧ B y := by
   intro i hi
   have hi' := hel i hi
   have he : i < elems.length := by omega
   cases hcs : w.cells? 0 (a.add (i * P.cellsOf e)) (P.cellsOf e) with
   | none =>
    rw [hcs, List.getElem?_eq_getElem he] at hi'
    cases hi'
   | some cs' =>
    rw [hcs, List.getElem?_eq_getElem he] at hi'
    simp only [Option.bind_some] at hi'
    have hd' : (elems.map (·.1))[i]? = some (elems[i]).1 := by rw [List.getElem?_map, List.getElem?_eq_getElem he]; rfl
    obtain ⟨y, h1, h2, h3⟩ := h n cs' _ _ hi' (hwe i _ hd')
    exact ⟨y, cs', _, rfl, h1, hd', h2, h3⟩
  have all : ∀ q, q ≤ len → ∃ xs : List α, xs.length = q ∧ (∀ x ∈ xs, B x) ∧ (xs.map m).sum ≤ Rows.uptoBulkAll ((elems.map (·.1)).take q) ∧ ∀ i x, xs[i]? = some x → ∃ cs', w.cells? 0 (a.add (i * P.cellsOf e)) (P.cellsOf e) = some cs' ∧ k.K (Gw w) x cs' := by
   intro q
   induction q with
   | zero => exact fun _ => ⟨[], rfl, by simp, by simp, by simp⟩
   | succ q ih =>
    intro hm
    obtain ⟨xs, e1, e2, e4, e3⟩ := ih (by omega)
    obtain ⟨y, cs', d', h1, h2, h3, h4, h5⟩ := one q (by omega)
    refine ⟨xs ++ [y], by simp [e1], fun x hx => ?_, ?_, fun i x hx => ?_⟩
    ·rcases List.mem_append.1 hx with hx | hx
     ·exact e2 x hx
     ·simp at hx; subst hx; exact h5
    ·rw [bulk_take h3, List.map_append, List.sum_append]
     simp only [List.map_cons, List.map_nil, List.sum_cons, List.sum_nil]
     omega
    ·rcases Nat.lt_or_ge i xs.length with hi | hi
     ·rw [List.getElem?_append_left hi] at hx; exact e3 i x hx
     ·have : i = q := by have := (List.getElem?_eq_some_iff.1 hx).1; simp at this; omega
      subst this
      rw [List.getElem?_append_right hi] at hx
      simp [e1] at hx
      subst hx
      exact ⟨cs', h1, h2⟩
  obtain ⟨xs, e1, e2, e4, e3⟩ := all len (Nat.le_refl _)
  have h5 := bulk_take_le (elems.map (·.1)) len
  refine ⟨xs, ⟨some a, cap, by rw [e1], by omega, fun i x hx => ?_⟩, by simp only [Rows.uptoBulk]; omega, e2⟩
  have hi := (List.getElem?_eq_some_iff.1 hx).1
  obtain ⟨cs0, h10, h20⟩ := e3 0 _ (List.getElem?_eq_getElem (by omega : 0 < xs.length))
  obtain ⟨h30, h40⟩ := cells_get w h10
  have hsp := cell_plain w (h40 0 _ (List.getElem?_eq_getElem (by rw [h30, hc]; exact h0)))
  obtain ⟨cs', h1, h2⟩ := e3 i x hx
  obtain ⟨h3, h4⟩ := cells_get w h1
  obtain ⟨ab, ao, asp⟩ := a
  obtain rfl : asp = none := by simpa [Addr.add] using hsp
  refine ⟨ab, ao, cs', rfl, h2, fun j v e => ?_⟩
  have h5 := h4 j v e
  rw [hc] at h5
  have e5 : ((⟨ab, ao, none⟩ : Addr).add (i * k.n)).add j = ⟨ab, ao + i * k.n + j, none⟩ := by
   unfold Addr.add
   split <;> split <;> simp_all
  rw [e5] at h5
  exact h5
theorem field_openW {t : TypeId} {fs : Array Field} {fuel : Nat} {cs : List Value} {d : DataW H} {ps : List MemPlace} (ht : P.underlying t = some (.struct fs)) (hd : DataW.trod enc P w 0 (fun _ => true) true fuel t cs = some (d, ps)) (hw : Rows.uptoBulk d ≤ 1048576) :
  cs.length = P.cellsOf t ∧ ∃ ds : List (DataW H), ds.length = fs.size ∧ Rows.uptoBulk d = Rows.uptoBulkAll ds + 1 ∧ ∀ (i : Nat) (f : Field), fs[i]? = some f → ∀ {t' o n : Nat}, f.type = t' → f.offset = o → P.cellsOf t' = n → ∀ {α : Type} {k : Kd α} {m : α → Nat} {B : α → Prop}, OpensW enc P w t' k m B → ∃ a, k.K (Gw w) a ((cs.drop o).take n) ∧ (∀ x, ds[i]? = some x → m a ≤ Rows.uptoBulk x) ∧ B a := by
 obtain ⟨xs, n, _, hx, hl, hn, hf⟩ := DataW.trod_struct ht hd
 obtain ⟨rfl, rfl⟩ := Prod.mk.inj hx
 refine ⟨hl, xs.map (·.1), by rw [List.length_map, hn], by simp only [Rows.uptoBulk], fun i f hi t' o n' e1 e2 e3 α k m B hO => ?_⟩
 subst e1 e2 e3
 have h1 := hf i f hi
 have hilt : i < xs.length := by rw [hn]; exact (Array.getElem?_eq_some_iff.1 hi).1
 rw [List.getElem?_eq_getElem hilt] at h1
 have hd' : (xs.map (·.1))[i]? = some (xs[i]).1 := by rw [List.getElem?_map, List.getElem?_eq_getElem hilt]; rfl
 simp only [Rows.uptoBulk] at hw
 obtain ⟨y, h2, h3, h4⟩ := hO n _ _ _ h1 (Nat.le_trans (bulk_part (List.mem_of_getElem? hd')) (by omega))
 exact ⟨y, h2, fun x hx => by rw [hd'] at hx; cases hx; exact h3, h4⟩
theorem open_sliceW {t e : TypeId} {α : Type} {k : Kd α} {m : α → Nat} {B : α → Prop} (ht : P.underlying t = some (.slice e)) (hc : P.cellsOf e = k.n) (h0 : 0 < k.n) (h : OpensW enc P w e k m B)
  {v : Value} {d : DataW H} {ps : List MemPlace} {base : Nat} (hval : Value.okWide P w .any base t v) (hd : DataW.Trod enc P w 0 (fun _ => true) true t v d ps) (hw : Rows.uptoBulk d ≤ 1048576) :
  ∃ (A : Option Addr) (cap : Nat) (xs : List α), v = .slice A xs.length cap ∧ xs.length ≤ cap ∧ Sl k (Gw w) A xs ∧ (xs.map m).sum ≤ 1048576 ∧ ∀ x ∈ xs, B x := by
 obtain ⟨A, len, cap, rfl⟩ := okWide_slice ht hval
 obtain ⟨fuel, hd⟩ := hd
 obtain ⟨xs, ⟨A', cap', h1, hle, h2⟩, h3, h4⟩ := OpensW.slice enc P w ht hc h0 h fuel _ d ps hd hw
 have e1 : [Value.slice A len cap] = [Value.slice A' xs.length cap'] := h1
 cases e1
 have h5 : (xs.map m).sum + 1 ≤ Rows.uptoBulk d := h3
 exact ⟨_, _, xs, rfl, hle, h2, by omega, h4⟩
end
def mV (v : V) : Nat := v.s.size + 1
def mNd (n : Nd) : Nat := n.path.size + n.name.size + n.params.length + 1
def mPr (p : Pr) : Nat := p.name.size + p.params.length + p.code.length + 1
def mOb (o : Ob) : Nat := o.path.size + (o.consts.map mV).sum + (o.needs.map mNd).sum + (o.procs.map mPr).sum + 1
def i64 (z : Int) : Prop := (Lit.int .i64 z).wf = true
structure OInt (o : Ob) : Prop where
 cs : ∀ v ∈ o.consts, i64 v.t ∧ i64 v.i
 nd : ∀ n ∈ o.needs, i64 n.result ∧ ∀ t ∈ n.params, i64 t
 pr : ∀ p ∈ o.procs, i64 p.locals ∧ i64 p.result ∧ (∀ t ∈ p.params, i64 t) ∧ ∀ i ∈ p.code, i64 i.1 ∧ i64 i.2
theorem olim_of {o : Ob} (h : mOb o ≤ 1048576) : OLim o := by
 have h' := h
 unfold mOb at h'
 have a1 := sum_len (m := mV) o.consts fun x _ => by unfold mV; omega
 have a2 := sum_len (m := mNd) o.needs fun x _ => by unfold mNd; omega
 have a3 := sum_len (m := mPr) o.procs fun x _ => by unfold mPr; omega
 refine ⟨by omega, by omega, by omega, by omega, fun q hq => ?_, fun q hq => ?_⟩
 ·have : q.path.size + q.name.size + q.params.length + 1 ≤ (o.needs.map mNd).sum := sum_mem (m := mNd) hq
  omega
 ·have : q.name.size + q.params.length + q.code.length + 1 ≤ (o.procs.map mPr).sum := sum_mem (m := mPr) hq
  omega
theorem llim_of {l : List Ob} (h : (l.map mOb).sum ≤ 1048576) : LLim l := by
 have hm : ∀ o ∈ l, mOb o ≤ 1048576 := fun o ho => Nat.le_trans (sum_mem (m := mOb) ho) h
 have a0 := sum_len (m := mOb) l fun x _ => by unfold mOb; omega
 have b1 : sumC l = (l.map fun o => o.consts.length).sum := rfl
 have a1 : (l.map fun o => o.consts.length).sum ≤ (l.map mOb).sum := sum_le l fun o _ => by
  have a1 := sum_len (m := mV) o.consts fun x _ => by unfold mV; omega
  unfold mOb; omega
 have a2 : (l.map (·.needs.length)).sum ≤ (l.map mOb).sum := sum_le l fun o _ => by
  have a2 := sum_len (m := mNd) o.needs fun x _ => by unfold mNd; omega
  unfold mOb; omega
 have b3 : sumP l = (l.map fun o => o.procs.length).sum := rfl
 have a3 : (l.map fun o => o.procs.length).sum ≤ (l.map mOb).sum := sum_le l fun o _ => by
  have a3 := sum_len (m := mPr) o.procs fun x _ => by unfold mPr; omega
  unfold mOb; omega
 refine ⟨by omega, by omega, by omega, by omega, fun o ho => olim_of (hm o ho), fun o ho p hp => ?_, fun o ho n hn => ?_⟩
 ·have h1 := hm o ho
  have h2 : p.name.size + p.params.length + p.code.length + 1 ≤ (o.procs.map mPr).sum := sum_mem (m := mPr) hp
  unfold mOb at h1
  omega
 ·have h1 := hm o ho
  have h2 : n.path.size + n.name.size + n.params.length + 1 ≤ (o.needs.map mNd).sum := sum_mem (m := mNd) hn
  unfold mOb at h1
  omega
section
attribute [local irreducible] Tryz.prog
variable {H : Type} (enc : TypeId × Value → H) (w : World)
theorem sum_ones {α : Type} (l : List α) : (l.map fun _ => 1).sum = l.length := by
 induction l with
 | nil => rfl
 | cons x r ih => simp only [List.map_cons, List.sum_cons, List.length_cons, ih]; omega
theorem OpensW.value : OpensW enc Tryz.prog w 52 Kd.val mV (fun v => i64 v.t ∧ i64 v.i) := by
 intro fuel cs d ps hd hw
 obtain ⟨hl, ds, hds, hb, hf⟩ := field_openW enc Tryz.prog w Tryz.underlying52 hd hw
 obtain ⟨c0, c1, c2, c3, rfl⟩ := elist4 (hl.trans ecellsV)
 obtain ⟨d0, d1, d2, d3, rfl⟩ := elist4 hds
 obtain ⟨t, h0, _, b0⟩ := hf 0 _ rfl rfl rfl ecells_typ (OpensW.int enc Tryz.prog w Tryz.underlying44)
 obtain ⟨i, h1, _, b1⟩ := hf 1 _ rfl rfl rfl ecells_i64 (OpensW.int enc Tryz.prog w Tryz.underlying2)
 obtain ⟨b, h2, _⟩ := hf 2 _ rfl rfl rfl ecells_bool (OpensW.bool enc Tryz.prog w Tryz.underlying4)
 obtain ⟨s, h3, m3, _⟩ := hf 3 _ rfl rfl rfl ecells_str (OpensW.str enc Tryz.prog w Tryz.underlying9)
 have m3 := m3 _ rfl
 have e0 : [c0] = [Value.int .i64 t] := h0
 have e1 : [c1] = [Value.int .i64 i] := h1
 have e2 : [c2] = [Value.bool b] := h2
 have e3 : [c3] = [Value.string s] := h3
 cases e0; cases e1; cases e2; cases e3
 simp only [Rows.uptoBulkAll] at hb
 exact ⟨⟨t, i, b, s⟩, rfl, by unfold mV; dsimp only; omega, b0, b1⟩
theorem OpensW.instr : OpensW enc Tryz.prog w 50 Kd.ins (fun _ => 1) (fun i => i64 i.1 ∧ i64 i.2) := by
 intro fuel cs d ps hd hw
 obtain ⟨hl, ds, hds, hb, hf⟩ := field_openW enc Tryz.prog w Tryz.underlying50 hd hw
 obtain ⟨c0, c1, rfl⟩ := elist2 (hl.trans ecellsI)
 obtain ⟨c, h0, _, b0⟩ := hf 0 _ rfl rfl rfl ecells_cod (OpensW.int enc Tryz.prog w Tryz.underlying48)
 obtain ⟨n, h1, _, b1⟩ := hf 1 _ rfl rfl rfl ecells_int (OpensW.int enc Tryz.prog w Tryz.underlying3)
 have e0 : [c0] = [Value.int .i64 c] := h0
 have e1 : [c1] = [Value.int .i64 n] := h1
 cases e0; cases e1
 exact ⟨(c, n), rfl, bulk_one d, b0, b1⟩
theorem OpensW.types : OpensW enc Tryz.prog w 43 (Kd.slice (Kd.int .i64)) (fun xs => (xs.map fun _ => 1).sum + 1) (fun xs => ∀ t ∈ xs, i64 t) :=
 OpensW.slice enc Tryz.prog w Tryz.underlying43 (k := Kd.int .i64) ecells_typ (by decide) (OpensW.int enc Tryz.prog w Tryz.underlying44)
theorem OpensW.proc : OpensW enc Tryz.prog w 47 Kd.prc mPr (fun p => i64 p.locals ∧ i64 p.result ∧ (∀ t ∈ p.params, i64 t) ∧ ∀ i ∈ p.code, i64 i.1 ∧ i64 i.2) := by
 intro fuel cs d ps hd hw
 obtain ⟨hl, ds, hds, hb, hf⟩ := field_openW enc Tryz.prog w Tryz.underlying47 hd hw
 obtain ⟨c0, c1, c2, c3, c4, c5, rfl⟩ := elist6 (hl.trans ecellsP)
 obtain ⟨d0, d1, d2, d3, d4, d5, rfl⟩ := elist6 hds
 obtain ⟨nm, h0, m0, _⟩ := hf 0 _ rfl rfl rfl ecells_str (OpensW.str enc Tryz.prog w Tryz.underlying9)
 obtain ⟨ex, h1, _⟩ := hf 1 _ rfl rfl rfl ecells_bool (OpensW.bool enc Tryz.prog w Tryz.underlying4)
 obtain ⟨pr, h2, m2, bp⟩ := hf 2 _ rfl rfl rfl ecells_lt (OpensW.types enc w)
 obtain ⟨lo, h3, _, bl⟩ := hf 3 _ rfl rfl rfl ecells_int (OpensW.int enc Tryz.prog w Tryz.underlying3)
 obtain ⟨re, h4, _, br⟩ := hf 4 _ rfl rfl rfl ecells_typ (OpensW.int enc Tryz.prog w Tryz.underlying44)
 obtain ⟨co, h5, m5, bc⟩ := hf 5 _ rfl rfl rfl ecells_li (OpensW.slice enc Tryz.prog w Tryz.underlying45 (k := Kd.ins) ecellsI (by decide) (OpensW.instr enc w))
 have m0 := m0 _ rfl
 have m2 := m2 _ rfl
 have m5 := m5 _ rfl
 rw [sum_ones] at m2 m5
 obtain ⟨PA, pc, h2', _, hPA⟩ := h2
 obtain ⟨CA, cc, h5', _, hCA⟩ := h5
 have e0 : [c0] = [Value.string nm] := h0
 have e1 : [c1] = [Value.bool ex] := h1
 have e2 : [c2] = [Value.slice PA pr.length pc] := h2'
 have e3 : [c3] = [Value.int .i64 lo] := h3
 have e4 : [c4] = [Value.int .i64 re] := h4
 have e5 : [c5] = [Value.slice CA co.length cc] := h5'
 cases e0; cases e1; cases e2; cases e3; cases e4; cases e5
 simp only [Rows.uptoBulkAll] at hb
 exact ⟨⟨nm, ex, pr, lo, re, co⟩, ⟨PA, pc, CA, cc, rfl, hPA, hCA⟩, by unfold mPr; dsimp only; omega, bl, br, bp, bc⟩
theorem OpensW.need : OpensW enc Tryz.prog w 56 Kd.ned mNd (fun n => i64 n.result ∧ ∀ t ∈ n.params, i64 t) := by
 intro fuel cs d ps hd hw
 obtain ⟨hl, ds, hds, hb, hf⟩ := field_openW enc Tryz.prog w Tryz.underlying56 hd hw
 obtain ⟨c0, c1, c2, c3, rfl⟩ := elist4 (hl.trans ecellsN)
 obtain ⟨d0, d1, d2, d3, rfl⟩ := elist4 hds
 obtain ⟨pt, h0, m0, _⟩ := hf 0 _ rfl rfl rfl ecells_str (OpensW.str enc Tryz.prog w Tryz.underlying9)
 obtain ⟨nm, h1, m1, _⟩ := hf 1 _ rfl rfl rfl ecells_str (OpensW.str enc Tryz.prog w Tryz.underlying9)
 obtain ⟨pr, h2, m2, bp⟩ := hf 2 _ rfl rfl rfl ecells_lt (OpensW.types enc w)
 obtain ⟨re, h3, _, br⟩ := hf 3 _ rfl rfl rfl ecells_typ (OpensW.int enc Tryz.prog w Tryz.underlying44)
 have m0 := m0 _ rfl
 have m1 := m1 _ rfl
 have m2 := m2 _ rfl
 rw [sum_ones] at m2
 obtain ⟨PA, pc, h2', _, hPA⟩ := h2
 have e0 : [c0] = [Value.string pt] := h0
 have e1 : [c1] = [Value.string nm] := h1
 have e2 : [c2] = [Value.slice PA pr.length pc] := h2'
 have e3 : [c3] = [Value.int .i64 re] := h3
 cases e0; cases e1; cases e2; cases e3
 simp only [Rows.uptoBulkAll] at hb
 exact ⟨⟨pt, nm, pr, re⟩, ⟨PA, pc, rfl, hPA⟩, by unfold mNd; dsimp only; omega, br, bp⟩
theorem OpensW.object : OpensW enc Tryz.prog w 38 Kd.ob mOb OInt := by
 intro fuel cs d ps hd hw
 obtain ⟨hl, ds, hds, hb, hf⟩ := field_openW enc Tryz.prog w Tryz.underlying38 hd hw
 obtain ⟨c0, c1, c2, c3, rfl⟩ := elist4 (hl.trans ecellsO)
 obtain ⟨d0, d1, d2, d3, rfl⟩ := elist4 hds
 obtain ⟨pt, h0, m0, _⟩ := hf 0 _ rfl rfl rfl ecells_str (OpensW.str enc Tryz.prog w Tryz.underlying9)
 obtain ⟨co, h1, m1, bc⟩ := hf 1 _ rfl rfl rfl ecells_lv (OpensW.slice enc Tryz.prog w Tryz.underlying23 (k := Kd.val) ecellsV (by decide) (OpensW.value enc w))
 obtain ⟨ne, h2, m2, bn⟩ := hf 2 _ rfl rfl rfl ecells_ln (OpensW.slice enc Tryz.prog w Tryz.underlying31 (k := Kd.ned) ecellsN (by decide) (OpensW.need enc w))
 obtain ⟨pr, h3, m3, bp⟩ := hf 3 _ rfl rfl rfl ecells_lp (OpensW.slice enc Tryz.prog w Tryz.underlying24 (k := Kd.prc) ecellsP (by decide) (OpensW.proc enc w))
 have m0 := m0 _ rfl
 have m1 := m1 _ rfl
 have m2 := m2 _ rfl
 have m3 := m3 _ rfl
 obtain ⟨CA, cc, h1', _, hCA⟩ := h1
 obtain ⟨NA, nc, h2', _, hNA⟩ := h2
 obtain ⟨PA, pc, h3', _, hPA⟩ := h3
 have e0 : [c0] = [Value.string pt] := h0
 have e1 : [c1] = [Value.slice CA co.length cc] := h1'
 have e2 : [c2] = [Value.slice NA ne.length nc] := h2'
 have e3 : [c3] = [Value.slice PA pr.length pc] := h3'
 cases e0; cases e1; cases e2; cases e3
 simp only [Rows.uptoBulkAll] at hb
 exact ⟨⟨pt, co, ne, pr⟩, ⟨CA, cc, NA, nc, PA, pc, rfl, hCA, hNA, hPA⟩, by unfold mOb; dsimp only; omega, bc, bn, bp⟩
theorem open_objsU {v : Value} {d : DataW H} {ps : List MemPlace} {base : Nat} (hval : Value.okWide Tryz.prog w .any base 22 v) (hd : DataW.Trod enc Tryz.prog w 0 (fun _ => true) true 22 v d ps) (hw : Rows.uptoBulk d ≤ 1048576) :
  ∃ (l : List Ob) (A : Option Addr) (c : Nat), v = .slice A l.length c ∧ l.length ≤ c ∧ Sl Kd.ob (Gw w) A l ∧ LLim l ∧ ∀ o ∈ l, OInt o := by
 obtain ⟨A, c, l, h1, h2, h3, h4, h5⟩ := open_sliceW enc Tryz.prog w Tryz.underlying22 (k := Kd.ob) ecellsO (by decide) (OpensW.object enc w) hval hd hw
 exact ⟨l, A, c, h1, h2, h3, llim_of h4, h5⟩
end
end
end Go.Proofs.YtcnlkfocbbkdhaaGreatDoor.Gb
