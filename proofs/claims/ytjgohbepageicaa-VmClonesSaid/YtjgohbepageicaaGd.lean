/- The rules of the small logic, one for each kind of operation. -/
import Derived.Test.YtjgohbepageicaaGc
import Derived.Laws.Strings
import Derived.Laws.Strings2
import Derived.Laws.Concat
import Derived.Laws.StructEq
namespace Go.Proofs.Ytjgohbepageicaa.Gb
open Go

/-! #### what is known of a program's types -/
class Und (P : Program) (t : Nat) (d : outParam TypeDesc) : Prop where
  h : P.underlying t = some d
/-- size in cells, bytes, zero value -/
class Inf (P : Program) (t : Nat) (n : outParam Nat) (by_ : outParam Nat) (z : outParam Value) : Prop where
  h : (P.info? t).map (fun i => (i.zero, i.size, i.bytes)) = some (some z, n, by_)
/-- is it a struct or an array? -/
class Agg (P : Program) (t : Nat) (b : outParam Bool) : Prop where
  h : ∀ w : World, (isAgg t).run P w = .ok b w
/-- a field's place -/
class Fld (P : Program) (t i : Nat) (off : outParam Nat) : Prop where
  h : ∀ (b o : Nat) (w : World), (Instr.fieldAt t (.pointer (some ⟨b, o, none⟩)) i).run P w = .ok (.pointer (some ⟨b, o + off, none⟩)) w

theorem Inf.info {P : Program} {t n by_ : Nat} {z : Value} (h : Inf P t n by_ z) : ∃ i, P.info? t = some i ∧ i.zero = some z ∧ i.size = n ∧ i.bytes = by_ := by
  have := h.h
  cases hi : P.info? t with
  | none => rw [hi] at this; cases this
  | some i =>
    rw [hi] at this
    simp only [Option.map_some, Option.some.injEq, Prod.mk.injEq] at this
    exact ⟨i, rfl, this.1, this.2.1, this.2.2⟩
theorem Inf.sizeOf {P : Program} {t n by_ : Nat} {z : Value} (h : Inf P t n by_ z) (w : World) : (sizeOf t).run P w = .ok n w := by
  obtain ⟨i, h1, _, h2, _⟩ := h.info
  simp [Go.sizeOf, typeInfo, h1, h2]
theorem Inf.zeroValue {P : Program} {t n by_ : Nat} {z : Value} (h : Inf P t n by_ z) (w : World) : (zeroValue t).run P w = .ok z w := by
  obtain ⟨i, h1, h2, _⟩ := h.info
  simp [Go.zeroValue, typeInfo, h1, h2]

/-! #### finding a thing of ours -/
inductive At : List Own → Nat → Own → Prop where
  | here {x : Own} {l : List Own} : At (x :: l) 0 x
  | there {x y : Own} {l : List Own} {j : Nat} (h : At l j x) : At (y :: l) (j + 1) x
theorem At.get {l : List Own} {j : Nat} {x : Own} (h : At l j x) : l[j]? = some x := by
  induction h with
  | here => rfl
  | there _ ih => simpa using ih

section
variable {P : Program} {Q : Exit → Act → World → Prop} {cx : Cx} {L : List (Nat × Value)} {G : Gh} {H : List Own} {K : List (Nat × Value) → Gh → List Own → Prop}
  {d : Option Tmp} {ty : TypeId} {pos : String} {af : Array Edge} {gu : Option (Nat × Bool)}

theorem Gp.move {x : Operand} {v : Value} (hx : ev L x = some v) : Gp P L ⟨d, .move x, ty, pos, af, gu⟩ v :=
  fun a st w => by simp [execOp, st.eval hx]
theorem Gp.assign {x : Operand} {v : Value} (hx : ev L x = some v) : Gp P L ⟨d, .assign x, ty, pos, af, gu⟩ v :=
  fun a st w => by simp [execOp, st.eval hx]
theorem Gp.pickT {c x y : Operand} {v : Value} (hc : ev L c = some (.bool true)) (hx : ev L x = some v) : Gp P L ⟨d, .pick c x y, ty, pos, af, gu⟩ v :=
  fun a st w => by simp [execOp, st.eval hx, st.eval hc, asBool]
theorem Gp.pickF {c x y : Operand} {v : Value} (hc : ev L c = some (.bool false)) (hx : ev L y = some v) : Gp P L ⟨d, .pick c x y, ty, pos, af, gu⟩ v :=
  fun a st w => by simp [execOp, st.eval hx, st.eval hc, asBool]
theorem Gp.nilCheck {x : Operand} {p : Addr} (hx : ev L x = some (.pointer (some p))) : Gp P L ⟨d, .nilCheck x, ty, pos, af, gu⟩ (.pointer (some p)) :=
  fun a st w => by simp [execOp, st.eval hx]
theorem Gp.fieldAddr {t i off : Nat} {x : Operand} {b o : Nat} (hx : ev L x = some (.pointer (some ⟨b, o, none⟩))) [hf : Fld P t i off] : Gp P L ⟨d, .fieldAddr t x i, ty, pos, af, gu⟩ (.pointer (some ⟨b, o + off, none⟩)) :=
  fun a st w => by simp [execOp, st.eval hx, hf.h]

theorem run_loadVar1 {w : World} {t : Nat} {p : Addr} {v : Value} (ha : Agg P t false) (hc : w.cell? p = some v) : (loadVar t p).run P w = .ok v w := by
  simp [loadVar, ha.h, hc]
theorem run_loadVarN {w : World} {t n by_ : Nat} {z : Value} {b o : Nat} {cs : List Value} (ha : Agg P t true) (hi : Inf P t n by_ z) (hl : cs.length = n) (hc : ∀ j v, cs[j]? = some v → w.cell? ⟨b, o + j, none⟩ = some v) :
    (loadVar t ⟨b, o, none⟩).run P w = .ok (.agg cs.toArray) w := by
  have := run_loadCells_list (P := P) w ⟨b, o, none⟩ cs (fun j v hv => by
    have hadd : (⟨b, o, none⟩ : Addr).add j = ⟨b, o + j, none⟩ := by unfold Addr.add; split <;> simp_all
    rw [hadd]; exact hc j v hv)
  rw [hl] at this
  simp [loadVar, ha.h, hi.sizeOf, this]

theorem Own.cell {w : World} {b o : Nat} {c : Array Value} {t : TypeId} {fr : Nat × Nat} (h : Own.holds w (.blk b (.cells c t fr))) : w.cell? ⟨b, o, none⟩ = c[o]? := by
  have : w.heap[b]? = some (.cells c t fr) := h
  simp [World.cell?, this]

/-- a load out of a block of ours -/
theorem Gv.load1 {t : Nat} {x : Operand} {b o j : Nat} {c : Array Value} {t' : TypeId} {fr : Nat × Nat} {v : Value} (hx : ev L x = some (.pointer (some ⟨b, o, none⟩))) [ha : Agg P t false]
    (hj : At H j (.blk b (.cells c t' fr))) (hc : c[o]? = some v) : Gv P L G H ⟨d, .load t x, ty, pos, af, gu⟩ v :=
  fun a w sk st0 => by
    have := run_loadVar1 (P := P) (w := w) (v := v) (p := ⟨b, o, none⟩) ha (by rw [Own.cell (st0.hold _ (List.mem_of_getElem? hj.get))]; exact hc)
    simp [execOp, sk.eval hx, Instr.loadAt, Instr.sureAddr, this]
theorem Gv.loadN {t n by_ : Nat} {z : Value} {x : Operand} {b o j : Nat} {c : Array Value} {t' : TypeId} {fr : Nat × Nat} {cs : List Value} (hx : ev L x = some (.pointer (some ⟨b, o, none⟩))) [ha : Agg P t true] [hi : Inf P t n by_ z]
    (hj : At H j (.blk b (.cells c t' fr))) (hc : (c.toList.drop o).take n = cs) (hl : cs.length = n) : Gv P L G H ⟨d, .load t x, ty, pos, af, gu⟩ (.agg cs.toArray) :=
  fun a w sk st0 => by
    have := run_loadVarN (P := P) (w := w) (b := b) (o := o) ha hi hl (fun j v hv => by
      rw [Own.cell (st0.hold _ (List.mem_of_getElem? hj.get))]
      rw [← hc] at hv
      rw [List.getElem?_take] at hv
      split at hv
      · rw [List.getElem?_drop] at hv; simpa using hv
      · cases hv)
    simp [execOp, sk.eval hx, Instr.loadAt, Instr.sureAddr, this]

/-- cells that stay -/
def Cs (G : Gh) (b o : Nat) (cs : List Value) : Prop := ∀ j v, cs[j]? = some v → G b (o + j) = some v
theorem Cs.mono {G G' : Gh} {b o : Nat} {cs : List Value} (h : Cs G b o cs) (hg : G.le G') : Cs G' b o cs := fun j v e => hg _ _ _ (h j v e)

theorem Gv.loadG1 {t : Nat} {x : Operand} {b o i : Nat} {cs : List Value} {v : Value} (hx : ev L x = some (.pointer (some ⟨b, o + i, none⟩))) [ha : Agg P t false]
    (hg : Cs G b o cs) (hc : cs[i]? = some v) : Gv P L G H ⟨d, .load t x, ty, pos, af, gu⟩ v :=
  fun a w sk st0 => by
    have := run_loadVar1 (P := P) (w := w) (v := v) (p := ⟨b, o + i, none⟩) ha (st0.agr _ _ _ (hg i v hc))
    simp [execOp, sk.eval hx, Instr.loadAt, Instr.sureAddr, this]
theorem Gv.loadG0 {t : Nat} {x : Operand} {b o : Nat} {cs : List Value} {v : Value} (hx : ev L x = some (.pointer (some ⟨b, o, none⟩))) [ha : Agg P t false]
    (hg : Cs G b o cs) (hc : cs[0]? = some v) : Gv P L G H ⟨d, .load t x, ty, pos, af, gu⟩ v :=
  Gv.loadG1 (i := 0) hx hg hc
theorem Gv.loadGN {t n by_ : Nat} {z : Value} {x : Operand} {b o : Nat} {cs : List Value} (hx : ev L x = some (.pointer (some ⟨b, o, none⟩))) [ha : Agg P t true] [hi : Inf P t n by_ z]
    (hg : Cs G b o cs) (hl : cs.length = n) : Gv P L G H ⟨d, .load t x, ty, pos, af, gu⟩ (.agg cs.toArray) :=
  fun a w sk st0 => by
    have := run_loadVarN (P := P) (w := w) (b := b) (o := o) ha hi hl (fun j v hv => st0.agr _ _ _ (hg j v hv))
    simp [execOp, sk.eval hx, Instr.loadAt, Instr.sureAddr, this]

/-- new memory -/
theorem OW.alloc {t n by_ : Nat} {z : Value} [hi : Inf P t n by_ z] (hd : dOk d cx.N = true) (k : ∀ b, K (putL d (.pointer (some ⟨b, 0, none⟩)) L) G (.blk b (.cells z.cells t (0, 0)) :: H)) : OW P Q ⟨d, .alloc t, ty, pos, af, gu⟩ cx L G H K :=
  OW.gives hd fun a w st => ⟨.pointer (some ⟨w.heap.size, 0, none⟩), w.alloc (.cells z.cells t), G, .blk w.heap.size (.cells z.cells t (0, 0)) :: H,
    .inl (by simp [execOp, Instr.alloc, hi.zeroValue, newVar, newRow]), st.sat.alloc _, Stp.alloc _, k _⟩
theorem OW.box {t : Nat} {x : Operand} {v : Value} (hx : ev L x = some v) (hd : dOk d cx.N = true) (k : ∀ b, K (putL d (.pointer (some ⟨b, 0, none⟩)) L) G (.blk b (.cells v.cells t (0, 0)) :: H)) : OW P Q ⟨d, .box t x, ty, pos, af, gu⟩ cx L G H K :=
  OW.gives hd fun a w st => ⟨.pointer (some ⟨w.heap.size, 0, none⟩), w.alloc (.cells v.cells t), G, .blk w.heap.size (.cells v.cells t (0, 0)) :: H,
    .inl (by simp [execOp, Instr.box, st.eval hx, newVar, newRow]), st.sat.alloc _, Stp.alloc _, k _⟩

def splice (c : Array Value) (o : Nat) (cs : List Value) : Array Value := (c.toList.take o ++ cs ++ c.toList.drop (o + cs.length)).toArray
theorem size_splice {c : Array Value} {o : Nat} {cs : List Value} (h : o + cs.length ≤ c.size) : (splice c o cs).size = c.size := by simp [splice]; omega

theorem Sat.splice {w : World} (h : Sat G H w) {j b o : Nat} {c : Array Value} {t : TypeId} {cs : List Value} (hj : At H j (.blk b (.cells c t (0, 0)))) (hf : o + cs.length ≤ c.size) :
    Sat G (H.set j (.blk b (.cells (splice c o cs) t (0, 0)))) (w.setRow b (splice c o cs)) ∧ Stp (covs H) G w G (H.set j (.blk b (.cells (splice c o cs) t (0, 0)))) (w.setRow b (splice c o cs)) := by
  have hb : w.heap[b]? = some (.cells c t (0, 0)) := h.hold _ (List.mem_of_getElem? hj.get)
  have e1 := setRow_heap w b c (Gb.splice c o cs) t (0, 0) hb
  have e2 : ∀ i, i ≠ b → (w.setRow b (Gb.splice c o cs)).heap[i]? = w.heap[i]? := fun i hi => setRow_other w b i _ hi
  exact ⟨h.upd hj.get e1 e2, Stp.upd hj.get hb e1 e2 (by simp) ⟨rfl, rfl, fun a => by
    simp only [World.frozen?]
    by_cases ha : a.block = b
    · rw [ha, e1, hb]
    · rw [e2 _ ha]⟩ (fun c' T fr e => by cases e; exact ⟨_, rfl, size_splice hf⟩)⟩

/-- a store into a block of ours -/
theorem OW.store {t n by_ : Nat} {z : Value} {x y : Operand} {b o j : Nat} {c : Array Value} {t' : TypeId} {v : Value} {cs : List Value} {c' : Array Value} (hx : ev L x = some (.pointer (some ⟨b, o, none⟩))) (hy : ev L y = some v) [hi : Inf P t n by_ z]
    (hj : At H j (.blk b (.cells c t' (0, 0)))) (hv : v.cells.toList = cs) (hl : cs.length = n) (h1 : cs.all (·.oneCell') = true) (hf : Nat.ble (o + n) c.size = true) (hc : Gb.splice c o cs = c')
    (k : K (putL d undef L) G (H.set j (.blk b (.cells c' t' (0, 0))))) (hd : dOk d cx.N = true) : OW P Q ⟨d, .store t x y, ty, pos, af, gu⟩ cx L G H K := by
  subst hc
  refine OW.gives hd fun a w st => ?_
  have hb : w.heap[b]? = some (.cells c t' (0, 0)) := st.sat.hold _ (List.mem_of_getElem? hj.get)
  have hfit : o + cs.length ≤ c.size := by rw [hl]; exact Nat.le_of_ble_eq_true hf
  have hst := run_storeCells_at P b o t' cs 0 c w hb (by simpa using hfit) (fun u hu => List.all_eq_true.1 h1 u hu)
  have hvs : v.cells.size = n := by rw [← Array.length_toList, hv, hl]
  simp only [Nat.add_zero] at hst
  have hs := st.sat.splice (o := o) (cs := cs) hj hfit
  refine ⟨undef, _, G, _, .inr ⟨rfl, ?_⟩, hs.1, hs.2, k⟩
  have hsv : (storeVar t ⟨b, o, none⟩ v).run P w = .ok () (w.setRow b (Gb.splice c o cs)) := by
    simp only [storeVar, Sem.run_bind, hi.sizeOf, Result.andThen_ok, hvs, ne_eq, not_true_eq_false, if_false]
    rw [hv]
    simpa [Gb.splice] using hst
  simp [execOp, st.eval hx, st.eval hy, Instr.storeAt, Instr.sureAddr, hsv]
end
end Go.Proofs.Ytjgohbepageicaa.Gb
