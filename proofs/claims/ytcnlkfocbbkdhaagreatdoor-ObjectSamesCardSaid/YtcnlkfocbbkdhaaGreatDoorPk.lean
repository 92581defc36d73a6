/- Objects compared, by the program and by the document: walked. Objects and programs compared, by the program and by the document; ObjectSames: walked. Objects and programs compared, by the program and by the document: walked. ObjectSames, walked. Arguments of the statements about instructions: opened. A linked program as an argument: opened. An object as an argument: opened. -/
import Derived.Test.YtcnlkfocbbkdhaaGreatDoorPj
set_option linter.unusedVariables false
set_option linter.unusedSimpArgs false
set_option linter.unusedSectionVars false
namespace Go.Proofs.YtcnlkfocbbkdhaaGreatDoor.Gb
open Go Go.Proofs
section
open Go.MapKept
attribute [local irreducible] Tryz.prog
theorem eq_step {α : Type} {f : α → α → Bool} {a b : List α} {i : Nat} {x y : α} (h : ∀ (j : Nat) x y, j < i → a[j]? = some x → b[j]? = some y → f x y = true) (hx : a[i]? = some x) (hy : b[i]? = some y) (hf : f x y = true) : ∀ (j : Nat) x y, j < i + 1 → a[j]? = some x → b[j]? = some y → f x y = true := fun j x' y' hj hx' hy' => by
 rcases Nat.lt_or_ge j i with h1 | h1
 ·exact h j x' y' h1 hx' hy'
 ·obtain rfl : j = i := by omega
  rw [hx] at hx'; rw [hy] at hy'; cases hx'; cases hy'; exact hf
def dV (x y : V) : Bool := decide (x = y)
def dI (x y : Int × Int) : Bool := decide (x = y)
def dT (x y : Int) : Bool := x == y
def dPt (x y : Pt) : Bool := decide ((x.path, x.name, x.proc) = (y.path, y.name, y.proc))
theorem eqV_fn (G : Gh) (A B : Option Addr) (l m : List V) (ca cb : Nat) (ha : Sl Kd.val G A l) (hb : Sl Kd.val G B m) (hl : l.length ≤ 100000000000000) :
  Fn Tryz.prog 52 #[.slice A l.length ca, .slice B m.length cb] G [] fun e G' H' => e = .returned (.bool (eqL dV l m)) ∧ G = G' ∧ H' = [] := by
 refine Fn.enter Tryz.func52 rfl rfl fun w0 => ?_
 by_cases hne : l.length = m.length
 rotate_left
 ·have e1 : ((l.length : Int) != (m.length : Int)) = true := by rw [bne_iff_ne]; omega
  rw [eqL_len hne]
  refine gom ?_
  refine WC.rt ?_
  exact QF.p1 (.inl rfl) rfl (.tmp rfl) (⟨rfl, rfl, rfl⟩)
 have e1 : ((l.length : Int) != (m.length : Int)) = false := by rw [hne]; simp
 refine gom ?_
 refine WC.loop (X := Nat) (fun i => [(13, .int .i64 i), (12, .int .i64 l.length), (0, .slice A l.length ca), (1, .slice B m.length cb)]) (fun _ => G) (fun _ => []) (fun i => l.length - i) (fun i => i ≤ l.length ∧ ∀ (j : Nat) x y, j < i → l[j]? = some x → m[j]? = some y → dV x y = true) 0 ⟨Nat.zero_le _, fun j x y h => absurd h (Nat.not_lt_zero _)⟩ (by exact ⟨rfl, rfl, rfl, rfl, trivial⟩) rfl (List.Sublist.refl _) fun i hx => ?_
 obtain ⟨hi, hall⟩ := hx
 by_cases hlt : i < l.length
 rotate_left
 ·have e2 : decide ((i : Int) < (l.length : Int)) = false := decide_eq_false (by omega)
  rw [eqL_true hne fun j x y hj => hall j x y (by omega)]
  refine gom ?_
  refine WC.rt ?_
  exact QF.p1 (.inl rfl) rfl (.tmp rfl) (⟨rfl, rfl, rfl⟩)
 have e2 : decide ((i : Int) < (l.length : Int)) = true := decide_eq_true (by omega)
 obtain ⟨x, hx⟩ : ∃ x, l[i]? = some x := ⟨_, List.getElem?_eq_getElem hlt⟩
 obtain ⟨y, hy⟩ : ∃ y, m[i]? = some y := ⟨_, List.getElem?_eq_getElem (by omega)⟩
 obtain ⟨ab, ao, cs1, rfl, hk1, hca⟩ := ha i x hx
 obtain ⟨bb, bo, cs2, rfl, hk2, hcb⟩ := hb i y hy
 obtain rfl : cs1 = [.int .i64 x.t, .int .i64 x.i, .bool x.b, .string x.s] := hk1
 obtain rfl : cs2 = [.int .i64 y.t, .int .i64 y.i, .bool y.b, .string y.s] := hk2
 have x0 : (0 : Int) ≤ i := by omega
 have x2 : (i : Int) < (l.length : Int) := by omega
 have x3 : (i : Int) < (m.length : Int) := by omega
 have x4 := wrapS i (by omega)
 cases hf : dV x y with
 | true =>
  have e3 : (!decide (x = y)) = false := by rw [show decide (x = y) = true from hf]; rfl
  refine gom ?_
  refine WQ.tp (Gp.neVal rfl rfl) kr kr rfl ?_
  rw [e3]
  refine gom ?_
  exact WK.again (i + 1) (by omega) ⟨by omega, eq_step hall hx hy hf⟩ (by exact ⟨rfl, rfl, rfl, rfl, trivial⟩) rfl (List.Sublist.refl _)
 | false =>
  have e3 : (!decide (x = y)) = true := by rw [show decide (x = y) = false from hf]; rfl
  rw [eqL_false hx hy hf]
  refine gom ?_
  refine WQ.tp (Gp.neVal rfl rfl) kr kr rfl ?_
  rw [e3]
  refine gom ?_
  refine WC.rt ?_
  exact QF.p1 (.inl rfl) rfl (.tmp rfl) (⟨rfl, rfl, rfl⟩)
theorem eqI_fn (G : Gh) (A B : Option Addr) (l m : List (Int × Int)) (ca cb : Nat) (ha : Sl Kd.ins G A l) (hb : Sl Kd.ins G B m) (hl : l.length ≤ 100000000000000) :
  Fn Tryz.prog 103 #[.slice A l.length ca, .slice B m.length cb] G [] fun e G' H' => e = .returned (.bool (eqL dI l m)) ∧ G = G' ∧ H' = [] := by
 refine Fn.enter Tryz.func103 rfl rfl fun w0 => ?_
 by_cases hne : l.length = m.length
 rotate_left
 ·have e1 : ((l.length : Int) != (m.length : Int)) = true := by rw [bne_iff_ne]; omega
  rw [eqL_len hne]
  refine gom ?_
  refine WC.rt ?_
  exact QF.p1 (.inl rfl) rfl (.tmp rfl) (⟨rfl, rfl, rfl⟩)
 have e1 : ((l.length : Int) != (m.length : Int)) = false := by rw [hne]; simp
 refine gom ?_
 refine WC.loop (X := Nat) (fun i => [(13, .int .i64 i), (12, .int .i64 l.length), (0, .slice A l.length ca), (1, .slice B m.length cb)]) (fun _ => G) (fun _ => []) (fun i => l.length - i) (fun i => i ≤ l.length ∧ ∀ (j : Nat) x y, j < i → l[j]? = some x → m[j]? = some y → dI x y = true) 0 ⟨Nat.zero_le _, fun j x y h => absurd h (Nat.not_lt_zero _)⟩ (by exact ⟨rfl, rfl, rfl, rfl, trivial⟩) rfl (List.Sublist.refl _) fun i hx => ?_
 obtain ⟨hi, hall⟩ := hx
 by_cases hlt : i < l.length
 rotate_left
 ·have e2 : decide ((i : Int) < (l.length : Int)) = false := decide_eq_false (by omega)
  rw [eqL_true hne fun j x y hj => hall j x y (by omega)]
  refine gom ?_
  refine WC.rt ?_
  exact QF.p1 (.inl rfl) rfl (.tmp rfl) (⟨rfl, rfl, rfl⟩)
 have e2 : decide ((i : Int) < (l.length : Int)) = true := decide_eq_true (by omega)
 obtain ⟨x, hx⟩ : ∃ x, l[i]? = some x := ⟨_, List.getElem?_eq_getElem hlt⟩
 obtain ⟨y, hy⟩ : ∃ y, m[i]? = some y := ⟨_, List.getElem?_eq_getElem (by omega)⟩
 obtain ⟨ab, ao, cs1, rfl, hk1, hca⟩ := ha i x hx
 obtain ⟨bb, bo, cs2, rfl, hk2, hcb⟩ := hb i y hy
 obtain rfl : cs1 = [.int .i64 x.1, .int .i64 x.2] := hk1
 obtain rfl : cs2 = [.int .i64 y.1, .int .i64 y.2] := hk2
 have x0 : (0 : Int) ≤ i := by omega
 have x2 : (i : Int) < (l.length : Int) := by omega
 have x3 : (i : Int) < (m.length : Int) := by omega
 have x4 := wrapS i (by omega)
 cases hf : dI x y with
 | true =>
  have e3 : (!decide ((x.1, x.2) = (y.1, y.2))) = false := by rw [show decide ((x.1, x.2) = (y.1, y.2)) = true from hf]; rfl
  refine gom ?_
  refine WQ.tp (Gp.neIns rfl rfl) kr kr rfl ?_
  rw [e3]
  refine gom ?_
  exact WK.again (i + 1) (by omega) ⟨by omega, eq_step hall hx hy hf⟩ (by exact ⟨rfl, rfl, rfl, rfl, trivial⟩) rfl (List.Sublist.refl _)
 | false =>
  have e3 : (!decide ((x.1, x.2) = (y.1, y.2))) = true := by rw [show decide ((x.1, x.2) = (y.1, y.2)) = false from hf]; rfl
  rw [eqL_false hx hy hf]
  refine gom ?_
  refine WQ.tp (Gp.neIns rfl rfl) kr kr rfl ?_
  rw [e3]
  refine gom ?_
  refine WC.rt ?_
  exact QF.p1 (.inl rfl) rfl (.tmp rfl) (⟨rfl, rfl, rfl⟩)
theorem eqPt_fn (G : Gh) (A B : Option Addr) (l m : List Pt) (ca cb : Nat) (ha : Sl Kd.pnt G A l) (hb : Sl Kd.pnt G B m) (hl : l.length ≤ 100000000000000) :
  Fn Tryz.prog 57 #[.slice A l.length ca, .slice B m.length cb] G [] fun e G' H' => e = .returned (.bool (eqL dPt l m)) ∧ G = G' ∧ H' = [] := by
 refine Fn.enter Tryz.func57 rfl rfl fun w0 => ?_
 by_cases hne : l.length = m.length
 rotate_left
 ·have e1 : ((l.length : Int) != (m.length : Int)) = true := by rw [bne_iff_ne]; omega
  rw [eqL_len hne]
  refine gom ?_
  refine WC.rt ?_
  exact QF.p1 (.inl rfl) rfl (.tmp rfl) (⟨rfl, rfl, rfl⟩)
 have e1 : ((l.length : Int) != (m.length : Int)) = false := by rw [hne]; simp
 refine gom ?_
 refine WC.loop (X := Nat) (fun i => [(13, .int .i64 i), (12, .int .i64 l.length), (0, .slice A l.length ca), (1, .slice B m.length cb)]) (fun _ => G) (fun _ => []) (fun i => l.length - i) (fun i => i ≤ l.length ∧ ∀ (j : Nat) x y, j < i → l[j]? = some x → m[j]? = some y → dPt x y = true) 0 ⟨Nat.zero_le _, fun j x y h => absurd h (Nat.not_lt_zero _)⟩ (by exact ⟨rfl, rfl, rfl, rfl, trivial⟩) rfl (List.Sublist.refl _) fun i hx => ?_
 obtain ⟨hi, hall⟩ := hx
 by_cases hlt : i < l.length
 rotate_left
 ·have e2 : decide ((i : Int) < (l.length : Int)) = false := decide_eq_false (by omega)
  rw [eqL_true hne fun j x y hj => hall j x y (by omega)]
  refine gom ?_
  refine WC.rt ?_
  exact QF.p1 (.inl rfl) rfl (.tmp rfl) (⟨rfl, rfl, rfl⟩)
 have e2 : decide ((i : Int) < (l.length : Int)) = true := decide_eq_true (by omega)
 obtain ⟨x, hx⟩ : ∃ x, l[i]? = some x := ⟨_, List.getElem?_eq_getElem hlt⟩
 obtain ⟨y, hy⟩ : ∃ y, m[i]? = some y := ⟨_, List.getElem?_eq_getElem (by omega)⟩
 obtain ⟨ab, ao, cs1, rfl, hk1, hca⟩ := ha i x hx
 obtain ⟨bb, bo, cs2, rfl, hk2, hcb⟩ := hb i y hy
 obtain rfl : cs1 = [.string x.path, .string x.name, .int .i64 x.proc] := hk1
 obtain rfl : cs2 = [.string y.path, .string y.name, .int .i64 y.proc] := hk2
 have x0 : (0 : Int) ≤ i := by omega
 have x2 : (i : Int) < (l.length : Int) := by omega
 have x3 : (i : Int) < (m.length : Int) := by omega
 have x4 := wrapS i (by omega)
 cases hf : dPt x y with
 | true =>
  have e3 : (!decide ((x.path, x.name, x.proc) = (y.path, y.name, y.proc))) = false := by rw [show decide ((x.path, x.name, x.proc) = (y.path, y.name, y.proc)) = true from hf]; rfl
  refine gom ?_
  refine WQ.tp (Gp.nePnt rfl rfl) kr kr rfl ?_
  rw [e3]
  refine gom ?_
  exact WK.again (i + 1) (by omega) ⟨by omega, eq_step hall hx hy hf⟩ (by exact ⟨rfl, rfl, rfl, rfl, trivial⟩) rfl (List.Sublist.refl _)
 | false =>
  have e3 : (!decide ((x.path, x.name, x.proc) = (y.path, y.name, y.proc))) = true := by rw [show decide ((x.path, x.name, x.proc) = (y.path, y.name, y.proc)) = false from hf]; rfl
  rw [eqL_false hx hy hf]
  refine gom ?_
  refine WQ.tp (Gp.nePnt rfl rfl) kr kr rfl ?_
  rw [e3]
  refine gom ?_
  refine WC.rt ?_
  exact QF.p1 (.inl rfl) rfl (.tmp rfl) (⟨rfl, rfl, rfl⟩)
theorem rsameT_fn (G : Gh) (A B : Option Addr) (l m : List Int) (ca cb : Nat) (ha : Sl (Kd.int .i64) G A l) (hb : Sl (Kd.int .i64) G B m) (hl : l.length ≤ 100000000000000) :
  Fn Tryz.prog 102 #[.slice A l.length ca, .slice B m.length cb] G [] fun e G' H' => e = .returned (.bool (eqL dT l m)) ∧ G = G' ∧ H' = [] := by
 refine Fn.enter Tryz.func102 rfl rfl fun w0 => ?_
 by_cases hne : l.length = m.length
 rotate_left
 ·have e1 : ((l.length : Int) != (m.length : Int)) = true := by rw [bne_iff_ne]; omega
  rw [eqL_len hne]
  refine gom ?_
  refine WC.rt ?_
  exact QF.p1 (.inl rfl) rfl (.tmp rfl) (⟨rfl, rfl, rfl⟩)
 have e1 : ((l.length : Int) != (m.length : Int)) = false := by rw [hne]; simp
 refine gom ?_
 refine WC.loop (X := Nat) (fun i => [(5, .int .i64 i), (0, .slice A l.length ca), (1, .slice B m.length cb)]) (fun _ => G) (fun _ => []) (fun i => l.length - i) (fun i => i ≤ l.length ∧ ∀ (j : Nat) x y, j < i → l[j]? = some x → m[j]? = some y → dT x y = true) 0 ⟨Nat.zero_le _, fun j x y h => absurd h (Nat.not_lt_zero _)⟩ (by exact ⟨rfl, rfl, rfl, trivial⟩) rfl (List.Sublist.refl _) fun i hx => ?_
 obtain ⟨hi, hall⟩ := hx
 by_cases hlt : i < l.length
 rotate_left
 ·have e2 : decide ((i : Int) < (l.length : Int)) = false := decide_eq_false (by omega)
  rw [eqL_true hne fun j x y hj => hall j x y (by omega)]
  refine gom ?_
  refine WC.rt ?_
  exact QF.p1 (.inl rfl) rfl (.tmp rfl) (⟨rfl, rfl, rfl⟩)
 have e2 : decide ((i : Int) < (l.length : Int)) = true := decide_eq_true (by omega)
 obtain ⟨x, hx⟩ : ∃ x, l[i]? = some x := ⟨_, List.getElem?_eq_getElem hlt⟩
 obtain ⟨y, hy⟩ : ∃ y, m[i]? = some y := ⟨_, List.getElem?_eq_getElem (by omega)⟩
 obtain ⟨ab, ao, cs1, rfl, hk1, hca⟩ := ha i x hx
 obtain ⟨bb, bo, cs2, rfl, hk2, hcb⟩ := hb i y hy
 obtain rfl : cs1 = [.int .i64 x] := hk1
 obtain rfl : cs2 = [.int .i64 y] := hk2
 have x0 : (0 : Int) ≤ i := by omega
 have x2 : (i : Int) < (l.length : Int) := by omega
 have x3 : (i : Int) < (m.length : Int) := by omega
 have x4 := wrapS i (by omega)
 cases hf : dT x y with
 | true =>
  have e3 : (x != y) = false := by rw [bne, show (x == y) = true from hf]; rfl
  refine gom ?_
  exact WK.again (i + 1) (by omega) ⟨by omega, eq_step hall hx hy hf⟩ (by exact ⟨rfl, rfl, rfl, trivial⟩) rfl (List.Sublist.refl _)
 | false =>
  have e3 : (x != y) = true := by rw [bne, show (x == y) = false from hf]; rfl
  rw [eqL_false hx hy hf]
  refine gom ?_
  refine WC.rt ?_
  exact QF.p1 (.inl rfl) rfl (.tmp rfl) (⟨rfl, rfl, rfl⟩)
theorem rsameV_fn (G : Gh) (A B : Option Addr) (l m : List V) (ca cb : Nat) (ha : Sl Kd.val G A l) (hb : Sl Kd.val G B m) (hl : l.length ≤ 100000000000000) :
  Fn Tryz.prog 49 #[.slice A l.length ca, .slice B m.length cb] G [] fun e G' H' => e = .returned (.bool (eqL dV l m)) ∧ G = G' ∧ H' = [] := by
 refine Fn.enter Tryz.func49 rfl rfl fun w0 => ?_
 by_cases hne : l.length = m.length
 rotate_left
 ·have e1 : ((l.length : Int) != (m.length : Int)) = true := by rw [bne_iff_ne]; omega
  rw [eqL_len hne]
  refine gom ?_
  refine WC.rt ?_
  exact QF.p1 (.inl rfl) rfl (.tmp rfl) (⟨rfl, rfl, rfl⟩)
 have e1 : ((l.length : Int) != (m.length : Int)) = false := by rw [hne]; simp
 refine gom ?_
 refine WC.loop (X := Nat) (fun i => [(5, .int .i64 i), (0, .slice A l.length ca), (1, .slice B m.length cb)]) (fun _ => G) (fun _ => []) (fun i => l.length - i) (fun i => i ≤ l.length ∧ ∀ (j : Nat) x y, j < i → l[j]? = some x → m[j]? = some y → dV x y = true) 0 ⟨Nat.zero_le _, fun j x y h => absurd h (Nat.not_lt_zero _)⟩ (by exact ⟨rfl, rfl, rfl, trivial⟩) rfl (List.Sublist.refl _) fun i hx => ?_
 obtain ⟨hi, hall⟩ := hx
 by_cases hlt : i < l.length
 rotate_left
 ·have e2 : decide ((i : Int) < (l.length : Int)) = false := decide_eq_false (by omega)
  rw [eqL_true hne fun j x y hj => hall j x y (by omega)]
  refine gom ?_
  refine WC.rt ?_
  exact QF.p1 (.inl rfl) rfl (.tmp rfl) (⟨rfl, rfl, rfl⟩)
 have e2 : decide ((i : Int) < (l.length : Int)) = true := decide_eq_true (by omega)
 obtain ⟨x, hx⟩ : ∃ x, l[i]? = some x := ⟨_, List.getElem?_eq_getElem hlt⟩
 obtain ⟨y, hy⟩ : ∃ y, m[i]? = some y := ⟨_, List.getElem?_eq_getElem (by omega)⟩
 obtain ⟨ab, ao, cs1, rfl, hk1, hca⟩ := ha i x hx
 obtain ⟨bb, bo, cs2, rfl, hk2, hcb⟩ := hb i y hy
 obtain rfl : cs1 = [.int .i64 x.t, .int .i64 x.i, .bool x.b, .string x.s] := hk1
 obtain rfl : cs2 = [.int .i64 y.t, .int .i64 y.i, .bool y.b, .string y.s] := hk2
 have x0 : (0 : Int) ≤ i := by omega
 have x2 : (i : Int) < (l.length : Int) := by omega
 have x3 : (i : Int) < (m.length : Int) := by omega
 have x4 := wrapS i (by omega)
 cases hf : dV x y with
 | true =>
  have e3 : (!decide (x = y)) = false := by rw [show decide (x = y) = true from hf]; rfl
  refine gom ?_
  refine WQ.tp (Gp.neVal rfl rfl) kr kr rfl ?_
  rw [e3]
  refine gom ?_
  exact WK.again (i + 1) (by omega) ⟨by omega, eq_step hall hx hy hf⟩ (by exact ⟨rfl, rfl, rfl, trivial⟩) rfl (List.Sublist.refl _)
 | false =>
  have e3 : (!decide (x = y)) = true := by rw [show decide (x = y) = false from hf]; rfl
  rw [eqL_false hx hy hf]
  refine gom ?_
  refine WQ.tp (Gp.neVal rfl rfl) kr kr rfl ?_
  rw [e3]
  refine gom ?_
  refine WC.rt ?_
  exact QF.p1 (.inl rfl) rfl (.tmp rfl) (⟨rfl, rfl, rfl⟩)
theorem eqT_eq (l m : List Int) : eqL dT l m = (l == m) := by rw [eqL_dec (fun x y => by unfold dT; rw [Bool.eq_iff_iff]; simp)]; rw [Bool.eq_iff_iff]; simp
theorem eqI_eq (l m : List (Int × Int)) : eqL dI l m = decide (l = m) := eqL_dec (fun x y => rfl) l m
theorem eqV_eq (l m : List V) : eqL dV l m = decide (l = m) := eqL_dec (fun x y => rfl) l m
theorem sameProc_fn (G : Gh) (a b : Pr) (PA CA QA DA : Option Addr) (pc cc qc dc : Nat) (hP : Sl (Kd.int .i64) G PA a.params) (hC : Sl Kd.ins G CA a.code) (hQ : Sl (Kd.int .i64) G QA b.params) (hD : Sl Kd.ins G DA b.code) (hl : a.params.length ≤ 100000000000000) (hl' : a.code.length ≤ 100000000000000) :
  Fn Tryz.prog 55 #[.agg (prC a PA pc CA cc), .agg (prC b QA qc DA dc)] G [] fun e G' H' => e = .returned (.bool (sameP a b)) ∧ G = G' ∧ H' = [] := by
 refine Fn.enter Tryz.func55 rfl rfl fun w0 => ?_
 refine WC.seq ?_
 refine WC.region ?_
 refine WL.oo (OW.box rfl rfl fun b2 => ?_)
 refine WL.oo (OW.box rfl rfl fun b3 => ?_)
 refine gom ?_
 cases h1 : (a.name == b.name) with
 | false =>
  rw [show sameP a b = false by unfold sameP; rw [h1]; rfl]
  refine gom ?_
  refine WC.rt ?_
  exact QF.p1 (.inl rfl) rfl (.tmp rfl) (⟨rfl, rfl, rfl⟩)
 | true =>
 refine gom ?_
 cases h2 : (a.exp == b.exp) with
 | false =>
  rw [show sameP a b = false by unfold sameP; rw [h1, h2]; rfl]
  refine gom ?_
  refine WC.rt ?_
  exact QF.p1 (.inl rfl) rfl (.tmp rfl) (⟨rfl, rfl, rfl⟩)
 | true =>
 cases h3 : (a.locals == b.locals) with
 | false =>
  rw [show sameP a b = false by unfold sameP; rw [h1, h2, h3]; rfl]
  refine gom ?_
  refine WC.rt ?_
  exact QF.p1 (.inl rfl) rfl (.tmp rfl) (⟨rfl, rfl, rfl⟩)
 | true =>
 cases h4 : (a.result == b.result) with
 | false =>
  rw [show sameP a b = false by unfold sameP; rw [h1, h2, h3, h4]; rfl]
  refine gom ?_
  refine WC.rt ?_
  exact QF.p1 (.inl rfl) rfl (.tmp rfl) (⟨rfl, rfl, rfl⟩)
 | true =>
 refine gom ?_
 refine WL.oo (OW.callK rfl (equal_types G [] PA QA pc qc a.params b.params hP hQ hl) rfl fun v' G' H' h hg => ?_)
 obtain ⟨he, rfl, rfl⟩ := h
 cases he
 cases h5 : (a.params == b.params) with
 | false =>
  rw [show sameP a b = false by unfold sameP; rw [h1, h2, h3, h4, h5]; rfl]
  refine gom ?_
  refine WC.rt ?_
  exact QF.p1 (.inl rfl) rfl (.tmp rfl) (⟨rfl, rfl, rfl⟩)
 | true =>
 rw [show sameP a b = decide (a.code = b.code) by unfold sameP; rw [h1, h2, h3, h4, h5]; rfl]
 refine gom ?_
 refine WL.oo (OW.callK rfl (eqI_fn G CA DA a.code b.code cc dc hC hD hl') rfl fun v' G' H' h hg => ?_)
 obtain ⟨he, rfl, rfl⟩ := h
 cases he
 rw [← eqI_eq]
 refine gom ?_
 refine WC.rt ?_
 exact QF.p1 (.inl rfl) rfl (.tmp rfl) (⟨rfl, rfl, rfl⟩)
theorem eqN_fn (G : Gh) (A B : Option Addr) (l m : List Nd) (ca cb : Nat) (ha : Sl Kd.ned G A l) (hb : Sl Kd.ned G B m) (hl : l.length ≤ 100000000000000) (hs : ∀ x ∈ l, x.params.length ≤ 100000000000000) :
  Fn Tryz.prog 53 #[.slice A l.length ca, .slice B m.length cb, .func (.func 38) #[] #[]] G [] fun e G' H' => e = .returned (.bool (eqL sameN l m)) ∧ G = G' ∧ H' = [] := by
 refine Fn.enter Tryz.func53 rfl rfl fun w0 => ?_
 by_cases hne : l.length = m.length
 rotate_left
 ·have e1 : ((l.length : Int) != (m.length : Int)) = true := by rw [bne_iff_ne]; omega
  rw [eqL_len hne]
  refine gom ?_
  refine WC.rt ?_
  exact QF.p1 (.inl rfl) rfl (.tmp rfl) (⟨rfl, rfl, rfl⟩)
 have e1 : ((l.length : Int) != (m.length : Int)) = false := by rw [hne]; simp
 refine gom ?_
 refine WC.loop (X := Nat) (fun i => [(1, .slice B m.length cb), (2, .func (.func 38) #[] #[]), (15, .slice A l.length ca), (16, .int .i64 l.length), (17, .int .i64 i)]) (fun _ => G) (fun _ => []) (fun i => l.length - i) (fun i => i ≤ l.length ∧ ∀ (j : Nat) x y, j < i → l[j]? = some x → m[j]? = some y → sameN x y = true) 0 ⟨Nat.zero_le _, fun j x y h => absurd h (Nat.not_lt_zero _)⟩ (by exact ⟨rfl, rfl, rfl, rfl, rfl, trivial⟩) rfl (List.Sublist.refl _) fun i hx => ?_
 obtain ⟨hi, hall⟩ := hx
 by_cases hlt : i < l.length
 rotate_left
 ·have e2 : decide ((i : Int) < (l.length : Int)) = false := decide_eq_false (by omega)
  rw [eqL_true hne fun j x y hj => hall j x y (by omega)]
  refine gom ?_
  refine WC.rt ?_
  exact QF.p1 (.inl rfl) rfl (.tmp rfl) (⟨rfl, rfl, rfl⟩)
 have e2 : decide ((i : Int) < (l.length : Int)) = true := decide_eq_true (by omega)
 obtain ⟨x, hx⟩ : ∃ x, l[i]? = some x := ⟨_, List.getElem?_eq_getElem hlt⟩
 obtain ⟨y, hy⟩ : ∃ y, m[i]? = some y := ⟨_, List.getElem?_eq_getElem (by omega)⟩
 obtain ⟨ab, ao, cs1, rfl, hk1, hca⟩ := ha i x hx
 obtain ⟨bb, bo, cs2, rfl, hk2, hcb⟩ := hb i y hy
 obtain ⟨PA, pc, rfl, hP⟩ := hk1
 obtain ⟨QA, qc, rfl, hQ⟩ := hk2
 have hxs := hs x (List.mem_of_getElem? hx)
 have x0 : (0 : Int) ≤ i := by omega
 have x2 : (i : Int) < (l.length : Int) := by omega
 have x3 : (i : Int) < (m.length : Int) := by omega
 have x4 := wrapS i (by omega)
 refine gom ?_
 refine WL.oo (OW.alloc rfl fun b8 => ?_)
 refine gom ?_
 refine WL.oo (OW.alloc rfl fun b9 => ?_)
 refine gom ?_
 refine WL.oo (OW.callVK rfl rfl rfl (sameNeed_fn G x y PA QA pc qc hP hQ hxs) rfl fun v' G' H' h hg => ?_)
 obtain ⟨he, rfl, rfl⟩ := h
 cases he
 cases hf : sameN x y with
 | true =>
  refine gom ?_
  exact WK.again (i + 1) (by omega) ⟨by omega, eq_step hall hx hy hf⟩ (by exact ⟨rfl, rfl, rfl, rfl, rfl, trivial⟩) rfl (List.nil_sublist _)
 | false =>
  rw [eqL_false hx hy hf]
  refine gom ?_
  refine WC.rt ?_
  exact QF.p1 (.inl rfl) rfl (.tmp rfl) (⟨rfl, rfl, rfl⟩)
theorem eqP_fn (G : Gh) (A B : Option Addr) (l m : List Pr) (ca cb : Nat) (ha : Sl Kd.prc G A l) (hb : Sl Kd.prc G B m) (hl : l.length ≤ 100000000000000) (hs : ∀ x ∈ l, x.params.length ≤ 100000000000000 ∧ x.code.length ≤ 100000000000000) :
  Fn Tryz.prog 54 #[.slice A l.length ca, .slice B m.length cb, .func (.func 55) #[] #[]] G [] fun e G' H' => e = .returned (.bool (eqL sameP l m)) ∧ G = G' ∧ H' = [] := by
 refine Fn.enter Tryz.func54 rfl rfl fun w0 => ?_
 by_cases hne : l.length = m.length
 rotate_left
 ·have e1 : ((l.length : Int) != (m.length : Int)) = true := by rw [bne_iff_ne]; omega
  rw [eqL_len hne]
  refine gom ?_
  refine WC.rt ?_
  exact QF.p1 (.inl rfl) rfl (.tmp rfl) (⟨rfl, rfl, rfl⟩)
 have e1 : ((l.length : Int) != (m.length : Int)) = false := by rw [hne]; simp
 refine gom ?_
 refine WC.loop (X := Nat) (fun i => [(1, .slice B m.length cb), (2, .func (.func 55) #[] #[]), (15, .slice A l.length ca), (16, .int .i64 l.length), (17, .int .i64 i)]) (fun _ => G) (fun _ => []) (fun i => l.length - i) (fun i => i ≤ l.length ∧ ∀ (j : Nat) x y, j < i → l[j]? = some x → m[j]? = some y → sameP x y = true) 0 ⟨Nat.zero_le _, fun j x y h => absurd h (Nat.not_lt_zero _)⟩ (by exact ⟨rfl, rfl, rfl, rfl, rfl, trivial⟩) rfl (List.Sublist.refl _) fun i hx => ?_
 obtain ⟨hi, hall⟩ := hx
 by_cases hlt : i < l.length
 rotate_left
 ·have e2 : decide ((i : Int) < (l.length : Int)) = false := decide_eq_false (by omega)
  rw [eqL_true hne fun j x y hj => hall j x y (by omega)]
  refine gom ?_
  refine WC.rt ?_
  exact QF.p1 (.inl rfl) rfl (.tmp rfl) (⟨rfl, rfl, rfl⟩)
 have e2 : decide ((i : Int) < (l.length : Int)) = true := decide_eq_true (by omega)
 obtain ⟨x, hx⟩ : ∃ x, l[i]? = some x := ⟨_, List.getElem?_eq_getElem hlt⟩
 obtain ⟨y, hy⟩ : ∃ y, m[i]? = some y := ⟨_, List.getElem?_eq_getElem (by omega)⟩
 obtain ⟨ab, ao, cs1, rfl, hk1, hca⟩ := ha i x hx
 obtain ⟨bb, bo, cs2, rfl, hk2, hcb⟩ := hb i y hy
 obtain ⟨PA, pc, CA, cc, rfl, hP, hC⟩ := hk1
 obtain ⟨QA, qc, DA, dc, rfl, hQ, hD⟩ := hk2
 have hxs := hs x (List.mem_of_getElem? hx)
 have x0 : (0 : Int) ≤ i := by omega
 have x2 : (i : Int) < (l.length : Int) := by omega
 have x3 : (i : Int) < (m.length : Int) := by omega
 have x4 := wrapS i (by omega)
 refine gom ?_
 refine WL.oo (OW.alloc rfl fun b8 => ?_)
 refine gom ?_
 refine WL.oo (OW.alloc rfl fun b9 => ?_)
 refine gom ?_
 refine WL.oo (OW.callVK rfl rfl rfl (sameProc_fn G x y PA CA QA DA pc cc qc dc hP hC hQ hD hxs.1 hxs.2) rfl fun v' G' H' h hg => ?_)
 obtain ⟨he, rfl, rfl⟩ := h
 cases he
 cases hf : sameP x y with
 | true =>
  refine gom ?_
  exact WK.again (i + 1) (by omega) ⟨by omega, eq_step hall hx hy hf⟩ (by exact ⟨rfl, rfl, rfl, rfl, rfl, trivial⟩) rfl (List.nil_sublist _)
 | false =>
  rw [eqL_false hx hy hf]
  refine gom ?_
  refine WC.rt ?_
  exact QF.p1 (.inl rfl) rfl (.tmp rfl) (⟨rfl, rfl, rfl⟩)
end
section
open Go.MapKept
attribute [local irreducible] Tryz.prog sameN sameP eqL
theorem rsameNeed_fn (G : Gh) (a b : Nd) (QA RA : Option Addr) (qc rc : Nat) (hQ : Sl (Kd.int .i64) G QA a.params) (hR : Sl (Kd.int .i64) G RA b.params) (hl : a.params.length ≤ 100000000000000) :
  Fn Tryz.prog 56 #[.agg (ndC a QA qc), .agg (ndC b RA rc)] G [] fun e G' H' => e = .returned (.bool (sameN a b)) ∧ G = G' ∧ H' = [] := by
 refine Fn.enter Tryz.func56 rfl rfl fun w0 => ?_
 refine WC.seq ?_
 refine WC.region ?_
 refine WL.oo (OW.box rfl rfl fun b2 => ?_)
 refine WL.oo (OW.box rfl rfl fun b3 => ?_)
 refine gom ?_
 cases h1 : (a.path == b.path) with
 | false =>
  rw [show sameN a b = false by unfold sameN; rw [h1]; rfl]
  refine gom ?_
  refine WC.rt ?_
  exact QF.p1 (.inl rfl) rfl (.tmp rfl) (⟨rfl, rfl, rfl⟩)
 | true =>
 refine gom ?_
 cases h2 : (a.name == b.name) with
 | false =>
  rw [show sameN a b = false by unfold sameN; rw [h1, h2]; rfl]
  refine gom ?_
  refine WC.rt ?_
  exact QF.p1 (.inl rfl) rfl (.tmp rfl) (⟨rfl, rfl, rfl⟩)
 | true =>
 cases h3 : (a.result == b.result) with
 | false =>
  rw [show sameN a b = false by unfold sameN; rw [h1, h2, h3]; rfl]
  refine gom ?_
  refine WC.rt ?_
  exact QF.p1 (.inl rfl) rfl (.tmp rfl) (⟨rfl, rfl, rfl⟩)
 | true =>
 rw [show sameN a b = (a.params == b.params) by unfold sameN; rw [h1, h2, h3]; rfl]
 refine gom ?_
 refine WL.oo (OW.callK rfl (rsameT_fn G QA RA a.params b.params qc rc hQ hR hl) rfl fun v' G' H' h hg => ?_)
 obtain ⟨he, rfl, rfl⟩ := h
 cases he
 rw [← eqT_eq]
 refine gom ?_
 refine WC.rt ?_
 exact QF.p1 (.inl rfl) rfl (.tmp rfl) (⟨rfl, rfl, rfl⟩)
set_option maxRecDepth 20000 in
set_option maxHeartbeats 2000000 in
theorem rsameP_fn (G : Gh) (A B : Option Addr) (l m : List Pr) (ca cb : Nat) (ha : Sl Kd.prc G A l) (hb : Sl Kd.prc G B m) (hl : l.length ≤ 100000000000000) (hs : ∀ x ∈ l, x.params.length ≤ 100000000000000 ∧ x.code.length ≤ 100000000000000) :
  Fn Tryz.prog 50 #[.slice A l.length ca, .slice B m.length cb] G [] fun e G' H' => e = .returned (.bool (eqL sameP l m)) ∧ G = G' ∧ H' = [] := by
 refine Fn.enter Tryz.func50 rfl rfl fun w0 => ?_
 by_cases hne : l.length = m.length
 rotate_left
 ·have e1 : ((l.length : Int) != (m.length : Int)) = true := by rw [bne_iff_ne]; omega
  rw [eqL_len hne]
  refine go ?_
  refine WC.rt ?_
  exact QF.p1 (.inl rfl) rfl (.tmp rfl) (⟨rfl, rfl, rfl⟩)
 have e1 : ((l.length : Int) != (m.length : Int)) = false := by rw [hne]; simp
 refine go ?_
 refine WC.loop (X := Nat) (fun i => [(0, .slice A l.length ca), (1, .slice B m.length cb), (5, .int .i64 i)]) (fun _ => G) (fun _ => []) (fun i => l.length - i) (fun i => i ≤ l.length ∧ ∀ (j : Nat) x y, j < i → l[j]? = some x → m[j]? = some y → sameP x y = true) 0 ⟨Nat.zero_le _, fun j x y h => absurd h (Nat.not_lt_zero _)⟩ (by exact ⟨rfl, rfl, rfl, trivial⟩) rfl (List.Sublist.refl _) fun i hx => ?_
 obtain ⟨hi, hall⟩ := hx
 by_cases hlt : i < l.length
 rotate_left
 ·have e2 : decide ((i : Int) < (l.length : Int)) = false := decide_eq_false (by omega)
  rw [eqL_true hne fun j x y hj => hall j x y (by omega)]
  refine go ?_
  refine WC.rt ?_
  exact QF.p1 (.inl rfl) rfl (.tmp rfl) (⟨rfl, rfl, rfl⟩)
 have e2 : decide ((i : Int) < (l.length : Int)) = true := decide_eq_true (by omega)
 obtain ⟨x, hx⟩ : ∃ x, l[i]? = some x := ⟨_, List.getElem?_eq_getElem hlt⟩
 obtain ⟨y, hy⟩ : ∃ y, m[i]? = some y := ⟨_, List.getElem?_eq_getElem (by omega)⟩
 obtain ⟨ab, ao, cs1, rfl, hk1, hca⟩ := ha i x hx
 obtain ⟨bb, bo, cs2, rfl, hk2, hcb⟩ := hb i y hy
 obtain ⟨PA, pc, CA, cc, rfl, hP, hC⟩ := hk1
 obtain ⟨QA, qc, DA, dc, rfl, hQ, hD⟩ := hk2
 obtain ⟨hxp, hxc⟩ := hs x (List.mem_of_getElem? hx)
 have x0 : (0 : Int) ≤ i := by omega
 have x2 : (i : Int) < (l.length : Int) := by omega
 have x3 : (i : Int) < (m.length : Int) := by omega
 have x4 := wrapS i (by omega)
 refine go ?_
 refine WC.joinG (X := Nat × Nat) (fun t => [(0, .slice (some ⟨ab, ao, none⟩) l.length ca), (1, .slice (some ⟨bb, bo, none⟩) m.length cb), (5, .int .i64 i), (6, .pointer (some ⟨t.1, 0, none⟩)), (7, .pointer (some ⟨t.2, 0, none⟩))]) (fun _ => G) (fun t => [prB t.1 x PA pc CA cc, prB t.2 y QA qc DA dc]) (fun _ => True) ?_ fun t _ => ?_
 ·refine WC.drawB mixed ?_
  refine zb.move 0 ?_
  refine zb.move 1 ?_
  refine zb.ix 2 ?_
  refine WB.vv 3 rfl (Gv.loadGN rfl hca rfl) ?_
  refine zb.move 4 ?_
  refine zb.move 5 ?_
  refine zb.ix 6 ?_
  refine WB.vv 7 rfl (Gv.loadGN rfl hcb rfl) ?_
  refine WB.two (i := 8) (j := 9) kr rfl rfl kr kr (OW.alloc rfl fun b6 => ?_) (OW.alloc rfl fun b7 => ?_)
  ·refine ⟨fun w hw => hw.pk pkA, ?_⟩
   refine WB.oo 9 rfl (OW.alloc rfl fun b7 => ?_)
   refine ⟨fun w hw => hw.pk pkA, ?_⟩
   refine zb.st 10 ?_
   refine ⟨fun w hw => hw.pk pkA, ?_⟩
   refine zb.st 11 ?_
   refine ⟨fun w hw => hw.pk pkA, ?_⟩
   refine WB.done kr ?_
   refine WK.un ?_
   refine WK.pick [prB b6 x PA pc CA cc, prB b7 y QA qc DA dc] ?_
   exact WK.meet (b6, b7) trivial (by exact ⟨rfl, rfl, rfl, rfl, rfl, trivial⟩) rfl (List.Sublist.refl _)
  ·refine ⟨fun w hw => hw.pk pkA, ?_⟩
   refine WB.oo 8 rfl (OW.alloc rfl fun b6 => ?_)
   refine ⟨fun w hw => hw.pk pkA, ?_⟩
   refine zb.st 10 ?_
   refine ⟨fun w hw => hw.pk pkA, ?_⟩
   refine zb.st 11 ?_
   refine ⟨fun w hw => hw.pk pkA, ?_⟩
   refine WB.done kr ?_
   refine WK.un ?_
   refine WK.pick [prB b6 x PA pc CA cc, prB b7 y QA qc DA dc] ?_
   exact WK.meet (b6, b7) trivial (by exact ⟨rfl, rfl, rfl, rfl, rfl, trivial⟩) rfl (List.Sublist.refl _)
 obtain ⟨b6, b7⟩ := t
 dsimp only
 refine gom ?_
 cases h1 : (x.name == y.name) with
 | false =>
  have hf : sameP x y = false := by unfold sameP; rw [h1]; rfl
  rw [eqL_false hx hy hf]
  refine gom ?_
  refine WC.rt ?_
  exact QF.p1 (.inl rfl) rfl (.tmp rfl) (⟨rfl, rfl, rfl⟩)
 | true =>
 refine gom ?_
 cases h2 : (x.exp == y.exp) with
 | false =>
  have hf : sameP x y = false := by unfold sameP; rw [h1, h2]; rfl
  rw [eqL_false hx hy hf]
  refine gom ?_
  refine WC.rt ?_
  exact QF.p1 (.inl rfl) rfl (.tmp rfl) (⟨rfl, rfl, rfl⟩)
 | true =>
 cases h3 : (x.locals == y.locals) with
 | false =>
  have nh3 : (x.locals != y.locals) = true := by rw [bne, h3]; rfl
  have hf : sameP x y = false := by unfold sameP; rw [h1, h2, h3]; rfl
  rw [eqL_false hx hy hf]
  refine gom ?_
  refine WC.rt ?_
  exact QF.p1 (.inl rfl) rfl (.tmp rfl) (⟨rfl, rfl, rfl⟩)
 | true =>
 have nh3 : (x.locals != y.locals) = false := by rw [bne, h3]; rfl
 cases h4 : (x.result == y.result) with
 | false =>
  have nh4 : (x.result != y.result) = true := by rw [bne, h4]; rfl
  have hf : sameP x y = false := by unfold sameP; rw [h1, h2, h3, h4]; rfl
  rw [eqL_false hx hy hf]
  refine gom ?_
  refine WC.rt ?_
  exact QF.p1 (.inl rfl) rfl (.tmp rfl) (⟨rfl, rfl, rfl⟩)
 | true =>
 have nh4 : (x.result != y.result) = false := by rw [bne, h4]; rfl
 refine gom ?_
 refine WL.oo (OW.callK rfl (rsameT_fn G PA QA x.params y.params pc qc hP hQ hxp) rfl fun v' G' H' h hg => ?_)
 obtain ⟨he, rfl, rfl⟩ := h
 cases he
 cases h5 : eqL dT x.params y.params with
 | false =>
  have hf : sameP x y = false := by unfold sameP; rw [h1, h2, h3, h4, ← eqT_eq, h5]; rfl
  rw [eqL_false hx hy hf]
  refine gom ?_
  refine WC.rt ?_
  exact QF.p1 (.inl rfl) rfl (.tmp rfl) (⟨rfl, rfl, rfl⟩)
 | true =>
 have hsx : sameP x y = eqL dI x.code y.code := by unfold sameP; rw [h1, h2, h3, h4, ← eqT_eq, h5, eqI_eq]; rfl
 by_cases hce : x.code.length = y.code.length
 rotate_left
 ·have e6 : ((x.code.length : Int) != (y.code.length : Int)) = true := by rw [bne_iff_ne]; omega
  have hf : sameP x y = false := by rw [hsx, eqL_len hce]
  rw [eqL_false hx hy hf]
  refine gom ?_
  refine WC.rt ?_
  exact QF.p1 (.inl rfl) rfl (.tmp rfl) (⟨rfl, rfl, rfl⟩)
 have e6 : ((x.code.length : Int) != (y.code.length : Int)) = false := by rw [hce]; simp
 refine gom ?_
 refine WC.loop (X := Nat) (fun k => [(0, .slice (some ⟨ab, ao, none⟩) l.length ca), (1, .slice (some ⟨bb, bo, none⟩) m.length cb), (5, .int .i64 i), (6, .pointer (some ⟨b6, 0, none⟩)), (7, .pointer (some ⟨b7, 0, none⟩)), (8, .int .i64 k)]) (fun _ => G) (fun _ => [prB b6 x PA pc CA cc, prB b7 y QA qc DA dc]) (fun k => x.code.length - k) (fun k => k ≤ x.code.length ∧ ∀ (j : Nat) u v, j < k → x.code[j]? = some u → y.code[j]? = some v → dI u v = true) 0 ⟨Nat.zero_le _, fun j x y h => absurd h (Nat.not_lt_zero _)⟩ (by exact ⟨rfl, rfl, rfl, rfl, rfl, rfl, trivial⟩) rfl (List.Sublist.refl _) fun k hk => ?_
 obtain ⟨hk, hkal⟩ := hk
 by_cases hkl : k < x.code.length
 rotate_left
 ·have e7 : decide ((k : Int) < (x.code.length : Int)) = false := decide_eq_false (by omega)
  have hf : sameP x y = true := by rw [hsx]; exact eqL_true hce fun j u v hj => hkal j u v (by omega)
  refine gom ?_
  exact WK.again (i + 1) (by omega) ⟨by omega, eq_step hall hx hy hf⟩ (by exact ⟨rfl, rfl, rfl, trivial⟩) rfl (List.nil_sublist _)
 have e7 : decide ((k : Int) < (x.code.length : Int)) = true := decide_eq_true (by omega)
 obtain ⟨u, hu⟩ : ∃ u, x.code[k]? = some u := ⟨_, List.getElem?_eq_getElem hkl⟩
 obtain ⟨v, hv⟩ : ∃ v, y.code[k]? = some v := ⟨_, List.getElem?_eq_getElem (by omega)⟩
 obtain ⟨ub, uo, us, rfl, hku, huc⟩ := hC k u hu
 obtain ⟨vb, vo, vs, rfl, hkv, hvc⟩ := hD k v hv
 obtain rfl : us = [.int .i64 u.1, .int .i64 u.2] := hku
 obtain rfl : vs = [.int .i64 v.1, .int .i64 v.2] := hkv
 have y0 : (0 : Int) ≤ k := by omega
 have y2 : (k : Int) < (x.code.length : Int) := by omega
 have y3 : (k : Int) < (y.code.length : Int) := by omega
 have y4 := wrapS k (by omega)
 cases hf : dI u v with
 | true =>
  have e3 : (!decide ((u.1, u.2) = (v.1, v.2))) = false := by rw [show decide ((u.1, u.2) = (v.1, v.2)) = true from hf]; rfl
  refine gom ?_
  refine WQ.tp (Gp.neIns rfl rfl) kr kr rfl ?_
  rw [e3]
  refine gom ?_
  exact WK.again (k + 1) (by omega) ⟨by omega, eq_step hkal hu hv hf⟩ (by exact ⟨rfl, rfl, rfl, rfl, rfl, rfl, trivial⟩) rfl (List.Sublist.refl _)
 | false =>
  have e3 : (!decide ((u.1, u.2) = (v.1, v.2))) = true := by rw [show decide ((u.1, u.2) = (v.1, v.2)) = false from hf]; rfl
  have hf' : sameP x y = false := by rw [hsx]; exact eqL_false hu hv hf
  rw [eqL_false hx hy hf']
  refine gom ?_
  refine WQ.tp (Gp.neIns rfl rfl) kr kr rfl ?_
  rw [e3]
  refine gom ?_
  refine WC.rt ?_
  exact QF.p1 (.inl rfl) rfl (.tmp rfl) (⟨rfl, rfl, rfl⟩)
end
section
open Go.MapKept
attribute [local irreducible] Tryz.prog sameN sameP eqL
structure SLim (o : Ob) : Prop where
 cl : o.consts.length ≤ 100000000000000
 nl : o.needs.length ≤ 100000000000000
 pl : o.procs.length ≤ 100000000000000
 nd : ∀ q ∈ o.needs, q.params.length ≤ 100000000000000
 pr : ∀ q ∈ o.procs, q.params.length ≤ 100000000000000 ∧ q.code.length ≤ 100000000000000
def sameG (c d : List V) (p q : List Pr) (t u : List Pt) : Bool := decide (c = d) && (eqL sameP p q && eqL dPt t u)
theorem Same_fn (G : Gh) (a b : Ob) (CA NA PA DA MA QA : Option Addr) (cc nc pc dc mc qc : Nat) (hA : ORep G a CA NA PA) (hB : ORep G b DA MA QA) (hL : SLim a) :
  Fn Tryz.prog 23 #[.agg (obC a CA NA PA cc nc pc), .agg (obC b DA MA QA dc mc qc)] G [] fun e G' H' => e = .returned (.bool (sameO a b)) ∧ G = G' ∧ H' = [] := by
 have heq := eqV_eq a.consts b.consts
 refine Fn.enter Tryz.func23 rfl rfl fun w0 => ?_
 refine WC.seq ?_
 refine WC.region ?_
 refine WL.oo (OW.box rfl rfl fun b2 => ?_)
 refine WL.oo (OW.box rfl rfl fun b3 => ?_)
 refine gom ?_
 cases h1 : (a.path == b.path) with
 | false =>
  rw [show sameO a b = false by unfold sameO; rw [h1]; rfl]
  refine gom ?_
  refine WC.rt ?_
  exact QF.p1 (.inl rfl) rfl (.tmp rfl) (⟨rfl, rfl, rfl⟩)
 | true =>
 refine gom ?_
 refine WL.oo (OW.callK rfl (eqV_fn G CA DA a.consts b.consts cc dc hA.consts hB.consts hL.cl) rfl fun v' G' H' h hg => ?_)
 obtain ⟨he, rfl, rfl⟩ := h
 cases he
 cases h2 : eqL dV a.consts b.consts with
 | false =>
  rw [show sameO a b = false by unfold sameO; rw [h1, ← heq, h2]; rfl]
  refine gom ?_
  refine WC.rt ?_
  exact QF.p1 (.inl rfl) rfl (.tmp rfl) (⟨rfl, rfl, rfl⟩)
 | true =>
 refine gom ?_
 refine WL.oo (OW.callK rfl (eqN_fn G NA MA a.needs b.needs nc mc hA.needs hB.needs hL.nl hL.nd) rfl fun v' G' H' h hg => ?_)
 obtain ⟨he, rfl, rfl⟩ := h
 cases he
 cases h3 : eqL sameN a.needs b.needs with
 | false =>
  rw [show sameO a b = false by unfold sameO; rw [h1, ← heq, h2, h3]; rfl]
  refine gom ?_
  refine WC.rt ?_
  exact QF.p1 (.inl rfl) rfl (.tmp rfl) (⟨rfl, rfl, rfl⟩)
 | true =>
 rw [show sameO a b = eqL sameP a.procs b.procs by unfold sameO; rw [h1, ← heq, h2, h3]; rfl]
 refine gom ?_
 refine WL.oo (OW.callK rfl (eqP_fn G PA QA a.procs b.procs pc qc hA.procs hB.procs hL.pl hL.pr) rfl fun v' G' H' h hg => ?_)
 obtain ⟨he, rfl, rfl⟩ := h
 cases he
 refine gom ?_
 refine WC.rt ?_
 exact QF.p1 (.inl rfl) rfl (.tmp rfl) (⟨rfl, rfl, rfl⟩)
set_option maxHeartbeats 1000000 in
theorem rSame_fn (G : Gh) (a b : Ob) (CA NA PA DA MA QA : Option Addr) (cc nc pc dc mc qc : Nat) (hA : ORep G a CA NA PA) (hB : ORep G b DA MA QA) (hL : SLim a) :
  Fn Tryz.prog 24 #[.agg (obC a CA NA PA cc nc pc), .agg (obC b DA MA QA dc mc qc)] G [] fun e G' H' => e = .returned (.bool (sameO a b)) ∧ G = G' ∧ H' = [] := by
 have heq := eqV_eq a.consts b.consts
 have hal := hL.nl
 refine Fn.enter Tryz.func24 rfl rfl fun w0 => ?_
 refine WC.seq ?_
 refine WC.region ?_
 refine WL.oo (OW.box rfl rfl fun b2 => ?_)
 refine WL.oo (OW.box rfl rfl fun b3 => ?_)
 refine gom ?_
 cases h1 : (a.path == b.path) with
 | false =>
  rw [show sameO a b = false by unfold sameO; rw [h1]; rfl]
  refine gom ?_
  refine WC.rt ?_
  exact QF.p1 (.inl rfl) rfl (.tmp rfl) (⟨rfl, rfl, rfl⟩)
 | true =>
 refine gom ?_
 refine WL.oo (OW.callK rfl (rsameV_fn G CA DA a.consts b.consts cc dc hA.consts hB.consts hL.cl) rfl fun v' G' H' h hg => ?_)
 obtain ⟨he, rfl, rfl⟩ := h
 cases he
 cases h2 : eqL dV a.consts b.consts with
 | false =>
  rw [show sameO a b = false by unfold sameO; rw [h1, ← heq, h2]; rfl]
  refine gom ?_
  refine WC.rt ?_
  exact QF.p1 (.inl rfl) rfl (.tmp rfl) (⟨rfl, rfl, rfl⟩)
 | true =>
 by_cases hne : a.needs.length = b.needs.length
 rotate_left
 ·have e1 : ((a.needs.length : Int) != (b.needs.length : Int)) = true := by rw [bne_iff_ne]; omega
  rw [show sameO a b = false by unfold sameO; rw [h1, ← heq, h2, eqL_len hne]; rfl]
  refine gom ?_
  refine WC.rt ?_
  exact QF.p1 (.inl rfl) rfl (.tmp rfl) (⟨rfl, rfl, rfl⟩)
 have e1 : ((a.needs.length : Int) != (b.needs.length : Int)) = false := by rw [hne]; simp
 refine gom ?_
 refine WL.oo (OW.callK rfl (rsameP_fn G PA QA a.procs b.procs pc qc hA.procs hB.procs hL.pl hL.pr) rfl fun v' G' H' h hg => ?_)
 obtain ⟨he, rfl, rfl⟩ := h
 cases he
 cases h3 : eqL sameP a.procs b.procs with
 | false =>
  rw [show sameO a b = false by unfold sameO; rw [h3]; simp]
  refine gom ?_
  refine WC.rt ?_
  exact QF.p1 (.inl rfl) rfl (.tmp rfl) (⟨rfl, rfl, rfl⟩)
 | true =>
 have hs : sameO a b = eqL sameN a.needs b.needs := by unfold sameO; rw [h1, ← heq, h2, h3]; simp
 rw [hs]
 refine gom ?_
 refine WC.loop (X := Nat) (fun i => [(2, .pointer (some ⟨b2, 0, none⟩)), (3, .pointer (some ⟨b3, 0, none⟩)), (5, .int .i64 i)]) (fun _ => G) (fun _ => [.blk b3 (.cells (obC b DA MA QA dc mc qc) 38 (0, 0)), .blk b2 (.cells (obC a CA NA PA cc nc pc) 38 (0, 0))]) (fun i => a.needs.length - i) (fun i => i ≤ a.needs.length ∧ ∀ (j : Nat) x y, j < i → a.needs[j]? = some x → b.needs[j]? = some y → sameN x y = true) 0 ⟨Nat.zero_le _, fun j x y h => absurd h (Nat.not_lt_zero _)⟩ (by exact ⟨rfl, rfl, rfl, trivial⟩) rfl (List.Sublist.refl _) fun i hx => ?_
 obtain ⟨hi, hall⟩ := hx
 by_cases hlt : i < a.needs.length
 rotate_left
 ·have e2 : decide ((i : Int) < (a.needs.length : Int)) = false := decide_eq_false (by omega)
  rw [eqL_true hne fun j x y hj => hall j x y (by omega)]
  refine gom ?_
  refine WC.rt ?_
  exact QF.p1 (.inl rfl) rfl (.tmp rfl) (⟨rfl, rfl, rfl⟩)
 have e2 : decide ((i : Int) < (a.needs.length : Int)) = true := decide_eq_true (by omega)
 obtain ⟨x, hx⟩ : ∃ x, a.needs[i]? = some x := ⟨_, List.getElem?_eq_getElem hlt⟩
 obtain ⟨y, hy⟩ : ∃ y, b.needs[i]? = some y := ⟨_, List.getElem?_eq_getElem (by omega)⟩
 obtain ⟨ab, ao, cs1, rfl, hk1, hca⟩ := hA.needs i x hx
 obtain ⟨bb, bo, cs2, rfl, hk2, hcb⟩ := hB.needs i y hy
 obtain ⟨XA, xc, rfl, hX⟩ := hk1
 obtain ⟨YA, yc, rfl, hY⟩ := hk2
 have hxl := hL.nd x (List.mem_of_getElem? hx)
 have x0 : (0 : Int) ≤ i := by omega
 have x2 : (i : Int) < (a.needs.length : Int) := by omega
 have x3 : (i : Int) < (b.needs.length : Int) := by omega
 have x4 := wrapS i (by omega)
 refine gom ?_
 refine WQ.one kr kr (OW.callK rfl (rsameNeed_fn G x y XA YA xc yc hX hY hxl) rfl fun v' G' H' h hg => ?_)
 obtain ⟨he, rfl, rfl⟩ := h
 cases he
 cases hf : sameN x y with
 | true =>
  refine gom ?_
  exact WK.again (i + 1) (by omega) ⟨by omega, eq_step hall hx hy hf⟩ (by exact ⟨rfl, rfl, rfl, trivial⟩) rfl (List.Sublist.refl _)
 | false =>
  rw [eqL_false hx hy hf]
  refine gom ?_
  refine WC.rt ?_
  exact QF.p1 (.inl rfl) rfl (.tmp rfl) (⟨rfl, rfl, rfl⟩)
theorem SamePg_fn (G : Gh) (c d : List V) (p q : List Pr) (t u : List Pt) (CA PA TA DA QA UA : Option Addr) (cc pc tc dc qc uc : Nat) (hC : Sl Kd.val G CA c) (hD : Sl Kd.val G DA d) (hP : Sl Kd.prc G PA p) (hQ : Sl Kd.prc G QA q) (hT : Sl Kd.pnt G TA t) (hU : Sl Kd.pnt G UA u) (hcl : c.length ≤ 100000000000000) (hpl : p.length ≤ 100000000000000) (htl : t.length ≤ 100000000000000) (hpr : ∀ x ∈ p, x.params.length ≤ 100000000000000 ∧ x.code.length ≤ 100000000000000) :
  Fn Tryz.prog 25 #[.agg #[.slice CA c.length cc, .slice PA p.length pc, .slice TA t.length tc], .agg #[.slice DA d.length dc, .slice QA q.length qc, .slice UA u.length uc]] G [] fun e G' H' => e = .returned (.bool (sameG c d p q t u)) ∧ G = G' ∧ H' = [] := by
 have heq := eqV_eq c d
 refine Fn.enter Tryz.func25 rfl rfl fun w0 => ?_
 refine WC.seq ?_
 refine WC.region ?_
 refine WL.oo (OW.box rfl rfl fun b2 => ?_)
 refine WL.oo (OW.box rfl rfl fun b3 => ?_)
 refine gom ?_
 refine WL.oo (OW.callK rfl (eqV_fn G CA DA c d cc dc hC hD hcl) rfl fun v' G' H' h hg => ?_)
 obtain ⟨he, rfl, rfl⟩ := h
 cases he
 cases h2 : eqL dV c d with
 | false =>
  rw [show sameG c d p q t u = false by unfold sameG; rw [← heq, h2]; rfl]
  refine gom ?_
  refine WC.rt ?_
  exact QF.p1 (.inl rfl) rfl (.tmp rfl) (⟨rfl, rfl, rfl⟩)
 | true =>
 refine gom ?_
 refine WL.oo (OW.callK rfl (eqP_fn G PA QA p q pc qc hP hQ hpl hpr) rfl fun v' G' H' h hg => ?_)
 obtain ⟨he, rfl, rfl⟩ := h
 cases he
 cases h3 : eqL sameP p q with
 | false =>
  rw [show sameG c d p q t u = false by unfold sameG; rw [← heq, h2, h3]; rfl]
  refine gom ?_
  refine WC.rt ?_
  exact QF.p1 (.inl rfl) rfl (.tmp rfl) (⟨rfl, rfl, rfl⟩)
 | true =>
 rw [show sameG c d p q t u = eqL dPt t u by unfold sameG; rw [← heq, h2, h3]; rfl]
 refine gom ?_
 refine WL.oo (OW.callK rfl (eqPt_fn G TA UA t u tc uc hT hU htl) rfl fun v' G' H' h hg => ?_)
 obtain ⟨he, rfl, rfl⟩ := h
 cases he
 refine gom ?_
 refine WC.rt ?_
 exact QF.p1 (.inl rfl) rfl (.tmp rfl) (⟨rfl, rfl, rfl⟩)
set_option maxHeartbeats 1000000 in
theorem rSamePg_fn (G : Gh) (c d : List V) (p q : List Pr) (t u : List Pt) (CA PA TA DA QA UA : Option Addr) (cc pc tc dc qc uc : Nat) (hC : Sl Kd.val G CA c) (hD : Sl Kd.val G DA d) (hP : Sl Kd.prc G PA p) (hQ : Sl Kd.prc G QA q) (hT : Sl Kd.pnt G TA t) (hU : Sl Kd.pnt G UA u) (hcl : c.length ≤ 100000000000000) (hpl : p.length ≤ 100000000000000) (htl : t.length ≤ 100000000000000) (hpr : ∀ x ∈ p, x.params.length ≤ 100000000000000 ∧ x.code.length ≤ 100000000000000) :
  Fn Tryz.prog 17 #[.agg #[.slice CA c.length cc, .slice PA p.length pc, .slice TA t.length tc], .agg #[.slice DA d.length dc, .slice QA q.length qc, .slice UA u.length uc]] G [] fun e G' H' => e = .returned (.bool (sameG c d p q t u)) ∧ G = G' ∧ H' = [] := by
 have heq := eqV_eq c d
 refine Fn.enter Tryz.func17 rfl rfl fun w0 => ?_
 refine WC.seq ?_
 refine WC.region ?_
 refine WL.oo (OW.box rfl rfl fun b2 => ?_)
 refine WL.oo (OW.box rfl rfl fun b3 => ?_)
 refine gom ?_
 refine WL.oo (OW.callK rfl (rsameV_fn G CA DA c d cc dc hC hD hcl) rfl fun v' G' H' h hg => ?_)
 obtain ⟨he, rfl, rfl⟩ := h
 cases he
 cases h2 : eqL dV c d with
 | false =>
  rw [show sameG c d p q t u = false by unfold sameG; rw [← heq, h2]; rfl]
  refine gom ?_
  refine WC.rt ?_
  exact QF.p1 (.inl rfl) rfl (.tmp rfl) (⟨rfl, rfl, rfl⟩)
 | true =>
 refine gom ?_
 refine WL.oo (OW.callK rfl (rsameP_fn G PA QA p q pc qc hP hQ hpl hpr) rfl fun v' G' H' h hg => ?_)
 obtain ⟨he, rfl, rfl⟩ := h
 cases he
 cases h3 : eqL sameP p q with
 | false =>
  rw [show sameG c d p q t u = false by unfold sameG; rw [← heq, h2, h3]; rfl]
  refine gom ?_
  refine WC.rt ?_
  exact QF.p1 (.inl rfl) rfl (.tmp rfl) (⟨rfl, rfl, rfl⟩)
 | true =>
 rw [show sameG c d p q t u = eqL dPt t u by unfold sameG; rw [← heq, h2, h3]; rfl]
 by_cases hne : t.length = u.length
 rotate_left
 ·have e1 : ((t.length : Int) != (u.length : Int)) = true := by rw [bne_iff_ne]; omega
  rw [eqL_len hne]
  refine gom ?_
  refine WC.rt ?_
  exact QF.p1 (.inl rfl) rfl (.tmp rfl) (⟨rfl, rfl, rfl⟩)
 have e1 : ((t.length : Int) != (u.length : Int)) = false := by rw [hne]; simp
 refine gom ?_
 refine WC.loop (X := Nat) (fun i => [(2, .pointer (some ⟨b2, 0, none⟩)), (3, .pointer (some ⟨b3, 0, none⟩)), (5, .int .i64 i)]) (fun _ => G) (fun _ => [.blk b3 (.cells #[.slice DA d.length dc, .slice QA q.length qc, .slice UA u.length uc] 27 (0, 0)), .blk b2 (.cells #[.slice CA c.length cc, .slice PA p.length pc, .slice TA t.length tc] 27 (0, 0))]) (fun i => t.length - i) (fun i => i ≤ t.length ∧ ∀ (j : Nat) x y, j < i → t[j]? = some x → u[j]? = some y → dPt x y = true) 0 ⟨Nat.zero_le _, fun j x y h => absurd h (Nat.not_lt_zero _)⟩ (by exact ⟨rfl, rfl, rfl, trivial⟩) rfl (List.Sublist.refl _) fun i hx => ?_
 obtain ⟨hi, hall⟩ := hx
 by_cases hlt : i < t.length
 rotate_left
 ·have e2 : decide ((i : Int) < (t.length : Int)) = false := decide_eq_false (by omega)
  rw [eqL_true hne fun j x y hj => hall j x y (by omega)]
  refine gom ?_
  refine WC.rt ?_
  exact QF.p1 (.inl rfl) rfl (.tmp rfl) (⟨rfl, rfl, rfl⟩)
 have e2 : decide ((i : Int) < (t.length : Int)) = true := decide_eq_true (by omega)
 obtain ⟨x, hx⟩ : ∃ x, t[i]? = some x := ⟨_, List.getElem?_eq_getElem hlt⟩
 obtain ⟨y, hy⟩ : ∃ y, u[i]? = some y := ⟨_, List.getElem?_eq_getElem (by omega)⟩
 obtain ⟨ab, ao, cs1, rfl, hk1, hca⟩ := hT i x hx
 obtain ⟨bb, bo, cs2, rfl, hk2, hcb⟩ := hU i y hy
 obtain rfl : cs1 = [.string x.path, .string x.name, .int .i64 x.proc] := hk1
 obtain rfl : cs2 = [.string y.path, .string y.name, .int .i64 y.proc] := hk2
 have x0 : (0 : Int) ≤ i := by omega
 have x2 : (i : Int) < (t.length : Int) := by omega
 have x3 : (i : Int) < (u.length : Int) := by omega
 have x4 := wrapS i (by omega)
 cases hf : dPt x y with
 | true =>
  have e3 : (!decide ((x.path, x.name, x.proc) = (y.path, y.name, y.proc))) = false := by rw [show decide ((x.path, x.name, x.proc) = (y.path, y.name, y.proc)) = true from hf]; rfl
  refine gom ?_
  refine WQ.tp (Gp.nePnt rfl rfl) kr kr rfl ?_
  rw [e3]
  refine gom ?_
  exact WK.again (i + 1) (by omega) ⟨by omega, eq_step hall hx hy hf⟩ (by exact ⟨rfl, rfl, rfl, trivial⟩) rfl (List.Sublist.refl _)
 | false =>
  have e3 : (!decide ((x.path, x.name, x.proc) = (y.path, y.name, y.proc))) = true := by rw [show decide ((x.path, x.name, x.proc) = (y.path, y.name, y.proc)) = false from hf]; rfl
  rw [eqL_false hx hy hf]
  refine gom ?_
  refine WQ.tp (Gp.nePnt rfl rfl) kr kr rfl ?_
  rw [e3]
  refine gom ?_
  refine WC.rt ?_
  exact QF.p1 (.inl rfl) rfl (.tmp rfl) (⟨rfl, rfl, rfl⟩)
end
section
open Go.MapKept
attribute [local irreducible] Tryz.prog sameO sameG
set_option maxRecDepth 20000 in
set_option maxHeartbeats 2000000 in
theorem sames_fn (G : Gh) (hE : Env G) (a b : Ob) (CA NA PA DA MA QA : Option Addr) (cc nc pc dc mc qc : Nat) (hA : ORep G a CA NA PA) (hB : ORep G b DA MA QA) (hL : SLim a) :
  Fn Tryz.prog 7 #[.agg (obC a CA NA PA cc nc pc), .agg (obC b DA MA QA dc mc qc)] G [] fun e G' H' => e = .returned (.bool true) ∧ G.le G' ∧ H' = [] := by
 refine Fn.enter Tryz.func7 rfl rfl fun w0 => ?_
 refine WC.seq ?_
 refine WC.region ?_
 refine WL.oo (OW.box rfl rfl fun b2 => ?_)
 refine WL.oo (OW.box rfl rfl fun b3 => ?_)
 refine zw.assign ?_
 refine WL.nil ?_
 refine WK.un ?_
 refine WC.seq ?_
 refine WC.region ?_
 refine zw.fa ?_
 refine zw.ld ?_
 refine zw.fa ?_
 refine zw.ld ?_
 refine zw.build ?_
 refine WL.oo (OW.alloc rfl fun b5 => ?_)
 refine zw.st ?_
 refine WL.nil ?_
 refine WK.un ?_
 refine WC.seq ?_
 refine WC.region ?_
 refine zw.fa ?_
 refine zw.ld ?_
 refine zw.fa ?_
 refine zw.ld ?_
 refine zw.build ?_
 refine WL.oo (OW.alloc rfl fun b6 => ?_)
 refine zw.st ?_
 refine WL.nil ?_
 refine WK.un ?_
 refine WC.seq ?_
 refine WC.drawB mixed ?_
 refine zb.ld 0 ?_
 refine zb.ld 1 ?_
 refine zb.ld 3 ?_
 refine zb.ld 4 ?_
 refine WB.oo 2 rfl (OW.callK rfl (Same_fn G a b CA NA PA DA MA QA cc nc pc dc mc qc hA hB hL) rfl fun v' G' H' h hg => ?_)
 obtain ⟨he, rfl, rfl⟩ := h
 cases he
 refine ⟨fun w hw => hw.pk pkA, ?_⟩
 refine WB.oo 5 rfl (OW.callK rfl (rSame_fn G a b CA NA PA DA MA QA cc nc pc dc mc qc hA hB hL) rfl fun v' G' H' h hg => ?_)
 obtain ⟨he, rfl, rfl⟩ := h
 cases he
 refine ⟨fun w hw => hw.pk pkA, ?_⟩
 refine zb.eq 6 ?_
 rw [show (sameO a b == sameO a b) = true from beq_self_eq_true _]
 refine zb.move 7 ?_
 refine zb.ld 8 ?_
 refine zb.ld 9 ?_
 refine zb.ld 11 ?_
 refine zb.ld 12 ?_
 refine WB.oo 10 rfl (OW.callK rfl (SamePg_fn G a.consts b.consts a.procs b.procs [] [] CA PA none DA QA none cc pc 0 dc qc 0 hA.consts hB.consts hA.procs hB.procs (Sl.nil _ _ _) (Sl.nil _ _ _) hL.cl hL.pl (by simp) hL.pr) rfl fun v' G' H' h hg => ?_)
 obtain ⟨he, rfl, rfl⟩ := h
 cases he
 refine ⟨fun w hw => hw.pk pkA, ?_⟩
 refine WB.oo 13 rfl (OW.callK rfl (rSamePg_fn G a.consts b.consts a.procs b.procs [] [] CA PA none DA QA none cc pc 0 dc qc 0 hA.consts hB.consts hA.procs hB.procs (Sl.nil _ _ _) (Sl.nil _ _ _) hL.cl hL.pl (by simp) hL.pr) rfl fun v' G' H' h hg => ?_)
 obtain ⟨he, rfl, rfl⟩ := h
 cases he
 refine ⟨fun w hw => hw.pk pkA, ?_⟩
 refine zb.eq 14 ?_
 rw [show (sameG a.consts b.consts a.procs b.procs [] [] == sameG a.consts b.consts a.procs b.procs [] []) = true from beq_self_eq_true _]
 refine zb.pick 15 ?_
 refine zb.move 16 ?_
 refine zb.ld 17 ?_
 refine zb.ld 18 ?_
 refine WB.oo 19 rfl (OW.callK rfl (Same_fn G a a CA NA PA CA NA PA cc nc pc cc nc pc hA hA hL) rfl fun v' G' H' h hg => ?_)
 obtain ⟨he, rfl, rfl⟩ := h
 cases he
 refine ⟨fun w hw => hw.pk pkA, ?_⟩
 rw [sameO_refl]
 refine zb.pick 20 ?_
 refine zb.move 21 ?_
 refine WB.oo 22 rfl (OW.callK rfl (awakeL G hE) rfl fun v' G' H' h hg => ?_)
 obtain ⟨he, hg1, rfl⟩ := h
 cases he
 refine ⟨fun w hw => (hw.pk pkA).le hg1, ?_⟩
 refine zb.pick 23 ?_
 refine zb.assign 24 ?_
 refine WB.done kr ?_
 refine WK.un ?_
 refine WC.rt ?_
 exact QF.p1 (.inl rfl) rfl (.tmp rfl) (⟨rfl, hg1, rfl⟩)
end
section
open Go.RowKit Go.ChangeShapes Go.WideShapes Go.MapKept
theorem list2 {α : Type} {l : List α} (h : l.length = 2) : ∃ a b, l = [a, b] := match l, h with | [a, b], _ => ⟨a, b, rfl⟩
theorem list4 {α : Type} {l : List α} (h : l.length = 4) : ∃ a b c d, l = [a, b, c, d] := match l, h with | [a, b, c, d], _ => ⟨a, b, c, d, rfl⟩
theorem list6 {α : Type} {l : List α} (h : l.length = 6) : ∃ a b c d e f, l = [a, b, c, d, e, f] := match l, h with | [a, b, c, d, e, f], _ => ⟨a, b, c, d, e, f, rfl⟩
theorem cellsV : Tryz.prog.cellsOf 52 = 4 := by kernel_rfl
theorem cellsI : Tryz.prog.cellsOf 50 = 2 := by kernel_rfl
theorem cellsP : Tryz.prog.cellsOf 47 = 6 := by kernel_rfl
theorem cells_int : Tryz.prog.cellsOf 3 = 1 := by kernel_rfl
theorem cells_typ : Tryz.prog.cellsOf 44 = 1 := by kernel_rfl
theorem cells_cod : Tryz.prog.cellsOf 48 = 1 := by kernel_rfl
theorem cells_i64 : Tryz.prog.cellsOf 2 = 1 := by kernel_rfl
theorem cells_bool : Tryz.prog.cellsOf 4 = 1 := by kernel_rfl
theorem cells_str : Tryz.prog.cellsOf 9 = 1 := by kernel_rfl
theorem cells_lv : Tryz.prog.cellsOf 23 = 1 := by kernel_rfl
theorem cells_lp : Tryz.prog.cellsOf 24 = 1 := by kernel_rfl
theorem cells_li : Tryz.prog.cellsOf 45 = 1 := by kernel_rfl
theorem cells_lt : Tryz.prog.cellsOf 43 = 1 := by kernel_rfl
theorem bytes_typ : Tryz.prog.bytesOf 44 = 8 := by kernel_rfl
theorem bytesI : Tryz.prog.bytesOf 50 = 16 := by kernel_rfl
theorem bytesV : Tryz.prog.bytesOf 52 = 40 := by kernel_rfl
theorem bytesP : Tryz.prog.bytesOf 47 = 88 := by kernel_rfl
section
attribute [local irreducible] Tryz.prog
variable {H : Type} (enc : TypeId × Value → H) (w : World)
theorem Opens.value : Opens enc Tryz.prog w 52 Kd.val (fun v => v.s.size ≤ 140737488351232) := by
 intro fuel cs d ps hd hw
 obtain ⟨hl, hf⟩ := field_open enc Tryz.prog w Tryz.underlying52 hd hw
 obtain ⟨c0, c1, c2, c3, rfl⟩ := list4 (hl.trans cellsV)
 obtain ⟨t, h0, _⟩ := hf 0 _ rfl rfl rfl cells_typ (Opens.int enc Tryz.prog w Tryz.underlying44)
 obtain ⟨i, h1, _⟩ := hf 1 _ rfl rfl rfl cells_i64 (Opens.int enc Tryz.prog w Tryz.underlying2)
 obtain ⟨b, h2, _⟩ := hf 2 _ rfl rfl rfl cells_bool (Opens.bool enc Tryz.prog w Tryz.underlying4)
 obtain ⟨s, h3, hs⟩ := hf 3 _ rfl rfl rfl cells_str (Opens.str enc Tryz.prog w Tryz.underlying9)
 have e0 : [c0] = [Value.int .i64 t] := h0
 have e1 : [c1] = [Value.int .i64 i] := h1
 have e2 : [c2] = [Value.bool b] := h2
 have e3 : [c3] = [Value.string s] := h3
 cases e0; cases e1; cases e2; cases e3
 exact ⟨⟨t, i, b, s⟩, rfl, hs⟩
theorem Opens.instr : Opens enc Tryz.prog w 50 Kd.ins (fun _ => True) := by
 intro fuel cs d ps hd hw
 obtain ⟨hl, hf⟩ := field_open enc Tryz.prog w Tryz.underlying50 hd hw
 obtain ⟨c0, c1, rfl⟩ := list2 (hl.trans cellsI)
 obtain ⟨c, h0, _⟩ := hf 0 _ rfl rfl rfl cells_cod (Opens.int enc Tryz.prog w Tryz.underlying48)
 obtain ⟨n, h1, _⟩ := hf 1 _ rfl rfl rfl cells_int (Opens.int enc Tryz.prog w Tryz.underlying3)
 have e0 : [c0] = [Value.int .i64 c] := h0
 have e1 : [c1] = [Value.int .i64 n] := h1
 cases e0; cases e1
 exact ⟨(c, n), rfl, trivial⟩
theorem Opens.proc : Opens enc Tryz.prog w 47 Kd.prc (fun p => p.params.length * 8 ≤ 140737488351232 ∧ p.code.length * 16 ≤ 140737488351232) := by
 intro fuel cs d ps hd hw
 obtain ⟨hl, hf⟩ := field_open enc Tryz.prog w Tryz.underlying47 hd hw
 obtain ⟨c0, c1, c2, c3, c4, c5, rfl⟩ := list6 (hl.trans cellsP)
 obtain ⟨nm, h0, _⟩ := hf 0 _ rfl rfl rfl cells_str (Opens.str enc Tryz.prog w Tryz.underlying9)
 obtain ⟨ex, h1, _⟩ := hf 1 _ rfl rfl rfl cells_bool (Opens.bool enc Tryz.prog w Tryz.underlying4)
 obtain ⟨pr, h2, hp⟩ := hf 2 _ rfl rfl rfl cells_lt (Opens.slice enc Tryz.prog w Tryz.underlying43 (k := Kd.int .i64) cells_typ (by decide) bytes_typ (Opens.int enc Tryz.prog w Tryz.underlying44))
 obtain ⟨lo, h3, _⟩ := hf 3 _ rfl rfl rfl cells_int (Opens.int enc Tryz.prog w Tryz.underlying3)
 obtain ⟨re, h4, _⟩ := hf 4 _ rfl rfl rfl cells_typ (Opens.int enc Tryz.prog w Tryz.underlying44)
 obtain ⟨co, h5, hc⟩ := hf 5 _ rfl rfl rfl cells_li (Opens.slice enc Tryz.prog w Tryz.underlying45 (k := Kd.ins) cellsI (by decide) bytesI (Opens.instr enc w))
 obtain ⟨PA, pc, h2', _, hPA⟩ := h2
 obtain ⟨CA, cc, h5', _, hCA⟩ := h5
 have e0 : [c0] = [Value.string nm] := h0
 have e1 : [c1] = [Value.bool ex] := h1
 have e2 : [c2] = [Value.slice PA pr.length pc] := h2'
 have e3 : [c3] = [Value.int .i64 lo] := h3
 have e4 : [c4] = [Value.int .i64 re] := h4
 have e5 : [c5] = [Value.slice CA co.length cc] := h5'
 cases e0; cases e1; cases e2; cases e3; cases e4; cases e5
 exact ⟨⟨nm, ex, pr, lo, re, co⟩, ⟨PA, pc, CA, cc, rfl, hPA, hCA⟩, hp.1, hc.1⟩
end
attribute [local irreducible] Tryz.prog
end
section
open Go.RowKit Go.ChangeShapes Go.WideShapes Go.MapKept
section
attribute [local irreducible] Tryz.prog
variable {H : Type} (enc : TypeId × Value → H) (w : World)
end
end
section
open Go.RowKit Go.ChangeShapes Go.WideShapes Go.MapKept
theorem cellsNd : Tryz.prog.cellsOf 56 = 4 := by kernel_rfl
theorem bytesNd : Tryz.prog.bytesOf 56 = 64 := by kernel_rfl
theorem cellsOb : Tryz.prog.cellsOf 38 = 4 := by kernel_rfl
theorem cells_lnd : Tryz.prog.cellsOf 31 = 1 := by kernel_rfl
section
attribute [local irreducible] Tryz.prog
variable {H : Type} (enc : TypeId × Value → H) (w : World)
theorem Opens.need : Opens enc Tryz.prog w 56 Kd.ned (fun p => p.params.length ≤ 100000000000000) := by
 intro fuel cs d ps hd hw
 obtain ⟨hl, hf⟩ := field_open enc Tryz.prog w Tryz.underlying56 hd hw
 obtain ⟨c0, c1, c2, c3, rfl⟩ := list4 (hl.trans cellsNd)
 obtain ⟨a, h0, _⟩ := hf 0 _ rfl rfl rfl cells_str (Opens.str enc Tryz.prog w Tryz.underlying9)
 obtain ⟨b, h1, _⟩ := hf 1 _ rfl rfl rfl cells_str (Opens.str enc Tryz.prog w Tryz.underlying9)
 obtain ⟨pr, h2, hp⟩ := hf 2 _ rfl rfl rfl cells_lt (Opens.slice enc Tryz.prog w Tryz.underlying43 (k := Kd.int .i64) cells_typ (by decide) bytes_typ (Opens.int enc Tryz.prog w Tryz.underlying44))
 obtain ⟨re, h3, _⟩ := hf 3 _ rfl rfl rfl cells_typ (Opens.int enc Tryz.prog w Tryz.underlying44)
 obtain ⟨PA, pc, h2', _, hPA⟩ := h2
 have e0 : [c0] = [Value.string a] := h0
 have e1 : [c1] = [Value.string b] := h1
 have e2 : [c2] = [Value.slice PA pr.length pc] := h2'
 have e3 : [c3] = [Value.int .i64 re] := h3
 cases e0; cases e1; cases e2; cases e3
 exact ⟨⟨a, b, pr, re⟩, ⟨PA, pc, rfl, hPA⟩, by have := hp.1; dsimp only; omega⟩
theorem open_obj {v : Value} {d : DataW H} {ps : List MemPlace} {base : Nat} (hval : Value.okWide Tryz.prog w .any base 38 v) (hd : DataW.Trod enc Tryz.prog w 0 (fun _ => true) true 38 v d ps) (hw : ∀ n ∈ d.weights Tryz.prog 38, n ≤ reachBytes) :
  ∃ (o : Ob) (CA NA PA : Option Addr) (cc nc pc : Nat), v = .agg (obC o CA NA PA cc nc pc) ∧ ORep (Gw w) o CA NA PA ∧ SLim o := by
 obtain ⟨cells, rfl, _⟩ := okWide_struct Tryz.underlying38 hval
 obtain ⟨fuel, hd⟩ := hd
 obtain ⟨hl, hf⟩ := field_open enc Tryz.prog w Tryz.underlying38 hd hw
 have hcl : (Value.agg cells).cells.toList = cells.toList := rfl
 rw [hcl] at hl hf
 obtain ⟨c0, c1, c2, c3, hcs⟩ := list4 (hl.trans cellsOb)
 rw [hcs] at hf
 obtain ⟨pt, h0, _⟩ := hf 0 _ rfl rfl rfl cells_str (Opens.str enc Tryz.prog w Tryz.underlying9)
 obtain ⟨co, h1, hc⟩ := hf 1 _ rfl rfl rfl cells_lv (Opens.slice enc Tryz.prog w Tryz.underlying23 (k := Kd.val) cellsV (by decide) bytesV (Opens.value enc w))
 obtain ⟨ne, h2, hn⟩ := hf 2 _ rfl rfl rfl cells_lnd (Opens.slice enc Tryz.prog w Tryz.underlying31 (k := Kd.ned) cellsNd (by decide) bytesNd (Opens.need enc w))
 obtain ⟨pr, h3, hp⟩ := hf 3 _ rfl rfl rfl cells_lp (Opens.slice enc Tryz.prog w Tryz.underlying24 (k := Kd.prc) cellsP (by decide) bytesP (Opens.proc enc w))
 obtain ⟨CA, cc, h1', _, hCA⟩ := h1
 obtain ⟨NA, nc, h2', _, hNA⟩ := h2
 obtain ⟨PA, pc, h3', _, hPA⟩ := h3
 have e0 : [c0] = [Value.string pt] := h0
 have e1 : [c1] = [Value.slice CA co.length cc] := h1'
 have e2 : [c2] = [Value.slice NA ne.length nc] := h2'
 have e3 : [c3] = [Value.slice PA pr.length pc] := h3'
 cases e0; cases e1; cases e2; cases e3
 refine ⟨⟨pt, co, ne, pr⟩, CA, NA, PA, cc, nc, pc, ?_, ⟨hCA, hNA, hPA⟩, ⟨?_, ?_, ?_, fun q hq => ?_, fun q hq => ?_⟩⟩
 ·unfold obC
  congr 1
  cases cells
  simp at hcs
  rw [hcs]
 ·have := hc.1; dsimp only; omega
 ·have := hn.1; dsimp only; omega
 ·have := hp.1; dsimp only; omega
 ·have := hn.2 q hq; omega
 ·have := hp.2 q hq; omega
end
end
end Go.Proofs.YtcnlkfocbbkdhaaGreatDoor.Gb
