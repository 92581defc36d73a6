/- The document's answer: its small functions. The document's answer: lists of values, frames. The document's answer: a machine's frames, turned. The document's answer: how many values an instruction takes. The document's answer: are the values of their types? The document's answer: what an operator makes of values. The document's answer: can a step not be taken? The document's step and the machine's: the plain law. -/
import Derived.Test.YtjgohbepageicaaOi
namespace Go.Proofs.Ytjgohbepageicaa.Gb
open Go Go.Proofs
set_option linter.unusedVariables false
set_option linter.unusedSimpArgs false
set_option linter.unusedSectionVars false
attribute [local irreducible] Try.prog

theorem rsized_fn (G : Gh) (nm : ByteArray) (ex : Bool) (PA : Option Addr) (n pc : Nat) (lo re : Int) (cv : Value) :
    Fn Try.prog 43 #[.agg #[.string nm, .bool ex, .slice PA n pc, .int .i64 lo, .int .i64 re, cv]] G [] fun e G' H' => e = .returned (.bool (decide ((n : Int) ≤ lo) && decide (lo ≤ 64))) ∧ G = G' ∧ H' = [] := by
  refine Fn.enter Try.func43 rfl rfl fun w0 => ?_
  refine WC.seq ?_
  refine WC.region ?_
  refine WL.op (by kernel_rfl) (OW.box rfl rfl fun b1 => ?_)
  cases hb : decide ((n : Int) ≤ lo)
  · refine go ?_
    refine WC.ret ?_
    refine WK.un ?_
    exact QF.p1 (.inl rfl) rfl (.tmp rfl) (⟨by simp, rfl, rfl⟩)
  · refine go ?_
    refine WC.ret ?_
    refine WK.un ?_
    exact QF.p1 (.inl rfl) rfl (.tmp rfl) (⟨by simp, rfl, rfl⟩)

theorem rvalue_fn (G : Gh) (v : V) : Fn Try.prog 56 #[.agg #[.int .i64 v.t, .int .i64 v.i, .bool v.b, .string v.s]] G [] fun e G' H' => e = .returned (.bool (vOK v)) ∧ G = G' ∧ H' = [] := by
  refine Fn.enter Try.func56 rfl rfl fun w0 => ?_
  obtain ⟨t, i, b, s⟩ := v
  refine WC.seq ?_
  refine WC.region ?_
  refine WL.op (by kernel_rfl) (OW.box rfl rfl fun b1 => ?_)
  by_cases h1 : t = 1
  · have e1 : (t == 1) = true := by simpa using h1
    cases b
    · refine go ?_
      refine WC.ret ?_
      refine WK.un ?_
      exact QF.p1 (.inl rfl) rfl (.tmp rfl) (⟨by simp [vOK, h1], rfl, rfl⟩)
    · refine go ?_
      refine WC.ret ?_
      refine WK.un ?_
      exact QF.p1 (.inl rfl) rfl (.tmp rfl) (⟨by simp [vOK, h1], rfl, rfl⟩)
  have e1 : (t == 1) = false := by simpa using h1
  by_cases h2 : t = 2
  · have e2 : (t == 2) = true := by simpa using h2
    cases hi : (i == 0)
    · refine go ?_
      refine WC.ret ?_
      refine WK.un ?_
      exact QF.p1 (.inl rfl) rfl (.tmp rfl) (⟨by simp [vOK, h2, hi], rfl, rfl⟩)
    · refine go ?_
      refine WC.ret ?_
      refine WK.un ?_
      exact QF.p1 (.inl rfl) rfl (.tmp rfl) (⟨by simp [vOK, h2, hi], rfl, rfl⟩)
  have e2 : (t == 2) = false := by simpa using h2
  by_cases h3 : t = 3
  · have e3 : (t == 3) = true := by simpa using h3
    cases hi : (i == 0)
    · refine go ?_
      refine WC.ret ?_
      refine WK.un ?_
      exact QF.p1 (.inl rfl) rfl (.tmp rfl) (⟨by simp [vOK, h3, hi], rfl, rfl⟩)
    · cases b
      · refine go ?_
        refine WC.ret ?_
        refine WK.un ?_
        exact QF.p1 (.inl rfl) rfl (.tmp rfl) (⟨by simp [vOK, h3, hi], rfl, rfl⟩)
      · refine go ?_
        refine WC.ret ?_
        refine WK.un ?_
        exact QF.p1 (.inl rfl) rfl (.tmp rfl) (⟨by simp [vOK, h3, hi], rfl, rfl⟩)
  have e3 : (t == 3) = false := by simpa using h3
  refine go ?_
  refine WC.ret ?_
  refine WK.un ?_
  exact QF.p1 (.inl rfl) rfl (.tmp rfl) (⟨by simp [vOK, h1, h2, h3], rfl, rfl⟩)

theorem rtruth_fn (G : Gh) (b : Bool) : Fn Try.prog 72 #[.bool b] G [] fun e G' H' => e = .returned (.agg #[.int .i64 2, .int .i64 0, .bool b, .string ⟨#[]⟩]) ∧ G = G' ∧ H' = [] := by
  refine Fn.enter Try.func72 rfl rfl fun w0 => ?_
  refine WC.seq ?_
  refine WC.region ?_
  refine WL.op (by kernel_rfl) (OW.alloc rfl fun b1 => ?_)
  refine go ?_
  refine WC.ret ?_
  refine WK.un ?_
  exact QF.p1 (.inl rfl) rfl (.cell rfl inferInstance inferInstance (by (repeat first | exact .here | apply At.there)) rfl rfl) (⟨rfl, rfl, rfl⟩)
theorem rnumber_fn (G : Gh) (n : Int) : Fn Try.prog 74 #[.int .i64 n] G [] fun e G' H' => e = .returned (.agg #[.int .i64 1, .int .i64 n, .bool false, .string ⟨#[]⟩]) ∧ G = G' ∧ H' = [] := by
  refine Fn.enter Try.func74 rfl rfl fun w0 => ?_
  refine WC.seq ?_
  refine WC.region ?_
  refine WL.op (by kernel_rfl) (OW.alloc rfl fun b1 => ?_)
  refine go ?_
  refine WC.ret ?_
  refine WK.un ?_
  exact QF.p1 (.inl rfl) rfl (.cell rfl inferInstance inferInstance (by (repeat first | exact .here | apply At.there)) rfl rfl) (⟨rfl, rfl, rfl⟩)
def lessR (u v : V) : Bool := if u.t = 1 then decide (u.i < v.i) else Op.bytesLess u.s.toList v.s.toList
theorem rless_fn (G : Gh) (u v : V) : Fn Try.prog 73 #[.agg #[.int .i64 u.t, .int .i64 u.i, .bool u.b, .string u.s], .agg #[.int .i64 v.t, .int .i64 v.i, .bool v.b, .string v.s]] G [] fun e G' H' => e = .returned (.bool (lessR u v)) ∧ G = G' ∧ H' = [] := by
  refine Fn.enter Try.func73 rfl rfl fun w0 => ?_
  refine WC.seq ?_
  refine WC.region ?_
  refine WL.op (by kernel_rfl) (OW.box rfl rfl fun b1 => ?_)
  refine WL.op (by kernel_rfl) (OW.box rfl rfl fun b2 => ?_)
  by_cases h1 : u.t = 1
  · have e1 : (u.t == 1) = true := by simpa using h1
    refine go ?_
    refine WC.ret ?_
    refine WK.un ?_
    exact QF.p1 (.inl rfl) rfl (.tmp rfl) (⟨by simp [lessR, h1], rfl, rfl⟩)
  · have e1 : (u.t == 1) = false := by simpa using h1
    refine go ?_
    refine WC.ret ?_
    refine WK.un ?_
    exact QF.p1 (.inl rfl) rfl (.tmp rfl) (⟨by simp [lessR, h1], rfl, rfl⟩)
def quoR (a b : Int) : Int := if b = -1 then IntKind.i64.wrap (-a) else IntKind.i64.wrap (a.tdiv b)
def restR (a b : Int) : Int := if b = -1 then 0 else a.tmod b
theorem rquo_fn (G : Gh) (a b : Int) (hb : b ≠ 0) : Fn Try.prog 75 #[.int .i64 a, .int .i64 b] G [] fun e G' H' => e = .returned (.int .i64 (quoR a b)) ∧ G = G' ∧ H' = [] := by
  refine Fn.enter Try.func75 rfl rfl fun w0 => ?_
  by_cases h1 : b = -1
  · have e1 : (b == -1) = true := by simpa using h1
    refine go ?_
    refine WC.ret ?_
    refine WK.un ?_
    exact QF.p1 (.inl rfl) rfl (.tmp rfl) (⟨by simp [quoR, h1], rfl, rfl⟩)
  · have e1 : (b == -1) = false := by simpa using h1
    refine go ?_
    refine WL.p (Gp.quo rfl rfl hb) (by kernel_rfl) rfl ?_
    refine go ?_
    refine WC.ret ?_
    refine WK.un ?_
    exact QF.p1 (.inl rfl) rfl (.tmp rfl) (⟨by simp [quoR, h1], rfl, rfl⟩)
theorem rrest_fn (G : Gh) (a b : Int) (hb : b ≠ 0) : Fn Try.prog 76 #[.int .i64 a, .int .i64 b] G [] fun e G' H' => e = .returned (.int .i64 (restR a b)) ∧ G = G' ∧ H' = [] := by
  refine Fn.enter Try.func76 rfl rfl fun w0 => ?_
  by_cases h1 : b = -1
  · have e1 : (b == -1) = true := by simpa using h1
    refine go ?_
    refine WC.ret ?_
    refine WK.un ?_
    exact QF.p1 (.inl rfl) rfl (.tmp rfl) (⟨by simp [restR, h1], rfl, rfl⟩)
  · have e1 : (b == -1) = false := by simpa using h1
    refine go ?_
    refine WL.p (Gp.rem rfl rfl hb) (by kernel_rfl) rfl ?_
    refine go ?_
    refine WC.ret ?_
    refine WK.un ?_
    exact QF.p1 (.inl rfl) rfl (.tmp rfl) (⟨by simp [restR, h1], rfl, rfl⟩)
def numbB (c : Int) : Bool := decide (c = 1 ∨ c = 2 ∨ c = 3 ∨ c = 5 ∨ c = 6 ∨ c = 7 ∨ c = 8)
theorem rnumbered_fn (G : Gh) (c : Int) : Fn Try.prog 71 #[.int .i64 c] G [] fun e G' H' => e = .returned (.bool (numbB c)) ∧ G = G' ∧ H' = [] := by
  refine Fn.enter Try.func71 rfl rfl fun w0 => ?_
  by_cases h : c = 1 ∨ c = 2 ∨ c = 3 ∨ c = 5 ∨ c = 6 ∨ c = 7 ∨ c = 8
  · rw [numbB, decide_eq_true h]
    rcases h with rfl | rfl | rfl | rfl | rfl | rfl | rfl <;> refine go ?_ <;> refine WC.ret ?_ <;> refine WK.un ?_ <;> exact QF.p1 (.inl rfl) rfl (.tmp rfl) ⟨rfl, rfl, rfl⟩
  · rw [numbB, decide_eq_false h]
    simp only [not_or] at h
    obtain ⟨h1, h2, h3, h5, h6, h7, h8⟩ := h
    have e1 : (c == 1) = false := by simpa using h1
    have e2 : (c == 2) = false := by simpa using h2
    have e3 : (c == 3) = false := by simpa using h3
    have e5 : (c == 5) = false := by simpa using h5
    have e6 : (c == 6) = false := by simpa using h6
    have e7 : (c == 7) = false := by simpa using h7
    have e8 : (c == 8) = false := by simpa using h8
    refine go ?_
    refine WC.ret ?_
    refine WK.un ?_
    exact QF.p1 (.inl rfl) rfl (.tmp rfl) (⟨rfl, rfl, rfl⟩)

theorem values_fn (G : Gh) (H : List Own) (A : Option Addr) (ca : Nat) (l : List V) (hr : Rds G H A (vflat l)) (hb : l.length * 40 ≤ 140737488355328) :
    Fn Try.prog 57 #[.slice A l.length ca] G H fun e G' H' => ∃ A' cap' x', e = .returned (.slice A' l.length cap') ∧ G = G' ∧ VVec A' cap' l x' ∧ H' = x' :: H := by
  refine Fn.enter Try.func57 rfl rfl fun w0 => ?_
  refine WC.nothing ?_
  refine go ?_
  refine WL.op (by kernel_rfl) (OW.append rfl rfl (by kernel_rfl) (by kernel_rfl) (A := none) (n := 0) (cap := 0) (cs := []) ⟨rfl, .inl ⟨rfl, rfl, rfl, rfl⟩⟩ .here (hr.cons _) (vflat_length l) (vflat_one l) (by omega) (by omega) rfl fun A' cap' o' hv' => ?_)
  refine go ?_
  refine WC.ret ?_
  refine WK.un ?_
  exact QF.p1 (.inl rfl) rfl (.tmp rfl) (⟨A', cap', o', by rw [Nat.zero_add], rfl, by unfold VVec; rw [← Nat.zero_add l.length]; exact hv', rfl⟩)
end Go.Proofs.Ytjgohbepageicaa.Gb
namespace Go.Proofs.Ytjgohbepageicaa.Gb
open Go Go.Proofs
set_option linter.unusedVariables false
set_option linter.unusedSimpArgs false
set_option linter.unusedSectionVars false
attribute [local irreducible] Try.prog

def typedR (l : List V) (ts : List Int) : Bool := l.all vOK && decide (tys l = ts)
theorem typedR_bad {l : List V} {ts : List Int} {i : Nat} {u : V} {t : Int} (hu : l[i]? = some u) (ht : ts[i]? = some t) (h : ¬ (vOK u = true ∧ u.t = t)) : typedR l ts = false := by
  unfold typedR
  rw [Bool.and_eq_false_iff]
  by_cases h1 : vOK u = true
  · right
    refine decide_eq_false fun e => h ⟨h1, ?_⟩
    have h2 := congrArg (fun l => l[i]?) e
    simp only [tys, List.getElem?_map, hu, ht, Option.map_some, Option.some.injEq] at h2
    exact h2
  · left
    refine Bool.eq_false_iff.2 fun e => h1 ?_
    exact List.all_eq_true.1 e u (List.mem_of_getElem? hu)
theorem typedR_good {l : List V} {ts : List Int} (hl : l.length = ts.length) (h : ∀ (i : Nat) (u : V) (t : Int), l[i]? = some u → ts[i]? = some t → vOK u = true ∧ u.t = t) : typedR l ts = true := by
  unfold typedR
  rw [Bool.and_eq_true, List.all_eq_true, decide_eq_true_iff]
  refine ⟨fun u hu => ?_, ?_⟩
  · obtain ⟨i, hi⟩ := List.getElem?_of_mem hu
    have hlt := (List.getElem?_eq_some_iff.1 hi).1
    exact (h i u _ hi (List.getElem?_eq_getElem (by omega))).1
  · refine List.ext_getElem? fun i => ?_
    rw [tys, List.getElem?_map]
    cases hu : l[i]? with
    | none => rw [List.getElem?_eq_none_iff] at hu; rw [List.getElem?_eq_none (by omega)]; rfl
    | some u =>
      have hlt := (List.getElem?_eq_some_iff.1 hu).1
      rw [List.getElem?_eq_getElem (by omega : i < ts.length)]
      exact congrArg some (h i u _ hu (List.getElem?_eq_getElem (by omega))).2

theorem rtyped_fn (G : Gh) (H : List Own) (A B : Option Addr) (ca cb : Nat) (l : List V) (ts : List Int) (ha : Rds G H A (vflat l)) (hb : Sl (Kd.int .i64) G B ts) (hl : l.length ≤ 100000000000000) :
    Fn Try.prog 44 #[.slice A l.length ca, .slice B ts.length cb] G H fun e G' H' => e = .returned (.bool (typedR l ts)) ∧ G = G' ∧ H' = H := by
  refine Fn.enter Try.func44 rfl rfl fun w0 => ?_
  by_cases hne : l.length = ts.length
  rotate_left
  · have e1 : ((l.length : Int) != (ts.length : Int)) = true := by rw [bne_iff_ne]; omega
    refine go ?_
    refine WC.ret ?_
    refine WK.un ?_
    exact QF.p1 (.inl rfl) rfl (.tmp rfl) (⟨by rw [typedR, decide_eq_false (fun e => hne (by rw [← e]; simp [tys])), Bool.and_false], rfl, rfl⟩)
  have e1 : ((l.length : Int) != (ts.length : Int)) = false := by rw [hne]; simp
  refine go ?_
  refine WC.loop (X := Nat) (fun i => [(5, .int .i64 i), (0, .slice A l.length ca), (1, .slice B ts.length cb)]) (fun _ => G) (fun _ => H) (fun i => l.length - i) (fun i => i ≤ l.length ∧ ∀ (j : Nat) (u : V) (t : Int), j < i → l[j]? = some u → ts[j]? = some t → vOK u = true ∧ u.t = t) 0 ⟨Nat.zero_le _, fun j u t h => by omega⟩ (by exact ⟨rfl, rfl, rfl, trivial⟩) rfl (List.Sublist.refl _) fun i hx => ?_
  obtain ⟨hi, hall⟩ := hx
  by_cases hlt : i < l.length
  rotate_left
  · have e2 : decide ((i : Int) < (l.length : Int)) = false := decide_eq_false (by omega)
    refine go ?_
    refine WC.ret ?_
    refine WK.un ?_
    exact QF.p1 (.inl rfl) rfl (.tmp rfl) (⟨by rw [typedR_good hne (fun j u t h1 h2 => hall j u t (by have := (List.getElem?_eq_some_iff.1 h1).1; omega) h1 h2)], rfl, rfl⟩)
  have e2 : decide ((i : Int) < (l.length : Int)) = true := decide_eq_true (by omega)
  obtain ⟨u, hu⟩ : ∃ u, l[i]? = some u := ⟨_, List.getElem?_eq_getElem hlt⟩
  obtain ⟨t, ht⟩ : ∃ t, ts[i]? = some t := ⟨_, List.getElem?_eq_getElem (by omega)⟩
  obtain ⟨qb, qo, cs, rfl, hK, hcs⟩ := hb i t ht
  obtain rfl : cs = [.int .i64 t] := hK
  rcases ha with h0 | ⟨lb, lo, rfl, hread⟩
  · have h := congrArg List.length h0
    rw [vflat_length] at h; simp only [List.length_nil] at h; omega
  have hbad : ¬ (vOK u = true ∧ u.t = t) → typedR l ts = false := typedR_bad hu ht
  refine go ?_
  refine WC.draw mixed ?_
  refine WA.tp (i := 0) rfl (by kernel_rfl) (by kernel_rfl) rfl (Gp.move rfl) ?_
  refine WA.tp (i := 1) rfl (by kernel_rfl) (by kernel_rfl) rfl (Gp.move rfl) ?_
  refine WA.tp (i := 2) rfl (by kernel_rfl) (by kernel_rfl) rfl (Gp.indexAddr rfl rfl (by first | assumption | omega | decide) (by first | assumption | omega | decide | (simp only [List.length_cons, List.length_nil]; decide))) ?_
  refine WA.tv (i := 3) rfl (by kernel_rfl) (by kernel_rfl) rfl (Gv.loadRN rfl hread (by repeat (first | exact List.Sublist.refl _ | exact List.nil_sublist _ | apply List.Sublist.cons)) (vflat_elem l i u hu) rfl) ?_
  refine WA.one (i := 4) (by kernel_rfl) rfl (by kernel_rfl) (OW.callK rfl (rvalue_fn G u) rfl fun v' G' H' h hg => ?_)
  obtain ⟨he, rfl, rfl⟩ := h
  cases he
  refine WA.tp (i := 5) rfl (by kernel_rfl) (by kernel_rfl) rfl (Gp.notB rfl) ?_
  refine WA.tp (i := 6) rfl (by kernel_rfl) (by kernel_rfl) rfl (Gp.move rfl) ?_
  cases hv : vOK u with
  | false =>
    refine WA.sp (i := 7) rfl (by kernel_rfl) (by kernel_rfl) rfl ?_
    refine WA.sp (i := 8) rfl (by kernel_rfl) (by kernel_rfl) rfl ?_
    refine WA.sp (i := 9) rfl (by kernel_rfl) (by kernel_rfl) rfl ?_
    refine WA.sp (i := 10) rfl (by kernel_rfl) (by kernel_rfl) rfl ?_
    refine WA.sp (i := 11) rfl (by kernel_rfl) (by kernel_rfl) rfl ?_
    refine WA.sp (i := 12) rfl (by kernel_rfl) (by kernel_rfl) rfl ?_
    refine WA.sp (i := 13) rfl (by kernel_rfl) (by kernel_rfl) rfl ?_
    refine WA.sp (i := 14) rfl (by kernel_rfl) (by kernel_rfl) rfl ?_
    refine WA.sp (i := 15) rfl (by kernel_rfl) (by kernel_rfl) rfl ?_
    refine WA.sp (i := 16) rfl (by kernel_rfl) (by kernel_rfl) rfl ?_
    (first | refine WA.tp (i := 17) rfl (by kernel_rfl) (by kernel_rfl) rfl (Gp.pickT rfl rfl) ?_ | refine WA.tp (i := 17) rfl (by kernel_rfl) (by kernel_rfl) rfl (Gp.pickF rfl rfl) ?_)
    refine WA.done (by kernel_rfl) ?_
    refine WK.un ?_
    refine go ?_
    refine WC.ret ?_
    refine WK.un ?_
    exact QF.p1 (.inl rfl) rfl (.tmp rfl) (⟨by rw [hbad (fun h => by rw [hv] at h; cases h.1)], rfl, rfl⟩)
  | true =>
    refine WA.tp (i := 7) rfl (by kernel_rfl) (by kernel_rfl) rfl (Gp.move rfl) ?_
    refine WA.tp (i := 8) rfl (by kernel_rfl) (by kernel_rfl) rfl (Gp.move rfl) ?_
    refine WA.tp (i := 9) rfl (by kernel_rfl) (by kernel_rfl) rfl (Gp.indexAddr rfl rfl (by first | assumption | omega | decide) (by first | assumption | omega | decide | (simp only [List.length_cons, List.length_nil]; decide))) ?_
    refine WA.tp (i := 10) rfl (by kernel_rfl) (by kernel_rfl) rfl (Gp.fieldAddr rfl) ?_
    refine WA.tv (i := 11) rfl (by kernel_rfl) (by kernel_rfl) rfl (Gv.loadR1 (i := ((i : Nat) : Int).toNat * 4 + 0) (v := .int .i64 u.t) rfl hread (by repeat (first | exact List.Sublist.refl _ | exact List.nil_sublist _ | apply List.Sublist.cons)) (by have h := vflat_elem l i u hu; have h1 := congrArg (fun l => l[0]?) h; simpa [vcells, List.getElem?_take, List.getElem?_drop] using h1)) ?_
    refine WA.tp (i := 12) rfl (by kernel_rfl) (by kernel_rfl) rfl (Gp.move rfl) ?_
    refine WA.tp (i := 13) rfl (by kernel_rfl) (by kernel_rfl) rfl (Gp.move rfl) ?_
    refine WA.tp (i := 14) rfl (by kernel_rfl) (by kernel_rfl) rfl (Gp.indexAddr rfl rfl (by first | assumption | omega | decide) (by first | assumption | omega | decide | (simp only [List.length_cons, List.length_nil]; decide))) ?_
    refine WA.tv (i := 15) rfl (by kernel_rfl) (by kernel_rfl) rfl (Gv.loadG1 (i := 0) rfl hcs rfl) ?_
    by_cases ht2 : u.t = t
    rotate_left
    ·
      refine WA.tp (i := 16) rfl (by kernel_rfl) (by kernel_rfl) rfl (Gp.neI' rfl rfl (show (u.t != t) = true by simpa using ht2)) ?_
      (first | refine WA.tp (i := 17) rfl (by kernel_rfl) (by kernel_rfl) rfl (Gp.pickT rfl rfl) ?_ | refine WA.tp (i := 17) rfl (by kernel_rfl) (by kernel_rfl) rfl (Gp.pickF rfl rfl) ?_)
      refine WA.done (by kernel_rfl) ?_
      refine WK.un ?_
      refine go ?_
      refine WC.ret ?_
      refine WK.un ?_
      exact QF.p1 (.inl rfl) rfl (.tmp rfl) (⟨by rw [hbad (fun h => ht2 h.2)], rfl, rfl⟩)
    refine WA.tp (i := 16) rfl (by kernel_rfl) (by kernel_rfl) rfl (Gp.neI' rfl rfl (show (u.t != t) = false by simpa using ht2)) ?_
    (first | refine WA.tp (i := 17) rfl (by kernel_rfl) (by kernel_rfl) rfl (Gp.pickT rfl rfl) ?_ | refine WA.tp (i := 17) rfl (by kernel_rfl) (by kernel_rfl) rfl (Gp.pickF rfl rfl) ?_)
    refine WA.done (by kernel_rfl) ?_
    refine WK.un ?_
    have e3 : IntKind.i64.wrap ((i : Int) + 1) = ((i + 1 : Nat) : Int) := by rw [wrap_small (by omega) (by omega)]; omega
    refine go ?_
    exact WK.again (i + 1) (by omega) ⟨by omega, fun j u' t' hj h1 h2 => by
      rcases Nat.lt_or_ge j i with h | h
      · exact hall j u' t' h h1 h2
      · obtain rfl : j = i := by omega
        rw [hu] at h1; rw [ht] at h2; cases h1; cases h2
        exact ⟨hv, ht2⟩⟩ (by exact ⟨rfl, rfl, rfl, trivial⟩) rfl (List.Sublist.refl _)

theorem padded_succ {args : List V} {lo : Int} {j : Nat} (h : args.length + j = lo.toNat) : args ++ List.replicate j V0 = padded args lo := by
  unfold padded; rw [show lo.toNat - args.length = j by omega]

abbrev pgV (CA PA QA : Option Addr) (cn pn qn cc pc qc : Nat) : List Value := [.slice CA cn cc, .slice PA pn pc, .slice QA qn qc]

theorem rframe_fn (G : Gh) (CA PA QA : Option Addr) (cn qn cc pc qc : Nat) (procs : List Pr) (hP : Sl Kd.prc G PA procs) (i : Nat) (q : Pr) (hq : procs[i]? = some q) (hpn : procs.length ≤ 10000000000000) (Ha : List Own) (AA : Option Addr) (ac : Nat) (args : List V) (hr : Rds G Ha AA (vflat args)) (hla : (args.length : Int) ≤ q.locals) (hlo : q.locals ≤ 64) :
    Fn Try.prog 45 #[.agg #[.slice CA cn cc, .slice PA procs.length pc, .slice QA qn qc], .int .i64 i, .slice AA args.length ac] G Ha
      fun e G' H' => ∃ A' cap' x', e = .returned (.agg #[.int .i64 i, .int .i64 0, .slice A' (padded args q.locals).length cap', .slice none 0 0]) ∧ G = G' ∧ VVec A' cap' (padded args q.locals) x' ∧ H' = x' :: Ha := by
  have hil := (List.getElem?_eq_some_iff.1 hq).1
  obtain ⟨pb, po, cs, rfl, ⟨QPA, qpc, ICA, icc, rfl, _, _⟩, hcs⟩ := hP i q hq
  refine Fn.enter Try.func45 rfl rfl fun w0 => ?_
  refine WC.seq ?_
  refine WC.region ?_
  refine WL.op (by kernel_rfl) (OW.box rfl rfl fun b1 => ?_)
  refine WL.op (by kernel_rfl) (OW.alloc rfl fun b2 => ?_)
  refine go ?_
  refine WL.op (by kernel_rfl) (OW.callK rfl (values_fn G Ha AA ac args hr (by omega)) rfl fun v' G' H' h hg => ?_)
  obtain ⟨A1, cap1, x1, he, rfl, hx1, rfl⟩ := h
  cases he
  refine go ?_
  refine WL.op (by kernel_rfl) (OW.alloc rfl fun b3 => ?_)
  refine go ?_
  refine WC.pick (.blk b3 (.cells #[.int .i64 i, .int .i64 0, .slice A1 args.length cap1, .slice none 0 0] 96 (0, 0)) :: x1 :: .blk b1 (.cells #[.slice CA cn cc, .slice (some ⟨pb, po, none⟩) procs.length pc, .slice QA qn qc] 26 (0, 0)) :: .blk b2 (.cells #[.int .i64 0, .int .i64 0, .slice none 0 0, .slice none 0 0] 96 (0, 0)) :: Ha) ?_
  refine WC.loop (X := Nat × Option Addr × Nat × Own) (fun t => [(7, .pointer (some ⟨b3, 0, none⟩)), (3, .pointer (some ⟨b1, 0, none⟩)), (1, .int .i64 i), (6, .pointer (some ⟨b2, 0, none⟩))]) (fun _ => G)
    (fun t => .blk b3 (.cells #[.int .i64 i, .int .i64 0, .slice t.2.1 (args ++ List.replicate t.1 V0).length t.2.2.1, .slice none 0 0] 96 (0, 0)) :: t.2.2.2 :: .blk b1 (.cells #[.slice CA cn cc, .slice (some ⟨pb, po, none⟩) procs.length pc, .slice QA qn qc] 26 (0, 0)) :: .blk b2 (.cells #[.int .i64 0, .int .i64 0, .slice none 0 0, .slice none 0 0] 96 (0, 0)) :: Ha)
    (fun t => q.locals.toNat - t.1) (fun t => args.length + t.1 ≤ q.locals.toNat ∧ VVec t.2.1 t.2.2.1 (args ++ List.replicate t.1 V0) t.2.2.2) (0, A1, cap1, x1) ⟨by dsimp only; omega, by simpa using hx1⟩ (by exact ⟨rfl, rfl, rfl, rfl, trivial⟩) rfl (by simp) fun t ht => ?_
  obtain ⟨j, A2, cap2, x2⟩ := t
  obtain ⟨hj, hx2⟩ := ht
  dsimp only at hj hx2
  have hl2 : (args ++ List.replicate j V0).length = args.length + j := by simp
  refine go ?_
  refine WC.draw mixed ?_
  refine WA.tp (i := 0) rfl (by kernel_rfl) (by kernel_rfl) rfl (Gp.fieldAddr rfl) ?_
  (first | (refine WA.tv (i := 1) rfl (by kernel_rfl) (by kernel_rfl) rfl (Gv.load1 rfl (by (repeat first | exact .here | apply At.there)) (by first | rfl | assumption)) ?_) | (refine WA.tv (i := 1) rfl (by kernel_rfl) (by kernel_rfl) rfl (Gv.loadN rfl (by (repeat first | exact .here | apply At.there)) (by rfl) (by rfl)) ?_) | (refine WA.tv (i := 1) rfl (by kernel_rfl) (by kernel_rfl) rfl (Gv.loadG1 rfl (by assumption) rfl) ?_) | (refine WA.tv (i := 1) rfl (by kernel_rfl) (by kernel_rfl) rfl (Gv.loadG0 rfl (by assumption) rfl) ?_) | (refine WA.tv (i := 1) rfl (by kernel_rfl) (by kernel_rfl) rfl (Gv.loadGN rfl (by assumption) rfl) ?_))
  (first | refine WA.tp (i := 2) rfl (by kernel_rfl) (by kernel_rfl) rfl (Gp.lenSl rfl) ?_ | refine WA.tp (i := 2) rfl (by kernel_rfl) (by kernel_rfl) rfl (Gp.lenS rfl) ?_)
  refine WA.tp (i := 3) rfl (by kernel_rfl) (by kernel_rfl) rfl (Gp.fieldAddr rfl) ?_
  (first | (refine WA.tv (i := 4) rfl (by kernel_rfl) (by kernel_rfl) rfl (Gv.load1 rfl (by (repeat first | exact .here | apply At.there)) (by first | rfl | assumption)) ?_) | (refine WA.tv (i := 4) rfl (by kernel_rfl) (by kernel_rfl) rfl (Gv.loadN rfl (by (repeat first | exact .here | apply At.there)) (by rfl) (by rfl)) ?_) | (refine WA.tv (i := 4) rfl (by kernel_rfl) (by kernel_rfl) rfl (Gv.loadG1 rfl (by assumption) rfl) ?_) | (refine WA.tv (i := 4) rfl (by kernel_rfl) (by kernel_rfl) rfl (Gv.loadG0 rfl (by assumption) rfl) ?_) | (refine WA.tv (i := 4) rfl (by kernel_rfl) (by kernel_rfl) rfl (Gv.loadGN rfl (by assumption) rfl) ?_))
  refine WA.tp (i := 5) rfl (by kernel_rfl) (by kernel_rfl) rfl (Gp.move rfl) ?_
  refine WA.tp (i := 6) rfl (by kernel_rfl) (by kernel_rfl) rfl (Gp.indexAddr rfl rfl (by first | assumption | omega | decide) (by first | assumption | omega | decide | (simp only [List.length_cons, List.length_nil]; decide))) ?_
  refine WA.tp (i := 7) rfl (by kernel_rfl) (by kernel_rfl) rfl (Gp.fieldAddr rfl) ?_
  refine WA.tv (i := 8) rfl (by kernel_rfl) (by kernel_rfl) rfl (Gv.loadG1 (i := 3) rfl hcs rfl) ?_
  by_cases hlt : args.length + j < q.locals.toNat
  ·
    refine WA.tp (i := 9) rfl (by kernel_rfl) (by kernel_rfl) rfl (Gp.ltI' rfl rfl (show decide (((args ++ List.replicate j V0).length : Int) < q.locals) = true from decide_eq_true (by rw [hl2]; omega))) ?_
    refine WA.done (by kernel_rfl) ?_
    refine WK.un ?_
    refine go ?_
    refine WL.op (by kernel_rfl) (OW.buildSlice rfl (by kernel_rfl) (by kernel_rfl) (by rfl) rfl fun b5 => ?_)
    refine WL.op (by kernel_rfl) (OW.append rfl rfl (by kernel_rfl) (by kernel_rfl) hx2 (by (repeat first | exact .here | apply At.there)) (Rds.blk0 (cs := vcells V0) .here rfl) rfl rfl (by rw [hl2]; omega) (by rw [hl2]; omega) rfl fun A' cap' o' hv' => ?_)
    refine go ?_
    refine WK.pick (.blk b3 (.cells #[.int .i64 i, .int .i64 0, .slice A' ((args ++ List.replicate j V0).length + 1) cap', .slice none 0 0] 96 (0, 0)) :: o' :: .blk b1 (.cells #[.slice CA cn cc, .slice (some ⟨pb, po, none⟩) procs.length pc, .slice QA qn qc] 26 (0, 0)) :: .blk b2 (.cells #[.int .i64 0, .int .i64 0, .slice none 0 0, .slice none 0 0] 96 (0, 0)) :: Ha) ?_
    have e2 : (args ++ List.replicate (j + 1) V0).length = (args ++ List.replicate j V0).length + 1 := by simp; omega
    have e3 : vflat (args ++ List.replicate (j + 1) V0) = vflat (args ++ List.replicate j V0) ++ vcells V0 := by
      rw [List.replicate_succ', ← List.append_assoc, vflat_append (args ++ List.replicate j V0)]; simp [vflat]
    exact WK.again (j + 1, A', cap', o') (by dsimp only; omega) ⟨by dsimp only; omega, by unfold VVec; dsimp only; rw [e2, e3]; exact hv'⟩ (by exact ⟨rfl, rfl, rfl, rfl, trivial⟩) rfl (by dsimp only; rw [e2]; exact List.Sublist.refl _)
  ·
    refine WA.tp (i := 9) rfl (by kernel_rfl) (by kernel_rfl) rfl (Gp.ltI' rfl rfl (show decide (((args ++ List.replicate j V0).length : Int) < q.locals) = false from decide_eq_false (by rw [hl2]; omega))) ?_
    refine WA.done (by kernel_rfl) ?_
    refine WK.un ?_
    have e4 := padded_succ (args := args) (lo := q.locals) (j := j) (by omega)
    rw [e4] at hx2
    rw [e4]
    refine go ?_
    refine WC.ret ?_
    refine WK.un ?_
    exact QF.p1 (.inl rfl) rfl (.cell rfl inferInstance inferInstance (by (repeat first | exact .here | apply At.there)) rfl rfl) (⟨A2, cap2, x2, rfl, rfl, hx2, rfl⟩)

/-- a frame of the document's answer -/
def Kd.fr : Kd Fr where
  n := 4
  K G f cs := ∃ VA vc SA sc, cs = [.int .i64 f.proc, .int .i64 f.pc, .slice VA f.vars.length vc, .slice SA f.stack.length sc] ∧ f.stack.length ≤ sc ∧ Sl Kd.val G VA f.vars ∧ Sl Kd.val G SA f.stack
  mono hg h := let ⟨VA, vc, SA, sc, h1, h0, h2, h3⟩ := h; ⟨VA, vc, SA, sc, h1, h0, h2.mono hg, h3.mono hg⟩
  len h := by obtain ⟨VA, vc, SA, sc, h1, _⟩ := h; rw [h1]; rfl
  one h := by obtain ⟨VA, vc, SA, sc, h1, _⟩ := h; rw [h1]; rfl
/-- frames, in cells -/
def FV (G : Gh) (fs : List Fr) (cs : List Value) : Prop := cs.length = fs.length * 4 ∧ ∀ i f, fs[i]? = some f → Kd.fr.K G f ((cs.drop (i * 4)).take 4)
theorem FV.mono {G G' : Gh} {fs : List Fr} {cs : List Value} (h : FV G fs cs) (hg : G.le G') : FV G' fs cs := ⟨h.1, fun i f hf => Kd.fr.mono hg (h.2 i f hf)⟩
theorem FV.snoc {G : Gh} {fs : List Fr} {cs es : List Value} {f : Fr} (h : FV G fs cs) (hk : Kd.fr.K G f es) : FV G (fs ++ [f]) (cs ++ es) := by
  have he : es.length = 4 := Kd.fr.len hk
  refine ⟨by simp [h.1, he]; omega, fun i g hg => ?_⟩
  rcases Nat.lt_or_ge i fs.length with h1 | h1
  · rw [List.getElem?_append_left h1] at hg
    rw [List.drop_append_of_le_length (by rw [h.1]; omega), List.take_append_of_le_length (by rw [List.length_drop, h.1]; omega)]
    exact h.2 i g hg
  · rw [List.getElem?_append_right h1] at hg
    have h0 : i - fs.length = 0 := by have := (List.getElem?_eq_some_iff.1 hg).1; simp at this; omega
    rw [h0] at hg
    simp at hg
    subst hg
    rw [show i * 4 = cs.length by rw [h.1]; omega, List.drop_left, List.take_of_length_le (by omega)]
    exact hk
theorem FV.one {G : Gh} {fs : List Fr} {cs : List Value} (h : FV G fs cs) : cs.all (·.oneCell') = true := by
  rw [List.all_eq_true]
  intro v hv
  obtain ⟨j, hj⟩ := List.getElem?_of_mem hv
  have hjl := (List.getElem?_eq_some_iff.1 hj).1
  rw [h.1] at hjl
  have hi : j / 4 < fs.length := by omega
  have hk := h.2 (j / 4) _ (List.getElem?_eq_getElem hi)
  have h1 := List.all_eq_true.1 (Kd.fr.one hk) v
  refine h1 (List.mem_of_getElem? (i := j % 4) ?_)
  rw [List.getElem?_take, if_pos (Nat.mod_lt _ (by decide)), List.getElem?_drop, show j / 4 * 4 + j % 4 = j by omega]
  exact hj
theorem FV.sl {G : Gh} {fs : List Fr} {A : Option Addr} {cs : List Value} (h : FV G fs cs) (hz : cs = [] ∨ ∃ b, A = some ⟨b, 0, none⟩ ∧ Cs G b 0 cs) : Sl Kd.fr G A fs := Sl.ofCs (k := Kd.fr) hz h.1 (by decide) h.2
theorem Sl.fv {G : Gh} {H : List Own} {A : Option Addr} {fs : List Fr} (h : Sl Kd.fr G A fs) : ∃ cs, Rds G H A cs ∧ FV G fs cs := by
  obtain ⟨cs, h1, h2, _, h3⟩ := Sl.rds (H := H) (by decide) h
  exact ⟨cs, h1, h2, h3⟩
theorem Sl.from' {G : Gh} {A : Option Addr} {xs : List V} {cap lo : Nat} (h : Sl Kd.val G A xs) (hc : xs.length ≤ cap) : Sl Kd.val G (if cap = lo then A else A.map (·.add (lo * 4))) (xs.drop lo) := fun i x hx => by
  rw [List.getElem?_drop] at hx
  have hl := (List.getElem?_eq_some_iff.1 hx).1
  obtain ⟨b, o, cs, rfl, h1, h2⟩ := h (lo + i) x hx
  rw [if_neg (by omega)]
  refine ⟨b, o + lo * 4, cs, ?_, h1, ?_⟩
  · simp only [Option.map_some, Addr.add]
    split
    · rename_i h0; rw [h0]; rfl
    · rfl
  · rw [show o + lo * 4 + i * Kd.val.n = o + (lo + i) * Kd.val.n by show o + lo * 4 + i * 4 = o + (lo + i) * 4; omega]; exact h2
theorem Sl.take {α : Type} {k : Kd α} {G : Gh} {A : Option Addr} {xs : List α} (h : Sl k G A xs) (n : Nat) : Sl k G A (xs.take n) := fun i x hx => h i x (by
  rw [List.getElem?_take] at hx
  split at hx
  · exact hx
  · cases hx)
end Go.Proofs.Ytjgohbepageicaa.Gb
namespace Go.Proofs.Ytjgohbepageicaa.Gb
open Go Go.Proofs
set_option linter.unusedVariables false
set_option linter.unusedSimpArgs false
set_option linter.unusedSectionVars false
attribute [local irreducible] Try.prog

theorem WL.nothing {P : Program} {Q : Exit → Act → World → Prop} {cx : Cx} {L : List (Nat × Value)} {G : Gh} {H : List Own} {ops : Array Oper} {rest : List Oper} (h : WL P ops Q rest cx L G (.spare 0 0 0 :: H)) : WL P ops Q rest cx L G H :=
  WK.nothing (K := fun a w => wpList P ops Q rest a w) h
theorem WL.frozenVec {P : Program} {Q : Exit → Act → World → Prop} {cx : Cx} {L : List (Nat × Value)} {G : Gh} {H : List Own} {ops : Array Oper} {rest : List Oper} {T sz n cap j : Nat} {A : Option Addr} {cs : List Value} {x : Own} (hv : Vec T sz A n cap cs x) (hj : At H j x)
    (h : ∀ G', G.le G' → (cs = [] ∨ ∃ b, A = some ⟨b, 0, none⟩ ∧ Cs G' b 0 cs) → WL P ops Q rest cx L G' (H.eraseIdx j)) : WL P ops Q rest cx L G H :=
  WK.frozenVec (K := fun a w => wpList P ops Q rest a w) hv hj h
theorem VVec.sl {G : Gh} {A : Option Addr} {l : List V} (hz : vflat l = [] ∨ ∃ b, A = some ⟨b, 0, none⟩ ∧ Cs G b 0 (vflat l)) : Sl Kd.val G A l := Sl.ofCs (k := Kd.val) hz (vflat_length l) (by decide) (fun i x hx => vflat_elem l i x hx)
/-- a machine of the document's answer -/
abbrev rmV (CA PA QA : Option Addr) (cn pn qn cc pc qc : Nat) (FA : Option Addr) (fn fc : Nat) (en : Int) (v : V) (OA : Option Addr) (on oc : Nat) (st : Int) : Value :=
  .agg #[.slice CA cn cc, .slice PA pn pc, .slice QA qn qc, .slice FA fn fc, .int .i64 en, .int .i64 v.t, .int .i64 v.i, .bool v.b, .string v.s, .slice OA on oc, .int .i64 st]
/-- many frames, ours -/
abbrev FVec (A : Option Addr) (n cap : Nat) (cs : List Value) (x : Own) : Prop := Vec 96 4 A n cap cs x

section
variable (G : Gh) (CA PA QA : Option Addr) (cn pn qn cc pc qc : Nat) (FA : Option Addr) (fn fc : Nat) (en : Int) (v : V) (OA : Option Addr) (on oc : Nat) (st : Int)
theorem rended_fn (k : Int) : Fn Try.prog 59 #[rmV CA PA QA cn pn qn cc pc qc FA fn fc en v OA on oc st, .int .i64 k] G [] fun e G' H' => e = .returned (rmV CA PA QA cn pn qn cc pc qc FA fn fc k v OA on oc st) ∧ G = G' ∧ H' = [] := by
  refine Fn.enter Try.func59 rfl rfl fun w0 => ?_
  refine WC.seq ?_
  refine WC.region ?_
  refine WL.op (by kernel_rfl) (OW.box rfl rfl fun b1 => ?_)
  refine WL.op (by kernel_rfl) (OW.alloc rfl fun b2 => ?_)
  refine go ?_
  refine WC.ret ?_
  refine WK.un ?_
  exact QF.p1 (.inl rfl) rfl (.cell rfl inferInstance inferInstance (by (repeat first | exact .here | apply At.there)) rfl rfl) (⟨rfl, rfl, rfl⟩)

theorem rwith_fn (ps : List Fr) (f0 f : Fr) (hF : Sl Kd.fr G FA (ps ++ [f0])) (hfc : ps.length + 1 ≤ fc) (hps : ps.length ≤ 1000) (VA SA : Option Addr) (vc sc : Nat) (hsc : f.stack.length ≤ sc) (hV : Sl Kd.val G VA f.vars) (hS : Sl Kd.val G SA f.stack) :
    Fn Try.prog 61 #[rmV CA PA QA cn pn qn cc pc qc FA (ps.length + 1) fc en v OA on oc st, .agg #[.int .i64 f.proc, .int .i64 f.pc, .slice VA f.vars.length vc, .slice SA f.stack.length sc]] G []
      fun e G' H' => ∃ FA' fc' cs x, e = .returned (rmV CA PA QA cn pn qn cc pc qc FA' (ps.length + 1) fc' en v OA on oc st) ∧ G = G' ∧ FVec FA' (ps.length + 1) fc' cs x ∧ FV G (ps ++ [f]) cs ∧ H' = [x] := by
  obtain ⟨cs0, hr0, hcs0⟩ := Sl.fv (H := []) (show Sl Kd.fr G FA ps by have := hF.take ps.length; simpa using this)
  refine Fn.enter Try.func61 rfl rfl fun w0 => ?_
  refine WC.seq ?_
  refine WC.region ?_
  refine WL.op (by kernel_rfl) (OW.box rfl rfl fun b1 => ?_)
  refine WL.op (by kernel_rfl) (OW.box rfl rfl fun b2 => ?_)
  refine WL.op (by kernel_rfl) (OW.alloc rfl fun b3 => ?_)
  have e1 : IntKind.i64.wrap (((ps.length + 1 : Nat) : Int) - 1) = (ps.length : Int) := by rw [wrap_small (by omega) (by omega)]; omega
  refine go ?_
  refine WL.p (Gp.sliceTo rfl rfl (by omega) (by omega)) (by kernel_rfl) rfl ?_
  refine WL.nothing ?_
  refine WL.op (by kernel_rfl) (OW.append rfl rfl (by kernel_rfl) (by kernel_rfl) (A := none) (n := 0) (cap := 0) (cs := []) ⟨rfl, .inl ⟨rfl, rfl, rfl, rfl⟩⟩ .here (hr0.sub (List.nil_sublist _)) (by rw [Int.toNat_natCast]; exact hcs0.1) hcs0.one (by omega) (by omega) rfl fun A1 cap1 o1 hv1 => ?_)
  refine go ?_
  refine WL.op (by kernel_rfl) (OW.buildSlice rfl (by kernel_rfl) (by kernel_rfl) (by rfl) rfl fun b4 => ?_)
  refine WL.op (by kernel_rfl) (OW.append rfl rfl (by kernel_rfl) (by kernel_rfl) hv1 (by (repeat first | exact .here | apply At.there)) (Rds.blk0 (cs := [.int .i64 f.proc, .int .i64 f.pc, .slice VA f.vars.length vc, .slice SA f.stack.length sc]) .here rfl) rfl rfl (by omega) (by omega) rfl fun A2 cap2 o2 hv2 => ?_)
  refine go ?_
  have e2 : 0 + ((ps.length : Nat) : Int).toNat + 1 = ps.length + 1 := by omega
  rw [e2] at hv2 ⊢
  refine WC.ret ?_
  refine WK.un ?_
  exact QF.p1 (.inl rfl) rfl (.cell rfl inferInstance inferInstance (by (repeat first | exact .here | apply At.there)) rfl rfl) (⟨A2, cap2, cs0 ++ [.int .i64 f.proc, .int .i64 f.pc, .slice VA f.vars.length vc, .slice SA f.stack.length sc], o2, rfl, rfl, hv2, hcs0.snoc ⟨VA, vc, SA, sc, rfl, hsc, hV, hS⟩, rfl⟩)

theorem rleft_nil (f0 : Fr) (hF : Sl Kd.fr G FA [f0]) (hfc : 1 ≤ fc) (Hg : List Own) (GA : Option Addr) (gc : Nat) (gl : List V) (hgr : Rds G Hg GA (vflat gl)) (hgl : gl.length ≤ 1) :
    Fn Try.prog 62 #[rmV CA PA QA cn pn qn cc pc qc FA 1 fc en v OA on oc st, .slice GA gl.length gc] G Hg
      fun e G' H' => ∃ FA' fc', e = .returned (rmV CA PA QA cn pn qn cc pc qc FA' 0 fc' 1 (lastV v gl) OA on oc st) ∧ G = G' ∧ H' = Hg := by
  refine Fn.enter Try.func62 rfl rfl fun w0 => ?_
  refine WC.seq ?_
  refine WC.region ?_
  refine WL.op (by kernel_rfl) (OW.box rfl rfl fun b1 => ?_)
  refine WL.op (by kernel_rfl) (OW.alloc rfl fun b2 => ?_)
  have e1 : IntKind.i64.wrap (((1 : Nat) : Int) - 1) = (0 : Int) := by decide
  refine go ?_
  refine WL.p (Gp.sliceTo rfl rfl (by omega) (by omega)) (by kernel_rfl) rfl ?_
  refine WL.nothing ?_
  refine WL.op (by kernel_rfl) (OW.append rfl rfl (by kernel_rfl) (by kernel_rfl) (A := none) (n := 0) (cap := 0) (cs := []) (news := []) ⟨rfl, .inl ⟨rfl, rfl, rfl, rfl⟩⟩ .here (Rds.nil _ _ _) rfl rfl (by decide) (by decide) rfl fun A1 cap1 o1 hv1 => ?_)
  cases gl with
  | nil =>
    refine go ?_
    refine WL.op (by kernel_rfl) (OW.callK rfl (rended_fn G CA PA QA cn pn qn cc pc qc A1 _ cap1 en v OA on oc st 1) rfl fun v' G' H' h hg => ?_)
    obtain ⟨he, rfl, rfl⟩ := h
    cases he
    refine go ?_
    refine WC.ret ?_
    refine WK.un ?_
    exact QF.p1 (.inl rfl) rfl (.cell rfl inferInstance inferInstance (by (repeat first | exact .here | apply At.there)) rfl rfl) (⟨A1, cap1, rfl, rfl, rfl⟩)
  | cons g gl' =>
    have hgn : gl' = [] := by simpa using hgl
    subst hgn
    obtain ⟨gb, go', rfl, hread⟩ := hgr.resolve_left (by simp [vflat, vcells])
    have e5 : (0 : Int) < (([g] : List V).length : Int) := by simp
    have e2 : decide ((0 : Int) < (([g] : List V).length : Int)) = true := decide_eq_true e5
    refine go ?_
    refine WL.v (Gv.loadRN (i := 0) rfl hread (by repeat (first | exact List.Sublist.refl _ | exact List.nil_sublist _ | apply List.Sublist.cons)) (vflat_elem [g] 0 g rfl) rfl) (by kernel_rfl) rfl ?_
    refine go ?_
    refine WL.op (by kernel_rfl) (OW.callK rfl (rended_fn G CA PA QA cn pn qn cc pc qc A1 _ cap1 en g OA on oc st 1) rfl fun v' G' H' h hg => ?_)
    obtain ⟨he, rfl, rfl⟩ := h
    cases he
    refine go ?_
    refine WC.ret ?_
    refine WK.un ?_
    exact QF.p1 (.inl rfl) rfl (.cell rfl inferInstance inferInstance (by (repeat first | exact .here | apply At.there)) rfl rfl) (⟨A1, cap1, rfl, rfl, rfl⟩)

theorem rleft_snoc (ps : List Fr) (f0 f1 : Fr) (hF : Sl Kd.fr G FA (ps ++ [f0] ++ [f1])) (hfc : ps.length + 2 ≤ fc) (hps : ps.length ≤ 1000) (hst : f0.stack.length ≤ 1000000) (Hg : List Own) (GA : Option Addr) (gc : Nat) (gl : List V) (hgr : Rds G Hg GA (vflat gl)) (hgl : gl.length ≤ 1) :
    Fn Try.prog 62 #[rmV CA PA QA cn pn qn cc pc qc FA (ps.length + 2) fc en v OA on oc st, .slice GA gl.length gc] G Hg
      fun e G' H' => ∃ FA' fc' cs x, e = .returned (rmV CA PA QA cn pn qn cc pc qc FA' (ps.length + 1) fc' en v OA on oc st) ∧ G.le G' ∧ FVec FA' (ps.length + 1) fc' cs x ∧ FV G' (ps ++ [⟨f0.proc, f0.pc, f0.stack ++ gl, f0.vars⟩]) cs ∧ H' = x :: Hg := by
  obtain ⟨cs0, hr0, hcs0⟩ := Sl.fv (H := []) (show Sl Kd.fr G FA (ps ++ [f0]) by have h := hF.take (ps ++ [f0]).length; rwa [List.take_left] at h)
  have hl0 : (ps ++ [f0]).length = ps.length + 1 := by simp
  obtain ⟨VA, vc, SA, sc, hes, hsc0, hVV, hSS⟩ := hcs0.2 ps.length f0 (by simp)
  refine Fn.enter Try.func62 rfl rfl fun w0 => ?_
  refine WC.seq ?_
  refine WC.region ?_
  refine WL.op (by kernel_rfl) (OW.box rfl rfl fun b1 => ?_)
  refine WL.op (by kernel_rfl) (OW.alloc rfl fun b2 => ?_)
  have e1 : IntKind.i64.wrap (((ps.length + 2 : Nat) : Int) - 1) = ((ps.length + 1 : Nat) : Int) := by rw [wrap_small (by omega) (by omega)]; omega
  refine go ?_
  refine WL.p (Gp.sliceTo rfl rfl (by omega) (by omega)) (by kernel_rfl) rfl ?_
  refine WL.nothing ?_
  refine WL.op (by kernel_rfl) (OW.append rfl rfl (by kernel_rfl) (by kernel_rfl) (A := none) (n := 0) (cap := 0) (cs := []) ⟨rfl, .inl ⟨rfl, rfl, rfl, rfl⟩⟩ .here (hr0.sub (List.nil_sublist _)) (by rw [Int.toNat_natCast, hcs0.1, hl0]) hcs0.one (by omega) (by omega) rfl fun A1 cap1 o1 hv1 => ?_)
  have e2 : 0 + ((ps.length + 1 : Nat) : Int).toNat = ps.length + 1 := by omega
  rw [e2] at hv1 ⊢
  have e3 : (((ps.length + 1 : Nat) : Int) == 0) = false := by simp; omega
  have e4 : IntKind.i64.wrap (((ps.length + 1 : Nat) : Int) - 1) = (ps.length : Int) := by rw [wrap_small (by omega) (by omega)]; omega
  obtain ⟨ob, oo, rfl, hread⟩ := (Vec.rds hv1 (.here (l := [])) : Rds G [o1] A1 ([] ++ cs0)).resolve_left (fun h => by have := congrArg List.length h; rw [List.nil_append, hcs0.1, hl0] at this; simp at this)
  refine go ?_
  refine WL.v (Gv.loadRN (i := (ps.length : Int).toNat * 4) rfl hread (.cons_cons _ (List.nil_sublist _)) (es := [.int .i64 f0.proc, .int .i64 f0.pc, .slice VA f0.vars.length vc, .slice SA f0.stack.length sc]) (by rw [List.nil_append, Int.toNat_natCast]; exact hes) rfl) (by kernel_rfl) rfl ?_
  refine WL.op (by kernel_rfl) (OW.alloc rfl fun b5 => ?_)
  refine go ?_
  refine WL.op (by kernel_rfl) (OW.callK rfl (values_fn G [] SA sc f0.stack (Sl.vals hSS) (by omega)) rfl fun v' G' H' h hg => ?_)
  obtain ⟨A2, cap2, x2, he, rfl, hx2, rfl⟩ := h
  cases he
  refine go ?_
  refine WL.op (by kernel_rfl) (OW.append rfl rfl (by kernel_rfl) (by kernel_rfl) hx2 (by (repeat first | exact .here | apply At.there)) (hgr.sub (by repeat (first | exact List.Sublist.refl _ | exact List.nil_sublist _ | apply List.Sublist.cons))) (vflat_length gl) (vflat_one gl) (by omega) (by omega) rfl fun A3 cap3 o3 hv3 => ?_)
  refine go ?_
  refine WL.frozenVec hv3 (by (repeat first | exact .here | apply At.there)) fun G2 h2 z2 => ?_
  refine WL.frozenVec hv1 (by (repeat first | exact .here | apply At.there)) fun G3 h3 z3 => ?_
  rw [← vflat_append] at z2
  have e5 : (f0.stack ++ gl).length = f0.stack.length + gl.length := by simp
  have hS3 : Sl Kd.val G3 A3 (f0.stack ++ gl) := (VVec.sl z2).mono h3
  have hF3 : Sl Kd.fr G3 (some ⟨ob, oo, none⟩) (ps ++ [f0]) := FV.sl (hcs0.mono (Gh.le_trans h2 h3)) z3
  have hw := rwith_fn G3 CA PA QA cn pn qn cc pc qc (some ⟨ob, oo, none⟩) cap1 en v OA on oc st ps f0 ⟨f0.proc, f0.pc, f0.stack ++ gl, f0.vars⟩ hF3 hv1.le hps VA A3 vc cap3 (by show (f0.stack ++ gl).length ≤ cap3; rw [e5]; exact hv3.le) (hVV.mono (Gh.le_trans h2 h3)) hS3
  dsimp only at hw
  rw [e5] at hw
  refine WL.op (by kernel_rfl) (OW.callK rfl (hw) rfl fun v' G' H' h hg => ?_)
  obtain ⟨FA', fc', cs, x, he, rfl, hx, hfv, rfl⟩ := h
  cases he
  refine go ?_
  refine WC.ret ?_
  refine WK.un ?_
  exact QF.p1 (.inl rfl) rfl (.cell rfl inferInstance inferInstance (by (repeat first | exact .here | apply At.there)) rfl rfl) (⟨FA', fc', cs, x, rfl, Gh.le_trans h2 h3, hx, hfv, rfl⟩)
end
end Go.Proofs.Ytjgohbepageicaa.Gb
namespace Go.Proofs.Ytjgohbepageicaa.Gb
open Go Go.Proofs
set_option linter.unusedVariables false
set_option linter.unusedSimpArgs false
set_option linter.unusedSectionVars false
attribute [local irreducible] Try.prog

def takenC (pg : Pg) (pr : Pr) (vars : List V) (c n : Int) : Int :=
  if c = 1 then (match pg.consts[n.toNat]? with | some v => if vOK v = true then 0 else -1 | none => -1)
  else if c = 2 then (match vars[n.toNat]? with | some v => if v = V0 then -1 else 0 | none => -1)
  else if c = 3 then (if n.toNat < vars.length then 1 else -1)
  else if c = 5 then (if n.toNat < pr.code.length then 0 else -1)
  else if c = 6 then (if n.toNat < pr.code.length then 1 else -1)
  else if c = 7 then (match pg.procs[n.toNat]? with | some q => if sizedP q = true then q.params.length else -1 | none => -1)
  else if c = 9 then (if pr.result = 0 then 0 else -1)
  else if c = 10 then (if pr.result = 0 then -1 else 1)
  else if c = 4 ∨ c = 11 ∨ c = 24 ∨ c = 25 ∨ c = 26 then 1
  else if 12 ≤ c ∧ c ≤ 23 then 2 else -1
def takenR (pg : Pg) (pr : Pr) (vars : List V) (c n : Int) : Int := if (numbB c = false ∧ n ≠ 0) ∨ n < 0 then -1 else takenC pg pr vars c n

section
variable {L : List (Nat × Value)} {d : Option Tmp} {ty : TypeId} {pos : String} {af : Array Edge} {gu : Option (Nat × Bool)}
theorem Gp.eqVx {x y : Operand} {t' : TypeId} {u v : V} {r : Bool} (hx : ev L x = some (.agg #[.int .i64 u.t, .int .i64 u.i, .bool u.b, .string u.s])) (hy : ev L y = some (.agg #[.int .i64 v.t, .int .i64 v.i, .bool v.b, .string v.s])) (h : decide (u = v) = r) :
    Gp Try.prog L ⟨d, .binOp .eql 33 x y t', ty, pos, af, gu⟩ (.bool r) := h ▸ Gp.eqV hx hy
end
section
variable (G : Gh) (pg : Pg) (CA PA QA : Option Addr) (qn cc pc qc : Nat) (hC : Sl Kd.val G CA pg.consts) (hP : Sl Kd.prc G PA pg.procs) (FA : Option Addr) (fn fc : Nat) (en : Int) (v : V) (OA : Option Addr) (on oc : Nat) (st : Int)
include hC hP
set_option maxHeartbeats 2000000 in
theorem rtaken_fn (f : Fr) (pr : Pr) (hpr : pg.procs[f.proc]? = some pr) (VA SA : Option Addr) (vc sc : Nat) (hV : Sl Kd.val G VA f.vars) (c n : Int) (hpl : pg.procs.length ≤ 10000000000000) :
    Fn Try.prog 60 #[rmV CA PA QA pg.consts.length pg.procs.length qn cc pc qc FA fn fc en v OA on oc st, .agg #[.int .i64 f.proc, .int .i64 f.pc, .slice VA f.vars.length vc, .slice SA f.stack.length sc], .agg #[.int .i64 c, .int .i64 n]] G []
      fun e G' H' => e = .returned (.int .i64 (takenR pg pr f.vars c n)) ∧ G = G' ∧ H' = [] := by
  have hil := (List.getElem?_eq_some_iff.1 hpr).1
  have hP0 := hP
  obtain ⟨pb, po, cs, rfl, ⟨QPA, qpc, ICA, icc, rfl, _, _⟩, hcs⟩ := hP f.proc pr hpr
  refine Fn.enter Try.func60 rfl rfl fun w0 => ?_
  refine WC.seq ?_
  refine WC.region ?_
  refine WL.op (by kernel_rfl) (OW.box rfl rfl fun b1 => ?_)
  refine WL.op (by kernel_rfl) (OW.box rfl rfl fun b2 => ?_)
  refine WL.op (by kernel_rfl) (OW.box rfl rfl fun b3 => ?_)
  refine go ?_
  refine WL.op (by kernel_rfl) (OW.alloc rfl fun b4 => ?_)
  refine go ?_
  refine WL.op (by kernel_rfl) (OW.callK rfl (rnumbered_fn G c) rfl fun v' G' H' h hg => ?_)
  obtain ⟨he, rfl, rfl⟩ := h
  cases he
  by_cases hA : (numbB c = false ∧ n ≠ 0) ∨ n < 0
  · rw [takenR, if_pos hA]
    cases hnb : numbB c with
    | false =>
      by_cases h0 : n = 0
      · exfalso; rcases hA with h | h
        · exact h.2 h0
        · omega
      · have e1 : (n != 0) = true := by simpa using h0
        refine go ?_
        refine WC.ret ?_
        refine WK.un ?_
        exact QF.p1 (.inl rfl) rfl (.tmp rfl) (⟨rfl, rfl, rfl⟩)
    | true =>
      have h1 : n < 0 := hA.resolve_left (fun h => by rw [hnb] at h; cases h.1)
      have e1 : decide (n < 0) = true := decide_eq_true h1
      refine go ?_
      refine WC.ret ?_
      refine WK.un ?_
      exact QF.p1 (.inl rfl) rfl (.tmp rfl) (⟨rfl, rfl, rfl⟩)
  rw [takenR, if_neg hA]
  have hn0 : ¬ n < 0 := fun h => hA (.inr h)
  have e0 : decide (n < 0) = false := decide_eq_false hn0
  obtain ⟨m, rfl⟩ : ∃ m : Nat, n = m := ⟨n.toNat, by omega⟩
  cases hnb : numbB c with
  | true =>
    have hc : c = 1 ∨ c = 2 ∨ c = 3 ∨ c = 5 ∨ c = 6 ∨ c = 7 ∨ c = 8 := of_decide_eq_true hnb
    rcases hc with rfl | rfl | rfl | rfl | rfl | rfl | rfl
    · -- const
      by_cases hlt : m < pg.consts.length
      rotate_left
      · have e1 : decide ((pg.consts.length : Int) ≤ (m : Int)) = true := decide_eq_true (by omega)
        refine go ?_
        refine WC.ret ?_
        refine WK.un ?_
        exact QF.p1 (.inl rfl) rfl (.tmp rfl) (⟨by simp [takenC, List.getElem?_eq_none (Nat.not_lt.1 hlt)], rfl, rfl⟩)
      have e1 : decide ((pg.consts.length : Int) ≤ (m : Int)) = false := decide_eq_false (by omega)
      obtain ⟨u, hu⟩ : ∃ u, pg.consts[m]? = some u := ⟨_, List.getElem?_eq_getElem hlt⟩
      obtain ⟨qb, qo, qs, rfl, hqs, hqc⟩ := hC m u hu
      obtain rfl : qs = vcells u := hqs
      refine go ?_
      refine WL.op (by kernel_rfl) (OW.callK rfl (rvalue_fn G u) rfl fun v' G' H' h hg => ?_)
      obtain ⟨he, rfl, rfl⟩ := h
      cases he
      cases hvu : vOK u
      · refine go ?_
        refine WC.ret ?_
        refine WK.un ?_
        exact QF.p1 (.inl rfl) rfl (.tmp rfl) (⟨by simp [takenC, hu, hvu], rfl, rfl⟩)
      · refine go ?_
        refine WC.ret ?_
        refine WK.un ?_
        exact QF.p1 (.inl rfl) rfl (.tmp rfl) (⟨by simp [takenC, hu, hvu], rfl, rfl⟩)
    · -- load
      by_cases hlt : m < f.vars.length
      rotate_left
      · have e1 : decide ((f.vars.length : Int) ≤ (m : Int)) = true := decide_eq_true (by omega)
        refine go ?_
        refine WC.ret ?_
        refine WK.un ?_
        exact QF.p1 (.inl rfl) rfl (.tmp rfl) (⟨by simp [takenC, List.getElem?_eq_none (Nat.not_lt.1 hlt)], rfl, rfl⟩)
      have e1 : decide ((f.vars.length : Int) ≤ (m : Int)) = false := decide_eq_false (by omega)
      obtain ⟨u, hu⟩ : ∃ u, f.vars[m]? = some u := ⟨_, List.getElem?_eq_getElem hlt⟩
      obtain ⟨qb, qo, qs, rfl, hqs, hqc⟩ := hV m u hu
      obtain rfl : qs = vcells u := hqs
      refine go ?_
      by_cases hu0 : u = V0
      ·
        refine WL.p (Gp.eqVx (r := true) (u := u) (v := V0) rfl rfl (by simpa using hu0)) (by kernel_rfl) rfl ?_
        refine go ?_
        refine WC.ret ?_
        refine WK.un ?_
        exact QF.p1 (.inl rfl) rfl (.tmp rfl) (⟨by simp [takenC, hu, hu0], rfl, rfl⟩)
      ·
        refine WL.p (Gp.eqVx (r := false) (u := u) (v := V0) rfl rfl (by simpa using hu0)) (by kernel_rfl) rfl ?_
        refine go ?_
        refine WC.ret ?_
        refine WK.un ?_
        exact QF.p1 (.inl rfl) rfl (.tmp rfl) (⟨by simp [takenC, hu, hu0], rfl, rfl⟩)
    · -- store
      by_cases hlt : m < f.vars.length
      rotate_left
      · have e1 : decide ((f.vars.length : Int) ≤ (m : Int)) = true := decide_eq_true (by omega)
        refine go ?_
        refine WC.ret ?_
        refine WK.un ?_
        exact QF.p1 (.inl rfl) rfl (.tmp rfl) (⟨by simp [takenC, hlt], rfl, rfl⟩)
      have e1 : decide ((f.vars.length : Int) ≤ (m : Int)) = false := decide_eq_false (by omega)
      refine go ?_
      refine WC.ret ?_
      refine WK.un ?_
      exact QF.p1 (.inl rfl) rfl (.tmp rfl) (⟨by simp [takenC, hlt], rfl, rfl⟩)
    · -- jump, unless
      by_cases hlt : m < pr.code.length
      rotate_left
      · have e1 : decide ((pr.code.length : Int) ≤ (m : Int)) = true := decide_eq_true (by omega)
        refine go ?_
        refine WC.ret ?_
        refine WK.un ?_
        exact QF.p1 (.inl rfl) rfl (.tmp rfl) (⟨by simp [takenC, hlt], rfl, rfl⟩)
      have e1 : decide ((pr.code.length : Int) ≤ (m : Int)) = false := decide_eq_false (by omega)
      refine go ?_
      refine WC.ret ?_
      refine WK.un ?_
      exact QF.p1 (.inl rfl) rfl (.tmp rfl) (⟨by simp [takenC, hlt], rfl, rfl⟩)
    · -- jump, unless
      by_cases hlt : m < pr.code.length
      rotate_left
      · have e1 : decide ((pr.code.length : Int) ≤ (m : Int)) = true := decide_eq_true (by omega)
        refine go ?_
        refine WC.ret ?_
        refine WK.un ?_
        exact QF.p1 (.inl rfl) rfl (.tmp rfl) (⟨by simp [takenC, hlt], rfl, rfl⟩)
      have e1 : decide ((pr.code.length : Int) ≤ (m : Int)) = false := decide_eq_false (by omega)
      refine go ?_
      refine WC.ret ?_
      refine WK.un ?_
      exact QF.p1 (.inl rfl) rfl (.tmp rfl) (⟨by simp [takenC, hlt], rfl, rfl⟩)
    · -- call
      by_cases hlt : m < pg.procs.length
      rotate_left
      · have e1 : decide ((pg.procs.length : Int) ≤ (m : Int)) = true := decide_eq_true (by omega)
        refine go ?_
        refine WC.ret ?_
        refine WK.un ?_
        exact QF.p1 (.inl rfl) rfl (.tmp rfl) (⟨by simp [takenC, List.getElem?_eq_none (Nat.not_lt.1 hlt)], rfl, rfl⟩)
      have e1 : decide ((pg.procs.length : Int) ≤ (m : Int)) = false := decide_eq_false (by omega)
      obtain ⟨q, hq⟩ : ∃ q, pg.procs[m]? = some q := ⟨_, List.getElem?_eq_getElem hlt⟩
      obtain ⟨qb, qo, qs, hqe, ⟨RPA, rpc, RCA, rcc, rfl, _, _⟩, hqc⟩ := hP0 m q hq
      cases hqe
      refine go ?_
      refine WL.op (by kernel_rfl) (OW.callK rfl (rsized_fn G q.name q.exp RPA q.params.length rpc q.locals q.result (.slice RCA q.code.length rcc)) rfl fun v' G' H' h hg => ?_)
      obtain ⟨he, rfl, rfl⟩ := h
      cases he
      have hsz : (decide ((q.params.length : Int) ≤ q.locals) && decide (q.locals ≤ 64)) = sizedP q := rfl
      rw [hsz]
      cases hs : sizedP q
      · refine go ?_
        refine WC.ret ?_
        refine WK.un ?_
        exact QF.p1 (.inl rfl) rfl (.tmp rfl) (⟨by simp [takenC, hq, hs], rfl, rfl⟩)
      · refine go ?_
        refine WC.ret ?_
        refine WK.un ?_
        exact QF.p1 (.inl rfl) rfl (.tmp rfl) (⟨by simp [takenC, hq, hs], rfl, rfl⟩)
    · -- outer
      refine go ?_
      refine WC.ret ?_
      refine WK.un ?_
      exact QF.p1 (.inl rfl) rfl (.tmp rfl) (⟨rfl, rfl, rfl⟩)
  | false =>
    have hm0 : m = 0 := Classical.byContradiction fun h => hA (.inl ⟨hnb, by omega⟩)
    subst hm0
    by_cases h9 : c = 9
    · subst h9
      by_cases hr : pr.result = 0
      · have e1 : (pr.result != 0) = false := by simpa using hr
        refine go ?_
        refine WC.ret ?_
        refine WK.un ?_
        exact QF.p1 (.inl rfl) rfl (.tmp rfl) (⟨by simp [takenC, hr], rfl, rfl⟩)
      · have e1 : (pr.result != 0) = true := by simpa using hr
        refine go ?_
        refine WC.ret ?_
        refine WK.un ?_
        exact QF.p1 (.inl rfl) rfl (.tmp rfl) (⟨by simp [takenC, hr], rfl, rfl⟩)
    by_cases h10 : c = 10
    · subst h10
      by_cases hr : pr.result = 0
      · have e1 : (pr.result == 0) = true := by simpa using hr
        refine go ?_
        refine WC.ret ?_
        refine WK.un ?_
        exact QF.p1 (.inl rfl) rfl (.tmp rfl) (⟨by simp [takenC, hr], rfl, rfl⟩)
      · have e1 : (pr.result == 0) = false := by simpa using hr
        refine go ?_
        refine WC.ret ?_
        refine WK.un ?_
        exact QF.p1 (.inl rfl) rfl (.tmp rfl) (⟨by simp [takenC, hr], rfl, rfl⟩)
    by_cases hone : c = 4 ∨ c = 11 ∨ c = 24 ∨ c = 25 ∨ c = 26
    · rcases hone with rfl | rfl | rfl | rfl | rfl <;> refine go ?_ <;> refine WC.ret ?_ <;> refine WK.un ?_ <;> exact QF.p1 (.inl rfl) rfl (.tmp rfl) ⟨rfl, rfl, rfl⟩
    by_cases htwo : 12 ≤ c ∧ c ≤ 23
    · have h2 : c = 12 ∨ c = 13 ∨ c = 14 ∨ c = 15 ∨ c = 16 ∨ c = 17 ∨ c = 18 ∨ c = 19 ∨ c = 20 ∨ c = 21 ∨ c = 22 ∨ c = 23 := by omega
      rcases h2 with rfl | rfl | rfl | rfl | rfl | rfl | rfl | rfl | rfl | rfl | rfl | rfl <;> refine go ?_ <;> refine WC.ret ?_ <;> refine WK.un ?_ <;> exact QF.p1 (.inl rfl) rfl (.tmp rfl) ⟨rfl, rfl, rfl⟩
    have hnn : ¬ (c = 1 ∨ c = 2 ∨ c = 3 ∨ c = 5 ∨ c = 6 ∨ c = 7 ∨ c = 8) := of_decide_eq_false hnb
    simp only [not_or] at hnn hone
    have q1 : (c == 1) = false := beq_eq_false_iff_ne.2 (by omega)
    have q2 : (c == 2) = false := beq_eq_false_iff_ne.2 (by omega)
    have q3 : (c == 3) = false := beq_eq_false_iff_ne.2 (by omega)
    have q5 : (c == 5) = false := beq_eq_false_iff_ne.2 (by omega)
    have q6 : (c == 6) = false := beq_eq_false_iff_ne.2 (by omega)
    have q7 : (c == 7) = false := beq_eq_false_iff_ne.2 (by omega)
    have q9 : (c == 9) = false := beq_eq_false_iff_ne.2 (by omega)
    have q10 : (c == 10) = false := beq_eq_false_iff_ne.2 (by omega)
    have q4 : (c == 4) = false := beq_eq_false_iff_ne.2 (by omega)
    have q11 : (c == 11) = false := beq_eq_false_iff_ne.2 (by omega)
    have q24 : (c == 24) = false := beq_eq_false_iff_ne.2 (by omega)
    have q25 : (c == 25) = false := beq_eq_false_iff_ne.2 (by omega)
    have q26 : (c == 26) = false := beq_eq_false_iff_ne.2 (by omega)
    have q12 : (c == 12) = false := beq_eq_false_iff_ne.2 (by omega)
    have q13 : (c == 13) = false := beq_eq_false_iff_ne.2 (by omega)
    have q14 : (c == 14) = false := beq_eq_false_iff_ne.2 (by omega)
    have q15 : (c == 15) = false := beq_eq_false_iff_ne.2 (by omega)
    have q16 : (c == 16) = false := beq_eq_false_iff_ne.2 (by omega)
    have q17 : (c == 17) = false := beq_eq_false_iff_ne.2 (by omega)
    have q18 : (c == 18) = false := beq_eq_false_iff_ne.2 (by omega)
    have q19 : (c == 19) = false := beq_eq_false_iff_ne.2 (by omega)
    have q20 : (c == 20) = false := beq_eq_false_iff_ne.2 (by omega)
    have q21 : (c == 21) = false := beq_eq_false_iff_ne.2 (by omega)
    have q22 : (c == 22) = false := beq_eq_false_iff_ne.2 (by omega)
    have q23 : (c == 23) = false := beq_eq_false_iff_ne.2 (by omega)
    refine go ?_
    refine WC.ret ?_
    refine WK.un ?_
    exact QF.p1 (.inl rfl) rfl (.tmp rfl) (⟨by simp [takenC, hnn, hone, h9, h10, htwo], rfl, rfl⟩)
end
end Go.Proofs.Ytjgohbepageicaa.Gb
namespace Go.Proofs.Ytjgohbepageicaa.Gb
open Go Go.Proofs
set_option linter.unusedVariables false
set_option linter.unusedSimpArgs false
set_option linter.unusedSectionVars false
attribute [local irreducible] Try.prog

def fitsR (pg : Pg) (res c n : Int) (gl : List V) : Bool :=
  if c = 7 then (match pg.procs[n.toNat]? with | some q => typedR gl q.params | none => false)
  else match gl with
    | [u] => if c = 6 ∨ c = 25 then u.t == 2 else if c = 24 then u.t == 1 else if c = 26 then u.t == 3 else if c = 10 then u.t == res else true
    | [u, v] => if c = 12 ∨ c = 13 then u.t == v.t else if c = 14 ∨ c = 15 ∨ c = 16 ∨ c = 17 then u.t == v.t && u.t != 2 else if c = 20 then u.t == 3 && v.t == 3 else if c = 18 ∨ c = 19 ∨ c = 21 ∨ c = 22 ∨ c = 23 then u.t == 1 && v.t == 1 else true
    | _ => true

section
variable (G : Gh) (pg : Pg) (CA PA QA : Option Addr) (qn cc pc qc : Nat) (hP : Sl Kd.prc G PA pg.procs) (FA : Option Addr) (fn fc : Nat) (en : Int) (v : V) (OA : Option Addr) (on oc : Nat) (st : Int)
include hP
set_option maxHeartbeats 2000000 in
theorem rfits_fn (f : Fr) (pr : Pr) (hpr : pg.procs[f.proc]? = some pr) (VA SA : Option Addr) (vc sc : Nat) (c n : Int) (hpl : pg.procs.length ≤ 10000000000000) (LA : Option Addr) (lc : Nat) (gl : List V) (hL : Sl Kd.val G LA gl) (hll : gl.length ≤ 1000000)
    (h1 : c = 6 ∨ c = 25 ∨ c = 24 ∨ c = 26 ∨ c = 10 → ∃ u, gl = [u]) (h2 : 12 ≤ c ∧ c ≤ 23 → ∃ u v, gl = [u, v]) (h7 : c = 7 → 0 ≤ n ∧ ∃ q, pg.procs[n.toNat]? = some q) :
    Fn Try.prog 70 #[rmV CA PA QA pg.consts.length pg.procs.length qn cc pc qc FA fn fc en v OA on oc st, .agg #[.int .i64 f.proc, .int .i64 f.pc, .slice VA f.vars.length vc, .slice SA f.stack.length sc], .agg #[.int .i64 c, .int .i64 n], .slice LA gl.length lc] G []
      fun e G' H' => e = .returned (.bool (fitsR pg pr.result c n gl)) ∧ G = G' ∧ H' = [] := by
  have hil := (List.getElem?_eq_some_iff.1 hpr).1
  have hP0 := hP
  obtain ⟨pb, po, cs, rfl, ⟨QPA, qpc, ICA, icc, rfl, _, _⟩, hcs⟩ := hP f.proc pr hpr
  refine Fn.enter Try.func70 rfl rfl fun w0 => ?_
  refine WC.seq ?_
  refine WC.region ?_
  refine WL.op (by kernel_rfl) (OW.box rfl rfl fun b1 => ?_)
  refine WL.op (by kernel_rfl) (OW.box rfl rfl fun b2 => ?_)
  refine WL.op (by kernel_rfl) (OW.box rfl rfl fun b3 => ?_)
  by_cases c7 : c = 7
  · subst c7
    obtain ⟨hn, q, hq⟩ := h7 rfl
    obtain ⟨m, rfl⟩ : ∃ m : Nat, n = m := ⟨n.toNat, by omega⟩
    rw [Int.toNat_natCast] at hq
    have hml := (List.getElem?_eq_some_iff.1 hq).1
    obtain ⟨qb, qo, qs, hqe, ⟨RPA, rpc, RCA, rcc, rfl, hRP, _⟩, hqc⟩ := hP0 m q hq
    cases hqe
    refine go ?_
    refine WL.op (by kernel_rfl) (OW.callK rfl (rtyped_fn G [] LA RPA lc rpc gl q.params (Sl.vals hL) hRP (by omega)) rfl fun v' G' H' h hg => ?_)
    obtain ⟨he, rfl, rfl⟩ := h
    cases he
    refine go ?_
    refine WC.ret ?_
    refine WK.un ?_
    exact QF.p1 (.inl rfl) rfl (.tmp rfl) (⟨by simp [fitsR, hq], rfl, rfl⟩)
  by_cases c6 : c = 6
  · subst c6
    obtain ⟨u, rfl⟩ := h1 (by decide)
    obtain ⟨lb, lo, ls, rfl, hls, hlc⟩ := hL 0 u rfl
    obtain rfl : ls = vcells u := hls
    have e0 : (0 : Int) < (([u] : List V).length : Int) := by simp
    refine go ?_
    refine WC.ret ?_
    refine WK.un ?_
    exact QF.p1 (.inl rfl) rfl (.tmp rfl) (⟨by simp [fitsR], rfl, rfl⟩)
  by_cases c25 : c = 25
  · subst c25
    obtain ⟨u, rfl⟩ := h1 (by decide)
    obtain ⟨lb, lo, ls, rfl, hls, hlc⟩ := hL 0 u rfl
    obtain rfl : ls = vcells u := hls
    have e0 : (0 : Int) < (([u] : List V).length : Int) := by simp
    refine go ?_
    refine WC.ret ?_
    refine WK.un ?_
    exact QF.p1 (.inl rfl) rfl (.tmp rfl) (⟨by simp [fitsR], rfl, rfl⟩)
  by_cases c24 : c = 24
  · subst c24
    obtain ⟨u, rfl⟩ := h1 (by decide)
    obtain ⟨lb, lo, ls, rfl, hls, hlc⟩ := hL 0 u rfl
    obtain rfl : ls = vcells u := hls
    have e0 : (0 : Int) < (([u] : List V).length : Int) := by simp
    refine go ?_
    refine WC.ret ?_
    refine WK.un ?_
    exact QF.p1 (.inl rfl) rfl (.tmp rfl) (⟨by simp [fitsR], rfl, rfl⟩)
  by_cases c26 : c = 26
  · subst c26
    obtain ⟨u, rfl⟩ := h1 (by decide)
    obtain ⟨lb, lo, ls, rfl, hls, hlc⟩ := hL 0 u rfl
    obtain rfl : ls = vcells u := hls
    have e0 : (0 : Int) < (([u] : List V).length : Int) := by simp
    refine go ?_
    refine WC.ret ?_
    refine WK.un ?_
    exact QF.p1 (.inl rfl) rfl (.tmp rfl) (⟨by simp [fitsR], rfl, rfl⟩)
  by_cases c10 : c = 10
  · subst c10
    obtain ⟨u, rfl⟩ := h1 (by decide)
    obtain ⟨lb, lo, ls, rfl, hls, hlc⟩ := hL 0 u rfl
    obtain rfl : ls = vcells u := hls
    have e0 : (0 : Int) < (([u] : List V).length : Int) := by simp
    refine go ?_
    refine WQ.start mixed ?_
    refine goQ ?_
    refine go ?_
    refine WC.ret ?_
    refine WK.un ?_
    exact QF.p1 (.inl rfl) rfl (.tmp rfl) (⟨by simp [fitsR], rfl, rfl⟩)
  by_cases c12 : c = 12
  · subst c12
    obtain ⟨u, v', rfl⟩ := h2 (by decide)
    obtain ⟨lb, lo, ls, rfl, hls, hlc⟩ := hL 0 u rfl
    obtain rfl : ls = vcells u := hls
    obtain ⟨lb2, lo2, ls2, hle, hls2, hlc2⟩ := hL 1 v' rfl
    cases hle
    obtain rfl : ls2 = vcells v' := hls2
    have e0 : (0 : Int) < (([u, v'] : List V).length : Int) := by simp
    have e1 : (1 : Int) < (([u, v'] : List V).length : Int) := by simp
    refine go ?_
    refine WQ.start mixed ?_
    refine goQ ?_
    refine go ?_
    refine WC.ret ?_
    refine WK.un ?_
    exact QF.p1 (.inl rfl) rfl (.tmp rfl) (⟨by simp [fitsR], rfl, rfl⟩)
  by_cases c13 : c = 13
  · subst c13
    obtain ⟨u, v', rfl⟩ := h2 (by decide)
    obtain ⟨lb, lo, ls, rfl, hls, hlc⟩ := hL 0 u rfl
    obtain rfl : ls = vcells u := hls
    obtain ⟨lb2, lo2, ls2, hle, hls2, hlc2⟩ := hL 1 v' rfl
    cases hle
    obtain rfl : ls2 = vcells v' := hls2
    have e0 : (0 : Int) < (([u, v'] : List V).length : Int) := by simp
    have e1 : (1 : Int) < (([u, v'] : List V).length : Int) := by simp
    refine go ?_
    refine WQ.start mixed ?_
    refine goQ ?_
    refine go ?_
    refine WC.ret ?_
    refine WK.un ?_
    exact QF.p1 (.inl rfl) rfl (.tmp rfl) (⟨by simp [fitsR], rfl, rfl⟩)
  by_cases c14 : c = 14
  · subst c14
    obtain ⟨u, v', rfl⟩ := h2 (by decide)
    obtain ⟨lb, lo, ls, rfl, hls, hlc⟩ := hL 0 u rfl
    obtain rfl : ls = vcells u := hls
    obtain ⟨lb2, lo2, ls2, hle, hls2, hlc2⟩ := hL 1 v' rfl
    cases hle
    obtain rfl : ls2 = vcells v' := hls2
    have e0 : (0 : Int) < (([u, v'] : List V).length : Int) := by simp
    have e1 : (1 : Int) < (([u, v'] : List V).length : Int) := by simp
    cases ht : (u.t == v'.t)
    · refine go ?_
      refine WQ.start mixed ?_
      refine goQ ?_
      refine go ?_
      refine WC.ret ?_
      refine WK.un ?_
      exact QF.p1 (.inl rfl) rfl (.tmp rfl) (⟨by simp [fitsR, ht], rfl, rfl⟩)
    · refine go ?_
      refine WQ.start mixed ?_
      refine goQ ?_
      refine go ?_
      refine WC.ret ?_
      refine WK.un ?_
      exact QF.p1 (.inl rfl) rfl (.tmp rfl) (⟨by simp [fitsR, ht], rfl, rfl⟩)
  by_cases c15 : c = 15
  · subst c15
    obtain ⟨u, v', rfl⟩ := h2 (by decide)
    obtain ⟨lb, lo, ls, rfl, hls, hlc⟩ := hL 0 u rfl
    obtain rfl : ls = vcells u := hls
    obtain ⟨lb2, lo2, ls2, hle, hls2, hlc2⟩ := hL 1 v' rfl
    cases hle
    obtain rfl : ls2 = vcells v' := hls2
    have e0 : (0 : Int) < (([u, v'] : List V).length : Int) := by simp
    have e1 : (1 : Int) < (([u, v'] : List V).length : Int) := by simp
    cases ht : (u.t == v'.t)
    · refine go ?_
      refine WQ.start mixed ?_
      refine goQ ?_
      refine go ?_
      refine WC.ret ?_
      refine WK.un ?_
      exact QF.p1 (.inl rfl) rfl (.tmp rfl) (⟨by simp [fitsR, ht], rfl, rfl⟩)
    · refine go ?_
      refine WQ.start mixed ?_
      refine goQ ?_
      refine go ?_
      refine WC.ret ?_
      refine WK.un ?_
      exact QF.p1 (.inl rfl) rfl (.tmp rfl) (⟨by simp [fitsR, ht], rfl, rfl⟩)
  by_cases c16 : c = 16
  · subst c16
    obtain ⟨u, v', rfl⟩ := h2 (by decide)
    obtain ⟨lb, lo, ls, rfl, hls, hlc⟩ := hL 0 u rfl
    obtain rfl : ls = vcells u := hls
    obtain ⟨lb2, lo2, ls2, hle, hls2, hlc2⟩ := hL 1 v' rfl
    cases hle
    obtain rfl : ls2 = vcells v' := hls2
    have e0 : (0 : Int) < (([u, v'] : List V).length : Int) := by simp
    have e1 : (1 : Int) < (([u, v'] : List V).length : Int) := by simp
    cases ht : (u.t == v'.t)
    · refine go ?_
      refine WQ.start mixed ?_
      refine goQ ?_
      refine go ?_
      refine WC.ret ?_
      refine WK.un ?_
      exact QF.p1 (.inl rfl) rfl (.tmp rfl) (⟨by simp [fitsR, ht], rfl, rfl⟩)
    · refine go ?_
      refine WQ.start mixed ?_
      refine goQ ?_
      refine go ?_
      refine WC.ret ?_
      refine WK.un ?_
      exact QF.p1 (.inl rfl) rfl (.tmp rfl) (⟨by simp [fitsR, ht], rfl, rfl⟩)
  by_cases c17 : c = 17
  · subst c17
    obtain ⟨u, v', rfl⟩ := h2 (by decide)
    obtain ⟨lb, lo, ls, rfl, hls, hlc⟩ := hL 0 u rfl
    obtain rfl : ls = vcells u := hls
    obtain ⟨lb2, lo2, ls2, hle, hls2, hlc2⟩ := hL 1 v' rfl
    cases hle
    obtain rfl : ls2 = vcells v' := hls2
    have e0 : (0 : Int) < (([u, v'] : List V).length : Int) := by simp
    have e1 : (1 : Int) < (([u, v'] : List V).length : Int) := by simp
    cases ht : (u.t == v'.t)
    · refine go ?_
      refine WQ.start mixed ?_
      refine goQ ?_
      refine go ?_
      refine WC.ret ?_
      refine WK.un ?_
      exact QF.p1 (.inl rfl) rfl (.tmp rfl) (⟨by simp [fitsR, ht], rfl, rfl⟩)
    · refine go ?_
      refine WQ.start mixed ?_
      refine goQ ?_
      refine go ?_
      refine WC.ret ?_
      refine WK.un ?_
      exact QF.p1 (.inl rfl) rfl (.tmp rfl) (⟨by simp [fitsR, ht], rfl, rfl⟩)
  by_cases c20 : c = 20
  · subst c20
    obtain ⟨u, v', rfl⟩ := h2 (by decide)
    obtain ⟨lb, lo, ls, rfl, hls, hlc⟩ := hL 0 u rfl
    obtain rfl : ls = vcells u := hls
    obtain ⟨lb2, lo2, ls2, hle, hls2, hlc2⟩ := hL 1 v' rfl
    cases hle
    obtain rfl : ls2 = vcells v' := hls2
    have e0 : (0 : Int) < (([u, v'] : List V).length : Int) := by simp
    have e1 : (1 : Int) < (([u, v'] : List V).length : Int) := by simp
    cases ht : (u.t == 3)
    · refine go ?_
      refine WC.ret ?_
      refine WK.un ?_
      exact QF.p1 (.inl rfl) rfl (.tmp rfl) (⟨by simp [fitsR, ht], rfl, rfl⟩)
    · refine go ?_
      refine WC.ret ?_
      refine WK.un ?_
      exact QF.p1 (.inl rfl) rfl (.tmp rfl) (⟨by simp [fitsR, ht], rfl, rfl⟩)
  by_cases c18 : c = 18
  · subst c18
    obtain ⟨u, v', rfl⟩ := h2 (by decide)
    obtain ⟨lb, lo, ls, rfl, hls, hlc⟩ := hL 0 u rfl
    obtain rfl : ls = vcells u := hls
    obtain ⟨lb2, lo2, ls2, hle, hls2, hlc2⟩ := hL 1 v' rfl
    cases hle
    obtain rfl : ls2 = vcells v' := hls2
    have e0 : (0 : Int) < (([u, v'] : List V).length : Int) := by simp
    have e1 : (1 : Int) < (([u, v'] : List V).length : Int) := by simp
    cases ht : (u.t == 1)
    · refine go ?_
      refine WC.ret ?_
      refine WK.un ?_
      exact QF.p1 (.inl rfl) rfl (.tmp rfl) (⟨by simp [fitsR, ht], rfl, rfl⟩)
    · refine go ?_
      refine WC.ret ?_
      refine WK.un ?_
      exact QF.p1 (.inl rfl) rfl (.tmp rfl) (⟨by simp [fitsR, ht], rfl, rfl⟩)
  by_cases c19 : c = 19
  · subst c19
    obtain ⟨u, v', rfl⟩ := h2 (by decide)
    obtain ⟨lb, lo, ls, rfl, hls, hlc⟩ := hL 0 u rfl
    obtain rfl : ls = vcells u := hls
    obtain ⟨lb2, lo2, ls2, hle, hls2, hlc2⟩ := hL 1 v' rfl
    cases hle
    obtain rfl : ls2 = vcells v' := hls2
    have e0 : (0 : Int) < (([u, v'] : List V).length : Int) := by simp
    have e1 : (1 : Int) < (([u, v'] : List V).length : Int) := by simp
    cases ht : (u.t == 1)
    · refine go ?_
      refine WC.ret ?_
      refine WK.un ?_
      exact QF.p1 (.inl rfl) rfl (.tmp rfl) (⟨by simp [fitsR, ht], rfl, rfl⟩)
    · refine go ?_
      refine WC.ret ?_
      refine WK.un ?_
      exact QF.p1 (.inl rfl) rfl (.tmp rfl) (⟨by simp [fitsR, ht], rfl, rfl⟩)
  by_cases c21 : c = 21
  · subst c21
    obtain ⟨u, v', rfl⟩ := h2 (by decide)
    obtain ⟨lb, lo, ls, rfl, hls, hlc⟩ := hL 0 u rfl
    obtain rfl : ls = vcells u := hls
    obtain ⟨lb2, lo2, ls2, hle, hls2, hlc2⟩ := hL 1 v' rfl
    cases hle
    obtain rfl : ls2 = vcells v' := hls2
    have e0 : (0 : Int) < (([u, v'] : List V).length : Int) := by simp
    have e1 : (1 : Int) < (([u, v'] : List V).length : Int) := by simp
    cases ht : (u.t == 1)
    · refine go ?_
      refine WC.ret ?_
      refine WK.un ?_
      exact QF.p1 (.inl rfl) rfl (.tmp rfl) (⟨by simp [fitsR, ht], rfl, rfl⟩)
    · refine go ?_
      refine WC.ret ?_
      refine WK.un ?_
      exact QF.p1 (.inl rfl) rfl (.tmp rfl) (⟨by simp [fitsR, ht], rfl, rfl⟩)
  by_cases c22 : c = 22
  · subst c22
    obtain ⟨u, v', rfl⟩ := h2 (by decide)
    obtain ⟨lb, lo, ls, rfl, hls, hlc⟩ := hL 0 u rfl
    obtain rfl : ls = vcells u := hls
    obtain ⟨lb2, lo2, ls2, hle, hls2, hlc2⟩ := hL 1 v' rfl
    cases hle
    obtain rfl : ls2 = vcells v' := hls2
    have e0 : (0 : Int) < (([u, v'] : List V).length : Int) := by simp
    have e1 : (1 : Int) < (([u, v'] : List V).length : Int) := by simp
    cases ht : (u.t == 1)
    · refine go ?_
      refine WC.ret ?_
      refine WK.un ?_
      exact QF.p1 (.inl rfl) rfl (.tmp rfl) (⟨by simp [fitsR, ht], rfl, rfl⟩)
    · refine go ?_
      refine WC.ret ?_
      refine WK.un ?_
      exact QF.p1 (.inl rfl) rfl (.tmp rfl) (⟨by simp [fitsR, ht], rfl, rfl⟩)
  by_cases c23 : c = 23
  · subst c23
    obtain ⟨u, v', rfl⟩ := h2 (by decide)
    obtain ⟨lb, lo, ls, rfl, hls, hlc⟩ := hL 0 u rfl
    obtain rfl : ls = vcells u := hls
    obtain ⟨lb2, lo2, ls2, hle, hls2, hlc2⟩ := hL 1 v' rfl
    cases hle
    obtain rfl : ls2 = vcells v' := hls2
    have e0 : (0 : Int) < (([u, v'] : List V).length : Int) := by simp
    have e1 : (1 : Int) < (([u, v'] : List V).length : Int) := by simp
    cases ht : (u.t == 1)
    · refine go ?_
      refine WC.ret ?_
      refine WK.un ?_
      exact QF.p1 (.inl rfl) rfl (.tmp rfl) (⟨by simp [fitsR, ht], rfl, rfl⟩)
    · refine go ?_
      refine WC.ret ?_
      refine WK.un ?_
      exact QF.p1 (.inl rfl) rfl (.tmp rfl) (⟨by simp [fitsR, ht], rfl, rfl⟩)
  have q6 : (c == 6) = false := beq_eq_false_iff_ne.2 c6
  have q25 : (c == 25) = false := beq_eq_false_iff_ne.2 c25
  have q24 : (c == 24) = false := beq_eq_false_iff_ne.2 c24
  have q26 : (c == 26) = false := beq_eq_false_iff_ne.2 c26
  have q10 : (c == 10) = false := beq_eq_false_iff_ne.2 c10
  have q12 : (c == 12) = false := beq_eq_false_iff_ne.2 c12
  have q13 : (c == 13) = false := beq_eq_false_iff_ne.2 c13
  have q14 : (c == 14) = false := beq_eq_false_iff_ne.2 c14
  have q15 : (c == 15) = false := beq_eq_false_iff_ne.2 c15
  have q16 : (c == 16) = false := beq_eq_false_iff_ne.2 c16
  have q17 : (c == 17) = false := beq_eq_false_iff_ne.2 c17
  have q20 : (c == 20) = false := beq_eq_false_iff_ne.2 c20
  have q18 : (c == 18) = false := beq_eq_false_iff_ne.2 c18
  have q19 : (c == 19) = false := beq_eq_false_iff_ne.2 c19
  have q21 : (c == 21) = false := beq_eq_false_iff_ne.2 c21
  have q22 : (c == 22) = false := beq_eq_false_iff_ne.2 c22
  have q23 : (c == 23) = false := beq_eq_false_iff_ne.2 c23
  have q7 : (c == 7) = false := beq_eq_false_iff_ne.2 c7
  refine go ?_
  have hres : fitsR pg pr.result c n gl = true := by
    unfold fitsR
    rw [if_neg c7]
    split
    · simp [c6, c25, c24, c26, c10]
    · simp [c12, c13, c14, c15, c16, c17, c20, c18, c19, c21, c22, c23]
    · rfl
  rw [hres]
  refine WC.ret ?_
  refine WK.un ?_
  exact QF.p1 (.inl rfl) rfl (.tmp rfl) (⟨rfl, rfl, rfl⟩)
end
end Go.Proofs.Ytjgohbepageicaa.Gb
namespace Go.Proofs.Ytjgohbepageicaa.Gb
open Go Go.Proofs
set_option linter.unusedVariables false
set_option linter.unusedSimpArgs false
set_option linter.unusedSectionVars false

section
variable {P : Program} {Q : Exit → Act → World → Prop} {cx : Cx} {L : List (Nat × Value)} {G : Gh} {H : List Own} {l rest : List Oper} {k : Nat} {o o' : Oper}
theorem want_none {ops : Array Oper} (h : o.guard = none) : wantB ops L o = some true := by simp [wantB, h]
/-- two of which either may come first -/
theorem WQ.two (hr : Region.ready .any l.toArray (listedF l.length k) = [k, k + 1]) (hr1 : Region.ready .any l.toArray (listedF l.length (k + 1)) = [k + 1]) (hr2 : Region.ready .any l.toArray ((listedF l.length k).setIfInBounds (k + 1) true) = [k]) (hg : o.guard = none) (hg' : o'.guard = none)
    (h : OW P Q o cx L G H fun L' G' H' => OW P Q o' cx L' G' H' fun L2 G2 H2 => WQ P l Q (k + 1 + 1) rest cx L2 G2 H2)
    (h' : OW P Q o' cx L G H fun L' G' H' => OW P Q o cx L' G' H' fun L2 G2 H2 => WQ P l Q (k + 1 + 1) rest cx L2 G2 H2) : WQ P l Q k (o :: o' :: rest) cx L G H := fun e => by
  obtain ⟨h1, h2, h3⟩ := WQ.get e
  obtain ⟨h4, h5, h6⟩ := WQ.get h3
  refine WA.two hr h1 h4 (want_none hg) (want_none hg') ?_ ?_
  · rw [listedF_succ h2]
    refine fun next hn => h next fun L' G' H' k' => hn L' G' H' (WA.one hr1 h4 (want_none hg') ?_)
    rw [listedF_succ h5]
    exact fun next hn => k' next fun L2 G2 H2 k2 => hn L2 G2 H2 (k2 h6)
  · refine fun next hn => h' next fun L' G' H' k' => hn L' G' H' (WA.one hr2 h1 (want_none hg) ?_)
    have e2 : ((listedF l.length k).setIfInBounds (k + 1) true).setIfInBounds k true = listedF l.length (k + 1 + 1) := by
      rw [Array.setIfInBounds_comm _ _ (by omega), listedF_succ h2, listedF_succ h5]
    rw [e2]
    exact fun next hn => k' next fun L2 G2 H2 k2 => hn L2 G2 H2 (k2 h6)
/-- ways that meet behind a part -/
theorem WC.joinR {x y : Code} {X : Type} (Lf : X → List (Nat × Value)) (Hf : X → List Own)
    (h : WC P x (Exit.then (fun a w => ∃ t, St cx (Lf t) G (Hf t) a w) Q) cx L G H) (hy : ∀ t, WC P y Q cx (Lf t) G (Hf t)) : WC P x (Exit.then (y.wp P Q) Q) cx L G H :=
  fun a w st => Code.wp_mono (fun e a w q => by cases e <;> first | exact (let ⟨t, h⟩ := q; hy t a w h) | exact q) (h a w st)
theorem WK.meetR {X : Type} {Lf : X → List (Nat × Value)} {Hf : X → List Own} {F : List Own} (t : X) (hL : AllLk L (Lf t)) (hH : Pk H (Hf t) F) : WK (fun a w => ∃ t, St cx (Lf t) G (Hf t) a w) cx L G H :=
  fun a w st => ⟨t, (st.pk hH).weaken hL.sub (List.Sublist.refl _)⟩
end
attribute [local irreducible] Try.prog

def madeR (c : Int) (u v : V) : V × Int :=
  if c = 12 then (truthV (decide (u = v)), 0) else if c = 13 then (truthV (!decide (u = v)), 0)
  else if c = 14 then (truthV (lessR u v), 0) else if c = 15 then (truthV (!lessR v u), 0) else if c = 16 then (truthV (lessR v u), 0) else if c = 17 then (truthV (!lessR u v), 0)
  else if c = 18 then (numV (IntKind.i64.wrap (u.i + v.i)), 0) else if c = 19 then (numV (IntKind.i64.wrap (u.i - v.i)), 0) else if c = 21 then (numV (IntKind.i64.wrap (u.i * v.i)), 0)
  else if c = 24 then (numV (IntKind.i64.wrap (0 - u.i)), 0) else if c = 25 then (truthV (!u.b), 0) else if c = 26 then (numV u.s.size, 0)
  else if c = 20 then (if 4096 < (u.s.size : Int) + v.s.size then (V0, 3) else (textV (u.s ++ v.s), 0))
  else if v.i = 0 then (V0, 2) else if c = 22 then (numV (quoR u.i v.i), 0) else (numV (restR u.i v.i), 0)

set_option maxHeartbeats 2000000 in
theorem rmade_fn (G : Gh) (c : Int) (hc : 12 ≤ c ∧ c ≤ 26) (LA : Option Addr) (lc : Nat) (gl : List V) (hL : Sl Kd.val G LA gl) (u v : V) (hu : gl[0]? = some u) (hv : gl[gl.length - 1]? = some v) (hll : gl.length ≤ 2) (hus : u.s.size ≤ 100000) (hvs : v.s.size ≤ 100000) :
    Fn Try.prog 63 #[.int .i64 c, .slice LA gl.length lc] G [] fun e G' H' => e = .returned (.tuple #[.agg #[.int .i64 (madeR c u v).1.t, .int .i64 (madeR c u v).1.i, .bool (madeR c u v).1.b, .string (madeR c u v).1.s], .int .i64 (madeR c u v).2]) ∧ G = G' ∧ H' = [] := by
  have hl0 := (List.getElem?_eq_some_iff.1 hu).1
  obtain ⟨lb, lo, ls, rfl, hls, hlc⟩ := hL 0 u hu
  obtain rfl : ls = vcells u := hls
  obtain ⟨lb2, lo2, ls2, hle, hls2, hlc2⟩ := hL (gl.length - 1) v hv
  cases hle
  obtain rfl : ls2 = vcells v := hls2
  have e0 : (0 : Int) < (gl.length : Int) := by omega
  have e1 : IntKind.i64.wrap ((gl.length : Int) - 1) = ((gl.length - 1 : Nat) : Int) := by rw [wrap_small (by omega) (by omega)]; omega
  have e2 : (0 : Int) ≤ ((gl.length - 1 : Nat) : Int) := by omega
  have e3 : ((gl.length - 1 : Nat) : Int) < (gl.length : Int) := by omega
  refine Fn.enter Try.func63 rfl rfl fun w0 => ?_
  refine WC.seq ?_
  refine WC.region ?_
  refine WL.op (by kernel_rfl) (OW.alloc rfl fun b1 => ?_)
  refine go ?_
  refine WC.joinR (X := Nat × Nat) (fun t => [(0, .int .i64 c), (4, .pointer (some ⟨b1, 0, none⟩)), (5, .int .i64 0), (6, .pointer (some ⟨t.1, 0, none⟩)), (7, .pointer (some ⟨t.2, 0, none⟩))])
    (fun t => [.blk t.1 (.cells #[.int .i64 u.t, .int .i64 u.i, .bool u.b, .string u.s] 33 (0, 0)), .blk t.2 (.cells #[.int .i64 v.t, .int .i64 v.i, .bool v.b, .string v.s] 33 (0, 0)), .blk b1 (.cells #[.int .i64 0, .int .i64 0, .bool false, .string ⟨#[]⟩] 33 (0, 0))]) ?_ fun t => ?_
  · refine WC.drawB mixed ?_
    refine WB.tp (i := 0) rfl (by kernel_rfl) (by kernel_rfl) rfl (Gp.move rfl) ?_
    refine WB.tp (i := 1) rfl (by kernel_rfl) (by kernel_rfl) rfl (Gp.indexAddr rfl rfl (by first | assumption | omega | decide) (by first | assumption | omega | decide | (simp only [List.length_cons, List.length_nil]; decide))) ?_
    refine WB.tp (i := 3) rfl (by kernel_rfl) (by kernel_rfl) rfl (Gp.move rfl) ?_
    refine WB.tp (i := 4) rfl (by kernel_rfl) (by kernel_rfl) rfl (Gp.move rfl) ?_
    (first | refine WB.tp (i := 5) rfl (by kernel_rfl) (by kernel_rfl) rfl (Gp.lenSl rfl) ?_ | refine WB.tp (i := 5) rfl (by kernel_rfl) (by kernel_rfl) rfl (Gp.lenS rfl) ?_)
    refine WB.tp (i := 6) rfl (by kernel_rfl) (by kernel_rfl) rfl (Gp.sub' rfl rfl e1) ?_
    refine WB.tv (i := 2) rfl (by kernel_rfl) (by kernel_rfl) rfl (Gv.loadGN rfl hlc rfl) ?_
    refine WB.tp (i := 7) rfl (by kernel_rfl) (by kernel_rfl) rfl (Gp.indexAddr rfl rfl (by first | assumption | omega | decide) (by first | assumption | omega | decide | (simp only [List.length_cons, List.length_nil]; decide))) ?_
    refine WB.tv (i := 8) rfl (by kernel_rfl) (by kernel_rfl) rfl (Gv.loadGN rfl hlc2 rfl) ?_
    refine WB.two (i := 9) (j := 10) (by kernel_rfl) rfl rfl (by kernel_rfl) (by kernel_rfl) (OW.alloc rfl fun b2 => ?_) (OW.alloc rfl fun b3 => ?_)
    ·
      refine ⟨fun w hw => hw.pk (by repeat (first | exact Pk.nil | exact Pk.all | exact Pk.app | exact Pk.appR | with_reducible apply Pk.na | (apply Pk.cons; (repeat first | exact .here | apply Rem.there | apply Rem.app)) | apply Pk.skip | apply Pk.skipA)), ?_⟩
      refine WB.one (i := 10) (by kernel_rfl) rfl (by kernel_rfl) (OW.alloc rfl fun b3 => ?_)
      refine ⟨fun w hw => hw.pk (by repeat (first | exact Pk.nil | exact Pk.all | exact Pk.app | exact Pk.appR | with_reducible apply Pk.na | (apply Pk.cons; (repeat first | exact .here | apply Rem.there | apply Rem.app)) | apply Pk.skip | apply Pk.skipA)), ?_⟩
      refine WB.one (i := 11) (by kernel_rfl) rfl (by kernel_rfl) (OW.store rfl rfl (by (repeat first | exact .here | apply At.there)) rfl (by rfl) (by rfl) (by kernel_rfl) (by rfl) ?_ rfl)
      refine ⟨fun w hw => hw.pk (by repeat (first | exact Pk.nil | exact Pk.all | exact Pk.app | exact Pk.appR | with_reducible apply Pk.na | (apply Pk.cons; (repeat first | exact .here | apply Rem.there | apply Rem.app)) | apply Pk.skip | apply Pk.skipA)), ?_⟩
      refine WB.one (i := 12) (by kernel_rfl) rfl (by kernel_rfl) (OW.store rfl rfl (by (repeat first | exact .here | apply At.there)) rfl (by rfl) (by rfl) (by kernel_rfl) (by rfl) ?_ rfl)
      refine ⟨fun w hw => hw.pk (by repeat (first | exact Pk.nil | exact Pk.all | exact Pk.app | exact Pk.appR | with_reducible apply Pk.na | (apply Pk.cons; (repeat first | exact .here | apply Rem.there | apply Rem.app)) | apply Pk.skip | apply Pk.skipA)), ?_⟩
      refine WB.done (by kernel_rfl) ?_
      refine WK.un ?_
      exact WK.meetR (b2, b3) (by exact ⟨rfl, rfl, rfl, rfl, rfl, trivial⟩) (by repeat (first | exact Pk.nil | exact Pk.all | exact Pk.app | exact Pk.appR | with_reducible apply Pk.na | (apply Pk.cons; (repeat first | exact .here | apply Rem.there | apply Rem.app)) | apply Pk.skip | apply Pk.skipA))
    ·
      refine ⟨fun w hw => hw.pk (by repeat (first | exact Pk.nil | exact Pk.all | exact Pk.app | exact Pk.appR | with_reducible apply Pk.na | (apply Pk.cons; (repeat first | exact .here | apply Rem.there | apply Rem.app)) | apply Pk.skip | apply Pk.skipA)), ?_⟩
      refine WB.one (i := 9) (by kernel_rfl) rfl (by kernel_rfl) (OW.alloc rfl fun b2 => ?_)
      refine ⟨fun w hw => hw.pk (by repeat (first | exact Pk.nil | exact Pk.all | exact Pk.app | exact Pk.appR | with_reducible apply Pk.na | (apply Pk.cons; (repeat first | exact .here | apply Rem.there | apply Rem.app)) | apply Pk.skip | apply Pk.skipA)), ?_⟩
      refine WB.one (i := 11) (by kernel_rfl) rfl (by kernel_rfl) (OW.store rfl rfl (by (repeat first | exact .here | apply At.there)) rfl (by rfl) (by rfl) (by kernel_rfl) (by rfl) ?_ rfl)
      refine ⟨fun w hw => hw.pk (by repeat (first | exact Pk.nil | exact Pk.all | exact Pk.app | exact Pk.appR | with_reducible apply Pk.na | (apply Pk.cons; (repeat first | exact .here | apply Rem.there | apply Rem.app)) | apply Pk.skip | apply Pk.skipA)), ?_⟩
      refine WB.one (i := 12) (by kernel_rfl) rfl (by kernel_rfl) (OW.store rfl rfl (by (repeat first | exact .here | apply At.there)) rfl (by rfl) (by rfl) (by kernel_rfl) (by rfl) ?_ rfl)
      refine ⟨fun w hw => hw.pk (by repeat (first | exact Pk.nil | exact Pk.all | exact Pk.app | exact Pk.appR | with_reducible apply Pk.na | (apply Pk.cons; (repeat first | exact .here | apply Rem.there | apply Rem.app)) | apply Pk.skip | apply Pk.skipA)), ?_⟩
      refine WB.done (by kernel_rfl) ?_
      refine WK.un ?_
      exact WK.meetR (b2, b3) (by exact ⟨rfl, rfl, rfl, rfl, rfl, trivial⟩) (by repeat (first | exact Pk.nil | exact Pk.all | exact Pk.app | exact Pk.appR | with_reducible apply Pk.na | (apply Pk.cons; (repeat first | exact .here | apply Rem.there | apply Rem.app)) | apply Pk.skip | apply Pk.skipA))
  obtain ⟨b6, b7⟩ := t
  dsimp only
  by_cases c12 : c = 12
  · subst c12
    refine go ?_
    refine WL.p (Gp.eqV (u := u) (v := v) rfl rfl) (by kernel_rfl) rfl ?_
    refine WL.op (by kernel_rfl) (OW.callK rfl (rtruth_fn G _) rfl fun v' G' H' h hg => ?_)
    obtain ⟨he, rfl, rfl⟩ := h
    cases he
    refine go ?_
    refine WC.ret ?_
    refine WK.un ?_
    exact QF.p2 (.inl rfl) rfl (.cell rfl inferInstance inferInstance (by (repeat first | exact .here | apply At.there)) rfl rfl) (.tmp rfl) (⟨rfl, rfl, rfl⟩)
  by_cases c13 : c = 13
  · subst c13
    refine go ?_
    refine WL.p (Gp.neV (u := u) (v := v) rfl rfl) (by kernel_rfl) rfl ?_
    refine WL.op (by kernel_rfl) (OW.callK rfl (rtruth_fn G _) rfl fun v' G' H' h hg => ?_)
    obtain ⟨he, rfl, rfl⟩ := h
    cases he
    refine go ?_
    refine WC.ret ?_
    refine WK.un ?_
    exact QF.p2 (.inl rfl) rfl (.cell rfl inferInstance inferInstance (by (repeat first | exact .here | apply At.there)) rfl rfl) (.tmp rfl) (⟨rfl, rfl, rfl⟩)
  by_cases c14 : c = 14
  · subst c14
    refine go ?_
    refine WL.op (by kernel_rfl) (OW.callK rfl (rless_fn G u v) rfl fun v' G' H' h hg => ?_)
    obtain ⟨he, rfl, rfl⟩ := h
    cases he
    refine WL.op (by kernel_rfl) (OW.callK rfl (rtruth_fn G _) rfl fun v' G' H' h hg => ?_)
    obtain ⟨he, rfl, rfl⟩ := h
    cases he
    refine go ?_
    refine WC.ret ?_
    refine WK.un ?_
    exact QF.p2 (.inl rfl) rfl (.cell rfl inferInstance inferInstance (by (repeat first | exact .here | apply At.there)) rfl rfl) (.tmp rfl) (⟨rfl, rfl, rfl⟩)
  by_cases c15 : c = 15
  · subst c15
    refine go ?_
    refine WL.op (by kernel_rfl) (OW.callK rfl (rless_fn G v u) rfl fun v' G' H' h hg => ?_)
    obtain ⟨he, rfl, rfl⟩ := h
    cases he
    refine go ?_
    refine WL.op (by kernel_rfl) (OW.callK rfl (rtruth_fn G _) rfl fun v' G' H' h hg => ?_)
    obtain ⟨he, rfl, rfl⟩ := h
    cases he
    refine go ?_
    refine WC.ret ?_
    refine WK.un ?_
    exact QF.p2 (.inl rfl) rfl (.cell rfl inferInstance inferInstance (by (repeat first | exact .here | apply At.there)) rfl rfl) (.tmp rfl) (⟨rfl, rfl, rfl⟩)
  by_cases c16 : c = 16
  · subst c16
    refine go ?_
    refine WL.op (by kernel_rfl) (OW.callK rfl (rless_fn G v u) rfl fun v' G' H' h hg => ?_)
    obtain ⟨he, rfl, rfl⟩ := h
    cases he
    refine WL.op (by kernel_rfl) (OW.callK rfl (rtruth_fn G _) rfl fun v' G' H' h hg => ?_)
    obtain ⟨he, rfl, rfl⟩ := h
    cases he
    refine go ?_
    refine WC.ret ?_
    refine WK.un ?_
    exact QF.p2 (.inl rfl) rfl (.cell rfl inferInstance inferInstance (by (repeat first | exact .here | apply At.there)) rfl rfl) (.tmp rfl) (⟨rfl, rfl, rfl⟩)
  by_cases c17 : c = 17
  · subst c17
    refine go ?_
    refine WL.op (by kernel_rfl) (OW.callK rfl (rless_fn G u v) rfl fun v' G' H' h hg => ?_)
    obtain ⟨he, rfl, rfl⟩ := h
    cases he
    refine go ?_
    refine WL.op (by kernel_rfl) (OW.callK rfl (rtruth_fn G _) rfl fun v' G' H' h hg => ?_)
    obtain ⟨he, rfl, rfl⟩ := h
    cases he
    refine go ?_
    refine WC.ret ?_
    refine WK.un ?_
    exact QF.p2 (.inl rfl) rfl (.cell rfl inferInstance inferInstance (by (repeat first | exact .here | apply At.there)) rfl rfl) (.tmp rfl) (⟨rfl, rfl, rfl⟩)
  by_cases c18 : c = 18
  · subst c18
    refine go ?_
    (first | refine WL.p (Gp.add rfl rfl) (by kernel_rfl) rfl ?_ | refine WL.p (Gp.addS rfl rfl (by first | assumption | omega)) (by kernel_rfl) rfl ?_)
    refine WL.op (by kernel_rfl) (OW.callK rfl (rnumber_fn G _) rfl fun v' G' H' h hg => ?_)
    obtain ⟨he, rfl, rfl⟩ := h
    cases he
    refine go ?_
    refine WC.ret ?_
    refine WK.un ?_
    exact QF.p2 (.inl rfl) rfl (.cell rfl inferInstance inferInstance (by (repeat first | exact .here | apply At.there)) rfl rfl) (.tmp rfl) (⟨rfl, rfl, rfl⟩)
  by_cases c19 : c = 19
  · subst c19
    refine go ?_
    refine WL.p (Gp.sub rfl rfl) (by kernel_rfl) rfl ?_
    refine WL.op (by kernel_rfl) (OW.callK rfl (rnumber_fn G _) rfl fun v' G' H' h hg => ?_)
    obtain ⟨he, rfl, rfl⟩ := h
    cases he
    refine go ?_
    refine WC.ret ?_
    refine WK.un ?_
    exact QF.p2 (.inl rfl) rfl (.cell rfl inferInstance inferInstance (by (repeat first | exact .here | apply At.there)) rfl rfl) (.tmp rfl) (⟨rfl, rfl, rfl⟩)
  by_cases c21 : c = 21
  · subst c21
    refine go ?_
    refine WL.p (Gp.mul rfl rfl) (by kernel_rfl) rfl ?_
    refine WL.op (by kernel_rfl) (OW.callK rfl (rnumber_fn G _) rfl fun v' G' H' h hg => ?_)
    obtain ⟨he, rfl, rfl⟩ := h
    cases he
    refine go ?_
    refine WC.ret ?_
    refine WK.un ?_
    exact QF.p2 (.inl rfl) rfl (.cell rfl inferInstance inferInstance (by (repeat first | exact .here | apply At.there)) rfl rfl) (.tmp rfl) (⟨rfl, rfl, rfl⟩)
  by_cases c24 : c = 24
  · subst c24
    refine go ?_
    refine WL.op (by kernel_rfl) (OW.callK rfl (rnumber_fn G _) rfl fun v' G' H' h hg => ?_)
    obtain ⟨he, rfl, rfl⟩ := h
    cases he
    refine go ?_
    refine WC.ret ?_
    refine WK.un ?_
    exact QF.p2 (.inl rfl) rfl (.cell rfl inferInstance inferInstance (by (repeat first | exact .here | apply At.there)) rfl rfl) (.tmp rfl) (⟨rfl, rfl, rfl⟩)
  by_cases c25 : c = 25
  · subst c25
    refine go ?_
    refine WL.op (by kernel_rfl) (OW.callK rfl (rtruth_fn G _) rfl fun v' G' H' h hg => ?_)
    obtain ⟨he, rfl, rfl⟩ := h
    cases he
    refine go ?_
    refine WC.ret ?_
    refine WK.un ?_
    exact QF.p2 (.inl rfl) rfl (.cell rfl inferInstance inferInstance (by (repeat first | exact .here | apply At.there)) rfl rfl) (.tmp rfl) (⟨rfl, rfl, rfl⟩)
  by_cases c26 : c = 26
  · subst c26
    refine go ?_
    refine WL.op (by kernel_rfl) (OW.callK rfl (rnumber_fn G _) rfl fun v' G' H' h hg => ?_)
    obtain ⟨he, rfl, rfl⟩ := h
    cases he
    refine go ?_
    refine WC.ret ?_
    refine WK.un ?_
    exact QF.p2 (.inl rfl) rfl (.cell rfl inferInstance inferInstance (by (repeat first | exact .here | apply At.there)) rfl rfl) (.tmp rfl) (⟨rfl, rfl, rfl⟩)
  by_cases c20 : c = 20
  · subst c20
    have e4 : IntKind.i64.wrap ((u.s.size : Int) + v.s.size) = (u.s.size : Int) + v.s.size := wrap_small (by omega) (by omega)
    by_cases hs : 4096 < (u.s.size : Int) + v.s.size
    · have e5 : decide (4096 < (u.s.size : Int) + v.s.size) = true := decide_eq_true hs
      rw [show madeR 20 u v = (V0, 3) by simp [madeR, hs]]
      refine go ?_
      refine WC.ret ?_
      refine WK.un ?_
      exact QF.p2 (.inl rfl) rfl (.cell rfl inferInstance inferInstance (by (repeat first | exact .here | apply At.there)) rfl rfl) (.tmp rfl) (⟨rfl, rfl, rfl⟩)
    · have e5 : decide (4096 < (u.s.size : Int) + v.s.size) = false := decide_eq_false hs
      rw [show madeR 20 u v = (textV (u.s ++ v.s), 0) by simp [madeR, hs]]
      refine go ?_
      refine WL.p (Gp.addS rfl rfl (by omega)) (by kernel_rfl) rfl ?_
      refine go ?_
      refine WC.ret ?_
      refine WK.un ?_
      exact QF.p2 (.inl rfl) rfl (.cell rfl inferInstance inferInstance (by (repeat first | exact .here | apply At.there)) rfl rfl) (.tmp rfl) (⟨rfl, rfl, rfl⟩)
  have q12 : (c == 12) = false := beq_eq_false_iff_ne.2 c12
  have q13 : (c == 13) = false := beq_eq_false_iff_ne.2 c13
  have q14 : (c == 14) = false := beq_eq_false_iff_ne.2 c14
  have q15 : (c == 15) = false := beq_eq_false_iff_ne.2 c15
  have q16 : (c == 16) = false := beq_eq_false_iff_ne.2 c16
  have q17 : (c == 17) = false := beq_eq_false_iff_ne.2 c17
  have q18 : (c == 18) = false := beq_eq_false_iff_ne.2 c18
  have q19 : (c == 19) = false := beq_eq_false_iff_ne.2 c19
  have q21 : (c == 21) = false := beq_eq_false_iff_ne.2 c21
  have q24 : (c == 24) = false := beq_eq_false_iff_ne.2 c24
  have q25 : (c == 25) = false := beq_eq_false_iff_ne.2 c25
  have q26 : (c == 26) = false := beq_eq_false_iff_ne.2 c26
  have q20 : (c == 20) = false := beq_eq_false_iff_ne.2 c20
  have hm : madeR c u v = if v.i = 0 then (V0, 2) else if c = 22 then (numV (quoR u.i v.i), 0) else (numV (restR u.i v.i), 0) := by
    unfold madeR
    rw [if_neg c12, if_neg c13, if_neg c14, if_neg c15, if_neg c16, if_neg c17, if_neg c18, if_neg c19, if_neg c21, if_neg c24, if_neg c25, if_neg c26, if_neg c20]
  rw [hm]
  by_cases hv0 : v.i = 0
  · have e4 : (v.i == 0) = true := by simpa using hv0
    rw [if_pos hv0]
    refine go ?_
    refine WC.ret ?_
    refine WK.un ?_
    exact QF.p2 (.inl rfl) rfl (.cell rfl inferInstance inferInstance (by (repeat first | exact .here | apply At.there)) rfl rfl) (.tmp rfl) (⟨rfl, rfl, rfl⟩)
  have e4 : (v.i == 0) = false := by simpa using hv0
  rw [if_neg hv0]
  by_cases c22 : c = 22
  · have q22 : (c == 22) = true := by simpa using c22
    rw [if_pos c22]
    refine go ?_
    refine WL.op (by kernel_rfl) (OW.callK rfl (rquo_fn G u.i v.i hv0) rfl fun v' G' H' h hg => ?_)
    obtain ⟨he, rfl, rfl⟩ := h
    cases he
    refine go ?_
    refine WL.op (by kernel_rfl) (OW.callK rfl (rnumber_fn G _) rfl fun v' G' H' h hg => ?_)
    obtain ⟨he, rfl, rfl⟩ := h
    cases he
    refine go ?_
    refine WC.ret ?_
    refine WK.un ?_
    exact QF.p2 (.inl rfl) rfl (.cell rfl inferInstance inferInstance (by (repeat first | exact .here | apply At.there)) rfl rfl) (.tmp rfl) (⟨rfl, rfl, rfl⟩)
  have q22 : (c == 22) = false := by simpa using c22
  rw [if_neg c22]
  refine go ?_
  refine WL.op (by kernel_rfl) (OW.callK rfl (rrest_fn G u.i v.i hv0) rfl fun v' G' H' h hg => ?_)
  obtain ⟨he, rfl, rfl⟩ := h
  cases he
  refine go ?_
  refine WL.op (by kernel_rfl) (OW.callK rfl (rnumber_fn G _) rfl fun v' G' H' h hg => ?_)
  obtain ⟨he, rfl, rfl⟩ := h
  cases he
  refine go ?_
  refine WC.ret ?_
  refine WK.un ?_
  exact QF.p2 (.inl rfl) rfl (.cell rfl inferInstance inferInstance (by (repeat first | exact .here | apply At.there)) rfl rfl) (.tmp rfl) (⟨rfl, rfl, rfl⟩)

end Go.Proofs.Ytjgohbepageicaa.Gb
namespace Go.Proofs.Ytjgohbepageicaa.Gb
open Go Go.Proofs
set_option linter.unusedVariables false
set_option linter.unusedSimpArgs false
set_option linter.unusedSectionVars false

theorem takenR_shape {pg : Pg} {pr : Pr} {vars : List V} {c n : Int} (h : 0 ≤ takenR pg pr vars c n) :
    (c = 6 ∨ c = 25 ∨ c = 24 ∨ c = 26 ∨ c = 10 → takenR pg pr vars c n = 1) ∧ (12 ≤ c ∧ c ≤ 23 → takenR pg pr vars c n = 2) ∧ (c = 7 → 0 ≤ n ∧ ∃ q, pg.procs[n.toNat]? = some q ∧ sizedP q = true ∧ takenR pg pr vars c n = q.params.length) := by
  unfold takenR at h ⊢
  split at h
  · omega
  · rename_i hA
    rw [if_neg hA]
    refine ⟨fun hc => ?_, fun hc => ?_, fun hc => ?_⟩
    · rcases hc with rfl | rfl | rfl | rfl | rfl
      · unfold takenC at h ⊢; simp at h ⊢; split at h <;> omega
      · simp [takenC]
      · simp [takenC]
      · simp [takenC]
      · unfold takenC at h ⊢; simp at h ⊢; split at h <;> omega
    · have h2 : c = 12 ∨ c = 13 ∨ c = 14 ∨ c = 15 ∨ c = 16 ∨ c = 17 ∨ c = 18 ∨ c = 19 ∨ c = 20 ∨ c = 21 ∨ c = 22 ∨ c = 23 := by omega
      rcases h2 with rfl | rfl | rfl | rfl | rfl | rfl | rfl | rfl | rfl | rfl | rfl | rfl <;> simp [takenC]
    · subst hc
      refine ⟨by omega, ?_⟩
      unfold takenC at h ⊢
      simp at h ⊢
      split at h
      · rename_i q hq
        split at h
        · rename_i hs
          exact ⟨q, hq, hs, by simp [hs]⟩
        · omega
      · omega
def laysR (pg : Pg) (c n : Int) : Nat := if c = 1 ∨ c = 2 then 1 else if c = 7 then (match pg.procs[n.toNat]? with | some q => if q.result = 0 then 0 else 1 | none => 0) else 0
def stuckI (pg : Pg) (pr : Pr) (l vars : List V) (c n : Int) : Bool :=
  if takenR pg pr vars c n < 0 then true else if l.length < (takenR pg pr vars c n).toNat then true
  else if fitsR pg pr.result c n (l.drop (l.length - (takenR pg pr vars c n).toNat)) = false then true
  else decide (128 < l.length - (takenR pg pr vars c n).toNat + laysR pg c n)
def stuckR (pg : Pg) (pr : Pr) (l vars : List V) (k : Nat) : Bool := match pr.code[k]? with
  | none => true
  | some (c, n) => stuckI pg pr l vars c n
attribute [local irreducible] Try.prog

section
variable (G : Gh) (pg : Pg) (CA PA QA : Option Addr) (qn cc pc qc : Nat) (hC : Sl Kd.val G CA pg.consts) (hP : Sl Kd.prc G PA pg.procs) (FA : Option Addr) (fc : Nat) (en : Int) (v : V) (OA : Option Addr) (on oc : Nat) (st : Int)
include hC hP
set_option maxHeartbeats 2000000 in
theorem rstuck_fn (ps : List Fr) (f : Fr) (hF : Sl Kd.fr G FA (ps ++ [f])) (hps : ps.length ≤ 1000) (pr : Pr) (hpr : pg.procs[f.proc]? = some pr) (hpl : pg.procs.length ≤ 10000000000000) (hst : f.stack.length ≤ 1000) :
    Fn Try.prog 58 #[rmV CA PA QA pg.consts.length pg.procs.length qn cc pc qc FA (ps.length + 1) fc en v OA on oc st] G []
      fun e G' H' => e = .returned (.bool (stuckR pg pr f.stack f.vars f.pc)) ∧ G = G' ∧ H' = [] := by
  have hFl := hF ps.length f (by simp)
  obtain ⟨fb, fo, fcs, rfl, ⟨VA, vc, SA, sc, rfl, hsc, hVV, hSS⟩, hfc2⟩ := hFl
  have hil := (List.getElem?_eq_some_iff.1 hpr).1
  have hP0 := hP
  obtain ⟨pb, po, pcs, rfl, ⟨QPA, qpc, ICA, icc, rfl, hPar, hIns⟩, hcs⟩ := hP f.proc pr hpr
  refine Fn.enter Try.func58 rfl rfl fun w0 => ?_
  refine WC.seq ?_
  refine WC.region ?_
  refine WL.op (by kernel_rfl) (OW.box rfl rfl fun b1 => ?_)
  have e1 : IntKind.i64.wrap (((ps.length + 1 : Nat) : Int) - 1) = (ps.length : Int) := by rw [wrap_small (by omega) (by omega)]; omega
  have x1 : (0 : Int) ≤ (ps.length : Int) := by omega
  have x2 : (ps.length : Int) < ((ps.length + 1 : Nat) : Int) := by omega
  refine go ?_
  refine WL.op (by kernel_rfl) (OW.alloc rfl fun b3 => ?_)
  by_cases hk : f.pc < pr.code.length
  rotate_left
  · have e2 : decide ((pr.code.length : Int) ≤ (f.pc : Int)) = true := decide_eq_true (by omega)
    refine go ?_
    refine WC.ret ?_
    refine WK.un ?_
    exact QF.p1 (.inl rfl) rfl (.tmp rfl) (⟨by rw [stuckR, List.getElem?_eq_none (by omega)], rfl, rfl⟩)
  have e2 : decide ((pr.code.length : Int) ≤ (f.pc : Int)) = false := decide_eq_false (by omega)
  obtain ⟨⟨c, n⟩, hcn⟩ : ∃ i, pr.code[f.pc]? = some i := ⟨_, List.getElem?_eq_getElem hk⟩
  obtain ⟨ib, io, ics, rfl, rfl, hic⟩ := hIns f.pc (c, n) hcn
  rw [stuckR, hcn]
  dsimp only
  refine go ?_
  refine WL.op (by kernel_rfl) (OW.alloc rfl fun b5 => ?_)
  refine go ?_
  have htk := rtaken_fn G pg CA (some ⟨pb, po, none⟩) QA qn cc pc qc hC hP0 (some ⟨fb, fo, none⟩) (ps.length + 1) fc en v OA on oc st f pr hpr VA SA vc sc hVV c n hpl
  refine WL.op (by kernel_rfl) (OW.callK rfl (htk) rfl fun v' G' H' h hg => ?_)
  obtain ⟨he, rfl, rfl⟩ := h
  cases he
  have hsh := @takenR_shape pg pr f.vars c n
  unfold stuckI
  generalize takenR pg pr f.vars c n = t at *
  by_cases ht0 : t < 0
  · have e3 : decide (t < 0) = true := decide_eq_true ht0
    rw [if_pos ht0]
    refine go ?_
    refine WC.ret ?_
    refine WK.un ?_
    exact QF.p1 (.inl rfl) rfl (.tmp rfl) (⟨rfl, rfl, rfl⟩)
  have e3 : decide (t < 0) = false := decide_eq_false ht0
  rw [if_neg ht0]
  obtain ⟨tn, rfl⟩ : ∃ tn : Nat, t = tn := ⟨t.toNat, by omega⟩
  rw [Int.toNat_natCast]
  by_cases hlt : f.stack.length < tn
  · have e4 : decide ((f.stack.length : Int) < (tn : Int)) = true := decide_eq_true (by omega)
    rw [if_pos hlt]
    refine go ?_
    refine WC.ret ?_
    refine WK.un ?_
    exact QF.p1 (.inl rfl) rfl (.tmp rfl) (⟨rfl, rfl, rfl⟩)
  have e4 : decide ((f.stack.length : Int) < (tn : Int)) = false := decide_eq_false (by omega)
  rw [if_neg hlt]
  have e5 : IntKind.i64.wrap ((f.stack.length : Int) - (tn : Int)) = ((f.stack.length - tn : Nat) : Int) := by rw [wrap_small (by omega) (by omega)]; omega
  have x3 : (0 : Int) ≤ ((f.stack.length - tn : Nat) : Int) := by omega
  have x4 : ((f.stack.length - tn : Nat) : Int) ≤ (f.stack.length : Int) := by omega
  have x5 : (0 : Int) ≤ (tn : Int) := by omega
  have hdl0 : ∀ a b : Nat, b ≤ a → a - (a - b) = b := fun a b h => by omega
  have hdl : (f.stack.drop (f.stack.length - tn)).length = f.stack.length - ((f.stack.length - tn : Nat) : Int).toNat := by simp
  have hdl2 : (f.stack.drop (f.stack.length - tn)).length = tn := by rw [List.length_drop]; exact hdl0 _ _ (Nat.not_lt.1 hlt)
  obtain ⟨s1, s2, s7⟩ := hsh x5
  have hft := rfits_fn G pg CA (some ⟨pb, po, none⟩) QA qn cc pc qc hP0 (some ⟨fb, fo, none⟩) (ps.length + 1) fc en v OA on oc st f pr hpr VA SA vc sc c n hpl _ (sc - ((f.stack.length - tn : Nat) : Int).toNat) (f.stack.drop (f.stack.length - tn)) (Sl.from' (lo := ((f.stack.length - tn : Nat) : Int).toNat) hSS hsc) (by omega)
    (fun h => by
      have h1 : tn = 1 := by exact_mod_cast s1 h
      obtain ⟨u, hu⟩ := List.length_eq_one_iff.1 (hdl2.trans h1)
      exact ⟨u, hu⟩)
    (fun h => by
      have h1 : tn = 2 := by exact_mod_cast s2 h
      obtain ⟨u, v, hu⟩ := list2 (hdl2.trans h1)
      exact ⟨u, v, hu⟩)
    (fun h => let ⟨h1, q, h2, _⟩ := s7 h; ⟨h1, q, h2⟩)
  rw [hdl] at hft
  refine go ?_
  refine WC.drawB mixed ?_
  refine WB.tp (i := 3) rfl (by kernel_rfl) (by kernel_rfl) rfl (Gp.fieldAddr rfl) ?_
  refine WB.tp (i := 5) rfl (by kernel_rfl) (by kernel_rfl) rfl (Gp.fieldAddr rfl) ?_
  (first | (refine WB.tv (i := 6) rfl (by kernel_rfl) (by kernel_rfl) rfl (Gv.load1 rfl (by (repeat first | exact .here | apply At.there)) (by first | rfl | assumption)) ?_) | (refine WB.tv (i := 6) rfl (by kernel_rfl) (by kernel_rfl) rfl (Gv.loadN rfl (by (repeat first | exact .here | apply At.there)) (by rfl) (by rfl)) ?_) | (refine WB.tv (i := 6) rfl (by kernel_rfl) (by kernel_rfl) rfl (Gv.loadG1 rfl (by assumption) rfl) ?_) | (refine WB.tv (i := 6) rfl (by kernel_rfl) (by kernel_rfl) rfl (Gv.loadG0 rfl (by assumption) rfl) ?_) | (refine WB.tv (i := 6) rfl (by kernel_rfl) (by kernel_rfl) rfl (Gv.loadGN rfl (by assumption) rfl) ?_))
  (first | refine WB.tp (i := 7) rfl (by kernel_rfl) (by kernel_rfl) rfl (Gp.lenSl rfl) ?_ | refine WB.tp (i := 7) rfl (by kernel_rfl) (by kernel_rfl) rfl (Gp.lenS rfl) ?_)
  refine WB.tp (i := 8) rfl (by kernel_rfl) (by kernel_rfl) rfl (Gp.move rfl) ?_
  refine WB.tp (i := 9) rfl (by kernel_rfl) (by kernel_rfl) rfl (Gp.sub' rfl rfl e5) ?_
  (first | (refine WB.tv (i := 0) rfl (by kernel_rfl) (by kernel_rfl) rfl (Gv.load1 rfl (by (repeat first | exact .here | apply At.there)) (by first | rfl | assumption)) ?_) | (refine WB.tv (i := 0) rfl (by kernel_rfl) (by kernel_rfl) rfl (Gv.loadN rfl (by (repeat first | exact .here | apply At.there)) (by rfl) (by rfl)) ?_) | (refine WB.tv (i := 0) rfl (by kernel_rfl) (by kernel_rfl) rfl (Gv.loadG1 rfl (by assumption) rfl) ?_) | (refine WB.tv (i := 0) rfl (by kernel_rfl) (by kernel_rfl) rfl (Gv.loadG0 rfl (by assumption) rfl) ?_) | (refine WB.tv (i := 0) rfl (by kernel_rfl) (by kernel_rfl) rfl (Gv.loadGN rfl (by assumption) rfl) ?_))
  (first | (refine WB.tv (i := 1) rfl (by kernel_rfl) (by kernel_rfl) rfl (Gv.load1 rfl (by (repeat first | exact .here | apply At.there)) (by first | rfl | assumption)) ?_) | (refine WB.tv (i := 1) rfl (by kernel_rfl) (by kernel_rfl) rfl (Gv.loadN rfl (by (repeat first | exact .here | apply At.there)) (by rfl) (by rfl)) ?_) | (refine WB.tv (i := 1) rfl (by kernel_rfl) (by kernel_rfl) rfl (Gv.loadG1 rfl (by assumption) rfl) ?_) | (refine WB.tv (i := 1) rfl (by kernel_rfl) (by kernel_rfl) rfl (Gv.loadG0 rfl (by assumption) rfl) ?_) | (refine WB.tv (i := 1) rfl (by kernel_rfl) (by kernel_rfl) rfl (Gv.loadGN rfl (by assumption) rfl) ?_))
  (first | (refine WB.tv (i := 2) rfl (by kernel_rfl) (by kernel_rfl) rfl (Gv.load1 rfl (by (repeat first | exact .here | apply At.there)) (by first | rfl | assumption)) ?_) | (refine WB.tv (i := 2) rfl (by kernel_rfl) (by kernel_rfl) rfl (Gv.loadN rfl (by (repeat first | exact .here | apply At.there)) (by rfl) (by rfl)) ?_) | (refine WB.tv (i := 2) rfl (by kernel_rfl) (by kernel_rfl) rfl (Gv.loadG1 rfl (by assumption) rfl) ?_) | (refine WB.tv (i := 2) rfl (by kernel_rfl) (by kernel_rfl) rfl (Gv.loadG0 rfl (by assumption) rfl) ?_) | (refine WB.tv (i := 2) rfl (by kernel_rfl) (by kernel_rfl) rfl (Gv.loadGN rfl (by assumption) rfl) ?_))
  (first | (refine WB.tv (i := 4) rfl (by kernel_rfl) (by kernel_rfl) rfl (Gv.load1 rfl (by (repeat first | exact .here | apply At.there)) (by first | rfl | assumption)) ?_) | (refine WB.tv (i := 4) rfl (by kernel_rfl) (by kernel_rfl) rfl (Gv.loadN rfl (by (repeat first | exact .here | apply At.there)) (by rfl) (by rfl)) ?_) | (refine WB.tv (i := 4) rfl (by kernel_rfl) (by kernel_rfl) rfl (Gv.loadG1 rfl (by assumption) rfl) ?_) | (refine WB.tv (i := 4) rfl (by kernel_rfl) (by kernel_rfl) rfl (Gv.loadG0 rfl (by assumption) rfl) ?_) | (refine WB.tv (i := 4) rfl (by kernel_rfl) (by kernel_rfl) rfl (Gv.loadGN rfl (by assumption) rfl) ?_))
  refine WB.tp (i := 10) rfl (by kernel_rfl) (by kernel_rfl) rfl (Gp.sliceFrom rfl rfl x3 (by exact_mod_cast x4)) ?_
  refine WB.one (i := 11) (by kernel_rfl) rfl (by kernel_rfl) (OW.callK rfl (hft) rfl fun v' G' H' h hg => ?_)
  obtain ⟨he, rfl, rfl⟩ := h
  cases he
  refine ⟨fun w hw => hw.pk (by repeat (first | exact Pk.nil | exact Pk.all | exact Pk.app | exact Pk.appR | with_reducible apply Pk.na | (apply Pk.cons; (repeat first | exact .here | apply Rem.there | apply Rem.app)) | apply Pk.skip | apply Pk.skipA)), ?_⟩
  cases hfr : fitsR pg pr.result c n (f.stack.drop (f.stack.length - tn)) with
  | false =>
    refine WB.tp (i := 12) rfl (by kernel_rfl) (by kernel_rfl) rfl (Gp.notB rfl) ?_
    refine WB.done (by kernel_rfl) ?_
    refine WK.un ?_
    refine go ?_
    refine WC.ret ?_
    refine WK.un ?_
    exact QF.p1 (.inl rfl) rfl (.tmp rfl) (⟨rfl, rfl, rfl⟩)
  | true =>
    refine WB.tp (i := 12) rfl (by kernel_rfl) (by kernel_rfl) rfl (Gp.notB rfl) ?_
    refine WB.done (by kernel_rfl) ?_
    refine WK.un ?_
    have y1 : IntKind.i64.wrap (((f.stack.length - tn : Nat) : Int) + 1) = ((f.stack.length - tn + 1 : Nat) : Int) := by rw [wrap_small (by omega) (by omega)]; omega
    have y0 : IntKind.i64.wrap (((f.stack.length - tn : Nat) : Int) + 0) = ((f.stack.length - tn + 0 : Nat) : Int) := by rw [wrap_small (by omega) (by omega)]; omega
    rw [if_neg (by decide)]
    have hd : ∀ k : Nat, decide ((128 : Int) < (k : Int)) = decide (128 < k) := fun k => by
      rw [Bool.eq_iff_iff]; simp; omega
    by_cases c1 : c = 1
    · subst c1
      rw [show laysR pg 1 n = 1 from rfl, ← hd]
      refine go ?_
      refine WC.ret ?_
      refine WK.un ?_
      exact QF.p1 (.inl rfl) rfl (.tmp rfl) (⟨rfl, rfl, rfl⟩)
    by_cases c2 : c = 2
    · subst c2
      rw [show laysR pg 2 n = 1 from rfl, ← hd]
      refine go ?_
      refine WC.ret ?_
      refine WK.un ?_
      exact QF.p1 (.inl rfl) rfl (.tmp rfl) (⟨rfl, rfl, rfl⟩)
    by_cases c7 : c = 7
    · subst c7
      obtain ⟨hn, q, hq, _⟩ := s7 rfl
      obtain ⟨m, rfl⟩ : ∃ m : Nat, n = m := ⟨n.toNat, by omega⟩
      rw [Int.toNat_natCast] at hq
      have hml := (List.getElem?_eq_some_iff.1 hq).1
      obtain ⟨qb, qo, qs, hqe, ⟨RPA, rpc, RCA, rcc, rfl, _, _⟩, hqc⟩ := hP0 m q hq
      cases hqe
      by_cases hr : q.result = 0
      · have z : (q.result != 0) = false := by simpa using hr
        rw [show laysR pg 7 m = 0 by simp [laysR, hq, hr], ← hd]
        refine go ?_
        refine WC.ret ?_
        refine WK.un ?_
        exact QF.p1 (.inl rfl) rfl (.tmp rfl) (⟨rfl, rfl, rfl⟩)
      · have z : (q.result != 0) = true := by simpa using hr
        rw [show laysR pg 7 m = 1 by simp [laysR, hq, hr], ← hd]
        refine go ?_
        refine WC.ret ?_
        refine WK.un ?_
        exact QF.p1 (.inl rfl) rfl (.tmp rfl) (⟨rfl, rfl, rfl⟩)
    have q1 : (c == 1) = false := beq_eq_false_iff_ne.2 c1
    have q2 : (c == 2) = false := beq_eq_false_iff_ne.2 c2
    have q7 : (c == 7) = false := beq_eq_false_iff_ne.2 c7
    rw [show laysR pg c n = 0 by simp [laysR, c1, c2, c7], ← hd]
    refine go ?_
    refine WC.ret ?_
    refine WK.un ?_
    exact QF.p1 (.inl rfl) rfl (.tmp rfl) (⟨rfl, rfl, rfl⟩)
end
end Go.Proofs.Ytjgohbepageicaa.Gb
namespace Go.Proofs.Ytjgohbepageicaa.Gb
open Go Go.Proofs
set_option linter.unusedVariables false
set_option linter.unusedSimpArgs false

def doI (pg : Pg) (pr : Pr) (l : List V) (k : Nat) (vars : List V) (depth outn : Nat) (c n : Int) : DR :=
    if c = 1 then constR pg.consts l k vars n
    else if c = 2 then loadR l k vars n
    else if c = 3 then storeR l k vars n
    else if c = 5 then jumpR pr.code.length l vars n
    else if c = 6 then unlessR pr.code.length l k vars n
    else if c = 7 then callD pg.procs l n depth
    else if n ≠ 0 then .halt 6
    else plainD pr.result l k vars c outn
theorem doR_doI {pg : Pg} {pr : Pr} {l : List V} {k : Nat} {vars : List V} {depth outn : Nat} {c n : Int} (h : pr.code[k]? = some (c, n)) : doR pg pr l k vars depth outn = doI pg pr l k vars depth outn c n := by
  unfold doR; rw [h]; rfl

/-- what is known where a step can be taken -/
theorem stuckI_no {pg : Pg} {pr : Pr} {l vars : List V} {c n : Int} (h : stuckI pg pr l vars c n = false) :
    ∃ (tn : Nat) (r gl : List V), takenR pg pr vars c n = (tn : Int) ∧ l = r ++ gl ∧ gl.length = tn ∧ l.length - tn = r.length ∧ fitsR pg pr.result c n gl = true ∧ r.length + laysR pg c n ≤ 128 := by
  unfold stuckI at h
  split at h
  · cases h
  · rename_i h0
    split at h
    · cases h
    · rename_i h1
      split at h
      · cases h
      · rename_i h2
        have h3 := of_decide_eq_false h
        generalize takenR pg pr vars c n = t at *
        obtain ⟨tn, rfl⟩ : ∃ tn : Nat, t = tn := ⟨t.toNat, by omega⟩
        rw [Int.toNat_natCast] at *
        have hdl : (l.drop (l.length - tn)).length = tn := by rw [List.length_drop]; omega
        have htl : (l.take (l.length - tn)).length = l.length - tn := by rw [List.length_take]; omega
        exact ⟨tn, l.take (l.length - tn), l.drop (l.length - tn), rfl, (List.take_append_drop _ _).symm, hdl, htl.symm, by simpa using h2, by rw [htl]; omega⟩

theorem stuckI_of {pg : Pg} {pr : Pr} {r gl vars : List V} {c n : Int} {tn : Nat} (ht : takenR pg pr vars c n = (tn : Int)) (hg : gl.length = tn) :
    stuckI pg pr (r ++ gl) vars c n = (!fitsR pg pr.result c n gl || decide (128 < r.length + laysR pg c n)) := by
  subst hg
  have e1 : (r ++ gl).length - gl.length = r.length := by simp
  unfold stuckI
  rw [ht, if_neg (by omega), Int.toNat_natCast, if_neg (by simp), e1, List.drop_left]
  cases fitsR pg pr.result c n gl <;> simp
theorem stuckI_short {pg : Pg} {pr : Pr} {l vars : List V} {c n : Int} {tn : Nat} (ht : takenR pg pr vars c n = (tn : Int)) (hg : l.length < tn) : stuckI pg pr l vars c n = true := by
  unfold stuckI
  rw [ht, if_neg (by omega), Int.toNat_natCast, if_pos hg]
theorem stuckI_bad {pg : Pg} {pr : Pr} {l vars : List V} {c n : Int} (ht : takenR pg pr vars c n = -1) : stuckI pg pr l vars c n = true := by
  unfold stuckI
  rw [ht, if_pos (by decide)]

theorem taken_plain {pg : Pg} {pr : Pr} {vars : List V} {c : Int} (hc : numbB c = false) : takenR pg pr vars c 0 = takenC pg pr vars c 0 := by
  unfold takenR; rw [if_neg (by simp)]
theorem taken_nz {pg : Pg} {pr : Pr} {vars : List V} {c n : Int} (hc : numbB c = false) (hn : n ≠ 0) : takenR pg pr vars c n = -1 := by
  unfold takenR; rw [if_pos (.inl ⟨hc, hn⟩)]
theorem taken_num {pg : Pg} {pr : Pr} {vars : List V} {c : Int} {m : Nat} (hc : numbB c = true) : takenR pg pr vars c m = takenC pg pr vars c m := by
  unfold takenR; rw [if_neg (by rw [hc]; simp)]

theorem vOK_t {v : V} (h : vOK v = true) : (v.t = 1 ∧ v.s = ⟨#[]⟩ ∧ v.b = false) ∨ (v.t = 2 ∧ v.i = 0 ∧ v.s = ⟨#[]⟩) ∨ (v.t = 3 ∧ v.i = 0 ∧ v.b = false) := by
  unfold vOK at h
  split at h
  · rename_i ht; simp [bytes_beq] at h; exact .inl ⟨ht, h.2, h.1⟩
  · split at h
    · rename_i ht; simp [bytes_beq] at h; exact .inr (.inl ⟨ht, h.1, h.2⟩)
    · split at h
      · rename_i ht; simp [bytes_beq] at h; exact .inr (.inr ⟨ht, h.1.1, h.1.2⟩)
      · cases h
theorem less_asymm {a b : List UInt8} (h : Op.bytesLess a b = true) : Op.bytesLess b a = false := by
  have := bless_flip a b
  rw [h] at this
  simpa using this.symm
theorem lessR_ord {u v : V} (hu : vOK u = true) (hv : vOK v = true) (ht : u.t = v.t) (h2 : u.t ≠ 2) : lessR u v = decide (ordN u v < 0) ∧ lessR v u = decide (0 < ordN u v) := by
  rcases vOK_t hu with ⟨h1, s1, b1⟩ | ⟨h1, _⟩ | ⟨h1, i1, b1⟩
  · rcases vOK_t hv with ⟨h3, s3, b3⟩ | ⟨h3, _⟩ | ⟨h3, _⟩
    · have hs : cmpS u.s v.s = 0 := by rw [s1, s3]; simp [cmpS, ByteArray.toList_eq, Op.bytesLess]
      unfold lessR ordN cmpI
      rw [h1, h3, hs]
      refine ⟨?_, ?_⟩
      · by_cases a : u.i < v.i
        · simp [a]
        · by_cases b : v.i < u.i <;> simp [a, b]
      · by_cases a : u.i < v.i
        · have : ¬ v.i < u.i := by omega
          simp [a, this]
        · by_cases b : v.i < u.i <;> simp [a, b]
    · omega
    · omega
  · exact absurd h1 h2
  · rcases vOK_t hv with ⟨h3, _⟩ | ⟨h3, _⟩ | ⟨h3, i3, b3⟩
    · omega
    · omega
    · cases h4 : Op.bytesLess u.s.toList v.s.toList with
      | true =>
        have h5 := less_asymm h4
        simp [lessR, ordN, cmpI, cmpS, h1, h3, i1, i3, h4, h5]
      | false => cases h5 : Op.bytesLess v.s.toList u.s.toList <;> simp [lessR, ordN, cmpI, cmpS, h1, h3, i1, i3, h4, h5]

/-- what the document's step comes to -/
def refD (pg : Pg) (r gl : List V) (k : Nat) (vars : List V) (depth outn : Nat) (c n : Int) : DR :=
  if c = 1 then (match pg.consts[n.toNat]? with | some v => .go (r ++ [v]) (k + 1) vars | none => .halt 6)
  else if c = 2 then (match vars[n.toNat]? with | some v => .go (r ++ [v]) (k + 1) vars | none => .halt 6)
  else if c = 3 then .go r (k + 1) (vars.set n.toNat (gl.headD V0))
  else if c = 4 then .go r (k + 1) vars
  else if c = 5 then .go r n.toNat vars
  else if c = 6 then .go r (if (gl.headD V0).b then k + 1 else n.toNat) vars
  else if c = 7 then (if 64 ≤ depth then .halt 4 else match pg.procs[n.toNat]? with | some q => .call q r gl n | none => .halt 6)
  else if c = 9 ∨ c = 10 then .leave r gl
  else if c = 11 then (if 4096 ≤ outn then .halt 7 else .print r (gl.headD V0))
  else if (madeR c (gl.headD V0) (gl.getLastD V0)).2 = 0 then .go (r ++ [(madeR c (gl.headD V0) (gl.getLastD V0)).1]) (k + 1) vars else .halt (madeR c (gl.headD V0) (gl.getLastD V0)).2

section
variable (pg : Pg) (pr : Pr) (l : List V) (k : Nat) (vars : List V) (depth outn : Nat) (n : Int) (hl : l.length ≤ 128) (hA : AllOK l) (hV : VarsOK vars)
/-- where a step can't be taken, and where it can -/
abbrev StepEq (c : Int) : Prop := (stuckI pg pr l vars c n = true → doI pg pr l k vars depth outn c n = .halt 6) ∧ (∀ r gl, l = r ++ gl → takenR pg pr vars c n = (gl.length : Int) → stuckI pg pr l vars c n = false → doI pg pr l k vars depth outn c n = refD pg r gl k vars depth outn c n)
include hl in
theorem step_const : StepEq pg pr l k vars depth outn n 1 := by
  have hd : doI pg pr l k vars depth outn 1 n = constR pg.consts l k vars n := rfl
  rw [StepEq, hd]
  unfold constR
  by_cases hn : n < 0
  · rw [if_pos hn]
    exact ⟨fun _ => rfl, fun r gl _ ht _ => by unfold takenR at ht; rw [if_pos (.inr hn)] at ht; omega⟩
  obtain ⟨m, rfl⟩ : ∃ m : Nat, n = m := ⟨n.toNat, by omega⟩
  rw [if_neg hn, Int.toNat_natCast]
  have ht0 := @taken_num pg pr vars 1 m (by decide)
  unfold takenC at ht0
  rw [if_pos rfl, Int.toNat_natCast] at ht0
  cases hc : pg.consts[m]? with
  | none => exact ⟨fun _ => rfl, fun r gl _ ht _ => by rw [ht0, hc] at ht; simp at ht⟩
  | some v =>
    rw [hc] at ht0
    dsimp only at ht0 ⊢
    cases hv : vOK v with
    | false => exact ⟨fun _ => by simp, fun r gl _ ht _ => by rw [ht0, hv] at ht; simp at ht⟩
    | true =>
      rw [hv, if_pos rfl] at ht0
      have hs := stuckI_of (pr := pr) (r := l) (gl := []) (tn := 0) ht0 rfl
      rw [List.append_nil] at hs
      rw [hs]
      simp only [fitsR, laysR]
      unfold layR
      refine ⟨fun h => ?_, fun r gl hr ht h => ?_⟩
      · simp at h; simp; omega
      · rw [ht0] at ht
        obtain rfl : gl = [] := List.eq_nil_of_length_eq_zero (by omega)
        rw [List.append_nil] at hr; subst hr
        simp at h; simp [refD, hc]; omega
include hl hV in
theorem step_load : StepEq pg pr l k vars depth outn n 2 := by
  have hd : doI pg pr l k vars depth outn 2 n = loadR l k vars n := rfl
  rw [StepEq, hd]
  unfold loadR
  by_cases hn : n < 0
  · rw [if_pos hn]
    exact ⟨fun _ => rfl, fun r gl _ ht _ => by unfold takenR at ht; rw [if_pos (.inr hn)] at ht; omega⟩
  obtain ⟨m, rfl⟩ : ∃ m : Nat, n = m := ⟨n.toNat, by omega⟩
  rw [if_neg hn, Int.toNat_natCast]
  have ht0 := @taken_num pg pr vars 2 m (by decide)
  unfold takenC at ht0
  rw [if_neg (by decide), if_pos rfl, Int.toNat_natCast] at ht0
  cases hc : vars[m]? with
  | none => exact ⟨fun _ => rfl, fun r gl _ ht _ => by rw [ht0, hc] at ht; simp at ht⟩
  | some v =>
    rw [hc] at ht0
    dsimp only at ht0 ⊢
    have hv0 : v.t = 0 ↔ v = V0 := by
      refine ⟨fun h => ?_, fun h => by rw [h]; rfl⟩
      rcases hV v (List.mem_of_getElem? hc) with h1 | h1
      · rcases vOK_t h1 with h2 | h2 | h2 <;> omega
      · exact h1
    by_cases hv : v = V0
    · rw [if_pos hv] at ht0
      rw [if_pos (hv0.2 hv)]
      exact ⟨fun _ => rfl, fun r gl _ ht _ => by rw [ht0] at ht; omega⟩
    · rw [if_neg hv] at ht0
      rw [if_neg (fun h => hv (hv0.1 h))]
      have hs := stuckI_of (pr := pr) (r := l) (gl := []) (tn := 0) ht0 rfl
      rw [List.append_nil] at hs
      rw [hs]
      simp only [fitsR, laysR]
      unfold layR
      refine ⟨fun h => ?_, fun r gl hr ht h => ?_⟩
      · simp at h; simp; omega
      · rw [ht0] at ht
        obtain rfl : gl = [] := List.eq_nil_of_length_eq_zero (by omega)
        rw [List.append_nil] at hr; subst hr
        simp at h; simp [refD, hc]; omega

theorem one_of {gl : List V} (h : ((1 : Nat) : Int) = (gl.length : Int)) : ∃ v, gl = [v] := List.length_eq_one_iff.1 (by omega)
theorem snoc_inj {r r' : List V} {v v' : V} (h : r ++ [v] = r' ++ [v']) : r = r' ∧ v = v' := by
  have := List.append_inj' h rfl
  exact ⟨this.1, by simpa using this.2⟩
include hl in
theorem step_store : StepEq pg pr l k vars depth outn n 3 := by
  have hd : doI pg pr l k vars depth outn 3 n = storeR l k vars n := rfl
  rw [StepEq, hd]
  unfold storeR
  by_cases hn : n < 0
  · rw [if_pos (.inl hn)]
    exact ⟨fun _ => rfl, fun r gl _ ht _ => by unfold takenR at ht; rw [if_pos (.inr hn)] at ht; omega⟩
  obtain ⟨m, rfl⟩ : ∃ m : Nat, n = m := ⟨n.toNat, by omega⟩
  rw [Int.toNat_natCast]
  have ht0 := @taken_num pg pr vars 3 m (by decide)
  unfold takenC at ht0
  rw [if_neg (by decide), if_neg (by decide), if_pos rfl, Int.toNat_natCast] at ht0
  by_cases hm : m < vars.length
  rotate_left
  · rw [if_neg hm] at ht0
    rw [if_pos (.inr (by omega))]
    exact ⟨fun _ => rfl, fun r gl _ ht _ => by rw [ht0] at ht; omega⟩
  rw [if_pos hm] at ht0
  rw [if_neg (by omega)]
  rcases @one_or l with h1 | ⟨r0, v0, rfl⟩
  · rw [pop1_none h1]
    exact ⟨fun _ => rfl, fun r gl hr ht _ => by rw [ht0] at ht; obtain ⟨v, rfl⟩ := one_of ht; rw [hr] at h1; simp at h1⟩
  · rw [pop1_snoc]
    have hs := stuckI_of (pr := pr) (r := r0) (gl := [v0]) (tn := 1) ht0 rfl
    rw [hs]
    refine ⟨fun h => ?_, fun r gl hr ht h => ?_⟩
    · simp [fitsR, laysR] at h hl; omega
    · rw [ht0] at ht
      obtain ⟨v, rfl⟩ := one_of ht
      obtain ⟨rfl, rfl⟩ := snoc_inj hr
      simp [refD]
include hl in
theorem step_jump : StepEq pg pr l k vars depth outn n 5 := by
  have hd : doI pg pr l k vars depth outn 5 n = jumpR pr.code.length l vars n := rfl
  rw [StepEq, hd]
  unfold jumpR
  by_cases hn : n < 0
  · rw [if_pos (.inl hn)]
    exact ⟨fun _ => rfl, fun r gl _ ht _ => by unfold takenR at ht; rw [if_pos (.inr hn)] at ht; omega⟩
  obtain ⟨m, rfl⟩ : ∃ m : Nat, n = m := ⟨n.toNat, by omega⟩
  rw [Int.toNat_natCast]
  have ht0 := @taken_num pg pr vars 5 m (by decide)
  unfold takenC at ht0
  simp only [show ¬ (5 : Int) = 1 by decide, show ¬ (5 : Int) = 2 by decide, show ¬ (5 : Int) = 3 by decide, if_true, if_false, Int.toNat_natCast] at ht0
  by_cases hm : m < pr.code.length
  rotate_left
  · rw [if_neg hm] at ht0
    rw [if_pos (.inr (by omega))]
    exact ⟨fun _ => rfl, fun r gl _ ht _ => by rw [ht0] at ht; omega⟩
  rw [if_pos hm] at ht0
  rw [if_neg (by omega)]
  have hs := stuckI_of (pr := pr) (r := l) (gl := []) (tn := 0) ht0 rfl
  rw [List.append_nil] at hs
  rw [hs]
  refine ⟨fun h => ?_, fun r gl hr ht h => ?_⟩
  · simp [fitsR, laysR] at h; omega
  · rw [ht0] at ht
    obtain rfl : gl = [] := List.eq_nil_of_length_eq_zero (by omega)
    rw [List.append_nil] at hr; subst hr
    simp [refD]
include hl in
theorem step_unless : StepEq pg pr l k vars depth outn n 6 := by
  have hd : doI pg pr l k vars depth outn 6 n = unlessR pr.code.length l k vars n := rfl
  rw [StepEq, hd]
  unfold unlessR
  by_cases hn : n < 0
  · rw [if_pos (.inl hn)]
    exact ⟨fun _ => rfl, fun r gl _ ht _ => by unfold takenR at ht; rw [if_pos (.inr hn)] at ht; omega⟩
  obtain ⟨m, rfl⟩ : ∃ m : Nat, n = m := ⟨n.toNat, by omega⟩
  rw [Int.toNat_natCast]
  have ht0 := @taken_num pg pr vars 6 m (by decide)
  unfold takenC at ht0
  simp only [show ¬ (6 : Int) = 1 by decide, show ¬ (6 : Int) = 2 by decide, show ¬ (6 : Int) = 3 by decide, show ¬ (6 : Int) = 5 by decide, if_true, if_false, Int.toNat_natCast] at ht0
  by_cases hm : m < pr.code.length
  rotate_left
  · rw [if_neg hm] at ht0
    rw [if_pos (.inr (by omega))]
    exact ⟨fun _ => rfl, fun r gl _ ht _ => by rw [ht0] at ht; omega⟩
  rw [if_pos hm] at ht0
  rw [if_neg (by omega)]
  unfold ty1
  rcases @one_or l with h1 | ⟨r0, v0, rfl⟩
  · rw [pop1_none h1]
    exact ⟨fun _ => rfl, fun r gl hr ht _ => by rw [ht0] at ht; obtain ⟨v, rfl⟩ := one_of ht; rw [hr] at h1; simp at h1⟩
  · rw [pop1_snoc]
    have hs := stuckI_of (pr := pr) (r := r0) (gl := [v0]) (tn := 1) ht0 rfl
    rw [hs]
    simp only [fitsR, laysR]
    by_cases h2 : v0.t = 2
    · rw [if_pos h2]
      refine ⟨fun h => ?_, fun r gl hr ht h => ?_⟩
      · simp [h2] at h hl; omega
      · rw [ht0] at ht
        obtain ⟨v, rfl⟩ := one_of ht
        obtain ⟨rfl, rfl⟩ := snoc_inj hr
        simp [refD]
    · rw [if_neg h2]
      refine ⟨fun _ => rfl, fun r gl hr ht h => ?_⟩
      simp [h2] at h
end
end Go.Proofs.Ytjgohbepageicaa.Gb
