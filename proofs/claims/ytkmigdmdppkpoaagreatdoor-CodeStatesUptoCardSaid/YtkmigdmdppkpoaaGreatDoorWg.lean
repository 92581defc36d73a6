/- The document's words, paths, heads, values: walked. A text's pieces between slashes: the law of their search; no program in sight. The document's paths, heads, values, rows of types, states: walked. The document's states: joined, compared; where an instruction goes on: walked. Names of instructions: walked. Numbers in bytes: walked. Instructions in bytes: walked. -/
import Derived.Test.YtkmigdmdppkpoaaGreatDoorWf
import Derived.Laws.DeepStrings4
set_option linter.unusedVariables false
set_option linter.unusedSimpArgs false
set_option linter.unusedSectionVars false
namespace Go.Proofs.YtkmigdmdppkpoaaGreatDoor.Gb
open Go Go.Proofs Go.MapKept
set_option linter.unusedVariables false
set_option linter.unusedSimpArgs false
set_option linter.unusedSectionVars false
attribute [local irreducible] Tryz.prog
/-! #### words -/
theorem rLetter_fn (G : Gh) (n : Int) (h0 : 0 ≤ n) (h1 : n ≤ 255) : Fn Tryz.prog 145 #[.int .u8 n] G [] fun e G' H' => e = .returned (.bool (letterN n)) ∧ G = G' ∧ H' = [] := by
  refine Fn.enter Tryz.func145 rfl rfl fun w0 => ?_
  have hrng : (0 ≤ n ∧ n ≤ 64) ∨ (65 ≤ n ∧ n ≤ 90) ∨ (91 ≤ n ∧ n ≤ 94) ∨ (95 ≤ n ∧ n ≤ 95) ∨ (96 ≤ n ∧ n ≤ 96) ∨ (97 ≤ n ∧ n ≤ 122) ∨ (123 ≤ n ∧ n ≤ 255) := by omega
  rcases hrng with hr | hr | hr | hr | hr | hr | hr
  · have eq95 : (n == (95 : Int)) = false := by rw [beq_eq_false_iff_ne]; omega
    have ge97 : decide ((97 : Int) ≤ n) = false := decide_eq_false (by omega)
    have le122 : decide (n ≤ (122 : Int)) = true := decide_eq_true (by omega)
    have ge65 : decide ((65 : Int) ≤ n) = false := decide_eq_false (by omega)
    have le90 : decide (n ≤ (90 : Int)) = true := decide_eq_true (by omega)
    have hv : letterN n = false := by unfold letterN; simp only [eq95, ge97, le122, ge65, le90]; rfl
    rw [hv]
    refine gom ?_
    refine WC.ret ?_
    refine WK.un ?_
    exact QF.p1 (.inl rfl) rfl (.tmp rfl) (⟨rfl, rfl, rfl⟩)
  · have eq95 : (n == (95 : Int)) = false := by rw [beq_eq_false_iff_ne]; omega
    have ge97 : decide ((97 : Int) ≤ n) = false := decide_eq_false (by omega)
    have le122 : decide (n ≤ (122 : Int)) = true := decide_eq_true (by omega)
    have ge65 : decide ((65 : Int) ≤ n) = true := decide_eq_true (by omega)
    have le90 : decide (n ≤ (90 : Int)) = true := decide_eq_true (by omega)
    have hv : letterN n = true := by unfold letterN; simp only [eq95, ge97, le122, ge65, le90]; rfl
    rw [hv]
    refine gom ?_
    refine WC.ret ?_
    refine WK.un ?_
    exact QF.p1 (.inl rfl) rfl (.tmp rfl) (⟨rfl, rfl, rfl⟩)
  · have eq95 : (n == (95 : Int)) = false := by rw [beq_eq_false_iff_ne]; omega
    have ge97 : decide ((97 : Int) ≤ n) = false := decide_eq_false (by omega)
    have le122 : decide (n ≤ (122 : Int)) = true := decide_eq_true (by omega)
    have ge65 : decide ((65 : Int) ≤ n) = true := decide_eq_true (by omega)
    have le90 : decide (n ≤ (90 : Int)) = false := decide_eq_false (by omega)
    have hv : letterN n = false := by unfold letterN; simp only [eq95, ge97, le122, ge65, le90]; rfl
    rw [hv]
    refine gom ?_
    refine WC.ret ?_
    refine WK.un ?_
    exact QF.p1 (.inl rfl) rfl (.tmp rfl) (⟨rfl, rfl, rfl⟩)
  · have eq95 : (n == (95 : Int)) = true := by rw [beq_iff_eq]; omega
    have ge97 : decide ((97 : Int) ≤ n) = false := decide_eq_false (by omega)
    have le122 : decide (n ≤ (122 : Int)) = true := decide_eq_true (by omega)
    have ge65 : decide ((65 : Int) ≤ n) = true := decide_eq_true (by omega)
    have le90 : decide (n ≤ (90 : Int)) = false := decide_eq_false (by omega)
    have hv : letterN n = true := by unfold letterN; simp only [eq95, ge97, le122, ge65, le90]; rfl
    rw [hv]
    refine gom ?_
    refine WC.ret ?_
    refine WK.un ?_
    exact QF.p1 (.inl rfl) rfl (.tmp rfl) (⟨rfl, rfl, rfl⟩)
  · have eq95 : (n == (95 : Int)) = false := by rw [beq_eq_false_iff_ne]; omega
    have ge97 : decide ((97 : Int) ≤ n) = false := decide_eq_false (by omega)
    have le122 : decide (n ≤ (122 : Int)) = true := decide_eq_true (by omega)
    have ge65 : decide ((65 : Int) ≤ n) = true := decide_eq_true (by omega)
    have le90 : decide (n ≤ (90 : Int)) = false := decide_eq_false (by omega)
    have hv : letterN n = false := by unfold letterN; simp only [eq95, ge97, le122, ge65, le90]; rfl
    rw [hv]
    refine gom ?_
    refine WC.ret ?_
    refine WK.un ?_
    exact QF.p1 (.inl rfl) rfl (.tmp rfl) (⟨rfl, rfl, rfl⟩)
  · have eq95 : (n == (95 : Int)) = false := by rw [beq_eq_false_iff_ne]; omega
    have ge97 : decide ((97 : Int) ≤ n) = true := decide_eq_true (by omega)
    have le122 : decide (n ≤ (122 : Int)) = true := decide_eq_true (by omega)
    have ge65 : decide ((65 : Int) ≤ n) = true := decide_eq_true (by omega)
    have le90 : decide (n ≤ (90 : Int)) = false := decide_eq_false (by omega)
    have hv : letterN n = true := by unfold letterN; simp only [eq95, ge97, le122, ge65, le90]; rfl
    rw [hv]
    refine gom ?_
    refine WC.ret ?_
    refine WK.un ?_
    exact QF.p1 (.inl rfl) rfl (.tmp rfl) (⟨rfl, rfl, rfl⟩)
  · have eq95 : (n == (95 : Int)) = false := by rw [beq_eq_false_iff_ne]; omega
    have ge97 : decide ((97 : Int) ≤ n) = true := decide_eq_true (by omega)
    have le122 : decide (n ≤ (122 : Int)) = false := decide_eq_false (by omega)
    have ge65 : decide ((65 : Int) ≤ n) = true := decide_eq_true (by omega)
    have le90 : decide (n ≤ (90 : Int)) = false := decide_eq_false (by omega)
    have hv : letterN n = false := by unfold letterN; simp only [eq95, ge97, le122, ge65, le90]; rfl
    rw [hv]
    refine gom ?_
    refine WC.ret ?_
    refine WK.un ?_
    exact QF.p1 (.inl rfl) rfl (.tmp rfl) (⟨rfl, rfl, rfl⟩)
theorem rDigit_fn (G : Gh) (n : Int) (h0 : 0 ≤ n) (h1 : n ≤ 255) : Fn Tryz.prog 146 #[.int .u8 n] G [] fun e G' H' => e = .returned (.bool (digitN n)) ∧ G = G' ∧ H' = [] := by
  refine Fn.enter Tryz.func146 rfl rfl fun w0 => ?_
  have hrng : (0 ≤ n ∧ n ≤ 47) ∨ (48 ≤ n ∧ n ≤ 57) ∨ (58 ≤ n ∧ n ≤ 255) := by omega
  rcases hrng with hr | hr | hr
  · have ge48 : decide ((48 : Int) ≤ n) = false := decide_eq_false (by omega)
    have le57 : decide (n ≤ (57 : Int)) = true := decide_eq_true (by omega)
    have hv : digitN n = false := by unfold digitN; simp only [ge48, le57]; rfl
    rw [hv]
    refine gom ?_
    refine WC.ret ?_
    refine WK.un ?_
    exact QF.p1 (.inl rfl) rfl (.tmp rfl) (⟨rfl, rfl, rfl⟩)
  · have ge48 : decide ((48 : Int) ≤ n) = true := decide_eq_true (by omega)
    have le57 : decide (n ≤ (57 : Int)) = true := decide_eq_true (by omega)
    have hv : digitN n = true := by unfold digitN; simp only [ge48, le57]; rfl
    rw [hv]
    refine gom ?_
    refine WC.ret ?_
    refine WK.un ?_
    exact QF.p1 (.inl rfl) rfl (.tmp rfl) (⟨rfl, rfl, rfl⟩)
  · have ge48 : decide ((48 : Int) ≤ n) = true := decide_eq_true (by omega)
    have le57 : decide (n ≤ (57 : Int)) = false := decide_eq_false (by omega)
    have hv : digitN n = false := by unfold digitN; simp only [ge48, le57]; rfl
    rw [hv]
    refine gom ?_
    refine WC.ret ?_
    refine WK.un ?_
    exact QF.p1 (.inl rfl) rfl (.tmp rfl) (⟨rfl, rfl, rfl⟩)
theorem rkeys_fn (G : Gh) : Fn Tryz.prog 148 #[] G [] fun e G' H' => ∃ b, e = .returned (.slice (some ⟨b, 0, none⟩) 16 16) ∧ G.le G' ∧ Sl Kd.str G' (some ⟨b, 0, none⟩) keysL ∧ H' = [] := by
  refine Fn.enter Tryz.func148 rfl rfl fun w0 => ?_
  refine gom ?_
  refine WL.op (by kernel_rfl) (OW.buildSlice rfl (by kernel_rfl) (by kernel_rfl) (by rfl) rfl fun b1 => ?_)
  refine gom ?_
  refine WC.freezeC (cs := keysL.map Value.string) .here rfl fun G1 hg1 h1 => ?_
  refine WC.ret ?_
  refine WK.un ?_
  exact QF.p1 (.inl rfl) rfl (.tmp rfl) (⟨b1, rfl, hg1, Cs.strs h1, rfl⟩)
theorem ramong_fn (G : Gh) (A : Option Addr) (l : List ByteArray) (cap : Nat) (s : ByteArray) (hA : Sl Kd.str G A l) (hl : l.length ≤ 100000000000000) :
    Fn Tryz.prog 147 #[.slice A l.length cap, .string s] G [] fun e G' H' => e = .returned (.bool (l.any (fun k => s == k))) ∧ G = G' ∧ H' = [] := by
  refine Fn.enter Tryz.func147 rfl rfl fun w0 => ?_
  refine gom ?_
  refine WC.loop (X := Nat) (fun i => [(0, .slice A l.length cap), (1, .string s), (5, .int .i64 (i : Int))]) (fun _ => G) (fun _ => []) (fun i => l.length - i) (fun i => i ≤ l.length ∧ ∀ j y, j < i → l[j]? = some y → (s == y) = false) 0 ⟨Nat.zero_le _, (fun j y h => absurd h (Nat.not_lt_zero _))⟩ (by exact ⟨rfl, rfl, rfl, trivial⟩) rfl (List.Sublist.refl _) fun i hx => ?_
  obtain ⟨hi, hall⟩ := hx
  have x2 := wrapS i (by omega)
  by_cases hlt : i < l.length
  rotate_left
  · have e2 : decide ((i : Int) < (l.length : Int)) = false := decide_eq_false (by omega)
    rw [any_none hall (by omega)]
    refine gom ?_
    refine WC.ret ?_
    refine WK.un ?_
    exact QF.p1 (.inl rfl) rfl (.tmp rfl) (⟨rfl, rfl, rfl⟩)
  have e2 : decide ((i : Int) < (l.length : Int)) = true := decide_eq_true (by omega)
  obtain ⟨y, hy⟩ : ∃ y, l[i]? = some y := ⟨_, List.getElem?_eq_getElem hlt⟩
  obtain ⟨ab, ao, cs, rfl, hk, hcs⟩ := hA i y hy
  obtain rfl : cs = [.string y] := hk
  have x0 : (0 : Int) ≤ i := by omega
  have x1 : (i : Int) < (l.length : Int) := by omega
  have hsym : (y == s) = (s == y) := by rw [bytes_beq, bytes_beq]; congr 1; exact propext ⟨Eq.symm, Eq.symm⟩
  cases hq : (s == y) with
  | true =>
    have hv : l.any (fun k => s == k) = true := List.any_eq_true.2 ⟨y, List.mem_of_getElem? hy, hq⟩
    rw [hv]
    refine gom ?_
    rw [hsym, hq]
    refine gom ?_
    refine WC.ret ?_
    refine WK.un ?_
    exact QF.p1 (.inl rfl) rfl (.tmp rfl) (⟨rfl, rfl, rfl⟩)
  | false =>
    refine gom ?_
    rw [hsym, hq]
    refine gom ?_
    exact WK.again (i + 1) (by omega) ⟨by omega, any_step hy hall hq⟩ (by exact ⟨rfl, rfl, rfl, trivial⟩) rfl (List.Sublist.refl _)
theorem rKey_fn (G : Gh) (s : ByteArray) : Fn Tryz.prog 124 #[.string s] G [] fun e G' H' => e = .returned (.bool (keyR s)) ∧ G.le G' ∧ H' = [] := by
  refine Fn.enter Tryz.func124 rfl rfl fun w0 => ?_
  refine gom ?_
  refine WL.op (by kernel_rfl) (OW.callK rfl (rkeys_fn G) rfl fun v' G' H' h hg => ?_)
  obtain ⟨b, he, hg1, hs, rfl⟩ := h
  cases he
  refine gom ?_
  refine WL.op (by kernel_rfl) (OW.callK rfl (ramong_fn G' _ keysL 16 s hs (by decide)) rfl fun v' G' H' h hg => ?_)
  obtain ⟨he, rfl, rfl⟩ := h
  cases he
  refine gom ?_
  refine WC.ret ?_
  refine WK.un ?_
  exact QF.p1 (.inl rfl) rfl (.tmp rfl) (⟨rfl, hg1, rfl⟩)
/-- letters and digits, a letter first, not too many -/
def rnameR (s : ByteArray) : Bool :=
  match bytesL s with
  | [] => false
  | c :: l => letterN c.toNat && (decide ((c :: l).length ≤ 32) && (c :: l).all (fun c => wordN c.toNat))
theorem u8le (c : UInt8) : ((c.toNat : Nat) : Int) ≤ 255 := by have := c.toNat_lt; omega
theorem rname_fn (G : Gh) (s : ByteArray) (hl : s.size ≤ 100000000000000) : Fn Tryz.prog 123 #[.string s] G [] fun e G' H' => e = .returned (.bool (rnameR s)) ∧ G = G' ∧ H' = [] := by
  have hbl := bytesL_length s
  refine Fn.enter Tryz.func123 rfl rfl fun w0 => ?_
  cases hb : bytesL s with
  | nil =>
    have h0 : s.size = 0 := by rw [← hbl, hb]; rfl
    have e1 : ((s.size : Int) == 0) = true := by rw [h0]; rfl
    have hv : rnameR s = false := by unfold rnameR; rw [hb]
    rw [hv]
    refine gom ?_
    refine WC.ret ?_
    refine WK.un ?_
    exact QF.p1 (.inl rfl) rfl (.tmp rfl) (⟨rfl, rfl, rfl⟩)
  | cons c l =>
  have hsz : s.size = (c :: l).length := by rw [← hbl, hb]
  have hpos : 0 < s.size := by rw [hsz]; simp
  have e1 : ((s.size : Int) == 0) = false := by rw [beq_eq_false_iff_ne]; omega
  have hv : rnameR s = (letterN c.toNat && (decide ((c :: l).length ≤ 32) && (c :: l).all (fun c => wordN c.toNat))) := by unfold rnameR; rw [hb]
  rw [hv, ← hsz]
  by_cases h32 : s.size ≤ 32
  rotate_left
  · have e2 : decide ((32 : Int) < (s.size : Int)) = true := decide_eq_true (by omega)
    rw [decide_eq_false h32]
    refine gom ?_
    refine WC.ret ?_
    refine WK.un ?_
    exact QF.p1 (.inl rfl) rfl (.tmp rfl) (⟨by simp, rfl, rfl⟩)
  have e2 : decide ((32 : Int) < (s.size : Int)) = false := decide_eq_false (by omega)
  rw [decide_eq_true h32]
  have hc : (bytesL s)[(0 : Int).toNat]? = some c := by rw [hb]; rfl
  refine gom ?_
  refine WL.p (Gp.indexS rfl rfl (by decide) hc) (by kernel_rfl) rfl ?_
  refine WL.op (by kernel_rfl) (OW.callK rfl (rLetter_fn G c.toNat (by omega) (u8le c)) rfl fun v' G' H' h hg => ?_)
  obtain ⟨he, rfl, rfl⟩ := h
  cases he
  cases hlc : letterN c.toNat with
  | false =>
    refine gom ?_
    refine WC.ret ?_
    refine WK.un ?_
    exact QF.p1 (.inl rfl) rfl (.tmp rfl) (⟨by simp, rfl, rfl⟩)
  | true =>
  refine gom ?_
  refine WC.loop (X := Nat) (fun i => [(0, .string s), (3, .int .i64 (i : Int))]) (fun _ => G) (fun _ => []) (fun i => s.size - i) (fun i => i ≤ s.size ∧ ∀ j y, j < i → (c :: l)[j]? = some y → (fun c : UInt8 => wordN c.toNat) y = true) 0 ⟨Nat.zero_le _, (fun j y h => absurd h (Nat.not_lt_zero _))⟩ (by exact ⟨rfl, rfl, trivial⟩) rfl (List.Sublist.refl _) fun i hx => ?_
  obtain ⟨hi, hall⟩ := hx
  have x2 := wrapS i (by omega)
  by_cases hlt : i < s.size
  rotate_left
  · have e3 : decide ((i : Int) < (s.size : Int)) = false := decide_eq_false (by omega)
    have ha := all_of (f := fun c : UInt8 => wordN c.toNat) hall (by omega)
    rw [ha]
    refine gom ?_
    refine WC.ret ?_
    refine WK.un ?_
    exact QF.p1 (.inl rfl) rfl (.tmp rfl) (⟨rfl, rfl, rfl⟩)
  have e3 : decide ((i : Int) < (s.size : Int)) = true := decide_eq_true (by omega)
  obtain ⟨y, hy⟩ : ∃ y, (c :: l)[i]? = some y := ⟨_, List.getElem?_eq_getElem (by omega)⟩
  have hy' : (bytesL s)[i]? = some y := by rw [hb]; exact hy
  refine gom ?_
  refine WL.p (Gp.indexS rfl rfl (by omega) hy') (by kernel_rfl) rfl ?_
  refine WL.op (by kernel_rfl) (OW.callK rfl (rLetter_fn G y.toNat (by omega) (u8le y)) rfl fun v' G' H' h hg => ?_)
  obtain ⟨he, rfl, rfl⟩ := h
  cases he
  cases hl1 : letterN y.toNat with
  | true =>
    have hw : (fun c : UInt8 => wordN c.toNat) y = true := by dsimp only; unfold wordN; rw [hl1]; rfl
    refine gom ?_
    exact WK.again (i + 1) (by omega) ⟨by omega, all_step (f := fun c : UInt8 => wordN c.toNat) hy hall hw⟩ (by exact ⟨rfl, rfl, trivial⟩) rfl (List.Sublist.refl _)
  | false =>
  refine gom ?_
  refine WL.p (Gp.indexS rfl rfl (by omega) hy') (by kernel_rfl) rfl ?_
  refine WL.op (by kernel_rfl) (OW.callK rfl (rDigit_fn G y.toNat (by omega) (u8le y)) rfl fun v' G' H' h hg => ?_)
  obtain ⟨he, rfl, rfl⟩ := h
  cases he
  cases hd1 : digitN y.toNat with
  | true =>
    have hw : (fun c : UInt8 => wordN c.toNat) y = true := by dsimp only; unfold wordN; rw [hl1, hd1]; rfl
    refine gom ?_
    exact WK.again (i + 1) (by omega) ⟨by omega, all_step (f := fun c : UInt8 => wordN c.toNat) hy hall hw⟩ (by exact ⟨rfl, rfl, trivial⟩) rfl (List.Sublist.refl _)
  | false =>
    have hw : (fun c : UInt8 => wordN c.toNat) y = false := by dsimp only; unfold wordN; rw [hl1, hd1]; rfl
    rw [all_not (f := fun c : UInt8 => wordN c.toNat) hy hw]
    refine gom ?_
    refine WC.ret ?_
    refine WK.un ?_
    exact QF.p1 (.inl rfl) rfl (.tmp rfl) (⟨rfl, rfl, rfl⟩)
theorem runL_allH {g : Int → Bool} : ∀ l : List UInt8, decide (runL g l = l.length) = l.all (fun c => g c.toNat)
  | [] => rfl
  | c :: l => by
    have ih := runL_allH (g := g) l
    have hle := runL_le g l
    rw [List.all_cons]
    by_cases hg : g c.toNat = true
    · have hr : runL g (c :: l) = 1 + runL g l := by simp only [runL, if_pos hg]
      rw [hg, Bool.true_and, ← ih]
      by_cases h : runL g l = l.length
      · rw [decide_eq_true h, decide_eq_true (by rw [hr, List.length_cons]; omega)]
      · rw [decide_eq_false h, decide_eq_false (by rw [hr, List.length_cons]; omega)]
    · have hr : runL g (c :: l) = 0 := by simp only [runL, if_neg hg]
      rw [show g c.toNat = false by simpa using hg, Bool.false_and]
      exact decide_eq_false (by rw [hr, List.length_cons]; omega)
theorem word_eq (s : ByteArray) : wordR s = (rnameR s && !keyR s) := by
  unfold wordR rnameR
  cases bytesL s with
  | nil => rfl
  | cons c l =>
    dsimp only
    rw [runL_allH]
    cases letterN c.toNat <;> cases (c :: l).all (fun c => wordN c.toNat) <;> cases decide ((c :: l).length ≤ 32) <;> rfl
theorem rWord_fn (G : Gh) (s : ByteArray) (hl : s.size ≤ 100000000000000) : Fn Tryz.prog 98 #[.string s] G [] fun e G' H' => e = .returned (.bool (wordR s)) ∧ G.le G' ∧ H' = [] := by
  rw [word_eq]
  refine Fn.enter Tryz.func98 rfl rfl fun w0 => ?_
  refine gom ?_
  refine WL.op (by kernel_rfl) (OW.callK rfl (rname_fn G s hl) rfl fun v' G' H' h hg => ?_)
  obtain ⟨he, rfl, rfl⟩ := h
  cases he
  cases h1 : rnameR s with
  | false =>
    refine gom ?_
    refine WC.ret ?_
    refine WK.un ?_
    exact QF.p1 (.inl rfl) rfl (.tmp rfl) (⟨rfl, Gh.le_refl _, rfl⟩)
  | true =>
  refine gom ?_
  refine WL.op (by kernel_rfl) (OW.callK rfl (rKey_fn G s) rfl fun v' G' H' h hg => ?_)
  obtain ⟨he, hg1, rfl⟩ := h
  cases he
  refine gom ?_
  refine WC.ret ?_
  refine WK.un ?_
  exact QF.p1 (.inl rfl) rfl (.tmp rfl) (⟨rfl, hg1, rfl⟩)
/-! #### paths -/
set_option maxHeartbeats 4000000 in
theorem rName4_fn (G : Gh) (s : ByteArray) (hl : s.size ≤ 100000000000000) : Fn Tryz.prog 170 #[.string s] G [] fun e G' H' => e = .returned (.bool (nameR s)) ∧ G = G' ∧ H' = [] := by
  have hbl := bytesL_length s
  refine Fn.enter Tryz.func170 rfl rfl fun w0 => ?_
  by_cases h1 : s.size < 1
  · have y1 : decide ((s.size : Int) < 1) = true := decide_eq_true (by omega)
    have hn : nameR s = false := by unfold nameR; rw [decide_eq_false (show ¬ 1 ≤ s.size by omega)]; rfl
    rw [hn]
    refine gom ?_
    refine WC.ret ?_
    refine WK.un ?_
    exact QF.p1 (.inl rfl) rfl (.tmp rfl) (⟨rfl, rfl, rfl⟩)
  have y1 : decide ((s.size : Int) < 1) = false := decide_eq_false (by omega)
  by_cases h2 : 64 < s.size
  · have y2 : decide ((64 : Int) < (s.size : Int)) = true := decide_eq_true (by omega)
    have hn : nameR s = false := by unfold nameR; rw [decide_eq_false (show ¬ s.size ≤ 64 by omega)]; simp
    rw [hn]
    refine gom ?_
    refine WC.ret ?_
    refine WK.un ?_
    exact QF.p1 (.inl rfl) rfl (.tmp rfl) (⟨rfl, rfl, rfl⟩)
  have y2 : decide ((64 : Int) < (s.size : Int)) = false := decide_eq_false (by omega)
  cases h3 : (s == ⟨#[46]⟩) with
  | true =>
    have hn : nameR s = false := by unfold nameR; rw [h3]; simp
    rw [hn]
    refine gom ?_
    rw [h3]
    refine gom ?_
    refine WC.ret ?_
    refine WK.un ?_
    exact QF.p1 (.inl rfl) rfl (.tmp rfl) (⟨rfl, rfl, rfl⟩)
  | false =>
  cases h4 : (s == ⟨#[46, 46]⟩) with
  | true =>
    have hn : nameR s = false := by unfold nameR; rw [h4]; simp
    rw [hn]
    refine gom ?_
    rw [h3]
    refine gom ?_
    rw [h4]
    refine gom ?_
    refine WC.ret ?_
    refine WK.un ?_
    exact QF.p1 (.inl rfl) rfl (.tmp rfl) (⟨rfl, rfl, rfl⟩)
  | false =>
  have hn : nameR s = (bytesL s).all (fun c => nameC c.toNat) := by unfold nameR; rw [h3, h4, decide_eq_true (show 1 ≤ s.size by omega), decide_eq_true (show s.size ≤ 64 by omega)]; rfl
  rw [hn]
  refine gom ?_
  rw [h3]
  refine gom ?_
  rw [h4]
  refine gom ?_
  refine WC.loop (X := Nat) (fun i => [(0, .string s), (3, .int .i64 (i : Int))]) (fun _ => G) (fun _ => []) (fun i => s.size - i) (fun i => i ≤ s.size ∧ ∀ j y, j < i → (bytesL s)[j]? = some y → (fun c : UInt8 => nameC c.toNat) y = true) 0 ⟨Nat.zero_le _, (fun j y h => absurd h (Nat.not_lt_zero _))⟩ (by exact ⟨rfl, rfl, trivial⟩) rfl (List.Sublist.refl _) fun i hx => ?_
  obtain ⟨hi, hall⟩ := hx
  have x2 := wrapS i (by omega)
  by_cases hlt : i < s.size
  rotate_left
  · have e3 : decide ((i : Int) < (s.size : Int)) = false := decide_eq_false (by omega)
    have ha := all_of (f := fun c : UInt8 => nameC c.toNat) hall (by omega)
    rw [ha]
    refine gom ?_
    refine WC.ret ?_
    refine WK.un ?_
    exact QF.p1 (.inl rfl) rfl (.tmp rfl) (⟨rfl, rfl, rfl⟩)
  have e3 : decide ((i : Int) < (s.size : Int)) = true := decide_eq_true (by omega)
  obtain ⟨y, hy⟩ : ∃ y, (bytesL s)[i]? = some y := ⟨_, List.getElem?_eq_getElem (by omega)⟩
  have hu := u8le y
  refine gom ?_
  refine WL.p (Gp.indexS rfl rfl (by omega) hy) (by kernel_rfl) rfl ?_
  obtain ⟨m, hm⟩ : ∃ m : Int, m = ((y.toNat : Nat) : Int) := ⟨_, rfl⟩
  rw [← hm] at hu ⊢
  have hm0 : 0 ≤ m := by omega
  have hrng : (0 ≤ m ∧ m ≤ 44) ∨ (45 ≤ m ∧ m ≤ 45) ∨ (46 ≤ m ∧ m ≤ 46) ∨ (47 ≤ m ∧ m ≤ 47) ∨ (48 ≤ m ∧ m ≤ 57) ∨ (58 ≤ m ∧ m ≤ 64) ∨ (65 ≤ m ∧ m ≤ 90) ∨ (91 ≤ m ∧ m ≤ 94) ∨ (95 ≤ m ∧ m ≤ 95) ∨ (96 ≤ m ∧ m ≤ 96) ∨ (97 ≤ m ∧ m ≤ 122) ∨ (123 ≤ m ∧ m ≤ 255) := by omega
  rcases hrng with hr | hr | hr | hr | hr | hr | hr | hr | hr | hr | hr | hr
  · have ge97 : decide ((97 : Int) ≤ m) = false := decide_eq_false (by omega)
    have le122 : decide (m ≤ (122 : Int)) = true := decide_eq_true (by omega)
    have ge65 : decide ((65 : Int) ≤ m) = false := decide_eq_false (by omega)
    have le90 : decide (m ≤ (90 : Int)) = true := decide_eq_true (by omega)
    have ge48 : decide ((48 : Int) ≤ m) = false := decide_eq_false (by omega)
    have le57 : decide (m ≤ (57 : Int)) = true := decide_eq_true (by omega)
    have eq46 : (m == (46 : Int)) = false := by rw [beq_eq_false_iff_ne]; omega
    have eq95 : (m == (95 : Int)) = false := by rw [beq_eq_false_iff_ne]; omega
    have eq45 : (m == (45 : Int)) = false := by rw [beq_eq_false_iff_ne]; omega
    have hw : (fun c : UInt8 => nameC c.toNat) y = false := by dsimp only; rw [← hm]; unfold nameC; simp only [ge97, le122, ge65, le90, ge48, le57, eq46, eq95, eq45]; rfl
    rw [all_not (f := fun c : UInt8 => nameC c.toNat) hy hw]
    refine gom ?_
    refine WC.ret ?_
    refine WK.un ?_
    exact QF.p1 (.inl rfl) rfl (.tmp rfl) (⟨rfl, rfl, rfl⟩)
  · have ge97 : decide ((97 : Int) ≤ m) = false := decide_eq_false (by omega)
    have le122 : decide (m ≤ (122 : Int)) = true := decide_eq_true (by omega)
    have ge65 : decide ((65 : Int) ≤ m) = false := decide_eq_false (by omega)
    have le90 : decide (m ≤ (90 : Int)) = true := decide_eq_true (by omega)
    have ge48 : decide ((48 : Int) ≤ m) = false := decide_eq_false (by omega)
    have le57 : decide (m ≤ (57 : Int)) = true := decide_eq_true (by omega)
    have eq46 : (m == (46 : Int)) = false := by rw [beq_eq_false_iff_ne]; omega
    have eq95 : (m == (95 : Int)) = false := by rw [beq_eq_false_iff_ne]; omega
    have eq45 : (m == (45 : Int)) = true := by rw [beq_iff_eq]; omega
    have hw : (fun c : UInt8 => nameC c.toNat) y = true := by dsimp only; rw [← hm]; unfold nameC; simp only [ge97, le122, ge65, le90, ge48, le57, eq46, eq95, eq45]; rfl
    refine gom ?_
    exact WK.again (i + 1) (by omega) ⟨by omega, all_step (f := fun c : UInt8 => nameC c.toNat) hy hall hw⟩ (by exact ⟨rfl, rfl, trivial⟩) rfl (List.Sublist.refl _)
  · have ge97 : decide ((97 : Int) ≤ m) = false := decide_eq_false (by omega)
    have le122 : decide (m ≤ (122 : Int)) = true := decide_eq_true (by omega)
    have ge65 : decide ((65 : Int) ≤ m) = false := decide_eq_false (by omega)
    have le90 : decide (m ≤ (90 : Int)) = true := decide_eq_true (by omega)
    have ge48 : decide ((48 : Int) ≤ m) = false := decide_eq_false (by omega)
    have le57 : decide (m ≤ (57 : Int)) = true := decide_eq_true (by omega)
    have eq46 : (m == (46 : Int)) = true := by rw [beq_iff_eq]; omega
    have eq95 : (m == (95 : Int)) = false := by rw [beq_eq_false_iff_ne]; omega
    have eq45 : (m == (45 : Int)) = false := by rw [beq_eq_false_iff_ne]; omega
    have hw : (fun c : UInt8 => nameC c.toNat) y = true := by dsimp only; rw [← hm]; unfold nameC; simp only [ge97, le122, ge65, le90, ge48, le57, eq46, eq95, eq45]; rfl
    refine gom ?_
    exact WK.again (i + 1) (by omega) ⟨by omega, all_step (f := fun c : UInt8 => nameC c.toNat) hy hall hw⟩ (by exact ⟨rfl, rfl, trivial⟩) rfl (List.Sublist.refl _)
  · have ge97 : decide ((97 : Int) ≤ m) = false := decide_eq_false (by omega)
    have le122 : decide (m ≤ (122 : Int)) = true := decide_eq_true (by omega)
    have ge65 : decide ((65 : Int) ≤ m) = false := decide_eq_false (by omega)
    have le90 : decide (m ≤ (90 : Int)) = true := decide_eq_true (by omega)
    have ge48 : decide ((48 : Int) ≤ m) = false := decide_eq_false (by omega)
    have le57 : decide (m ≤ (57 : Int)) = true := decide_eq_true (by omega)
    have eq46 : (m == (46 : Int)) = false := by rw [beq_eq_false_iff_ne]; omega
    have eq95 : (m == (95 : Int)) = false := by rw [beq_eq_false_iff_ne]; omega
    have eq45 : (m == (45 : Int)) = false := by rw [beq_eq_false_iff_ne]; omega
    have hw : (fun c : UInt8 => nameC c.toNat) y = false := by dsimp only; rw [← hm]; unfold nameC; simp only [ge97, le122, ge65, le90, ge48, le57, eq46, eq95, eq45]; rfl
    rw [all_not (f := fun c : UInt8 => nameC c.toNat) hy hw]
    refine gom ?_
    refine WC.ret ?_
    refine WK.un ?_
    exact QF.p1 (.inl rfl) rfl (.tmp rfl) (⟨rfl, rfl, rfl⟩)
  · have ge97 : decide ((97 : Int) ≤ m) = false := decide_eq_false (by omega)
    have le122 : decide (m ≤ (122 : Int)) = true := decide_eq_true (by omega)
    have ge65 : decide ((65 : Int) ≤ m) = false := decide_eq_false (by omega)
    have le90 : decide (m ≤ (90 : Int)) = true := decide_eq_true (by omega)
    have ge48 : decide ((48 : Int) ≤ m) = true := decide_eq_true (by omega)
    have le57 : decide (m ≤ (57 : Int)) = true := decide_eq_true (by omega)
    have eq46 : (m == (46 : Int)) = false := by rw [beq_eq_false_iff_ne]; omega
    have eq95 : (m == (95 : Int)) = false := by rw [beq_eq_false_iff_ne]; omega
    have eq45 : (m == (45 : Int)) = false := by rw [beq_eq_false_iff_ne]; omega
    have hw : (fun c : UInt8 => nameC c.toNat) y = true := by dsimp only; rw [← hm]; unfold nameC; simp only [ge97, le122, ge65, le90, ge48, le57, eq46, eq95, eq45]; rfl
    refine gom ?_
    exact WK.again (i + 1) (by omega) ⟨by omega, all_step (f := fun c : UInt8 => nameC c.toNat) hy hall hw⟩ (by exact ⟨rfl, rfl, trivial⟩) rfl (List.Sublist.refl _)
  · have ge97 : decide ((97 : Int) ≤ m) = false := decide_eq_false (by omega)
    have le122 : decide (m ≤ (122 : Int)) = true := decide_eq_true (by omega)
    have ge65 : decide ((65 : Int) ≤ m) = false := decide_eq_false (by omega)
    have le90 : decide (m ≤ (90 : Int)) = true := decide_eq_true (by omega)
    have ge48 : decide ((48 : Int) ≤ m) = true := decide_eq_true (by omega)
    have le57 : decide (m ≤ (57 : Int)) = false := decide_eq_false (by omega)
    have eq46 : (m == (46 : Int)) = false := by rw [beq_eq_false_iff_ne]; omega
    have eq95 : (m == (95 : Int)) = false := by rw [beq_eq_false_iff_ne]; omega
    have eq45 : (m == (45 : Int)) = false := by rw [beq_eq_false_iff_ne]; omega
    have hw : (fun c : UInt8 => nameC c.toNat) y = false := by dsimp only; rw [← hm]; unfold nameC; simp only [ge97, le122, ge65, le90, ge48, le57, eq46, eq95, eq45]; rfl
    rw [all_not (f := fun c : UInt8 => nameC c.toNat) hy hw]
    refine gom ?_
    refine WC.ret ?_
    refine WK.un ?_
    exact QF.p1 (.inl rfl) rfl (.tmp rfl) (⟨rfl, rfl, rfl⟩)
  · have ge97 : decide ((97 : Int) ≤ m) = false := decide_eq_false (by omega)
    have le122 : decide (m ≤ (122 : Int)) = true := decide_eq_true (by omega)
    have ge65 : decide ((65 : Int) ≤ m) = true := decide_eq_true (by omega)
    have le90 : decide (m ≤ (90 : Int)) = true := decide_eq_true (by omega)
    have ge48 : decide ((48 : Int) ≤ m) = true := decide_eq_true (by omega)
    have le57 : decide (m ≤ (57 : Int)) = false := decide_eq_false (by omega)
    have eq46 : (m == (46 : Int)) = false := by rw [beq_eq_false_iff_ne]; omega
    have eq95 : (m == (95 : Int)) = false := by rw [beq_eq_false_iff_ne]; omega
    have eq45 : (m == (45 : Int)) = false := by rw [beq_eq_false_iff_ne]; omega
    have hw : (fun c : UInt8 => nameC c.toNat) y = true := by dsimp only; rw [← hm]; unfold nameC; simp only [ge97, le122, ge65, le90, ge48, le57, eq46, eq95, eq45]; rfl
    refine gom ?_
    exact WK.again (i + 1) (by omega) ⟨by omega, all_step (f := fun c : UInt8 => nameC c.toNat) hy hall hw⟩ (by exact ⟨rfl, rfl, trivial⟩) rfl (List.Sublist.refl _)
  · have ge97 : decide ((97 : Int) ≤ m) = false := decide_eq_false (by omega)
    have le122 : decide (m ≤ (122 : Int)) = true := decide_eq_true (by omega)
    have ge65 : decide ((65 : Int) ≤ m) = true := decide_eq_true (by omega)
    have le90 : decide (m ≤ (90 : Int)) = false := decide_eq_false (by omega)
    have ge48 : decide ((48 : Int) ≤ m) = true := decide_eq_true (by omega)
    have le57 : decide (m ≤ (57 : Int)) = false := decide_eq_false (by omega)
    have eq46 : (m == (46 : Int)) = false := by rw [beq_eq_false_iff_ne]; omega
    have eq95 : (m == (95 : Int)) = false := by rw [beq_eq_false_iff_ne]; omega
    have eq45 : (m == (45 : Int)) = false := by rw [beq_eq_false_iff_ne]; omega
    have hw : (fun c : UInt8 => nameC c.toNat) y = false := by dsimp only; rw [← hm]; unfold nameC; simp only [ge97, le122, ge65, le90, ge48, le57, eq46, eq95, eq45]; rfl
    rw [all_not (f := fun c : UInt8 => nameC c.toNat) hy hw]
    refine gom ?_
    refine WC.ret ?_
    refine WK.un ?_
    exact QF.p1 (.inl rfl) rfl (.tmp rfl) (⟨rfl, rfl, rfl⟩)
  · have ge97 : decide ((97 : Int) ≤ m) = false := decide_eq_false (by omega)
    have le122 : decide (m ≤ (122 : Int)) = true := decide_eq_true (by omega)
    have ge65 : decide ((65 : Int) ≤ m) = true := decide_eq_true (by omega)
    have le90 : decide (m ≤ (90 : Int)) = false := decide_eq_false (by omega)
    have ge48 : decide ((48 : Int) ≤ m) = true := decide_eq_true (by omega)
    have le57 : decide (m ≤ (57 : Int)) = false := decide_eq_false (by omega)
    have eq46 : (m == (46 : Int)) = false := by rw [beq_eq_false_iff_ne]; omega
    have eq95 : (m == (95 : Int)) = true := by rw [beq_iff_eq]; omega
    have eq45 : (m == (45 : Int)) = false := by rw [beq_eq_false_iff_ne]; omega
    have hw : (fun c : UInt8 => nameC c.toNat) y = true := by dsimp only; rw [← hm]; unfold nameC; simp only [ge97, le122, ge65, le90, ge48, le57, eq46, eq95, eq45]; rfl
    refine gom ?_
    exact WK.again (i + 1) (by omega) ⟨by omega, all_step (f := fun c : UInt8 => nameC c.toNat) hy hall hw⟩ (by exact ⟨rfl, rfl, trivial⟩) rfl (List.Sublist.refl _)
  · have ge97 : decide ((97 : Int) ≤ m) = false := decide_eq_false (by omega)
    have le122 : decide (m ≤ (122 : Int)) = true := decide_eq_true (by omega)
    have ge65 : decide ((65 : Int) ≤ m) = true := decide_eq_true (by omega)
    have le90 : decide (m ≤ (90 : Int)) = false := decide_eq_false (by omega)
    have ge48 : decide ((48 : Int) ≤ m) = true := decide_eq_true (by omega)
    have le57 : decide (m ≤ (57 : Int)) = false := decide_eq_false (by omega)
    have eq46 : (m == (46 : Int)) = false := by rw [beq_eq_false_iff_ne]; omega
    have eq95 : (m == (95 : Int)) = false := by rw [beq_eq_false_iff_ne]; omega
    have eq45 : (m == (45 : Int)) = false := by rw [beq_eq_false_iff_ne]; omega
    have hw : (fun c : UInt8 => nameC c.toNat) y = false := by dsimp only; rw [← hm]; unfold nameC; simp only [ge97, le122, ge65, le90, ge48, le57, eq46, eq95, eq45]; rfl
    rw [all_not (f := fun c : UInt8 => nameC c.toNat) hy hw]
    refine gom ?_
    refine WC.ret ?_
    refine WK.un ?_
    exact QF.p1 (.inl rfl) rfl (.tmp rfl) (⟨rfl, rfl, rfl⟩)
  · have ge97 : decide ((97 : Int) ≤ m) = true := decide_eq_true (by omega)
    have le122 : decide (m ≤ (122 : Int)) = true := decide_eq_true (by omega)
    have ge65 : decide ((65 : Int) ≤ m) = true := decide_eq_true (by omega)
    have le90 : decide (m ≤ (90 : Int)) = false := decide_eq_false (by omega)
    have ge48 : decide ((48 : Int) ≤ m) = true := decide_eq_true (by omega)
    have le57 : decide (m ≤ (57 : Int)) = false := decide_eq_false (by omega)
    have eq46 : (m == (46 : Int)) = false := by rw [beq_eq_false_iff_ne]; omega
    have eq95 : (m == (95 : Int)) = false := by rw [beq_eq_false_iff_ne]; omega
    have eq45 : (m == (45 : Int)) = false := by rw [beq_eq_false_iff_ne]; omega
    have hw : (fun c : UInt8 => nameC c.toNat) y = true := by dsimp only; rw [← hm]; unfold nameC; simp only [ge97, le122, ge65, le90, ge48, le57, eq46, eq95, eq45]; rfl
    refine gom ?_
    exact WK.again (i + 1) (by omega) ⟨by omega, all_step (f := fun c : UInt8 => nameC c.toNat) hy hall hw⟩ (by exact ⟨rfl, rfl, trivial⟩) rfl (List.Sublist.refl _)
  · have ge97 : decide ((97 : Int) ≤ m) = true := decide_eq_true (by omega)
    have le122 : decide (m ≤ (122 : Int)) = false := decide_eq_false (by omega)
    have ge65 : decide ((65 : Int) ≤ m) = true := decide_eq_true (by omega)
    have le90 : decide (m ≤ (90 : Int)) = false := decide_eq_false (by omega)
    have ge48 : decide ((48 : Int) ≤ m) = true := decide_eq_true (by omega)
    have le57 : decide (m ≤ (57 : Int)) = false := decide_eq_false (by omega)
    have eq46 : (m == (46 : Int)) = false := by rw [beq_eq_false_iff_ne]; omega
    have eq95 : (m == (95 : Int)) = false := by rw [beq_eq_false_iff_ne]; omega
    have eq45 : (m == (45 : Int)) = false := by rw [beq_eq_false_iff_ne]; omega
    have hw : (fun c : UInt8 => nameC c.toNat) y = false := by dsimp only; rw [← hm]; unfold nameC; simp only [ge97, le122, ge65, le90, ge48, le57, eq46, eq95, eq45]; rfl
    rw [all_not (f := fun c : UInt8 => nameC c.toNat) hy hw]
    refine gom ?_
    refine WC.ret ?_
    refine WK.un ?_
    exact QF.p1 (.inl rfl) rfl (.tmp rfl) (⟨rfl, rfl, rfl⟩)
end Go.Proofs.YtkmigdmdppkpoaaGreatDoor.Gb
namespace Go.Proofs.YtkmigdmdppkpoaaGreatDoor.Gb
open Go Go.Proofs Go.MapKept
set_option linter.unusedVariables false
set_option linter.unusedSimpArgs false
set_option linter.unusedSectionVars false
abbrev slash : ByteArray := ⟨#[47]⟩
theorem index_at : ∀ (l : List UInt8) (j : Nat), (∀ k c, k < j → l[k]? = some c → c ≠ 47) → l[j]? = some 47 → Lib.index l [47] = (j : Int)
  | [], j, _, h => by simp at h
  | b :: l, 0, _, h => by
    have : b = 47 := by simpa using h
    subst this
    rw [Lib.index]; simp [List.isPrefixOf]
  | b :: l, j + 1, h1, h2 => by
    have hb : b ≠ 47 := h1 0 b (by omega) rfl
    have hp : ([47] : List UInt8).isPrefixOf (b :: l) = false := by simp [List.isPrefixOf, Ne.symm hb]
    have ih := index_at l j (fun k c hk hc => h1 (k + 1) c (by omega) (by simpa using hc)) (by simpa using h2)
    rw [Lib.index, hp, ih]
    simp
theorem index_no : ∀ (l : List UInt8), (∀ c ∈ l, c ≠ 47) → Lib.index l [47] = -1
  | [], _ => by simp [Lib.index]
  | b :: l, h => by
    have hb : b ≠ 47 := h b (List.mem_cons_self ..)
    have hp : ([47] : List UInt8).isPrefixOf (b :: l) = false := by simp [List.isPrefixOf, Ne.symm hb]
    have ih := index_no l fun c hc => h c (List.mem_cons_of_mem _ hc)
    rw [Lib.index, hp, ih]; rfl
theorem rest_list (s : ByteArray) (f : Nat) : (s.extract f s.size).data.toList = (bytesL s).drop f := by
  have : (s.extract f s.size).data = s.data.extract f s.size := by simp
  rw [this]
  unfold bytesL
  rw [Array.toList_extract, List.extract_eq_drop_take', List.drop_take]
  rw [List.take_of_length_le]
  simp
theorem ext_front (s : ByteArray) (f i : Nat) (hf : f ≤ i) (hi : i ≤ s.size) : (s.extract f s.size).extract 0 (i - f + 0) = s.extract f i := by
  apply ByteArray.ext
  simp only [ByteArray.data_extract]
  rw [Array.extract_extract]
  congr 1
  simp
  omega
theorem ext_back (s : ByteArray) (f i : Nat) (hf : f ≤ i) (hi : i < s.size) : (s.extract f s.size).extract (i - f + 1) (s.extract f s.size).size = s.extract (i + 1) s.size := by
  apply ByteArray.ext
  simp only [ByteArray.data_extract, ByteArray.size_extract]
  rw [Array.extract_extract]
  congr 1
  · omega
  · simp; omega
/-- what is still to be cut -/
def restL (s : ByteArray) (f : Nat) : List ByteArray := Lib.splitB slash 0 (Lib.countB (s.extract f s.size) slash) (s.extract f s.size)
theorem restL_all (s : ByteArray) : restL s 0 = slashL s := by
  have : s.extract 0 s.size = s := by apply ByteArray.ext; simp
  unfold restL slashL
  rw [this]
theorem restL_hit {s : ByteArray} {f i : Nat} (hf : f ≤ i) (h1 : ∀ k c, f ≤ k → k < i → (bytesL s)[k]? = some c → c ≠ 47) (h2 : (bytesL s)[i]? = some 47) : restL s f = s.extract f i :: restL s (i + 1) := by
  have hi : i < s.size := by rw [← bytesL_length]; exact (List.getElem?_eq_some_iff.1 h2).1
  have hx : Lib.indexB (s.extract f s.size) slash = ((i - f : Nat) : Int) := by
    show Lib.index (s.extract f s.size).data.toList [47] = _
    rw [rest_list]
    refine index_at _ _ (fun k c hk hc => ?_) ?_
    · rw [List.getElem?_drop] at hc; exact h1 (f + k) c (by omega) (by omega) hc
    · rw [List.getElem?_drop, show f + (i - f) = i by omega]; exact h2
  have hc := Lib.countB_hit (s.extract f s.size) slash (i - f) (by decide) hx
  unfold restL
  rw [hc, Nat.add_comm 1, Lib.splitB_hit slash 0 _ _ (i - f) hx, ext_front s f i hf (by omega)]
  have hs : slash.size = 1 := rfl
  rw [hs, ext_back s f i hf hi]
theorem restL_end {s : ByteArray} {f : Nat} (h1 : ∀ k c, f ≤ k → (bytesL s)[k]? = some c → c ≠ 47) : restL s f = [s.extract f s.size] := by
  have hx : Lib.indexB (s.extract f s.size) slash = -1 := by
    show Lib.index (s.extract f s.size).data.toList [47] = _
    rw [rest_list]
    refine index_no _ fun c hc => ?_
    obtain ⟨k, hk⟩ := List.getElem?_of_mem hc
    rw [List.getElem?_drop] at hk
    exact h1 (f + k) c (by omega) hk
  unfold restL
  rw [Lib.countB_miss _ _ hx, Lib.splitB_zero]
end Go.Proofs.YtkmigdmdppkpoaaGreatDoor.Gb
namespace Go.Proofs.YtkmigdmdppkpoaaGreatDoor.Gb
open Go Go.Proofs Go.MapKept
set_option linter.unusedVariables false
set_option linter.unusedSimpArgs false
set_option linter.unusedSectionVars false
section
variable {P : Program} {L : List (Nat × Value)} {d : Option Tmp} {ty : TypeId} {pos : String} {af : Array Edge} {gu : Option (Nat × Bool)}
theorem Gp.sliceS2 {t : TypeId} {x y z : Operand} {s : ByteArray} {k k' : IntKind} {i j : Int} (hx : ev L x = some (.string s)) (hy : ev L y = some (.int k i)) (hz : ev L z = some (.int k' j)) [hu : Und P t .string] (h0 : 0 ≤ i) (h1 : i ≤ j) (h2 : j ≤ s.size) : Gp P L ⟨d, .slice t x (some y) (some z) none, ty, pos, af, gu⟩ (.string (s.extract i.toNat j.toNat)) :=
  fun a st w => by
    have h := run_slice_string_if (P := P) w t s k k' i j hu.h
    rw [if_pos ⟨by omega, h2⟩, if_pos ⟨h0, h1⟩] at h
    simp [execOp, st.eval hx, st.eval hy, st.eval hz, run_sliceAt_string w t _ _ _ _ hu.h, h]
end
/-- texts that are ours -/
abbrev StVec (A : Option Addr) (l : List ByteArray) (cap : Nat) (x : Own) : Prop := Vec 9 1 A l.length cap (l.map Value.string) x
theorem StVec.nil : StVec none [] 0 (.spare 0 0 0) := ⟨rfl, .inl ⟨rfl, rfl, rfl, rfl⟩⟩
theorem StVec.snoc {A : Option Addr} {l : List ByteArray} {cap : Nat} {x : Own} {z : ByteArray} (h : Vec 9 1 A (l.length + 1) cap (l.map Value.string ++ [.string z]) x) : StVec A (l ++ [z]) cap x := by
  unfold StVec; rw [List.map_append, List.length_append]; exact h
theorem StVec.sl {G : Gh} {A : Option Addr} {l : List ByteArray} (hz : l.map Value.string = [] ∨ ∃ b, A = some ⟨b, 0, none⟩ ∧ Cs G b 0 (l.map Value.string)) : Sl Kd.str G A l := by
  rcases hz with hz | ⟨b, rfl, hc⟩
  · have : l = [] := by simpa using hz
    subst this; exact Sl.nil _ _ _
  · exact Cs.strs hc
theorem restL_len (s : ByteArray) : ∀ (n f : Nat), s.size - f ≤ n → (restL s f).length ≤ n + 1
  | 0, f, h => by
    rw [restL_end fun k c hk hc => by have := (List.getElem?_eq_some_iff.1 hc).1; rw [bytesL_length] at this; omega]
    simp
  | n + 1, f, h => by
    by_cases hx : ∃ k, f ≤ k ∧ (bytesL s)[k]? = some 47
    · have hmin : ∃ k, f ≤ k ∧ (bytesL s)[k]? = some 47 ∧ ∀ j, f ≤ j → j < k → (bytesL s)[j]? ≠ some 47 := by
        obtain ⟨k, h1, h2⟩ := hx
        induction k using Nat.strongRecOn with
        | _ k ih =>
          by_cases hj : ∃ j, f ≤ j ∧ j < k ∧ (bytesL s)[j]? = some 47
          · obtain ⟨j, h3, h4, h5⟩ := hj
            exact ih j h4 h3 h5
          · exact ⟨k, h1, h2, fun j h3 h4 h5 => hj ⟨j, h3, h4, h5⟩⟩
      obtain ⟨k, h1, h2, h3⟩ := hmin
      rw [restL_hit h1 (fun j c hj hk hc e => h3 j hj hk (by rw [hc, e])) h2]
      have hk := (List.getElem?_eq_some_iff.1 h2).1
      rw [bytesL_length] at hk
      have := restL_len s n (k + 1) (by omega)
      simp; omega
    · rw [restL_end fun k c hk hc e => hx ⟨k, hk, by rw [hc, e]⟩]
      simp
def lvalR (v : V) : Bool :=
  if v.t = 1 then !v.b && (v.s == ⟨#[]⟩) else if v.t = 2 then v.i == 0 && (v.s == ⟨#[]⟩) else if v.t = 3 then v.i == 0 && !v.b && decide ((v.s.size : Int) ≤ 4096) else false
theorem lvalR_eq (v : V) : lvalR v = valueR v := by
  obtain ⟨t, i, b, s⟩ := v
  unfold lvalR valueR
  dsimp only
  by_cases h1 : t = 1
  · subst h1
    rw [if_pos rfl, if_pos rfl, bytes_beq]
    by_cases hs : s = ⟨#[]⟩
    · subst hs; cases b <;> simp <;> decide
    · rw [decide_eq_false hs]; cases b <;> simp [hs]
  rw [if_neg h1, if_neg h1]
  by_cases h2 : t = 2
  · subst h2
    rw [if_pos rfl, if_pos rfl, bytes_beq]
    by_cases hs : s = ⟨#[]⟩
    · subst hs
      by_cases hi : i = 0 <;> simp [hi] <;> decide
    · rw [decide_eq_false hs]; simp [hs]
  rw [if_neg h2, if_neg h2]
  by_cases h3 : t = 3
  · subst h3
    rw [if_pos rfl, if_pos rfl]
    by_cases hi : i = 0
    · subst hi; cases b <;> simp
    · cases b <;> simp [hi]
  · rw [if_neg h3, if_neg h3]; rfl
attribute [local irreducible] Tryz.prog
attribute [local irreducible] restL slashL nameR
set_option maxHeartbeats 2000000 in
theorem rPieces_fn (G : Gh) (s : ByteArray) (hl : s.size ≤ 1000000000000) : Fn Tryz.prog 169 #[.string s] G [] fun e G' H' => ∃ A cap x, e = .returned (.slice A (slashL s).length cap) ∧ G = G' ∧ StVec A (slashL s) cap x ∧ H' = [x] := by
  have hbl := bytesL_length s
  have hrl := restL_len s s.size 0 (by omega)
  refine Fn.enter Tryz.func169 rfl rfl fun w0 => ?_
  refine gom ?_
  refine WC.nothing ?_
  refine WC.loop (X := Nat × Nat × List ByteArray × Option Addr × Nat × Own) (fun t => [(0, .string s), (3, .slice t.2.2.2.1 t.2.2.1.length t.2.2.2.2.1), (4, .int .i64 (t.2.1 : Int)), (5, .int .i64 (t.1 : Int))]) (fun _ => G) (fun t => [t.2.2.2.2.2]) (fun t => s.size + 1 - t.1)
    (fun t => t.1 ≤ s.size + 1 ∧ t.2.1 ≤ t.1 ∧ StVec t.2.2.2.1 t.2.2.1 t.2.2.2.2.1 t.2.2.2.2.2 ∧ (∀ k c, t.2.1 ≤ k → k < t.1 → (bytesL s)[k]? = some c → c ≠ 47) ∧ (t.1 ≤ s.size → slashL s = t.2.2.1 ++ restL s t.2.1) ∧ (s.size < t.1 → slashL s = t.2.2.1)) (0, 0, [], none, 0, .spare 0 0 0)
    ⟨Nat.zero_le _, Nat.le_refl _, StVec.nil, (fun k c _ h => absurd h (Nat.not_lt_zero _)), fun _ => (restL_all s).symm, fun h => absurd h (Nat.not_lt_zero _)⟩ (by exact ⟨rfl, rfl, rfl, rfl, trivial⟩) rfl (List.Sublist.refl _) fun t ht => ?_
  obtain ⟨i, f, l, B, c, o⟩ := t
  obtain ⟨hi, hf, hv, hno, hS1, hS2⟩ := ht
  dsimp only at hi hf hv hno hS1 hS2
  have x2 := wrapS i (by omega)
  by_cases hlt : i ≤ s.size
  rotate_left
  · have e2 : decide ((i : Int) ≤ (s.size : Int)) = false := decide_eq_false (by omega)
    rw [hS2 (by omega)]
    refine gom ?_
    refine WC.ret ?_
    refine WK.un ?_
    exact QF.p1 (.inl rfl) rfl (.tmp rfl) (⟨B, c, o, rfl, rfl, hv, rfl⟩)
  have e2 : decide ((i : Int) ≤ (s.size : Int)) = true := decide_eq_true (by omega)
  have hS := hS1 hlt
  have hlen : l.length + (restL s f).length ≤ s.size + 1 := by rw [← List.length_append, ← hS, ← restL_all]; exact hrl
  by_cases hend : i = s.size
  · have e3 : ((i : Int) == (s.size : Int)) = true := by rw [beq_iff_eq]; omega
    have hre := restL_end (s := s) (f := f) (fun k c hk hc => by
      have hkl := (List.getElem?_eq_some_iff.1 hc).1
      exact hno k c hk (by omega) hc)
    rw [hre] at hS hlen
    rw [List.length_singleton] at hlen
    refine gom ?_
    have p0 : (0 : Int) ≤ (f : Int) := by omega
    have p1 : (f : Int) ≤ (i : Int) := by omega
    have p2 : (i : Int) ≤ (s.size : Int) := by omega
    refine WL.p (Gp.sliceS2 rfl rfl rfl (by exact p0) (by exact p1) (by exact p2)) (by kernel_rfl) rfl ?_
    rw [Int.toNat_natCast, Int.toNat_natCast]
    refine WL.op (by kernel_rfl) (OW.buildSlice rfl (by kernel_rfl) (by kernel_rfl) (by rfl) rfl fun b27 => ?_)
    refine WL.op (by kernel_rfl) (OW.append rfl rfl (by kernel_rfl) (by kernel_rfl) hv (by (repeat first | exact .here | apply At.there)) (Rds.blk0 (cs := [.string (s.extract f i)]) .here rfl) rfl rfl (by first | omega | (dsimp only; omega)) (by first | omega | (dsimp only; omega)) rfl fun A3 c3 o3 hv3 => ?_)
    have h3 := StVec.snoc hv3
    have hl3 : l.length + 1 = (l ++ [s.extract f i]).length := by rw [List.length_append]; rfl
    refine gom ?_
    refine WK.pick [o3] ?_
    exact WK.again (i + 1, i + 1, l ++ [s.extract f i], A3, c3, o3) (by dsimp only; omega) ⟨by dsimp only; omega, Nat.le_refl _, h3, (fun k c h1 h2 => by dsimp only at h1 h2; omega), fun h => by dsimp only at h; omega, fun _ => by dsimp only; rw [hS, hend]⟩ (by exact ⟨rfl, by show _ = some (Value.slice A3 _ c3); rw [← hl3]; rfl, rfl, rfl, trivial⟩) rfl (List.Sublist.refl _)
  have e3 : ((i : Int) == (s.size : Int)) = false := by rw [beq_eq_false_iff_ne]; omega
  obtain ⟨y, hy⟩ : ∃ y, (bytesL s)[i]? = some y := ⟨_, List.getElem?_eq_getElem (by omega)⟩
  refine gom ?_
  refine WL.p (Gp.indexS rfl rfl (by omega) hy) (by kernel_rfl) rfl ?_
  by_cases h47 : y = 47
  · subst h47
    have hrh := restL_hit (s := s) hf hno hy
    rw [hrh] at hS hlen
    rw [List.length_cons] at hlen
    refine gom ?_
    have p0 : (0 : Int) ≤ (f : Int) := by omega
    have p1 : (f : Int) ≤ (i : Int) := by omega
    have p2 : (i : Int) ≤ (s.size : Int) := by omega
    refine WL.p (Gp.sliceS2 rfl rfl rfl (by exact p0) (by exact p1) (by exact p2)) (by kernel_rfl) rfl ?_
    rw [Int.toNat_natCast, Int.toNat_natCast]
    refine WL.op (by kernel_rfl) (OW.buildSlice rfl (by kernel_rfl) (by kernel_rfl) (by rfl) rfl fun b27 => ?_)
    refine WL.op (by kernel_rfl) (OW.append rfl rfl (by kernel_rfl) (by kernel_rfl) hv (by (repeat first | exact .here | apply At.there)) (Rds.blk0 (cs := [.string (s.extract f i)]) .here rfl) rfl rfl (by first | omega | (dsimp only; omega)) (by first | omega | (dsimp only; omega)) rfl fun A3 c3 o3 hv3 => ?_)
    have h3 := StVec.snoc hv3
    have hl3 : l.length + 1 = (l ++ [s.extract f i]).length := by rw [List.length_append]; rfl
    refine gom ?_
    refine WK.pick [o3] ?_
    exact WK.again (i + 1, i + 1, l ++ [s.extract f i], A3, c3, o3) (by dsimp only; omega) ⟨by dsimp only; omega, Nat.le_refl _, h3, (fun k c h1 h2 => by dsimp only at h1 h2; omega), fun _ => by dsimp only; rw [hS]; simp, fun h => by dsimp only at h; omega⟩ (by exact ⟨rfl, by show _ = some (Value.slice A3 _ c3); rw [← hl3]; rfl, rfl, rfl, trivial⟩) rfl (List.Sublist.refl _)
  · have e4 : (((y.toNat : Nat) : Int) == 47) = false := by
      rw [beq_eq_false_iff_ne]
      intro h
      apply h47
      exact UInt8.toNat_inj.1 (by show y.toNat = 47; omega)
    refine gom ?_
    exact WK.again (i + 1, f, l, B, c, o) (by dsimp only; omega) ⟨by dsimp only; omega, by dsimp only; omega, hv, (fun k c h1 h2 hc => by
      dsimp only at h1 h2
      rcases Nat.lt_or_ge k i with h | h
      · exact hno k c h1 h hc
      · obtain rfl : k = i := by omega
        rw [hy] at hc; cases hc; exact h47), fun _ => hS, fun h => by dsimp only at h; omega⟩ (by exact ⟨rfl, rfl, rfl, rfl, trivial⟩) rfl (List.Sublist.refl _)
theorem slash_size (s : ByteArray) : ∀ x ∈ slashL s, x.size ≤ s.size := fun x hx => by
  unfold slashL at hx
  exact splitB_size _ _ _ x hx
theorem rPath_fn (G : Gh) (s : ByteArray) (hl : s.size ≤ 1000000000000) : Fn Tryz.prog 122 #[.string s] G [] fun e G' H' => e = .returned (.bool (pathR s)) ∧ G.le G' ∧ H' = [] := by
  refine Fn.enter Tryz.func122 rfl rfl fun w0 => ?_
  have hN : Fn Tryz.prog 144 #[.string s] G [] fun e G' H' => ∃ A n cap, e = .returned (.tuple #[.slice A n cap, .bool (pathR s)]) ∧ G.le G' ∧ H' = [] := by
    refine Fn.enter Tryz.func144 rfl rfl fun w0 => ?_
    cases h1 : (s == ⟨#[]⟩) with
    | true =>
      have hp : pathR s = true := by unfold pathR; rw [h1]; rfl
      rw [hp]
      refine gom ?_
      rw [h1]
      refine gom ?_
      refine WC.ret ?_
      refine WK.un ?_
      exact QF.p2 (.inl rfl) rfl (.tmp rfl) (.tmp rfl) (⟨none, 0, 0, rfl, Gh.le_refl _, rfl⟩)
    | false =>
    have hp : pathR s = (decide ((slashL s).length ≤ 32) && (slashL s).all nameR) := by unfold pathR; rw [h1]; rfl
    refine gom ?_
    rw [h1]
    refine gom ?_
    refine WL.op (by kernel_rfl) (OW.callK rfl (rPieces_fn G s hl) rfl fun v' G' H' h hg => ?_)
    obtain ⟨A, cap, x, he, rfl, hv, rfl⟩ := h
    cases he
    refine WL.frozenVec hv (by (repeat first | exact .here | apply At.there)) fun G1 hg1 hz1 => ?_
    have hs1 := StVec.sl hz1
    have hrl : (slashL s).length ≤ s.size + 1 := by rw [← restL_all]; exact restL_len s s.size 0 (by omega)
    have hsz := slash_size s
    refine gom ?_
    refine WC.loop (X := Nat) (fun i => [(4, .slice A (slashL s).length cap), (5, .int .i64 (i : Int))]) (fun _ => G1) (fun _ => []) (fun i => (slashL s).length - i) (fun i => i ≤ (slashL s).length ∧ ∀ j y, j < i → (slashL s)[j]? = some y → nameR y = true) 0 ⟨Nat.zero_le _, (fun j y h => absurd h (Nat.not_lt_zero _))⟩ (by exact ⟨rfl, rfl, trivial⟩) rfl (List.nil_sublist _) fun i hx => ?_
    obtain ⟨hi, hall⟩ := hx
    have x2 := wrapS i (by omega)
    by_cases hlt : i < (slashL s).length
    rotate_left
    · have e2 : decide ((i : Int) < ((slashL s).length : Int)) = false := decide_eq_false (by omega)
      have ha := all_of hall (by omega)
      by_cases h32 : (slashL s).length ≤ 32
      · have e3 : decide ((32 : Int) < ((slashL s).length : Int)) = false := decide_eq_false (by omega)
        rw [hp, ha, decide_eq_true h32]
        refine gom ?_
        refine WC.ret ?_
        refine WK.un ?_
        exact QF.p2 (.inl rfl) rfl (.tmp rfl) (.tmp rfl) (⟨A, _, cap, rfl, hg1, rfl⟩)
      · have e3 : decide ((32 : Int) < ((slashL s).length : Int)) = true := decide_eq_true (by omega)
        rw [hp, ha, decide_eq_false h32]
        refine gom ?_
        refine WC.ret ?_
        refine WK.un ?_
        exact QF.p2 (.inl rfl) rfl (.tmp rfl) (.tmp rfl) (⟨none, 0, 0, rfl, hg1, rfl⟩)
    have e2 : decide ((i : Int) < ((slashL s).length : Int)) = true := decide_eq_true (by omega)
    obtain ⟨y, hy⟩ : ∃ y, (slashL s)[i]? = some y := ⟨_, List.getElem?_eq_getElem hlt⟩
    obtain ⟨ab, ao, cs, rfl, hk, hcs⟩ := hs1 i y hy
    obtain rfl : cs = [.string y] := hk
    have x0 : (0 : Int) ≤ i := by omega
    have x1 : (i : Int) < ((slashL s).length : Int) := by omega
    have hys := hsz y (List.mem_of_getElem? hy)
    refine gom ?_
    refine WL.op (by kernel_rfl) (OW.callK rfl (rName4_fn G1 y (by omega)) rfl fun v' G' H' h hg => ?_)
    obtain ⟨he, rfl, rfl⟩ := h
    cases he
    cases hn : nameR y with
    | true =>
      refine gom ?_
      exact WK.again (i + 1) (by omega) ⟨by omega, all_step hy hall hn⟩ (by exact ⟨rfl, rfl, trivial⟩) rfl (List.nil_sublist _)
    | false =>
      rw [hp, all_not hy hn, Bool.and_false]
      refine gom ?_
      refine WC.ret ?_
      refine WK.un ?_
      exact QF.p2 (.inl rfl) rfl (.tmp rfl) (.tmp rfl) (⟨none, 0, 0, rfl, hg1, rfl⟩)
  refine gom ?_
  refine WL.op (by kernel_rfl) (OW.callK rfl (hN) rfl fun v' G' H' h hg => ?_)
  obtain ⟨A, n, cap, he, hg1, rfl⟩ := h
  cases he
  refine gom ?_
  refine WC.ret ?_
  refine WK.un ?_
  exact QF.p1 (.inl rfl) rfl (.tmp rfl) (⟨rfl, hg1, rfl⟩)
theorem rplace_fn (G : Gh) (s : ByteArray) (hl : s.size ≤ 1000000000000) : Fn Tryz.prog 96 #[.string s] G [] fun e G' H' => e = .returned (.bool (fileR s)) ∧ G.le G' ∧ H' = [] := by
  refine Fn.enter Tryz.func96 rfl rfl fun w0 => ?_
  cases h1 : (s == ⟨#[]⟩) with
  | true =>
    have hv : fileR s = false := by unfold fileR; rw [h1]; rfl
    rw [hv]
    refine gom ?_
    rw [h1]
    refine gom ?_
    refine WC.ret ?_
    refine WK.un ?_
    exact QF.p1 (.inl rfl) rfl (.tmp rfl) (⟨rfl, Gh.le_refl _, rfl⟩)
  | false =>
  have hv : fileR s = pathR s := by unfold fileR; rw [h1]; rfl
  rw [hv]
  refine gom ?_
  rw [h1]
  refine gom ?_
  refine WL.op (by kernel_rfl) (OW.callK rfl (rPath_fn G s hl) rfl fun v' G' H' h hg => ?_)
  obtain ⟨he, hg1, rfl⟩ := h
  cases he
  refine gom ?_
  refine WC.ret ?_
  refine WK.un ?_
  exact QF.p1 (.inl rfl) rfl (.tmp rfl) (⟨rfl, hg1, rfl⟩)
/-! #### heads, values, rows -/
theorem rhead_fn (G : Gh) (A : Option Addr) (l : List Int) (cap : Nat) (r : Int) (hA : Sl (Kd.int .i64) G A l) (hl : l.length ≤ 100000000000000) :
    Fn Tryz.prog 99 #[.slice A l.length cap, .int .i64 r] G [] fun e G' H' => e = .returned (.bool (headR l r)) ∧ G = G' ∧ H' = [] := by
  refine Fn.enter Tryz.func99 rfl rfl fun w0 => ?_
  refine gom ?_
  refine WC.loop (X := Nat) (fun i => [(0, .slice A l.length cap), (1, .int .i64 r), (5, .int .i64 i)]) (fun _ => G) (fun _ => []) (fun i => l.length - i) (fun i => i ≤ l.length ∧ ∀ j y, j < i → l[j]? = some y → typedR y = true) 0 ⟨Nat.zero_le _, fun j y h => by omega⟩ (by exact ⟨rfl, rfl, rfl, trivial⟩) rfl (List.Sublist.refl _) fun i hx => ?_
  obtain ⟨hi, hall⟩ := hx
  by_cases hlt : i < l.length
  rotate_left
  · have e2 : decide ((i : Int) < (l.length : Int)) = false := decide_eq_false (by omega)
    have ha := all_of hall (by omega)
    cases h5 : decide ((l.length : Int) ≤ 64) with
    | false =>
      refine gom ?_
      refine WC.ret ?_
      refine WK.un ?_
      exact QF.p1 (.inl rfl) rfl (.tmp rfl) (⟨by rw [headR, ha, h5]; rfl, rfl, rfl⟩)
    | true =>
    have hr : (r == 0 || typedR r) = (decide (0 ≤ r) && decide (r ≤ 3)) := by
      unfold typedR
      rw [Bool.eq_iff_iff]
      simp
      omega
    cases h6 : decide ((0 : Int) ≤ r) with
    | false =>
      refine gom ?_
      refine WC.ret ?_
      refine WK.un ?_
      exact QF.p1 (.inl rfl) rfl (.tmp rfl) (⟨by rw [headR, ha, h5, hr, h6]; rfl, rfl, rfl⟩)
    | true =>
      refine gom ?_
      refine WC.ret ?_
      refine WK.un ?_
      exact QF.p1 (.inl rfl) rfl (.tmp rfl) (⟨by rw [headR, ha, h5, hr, h6]; rfl, rfl, rfl⟩)
  have e2 : decide ((i : Int) < (l.length : Int)) = true := decide_eq_true (by omega)
  obtain ⟨v, hv⟩ : ∃ v, l[i]? = some v := ⟨_, List.getElem?_eq_getElem hlt⟩
  obtain ⟨b, o, rfl, hcs⟩ := hA.at hv
  have x0 : (0 : Int) ≤ (i : Int) := by omega
  have x1 : (i : Int) < (l.length : Int) := by omega
  have x2 := wrapS i (by omega)
  by_cases hv1 : v < 1
  · have e3 : decide (v < 1) = true := decide_eq_true hv1
    have hf : typedR v = false := by unfold typedR; rw [decide_eq_false (by omega)]; rfl
    refine gom ?_
    refine WC.ret ?_
    refine WK.un ?_
    exact QF.p1 (.inl rfl) rfl (.tmp rfl) (⟨by rw [headR, all_not hv hf]; rfl, rfl, rfl⟩)
  have e3 : decide (v < 1) = false := decide_eq_false hv1
  by_cases hv3 : 3 < v
  · have e4 : decide ((3 : Int) < v) = true := decide_eq_true hv3
    have hf : typedR v = false := by unfold typedR; rw [decide_eq_false (show ¬ v ≤ 3 by omega), Bool.and_false]
    refine gom ?_
    refine WC.ret ?_
    refine WK.un ?_
    exact QF.p1 (.inl rfl) rfl (.tmp rfl) (⟨by rw [headR, all_not hv hf]; rfl, rfl, rfl⟩)
  have e4 : decide ((3 : Int) < v) = false := decide_eq_false hv3
  have hf : typedR v = true := by unfold typedR; rw [decide_eq_true (by omega), decide_eq_true (by omega)]; rfl
  refine gom ?_
  exact WK.again (i + 1) (by omega) ⟨by omega, all_step hv hall hf⟩ (by exact ⟨rfl, rfl, rfl, trivial⟩) rfl (List.nil_sublist _)
set_option maxHeartbeats 1000000 in
theorem rvalue_fn (G : Gh) (v : V) : Fn Tryz.prog 97 #[.agg #[.int .i64 v.t, .int .i64 v.i, .bool v.b, .string v.s]] G [] fun e G' H' => e = .returned (.bool (valueR v)) ∧ G = G' ∧ H' = [] := by
  rw [← lvalR_eq]
  refine Fn.enter Tryz.func97 rfl rfl fun w0 => ?_
  obtain ⟨t, i, b, s⟩ := v
  refine WC.seq ?_
  refine WC.region ?_
  refine WL.op (by kernel_rfl) (OW.box rfl rfl fun b1 => ?_)
  unfold lvalR
  dsimp only
  by_cases h1 : t = 1
  · subst h1
    rw [if_pos rfl]
    cases b with
    | true =>
      refine gom ?_
      refine WC.ret ?_
      refine WK.un ?_
      exact QF.p1 (.inl rfl) rfl (.tmp rfl) (⟨rfl, rfl, rfl⟩)
    | false =>
      refine gom ?_
      refine WC.ret ?_
      refine WK.un ?_
      exact QF.p1 (.inl rfl) rfl (.tmp rfl) (⟨by simp, rfl, rfl⟩)
  have e1 : (t == 1) = false := by simpa using h1
  rw [if_neg h1]
  by_cases h2 : t = 2
  · subst h2
    rw [if_pos rfl]
    cases hi : (i == 0) with
    | true =>
      refine gom ?_
      refine WC.ret ?_
      refine WK.un ?_
      exact QF.p1 (.inl rfl) rfl (.tmp rfl) (⟨by simp, rfl, rfl⟩)
    | false =>
      refine gom ?_
      refine WC.ret ?_
      refine WK.un ?_
      exact QF.p1 (.inl rfl) rfl (.tmp rfl) (⟨by simp, rfl, rfl⟩)
  have e2 : (t == 2) = false := by simpa using h2
  rw [if_neg h2]
  by_cases h3 : t = 3
  · subst h3
    rw [if_pos rfl]
    cases hi : (i == 0) with
    | false =>
      refine gom ?_
      refine WC.ret ?_
      refine WK.un ?_
      exact QF.p1 (.inl rfl) rfl (.tmp rfl) (⟨by simp, rfl, rfl⟩)
    | true =>
    cases b with
    | true =>
      refine gom ?_
      refine WC.ret ?_
      refine WK.un ?_
      exact QF.p1 (.inl rfl) rfl (.tmp rfl) (⟨by simp, rfl, rfl⟩)
    | false =>
      refine gom ?_
      refine WC.ret ?_
      refine WK.un ?_
      exact QF.p1 (.inl rfl) rfl (.tmp rfl) (⟨by simp, rfl, rfl⟩)
  have e3 : (t == 3) = false := by simpa using h3
  rw [if_neg h3]
  refine gom ?_
  refine WC.ret ?_
  refine WK.un ?_
  exact QF.p1 (.inl rfl) rfl (.tmp rfl) (⟨rfl, rfl, rfl⟩)
theorem rsame_fn (G : Gh) (A B : Option Addr) (l m : List Int) (ca cb : Nat) (ha : Sl (Kd.int .i64) G A l) (hb : Sl (Kd.int .i64) G B m) (hl : l.length ≤ 100000000000000) :
    Fn Tryz.prog 129 #[.slice A l.length ca, .slice B m.length cb] G [] fun e G' H' => e = .returned (.bool (decide (l = m))) ∧ G = G' ∧ H' = [] := by
  refine Fn.enter Tryz.func129 rfl rfl fun w0 => ?_
  by_cases hne : l.length = m.length
  rotate_left
  · have e1 : ((l.length : Int) != (m.length : Int)) = true := by rw [bne_iff_ne]; omega
    refine gom ?_
    refine WC.ret ?_
    refine WK.un ?_
    exact QF.p1 (.inl rfl) rfl (.tmp rfl) (⟨by rw [decide_eq_false fun e => hne (by rw [e])], rfl, rfl⟩)
  have e1 : ((l.length : Int) != (m.length : Int)) = false := by rw [hne]; simp
  refine gom ?_
  refine WC.loop (X := Nat) (fun i => [(5, .int .i64 i), (0, .slice A l.length ca), (1, .slice B m.length cb)]) (fun _ => G) (fun _ => []) (fun i => l.length - i) (fun i => i ≤ l.length ∧ ∀ j, j < i → l[j]? = m[j]?) 0 ⟨Nat.zero_le _, fun j h => by omega⟩ (by exact ⟨rfl, rfl, rfl, trivial⟩) rfl (List.Sublist.refl _) fun i hx => ?_
  obtain ⟨hi, hall⟩ := hx
  by_cases hlt : i < l.length
  rotate_left
  · have e2 : decide ((i : Int) < (l.length : Int)) = false := decide_eq_false (by omega)
    have he : l = m := by
      refine List.ext_getElem? fun j => ?_
      rcases Nat.lt_or_ge j i with h | h
      · exact hall j h
      · rw [List.getElem?_eq_none (by omega), List.getElem?_eq_none (by omega)]
    refine gom ?_
    refine WC.ret ?_
    refine WK.un ?_
    exact QF.p1 (.inl rfl) rfl (.tmp rfl) (⟨by rw [decide_eq_true he], rfl, rfl⟩)
  have e2 : decide ((i : Int) < (l.length : Int)) = true := decide_eq_true (by omega)
  obtain ⟨x, hx⟩ : ∃ x, l[i]? = some x := ⟨_, List.getElem?_eq_getElem hlt⟩
  obtain ⟨y, hy⟩ : ∃ y, m[i]? = some y := ⟨_, List.getElem?_eq_getElem (by omega)⟩
  obtain ⟨ab, ao, cs1, rfl, hk1, hca⟩ := ha i x hx
  obtain ⟨bb, bo, cs2, rfl, hk2, hcb⟩ := hb i y hy
  obtain rfl : cs1 = [.int .i64 x] := hk1
  obtain rfl : cs2 = [.int .i64 y] := hk2
  have x0 : (0 : Int) ≤ i := by omega
  have x2 : (i : Int) < (l.length : Int) := by omega
  have x3 : (i : Int) < (m.length : Int) := by omega
  have x4 := wrapS i (by omega)
  by_cases hxy : x = y
  · have e3 : (x != y) = false := by simp [hxy]
    refine gom ?_
    exact WK.again (i + 1) (by omega) ⟨by omega, fun j hj => by
      rcases Nat.lt_or_ge j i with h | h
      · exact hall j h
      · obtain rfl : j = i := by omega
        rw [hx, hy, hxy]⟩ (by exact ⟨rfl, rfl, rfl, trivial⟩) rfl (List.Sublist.refl _)
  · have e3 : (x != y) = true := by rw [bne_iff_ne]; exact hxy
    refine gom ?_
    refine WC.ret ?_
    refine WK.un ?_
    exact QF.p1 (.inl rfl) rfl (.tmp rfl) (⟨by rw [decide_eq_false fun e => by rw [e, hy] at hx; exact hxy (Option.some.inj hx).symm], rfl, rfl⟩)
end Go.Proofs.YtkmigdmdppkpoaaGreatDoor.Gb
namespace Go.Proofs.YtkmigdmdppkpoaaGreatDoor.Gb
open Go Go.Proofs Go.MapKept
set_option linter.unusedVariables false
set_option linter.unusedSimpArgs false
set_option linter.unusedSectionVars false
attribute [local irreducible] Tryz.prog
/-- a state of the document's, as it is handed on -/
abbrev rsV (s : SS) (VA : Option Addr) (vc : Nat) (SA : Option Addr) (sc : Nat) : Value := .agg #[.bool s.reached, .slice VA s.vars.length vc, .bool s.unlike, .slice SA s.stack.length sc]
abbrev rsC (s : SS) (VA : Option Addr) (vc : Nat) (SA : Option Addr) (sc : Nat) : Array Value := #[.bool s.reached, .slice VA s.vars.length vc, .bool s.unlike, .slice SA s.stack.length sc]
theorem TVec.nil : TVec none [] 0 (.spare 0 0 0) := ⟨rfl, .inl ⟨rfl, rfl, rfl, rfl⟩⟩
theorem TVec.snoc {A : Option Addr} {l : List Int} {cap : Nat} {x : Own} {z : Int} (h : Vec 42 1 A (l.length + 1) cap (ints l ++ [.int .i64 z]) x) : TVec A (l ++ [z]) cap x := by
  unfold TVec IVec; rw [ints_append, List.length_append]; exact h
theorem take_snoc {l : List Int} {i : Nat} {z : Int} (h : l[i]? = some z) : l.take (i + 1) = l.take i ++ [z] := by
  rw [List.take_add_one, h]; rfl
set_option maxHeartbeats 2000000 in
theorem rjoinRow_fn (G : Gh) (A B : Option Addr) (ca cb : Nat) (l m : List Int) (ha : Sl (Kd.int .i64) G A l) (hb : Sl (Kd.int .i64) G B m) (hl : l.length ≤ 1000000000) (hlm : l.length = m.length) :
    Fn Tryz.prog 128 #[.slice A l.length ca, .slice B m.length cb] G [] fun e G' H' => ∃ A' cap', e = .returned (.slice A' (joinRow l m).length cap') ∧ G.le G' ∧ (joinRow l m).length ≤ cap' ∧ Sl (Kd.int .i64) G' A' (joinRow l m) ∧ H' = [] := by
  have hjl := joinRow_length hlm
  refine Fn.enter Tryz.func128 rfl rfl fun w0 => ?_
  refine gom ?_
  refine WC.nothing ?_
  refine WC.loop (X := Nat × List Int × Option Addr × Nat × Own) (fun t => [(0, .slice A l.length ca), (1, .slice B m.length cb), (5, .slice t.2.2.1 t.2.1.length t.2.2.2.1), (6, .int .i64 (t.1 : Int))]) (fun _ => G) (fun t => [t.2.2.2.2]) (fun t => l.length - t.1)
    (fun t => t.1 ≤ l.length ∧ t.2.1 = (joinRow l m).take t.1 ∧ TVec t.2.2.1 t.2.1 t.2.2.2.1 t.2.2.2.2) (0, [], none, 0, .spare 0 0 0)
    ⟨Nat.zero_le _, rfl, TVec.nil⟩ (by exact ⟨rfl, rfl, rfl, rfl, trivial⟩) rfl (List.Sublist.refl _) fun t ht => ?_
  obtain ⟨i, r, C, c, o⟩ := t
  obtain ⟨hi, hr, hv⟩ := ht
  dsimp only at hi hr hv
  have x4 := wrapS i (by omega)
  by_cases hlt : i < l.length
  rotate_left
  · have e2 : decide ((i : Int) < (l.length : Int)) = false := decide_eq_false (by omega)
    have hre : r = joinRow l m := by rw [hr, List.take_of_length_le (by omega)]
    subst hre
    refine gom ?_
    refine WC.frozenVec hv (by (repeat first | exact .here | apply At.there)) fun G2 h2 z2 => ?_
    have hs := IVec.sl z2
    have hcap := hv.le
    refine WC.ret ?_
    refine WK.un ?_
    exact QF.p1 (.inl rfl) rfl (.tmp rfl) (⟨C, c, rfl, h2, hcap, hs, rfl⟩)
  have e2 : decide ((i : Int) < (l.length : Int)) = true := decide_eq_true (by omega)
  obtain ⟨x, hx⟩ : ∃ x, l[i]? = some x := ⟨_, List.getElem?_eq_getElem hlt⟩
  obtain ⟨y, hy⟩ : ∃ y, m[i]? = some y := ⟨_, List.getElem?_eq_getElem (by omega)⟩
  obtain ⟨ab, ao, rfl, hca⟩ := ha.at hx
  obtain ⟨bb, bo, rfl, hcb⟩ := hb.at hy
  have x0 : (0 : Int) ≤ i := by omega
  have x2 : (i : Int) < (l.length : Int) := by omega
  have x3 : (i : Int) < (m.length : Int) := by omega
  have hjg := joinRow_get hx hy
  have hrl : r.length = i := by rw [hr, List.length_take]; omega
  by_cases hxy : x = y
  · have e3 : (x == y) = true := by simpa using hxy
    refine gom ?_
    refine WL.op (by kernel_rfl) (OW.buildSlice rfl (by kernel_rfl) (by kernel_rfl) (by rfl) rfl fun b27 => ?_)
    refine WL.op (by kernel_rfl) (OW.append rfl rfl (by kernel_rfl) (by kernel_rfl) hv (by (repeat first | exact .here | apply At.there)) (Rds.blk0 (cs := [.int .i64 x]) .here rfl) rfl rfl (by first | omega | (dsimp only; omega)) (by first | omega | (dsimp only; omega)) rfl fun A3 c3 o3 hv3 => ?_)
    have h3 := TVec.snoc hv3
    have hl3 : r.length + 1 = (r ++ [x]).length := by rw [List.length_append]; rfl
    refine gom ?_
    refine WK.pick [o3] ?_
    exact WK.again (i + 1, r ++ [x], A3, c3, o3) (by dsimp only; omega) ⟨by dsimp only; omega, by dsimp only; rw [take_snoc hjg, joinT, if_pos hxy, hr], h3⟩ (by exact ⟨rfl, rfl, by show _ = some (Value.slice A3 _ c3); rw [← hl3]; rfl, rfl, trivial⟩) rfl (List.Sublist.refl _)
  · have e3 : (x == y) = false := by simpa using hxy
    refine gom ?_
    refine WL.op (by kernel_rfl) (OW.buildSlice rfl (by kernel_rfl) (by kernel_rfl) (by rfl) rfl fun b30 => ?_)
    refine WL.op (by kernel_rfl) (OW.append rfl rfl (by kernel_rfl) (by kernel_rfl) hv (by (repeat first | exact .here | apply At.there)) (Rds.blk0 (cs := [.int .i64 0]) .here rfl) rfl rfl (by first | omega | (dsimp only; omega)) (by first | omega | (dsimp only; omega)) rfl fun A3 c3 o3 hv3 => ?_)
    have h3 := TVec.snoc hv3
    have hl3 : r.length + 1 = (r ++ [0]).length := by rw [List.length_append]; rfl
    refine gom ?_
    refine WK.pick [o3] ?_
    exact WK.again (i + 1, r ++ [0], A3, c3, o3) (by dsimp only; omega) ⟨by dsimp only; omega, by dsimp only; rw [take_snoc hjg, joinT, if_neg hxy, hr], h3⟩ (by exact ⟨rfl, rfl, by show _ = some (Value.slice A3 _ c3); rw [← hl3]; rfl, rfl, trivial⟩) rfl (List.Sublist.refl _)
theorem ralike_fn (G : Gh) (a b : SS) (VA VB : Option Addr) (va vb : Nat) (SA SB : Option Addr) (sa sb : Nat) (ha : SRep G a VA va SA sa) (hb : SRep G b VB vb SB sb) (hv : a.vars.length ≤ 1000000000) (hs : a.stack.length ≤ 1000000000) :
    Fn Tryz.prog 104 #[rsV a VA va SA sa, rsV b VB vb SB sb] G [] fun e G' H' => e = .returned (.bool (decide (a = b))) ∧ G = G' ∧ H' = [] := by
  refine Fn.enter Tryz.func104 rfl rfl fun w0 => ?_
  refine WC.seq ?_
  refine WC.region ?_
  refine WL.op (by kernel_rfl) (OW.box rfl rfl fun b1 => ?_)
  refine WL.op (by kernel_rfl) (OW.box rfl rfl fun b2 => ?_)
  obtain ⟨ar, au, avs, ast⟩ := a
  obtain ⟨br, bu, bvs, bst⟩ := b
  dsimp only at hv hs
  cases hr : (ar == br) with
  | false =>
    have e1 : decide ((⟨ar, au, avs, ast⟩ : SS) = ⟨br, bu, bvs, bst⟩) = false := decide_eq_false (by intro e; cases e; simp at hr)
    rw [e1]
    refine gom ?_
    rw [hr]
    refine gom ?_
    refine WC.ret ?_
    refine WK.un ?_
    exact QF.p1 (.inl rfl) rfl (.tmp rfl) (⟨rfl, rfl, rfl⟩)
  | true =>
  cases hu : (au == bu) with
  | false =>
    have e1 : decide ((⟨ar, au, avs, ast⟩ : SS) = ⟨br, bu, bvs, bst⟩) = false := decide_eq_false (by intro e; cases e; simp at hu)
    rw [e1]
    refine gom ?_
    rw [hr]
    refine gom ?_
    rw [hu]
    refine gom ?_
    refine WC.ret ?_
    refine WK.un ?_
    exact QF.p1 (.inl rfl) rfl (.tmp rfl) (⟨rfl, rfl, rfl⟩)
  | true =>
  refine gom ?_
  rw [hr]
  refine gom ?_
  rw [hu]
  refine gom ?_
  refine WL.op (by kernel_rfl) (OW.callK rfl (rsame_fn G VA VB avs bvs va vb ha.vars hb.vars (by omega)) rfl fun v' G' H' h hg => ?_)
  obtain ⟨he, rfl, rfl⟩ := h
  cases he
  by_cases hv2 : avs = bvs
  rotate_left
  · have e1 : decide ((⟨ar, au, avs, ast⟩ : SS) = ⟨br, bu, bvs, bst⟩) = false := decide_eq_false (by intro e; cases e; exact hv2 rfl)
    have e2 : decide (avs = bvs) = false := decide_eq_false hv2
    rw [e1, e2]
    refine gom ?_
    refine WC.ret ?_
    refine WK.un ?_
    exact QF.p1 (.inl rfl) rfl (.tmp rfl) (⟨rfl, rfl, rfl⟩)
  have e2 : decide (avs = bvs) = true := decide_eq_true hv2
  rw [e2]
  refine gom ?_
  refine WL.op (by kernel_rfl) (OW.callK rfl (rsame_fn G SA SB ast bst sa sb ha.stack hb.stack (by omega)) rfl fun v' G' H' h hg => ?_)
  obtain ⟨he, rfl, rfl⟩ := h
  cases he
  have e1 : decide ((⟨ar, au, avs, ast⟩ : SS) = ⟨br, bu, bvs, bst⟩) = decide (ast = bst) := by
    simp only [beq_iff_eq] at hr hu
    subst hr hu hv2
    by_cases h : ast = bst
    · subst h; simp
    · rw [decide_eq_false h, decide_eq_false (fun e => h (by cases e; rfl))]
  rw [e1]
  refine gom ?_
  refine WC.ret ?_
  refine WK.un ?_
  exact QF.p1 (.inl rfl) rfl (.tmp rfl) (⟨rfl, rfl, rfl⟩)
theorem rjoin_fn (G : Gh) (a b : SS) (VA VB : Option Addr) (va vb : Nat) (SA SB : Option Addr) (sa sb : Nat) (ha : SRep G a VA va SA sa) (hb : SRep G b VB vb SB sb) (hl : a.reached = true → b.reached = true → a.vars.length = b.vars.length) (hv : a.vars.length ≤ 1000000000) (hs : a.stack.length ≤ 1000000000) :
    Fn Tryz.prog 103 #[rsV a VA va SA sa, rsV b VB vb SB sb] G [] fun e G' H' => ∃ V' v' S' s', e = .returned (rsV (joinS a b) V' v' S' s') ∧ G.le G' ∧ SRep G' (joinS a b) V' v' S' s' ∧ H' = [] := by
  refine Fn.enter Tryz.func103 rfl rfl fun w0 => ?_
  refine WC.seq ?_
  refine WC.region ?_
  refine WL.op (by kernel_rfl) (OW.box rfl rfl fun b1 => ?_)
  refine WL.op (by kernel_rfl) (OW.box rfl rfl fun b2 => ?_)
  refine WL.op (by kernel_rfl) (OW.alloc rfl fun b3 => ?_)
  obtain ⟨ar, au, av, ak⟩ := a
  obtain ⟨br, bu, bv, bk⟩ := b
  dsimp only at hl hv hs
  cases ar with
  | false =>
    rw [show joinS ⟨false, au, av, ak⟩ ⟨br, bu, bv, bk⟩ = ⟨br, bu, bv, bk⟩ from rfl]
    refine gom ?_
    refine WC.ret ?_
    refine WK.un ?_
    exact QF.p1 (.inl rfl) rfl (.cell rfl inferInstance inferInstance (by (repeat first | exact .here | apply At.there)) rfl rfl) (⟨VB, vb, SB, sb, rfl, Gh.le_refl _, hb, rfl⟩)
  | true =>
  cases br with
  | false =>
    rw [show joinS ⟨true, au, av, ak⟩ ⟨false, bu, bv, bk⟩ = ⟨true, au, av, ak⟩ from rfl]
    refine gom ?_
    refine WC.ret ?_
    refine WK.un ?_
    exact QF.p1 (.inl rfl) rfl (.cell rfl inferInstance inferInstance (by (repeat first | exact .here | apply At.there)) rfl rfl) (⟨VA, va, SA, sa, rfl, Gh.le_refl _, ha, rfl⟩)
  | true =>
  have hlen := hl rfl rfl
  refine gom ?_
  refine WL.op (by kernel_rfl) (OW.callK rfl (rjoinRow_fn G VA VB va vb av bv ha.vars hb.vars hv hlen) rfl fun v' G' H' h hg => ?_)
  obtain ⟨A1, cap1, he, hg1, hc1, hs1, rfl⟩ := h
  cases he
  refine WL.pick [.blk b1 (.cells #[.bool true, .slice VA av.length va, .bool au, .slice SA ak.length sa] 95 (0, 0)), .blk b2 (.cells #[.bool true, .slice VB bv.length vb, .bool bu, .slice SB bk.length sb] 95 (0, 0)), .blk b3 (.cells #[.bool false, .slice none 0 0, .bool false, .slice none 0 0] 95 (0, 0))] ?_
  refine gom ?_
  refine WL.op (by kernel_rfl) (OW.alloc rfl fun b6 => ?_)
  by_cases hc : au = true ∨ bu = true ∨ ak.length ≠ bk.length
  · rw [show joinS ⟨true, au, av, ak⟩ ⟨true, bu, bv, bk⟩ = ⟨true, true, joinRow av bv, []⟩ by unfold joinS; rw [if_neg (by simp), if_neg (by simp), if_pos hc]]
    cases au with
    | true =>
      refine gom ?_
      refine WC.ret ?_
      refine WK.un ?_
      exact QF.p1 (.inl rfl) rfl (.cell rfl inferInstance inferInstance (by (repeat first | exact .here | apply At.there)) rfl rfl) (⟨A1, cap1, none, 0, rfl, hg1, ⟨hc1, Nat.le_refl _, hs1, Sl.nil _ _ _⟩, rfl⟩)
    | false =>
    cases bu with
    | true =>
      refine gom ?_
      refine WC.ret ?_
      refine WK.un ?_
      exact QF.p1 (.inl rfl) rfl (.cell rfl inferInstance inferInstance (by (repeat first | exact .here | apply At.there)) rfl rfl) (⟨A1, cap1, none, 0, rfl, hg1, ⟨hc1, Nat.le_refl _, hs1, Sl.nil _ _ _⟩, rfl⟩)
    | false =>
      have hne : ((ak.length : Int) != (bk.length : Int)) = true := by
        rw [bne_iff_ne]; simp at hc; omega
      refine gom ?_
      refine WC.ret ?_
      refine WK.un ?_
      exact QF.p1 (.inl rfl) rfl (.cell rfl inferInstance inferInstance (by (repeat first | exact .here | apply At.there)) rfl rfl) (⟨A1, cap1, none, 0, rfl, hg1, ⟨hc1, Nat.le_refl _, hs1, Sl.nil _ _ _⟩, rfl⟩)
  · have hua : au = false := by cases h : au with | false => rfl | true => exact absurd (.inl h) hc
    have hub : bu = false := by cases h : bu with | false => rfl | true => exact absurd (.inr (.inl h)) hc
    have hsl : ak.length = bk.length := by apply Decidable.byContradiction; intro h; exact hc (.inr (.inr h))
    have hne : ((ak.length : Int) != (bk.length : Int)) = false := by rw [hsl]; simp
    rw [show joinS ⟨true, au, av, ak⟩ ⟨true, bu, bv, bk⟩ = ⟨true, false, joinRow av bv, joinRow ak bk⟩ by unfold joinS; rw [if_neg (by simp), if_neg (by simp), if_neg hc]]
    subst hua hub
    refine gom ?_
    refine WL.op (by kernel_rfl) (OW.callK rfl (rjoinRow_fn _ SA SB sa sb ak bk (ha.stack.mono hg1) (hb.stack.mono hg1) hs hsl) rfl fun v' G' H' h hg => ?_)
    obtain ⟨A2, cap2, he, hg2, hc2, hs2, rfl⟩ := h
    cases he
    refine gom ?_
    refine WC.ret ?_
    refine WK.un ?_
    exact QF.p1 (.inl rfl) rfl (.cell rfl inferInstance inferInstance (by (repeat first | exact .here | apply At.there)) rfl rfl) (⟨A1, cap1, A2, cap2, rfl, Gh.le_trans hg1 hg2, ⟨hc1, hc2, hs1.mono hg2, hs2⟩, rfl⟩)
/-- where it goes on, in the document's order -/
def onwR (i : Int × Int) (k : Nat) : List Int := if i.1 = 5 then [i.2] else if i.1 = 6 then [(k : Int) + 1, i.2] else if i.1 = 9 ∨ i.1 = 10 then [] else [(k : Int) + 1]
theorem mem_onwR (i : Int × Int) (k : Nat) (x : Int) : x ∈ onwR i k ↔ x ∈ nextR i k := by
  unfold onwR nextR
  by_cases h5 : i.1 = 5
  · rw [if_pos h5, if_neg (by omega), if_pos h5]
  by_cases h6 : i.1 = 6
  · rw [if_neg h5, if_pos h6, if_neg (by omega), if_neg h5, if_pos h6]; simp [or_comm]
  by_cases h9 : i.1 = 9 ∨ i.1 = 10
  · rw [if_neg h5, if_neg h6, if_pos h9, if_pos h9]
  · rw [if_neg h5, if_neg h6, if_neg h9, if_neg h9, if_neg h5, if_neg h6]
theorem ronwards_fn (G : Gh) (c n : Int) (k : Nat) (hk : k ≤ 1000000000) :
    Fn Tryz.prog 102 #[.agg #[.int .i64 c, .int .i64 n], .int .i64 k] G [] fun e G' H' => ∃ A cap, e = .returned (.slice A (onwR (c, n) k).length cap) ∧ G.le G' ∧ Sl (Kd.int .i64) G' A (onwR (c, n) k) ∧ H' = [] := by
  refine Fn.enter Tryz.func102 rfl rfl fun w0 => ?_
  refine WC.seq ?_
  refine WC.region ?_
  refine WL.op (by kernel_rfl) (OW.box rfl rfl fun b1 => ?_)
  have x1 := wrapS k (by omega)
  have fin : ∀ {b : Nat} {c : Array Value} {l : List Int}, c = (ints l).toArray → Sl (Kd.int .i64) (G.add b c) (some ⟨b, 0, none⟩) l := fun {b c l} h => IVec.sl (.inr ⟨b, rfl, fun j v e => by
    rw [Nat.zero_add, Gh.add_at, h]; simpa using e⟩)
  by_cases h5 : c = 5
  · have e1 : onwR (c, n) k = [n] := by unfold onwR; rw [if_pos h5]
    rw [e1]; subst h5
    refine gom ?_
    refine WL.op (by kernel_rfl) (OW.buildSlice rfl (by kernel_rfl) (by kernel_rfl) (by rfl) rfl fun b2 => ?_)
    refine gom ?_
    refine WC.freeze (j := 0) .here fun hg => ?_
    refine WC.ret ?_
    refine WK.un ?_
    exact QF.p1 (.inl rfl) rfl (.tmp rfl) (⟨some ⟨b2, 0, none⟩, 1, rfl, hg, fin rfl, rfl⟩)
  have y5 : (c == 5) = false := by simpa using h5
  by_cases h6 : c = 6
  · have e1 : onwR (c, n) k = [(k : Int) + 1, n] := by unfold onwR; rw [if_neg h5, if_pos h6]
    rw [e1]; subst h6
    refine gom ?_
    refine WL.op (by kernel_rfl) (OW.buildSlice rfl (by kernel_rfl) (by kernel_rfl) (by rfl) rfl fun b2 => ?_)
    refine gom ?_
    refine WC.freeze (j := 0) .here fun hg => ?_
    refine WC.ret ?_
    refine WK.un ?_
    exact QF.p1 (.inl rfl) rfl (.tmp rfl) (⟨some ⟨b2, 0, none⟩, 2, rfl, hg, fin rfl, rfl⟩)
  have y6 : (c == 6) = false := by simpa using h6
  by_cases h9 : c = 9
  · have e1 : onwR (c, n) k = [] := by unfold onwR; rw [if_neg h5, if_neg h6, if_pos (.inl h9)]
    rw [e1]; subst h9
    refine gom ?_
    refine WC.ret ?_
    refine WK.un ?_
    exact QF.p1 (.inl rfl) rfl (.tmp rfl) (⟨none, 0, rfl, Gh.le_refl _, Sl.nil _ _ _, rfl⟩)
  by_cases h10 : c = 10
  · have e1 : onwR (c, n) k = [] := by unfold onwR; rw [if_neg h5, if_neg h6, if_pos (.inr h10)]
    rw [e1]; subst h10
    refine gom ?_
    refine WC.ret ?_
    refine WK.un ?_
    exact QF.p1 (.inl rfl) rfl (.tmp rfl) (⟨none, 0, rfl, Gh.le_refl _, Sl.nil _ _ _, rfl⟩)
  have y9 : (c == 9) = false := by simpa using h9
  have y10 : (c == 10) = false := by simpa using h10
  have e1 : onwR (c, n) k = [(k : Int) + 1] := by unfold onwR; rw [if_neg h5, if_neg h6, if_neg (by simp [h9, h10])]
  rw [e1]
  refine gom ?_
  refine WL.op (by kernel_rfl) (OW.buildSlice rfl (by kernel_rfl) (by kernel_rfl) (by rfl) rfl fun b2 => ?_)
  refine gom ?_
  refine WC.freeze (j := 0) .here fun hg => ?_
  refine WC.ret ?_
  refine WK.un ?_
  exact QF.p1 (.inl rfl) rfl (.tmp rfl) (⟨some ⟨b2, 0, none⟩, 1, rfl, hg, fin rfl, rfl⟩)
end Go.Proofs.YtkmigdmdppkpoaaGreatDoor.Gb
namespace Go.Proofs.YtkmigdmdppkpoaaGreatDoor.Gb
open Go Go.Proofs Go.MapKept
set_option linter.unusedVariables false
set_option linter.unusedSimpArgs false
set_option linter.unusedSectionVars false

section
variable {L : List (Nat × Value)} {d : Option Tmp} {ty : TypeId} {pos : String} {af : Array Edge} {gu : Option (Nat × Bool)}
/-- the name of a row of the table -/
theorem Gp.rowName {x : Operand} {r : Rw} (hx : ev L x = some (.agg #[.string r.name, .bool r.n, .int .i64 r.takes, .int .i64 r.lays])) : Gp Tryz.prog L ⟨d, .field 109 x 0, ty, pos, af, gu⟩ (.string r.name) := fun a st w => by
  have a0 := fun w => (inferInstance : Agg Tryz.prog 9 false).h w
  simp [execOp, st.eval hx, Instr.field, part, asAgg, run_underlying Tryz.underlying109, a0, Result.andThen]
theorem Gp.rowN {x : Operand} {r : Rw} (hx : ev L x = some (.agg #[.string r.name, .bool r.n, .int .i64 r.takes, .int .i64 r.lays])) : Gp Tryz.prog L ⟨d, .field 109 x 1, ty, pos, af, gu⟩ (.bool r.n) := fun a st w => by
  have a0 := fun w => (inferInstance : Agg Tryz.prog 4 false).h w
  simp [execOp, st.eval hx, Instr.field, part, asAgg, run_underlying Tryz.underlying109, a0, Result.andThen]
end
attribute [local irreducible] Tryz.prog
def nameE (c : Int) : Int := if (rowC c).name == ⟨#[]⟩ then 180 else 0
theorem Name_fn (G : Gh) (c : Int) : Fn Tryz.prog 22 #[.int .i64 c] G [] fun e G' H' => e = .returned (.tuple #[.string (rowC c).name, .int .i64 (nameE c)]) ∧ G = G' ∧ H' = [] := by
  refine Fn.enter Tryz.func22 rfl rfl fun w0 => ?_
  refine gom ?_
  refine WL.op (by kernel_rfl) (OW.callK rfl (rowOf_fn G c) rfl fun v' G' H' h hg => ?_)
  obtain ⟨he, rfl, rfl⟩ := h
  cases he
  refine WL.p (Gp.rowName (r := rowC c) rfl) (by kernel_rfl) rfl ?_
  cases h1 : ((rowC c).name == ⟨#[]⟩) with
  | true =>
    have hn : (rowC c).name = ⟨#[]⟩ := by simpa using (bytes_beq _ _).symm.trans h1
    have hr : nameE c = 180 := by rw [nameE, h1]; rfl
    rw [hr, hn]
    refine gom ?_
    refine WC.ret ?_
    refine WK.un ?_
    exact QF.p2 (.inl rfl) rfl (.tmp rfl) (.tmp rfl) (⟨rfl, rfl, rfl⟩)
  | false =>
    have hr : nameE c = 0 := by rw [nameE, h1]; rfl
    rw [hr]
    refine gom ?_
    rw [h1]
    refine gom ?_
    refine WC.ret ?_
    refine WK.un ?_
    exact QF.p2 (.inl rfl) rfl (.tmp rfl) (.tmp rfl) (⟨rfl, rfl, rfl⟩)

def findN (s : ByteArray) : Int × Int := match (List.range 26).find? (fun k : Nat => (rowC ((k : Int) + 1)).name == s) with | some k => ((k : Int) + 1, 0) | none => (0, 180)
theorem findN_at {s : ByteArray} {k : Nat} (hk : k < 26) (h0 : ∀ j : Nat, j < k → ((rowC ((j : Int) + 1)).name == s) = false) (h1 : ((rowC ((k : Int) + 1)).name == s) = true) : findN s = ((k : Int) + 1, 0) := by
  unfold findN
  rw [find_range hk h0 h1]
theorem findN_none {s : ByteArray} (h0 : ∀ j : Nat, j < 26 → ((rowC ((j : Int) + 1)).name == s) = false) : findN s = (0, 180) := by
  unfold findN
  rw [List.find?_eq_none.2 (fun j hj => by simp [h0 j (by simpa using hj)])]
theorem Find_fn (G : Gh) (s : ByteArray) : Fn Tryz.prog 24 #[.string s] G [] fun e G' H' => e = .returned (.tuple #[.int .i64 (findN s).1, .int .i64 (findN s).2]) ∧ G = G' ∧ H' = [] := by
  refine Fn.enter Tryz.func24 rfl rfl fun w0 => ?_
  refine gom ?_
  refine WC.loop (X := Nat) (fun k => [(0, .string s), (4, .int .i64 ((k : Int) + 1))]) (fun _ => G) (fun _ => []) (fun k => 26 - k) (fun k => k ≤ 26 ∧ ∀ j : Nat, j < k → ((rowC ((j : Int) + 1)).name == s) = false) 0 ⟨Nat.zero_le _, (fun j h => absurd h (Nat.not_lt_zero _))⟩ (by exact ⟨rfl, rfl, trivial⟩) rfl (List.Sublist.refl _) fun k hx => ?_
  obtain ⟨hk, hall⟩ := hx
  by_cases hlt : k < 26
  rotate_left
  · have e2 : decide ((k : Int) + 1 < 27) = false := decide_eq_false (by omega)
    rw [findN_none fun j hj => hall j (by omega)]
    refine gom ?_
    refine WC.ret ?_
    refine WK.un ?_
    exact QF.p2 (.inl rfl) rfl (.tmp rfl) (.tmp rfl) (⟨rfl, rfl, rfl⟩)
  have e2 : decide ((k : Int) + 1 < 27) = true := decide_eq_true (by omega)
  have x2 : IntKind.i64.wrap ((k : Int) + 1 + 1) = ((k + 1 : Nat) : Int) + 1 := by rw [wrapI (by omega) (by omega)]; omega
  refine gom ?_
  refine WL.op (by kernel_rfl) (OW.callK rfl (rowOf_fn G ((k : Int) + 1)) rfl fun v' G' H' h hg => ?_)
  obtain ⟨he, rfl, rfl⟩ := h
  cases he
  refine WL.p (Gp.rowName (r := rowC ((k : Int) + 1)) rfl) (by kernel_rfl) rfl ?_
  cases h1 : ((rowC ((k : Int) + 1)).name == s) with
  | true =>
    rw [findN_at hlt hall h1]
    refine gom ?_
    rw [h1]
    refine gom ?_
    refine WC.ret ?_
    refine WK.un ?_
    exact QF.p2 (.inl rfl) rfl (.tmp rfl) (.tmp rfl) (⟨rfl, rfl, rfl⟩)
  | false =>
    refine gom ?_
    rw [h1]
    refine gom ?_
    exact WK.again (k + 1) (by omega) ⟨by omega, fun j hj => by
      rcases Nat.lt_or_ge j k with h | h
      · exact hall j h
      · obtain rfl : j = k := by omega
        exact h1⟩ (by exact ⟨rfl, rfl, trivial⟩) rfl (List.Sublist.refl _)

/-! #### the document's answer -/
def namesL : List ByteArray := (rowsC.drop 1).map (·.name)
theorem namesL_length : namesL.length = 26 := rfl
theorem namesL_at : ∀ k : Nat, k < 26 → namesL[k]? = some (rowC ((k : Int) + 1)).name := by decide +kernel
theorem rnames_fn (G : Gh) : Fn Tryz.prog 47 #[] G [] fun e G' H' => ∃ b, e = .returned (.slice (some ⟨b, 0, none⟩) 26 26) ∧ G.le G' ∧ Sl Kd.str G' (some ⟨b, 0, none⟩) namesL ∧ H' = [] := by
  refine Fn.enter Tryz.func47 rfl rfl fun w0 => ?_
  refine gom ?_
  refine WL.op (by kernel_rfl) (OW.buildSlice rfl (by kernel_rfl) (by kernel_rfl) (by rfl) rfl fun b1 => ?_)
  refine gom ?_
  refine WC.freezeC (cs := namesL.map Value.string) .here rfl fun G1 hg1 h1 => ?_
  refine WC.ret ?_
  refine WK.un ?_
  exact QF.p1 (.inl rfl) rfl (.tmp rfl) (⟨b1, rfl, hg1, Cs.strs h1, rfl⟩)
theorem ris_fn (G : Gh) (c : Int) : Fn Tryz.prog 46 #[.int .i64 c] G [] fun e G' H' => e = .returned (.bool (decide (1 ≤ c) && decide (c ≤ 26))) ∧ G = G' ∧ H' = [] := by
  refine Fn.enter Tryz.func46 rfl rfl fun w0 => ?_
  cases h1 : decide (1 ≤ c) with
  | false =>
    refine gom ?_
    refine WC.ret ?_
    refine WK.un ?_
    exact QF.p1 (.inl rfl) rfl (.tmp rfl) (⟨rfl, rfl, rfl⟩)
  | true =>
    refine gom ?_
    refine WC.ret ?_
    refine WK.un ?_
    exact QF.p1 (.inl rfl) rfl (.tmp rfl) (⟨by rw [Bool.true_and], rfl, rfl⟩)
theorem rName_fn (G : Gh) (c : Int) : Fn Tryz.prog 23 #[.int .i64 c] G [] fun e G' H' => e = .returned (.tuple #[.string (rowC c).name, .int .i64 (nameE c)]) ∧ G.le G' ∧ H' = [] := by
  refine Fn.enter Tryz.func23 rfl rfl fun w0 => ?_
  refine gom ?_
  refine WL.op (by kernel_rfl) (OW.callK rfl (ris_fn G c) rfl fun v' G' H' h hg => ?_)
  obtain ⟨he, rfl, rfl⟩ := h
  cases he
  cases hb : (decide (1 ≤ c) && decide (c ≤ 26)) with
  | false =>
    have hn : (rowC c).name = ⟨#[]⟩ := by
      unfold rowC
      split
      · rfl
      · have : 27 ≤ c.toNat := by simp at hb; omega
        rw [List.getElem?_eq_none (by show 27 ≤ c.toNat; omega)]; rfl
    have hr : nameE c = 180 := by rw [nameE, hn]; rfl
    rw [hr, hn]
    refine gom ?_
    refine WC.ret ?_
    refine WK.un ?_
    exact QF.p2 (.inl rfl) rfl (.tmp rfl) (.tmp rfl) (⟨rfl, Gh.le_refl _, rfl⟩)
  | true =>
  simp at hb
  obtain ⟨k, rfl⟩ : ∃ k : Nat, c = (k : Int) + 1 := ⟨(c - 1).toNat, by omega⟩
  have hk : k < 26 := by omega
  have hne : ∀ k : Nat, k < 26 → ((rowC ((k : Int) + 1)).name == ⟨#[]⟩) = false := by decide +kernel
  have hr : nameE ((k : Int) + 1) = 0 := by rw [nameE, hne k hk]; rfl
  rw [hr]
  refine gom ?_
  refine WL.op (by kernel_rfl) (OW.callK rfl (rnames_fn G) rfl fun v' G' H' h hg => ?_)
  obtain ⟨b, he, hg1, hS, rfl⟩ := h
  cases he
  obtain ⟨b', o, cs, hbe, hks, hcs⟩ := hS k _ (namesL_at k hk)
  obtain ⟨rfl, rfl⟩ : b = b' ∧ 0 = o := by cases hbe; exact ⟨rfl, rfl⟩
  obtain rfl : cs = [.string (rowC ((k : Int) + 1)).name] := hks
  have x0 : (0 : Int) ≤ (k : Int) := by omega
  have x1 : (k : Int) < ((26 : Nat) : Int) := by omega
  have x2 : IntKind.i64.wrap ((k : Int) + 1 - 1) = (k : Int) := by rw [wrapI (by omega) (by omega)]; omega
  refine gom ?_
  refine WC.ret ?_
  refine WK.un ?_
  exact QF.p2 (.inl rfl) rfl (.tmp rfl) (.tmp rfl) (⟨rfl, hg1, rfl⟩)
theorem rFind_fn (G : Gh) (s : ByteArray) : Fn Tryz.prog 25 #[.string s] G [] fun e G' H' => e = .returned (.tuple #[.int .i64 (findN s).1, .int .i64 (findN s).2]) ∧ G.le G' ∧ H' = [] := by
  refine Fn.enter Tryz.func25 rfl rfl fun w0 => ?_
  refine gom ?_
  refine WL.op (by kernel_rfl) (OW.callK rfl (rnames_fn G) rfl fun v' G' H' h hg => ?_)
  obtain ⟨b, he, hg1, hS, rfl⟩ := h
  cases he
  refine gom ?_
  refine WC.loop (X := Nat) (fun k => [(0, .string s), (4, .slice (some ⟨b, 0, none⟩) 26 26), (5, .int .i64 (k : Int))]) (fun _ => G') (fun _ => []) (fun k => 26 - k) (fun k => k ≤ 26 ∧ ∀ j : Nat, j < k → ((rowC ((j : Int) + 1)).name == s) = false) 0 ⟨Nat.zero_le _, (fun j h => absurd h (Nat.not_lt_zero _))⟩ (by exact ⟨rfl, rfl, rfl, trivial⟩) rfl (List.Sublist.refl _) fun k hx => ?_
  obtain ⟨hk, hall⟩ := hx
  by_cases hlt : k < 26
  rotate_left
  · have e2 : decide ((k : Int) < ((26 : Nat) : Int)) = false := decide_eq_false (by omega)
    rw [findN_none fun j hj => hall j (by omega)]
    refine gom ?_
    refine WC.ret ?_
    refine WK.un ?_
    exact QF.p2 (.inl rfl) rfl (.tmp rfl) (.tmp rfl) (⟨rfl, hg1, rfl⟩)
  have e2 : decide ((k : Int) < ((26 : Nat) : Int)) = true := decide_eq_true (by omega)
  have x2 := wrapS k (by omega)
  have x3 : IntKind.i64.wrap ((k : Int) + 1) = (k : Int) + 1 := by rw [wrapI (by omega) (by omega)]
  obtain ⟨b', o, cs, hbe, hks, hcs⟩ := hS k _ (namesL_at k hlt)
  obtain ⟨rfl, rfl⟩ : b = b' ∧ 0 = o := by cases hbe; exact ⟨rfl, rfl⟩
  obtain rfl : cs = [.string (rowC ((k : Int) + 1)).name] := hks
  have x0 : (0 : Int) ≤ (k : Int) := by omega
  have x1 : (k : Int) < ((26 : Nat) : Int) := by omega
  cases h1 : ((rowC ((k : Int) + 1)).name == s) with
  | true =>
    rw [findN_at hlt hall h1]
    clear x2
    refine gom ?_
    rw [h1]
    refine gom ?_
    refine WC.ret ?_
    refine WK.un ?_
    exact QF.p2 (.inl rfl) rfl (.tmp rfl) (.tmp rfl) (⟨rfl, hg1, rfl⟩)
  | false =>
    clear x3
    refine gom ?_
    rw [h1]
    refine gom ?_
    exact WK.again (k + 1) (by omega) ⟨by omega, fun j hj => by
      rcases Nat.lt_or_ge j k with h | h
      · exact hall j h
      · obtain rfl : j = k := by omega
        exact h1⟩ (by exact ⟨rfl, rfl, rfl, trivial⟩) rfl (List.Sublist.refl _)
end Go.Proofs.YtkmigdmdppkpoaaGreatDoor.Gb
namespace Go.Proofs.YtkmigdmdppkpoaaGreatDoor.Gb
open Go Go.Proofs Go.MapKept
set_option linter.unusedVariables false
set_option linter.unusedSimpArgs false
set_option linter.unusedSectionVars false

section
variable {P : Program} {Q : Exit → Act → World → Prop} {cx : Cx} {L : List (Nat × Value)} {G : Gh} {H : List Own} {K : List (Nat × Value) → Gh → List Own → Prop} {ops : Array Oper} {rest : List Oper}
  {d : Option Tmp} {ty : TypeId} {pos : String} {af : Array Edge} {gu : Option (Nat × Bool)}
/-- a list that is made with room to spare -/
theorem OW.makeSlice2 {t e n by_ : Nat} {z : Value} {x y : Operand} {k k' : IntKind} {m c : Int} (hx : ev L x = some (.int k m)) (hy : ev L y = some (.int k' c)) [hu : Und P t (.slice e)] [hi : Inf P e n by_ z] (hz : z.cells.size = n)
    (h0 : 0 ≤ m) (hmc : m ≤ c) (hb : (by_ : Int) * c ≤ 281474976710656) (h63 : c ≤ 9223372036854775807) (hd : dOk d cx.N = true)
    (kk : ∀ b x, Vec e n (some ⟨b, 0, none⟩) m.toNat c.toNat (repS m.toNat z.cells.toList) x → K (putL d (.slice (some ⟨b, 0, none⟩) m.toNat c.toNat) L) G (x :: H)) : OW P Q ⟨d, .makeSlice t x y, ty, pos, af, gu⟩ cx L G H K := by
  refine OW.gives hd fun a w st => ?_
  obtain ⟨ie, hi1, hi2, hi3, hi4⟩ := hi.info
  have hr := run_make (P := P) w t e ie z hu.h hi1 hi2 k k' m c h0 hmc (by rw [hi4]; exact hb) h63
  have hc : madeCells z.cells (c.toNat * ie.size) = (repS c.toNat z.cells.toList).toArray := by unfold madeCells; rw [hi3]; exact base_repS z.cells n c.toNat hz
  rw [hc] at hr
  have hlen : ∀ q : Nat, (repS q z.cells.toList).length = q * n := fun q => by rw [repS_length, Array.length_toList, hz]
  have htk : (repS c.toNat z.cells.toList).take (m.toNat * n) = repS m.toNat z.cells.toList := by
    obtain ⟨r, hr⟩ : ∃ r, c.toNat = m.toNat + r := ⟨c.toNat - m.toNat, by omega⟩
    rw [hr]
    have : ∀ q : Nat, repS (q + r) z.cells.toList = repS q z.cells.toList ++ repS r z.cells.toList := fun q => by
      induction q with
      | zero => rw [Nat.zero_add]; rfl
      | succ q ih => rw [show q + 1 + r = (q + r) + 1 by omega]; simp only [repS]; rw [ih, List.append_assoc]
    rw [this, List.take_append_of_le_length (by rw [hlen]; exact Nat.le_refl _), List.take_of_length_le (by rw [hlen]; exact Nat.le_refl _)]
  refine ⟨_, _, G, _, .inl ?_, st.sat.alloc _, Stp.alloc _, kk w.heap.size (.blk w.heap.size (.cells (repS c.toNat z.cells.toList).toArray e (0, 0))) ⟨hlen _, .inr ⟨_, _, rfl, rfl, by omega, by simp [hlen], by simpa using htk⟩⟩⟩
  simp only [execOp, Sem.run_bind, st.eval hx, st.eval hy, hr, Result.andThen_ok]
  rfl
end
section
variable {P : Program} {L : List (Nat × Value)} {d : Option Tmp} {ty : TypeId} {pos : String} {af : Array Edge} {gu : Option (Nat × Bool)}
theorem Gp.shrTo {t t' : TypeId} {x y : Operand} {k k' : IntKind} {m n r : Int} (hx : ev L x = some (.int k m)) (hy : ev L y = some (.int k' n)) (hn : 0 ≤ n) (hr : m / 2 ^ min n.toNat k.bits = r) : Gp P L ⟨d, .binOp .shr t x y t', ty, pos, af, gu⟩ (.int k r) :=
  fun a st w => by subst hr; simp [execOp, st.eval hx, st.eval hy, eqGuard_shr, binOp_shr, shift_shr_any k k' m n hn]
theorem Gp.orTo {t t' : TypeId} {x y : Operand} {k : IntKind} {m n r : Int} (hx : ev L x = some (.int k m)) (hy : ev L y = some (.int k n)) (hr : bits .or k m n = r) : Gp P L ⟨d, .binOp .or t x y t', ty, pos, af, gu⟩ (.int k r) := hr ▸ Gp.or hx hy
theorem Gp.convTo {s t : TypeId} {x : Operand} {k k' : IntKind} {m r : Int} {ds : TypeDesc} (hx : ev L x = some (.int k m)) [hs : Und P s ds] [ht : Und P t (.int k')] (h : k'.wrap m = r) : Gp P L ⟨d, .convert s t x, ty, pos, af, gu⟩ (.int k' r) := h ▸ Gp.convI hx
theorem Gp.remTo {t t' : TypeId} {x y : Operand} {k : IntKind} {m n r : Int} (hx : ev L x = some (.int k m)) (hy : ev L y = some (.int k n)) (hn : n ≠ 0) (h : m.tmod n = r) : Gp P L ⟨d, .binOp .rem t x y t', ty, pos, af, gu⟩ (.int k r) := h ▸ Gp.rem hx hy hn
theorem Gp.quoTo {t t' : TypeId} {x y : Operand} {k : IntKind} {m n r : Int} (hx : ev L x = some (.int k m)) (hy : ev L y = some (.int k n)) (hn : n ≠ 0) (h : k.wrap (m.tdiv n) = r) : Gp P L ⟨d, .binOp .quo t x y t', ty, pos, af, gu⟩ (.int k r) := h ▸ Gp.quo hx hy hn
end
attribute [local irreducible] Tryz.prog

/-! #### numbers in bytes -/
def uintL (n : Nat) : List Int := if h : n < 128 then [(n : Int)] else ((n % 128 + 128 : Nat) : Int) :: uintL (n / 128)
  termination_by n
  decreasing_by exact Nat.div_lt_self (by omega) (by omega)
theorem uintL_lt {n : Nat} (h : n < 128) : uintL n = [(n : Int)] := by rw [uintL, dif_pos h]
theorem uintL_ge {n : Nat} (h : ¬ n < 128) : uintL n = ((n % 128 + 128 : Nat) : Int) :: uintL (n / 128) := by rw [uintL, dif_neg h]
theorem uintL_length : ∀ (k n : Nat), n < 128 ^ (k + 1) → (uintL n).length ≤ k + 1
  | 0, n, h => by rw [uintL_lt (by simpa using h)]; simp
  | k + 1, n, h => by
    by_cases hn : n < 128
    · rw [uintL_lt hn]; simp
    · rw [uintL_ge hn, List.length_cons]
      have := uintL_length k (n / 128) (by rw [Nat.div_lt_iff_lt_mul (by decide)]; rw [Nat.pow_succ] at h; exact h)
      omega
theorem uintL_len10 {n : Nat} (h : n < 18446744073709551616) : (uintL n).length ≤ 10 := uintL_length 9 n (by omega)
theorem or128 : ∀ m : Nat, m < 256 → bits .or .u8 (m : Int) 128 = ((m % 128 + 128 : Nat) : Int) := by decide +kernel
def u8s (l : List Int) : List Value := l.map (.int .u8)
abbrev BVec (A : Option Addr) (l : List Int) (cap : Nat) (x : Own) : Prop := Vec 5 1 A l.length cap (u8s l) x
theorem BVec.nil : BVec none [] 0 (.spare 0 0 0) := ⟨rfl, .inl ⟨rfl, rfl, rfl, rfl⟩⟩
theorem u8s_length (l : List Int) : (u8s l).length = l.length * 1 := by simp [u8s]
theorem u8s_one (l : List Int) : (u8s l).all (·.oneCell') = true := by induction l with | nil => rfl | cons b l ih => simp [u8s, Value.oneCell']
theorem u8s_append (a b : List Int) : u8s (a ++ b) = u8s a ++ u8s b := by simp [u8s]
theorem BVec.snoc {A : Option Addr} {l : List Int} {cap : Nat} {x : Own} {z : Int} (h : Vec 5 1 A (l.length + 1) cap (u8s l ++ [.int .u8 z]) x) : BVec A (l ++ [z]) cap x := by
  unfold BVec; rw [u8s_append, List.length_append]; exact h
theorem u8w (m : Nat) : IntKind.u8.wrap (m : Int) = ((m % 256 : Nat) : Int) := by simp [IntKind.wrap, IntKind.signed, IntKind.bits]

theorem short_fn (G : Gh) (A : Option Addr) (l : List Int) (cap : Nat) (x : Own) (hx : BVec A l cap x) (n : Nat) (hn : n < 18446744073709551616) (hl : l.length ≤ 100000000000000) :
    Fn Tryz.prog 79 #[.slice A l.length cap, .int .u64 n] G [x] fun e G' H' => ∃ A' cap' x', e = .returned (.slice A' (l ++ uintL n).length cap') ∧ G = G' ∧ BVec A' (l ++ uintL n) cap' x' ∧ H' = [x'] := by
  refine Fn.enter Tryz.func79 rfl rfl fun w0 => ?_
  refine gom ?_
  have hlen0 := uintL_len10 hn
  refine WC.loop (X := List Int × Nat × Option Addr × Nat × Own) (fun s => [(0, .slice s.2.2.1 s.1.length s.2.2.2.1), (1, .int .u64 (s.2.1 : Int))]) (fun _ => G) (fun s => [s.2.2.2.2]) (fun s => s.2.1) (fun s => BVec s.2.2.1 s.1 s.2.2.2.1 s.2.2.2.2 ∧ s.1 ++ uintL s.2.1 = l ++ uintL n ∧ s.2.1 < 18446744073709551616) (l, n, A, cap, x) ⟨hx, rfl, hn⟩ (by exact ⟨rfl, rfl, trivial⟩) rfl (List.Sublist.refl _) fun s hs => ?_
  obtain ⟨xs, m, B, c, o⟩ := s
  obtain ⟨hv, heq, hm⟩ := hs
  dsimp only at hv heq hm
  have hlen : xs.length + (uintL m).length = l.length + (uintL n).length := by rw [← List.length_append, heq, List.length_append]
  by_cases hlt : m < 128
  · have e2 : decide ((128 : Int) ≤ (m : Int)) = false := decide_eq_false (by omega)
    rw [uintL_lt hlt] at heq hlen
    simp at hlen
    refine gom ?_
    refine WL.p (Gp.convTo (r := (m : Int)) rfl (by rw [u8w, Nat.mod_eq_of_lt (by first | omega | (dsimp only; omega))])) (by kernel_rfl) rfl ?_
    refine WL.op (by kernel_rfl) (OW.buildSlice rfl (by kernel_rfl) (by kernel_rfl) (by rfl) rfl fun b18 => ?_)
    refine WL.op (by kernel_rfl) (OW.append rfl rfl (by kernel_rfl) (by kernel_rfl) hv (by (repeat first | exact .here | apply At.there)) (Rds.blk0 (cs := [.int .u8 (m : Int)]) .here rfl) rfl rfl (by dsimp only; omega) (by dsimp only; omega) rfl fun A3 c3 o3 hv3 => ?_)
    have h3 := BVec.snoc hv3
    rw [heq] at h3
    have hl3 : xs.length + 1 = (l ++ uintL n).length := by rw [← heq, List.length_append]; rfl
    refine gom ?_
    refine WC.ret ?_
    refine WK.un ?_
    exact QF.p1 (.inl rfl) rfl (.tmp rfl) (⟨A3, c3, o3, by rw [hl3], rfl, h3, rfl⟩)
  · have e2 : decide ((128 : Int) ≤ (m : Int)) = true := decide_eq_true (by omega)
    rw [uintL_ge hlt] at heq hlen
    rw [List.length_cons] at hlen
    refine gom ?_
    refine WL.p (Gp.convTo (r := ((m % 256 : Nat) : Int)) rfl (u8w m)) (by kernel_rfl) rfl ?_
    refine WL.p (Gp.orTo (r := ((m % 128 + 128 : Nat) : Int)) rfl rfl (by rw [or128 _ (Nat.mod_lt _ (by decide)), Nat.mod_mod_of_dvd _ (by decide)])) (by kernel_rfl) rfl ?_
    refine WL.op (by kernel_rfl) (OW.buildSlice rfl (by kernel_rfl) (by kernel_rfl) (by rfl) rfl fun b13 => ?_)
    refine WL.op (by kernel_rfl) (OW.append rfl rfl (by kernel_rfl) (by kernel_rfl) hv (by (repeat first | exact .here | apply At.there)) (Rds.blk0 (cs := [.int .u8 ((m % 128 + 128 : Nat) : Int)]) .here rfl) rfl rfl (by dsimp only; omega) (by dsimp only; omega) rfl fun A3 c3 o3 hv3 => ?_)
    have h3 := BVec.snoc hv3
    refine gom ?_
    refine WL.p (Gp.shrTo (r := ((m / 128 : Nat) : Int)) rfl rfl (by decide) (by show (m : Int) / 128 = _; omega)) (by kernel_rfl) rfl ?_
    refine gom ?_
    refine WK.pick [o3] ?_
    have hl3 : xs.length + 1 = (xs ++ [((m % 128 + 128 : Nat) : Int)]).length := by rw [List.length_append]; rfl
    exact WK.again (xs ++ [((m % 128 + 128 : Nat) : Int)], m / 128, A3, c3, o3) (by dsimp only; omega) ⟨h3, by dsimp only; rw [← heq, List.append_assoc]; rfl, by dsimp only; omega⟩ (by exact ⟨by show _ = some (Value.slice A3 _ c3); rw [← hl3]; rfl, rfl, trivial⟩) rfl (List.Sublist.refl _)
theorem rUint_fn (G : Gh) (n : Nat) (hn : n < 18446744073709551616) :
    Fn Tryz.prog 54 #[.int .u64 n] G [] fun e G' H' => ∃ A' cap' x', e = .returned (.slice A' (uintL n).length cap') ∧ G = G' ∧ BVec A' (uintL n) cap' x' ∧ H' = [x'] := by
  refine Fn.enter Tryz.func54 rfl rfl fun w0 => ?_
  refine gom ?_
  refine WC.nothing ?_
  have hlen0 := uintL_len10 hn
  refine WC.loop (X := List Int × Nat × Option Addr × Nat × Own) (fun s => [(3, .slice s.2.2.1 s.1.length s.2.2.2.1), (0, .int .u64 (s.2.1 : Int))]) (fun _ => G) (fun s => [s.2.2.2.2]) (fun s => s.2.1) (fun s => BVec s.2.2.1 s.1 s.2.2.2.1 s.2.2.2.2 ∧ s.1 ++ uintL s.2.1 = uintL n ∧ s.2.1 < 18446744073709551616) ([], n, none, 0, .spare 0 0 0) ⟨BVec.nil, rfl, hn⟩ (by exact ⟨rfl, rfl, trivial⟩) rfl (List.Sublist.refl _) fun s hs => ?_
  obtain ⟨xs, m, B, c, o⟩ := s
  obtain ⟨hv, heq, hm⟩ := hs
  dsimp only at hv heq hm
  have hlen : xs.length + (uintL m).length = (uintL n).length := by rw [← List.length_append, heq]
  by_cases hlt : m < 128
  · have e2 : decide ((128 : Int) ≤ (m : Int)) = false := decide_eq_false (by omega)
    rw [uintL_lt hlt] at heq hlen
    simp at hlen
    refine gom ?_
    refine WL.p (Gp.convTo (r := (m : Int)) rfl (by rw [u8w, Nat.mod_eq_of_lt (by first | omega | (dsimp only; omega))])) (by kernel_rfl) rfl ?_
    refine WL.op (by kernel_rfl) (OW.buildSlice rfl (by kernel_rfl) (by kernel_rfl) (by rfl) rfl fun b18 => ?_)
    refine WL.op (by kernel_rfl) (OW.append rfl rfl (by kernel_rfl) (by kernel_rfl) hv (by (repeat first | exact .here | apply At.there)) (Rds.blk0 (cs := [.int .u8 (m : Int)]) .here rfl) rfl rfl (by dsimp only; omega) (by dsimp only; omega) rfl fun A3 c3 o3 hv3 => ?_)
    have h3 := BVec.snoc hv3
    rw [heq] at h3
    have hl3 : xs.length + 1 = (uintL n).length := by rw [← heq, List.length_append]; rfl
    refine gom ?_
    refine WC.ret ?_
    refine WK.un ?_
    exact QF.p1 (.inl rfl) rfl (.tmp rfl) (⟨A3, c3, o3, by rw [hl3], rfl, h3, rfl⟩)
  · have e2 : decide ((128 : Int) ≤ (m : Int)) = true := decide_eq_true (by omega)
    rw [uintL_ge hlt] at heq hlen
    rw [List.length_cons] at hlen
    have x2 : IntKind.u8.wrap (((m % 128 : Nat) : Int) + 128) = ((m % 128 + 128 : Nat) : Int) := by
      rw [show ((m % 128 : Nat) : Int) + 128 = ((m % 128 + 128 : Nat) : Int) by omega, u8w, Nat.mod_eq_of_lt (by omega)]
    refine gom ?_
    refine WL.p (Gp.remTo (r := ((m % 128 : Nat) : Int)) rfl rfl (by decide) (by dsimp only; rw [Int.tmod_eq_emod_of_nonneg (by omega)]; omega)) (by kernel_rfl) rfl ?_
    refine WL.p (Gp.convTo (r := ((m % 128 : Nat) : Int)) rfl (by rw [u8w, Nat.mod_eq_of_lt (by first | omega | (dsimp only; omega))])) (by kernel_rfl) rfl ?_
    refine gom ?_
    refine WL.op (by kernel_rfl) (OW.buildSlice rfl (by kernel_rfl) (by kernel_rfl) (by rfl) rfl fun b11 => ?_)
    refine WL.op (by kernel_rfl) (OW.append rfl rfl (by kernel_rfl) (by kernel_rfl) hv (by (repeat first | exact .here | apply At.there)) (Rds.blk0 (cs := [.int .u8 ((m % 128 + 128 : Nat) : Int)]) .here rfl) rfl rfl (by dsimp only; omega) (by dsimp only; omega) rfl fun A3 c3 o3 hv3 => ?_)
    have h3 := BVec.snoc hv3
    refine gom ?_
    refine WL.p (Gp.quoTo (r := ((m / 128 : Nat) : Int)) rfl rfl (by decide) (by dsimp only; rw [Int.tdiv_eq_ediv_of_nonneg (by omega)]; simp [IntKind.wrap, IntKind.signed, IntKind.bits]; omega)) (by kernel_rfl) rfl ?_
    refine gom ?_
    refine WK.pick [o3] ?_
    have hl3 : xs.length + 1 = (xs ++ [((m % 128 + 128 : Nat) : Int)]).length := by rw [List.length_append]; rfl
    exact WK.again (xs ++ [((m % 128 + 128 : Nat) : Int)], m / 128, A3, c3, o3) (by dsimp only; omega) ⟨h3, by dsimp only; rw [← heq, List.append_assoc]; rfl, by dsimp only; omega⟩ (by exact ⟨by show _ = some (Value.slice A3 _ c3); rw [← hl3]; rfl, rfl, trivial⟩) rfl (List.Sublist.refl _)
end Go.Proofs.YtkmigdmdppkpoaaGreatDoor.Gb
namespace Go.Proofs.YtkmigdmdppkpoaaGreatDoor.Gb
open Go Go.Proofs Go.MapKept
set_option linter.unusedVariables false
set_option linter.unusedSimpArgs false
set_option linter.unusedSectionVars false
attribute [local irreducible] Tryz.prog

theorem fresh_fn (G : Gh) (A : Option Addr) (l : List Int) (cap : Nat) (x : Own) (hx : BVec A l cap x) (hl : l.length ≤ 100000000000000) :
    Fn Tryz.prog 80 #[.slice A l.length cap, .int .i64 10] G [x] fun e G' H' => ∃ A' cap' x', e = .returned (.slice A' l.length cap') ∧ G = G' ∧ BVec A' l cap' x' ∧ H' = [x'] := by
  refine Fn.enter Tryz.func80 rfl rfl fun w0 => ?_
  have x2 : IntKind.i64.wrap ((l.length : Int) + 10) = ((l.length + 10 : Nat) : Int) := by rw [wrapI (by omega) (by omega)]; rfl
  refine gom ?_
  refine WL.op (by kernel_rfl) (OW.makeSlice2 (n := 1) (z := .int .u8 0) (m := (l.length : Int)) (c := ((l.length + 10 : Nat) : Int)) rfl rfl rfl (by omega) (by omega) (by omega) (by omega) rfl fun tb o1 ho1 => ?_)
  rw [Int.toNat_natCast, Int.toNat_natCast] at ho1 ⊢
  refine gom ?_
  refine WL.op (by kernel_rfl) (OW.copy rfl rfl (by kernel_rfl) ho1 .here (hx.rds (.there .here)) (u8s_length l) (u8s_one l) (Nat.le_refl _) rfl fun o2 ho2 => ?_)
  have h2 : BVec (some ⟨tb, 0, none⟩) l (l.length + 10) o2 := by
    unfold BVec
    rw [List.drop_eq_nil_of_le (by rw [repS_length]; exact Nat.le_refl _), List.append_nil] at ho2
    exact ho2
  refine gom ?_
  refine WC.ret ?_
  refine WK.un ?_
  exact QF.p1 (.inl rfl) rfl (.tmp rfl) (⟨_, _, o2, rfl, rfl, h2, rfl⟩)
theorem putUint_fn (G : Gh) (A : Option Addr) (l : List Int) (cap : Nat) (x : Own) (hx : BVec A l cap x) (n : Nat) (hn : n < 18446744073709551616) (hl : l.length ≤ 100000000000000) :
    Fn Tryz.prog 53 #[.slice A l.length cap, .int .u64 n] G [x] fun e G' H' => ∃ A' cap' x', e = .returned (.slice A' (l ++ uintL n).length cap') ∧ G = G' ∧ BVec A' (l ++ uintL n) cap' x' ∧ H' = [x'] := by
  refine Fn.enter Tryz.func53 rfl rfl fun w0 => ?_
  refine gom ?_
  refine WL.op (by kernel_rfl) (OW.callK rfl (fresh_fn G A l cap x hx hl) rfl fun v' G' H' h hg => ?_)
  obtain ⟨A1, c1, x1, he, rfl, h1, rfl⟩ := h
  cases he
  refine gom ?_
  refine WL.op (by kernel_rfl) (OW.callK rfl (short_fn G A1 l c1 x1 h1 n hn hl) rfl fun v' G' H' h hg => ?_)
  obtain ⟨A2, c2, x2, he, rfl, h2, rfl⟩ := h
  cases he
  refine gom ?_
  refine WC.ret ?_
  refine WK.un ?_
  exact QF.p1 (.inl rfl) rfl (.tmp rfl) (⟨_, _, x2, rfl, rfl, h2, rfl⟩)

theorem rowC_out {c : Int} (h : ¬ (1 ≤ c ∧ c ≤ 26)) : rowC c = rw0 := by
  unfold rowC
  split
  · rfl
  · rw [List.getElem?_eq_none (by show 27 ≤ c.toNat; omega)]; rfl
theorem is_row (c : Int) : (decide (1 ≤ c) && decide (c ≤ 26)) = ((rowC c).name != ⟨#[]⟩) := by
  by_cases h : 1 ≤ c ∧ c ≤ 26
  · have hd : ∀ k : Nat, k < 26 → ((rowC ((k : Int) + 1)).name != ⟨#[]⟩) = true := by decide +kernel
    obtain ⟨k, rfl⟩ : ∃ k : Nat, c = (k : Int) + 1 := ⟨(c - 1).toNat, by omega⟩
    rw [hd k (by omega), decide_eq_true h.1, decide_eq_true h.2]; rfl
  · rw [rowC_out h]
    rw [show (decide (1 ≤ c) && decide (c ≤ 26)) = false by simp; omega]; rfl
def numbR (c : Int) : Bool := c == 1 || c == 2 || c == 3 || c == 5 || c == 6 || c == 7 || c == 8
theorem numbR_row (c : Int) : numbR c = (rowC c).n := by
  by_cases h : 1 ≤ c ∧ c ≤ 26
  · have hd : ∀ k : Nat, k < 26 → numbR ((k : Int) + 1) = (rowC ((k : Int) + 1)).n := by decide +kernel
    obtain ⟨k, rfl⟩ : ∃ k : Nat, c = (k : Int) + 1 := ⟨(c - 1).toNat, by omega⟩
    exact hd k (by omega)
  · rw [rowC_out h]
    unfold numbR
    simp [rw0]; omega
theorem numb_fn (G : Gh) (H : List Own) (c : Int) : Fn Tryz.prog 51 #[.int .i64 c] G H fun e G' H' => e = .returned (.bool (rowC c).n) ∧ G = G' ∧ H' = H := by
  rw [← numbR_row]
  refine Fn.enter Tryz.func51 rfl rfl fun w0 => ?_
  unfold numbR
  cases y1 : (c == 1) with
  | true =>
    refine gom ?_
    refine WC.ret ?_
    refine WK.un ?_
    exact QF.p1 (.inl rfl) rfl (.tmp rfl) (⟨rfl, rfl, rfl⟩)
  | false =>
  cases y2 : (c == 2) with
  | true =>
    refine gom ?_
    refine WC.ret ?_
    refine WK.un ?_
    exact QF.p1 (.inl rfl) rfl (.tmp rfl) (⟨rfl, rfl, rfl⟩)
  | false =>
  cases y3 : (c == 3) with
  | true =>
    refine gom ?_
    refine WC.ret ?_
    refine WK.un ?_
    exact QF.p1 (.inl rfl) rfl (.tmp rfl) (⟨rfl, rfl, rfl⟩)
  | false =>
  cases y5 : (c == 5) with
  | true =>
    refine gom ?_
    refine WC.ret ?_
    refine WK.un ?_
    exact QF.p1 (.inl rfl) rfl (.tmp rfl) (⟨rfl, rfl, rfl⟩)
  | false =>
  cases y6 : (c == 6) with
  | true =>
    refine gom ?_
    refine WC.ret ?_
    refine WK.un ?_
    exact QF.p1 (.inl rfl) rfl (.tmp rfl) (⟨rfl, rfl, rfl⟩)
  | false =>
  cases y7 : (c == 7) with
  | true =>
    refine gom ?_
    refine WC.ret ?_
    refine WK.un ?_
    exact QF.p1 (.inl rfl) rfl (.tmp rfl) (⟨rfl, rfl, rfl⟩)
  | false =>
    refine gom ?_
    refine WC.ret ?_
    refine WK.un ?_
    exact QF.p1 (.inl rfl) rfl (.tmp rfl) (⟨by simp, rfl, rfl⟩)
theorem lone_fn (G : Gh) (c n : Int) : Fn Tryz.prog 50 #[.agg #[.int .i64 c, .int .i64 n]] G [] fun e G' H' => e = .returned (.bool (mayR c n)) ∧ G = G' ∧ H' = [] := by
  refine Fn.enter Tryz.func50 rfl rfl fun w0 => ?_
  refine WC.seq ?_
  refine WC.region ?_
  refine WL.op (by kernel_rfl) (OW.box rfl rfl fun b1 => ?_)
  refine gom ?_
  refine WL.op (by kernel_rfl) (OW.callK rfl (ris_fn G c) rfl fun v' G' H' h hg => ?_)
  obtain ⟨he, rfl, rfl⟩ := h
  cases he
  rw [is_row, mayR]
  cases hb : ((rowC c).name != ⟨#[]⟩) with
  | false =>
    refine gom ?_
    refine WC.ret ?_
    refine WK.un ?_
    exact QF.p1 (.inl rfl) rfl (.tmp rfl) (⟨by simp, rfl, rfl⟩)
  | true =>
  cases h0 : decide (0 ≤ n) with
  | false =>
    refine gom ?_
    refine WC.ret ?_
    refine WK.un ?_
    exact QF.p1 (.inl rfl) rfl (.tmp rfl) (⟨by simp, rfl, rfl⟩)
  | true =>
  cases h1 : decide (n ≤ 2147483647) with
  | false =>
    refine gom ?_
    refine WC.ret ?_
    refine WK.un ?_
    exact QF.p1 (.inl rfl) rfl (.tmp rfl) (⟨by simp, rfl, rfl⟩)
  | true =>
  refine gom ?_
  refine WL.op (by kernel_rfl) (OW.callK rfl (numb_fn G [] c) rfl fun v' G' H' h hg => ?_)
  obtain ⟨he, rfl, rfl⟩ := h
  cases he
  cases h2 : (rowC c).n with
  | true =>
    refine gom ?_
    refine WC.ret ?_
    refine WK.un ?_
    exact QF.p1 (.inl rfl) rfl (.tmp rfl) (⟨by simp, rfl, rfl⟩)
  | false =>
    refine gom ?_
    refine WC.ret ?_
    refine WK.un ?_
    exact QF.p1 (.inl rfl) rfl (.tmp rfl) (⟨by simp, rfl, rfl⟩)
end Go.Proofs.YtkmigdmdppkpoaaGreatDoor.Gb
