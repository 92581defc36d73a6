/- Paths: walked. A procedure's head, an object's head: walked. All procedures of a world: walked. All procedures of a world: walked. Objects, what is ahead of their instructions: walked. What is ahead of a procedure's instructions: walked. Heights and Types: walked. The small object, which must be taken; and what is wrong with it when it gives another type. Pairs of numbers, compared. What must come, whatever else is so: walked. What must come, whatever else is so: walked. The document's words, paths, heads, values: walked. A text's pieces between slashes: the law of their search; no program in sight. -/
import Derived.Test.YtkmigdmdppkpoaaGreatDoorXe
import Derived.Laws.DeepStrings4
set_option linter.unusedVariables false
set_option linter.unusedSimpArgs false
set_option linter.unusedSectionVars false
namespace Go.Proofs.YtkmigdmdppkpoaaGreatDoor.Gb
open Go Go.Proofs
set_option linter.unusedVariables false
set_option linter.unusedSimpArgs false
set_option linter.unusedSectionVars false
attribute [local irreducible] Tryz.prog

/-- a text's pieces between slashes -/
def slashL (s : ByteArray) : List ByteArray := Lib.splitB ⟨#[47]⟩ 0 (Lib.countB s ⟨#[47]⟩) s
theorem slashL_length (s : ByteArray) : (slashL s).length = Lib.countB s ⟨#[47]⟩ + 1 := Lib.splitB_all ⟨#[47]⟩ (by decide) 0 _ s rfl
theorem Cs.strs {G : Gh} {b : Nat} {l : List ByteArray} (h : Cs G b 0 (l.map Value.string)) : Sl Kd.str G (some ⟨b, 0, none⟩) l := fun i x hx => ⟨b, 0, [.string x], rfl, rfl, fun j v e => by
  have h1 := h i (.string x) (by rw [List.getElem?_map, hx]; rfl)
  cases j with
  | zero => simp at e; subst e; show G b (0 + i * 1 + 0) = _; rw [Nat.mul_one, Nat.add_zero]; exact h1
  | succ j => simp at e⟩
theorem split_fn (G : Gh) (hE : Env G) (s : ByteArray) (hl : s.size ≤ 4000000000) :
    Fn Tryz.prog 150 #[.string s, .string ⟨#[47]⟩] G [] fun e G' H' => ∃ A, e = .returned (.slice A (slashL s).length (slashL s).length) ∧ G.le G' ∧ Sl Kd.str G' A (slashL s) ∧ H' = [] := fun w hs _ => by
  obtain ⟨m, hm⟩ := hE.mxl
  refine (Tryz.strings_Split s ⟨#[47]⟩ m w (by omega) (hs.cell0 hm) (by decide)).mono fun e w' ⟨he, hw⟩ => ?_
  subst hw
  have hal := hs.alloc (.cells ((slashL s).map Value.string).toArray 9)
  have hst : Stp (covs []) G w G (.blk w.heap.size (.cells ((slashL s).map Value.string).toArray 9 (0, 0)) :: []) (w.alloc (.cells ((slashL s).map Value.string).toArray 9)) := Stp.alloc _
  have hfr := hal.frozen .here
  refine ⟨_, [], ⟨some ⟨w.heap.size, 0, none⟩, ?_, hfr.1, Cs.strs fun i v e => ?_, rfl⟩, hfr.2, ⟨hst.size, hst.keep, hfr.1, fun b o v e => ?_, fun x hx => (by cases hx), hst.weq⟩⟩
  · rw [he, slashL_length]
  · rw [Nat.zero_add, Gh.add_at]; simpa using e
  · unfold Gh.add at e
    split at e
    · rename_i hb; right; right; omega
    · exact .inl e

def nameC (n : Int) : Bool := (decide (97 ≤ n) && decide (n ≤ 122) || (decide (65 ≤ n) && decide (n ≤ 90)) || (decide (48 ≤ n) && decide (n ≤ 57))) || (n == 46 || n == 95 || n == 45)
/-- is a piece a name? -/
def nameR (s : ByteArray) : Bool := decide (1 ≤ s.size) && decide (s.size ≤ 64) && !(s == ⟨#[46]⟩) && !(s == ⟨#[46, 46]⟩) && (bytesL s).all (fun c => nameC c.toNat)
theorem splitB_size (sep : ByteArray) : ∀ (k : Nat) (s : ByteArray) (x : ByteArray), x ∈ Lib.splitB sep 0 k s → x.size ≤ s.size
  | 0, s, x, h => by rw [Lib.splitB_zero] at h; cases List.mem_singleton.mp h; exact Nat.le_refl _
  | k + 1, s, x, h => by
    rw [Lib.splitB] at h
    split at h
    · cases List.mem_singleton.mp h; exact Nat.le_refl _
    · rcases List.mem_cons.mp h with e | h
      · rw [e, ByteArray.size_extract]; omega
      · have := splitB_size sep k _ x h
        rw [ByteArray.size_extract] at this; omega
theorem nameB1 {n : Int} (h1 : (n != 46) = true) (h2 : (n != 95) = true) (h3 : (n != 45) = true) : (n == 46 || n == 95 || n == 45) = false := by
  simp only [bne_iff_ne, ne_eq] at h1 h2 h3
  simp [h1, h2, h3]
set_option maxHeartbeats 4000000 in
theorem name_fn (G : Gh) (s : ByteArray) (hl : s.size ≤ 100000000000000) : Fn Tryz.prog 151 #[.string s] G [] fun e G' H' => e = .returned (.int .i64 (if nameR s then 0 else 42)) ∧ G = G' ∧ H' = [] := by
  have hbl := bytesL_length s
  refine Fn.enter Tryz.func151 rfl rfl fun w0 => ?_
  by_cases h1 : s.size < 1
  · have y1 : decide ((s.size : Int) < 1) = true := decide_eq_true (by omega)
    have hn : nameR s = false := by unfold nameR; rw [decide_eq_false (show ¬ 1 ≤ s.size by omega)]; rfl
    rw [hn]
    refine gom ?_
    refine WC.ret ?_
    refine WK.un ?_
    exact QF.p1 (.inl rfl) rfl (.tmp rfl) (⟨rfl, rfl, rfl⟩)
  have y1 : decide ((s.size : Int) < 1) = false := decide_eq_false (by omega)
  by_cases h2 : 64 < s.size
  · have y2 : decide ((64 : Int) < (s.size : Int)) = true := decide_eq_true (by omega)
    have hn : nameR s = false := by unfold nameR; rw [decide_eq_false (show ¬ s.size ≤ 64 by omega)]; simp
    rw [hn]
    refine gom ?_
    refine WC.ret ?_
    refine WK.un ?_
    exact QF.p1 (.inl rfl) rfl (.tmp rfl) (⟨rfl, rfl, rfl⟩)
  have y2 : decide ((64 : Int) < (s.size : Int)) = false := decide_eq_false (by omega)
  cases h3 : (s == ⟨#[46]⟩) with
  | true =>
    have hn : nameR s = false := by unfold nameR; rw [h3]; simp
    rw [hn]
    refine gom ?_
    rw [h3]
    refine gom ?_
    refine WC.ret ?_
    refine WK.un ?_
    exact QF.p1 (.inl rfl) rfl (.tmp rfl) (⟨rfl, rfl, rfl⟩)
  | false =>
  cases h4 : (s == ⟨#[46, 46]⟩) with
  | true =>
    have hn : nameR s = false := by unfold nameR; rw [h4]; simp
    rw [hn]
    refine gom ?_
    rw [h3]
    refine gom ?_
    rw [h4]
    refine gom ?_
    refine WC.ret ?_
    refine WK.un ?_
    exact QF.p1 (.inl rfl) rfl (.tmp rfl) (⟨rfl, rfl, rfl⟩)
  | false =>
  have hn : nameR s = (bytesL s).all (fun c => nameC c.toNat) := by
    unfold nameR; rw [h3, h4, decide_eq_true (show 1 ≤ s.size by omega), decide_eq_true (show s.size ≤ 64 by omega)]; simp
  rw [hn]
  refine gom ?_
  rw [h3]
  refine gom ?_
  rw [h4]
  refine gom ?_
  refine WC.loop (X := Nat) (fun i => [(0, .string s), (23, .int .i64 s.size), (24, .int .i64 i)]) (fun _ => G) (fun _ => []) (fun i => s.size - i) (fun i => i ≤ s.size ∧ ∀ j c, j < i → (bytesL s)[j]? = some c → nameC c.toNat = true) 0 ⟨Nat.zero_le _, fun j c h => by omega⟩ (by exact ⟨rfl, rfl, rfl, trivial⟩) rfl (List.Sublist.refl _) fun i hx => ?_
  obtain ⟨hi, hall⟩ := hx
  have x2 := wrapS i (by omega)
  by_cases hlt : i < s.size
  rotate_left
  · have e2 : decide ((i : Int) < (s.size : Int)) = false := decide_eq_false (by omega)
    refine gom ?_
    refine WC.ret ?_
    refine WK.un ?_
    exact QF.p1 (.inl rfl) rfl (.tmp rfl) (⟨by rw [all_of (f := fun c : UInt8 => nameC c.toNat) hall (by omega)]; rfl, rfl, rfl⟩)
  have e2 : decide ((i : Int) < (s.size : Int)) = true := decide_eq_true (by omega)
  obtain ⟨c, hc⟩ : ∃ c, (bytesL s)[i]? = some c := ⟨_, List.getElem?_eq_getElem (by omega)⟩
  refine gom ?_
  refine WL.p (Gp.indexS rfl rfl (by omega) hc) (by kernel_rfl) rfl ?_
  refine WL.p (Gp.assign rfl) (by kernel_rfl) rfl ?_
  obtain ⟨n, hnn⟩ : ∃ n : Int, n = (c.toNat : Int) := ⟨_, rfl⟩
  rw [← hnn]
  have good : nameC n = true → ∀ j d, j < i + 1 → (bytesL s)[j]? = some d → nameC d.toNat = true := fun hg => all_step (f := fun c : UInt8 => nameC c.toNat) hc hall (by rw [← hnn]; exact hg)
  have bad : nameC n = false → (bytesL s).all (fun c => nameC c.toNat) = false := fun hg => all_not (f := fun c : UInt8 => nameC c.toNat) hc (by rw [← hnn]; exact hg)
  cases a1 : decide (97 ≤ n) with
  | true =>
    cases b1 : decide (n ≤ 122) with
    | true =>
      have hg : nameC n = true := by unfold nameC; first | (rw [a1, b1]; rfl) | (rw [a1, b1, a2, b2]; rfl) | (rw [a1, a2, b2]; rfl) | (rw [a1, b1, a2, b2, a3, b3]; rfl) | (rw [a1, b1, a2, a3, b3]; rfl) | (rw [a1, a2, b2, a3, b3]; rfl) | (rw [a1, a2, a3, b3]; rfl)
      refine gom ?_
      exact WK.again (i + 1) (by omega) ⟨by omega, good hg⟩ (by exact ⟨rfl, rfl, rfl, trivial⟩) rfl (List.Sublist.refl _)
    | false =>
      cases a2 : decide (65 ≤ n) with
      | true =>
        cases b2 : decide (n ≤ 90) with
        | true =>
          have hg : nameC n = true := by unfold nameC; first | (rw [a1, b1]; rfl) | (rw [a1, b1, a2, b2]; rfl) | (rw [a1, a2, b2]; rfl) | (rw [a1, b1, a2, b2, a3, b3]; rfl) | (rw [a1, b1, a2, a3, b3]; rfl) | (rw [a1, a2, b2, a3, b3]; rfl) | (rw [a1, a2, a3, b3]; rfl)
          refine gom ?_
          exact WK.again (i + 1) (by omega) ⟨by omega, good hg⟩ (by exact ⟨rfl, rfl, rfl, trivial⟩) rfl (List.Sublist.refl _)
        | false =>
          cases a3 : decide (48 ≤ n) with
          | true =>
            cases b3 : decide (n ≤ 57) with
            | true =>
              have hg : nameC n = true := by unfold nameC; first | (rw [a1, b1]; rfl) | (rw [a1, b1, a2, b2]; rfl) | (rw [a1, a2, b2]; rfl) | (rw [a1, b1, a2, b2, a3, b3]; rfl) | (rw [a1, b1, a2, a3, b3]; rfl) | (rw [a1, a2, b2, a3, b3]; rfl) | (rw [a1, a2, a3, b3]; rfl)
              refine gom ?_
              exact WK.again (i + 1) (by omega) ⟨by omega, good hg⟩ (by exact ⟨rfl, rfl, rfl, trivial⟩) rfl (List.Sublist.refl _)
            | false =>
              cases q46 : (n != 46) with
              | false =>
                have hg : nameC n = true := by have : n = 46 := by simpa using q46
                                               subst this; rfl
                refine gom ?_
                exact WK.again (i + 1) (by omega) ⟨by omega, good hg⟩ (by exact ⟨rfl, rfl, rfl, trivial⟩) rfl (List.Sublist.refl _)
              | true =>
              cases q95 : (n != 95) with
              | false =>
                have hg : nameC n = true := by have : n = 95 := by simpa using q95
                                               subst this; rfl
                refine gom ?_
                exact WK.again (i + 1) (by omega) ⟨by omega, good hg⟩ (by exact ⟨rfl, rfl, rfl, trivial⟩) rfl (List.Sublist.refl _)
              | true =>
              cases q45 : (n != 45) with
              | false =>
                have hg : nameC n = true := by have : n = 45 := by simpa using q45
                                               subst this; rfl
                refine gom ?_
                exact WK.again (i + 1) (by omega) ⟨by omega, good hg⟩ (by exact ⟨rfl, rfl, rfl, trivial⟩) rfl (List.Sublist.refl _)
              | true =>
              have hb : nameC n = false := by unfold nameC; first | (rw [a1, b1, a2, b2, a3, b3, nameB1 q46 q95 q45]; rfl) | (rw [a1, b1, a2, b2, a3, nameB1 q46 q95 q45]; rfl) | (rw [a1, b1, a2, a3, b3, nameB1 q46 q95 q45]; rfl) | (rw [a1, b1, a2, a3, nameB1 q46 q95 q45]; rfl) | (rw [a1, a2, b2, a3, b3, nameB1 q46 q95 q45]; rfl) | (rw [a1, a2, b2, a3, nameB1 q46 q95 q45]; rfl) | (rw [a1, a2, a3, b3, nameB1 q46 q95 q45]; rfl) | (rw [a1, a2, a3, nameB1 q46 q95 q45]; rfl)
              refine gom ?_
              refine WC.ret ?_
              refine WK.un ?_
              exact QF.p1 (.inl rfl) rfl (.tmp rfl) (⟨by rw [bad hb]; rfl, rfl, rfl⟩)
          | false =>
            cases q46 : (n != 46) with
            | false =>
              have hg : nameC n = true := by have : n = 46 := by simpa using q46
                                             subst this; rfl
              refine gom ?_
              exact WK.again (i + 1) (by omega) ⟨by omega, good hg⟩ (by exact ⟨rfl, rfl, rfl, trivial⟩) rfl (List.Sublist.refl _)
            | true =>
            cases q95 : (n != 95) with
            | false =>
              have hg : nameC n = true := by have : n = 95 := by simpa using q95
                                             subst this; rfl
              refine gom ?_
              exact WK.again (i + 1) (by omega) ⟨by omega, good hg⟩ (by exact ⟨rfl, rfl, rfl, trivial⟩) rfl (List.Sublist.refl _)
            | true =>
            cases q45 : (n != 45) with
            | false =>
              have hg : nameC n = true := by have : n = 45 := by simpa using q45
                                             subst this; rfl
              refine gom ?_
              exact WK.again (i + 1) (by omega) ⟨by omega, good hg⟩ (by exact ⟨rfl, rfl, rfl, trivial⟩) rfl (List.Sublist.refl _)
            | true =>
            have hb : nameC n = false := by unfold nameC; first | (rw [a1, b1, a2, b2, a3, b3, nameB1 q46 q95 q45]; rfl) | (rw [a1, b1, a2, b2, a3, nameB1 q46 q95 q45]; rfl) | (rw [a1, b1, a2, a3, b3, nameB1 q46 q95 q45]; rfl) | (rw [a1, b1, a2, a3, nameB1 q46 q95 q45]; rfl) | (rw [a1, a2, b2, a3, b3, nameB1 q46 q95 q45]; rfl) | (rw [a1, a2, b2, a3, nameB1 q46 q95 q45]; rfl) | (rw [a1, a2, a3, b3, nameB1 q46 q95 q45]; rfl) | (rw [a1, a2, a3, nameB1 q46 q95 q45]; rfl)
            refine gom ?_
            refine WC.ret ?_
            refine WK.un ?_
            exact QF.p1 (.inl rfl) rfl (.tmp rfl) (⟨by rw [bad hb]; rfl, rfl, rfl⟩)
      | false =>
        cases a3 : decide (48 ≤ n) with
        | true =>
          cases b3 : decide (n ≤ 57) with
          | true =>
            have hg : nameC n = true := by unfold nameC; first | (rw [a1, b1]; rfl) | (rw [a1, b1, a2, b2]; rfl) | (rw [a1, a2, b2]; rfl) | (rw [a1, b1, a2, b2, a3, b3]; rfl) | (rw [a1, b1, a2, a3, b3]; rfl) | (rw [a1, a2, b2, a3, b3]; rfl) | (rw [a1, a2, a3, b3]; rfl)
            refine gom ?_
            exact WK.again (i + 1) (by omega) ⟨by omega, good hg⟩ (by exact ⟨rfl, rfl, rfl, trivial⟩) rfl (List.Sublist.refl _)
          | false =>
            cases q46 : (n != 46) with
            | false =>
              have hg : nameC n = true := by have : n = 46 := by simpa using q46
                                             subst this; rfl
              refine gom ?_
              exact WK.again (i + 1) (by omega) ⟨by omega, good hg⟩ (by exact ⟨rfl, rfl, rfl, trivial⟩) rfl (List.Sublist.refl _)
            | true =>
            cases q95 : (n != 95) with
            | false =>
              have hg : nameC n = true := by have : n = 95 := by simpa using q95
                                             subst this; rfl
              refine gom ?_
              exact WK.again (i + 1) (by omega) ⟨by omega, good hg⟩ (by exact ⟨rfl, rfl, rfl, trivial⟩) rfl (List.Sublist.refl _)
            | true =>
            cases q45 : (n != 45) with
            | false =>
              have hg : nameC n = true := by have : n = 45 := by simpa using q45
                                             subst this; rfl
              refine gom ?_
              exact WK.again (i + 1) (by omega) ⟨by omega, good hg⟩ (by exact ⟨rfl, rfl, rfl, trivial⟩) rfl (List.Sublist.refl _)
            | true =>
            have hb : nameC n = false := by unfold nameC; first | (rw [a1, b1, a2, b2, a3, b3, nameB1 q46 q95 q45]; rfl) | (rw [a1, b1, a2, b2, a3, nameB1 q46 q95 q45]; rfl) | (rw [a1, b1, a2, a3, b3, nameB1 q46 q95 q45]; rfl) | (rw [a1, b1, a2, a3, nameB1 q46 q95 q45]; rfl) | (rw [a1, a2, b2, a3, b3, nameB1 q46 q95 q45]; rfl) | (rw [a1, a2, b2, a3, nameB1 q46 q95 q45]; rfl) | (rw [a1, a2, a3, b3, nameB1 q46 q95 q45]; rfl) | (rw [a1, a2, a3, nameB1 q46 q95 q45]; rfl)
            refine gom ?_
            refine WC.ret ?_
            refine WK.un ?_
            exact QF.p1 (.inl rfl) rfl (.tmp rfl) (⟨by rw [bad hb]; rfl, rfl, rfl⟩)
        | false =>
          cases q46 : (n != 46) with
          | false =>
            have hg : nameC n = true := by have : n = 46 := by simpa using q46
                                           subst this; rfl
            refine gom ?_
            exact WK.again (i + 1) (by omega) ⟨by omega, good hg⟩ (by exact ⟨rfl, rfl, rfl, trivial⟩) rfl (List.Sublist.refl _)
          | true =>
          cases q95 : (n != 95) with
          | false =>
            have hg : nameC n = true := by have : n = 95 := by simpa using q95
                                           subst this; rfl
            refine gom ?_
            exact WK.again (i + 1) (by omega) ⟨by omega, good hg⟩ (by exact ⟨rfl, rfl, rfl, trivial⟩) rfl (List.Sublist.refl _)
          | true =>
          cases q45 : (n != 45) with
          | false =>
            have hg : nameC n = true := by have : n = 45 := by simpa using q45
                                           subst this; rfl
            refine gom ?_
            exact WK.again (i + 1) (by omega) ⟨by omega, good hg⟩ (by exact ⟨rfl, rfl, rfl, trivial⟩) rfl (List.Sublist.refl _)
          | true =>
          have hb : nameC n = false := by unfold nameC; first | (rw [a1, b1, a2, b2, a3, b3, nameB1 q46 q95 q45]; rfl) | (rw [a1, b1, a2, b2, a3, nameB1 q46 q95 q45]; rfl) | (rw [a1, b1, a2, a3, b3, nameB1 q46 q95 q45]; rfl) | (rw [a1, b1, a2, a3, nameB1 q46 q95 q45]; rfl) | (rw [a1, a2, b2, a3, b3, nameB1 q46 q95 q45]; rfl) | (rw [a1, a2, b2, a3, nameB1 q46 q95 q45]; rfl) | (rw [a1, a2, a3, b3, nameB1 q46 q95 q45]; rfl) | (rw [a1, a2, a3, nameB1 q46 q95 q45]; rfl)
          refine gom ?_
          refine WC.ret ?_
          refine WK.un ?_
          exact QF.p1 (.inl rfl) rfl (.tmp rfl) (⟨by rw [bad hb]; rfl, rfl, rfl⟩)
  | false =>
    cases a2 : decide (65 ≤ n) with
    | true =>
      cases b2 : decide (n ≤ 90) with
      | true =>
        have hg : nameC n = true := by unfold nameC; first | (rw [a1, b1]; rfl) | (rw [a1, b1, a2, b2]; rfl) | (rw [a1, a2, b2]; rfl) | (rw [a1, b1, a2, b2, a3, b3]; rfl) | (rw [a1, b1, a2, a3, b3]; rfl) | (rw [a1, a2, b2, a3, b3]; rfl) | (rw [a1, a2, a3, b3]; rfl)
        refine gom ?_
        exact WK.again (i + 1) (by omega) ⟨by omega, good hg⟩ (by exact ⟨rfl, rfl, rfl, trivial⟩) rfl (List.Sublist.refl _)
      | false =>
        cases a3 : decide (48 ≤ n) with
        | true =>
          cases b3 : decide (n ≤ 57) with
          | true =>
            have hg : nameC n = true := by unfold nameC; first | (rw [a1, b1]; rfl) | (rw [a1, b1, a2, b2]; rfl) | (rw [a1, a2, b2]; rfl) | (rw [a1, b1, a2, b2, a3, b3]; rfl) | (rw [a1, b1, a2, a3, b3]; rfl) | (rw [a1, a2, b2, a3, b3]; rfl) | (rw [a1, a2, a3, b3]; rfl)
            refine gom ?_
            exact WK.again (i + 1) (by omega) ⟨by omega, good hg⟩ (by exact ⟨rfl, rfl, rfl, trivial⟩) rfl (List.Sublist.refl _)
          | false =>
            cases q46 : (n != 46) with
            | false =>
              have hg : nameC n = true := by have : n = 46 := by simpa using q46
                                             subst this; rfl
              refine gom ?_
              exact WK.again (i + 1) (by omega) ⟨by omega, good hg⟩ (by exact ⟨rfl, rfl, rfl, trivial⟩) rfl (List.Sublist.refl _)
            | true =>
            cases q95 : (n != 95) with
            | false =>
              have hg : nameC n = true := by have : n = 95 := by simpa using q95
                                             subst this; rfl
              refine gom ?_
              exact WK.again (i + 1) (by omega) ⟨by omega, good hg⟩ (by exact ⟨rfl, rfl, rfl, trivial⟩) rfl (List.Sublist.refl _)
            | true =>
            cases q45 : (n != 45) with
            | false =>
              have hg : nameC n = true := by have : n = 45 := by simpa using q45
                                             subst this; rfl
              refine gom ?_
              exact WK.again (i + 1) (by omega) ⟨by omega, good hg⟩ (by exact ⟨rfl, rfl, rfl, trivial⟩) rfl (List.Sublist.refl _)
            | true =>
            have hb : nameC n = false := by unfold nameC; first | (rw [a1, b1, a2, b2, a3, b3, nameB1 q46 q95 q45]; rfl) | (rw [a1, b1, a2, b2, a3, nameB1 q46 q95 q45]; rfl) | (rw [a1, b1, a2, a3, b3, nameB1 q46 q95 q45]; rfl) | (rw [a1, b1, a2, a3, nameB1 q46 q95 q45]; rfl) | (rw [a1, a2, b2, a3, b3, nameB1 q46 q95 q45]; rfl) | (rw [a1, a2, b2, a3, nameB1 q46 q95 q45]; rfl) | (rw [a1, a2, a3, b3, nameB1 q46 q95 q45]; rfl) | (rw [a1, a2, a3, nameB1 q46 q95 q45]; rfl)
            refine gom ?_
            refine WC.ret ?_
            refine WK.un ?_
            exact QF.p1 (.inl rfl) rfl (.tmp rfl) (⟨by rw [bad hb]; rfl, rfl, rfl⟩)
        | false =>
          cases q46 : (n != 46) with
          | false =>
            have hg : nameC n = true := by have : n = 46 := by simpa using q46
                                           subst this; rfl
            refine gom ?_
            exact WK.again (i + 1) (by omega) ⟨by omega, good hg⟩ (by exact ⟨rfl, rfl, rfl, trivial⟩) rfl (List.Sublist.refl _)
          | true =>
          cases q95 : (n != 95) with
          | false =>
            have hg : nameC n = true := by have : n = 95 := by simpa using q95
                                           subst this; rfl
            refine gom ?_
            exact WK.again (i + 1) (by omega) ⟨by omega, good hg⟩ (by exact ⟨rfl, rfl, rfl, trivial⟩) rfl (List.Sublist.refl _)
          | true =>
          cases q45 : (n != 45) with
          | false =>
            have hg : nameC n = true := by have : n = 45 := by simpa using q45
                                           subst this; rfl
            refine gom ?_
            exact WK.again (i + 1) (by omega) ⟨by omega, good hg⟩ (by exact ⟨rfl, rfl, rfl, trivial⟩) rfl (List.Sublist.refl _)
          | true =>
          have hb : nameC n = false := by unfold nameC; first | (rw [a1, b1, a2, b2, a3, b3, nameB1 q46 q95 q45]; rfl) | (rw [a1, b1, a2, b2, a3, nameB1 q46 q95 q45]; rfl) | (rw [a1, b1, a2, a3, b3, nameB1 q46 q95 q45]; rfl) | (rw [a1, b1, a2, a3, nameB1 q46 q95 q45]; rfl) | (rw [a1, a2, b2, a3, b3, nameB1 q46 q95 q45]; rfl) | (rw [a1, a2, b2, a3, nameB1 q46 q95 q45]; rfl) | (rw [a1, a2, a3, b3, nameB1 q46 q95 q45]; rfl) | (rw [a1, a2, a3, nameB1 q46 q95 q45]; rfl)
          refine gom ?_
          refine WC.ret ?_
          refine WK.un ?_
          exact QF.p1 (.inl rfl) rfl (.tmp rfl) (⟨by rw [bad hb]; rfl, rfl, rfl⟩)
    | false =>
      cases a3 : decide (48 ≤ n) with
      | true =>
        cases b3 : decide (n ≤ 57) with
        | true =>
          have hg : nameC n = true := by unfold nameC; first | (rw [a1, b1]; rfl) | (rw [a1, b1, a2, b2]; rfl) | (rw [a1, a2, b2]; rfl) | (rw [a1, b1, a2, b2, a3, b3]; rfl) | (rw [a1, b1, a2, a3, b3]; rfl) | (rw [a1, a2, b2, a3, b3]; rfl) | (rw [a1, a2, a3, b3]; rfl)
          refine gom ?_
          exact WK.again (i + 1) (by omega) ⟨by omega, good hg⟩ (by exact ⟨rfl, rfl, rfl, trivial⟩) rfl (List.Sublist.refl _)
        | false =>
          cases q46 : (n != 46) with
          | false =>
            have hg : nameC n = true := by have : n = 46 := by simpa using q46
                                           subst this; rfl
            refine gom ?_
            exact WK.again (i + 1) (by omega) ⟨by omega, good hg⟩ (by exact ⟨rfl, rfl, rfl, trivial⟩) rfl (List.Sublist.refl _)
          | true =>
          cases q95 : (n != 95) with
          | false =>
            have hg : nameC n = true := by have : n = 95 := by simpa using q95
                                           subst this; rfl
            refine gom ?_
            exact WK.again (i + 1) (by omega) ⟨by omega, good hg⟩ (by exact ⟨rfl, rfl, rfl, trivial⟩) rfl (List.Sublist.refl _)
          | true =>
          cases q45 : (n != 45) with
          | false =>
            have hg : nameC n = true := by have : n = 45 := by simpa using q45
                                           subst this; rfl
            refine gom ?_
            exact WK.again (i + 1) (by omega) ⟨by omega, good hg⟩ (by exact ⟨rfl, rfl, rfl, trivial⟩) rfl (List.Sublist.refl _)
          | true =>
          have hb : nameC n = false := by unfold nameC; first | (rw [a1, b1, a2, b2, a3, b3, nameB1 q46 q95 q45]; rfl) | (rw [a1, b1, a2, b2, a3, nameB1 q46 q95 q45]; rfl) | (rw [a1, b1, a2, a3, b3, nameB1 q46 q95 q45]; rfl) | (rw [a1, b1, a2, a3, nameB1 q46 q95 q45]; rfl) | (rw [a1, a2, b2, a3, b3, nameB1 q46 q95 q45]; rfl) | (rw [a1, a2, b2, a3, nameB1 q46 q95 q45]; rfl) | (rw [a1, a2, a3, b3, nameB1 q46 q95 q45]; rfl) | (rw [a1, a2, a3, nameB1 q46 q95 q45]; rfl)
          refine gom ?_
          refine WC.ret ?_
          refine WK.un ?_
          exact QF.p1 (.inl rfl) rfl (.tmp rfl) (⟨by rw [bad hb]; rfl, rfl, rfl⟩)
      | false =>
        cases q46 : (n != 46) with
        | false =>
          have hg : nameC n = true := by have : n = 46 := by simpa using q46
                                         subst this; rfl
          refine gom ?_
          exact WK.again (i + 1) (by omega) ⟨by omega, good hg⟩ (by exact ⟨rfl, rfl, rfl, trivial⟩) rfl (List.Sublist.refl _)
        | true =>
        cases q95 : (n != 95) with
        | false =>
          have hg : nameC n = true := by have : n = 95 := by simpa using q95
                                         subst this; rfl
          refine gom ?_
          exact WK.again (i + 1) (by omega) ⟨by omega, good hg⟩ (by exact ⟨rfl, rfl, rfl, trivial⟩) rfl (List.Sublist.refl _)
        | true =>
        cases q45 : (n != 45) with
        | false =>
          have hg : nameC n = true := by have : n = 45 := by simpa using q45
                                         subst this; rfl
          refine gom ?_
          exact WK.again (i + 1) (by omega) ⟨by omega, good hg⟩ (by exact ⟨rfl, rfl, rfl, trivial⟩) rfl (List.Sublist.refl _)
        | true =>
        have hb : nameC n = false := by unfold nameC; first | (rw [a1, b1, a2, b2, a3, b3, nameB1 q46 q95 q45]; rfl) | (rw [a1, b1, a2, b2, a3, nameB1 q46 q95 q45]; rfl) | (rw [a1, b1, a2, a3, b3, nameB1 q46 q95 q45]; rfl) | (rw [a1, b1, a2, a3, nameB1 q46 q95 q45]; rfl) | (rw [a1, a2, b2, a3, b3, nameB1 q46 q95 q45]; rfl) | (rw [a1, a2, b2, a3, nameB1 q46 q95 q45]; rfl) | (rw [a1, a2, a3, b3, nameB1 q46 q95 q45]; rfl) | (rw [a1, a2, a3, nameB1 q46 q95 q45]; rfl)
        refine gom ?_
        refine WC.ret ?_
        refine WK.un ?_
        exact QF.p1 (.inl rfl) rfl (.tmp rfl) (⟨by rw [bad hb]; rfl, rfl, rfl⟩)
theorem names_fn (G : Gh) (hE : Env G) (s : ByteArray) (hl : s.size ≤ 4000000000) : Fn Tryz.prog 130 #[.string s] G [] fun e G' H' => ∃ A n cap, e = .returned (.tuple #[.slice A n cap, .int .i64 (if s == ⟨#[]⟩ || (decide ((slashL s).length ≤ 32) && (slashL s).all nameR) then 0 else 45)]) ∧ G.le G' ∧ H' = [] := by
  refine Fn.enter Tryz.func130 rfl rfl fun w0 => ?_
  cases h1 : (s == ⟨#[]⟩) with
  | true =>
    refine gom ?_
    rw [h1]
    refine gom ?_
    refine WC.ret ?_
    refine WK.un ?_
    exact QF.p2 (.inl rfl) rfl (.tmp rfl) (.tmp rfl) (⟨none, 0, 0, rfl, Gh.le_refl _, rfl⟩)
  | false =>
  rw [Bool.false_or]
  refine gom ?_
  rw [h1]
  refine gom ?_
  refine WL.op (by kernel_rfl) (OW.callK rfl (split_fn G hE s hl) rfl fun v' G' H' h hg => ?_)
  obtain ⟨A, he, hg1, hA, rfl⟩ := h
  cases he
  have hpl : ∀ x ∈ slashL s, x.size ≤ 100000000000000 := fun x hx => by have := splitB_size _ _ _ x hx; omega
  by_cases h2 : 32 < (slashL s).length
  · have y2 : decide ((32 : Int) < ((slashL s).length : Int)) = true := decide_eq_true (by omega)
    rw [decide_eq_false (show ¬ (slashL s).length ≤ 32 by omega), Bool.false_and]
    refine gom ?_
    refine WC.ret ?_
    refine WK.un ?_
    exact QF.p2 (.inl rfl) rfl (.tmp rfl) (.tmp rfl) (⟨none, 0, 0, rfl, hg1, rfl⟩)
  have y2 : decide ((32 : Int) < ((slashL s).length : Int)) = false := decide_eq_false (by omega)
  rw [decide_eq_true (show (slashL s).length ≤ 32 by omega), Bool.true_and]
  refine gom ?_
  refine WC.loop (X := Nat) (fun i => [(4, .slice A (slashL s).length (slashL s).length), (14, .slice A (slashL s).length (slashL s).length), (15, .int .i64 (slashL s).length), (16, .int .i64 i)]) (fun _ => G') (fun _ => []) (fun i => (slashL s).length - i) (fun i => i ≤ (slashL s).length ∧ ∀ j c, j < i → (slashL s)[j]? = some c → nameR c = true) 0 ⟨Nat.zero_le _, fun j c h => by omega⟩ (by exact ⟨rfl, rfl, rfl, rfl, trivial⟩) rfl (List.Sublist.refl _) fun i hx => ?_
  obtain ⟨hi, hall⟩ := hx
  have x2 := wrapS i (by omega)
  by_cases hlt : i < (slashL s).length
  rotate_left
  · have e2 : decide ((i : Int) < ((slashL s).length : Int)) = false := decide_eq_false (by omega)
    rw [all_of hall (by omega)]
    refine gom ?_
    refine WC.ret ?_
    refine WK.un ?_
    exact QF.p2 (.inl rfl) rfl (.tmp rfl) (.tmp rfl) (⟨A, _, _, rfl, hg1, rfl⟩)
  have e2 : decide ((i : Int) < ((slashL s).length : Int)) = true := decide_eq_true (by omega)
  obtain ⟨c, hc⟩ : ∃ c, (slashL s)[i]? = some c := ⟨_, List.getElem?_eq_getElem (by omega)⟩
  obtain ⟨b, o, cs, rfl, hk, hcs⟩ := hA i c hc
  obtain rfl : cs = [.string c] := hk
  have x0 : (0 : Int) ≤ (i : Int) := by omega
  have x1 : (i : Int) < ((slashL s).length : Int) := by omega
  refine gom ?_
  refine WL.op (by kernel_rfl) (OW.callK rfl (name_fn G' c (hpl c (List.mem_of_getElem? hc))) rfl fun v' G' H' h hg => ?_)
  obtain ⟨he, rfl, rfl⟩ := h
  cases he
  cases h3 : nameR c with
  | true =>
    refine gom ?_
    exact WK.again (i + 1) (by omega) ⟨by omega, all_step hc hall h3⟩ (by exact ⟨rfl, rfl, rfl, rfl, trivial⟩) rfl (List.nil_sublist _)
  | false =>
    rw [all_not hc h3]
    refine gom ?_
    refine WC.ret ?_
    refine WK.un ?_
    exact QF.p2 (.inl rfl) rfl (.tmp rfl) (.tmp rfl) (⟨none, 0, 0, rfl, hg1, rfl⟩)
/-- is a text a path? -/
def pathR (s : ByteArray) : Bool := s == ⟨#[]⟩ || (decide ((slashL s).length ≤ 32) && (slashL s).all nameR)
theorem pcheck_fn (G : Gh) (hE : Env G) (s : ByteArray) (hl : s.size ≤ 4000000000) : Fn Tryz.prog 105 #[.string s] G [] fun e G' H' => e = .returned (.int .i64 (if pathR s then 0 else 45)) ∧ G.le G' ∧ H' = [] := by
  refine Fn.enter Tryz.func105 rfl rfl fun w0 => ?_
  refine gom ?_
  refine WL.op (by kernel_rfl) (OW.callK rfl (names_fn G hE s hl) rfl fun v' G' H' h hg => ?_)
  obtain ⟨A, n, cap, he, hg1, rfl⟩ := h
  cases he
  refine gom ?_
  refine WC.ret ?_
  refine WK.un ?_
  exact QF.p1 (.inl rfl) rfl (.tmp rfl) (⟨rfl, hg1, rfl⟩)
def fileR (s : ByteArray) : Bool := !(s == ⟨#[]⟩) && pathR s
theorem file_fn (G : Gh) (hE : Env G) (s : ByteArray) (hl : s.size ≤ 4000000000) : Fn Tryz.prog 71 #[.string s] G [] fun e G' H' => e = .returned (.bool (fileR s)) ∧ G.le G' ∧ H' = [] := by
  refine Fn.enter Tryz.func71 rfl rfl fun w0 => ?_
  cases h1 : (s == ⟨#[]⟩) with
  | true =>
    refine gom ?_
    rw [h1]
    refine gom ?_
    refine WC.ret ?_
    refine WK.un ?_
    exact QF.p1 (.inl rfl) rfl (.tmp rfl) (⟨by rw [fileR, h1]; rfl, Gh.le_refl _, rfl⟩)
  | false =>
    refine gom ?_
    rw [h1]
    refine gom ?_
    refine WL.op (by kernel_rfl) (OW.callK rfl (pcheck_fn G hE s hl) rfl fun v' G' H' h hg => ?_)
    obtain ⟨he, hg1, rfl⟩ := h
    cases he
    cases h2 : pathR s with
    | true =>
      refine gom ?_
      refine WC.ret ?_
      refine WK.un ?_
      exact QF.p1 (.inl rfl) rfl (.tmp rfl) (⟨by rw [fileR, h1, h2]; rfl, hg1, rfl⟩)
    | false =>
      refine gom ?_
      refine WC.ret ?_
      refine WK.un ?_
      exact QF.p1 (.inl rfl) rfl (.tmp rfl) (⟨by rw [fileR, h1, h2]; rfl, hg1, rfl⟩)
end Go.Proofs.YtkmigdmdppkpoaaGreatDoor.Gb
namespace Go.Proofs.YtkmigdmdppkpoaaGreatDoor.Gb
open Go Go.Proofs
set_option linter.unusedVariables false
set_option linter.unusedSimpArgs false
set_option linter.unusedSectionVars false
attribute [local irreducible] Tryz.prog

/-- may a procedure's head be? -/
def procR (p : Pr) : Bool := wordR p.name && (headR p.params p.result && (decide ((p.params.length : Int) ≤ p.locals) && (decide (p.locals ≤ 64) && (decide (1 ≤ (p.code.length : Int)) && decide ((p.code.length : Int) ≤ 16384)))))
theorem proc_fn (G : Gh) (hE : Env G) (p : Pr) (QA IA : Option Addr) (qc ic : Nat) (hq : Sl (Kd.int .i64) G QA p.params) (hl : p.name.size ≤ 100000000000000) (hql : p.params.length ≤ 100000000000000) :
    Fn Tryz.prog 75 #[.agg (prC p QA qc IA ic)] G [] fun e G' H' => e = .returned (.bool (procR p)) ∧ G = G' ∧ H' = [] := by
  refine Fn.enter Tryz.func75 rfl rfl fun w0 => ?_
  refine WC.seq ?_
  refine WC.region ?_
  refine WL.op (by kernel_rfl) (OW.box rfl rfl fun b1 => ?_)
  refine gom ?_
  refine WL.op (by kernel_rfl) (OW.callK rfl (word_fn G hE p.name hl) rfl fun v' G' H' h hg => ?_)
  obtain ⟨he, rfl, rfl⟩ := h
  cases he
  cases h1 : wordR p.name with
  | false =>
    have hr : procR p = false := by rw [procR, h1, Bool.false_and]
    rw [hr]
    refine gom ?_
    refine WC.ret ?_
    refine WK.un ?_
    exact QF.p1 (.inl rfl) rfl (.tmp rfl) (⟨rfl, rfl, rfl⟩)
  | true =>
  refine gom ?_
  refine WL.op (by kernel_rfl) (OW.callK rfl (head_fn G QA p.params qc p.result hq hql) rfl fun v' G' H' h hg => ?_)
  obtain ⟨he, rfl, rfl⟩ := h
  cases he
  cases h2 : headR p.params p.result with
  | false =>
    have hr : procR p = false := by rw [procR, h1, h2, Bool.true_and, Bool.false_and]
    rw [hr]
    refine gom ?_
    refine WC.ret ?_
    refine WK.un ?_
    exact QF.p1 (.inl rfl) rfl (.tmp rfl) (⟨rfl, rfl, rfl⟩)
  | true =>
  cases h3 : decide ((p.params.length : Int) ≤ p.locals) with
  | false =>
    have hr : procR p = false := by rw [procR, h1, h2, h3, Bool.true_and, Bool.true_and, Bool.false_and]
    rw [hr]
    refine gom ?_
    refine WC.ret ?_
    refine WK.un ?_
    exact QF.p1 (.inl rfl) rfl (.tmp rfl) (⟨rfl, rfl, rfl⟩)
  | true =>
  cases h4 : decide (p.locals ≤ 64) with
  | false =>
    have hr : procR p = false := by rw [procR, h1, h2, h3, h4, Bool.true_and, Bool.true_and, Bool.true_and, Bool.false_and]
    rw [hr]
    refine gom ?_
    refine WC.ret ?_
    refine WK.un ?_
    exact QF.p1 (.inl rfl) rfl (.tmp rfl) (⟨rfl, rfl, rfl⟩)
  | true =>
  cases h5 : decide (1 ≤ (p.code.length : Int)) with
  | false =>
    have hr : procR p = false := by rw [procR, h1, h2, h3, h4, h5, Bool.true_and, Bool.true_and, Bool.true_and, Bool.true_and, Bool.false_and]
    rw [hr]
    refine gom ?_
    refine WC.ret ?_
    refine WK.un ?_
    exact QF.p1 (.inl rfl) rfl (.tmp rfl) (⟨rfl, rfl, rfl⟩)
  | true =>
  have hr : procR p = decide ((p.code.length : Int) ≤ 16384) := by rw [procR, h1, h2, h3, h4, h5, Bool.true_and, Bool.true_and, Bool.true_and, Bool.true_and, Bool.true_and]
  rw [hr]
  refine gom ?_
  refine WC.ret ?_
  refine WK.un ?_
  exact QF.p1 (.inl rfl) rfl (.tmp rfl) (⟨rfl, rfl, rfl⟩)

/-- an object -/
structure Ob where
  path : ByteArray
  consts : List V
  needs : List Nd
  procs : List Pr
def Ob.wd (o : Ob) : Wd := ⟨o.consts, o.needs, o.procs⟩
def obC (o : Ob) (CA NA PA : Option Addr) (cc nc pc : Nat) : Array Value := #[.string o.path, .slice CA o.consts.length cc, .slice NA o.needs.length nc, .slice PA o.procs.length pc]
/-- how large an object may be -/
structure OLim (o : Ob) : Prop where
  path : o.path.size ≤ 4000000000
  cl : o.consts.length ≤ 100000000000000
  nl : o.needs.length ≤ 100000000000000
  pl : o.procs.length ≤ 100000000000000
  nd : ∀ q ∈ o.needs, q.params.length ≤ 100000000000000 ∧ q.path.size ≤ 4000000000 ∧ q.name.size ≤ 100000000000000
  pr : ∀ q ∈ o.procs, q.params.length ≤ 100000000000000 ∧ q.code.length ≤ 100000000000000 ∧ q.name.size ≤ 100000000000000
structure ORep (G : Gh) (o : Ob) (CA NA PA : Option Addr) : Prop where
  consts : Sl Kd.val G CA o.consts
  needs : Sl Kd.ned G NA o.needs
  procs : Sl Kd.prc G PA o.procs
theorem ORep.mono {G G' : Gh} {o : Ob} {CA NA PA : Option Addr} (h : ORep G o CA NA PA) (hg : G.le G') : ORep G' o CA NA PA := ⟨h.consts.mono hg, h.needs.mono hg, h.procs.mono hg⟩
def needR (n : Nd) : Bool := fileR n.path && (wordR n.name && headR n.params n.result)
def objR (o : Ob) : Bool := fileR o.path && (o.consts.all valueR && (decide ((o.consts.length : Int) ≤ 4096) && (decide ((o.needs.length : Int) ≤ 4096) && (decide ((o.procs.length : Int) ≤ 128) && o.needs.all needR))))
theorem dgt {a b : Int} {q : Bool} (h : decide (a ≤ b) = q) : decide (b < a) = !q := by
  cases q with
  | true => have := of_decide_eq_true h; exact decide_eq_false (by omega)
  | false => have := of_decide_eq_false h; exact decide_eq_true (by omega)

theorem object_fn (G : Gh) (hE : Env G) (o : Ob) (CA NA PA : Option Addr) (cc nc pc : Nat) (hO : ORep G o CA NA PA) (hL : OLim o) :
    Fn Tryz.prog 41 #[.agg (obC o CA NA PA cc nc pc)] G [] fun e G' H' => e = .returned (.bool (objR o)) ∧ G.le G' ∧ H' = [] := by
  have hnl := hL.nl
  refine Fn.enter Tryz.func41 rfl rfl fun w0 => ?_
  refine WC.seq ?_
  refine WC.region ?_
  refine WL.op (by kernel_rfl) (OW.box rfl rfl fun b1 => ?_)
  refine gom ?_
  refine WL.op (by kernel_rfl) (OW.callK rfl (file_fn G hE o.path hL.path) rfl fun v' G' H' h hg => ?_)
  obtain ⟨he, hg1, rfl⟩ := h
  cases he
  have hO1 := hO.mono hg1
  cases h1 : fileR o.path with
  | false =>
    have hr : objR o = false := by rw [objR, h1, Bool.false_and]
    rw [hr]
    refine gom ?_
    refine WC.ret ?_
    refine WK.un ?_
    exact QF.p1 (.inl rfl) rfl (.tmp rfl) (⟨rfl, hg1, rfl⟩)
  | true =>
  refine gom ?_
  refine WL.op (by kernel_rfl) (OW.callK rfl (values_fn G' CA o.consts cc hO1.consts hL.cl) rfl fun v' G' H' h hg => ?_)
  obtain ⟨he, rfl, rfl⟩ := h
  cases he
  cases h2 : o.consts.all valueR with
  | false =>
    have hr : objR o = false := by rw [objR, h1, h2, Bool.true_and, Bool.false_and]
    rw [hr]
    refine gom ?_
    refine WC.ret ?_
    refine WK.un ?_
    exact QF.p1 (.inl rfl) rfl (.tmp rfl) (⟨rfl, hg1, rfl⟩)
  | true =>
  cases h3 : decide ((o.consts.length : Int) ≤ 4096) with
  | false =>
    have hr : objR o = false := by rw [objR, h1, h2, h3, Bool.true_and, Bool.true_and, Bool.false_and]
    have y3 := dgt h3
    rw [hr]
    refine gom ?_
    refine WC.ret ?_
    refine WK.un ?_
    exact QF.p1 (.inl rfl) rfl (.tmp rfl) (⟨rfl, hg1, rfl⟩)
  | true =>
  have y3 := dgt h3
  cases h4 : decide ((o.needs.length : Int) ≤ 4096) with
  | false =>
    have hr : objR o = false := by rw [objR, h1, h2, h3, h4, Bool.true_and, Bool.true_and, Bool.true_and, Bool.false_and]
    have y4 := dgt h4
    rw [hr]
    refine gom ?_
    refine WC.ret ?_
    refine WK.un ?_
    exact QF.p1 (.inl rfl) rfl (.tmp rfl) (⟨rfl, hg1, rfl⟩)
  | true =>
  have y4 := dgt h4
  cases h5 : decide ((o.procs.length : Int) ≤ 128) with
  | false =>
    have hr : objR o = false := by rw [objR, h1, h2, h3, h4, h5, Bool.true_and, Bool.true_and, Bool.true_and, Bool.true_and, Bool.false_and]
    have y5 := dgt h5
    rw [hr]
    refine gom ?_
    refine WC.ret ?_
    refine WK.un ?_
    exact QF.p1 (.inl rfl) rfl (.tmp rfl) (⟨rfl, hg1, rfl⟩)
  | true =>
  have y5 := dgt h5
  have hr : objR o = o.needs.all needR := by rw [objR, h1, h2, h3, h4, h5, Bool.true_and, Bool.true_and, Bool.true_and, Bool.true_and, Bool.true_and]
  rw [hr]
  refine gom ?_
  refine WC.loop (X := Nat × Gh) (fun x => [(34, .slice NA o.needs.length nc), (35, .int .i64 o.needs.length), (36, .int .i64 x.1)]) (fun x => x.2) (fun _ => []) (fun x => o.needs.length - x.1) (fun x => x.1 ≤ o.needs.length ∧ G.le x.2 ∧ ∀ j y, j < x.1 → o.needs[j]? = some y → needR y = true) (0, G') ⟨Nat.zero_le _, hg1, fun j y h => by omega⟩ (by exact ⟨rfl, rfl, rfl, trivial⟩) rfl (List.nil_sublist _) fun x hx => ?_
  obtain ⟨i, G1⟩ := x
  obtain ⟨hi, hg1, hall⟩ := hx
  dsimp only at hi hg1 hall
  have x2 := wrapS i (by omega)
  by_cases hlt : i < o.needs.length
  rotate_left
  · have e2 : decide ((i : Int) < (o.needs.length : Int)) = false := decide_eq_false (by omega)
    rw [all_of hall (by omega)]
    refine gom ?_
    refine WC.ret ?_
    refine WK.un ?_
    exact QF.p1 (.inl rfl) rfl (.tmp rfl) (⟨rfl, hg1, rfl⟩)
  have e2 : decide ((i : Int) < (o.needs.length : Int)) = true := decide_eq_true (by omega)
  obtain ⟨c, hc⟩ : ∃ c, o.needs[i]? = some c := ⟨_, List.getElem?_eq_getElem (by omega)⟩
  obtain ⟨hcp, hcf, hcn⟩ := hL.nd c (List.mem_of_getElem? hc)
  have hO2 := hO.mono hg1
  obtain ⟨b, ofs, cs, rfl, hk, hcs⟩ := hO2.needs i c hc
  obtain ⟨QA, qc, rfl, hQ⟩ := hk
  have x0 : (0 : Int) ≤ (i : Int) := by omega
  have x1 : (i : Int) < (o.needs.length : Int) := by omega
  refine gom ?_
  refine WL.op (by kernel_rfl) (OW.alloc rfl fun b4 => ?_)
  refine gom ?_
  refine WL.op (by kernel_rfl) (OW.callK rfl (file_fn G1 (hE.mono hg1) c.path hcf) rfl fun v' G' H' h hg => ?_)
  obtain ⟨he, hg2, rfl⟩ := h
  cases he
  have hg3 := Gh.le_trans hg1 hg2
  cases h6 : fileR c.path with
  | false =>
    rw [all_not hc (show needR c = false by rw [needR, h6, Bool.false_and])]
    refine gom ?_
    refine WC.ret ?_
    refine WK.un ?_
    exact QF.p1 (.inl rfl) rfl (.tmp rfl) (⟨rfl, hg3, rfl⟩)
  | true =>
  refine gom ?_
  refine WL.op (by kernel_rfl) (OW.callK rfl (word_fn _ (hE.mono hg3) c.name hcn) rfl fun v' G' H' h hg => ?_)
  obtain ⟨he, rfl, rfl⟩ := h
  cases he
  cases h7 : wordR c.name with
  | false =>
    rw [all_not hc (show needR c = false by rw [needR, h6, h7, Bool.true_and, Bool.false_and])]
    refine gom ?_
    refine WC.ret ?_
    refine WK.un ?_
    exact QF.p1 (.inl rfl) rfl (.tmp rfl) (⟨rfl, hg3, rfl⟩)
  | true =>
  refine gom ?_
  refine WL.op (by kernel_rfl) (OW.callK rfl (head_fn _ QA c.params qc c.result (hQ.mono hg2) hcp) rfl fun v' G' H' h hg => ?_)
  obtain ⟨he, rfl, rfl⟩ := h
  cases he
  cases h8 : headR c.params c.result with
  | false =>
    rw [all_not hc (show needR c = false by rw [needR, h6, h7, h8]; rfl)]
    refine gom ?_
    refine WC.ret ?_
    refine WK.un ?_
    exact QF.p1 (.inl rfl) rfl (.tmp rfl) (⟨rfl, hg3, rfl⟩)
  | true =>
    refine gom ?_
    exact WK.again (i + 1, _) (by dsimp only; omega) ⟨by dsimp only; omega, hg3, all_step hc hall (by rw [needR, h6, h7, h8]; rfl)⟩ (by exact ⟨rfl, rfl, rfl, trivial⟩) rfl (List.nil_sublist _)
end Go.Proofs.YtkmigdmdppkpoaaGreatDoor.Gb
namespace Go.Proofs.YtkmigdmdppkpoaaGreatDoor.Gb
open Go Go.Proofs Go.MapKept
set_option linter.unusedVariables false
set_option linter.unusedSimpArgs false
set_option linter.unusedSectionVars false
attribute [local irreducible] Tryz.prog

open Classical in
/-- the states ahead of each instruction -/
noncomputable def flowOf (w : Wd) (p : Pr) : List SS := if h : ∃ l, Least w p l then h.choose else []
theorem Least.flow {w : Wd} {p : Pr} {l : List SS} (h : Least w p l) : flowOf w p = l := by
  have hx : ∃ l, Least w p l := ⟨l, h⟩
  unfold flowOf
  rw [dif_pos hx]
  exact Least.unique hx.choose_spec h
def aloneAt (w : Wd) (p : Pr) (k : Nat) : Int := match p.code[k]? with | some i => aloneR w p i | none => 0
open Classical in
/-- what is wrong with a procedure -/
noncomputable def procOut (w : Wd) (seen : List ByteArray) (p : Pr) : Int × Int :=
  if procR p = false ∨ p.name ∈ seen then (0, 185)
  else if (firstR p.code.length (aloneAt w p)).2 ≠ 0 then firstR p.code.length (aloneAt w p)
  else wrongR w p (flowOf w p)
noncomputable def outAt (w : Wd) (k : Nat) : Int × Int := match w.procs[k]? with | some p => procOut w ((w.procs.take k).map (·.name)) p | none => (0, 0)
noncomputable def allR (w : Wd) : Int × Int × Int :=
  match (List.range w.procs.length).find? (fun k => (outAt w k).2 != 0) with
  | some k => ((k : Int), (outAt w k).1, (outAt w k).2)
  | none => (0, 0, 0)
theorem allR_at {w : Wd} {k : Nat} (hk : k < w.procs.length) (h0 : ∀ j, j < k → (outAt w j).2 = 0) (h1 : (outAt w k).2 ≠ 0) : allR w = ((k : Int), (outAt w k).1, (outAt w k).2) := by
  unfold allR
  rw [find_range hk (fun j hj => by simp [h0 j hj]) (by simpa using h1)]
theorem allR_none {w : Wd} (h0 : ∀ j, j < w.procs.length → (outAt w j).2 = 0) : allR w = (0, 0, 0) := by
  unfold allR
  rw [List.find?_eq_none.2 (fun j hj => by simp [h0 j (by simpa using hj)])]
theorem alone_ok {w : Wd} {p : Pr} {i : Int × Int} (h : aloneR w p i = 0) : 0 ≤ i.2 ∧ EOk w p.locals.toNat i.1 i.2.toNat := by
  have hm : mayR i.1 i.2 = true := by
    cases hm : mayR i.1 i.2 with
    | true => rfl
    | false => unfold aloneR at h; rw [if_pos hm] at h; cases h
  have h0 : 0 ≤ i.2 := by
    unfold mayR at hm
    simp only [Bool.and_eq_true, decide_eq_true_eq] at hm
    exact hm.2.1
  unfold aloneR at h
  rw [if_neg (by rw [hm]; simp)] at h
  have hn : ¬ (if i.1 = 1 then (w.consts.length : Int) else if i.1 = 2 ∨ i.1 = 3 then p.locals else if i.1 = 7 then (w.procs.length : Int) else if i.1 = 8 then (w.needs.length : Int) else 2147483647) ≤ i.2 := fun hc => by
    rw [if_pos hc] at h
    exact absurd h (by split <;> decide)
  refine ⟨h0, ⟨fun e => ?_, fun e => ?_, fun e => ?_, fun e => ?_, fun e => ?_⟩⟩ <;> rw [e] at hn <;> simp at hn <;> omega
theorem procR_head {p : Pr} (h : procR p = true) : (p.params.length : Int) ≤ p.locals ∧ p.locals ≤ 64 ∧ 0 < p.code.length ∧ p.code.length ≤ 16384 := by
  unfold procR at h
  simp only [Bool.and_eq_true, decide_eq_true_eq] at h
  obtain ⟨_, _, h1, h2, h3, h4⟩ := h
  exact ⟨h1, h2, by omega, by omega⟩
theorem pok_of {w : Wd} {p : Pr} (h : procR p = true) (ha : ∀ (k : Nat) (i : Int × Int), p.code[k]? = some i → aloneR w p i = 0) : POk w p :=
  let ⟨h1, h2, h3, h4⟩ := procR_head h
  ⟨h1, h2, h3, h4, fun k i hi => alone_ok (ha k i hi)⟩

/-- names, each told once -/
def namesM (l : List Pr) : List (ByteArray × Value) := l.map fun p => (p.name, .int .i64 1)
theorem namesM_keys (l : List Pr) : (namesM l).map (·.1) = l.map (·.name) := by rw [namesM, List.map_map]; rfl
theorem getA_namesM {l : List Pr} {n : ByteArray} (h : n ∈ l.map (·.name)) : getA (namesM l) n = some (.int .i64 1) := by
  unfold getA
  cases hf : (namesM l).find? (fun p => decide (p.1 = n)) with
  | none =>
    rw [List.find?_eq_none] at hf
    obtain ⟨p, hp, rfl⟩ := List.mem_map.1 h
    exact absurd (decide_eq_true rfl) (hf (p.name, .int .i64 1) (List.mem_map.2 ⟨p, hp, rfl⟩))
  | some q =>
    have := List.mem_of_find?_eq_some hf
    obtain ⟨p, hp, rfl⟩ := List.mem_map.1 this
    rfl
theorem getA_setA {κ : Type} [DecidableEq κ] (m : List (κ × Value)) (k : κ) (v : Value) : getA (setA m k v) k = some v := by
  unfold setA getA
  split
  · rename_i h
    obtain ⟨p, hp, hk⟩ := List.mem_map.1 h
    cases hf : (m.map (fun p => if p.1 = k then (k, v) else p)).find? (fun p => decide (p.1 = k)) with
    | none =>
      rw [List.find?_eq_none] at hf
      exact absurd (decide_eq_true rfl) (hf (k, v) (List.mem_map.2 ⟨p, hp, by simp [hk]⟩))
    | some q =>
      have h1 := List.mem_of_find?_eq_some hf
      have h2 := List.find?_some hf
      obtain ⟨r, hr, rfl⟩ := List.mem_map.1 h1
      by_cases hrk : r.1 = k
      · simp [hrk]
      · simp [hrk] at h2
  · rename_i h
    have hn : m.find? (fun p => decide (p.1 = k)) = none := by
      rw [List.find?_eq_none]
      intro p hp hk
      exact h (List.mem_map.2 ⟨p, hp, by simpa using hk⟩)
    rw [List.find?_append, hn]
    simp
theorem outAt_eq {w : Wd} {k : Nat} {p : Pr} (h : w.procs[k]? = some p) : outAt w k = procOut w ((w.procs.take k).map (·.name)) p := by unfold outAt; rw [h]
theorem take_snoc' {α : Type} {l : List α} {k : Nat} {x : α} (h : l[k]? = some x) : l.take (k + 1) = l.take k ++ [x] := by
  rw [List.take_add_one, h]; rfl
end Go.Proofs.YtkmigdmdppkpoaaGreatDoor.Gb
namespace Go.Proofs.YtkmigdmdppkpoaaGreatDoor.Gb
open Go Go.Proofs Go.MapKept
set_option linter.unusedVariables false
set_option linter.unusedSimpArgs false
set_option linter.unusedSectionVars false
attribute [local irreducible] Tryz.prog

structure AL where
  k : Nat
  G : Gh
  es : Array MapEntry
  ck : Nat
def okSoFar (w : Wd) (k : Nat) : Prop := ∀ j, j < k → (outAt w j).2 = 0
abbrev spB (b : Nat) : Own := .blk b (.cells #[.int .i64 0, .int .i64 0] 39 (0, 0))
theorem name_new {w : Wd} {k : Nat} {p : Pr} (hp : w.procs[k]? = some p) (h : (outAt w k).2 = 0) : p.name ∉ (w.procs.take k).map (·.name) := fun hm => by
  rw [outAt_eq hp, procOut, if_pos (.inr hm)] at h
  cases h
theorem okSoFar_nodup {w : Wd} : ∀ {k : Nat}, k ≤ w.procs.length → okSoFar w k → ((w.procs.take k).map (·.name)).Nodup
  | 0, _, _ => by simp
  | k + 1, hk, h => by
    obtain ⟨p, hp⟩ : ∃ p, w.procs[k]? = some p := ⟨_, List.getElem?_eq_getElem (by omega)⟩
    rw [take_snoc' hp, List.map_append, List.nodup_append]
    refine ⟨okSoFar_nodup (by omega) fun j hj => h j (by omega), by simp, fun a ha b hb e => ?_⟩
    obtain rfl : b = p.name := by simpa using hb
    exact name_new hp (h k (by omega)) (e ▸ ha)

set_option maxHeartbeats 4000000 in
theorem wall_fn (G : Gh) (hE : Env G) (w : Wd) (bw : Nat) (CA NA PA : Option Addr) (cc nc pc : Nat) (hW : WRep G w bw CA NA PA cc nc pc) (hpr : ∀ q ∈ w.procs, q.code.length ≤ 100000000000000 ∧ q.name.size ≤ 100000000000000) :
    Fn Tryz.prog 42 #[.pointer (some ⟨bw, 0, none⟩), .bool false] G [] fun e G' H' => e = .returned (.tuple #[.agg #[.int .i64 (allR w).1, .int .i64 (allR w).2.1], .int .i64 (allR w).2.2]) ∧ G.le G' ∧ H' = [] := by
  have hwc := hW.cells
  have hpl := hW.pl
  refine Fn.enter Tryz.func42 rfl rfl fun w0 => ?_
  refine WC.seq ?_
  refine WC.region ?_
  refine WL.op (by kernel_rfl) (OW.alloc rfl fun b4 => ?_)
  refine gom ?_
  refine WL.op (by kernel_rfl) (OW.makeMap rfl fun bm => ?_)
  refine gom ?_
  refine WC.loop (X := AL) (fun x => [(0, .pointer (some ⟨bw, 0, none⟩)), (1, .bool false), (4, .pointer (some ⟨b4, 0, none⟩)), (6, .map (some bm)), (18, .slice PA w.procs.length pc), (19, .int .i64 w.procs.length), (20, .int .i64 x.k)]) (fun x => x.G) (fun x => [.blk bm (.map x.es x.ck), spB b4]) (fun x => w.procs.length - x.k) (fun x => x.k ≤ w.procs.length ∧ G.le x.G ∧ okSoFar w x.k ∧ MRel Value.string .string x.es x.ck (namesM (w.procs.take x.k))) ⟨0, G, #[], 0⟩ ⟨Nat.zero_le _, Gh.le_refl _, (fun j h => absurd h (Nat.not_lt_zero _)), MRel.empty⟩ (by exact ⟨rfl, rfl, rfl, rfl, rfl, rfl, rfl, trivial⟩) rfl (List.Sublist.refl _) fun x hx => ?_
  obtain ⟨k, G1, es, ck⟩ := x
  obtain ⟨hk, hg1, hok, hm⟩ := hx
  dsimp only at hk hg1 hok hm
  have x2 := wrapS k (by omega)
  by_cases hlt : k < w.procs.length
  rotate_left
  · have e2 : decide ((k : Int) < (w.procs.length : Int)) = false := decide_eq_false (by omega)
    refine gom ?_
    refine WC.ret ?_
    refine WK.un ?_
    exact QF.p2 (.inl rfl) rfl (.cell rfl inferInstance inferInstance (by (repeat first | exact .here | apply At.there)) rfl rfl) (.tmp rfl) (⟨by rw [allR_none fun j hj => hok j (by omega)]; rfl, hg1, rfl⟩)
  have e2 : decide ((k : Int) < (w.procs.length : Int)) = true := decide_eq_true (by omega)
  obtain ⟨p, hp⟩ : ∃ p, w.procs[k]? = some p := ⟨_, List.getElem?_eq_getElem (by omega)⟩
  have hW1 := hW.mono hg1
  obtain ⟨b, ofs, cs, rfl, hks, hcs⟩ := hW1.procs k p hp
  obtain ⟨QA, qc, IA, ic, rfl, hQ, hI⟩ := hks
  have hpm := List.mem_of_getElem? hp
  obtain ⟨hpc, hpn⟩ := hpr p hpm
  have hpq := hW.pp p hpm
  have x0 : (0 : Int) ≤ (k : Int) := by omega
  have x1 : (k : Int) < (w.procs.length : Int) := by omega
  have hnd := okSoFar_nodup hk hok
  have hout := outAt_eq hp
  have w1 : IntKind.i64.wrap (1 + 1) = 2 := rfl
  have w2 : IntKind.i64.wrap (0 + 1) = 1 := rfl
  refine gom ?_
  refine WL.op (by kernel_rfl) (OW.alloc rfl fun b8 => ?_)
  refine gom ?_
  by_cases hin : p.name ∈ (w.procs.take k).map (·.name)
  · have hr : allR w = ((k : Int), 0, 185) := by
      have h0 : outAt w k = (0, 185) := by rw [hout, procOut, if_pos (.inr hin)]
      rw [allR_at hlt hok (by rw [h0]; decide), h0]
    rw [hr]
    refine WL.v (Gv.lookup (emb := Value.string) (z := .int .i64 0) (v := .int .i64 1) rfl rfl (by (repeat first | exact .here | apply At.there)) hm (by rw [getA_namesM hin]; rfl)) (by kernel_rfl) rfl ?_
    refine gom ?_
    refine WL.op (by kernel_rfl) (OW.mapSet (emb := Value.string) rfl rfl rfl (by (repeat first | exact .here | apply At.there)) hm rfl fun es1 ck1 hm1 => ?_)
    refine gom ?_
    refine WL.op (by kernel_rfl) (OW.callK rfl (proc_fn G1 (hE.mono hg1) p QA IA qc ic hQ hpn hpq) rfl fun v' G' H' h hg => ?_)
    obtain ⟨he, rfl, rfl⟩ := h
    cases he
    cases h1 : procR p with
    | false =>
      refine gom ?_
      refine WC.ret ?_
      refine WK.un ?_
      exact QF.p2 (.inl rfl) rfl (.cell rfl inferInstance inferInstance (by (repeat first | exact .here | apply At.there)) rfl rfl) (.tmp rfl) (⟨rfl, hg1, rfl⟩)
    | true =>
      refine gom ?_
      refine WL.v (Gv.lookup (emb := Value.string) (z := .int .i64 0) (v := .int .i64 2) rfl rfl (by (repeat first | exact .here | apply At.there)) hm1 (by rw [getA_setA]; rfl)) (by kernel_rfl) rfl ?_
      refine gom ?_
      refine WC.ret ?_
      refine WK.un ?_
      exact QF.p2 (.inl rfl) rfl (.cell rfl inferInstance inferInstance (by (repeat first | exact .here | apply At.there)) rfl rfl) (.tmp rfl) (⟨rfl, hg1, rfl⟩)
  refine WL.v (Gv.lookup (emb := Value.string) (z := .int .i64 0) (v := .int .i64 0) rfl rfl (by (repeat first | exact .here | apply At.there)) hm (by rw [getA_absent (by rw [namesM_keys]; exact hin)]; rfl)) (by kernel_rfl) rfl ?_
  refine gom ?_
  refine WL.op (by kernel_rfl) (OW.mapSet (emb := Value.string) rfl rfl rfl (by (repeat first | exact .here | apply At.there)) hm rfl fun es1 ck1 hm1 => ?_)
  have hset : setA (namesM (w.procs.take k)) p.name (.int .i64 1) = namesM (w.procs.take (k + 1)) := by
    rw [setA, if_neg (by rw [namesM_keys]; exact hin), take_snoc' hp]; simp [namesM]
  refine gom ?_
  refine WL.op (by kernel_rfl) (OW.callK rfl (proc_fn G1 (hE.mono hg1) p QA IA qc ic hQ hpn hpq) rfl fun v' G' H' h hg => ?_)
  obtain ⟨he, rfl, rfl⟩ := h
  cases he
  cases h1 : procR p with
  | false =>
    have hr : allR w = ((k : Int), 0, 185) := by
      have h0 : outAt w k = (0, 185) := by rw [hout, procOut, if_pos (.inl h1)]
      rw [allR_at hlt hok (by rw [h0]; decide), h0]
    rw [hr]
    refine gom ?_
    refine WC.ret ?_
    refine WK.un ?_
    exact QF.p2 (.inl rfl) rfl (.cell rfl inferInstance inferInstance (by (repeat first | exact .here | apply At.there)) rfl rfl) (.tmp rfl) (⟨rfl, hg1, rfl⟩)
  | true =>
  refine gom ?_
  refine WL.v (Gv.lookup (emb := Value.string) (z := .int .i64 0) (v := .int .i64 1) rfl rfl (by (repeat first | exact .here | apply At.there)) hm1 (by rw [getA_setA]; rfl)) (by kernel_rfl) rfl ?_
  refine gom ?_
  have hnp : ¬ (procR p = false ∨ p.name ∈ (w.procs.take k).map (·.name)) := fun h => h.elim (fun h => by rw [h1] at h; cases h) hin
  refine WC.loop (X := Nat) (fun j => [(0, .pointer (some ⟨bw, 0, none⟩)), (1, .bool false), (4, .pointer (some ⟨b4, 0, none⟩)), (6, .map (some bm)), (7, .int .i64 k), (8, .pointer (some ⟨b8, 0, none⟩)), (18, .slice (some ⟨b, ofs, none⟩) w.procs.length pc), (19, .int .i64 w.procs.length), (20, .int .i64 k), (47, .slice IA p.code.length ic), (48, .int .i64 p.code.length), (49, .int .i64 j)]) (fun _ => G1) (fun _ => [prB b8 p QA qc IA ic, .blk bm (.map es1 ck1), spB b4]) (fun j => p.code.length - j) (fun j => j ≤ p.code.length ∧ ∀ i, i < j → aloneAt w p i = 0) 0 ⟨Nat.zero_le _, (fun j h => absurd h (Nat.not_lt_zero _))⟩ (by exact ⟨rfl, rfl, rfl, rfl, rfl, rfl, rfl, rfl, rfl, rfl, rfl, rfl, trivial⟩) rfl (List.Sublist.refl _) fun j hx => ?_
  obtain ⟨hj, hal⟩ := hx
  have z2 := wrapS j (by omega)
  by_cases hjl : j < p.code.length
  · have e3 : decide ((j : Int) < (p.code.length : Int)) = true := decide_eq_true (by omega)
    obtain ⟨i, hi⟩ : ∃ i, p.code[j]? = some i := ⟨_, List.getElem?_eq_getElem (by omega)⟩
    obtain ⟨ib, io, ics, rfl, hik, hic⟩ := hI j i hi
    obtain rfl : ics = [.int .i64 i.1, .int .i64 i.2] := hik
    have z0 : (0 : Int) ≤ (j : Int) := by omega
    have z1 : (j : Int) < (p.code.length : Int) := by omega
    have haa : aloneAt w p j = aloneR w p i := by unfold aloneAt; rw [hi]
    refine gom ?_
    refine WL.op (by kernel_rfl) (OW.alloc rfl fun b10 => ?_)
    refine gom ?_
    refine WL.op (by kernel_rfl) (OW.callK rfl (alone_fn G1 w p bw CA NA (some ⟨b, ofs, none⟩) cc nc pc hW1 QA (some ⟨ib, io, none⟩) qc ic i) rfl fun v' G' H' h hg => ?_)
    obtain ⟨he, rfl, rfl⟩ := h
    cases he
    by_cases ha : aloneR w p i = 0
    · have e4 : (aloneR w p i != 0) = false := by simpa using ha
      refine gom ?_
      exact WK.again (j + 1) (by omega) ⟨by omega, fun i' hi' => by
        rcases Nat.lt_or_ge i' j with h | h
        · exact hal i' h
        · obtain rfl : i' = j := by omega
          rw [haa]; exact ha⟩ (by exact ⟨rfl, rfl, rfl, rfl, rfl, rfl, rfl, rfl, rfl, rfl, rfl, rfl, trivial⟩) rfl (List.sublist_cons_self _ _)
    · have e4 : (aloneR w p i != 0) = true := by simpa using ha
      have hr : allR w = ((k : Int), (j : Int), aloneR w p i) := by
        have hf : firstR p.code.length (aloneAt w p) = ((j : Int), aloneR w p i) := by rw [firstR_at hjl hal (by rw [haa]; exact ha), haa]
        have h0 : outAt w k = ((j : Int), aloneR w p i) := by rw [hout, procOut, if_neg hnp, hf, if_pos ha]
        rw [allR_at hlt hok (by rw [h0]; exact ha), h0]
      rw [hr]
      refine gom ?_
      refine WC.ret ?_
      refine WK.un ?_
      exact QF.p2 (.inl rfl) rfl (.cell rfl inferInstance inferInstance (by (repeat first | exact .here | apply At.there)) rfl rfl) (.tmp rfl) (⟨rfl, hg1, rfl⟩)
  have e3 : decide ((j : Int) < (p.code.length : Int)) = false := decide_eq_false (by omega)
  have hpk : POk w p := pok_of h1 fun i v hv => by
    have := hal i (by have := (List.getElem?_eq_some_iff.1 hv).1; omega)
    unfold aloneAt at this; rw [hv] at this; exact this
  have hf0 : firstR p.code.length (aloneAt w p) = (0, 0) := firstR_none fun i hi => hal i (by omega)
  refine gom ?_
  refine WL.op (by kernel_rfl) (OW.callK rfl (flow_fn G1 w p bw CA NA (some ⟨b, ofs, none⟩) cc nc pc QA IA qc ic hW1 hQ hI hpk) rfl fun v' G' H' h hg => ?_)
  obtain ⟨bf, TA, tc, l, he, hg2, hF, hT, htc, hL, rfl⟩ := h
  cases he
  have hg3 := Gh.le_trans hg1 hg2
  refine gom ?_
  refine WL.op (by kernel_rfl) (OW.callK rfl (wrong_fn _ w p bf bw CA NA (some ⟨b, ofs, none⟩) cc nc pc QA IA qc ic TA tc l (hW.mono hg3) hF hT hpk hL.closed) rfl fun v' G' H' h hg => ?_)
  obtain ⟨he, hg4, rfl⟩ := h
  cases he
  have hg5 := Gh.le_trans hg3 hg4
  have h0 : outAt w k = wrongR w p l := by rw [hout, procOut, if_neg hnp, hf0, if_neg (by simp), hL.flow]
  obtain ⟨at', wy, hw⟩ : ∃ a y, wrongR w p l = (a, y) := ⟨_, _, rfl⟩
  rw [hw]
  by_cases ha : wy = 0
  · have e5 : (wy != 0) = false := by simpa using ha
    refine gom ?_
    exact WK.again ⟨k + 1, _, es1, ck1⟩ (by dsimp only; omega) ⟨by dsimp only; omega, hg5, fun i' hi' => by
      rcases Nat.lt_or_ge i' k with h | h
      · exact hok i' h
      · obtain rfl : i' = k := by dsimp only at hi'; omega
        rw [h0, hw]; exact ha, by dsimp only; rw [← hset]; exact hm1⟩ (by exact ⟨rfl, rfl, rfl, rfl, rfl, rfl, rfl, trivial⟩) rfl (List.sublist_cons_self _ _)
  · have e5 : (wy != 0) = true := by simpa using ha
    have hr : allR w = ((k : Int), at', wy) := by
      rw [allR_at hlt hok (by rw [h0, hw]; exact ha), h0, hw]
    rw [hr]
    refine gom ?_
    refine WC.ret ?_
    refine WK.un ?_
    exact QF.p2 (.inl rfl) rfl (.cell rfl inferInstance inferInstance (by (repeat first | exact .here | apply At.there)) rfl rfl) (.tmp rfl) (⟨rfl, hg5, rfl⟩)
end Go.Proofs.YtkmigdmdppkpoaaGreatDoor.Gb
namespace Go.Proofs.YtkmigdmdppkpoaaGreatDoor.Gb
open Go Go.Proofs Go.MapKept
set_option linter.unusedVariables false
set_option linter.unusedSimpArgs false
set_option linter.unusedSectionVars false
attribute [local irreducible] Tryz.prog

/-- may an object be? -/
noncomputable def objAns (o : Ob) : Int × Int × Int := if objR o then allR o.wd else (0, 0, 185)
theorem WRep.ofO {G : Gh} {o : Ob} {CA NA PA : Option Addr} {cc nc pc b : Nat} (hO : ORep G o CA NA PA) (hL : OLim o) (hf : Cs G b 0 [.slice CA o.consts.length cc, .slice NA o.needs.length nc, .slice PA o.procs.length pc]) : WRep G o.wd b CA NA PA cc nc pc :=
  ⟨hf, hO.consts, hO.needs, hO.procs, hL.cl, hL.nl, hL.pl, fun q hq => (hL.nd q hq).1, fun q hq => (hL.pr q hq).1⟩

section
variable (G : Gh) (hE : Env G) (o : Ob) (CA NA PA : Option Addr) (cc nc pc : Nat) (hO : ORep G o CA NA PA) (hL : OLim o)
include hE hO hL
theorem Object_fn : Fn Tryz.prog 19 #[.agg (obC o CA NA PA cc nc pc)] G [] fun e G' H' => e = .returned (.tuple #[.agg #[.int .i64 (objAns o).1, .int .i64 (objAns o).2.1], .int .i64 (objAns o).2.2]) ∧ G.le G' ∧ H' = [] := by
  refine Fn.enter Tryz.func19 rfl rfl fun w0 => ?_
  refine WC.seq ?_
  refine WC.region ?_
  refine WL.op (by kernel_rfl) (OW.box rfl rfl fun b1 => ?_)
  refine WL.op (by kernel_rfl) (OW.alloc rfl fun b2 => ?_)
  refine gom ?_
  refine WL.op (by kernel_rfl) (OW.callK rfl (object_fn G hE o CA NA PA cc nc pc hO hL) rfl fun v' G' H' h hg => ?_)
  obtain ⟨he, hg1, rfl⟩ := h
  cases he
  cases h1 : objR o with
  | false =>
    have hr : objAns o = (0, 0, 185) := by rw [objAns, h1]; rfl
    rw [hr]
    refine gom ?_
    refine WC.ret ?_
    refine WK.un ?_
    exact QF.p2 (.inl rfl) rfl (.cell rfl inferInstance inferInstance (by (repeat first | exact .here | apply At.there)) rfl rfl) (.tmp rfl) (⟨rfl, hg1, rfl⟩)
  | true =>
  have hr : objAns o = allR o.wd := by rw [objAns, h1]; rfl
  rw [hr]
  refine gom ?_
  refine WL.op (by kernel_rfl) (OW.box rfl rfl fun b16 => ?_)
  refine WL.p (Gp.assign rfl) (by kernel_rfl) rfl ?_
  refine WL.nil ?_
  refine WK.un ?_
  refine WC.pick [.blk b16 (.cells #[.slice CA o.consts.length cc, .slice NA o.needs.length nc, .slice PA o.procs.length pc] 102 (0, 0)), spB b2] ?_
  refine WC.freezeC .here rfl fun G1 hg2 hf1 => ?_
  have hg3 := Gh.le_trans hg1 hg2
  have hW := WRep.ofO (hO.mono hg3) hL hf1
  refine gom ?_
  refine WL.op (by kernel_rfl) (OW.callK rfl (wall_fn G1 (hE.mono hg3) o.wd b16 CA NA PA cc nc pc hW (fun q hq => (hL.pr q hq).2)) rfl fun v' G' H' h hg => ?_)
  obtain ⟨he, hg4, rfl⟩ := h
  cases he
  refine gom ?_
  refine WC.ret ?_
  refine WK.un ?_
  exact QF.p2 (.inl rfl) rfl (.cell rfl inferInstance inferInstance (by (repeat first | exact .here | apply At.there)) rfl rfl) (.tmp rfl) (⟨rfl, Gh.le_trans hg3 hg4, rfl⟩)
end
end Go.Proofs.YtkmigdmdppkpoaaGreatDoor.Gb
namespace Go.Proofs.YtkmigdmdppkpoaaGreatDoor.Gb
open Go Go.Proofs Go.MapKept
set_option linter.unusedVariables false
set_option linter.unusedSimpArgs false
set_option linter.unusedSectionVars false
attribute [local irreducible] Tryz.prog

theorem allR_zero {w : Wd} (h : (allR w).2.2 = 0) : ∀ j, j < w.procs.length → (outAt w j).2 = 0 := by
  unfold allR at h
  split at h
  · rename_i k hk
    have := List.find?_some hk
    simp at this
    exact absurd h this
  · rename_i hk
    intro j hj
    have := List.find?_eq_none.1 hk j (by simpa using hj)
    simpa using this
theorem outAt_zero {w : Wd} {k : Nat} {p : Pr} (hp : w.procs[k]? = some p) (h : (outAt w k).2 = 0) : procR p = true ∧ p.name ∉ (w.procs.take k).map (·.name) ∧ (∀ (j : Nat) (i : Int × Int), p.code[j]? = some i → aloneR w p i = 0) ∧ (wrongR w p (flowOf w p)).2 = 0 := by
  rw [outAt_eq hp] at h
  unfold procOut at h
  split at h
  · cases h
  rename_i hn
  split at h
  · rename_i ha; exact absurd h ha
  rename_i ha
  refine ⟨?_, fun hm => hn (.inr hm), fun j i hi => ?_, h⟩
  · cases hq : procR p with
    | true => rfl
    | false => exact absurd (.inl hq) hn
  · have ha' : (firstR p.code.length (aloneAt w p)).2 = 0 := by simpa using ha
    unfold firstR at ha'
    split at ha'
    · rename_i k hk
      have := List.find?_some hk
      simp at this
      exact absurd ha' this
    · rename_i hk
      have := List.find?_eq_none.1 hk j (by simpa using (List.getElem?_eq_some_iff.1 hi).1)
      have h2 : aloneAt w p j = 0 := by simpa using this
      unfold aloneAt at h2
      rw [hi] at h2
      exact h2
theorem objAns_zero {o : Ob} (h : (objAns o).2.2 = 0) : objR o = true ∧ (allR o.wd).2.2 = 0 := by
  unfold objAns at h
  split at h
  · exact ⟨by assumption, h⟩
  · cases h
theorem objAns_pok {o : Ob} (h : (objAns o).2.2 = 0) {k : Nat} {p : Pr} (hp : o.procs[k]? = some p) : POk o.wd p := by
  have h1 := allR_zero (objAns_zero h).2 k (List.getElem?_eq_some_iff.1 hp).1
  have h2 := outAt_zero (w := o.wd) hp h1
  exact pok_of h2.1 h2.2.2.1
/-- what find tells -/
noncomputable def findE (o : Ob) (n : Int) : Int := if (objAns o).2.2 ≠ 0 then (objAns o).2.2 else if n < 0 ∨ (o.procs.length : Int) ≤ n then 1 else 0

section
variable (G : Gh) (hE : Env G) (o : Ob) (CA NA PA : Option Addr) (cc nc pc : Nat) (hO : ORep G o CA NA PA) (hL : OLim o) (n : Int)
include hE hO hL
theorem find_fn : Fn Tryz.prog 37 #[.agg (obC o CA NA PA cc nc pc), .int .i64 n] G [] fun e G' H' => ∃ F, e = .returned (.tuple #[.pointer F, .int .i64 (findE o n)]) ∧ G.le G' ∧ (findE o n = 0 → ∃ p bf bw QA IA qc ic TA tc l, F = some ⟨bf, 0, none⟩ ∧ o.procs[n.toNat]? = some p ∧ FRep G' p bf bw QA IA qc ic TA l.length tc ∧ Sl Kd.ss G' TA l ∧ l.length ≤ tc ∧ Least o.wd p l) ∧ H' = [] := by
  refine Fn.enter Tryz.func37 rfl rfl fun w0 => ?_
  refine WC.seq ?_
  refine WC.region ?_
  refine WL.op (by kernel_rfl) (OW.box rfl rfl fun b2 => ?_)
  refine gom ?_
  refine WL.op (by kernel_rfl) (OW.callK rfl (Object_fn G hE o CA NA PA cc nc pc hO hL) rfl fun v' G' H' h hg => ?_)
  obtain ⟨he, hg1, rfl⟩ := h
  cases he
  refine gom ?_
  refine WL.op (by kernel_rfl) (OW.alloc rfl fun b6 => ?_)
  by_cases h1 : (objAns o).2.2 = 0
  rotate_left
  · have e1 : ((objAns o).2.2 != 0) = true := by simpa using h1
    have hf : findE o n = (objAns o).2.2 := by rw [findE, if_pos h1]
    refine gom ?_
    refine WC.ret ?_
    refine WK.un ?_
    exact QF.p2 (.inl rfl) rfl (.tmp rfl) (.tmp rfl) (⟨none, by rw [hf] <;> rfl, hg1, fun h => absurd (hf ▸ h) h1, rfl⟩)
  have e1 : ((objAns o).2.2 != 0) = false := by simpa using h1
  have hpl := hL.pl
  by_cases h2 : n < 0
  · have e2 : decide (n < 0) = true := decide_eq_true h2
    have hf : findE o n = 1 := by rw [findE, if_neg (by simpa using h1), if_pos (.inl h2)]
    refine gom ?_
    refine WC.ret ?_
    refine WK.un ?_
    exact QF.p2 (.inl rfl) rfl (.tmp rfl) (.tmp rfl) (⟨none, by rw [hf] <;> rfl, hg1, fun h => absurd (hf ▸ h) (by decide), rfl⟩)
  have e2 : decide (n < 0) = false := decide_eq_false h2
  by_cases h3 : (o.procs.length : Int) ≤ n
  · have e3 : decide ((o.procs.length : Int) ≤ n) = true := decide_eq_true h3
    have hf : findE o n = 1 := by rw [findE, if_neg (by simpa using h1), if_pos (.inr h3)]
    refine gom ?_
    refine WC.ret ?_
    refine WK.un ?_
    exact QF.p2 (.inl rfl) rfl (.tmp rfl) (.tmp rfl) (⟨none, by rw [hf] <;> rfl, hg1, fun h => absurd (hf ▸ h) (by decide), rfl⟩)
  have e3 : decide ((o.procs.length : Int) ≤ n) = false := decide_eq_false h3
  have hf : findE o n = 0 := by rw [findE, if_neg (by simpa using h1), if_neg (by omega)]
  obtain ⟨p, hp⟩ : ∃ p, o.procs[n.toNat]? = some p := ⟨_, List.getElem?_eq_getElem (by omega)⟩
  have hpk := objAns_pok h1 hp
  refine gom ?_
  refine WL.op (by kernel_rfl) (OW.box rfl rfl fun b33 => ?_)
  refine WL.p (Gp.assign rfl) (by kernel_rfl) rfl ?_
  refine WL.nil ?_
  refine WK.un ?_
  refine WC.pick [.blk b33 (.cells #[.slice CA o.consts.length cc, .slice NA o.needs.length nc, .slice PA o.procs.length pc] 102 (0, 0)), .blk b2 (.cells (obC o CA NA PA cc nc pc) 26 (0, 0))] ?_
  refine WC.freezeC .here rfl fun G1 hg2 hf1 => ?_
  have hg3 := Gh.le_trans hg1 hg2
  have hO3 := hO.mono hg3
  have hW := WRep.ofO hO3 hL hf1
  obtain ⟨b, ofs, cs, rfl, hks, hcs⟩ := hO3.procs n.toNat p hp
  obtain ⟨QA, qc, IA, ic, rfl, hQ, hI⟩ := hks
  have x0 : (0 : Int) ≤ n := by omega
  have x1 : n < (o.procs.length : Int) := by omega
  refine gom ?_
  refine WL.op (by kernel_rfl) (OW.callK rfl (flow_fn G1 o.wd p b33 CA NA (some ⟨b, ofs, none⟩) cc nc pc QA IA qc ic hW hQ hI hpk) rfl fun v' G' H' h hg => ?_)
  obtain ⟨bf, TA, tc, l, he, hg4, hF, hT, htc, hLe, rfl⟩ := h
  cases he
  refine gom ?_
  refine WC.ret ?_
  refine WK.un ?_
  exact QF.p2 (.inl rfl) rfl (.tmp rfl) (.tmp rfl) (⟨_, by rw [hf], Gh.le_trans hg3 hg4, fun _ => ⟨p, bf, b33, QA, IA, qc, ic, TA, tc, l, rfl, hp, hF, hT, htc, hLe⟩, rfl⟩)
end
end Go.Proofs.YtkmigdmdppkpoaaGreatDoor.Gb
namespace Go.Proofs.YtkmigdmdppkpoaaGreatDoor.Gb
open Go Go.Proofs Go.MapKept
set_option linter.unusedVariables false
set_option linter.unusedSimpArgs false
set_option linter.unusedSectionVars false
attribute [local irreducible] Tryz.prog

theorem IVec.nil {T : Nat} : IVec T none [] 0 (.spare 0 0 0) := ⟨rfl, .inl ⟨rfl, rfl, rfl, rfl⟩⟩
theorem findE_zero {o : Ob} {n : Int} (h : findE o n = 0) : (objAns o).2.2 = 0 ∧ 0 ≤ n ∧ n < o.procs.length := by
  unfold findE at h
  split at h
  · rename_i h1; exact absurd h h1
  rename_i h1
  split at h
  · cases h
  exact ⟨by simpa using h1, by omega, by omega⟩
/-- how high the stack is ahead of an instruction -/
def hghR (s : SS) : Int := if s.reached then (s.stack.length : Int) else -1
noncomputable def statesR (o : Ob) (n : Int) : List SS := match o.procs[n.toNat]? with | some p => flowOf o.wd p | none => []
noncomputable def heightsR (o : Ob) (n : Int) : List Int := if findE o n = 0 then (statesR o n).map hghR else []
theorem map_take_snoc {α : Type} (f : α → Int) {l : List α} {k : Nat} {x : α} (h : l[k]? = some x) : (l.take (k + 1)).map f = (l.take k).map f ++ [f x] := by
  rw [take_snoc' h, List.map_append]; rfl

section
variable (G : Gh) (hE : Env G) (o : Ob) (CA NA PA : Option Addr) (cc nc pc : Nat) (hO : ORep G o CA NA PA) (hL : OLim o) (n : Int)
include hE hO hL
set_option maxHeartbeats 2000000 in
theorem Heights_fn : Fn Tryz.prog 13 #[.agg (obC o CA NA PA cc nc pc), .int .i64 n] G [] fun e G' H' => ∃ A cap x, e = .returned (.tuple #[.slice A (heightsR o n).length cap, .int .i64 (findE o n)]) ∧ G.le G' ∧ IVec 3 A (heightsR o n) cap x ∧ H' = [x] := by
  refine Fn.enter Tryz.func13 rfl rfl fun w0 => ?_
  refine WC.seq ?_
  refine WC.region ?_
  refine WL.op (by kernel_rfl) (OW.box rfl rfl fun b2 => ?_)
  refine gom ?_
  refine WL.op (by kernel_rfl) (OW.callK rfl (find_fn G hE o CA NA PA cc nc pc hO hL n) rfl fun v' G' H' h hg => ?_)
  obtain ⟨F, he, hg1, hF, rfl⟩ := h
  cases he
  by_cases h1 : findE o n = 0
  rotate_left
  · have e1 : (findE o n != 0) = true := by simpa using h1
    have hr : heightsR o n = [] := by rw [heightsR, if_neg h1]
    rw [hr]
    refine gom ?_
    refine WC.nothing ?_
    refine WC.ret ?_
    refine WK.un ?_
    exact QF.p2 (.inl rfl) rfl (.tmp rfl) (.tmp rfl) (⟨none, 0, _, rfl, hg1, IVec.nil, rfl⟩)
  have e1 : (findE o n != 0) = false := by simpa using h1
  obtain ⟨p, bf, bw, QA, IA, qc, ic, TA, tc, l, rfl, hp, hFR, hT, htc, hLe⟩ := hF h1
  have hfc := hFR.cells
  have hpk := objAns_pok (findE_zero h1).1 hp
  have hfew := hpk.few
  have hll := hLe.closed.len
  have hr : heightsR o n = l.map hghR := by rw [heightsR, if_pos h1, statesR, hp]; dsimp only; rw [hLe.flow]
  rw [hr, h1] at *
  refine gom ?_
  refine WC.nothing ?_
  refine WC.loop (X := Nat × Option Addr × Nat × Own) (fun x => [(8, .slice x.2.1 x.1 x.2.2.1), (24, .slice TA l.length tc), (25, .int .i64 l.length), (26, .int .i64 x.1)]) (fun _ => G') (fun x => [x.2.2.2]) (fun x => l.length - x.1) (fun x => x.1 ≤ l.length ∧ Vec 3 1 x.2.1 x.1 x.2.2.1 (ints ((l.take x.1).map hghR)) x.2.2.2) (0, none, 0, .spare 0 0 0) ⟨Nat.zero_le _, ⟨by simp [ints], .inl ⟨rfl, rfl, rfl, rfl⟩⟩⟩ (by exact ⟨rfl, rfl, rfl, rfl, trivial⟩) rfl (by simp) fun x hx => ?_
  obtain ⟨i, A, cap, xo⟩ := x
  obtain ⟨hi, hv⟩ := hx
  dsimp only at hi hv
  have x2 := wrapS i (by omega)
  by_cases hlt : i < l.length
  rotate_left
  · have e2 : decide ((i : Int) < (l.length : Int)) = false := decide_eq_false (by omega)
    obtain rfl : i = l.length := by omega
    rw [List.take_length] at hv
    refine gom ?_
    refine WC.ret ?_
    refine WK.un ?_
    exact QF.p2 (.inl rfl) rfl (.tmp rfl) (.tmp rfl) (⟨A, cap, xo, by rw [List.length_map], hg1, by unfold IVec; rw [List.length_map]; exact hv, rfl⟩)
  have e2 : decide ((i : Int) < (l.length : Int)) = true := decide_eq_true (by omega)
  obtain ⟨s, hs⟩ : ∃ s, l[i]? = some s := ⟨_, List.getElem?_eq_getElem (by omega)⟩
  obtain ⟨sb, so, scs, rfl, hsk, hsc⟩ := hT i s hs
  obtain ⟨VA, vc, SA, sc, rfl, hS⟩ := Kd.ss_rep hsk
  have x0 : (0 : Int) ≤ (i : Int) := by omega
  have x1 : (i : Int) < (l.length : Int) := by omega
  have hstep : ∀ {A3 : Option Addr} {c3 : Nat} {o3 : Own} {z : Int}, z = hghR s → Vec 3 1 A3 (i + 1) c3 (ints ((l.take i).map hghR) ++ [.int .i64 z]) o3 → Vec 3 1 A3 (i + 1) c3 (ints ((l.take (i + 1)).map hghR)) o3 := fun hz hv3 => by
    rw [map_take_snoc hghR hs, ints_append]; subst hz; exact hv3
  refine gom ?_
  refine WL.op (by kernel_rfl) (OW.alloc rfl fun b10 => ?_)
  cases hrs : s.reached with
  | true =>
    have hz : (s.stack.length : Int) = hghR s := by rw [hghR, hrs]; rfl
    refine gom ?_
    refine WL.op (by kernel_rfl) (OW.buildSlice rfl (by kernel_rfl) (by kernel_rfl) (by rfl) rfl fun b37 => ?_)
    refine WL.op (by kernel_rfl) (OW.append rfl rfl (by kernel_rfl) (by kernel_rfl) hv (by (repeat first | exact .here | apply At.there)) (Rds.blk0 (cs := [.int .i64 s.stack.length]) .here rfl) rfl rfl (by omega) (by omega) rfl fun A3 c3 o3 hv3 => ?_)
    refine gom ?_
    refine WK.pick [o3] ?_
    exact WK.again (i + 1, A3, c3, o3) (by dsimp only; omega) ⟨by dsimp only; omega, hstep hz hv3⟩ (by exact ⟨rfl, rfl, rfl, rfl, trivial⟩) rfl (List.Sublist.refl _)
  | false =>
    have hz : (-1 : Int) = hghR s := by rw [hghR, hrs]; rfl
    refine gom ?_
    refine WL.op (by kernel_rfl) (OW.buildSlice rfl (by kernel_rfl) (by kernel_rfl) (by rfl) rfl fun b37 => ?_)
    refine WL.op (by kernel_rfl) (OW.append rfl rfl (by kernel_rfl) (by kernel_rfl) hv (by (repeat first | exact .here | apply At.there)) (Rds.blk0 (cs := [.int .i64 (-1)]) .here rfl) rfl rfl (by omega) (by omega) rfl fun A3 c3 o3 hv3 => ?_)
    refine gom ?_
    refine WK.pick [o3] ?_
    exact WK.again (i + 1, A3, c3, o3) (by dsimp only; omega) ⟨by dsimp only; omega, hstep hz hv3⟩ (by exact ⟨rfl, rfl, rfl, rfl, trivial⟩) rfl (List.Sublist.refl _)

/-- what Types tells -/
noncomputable def typesE (o : Ob) (n k : Int) : Int := if findE o n ≠ 0 then findE o n else if k < 0 ∨ ((statesR o n).length : Int) ≤ k then 1 else 0
noncomputable def typesR (o : Ob) (n k : Int) : List Int × List Int := if typesE o n k = 0 then (match (statesR o n)[k.toNat]? with | some s => (s.vars, s.stack) | none => ([], [])) else ([], [])
theorem Types_fn (k : Int) : Fn Tryz.prog 15 #[.agg (obC o CA NA PA cc nc pc), .int .i64 n, .int .i64 k] G [] fun e G' H' => ∃ VA vc SA sc x y, e = .returned (.tuple #[.slice VA (typesR o n k).1.length vc, .slice SA (typesR o n k).2.length sc, .int .i64 (typesE o n k)]) ∧ G.le G' ∧ TVec VA (typesR o n k).1 vc x ∧ TVec SA (typesR o n k).2 sc y ∧ H' = [x, y] := by
  refine Fn.enter Tryz.func15 rfl rfl fun w0 => ?_
  refine WC.seq ?_
  refine WC.region ?_
  refine WL.op (by kernel_rfl) (OW.box rfl rfl fun b3 => ?_)
  refine gom ?_
  refine WL.op (by kernel_rfl) (OW.callK rfl (find_fn G hE o CA NA PA cc nc pc hO hL n) rfl fun v' G' H' h hg => ?_)
  obtain ⟨F, he, hg1, hF, rfl⟩ := h
  cases he
  by_cases h1 : findE o n = 0
  rotate_left
  · have e1 : (findE o n != 0) = true := by simpa using h1
    have ht : typesE o n k = findE o n := by rw [typesE, if_pos h1]
    have hr : typesR o n k = ([], []) := by rw [typesR, if_neg (by rw [ht]; exact h1)]
    rw [hr, ht]
    refine gom ?_
    refine WC.nothing ?_
    refine WC.nothing ?_
    refine WC.ret ?_
    refine WK.un ?_
    exact QF.p3 (.inl rfl) rfl (.tmp rfl) (.tmp rfl) (.tmp rfl) (⟨none, 0, none, 0, _, _, rfl, hg1, IVec.nil, IVec.nil, rfl⟩)
  have e1 : (findE o n != 0) = false := by simpa using h1
  obtain ⟨p, bf, bw, QA, IA, qc, ic, TA, tc, l, rfl, hp, hFR, hT, htc, hLe⟩ := hF h1
  have hfc := hFR.cells
  have hst : statesR o n = l := by rw [statesR, hp]; dsimp only; rw [hLe.flow]
  have hpk := objAns_pok (findE_zero h1).1 hp
  have hloc := hpk.loc
  by_cases h2 : k < 0
  · have e2 : decide (k < 0) = true := decide_eq_true h2
    have ht : typesE o n k = 1 := by rw [typesE, if_neg (by simpa using h1), if_pos (.inl h2)]
    have hr : typesR o n k = ([], []) := by rw [typesR, if_neg (by rw [ht]; decide)]
    rw [hr, ht]
    refine gom ?_
    refine WC.nothing ?_
    refine WC.nothing ?_
    refine WC.ret ?_
    refine WK.un ?_
    exact QF.p3 (.inl rfl) rfl (.tmp rfl) (.tmp rfl) (.tmp rfl) (⟨none, 0, none, 0, _, _, rfl, hg1, IVec.nil, IVec.nil, rfl⟩)
  have e2 : decide (k < 0) = false := decide_eq_false h2
  by_cases h3 : (l.length : Int) ≤ k
  · have e3 : decide ((l.length : Int) ≤ k) = true := decide_eq_true h3
    have ht : typesE o n k = 1 := by rw [typesE, if_neg (by simpa using h1), if_pos (.inr (by rw [hst]; exact h3))]
    have hr : typesR o n k = ([], []) := by rw [typesR, if_neg (by rw [ht]; decide)]
    rw [hr, ht]
    refine gom ?_
    refine WC.nothing ?_
    refine WC.nothing ?_
    refine WC.ret ?_
    refine WK.un ?_
    exact QF.p3 (.inl rfl) rfl (.tmp rfl) (.tmp rfl) (.tmp rfl) (⟨none, 0, none, 0, _, _, rfl, hg1, IVec.nil, IVec.nil, rfl⟩)
  have e3 : decide ((l.length : Int) ≤ k) = false := decide_eq_false h3
  obtain ⟨s, hs⟩ : ∃ s, l[k.toNat]? = some s := ⟨_, List.getElem?_eq_getElem (by omega)⟩
  have ht : typesE o n k = 0 := by rw [typesE, if_neg (by simpa using h1), if_neg (by rw [hst]; omega)]
  have hr : typesR o n k = (s.vars, s.stack) := by rw [typesR, if_pos ht, hst, hs]
  rw [hr, ht]
  have hwf := hLe.closed.wf s (List.mem_of_getElem? hs)
  obtain ⟨sb, so, scs, rfl, hsk, hsc⟩ := hT k.toNat s hs
  obtain ⟨VA, vc, SA, sc, rfl, hS⟩ := Kd.ss_rep hsk
  have x0 : (0 : Int) ≤ k := by omega
  have x1 : k < (l.length : Int) := by omega
  have hsv : s.vars.length ≤ 1000000000 := by
    cases hq : s.reached with
    | true => have := hwf.vars hq; omega
    | false => rw [hwf.bare hq]; decide
  have hss : s.stack.length ≤ 1000000000 := by have := hwf.high; omega
  refine gom ?_
  refine WL.op (by kernel_rfl) (OW.callK rfl (copied_fn _ s VA vc SA sc hS hsv hss) rfl fun v' G' H' h hg => ?_)
  obtain ⟨VA', vc', SA', sc', x, y, he, rfl, rfl, hx, hy⟩ := h
  cases he
  refine WL.op (by kernel_rfl) (OW.alloc rfl fun b10 => ?_)
  refine gom ?_
  refine WC.ret ?_
  refine WK.un ?_
  exact QF.p3 (.inl rfl) rfl (.tmp rfl) (.tmp rfl) (.tmp rfl) (⟨VA', vc', SA', sc', x, y, rfl, hg1, hx, hy, rfl⟩)
end
end Go.Proofs.YtkmigdmdppkpoaaGreatDoor.Gb
namespace Go.Proofs.YtkmigdmdppkpoaaGreatDoor.Gb
open Go Go.Proofs Go.MapKept
set_option linter.unusedVariables false
set_option linter.unusedSimpArgs false
set_option linter.unusedSectionVars false
attribute [local irreducible] Tryz.prog

def pS : Pr := ⟨⟨#[102]⟩, false, [], 0, 1, [(1, 0), (10, 0)]⟩
def vS : V := ⟨1, 5, false, ⟨#[]⟩⟩
def vT : V := ⟨2, 0, true, ⟨#[]⟩⟩
def oS (v : V) : Ob := ⟨⟨#[97]⟩, [v], [], [pS]⟩
def lS (t : Int) : List SS := [⟨true, false, [], []⟩, ⟨true, false, [], [t]⟩]

theorem oS_lim (v : V) : OLim (oS v) where
  path := by show (1 : Nat) ≤ 4000000000; decide
  cl := by simp [oS]
  nl := by simp [oS]
  pl := by simp [oS]
  nd := fun q hq => by simp [oS] at hq
  pr := fun q hq => by
    obtain rfl : q = pS := by simpa [oS] using hq
    exact ⟨by decide, by decide, by decide⟩
theorem word_f : wordR ⟨#[102]⟩ = true := by decide +kernel
theorem file_a : fileR ⟨#[97]⟩ = true := by decide +kernel
theorem lS_closed (v : V) (hw : behR (oS v).wd (1, 0) ⟨true, false, [], []⟩ = ⟨true, false, [], [v.t]⟩) : Closed (oS v).wd pS (lS v.t) where
  len := rfl
  wf s hs := by
    simp only [lS, List.mem_cons, List.not_mem_nil, or_false] at hs
    rcases hs with rfl | rfl <;> exact ⟨fun h => (by cases h), fun _ => rfl, fun h => (by cases h), by simp⟩
  zero s hs := by
    obtain rfl : _ = s := Option.some.inj hs
    exact SS.le_refl _
  step k i s hi hs hr x hx j t hj ht := by
    match k, hi, hs with
    | 0, hi, hs =>
      obtain rfl : _ = i := Option.some.inj hi
      obtain rfl : _ = s := Option.some.inj hs
      have hx1 : x = 1 := by simpa [nextR] using hx
      obtain rfl : j = 1 := by omega
      obtain rfl : _ = t := Option.some.inj ht
      rw [hw]; exact SS.le_refl _
    | 1, hi, hs =>
      obtain rfl : _ = i := Option.some.inj hi
      exact absurd hx (by simp [nextR])
    | k + 2, hi, hs => cases hs
theorem lS_least (v : V) (hw : behR (oS v).wd (1, 0) ⟨true, false, [], []⟩ = ⟨true, false, [], [v.t]⟩) : Least (oS v).wd pS (lS v.t) where
  closed := lS_closed v hw
  low m hm := by
    have hl : m.length = 2 := hm.len
    obtain ⟨m0, h0⟩ : ∃ s, m[0]? = some s := ⟨_, List.getElem?_eq_getElem (by omega)⟩
    obtain ⟨m1, h1⟩ : ∃ s, m[1]? = some s := ⟨_, List.getElem?_eq_getElem (by omega)⟩
    have hb : (beginS pS).le m0 := hm.zero m0 h0
    have hr : m0.reached = true := (hb rfl).1
    have h2 := hm.step 0 (1, 0) m0 rfl h0 hr 1 (by decide) 1 m1 rfl h1
    have hc := lS_closed v hw
    have h3 : (behR (oS v).wd (1, 0) (beginS pS)).le (behR (oS v).wd (1, 0) m0) := behR_mono (hc.wf _ (List.mem_cons_self ..)) (hm.wf _ (List.mem_of_getElem? h0)) hb
    have h4 := SS.le_trans h3 h2
    intro k s t hs ht
    match k, hs, ht with
    | 0, hs, ht =>
      obtain rfl : _ = s := Option.some.inj hs
      rw [h0] at ht
      obtain rfl : _ = t := Option.some.inj ht
      exact hb
    | 1, hs, ht =>
      obtain rfl : _ = s := Option.some.inj hs
      rw [h1] at ht
      obtain rfl : _ = t := Option.some.inj ht
      have : behR (oS v).wd (1, 0) (beginS pS) = ⟨true, false, [], [v.t]⟩ := hw
      rw [this] at h4; exact h4
    | k + 2, hs, ht => cases hs
theorem least_S : Least (oS vS).wd pS (lS 1) := lS_least vS (by decide +kernel)
theorem least_T : Least (oS vT).wd pS (lS 2) := lS_least vT (by decide +kernel)
theorem procR_S : procR pS = true := by rw [procR, show pS.name = ⟨#[102]⟩ from rfl, word_f]; rfl
theorem objR_S : objR (oS vS) = true := by rw [objR, show (oS vS).path = ⟨#[97]⟩ from rfl, file_a]; decide +kernel
theorem objR_T : objR (oS vT) = true := by rw [objR, show (oS vT).path = ⟨#[97]⟩ from rfl, file_a]; decide +kernel
theorem out_S : outAt (oS vS).wd 0 = (0, 0) := by
  rw [outAt_eq (p := pS) rfl, procOut, if_neg (by rw [procR_S]; simp), if_neg (by decide +kernel), least_S.flow]
  decide +kernel
theorem out_T : outAt (oS vT).wd 0 = (1, 184) := by
  rw [outAt_eq (p := pS) rfl, procOut, if_neg (by rw [procR_S]; simp), if_neg (by decide +kernel), least_T.flow]
  decide +kernel
theorem ans_S : objAns (oS vS) = (0, 0, 0) := by
  rw [objAns, objR_S, if_pos rfl]
  exact allR_none fun j hj => by
    obtain rfl : j = 0 := by simp [oS, Ob.wd] at hj; exact hj
    rw [out_S]
theorem ans_T : objAns (oS vT) = (0, 1, 184) := by
  rw [objAns, objR_T, if_pos rfl, allR_at (k := 0) (by decide) (fun j h => absurd h (Nat.not_lt_zero _)) (by rw [out_T]; decide), out_T]; rfl
theorem find_S : findE (oS vS) 0 = 0 := by rw [findE, ans_S, if_neg (by decide), if_neg (by decide)]
theorem heights_S : heightsR (oS vS) 0 = [0, 1] := by
  rw [heightsR, if_pos find_S, statesR]
  show (flowOf (oS vS).wd pS).map hghR = _
  rw [least_S.flow]; rfl
end Go.Proofs.YtkmigdmdppkpoaaGreatDoor.Gb
namespace Go.Proofs.YtkmigdmdppkpoaaGreatDoor.Gb
open Go Go.Proofs
set_option linter.unusedVariables false
set_option linter.unusedSimpArgs false
set_option linter.unusedSectionVars false
section
variable {L : List (Nat × Value)} {d : Option Tmp} {ty : TypeId} {pos : String} {af : Array Edge} {gu : Option (Nat × Bool)}
theorem Gp.eqSpot {x y : Operand} {t' : TypeId} {a b c e : Int} (hx : ev L x = some (.agg #[.int .i64 a, .int .i64 b])) (hy : ev L y = some (.agg #[.int .i64 c, .int .i64 e])) :
    Gp Tryz.prog L ⟨d, .binOp .eql 39 x y t', ty, pos, af, gu⟩ (.bool (decide ((a, b) = (c, e)))) := fun g st w => by
  have h1 : Tryz.prog.eqGuardType Tryz.prog.depth 39 = false := by kernel_rfl
  have h2 : Tryz.prog.underlying 39 = some (.struct (Tryz.prog.fieldsOf 39)) := by kernel_rfl
  have h3 : Tryz.prog.stoodInHeld 39 = false := by kernel_rfl
  have key : (Op.eqFields 9999 #[.int .i64 a, .int .i64 b] #[.int .i64 c, .int .i64 e] (Tryz.prog.fieldsOf 39).toList).run Tryz.prog w = .ok (decide ((a, b) = (c, e))) w := by
    have a0 := fun w => (inferInstance : Agg Tryz.prog 3 false).h w
    have a1 := fun w => (inferInstance : Agg Tryz.prog 3 false).h w
    have u0 : Tryz.prog.underlying 3 = some (.int .i64) := Und.h
    have u1 : Tryz.prog.underlying 3 = some (.int .i64) := Und.h
    have hh : decide ((a, b) = (c, e)) = (a == c && b == e) := by
      rw [Bool.eq_iff_iff]
      simp
    rw [hh]
    simp only [Program.fieldsOf, Tryz.underlying39]
    simp only [Op.eqFields, part, Sem.run_bind, a0, a1, Result.andThen_ok, Sem.run_ite]
    simp [run_equalIn_int _ _ _ _ _ _ _ u0, run_equalIn_int _ _ _ _ _ _ _ u1]
    by_cases q0 : a = c <;> by_cases q1 : b = e <;> simp [q0, q1]
  simp only [execOp, Sem.run_bind, st.eval hx, st.eval hy, run_eqGuard_agg w .eql _ x y _ _ h1, Result.andThen_ok, run_eql_struct, run_equalIn_agg w 9999 _ _ _ h2 h3, key]
  rfl
theorem Gp.neIns {x y : Operand} {t' : TypeId} {a b c e : Int} (hx : ev L x = some (.agg #[.int .i64 a, .int .i64 b])) (hy : ev L y = some (.agg #[.int .i64 c, .int .i64 e])) :
    Gp Tryz.prog L ⟨d, .binOp .neq 50 x y t', ty, pos, af, gu⟩ (.bool (!decide ((a, b) = (c, e)))) := fun g st w => by
  have h1 : Tryz.prog.eqGuardType Tryz.prog.depth 50 = false := by kernel_rfl
  have h2 : Tryz.prog.underlying 50 = some (.struct (Tryz.prog.fieldsOf 50)) := by kernel_rfl
  have h3 : Tryz.prog.stoodInHeld 50 = false := by kernel_rfl
  have key : (Op.eqFields 9999 #[.int .i64 a, .int .i64 b] #[.int .i64 c, .int .i64 e] (Tryz.prog.fieldsOf 50).toList).run Tryz.prog w = .ok (decide ((a, b) = (c, e))) w := by
    have a0 := fun w => (inferInstance : Agg Tryz.prog 48 false).h w
    have a1 := fun w => (inferInstance : Agg Tryz.prog 3 false).h w
    have u0 : Tryz.prog.underlying 48 = some (.int .i64) := Und.h
    have u1 : Tryz.prog.underlying 3 = some (.int .i64) := Und.h
    have hh : decide ((a, b) = (c, e)) = (a == c && b == e) := by
      rw [Bool.eq_iff_iff]
      simp
    rw [hh]
    simp only [Program.fieldsOf, Tryz.underlying50]
    simp only [Op.eqFields, part, Sem.run_bind, a0, a1, Result.andThen_ok, Sem.run_ite]
    simp [run_equalIn_int _ _ _ _ _ _ _ u0, run_equalIn_int _ _ _ _ _ _ _ u1]
    by_cases q0 : a = c <;> by_cases q1 : b = e <;> simp [q0, q1]
  simp only [execOp, Sem.run_bind, st.eval hx, st.eval hy, run_eqGuard_agg w .neq _ x y _ _ h1, Result.andThen_ok, run_neq_struct, run_equalIn_agg w 9999 _ _ _ h2 h3, key]
  rfl
theorem Gp.eqFault {x y : Operand} {t' : TypeId} {a b c e : Int} (hx : ev L x = some (.agg #[.int .i64 a, .int .i64 b])) (hy : ev L y = some (.agg #[.int .i64 c, .int .i64 e])) :
    Gp Tryz.prog L ⟨d, .binOp .eql 72 x y t', ty, pos, af, gu⟩ (.bool (decide ((a, b) = (c, e)))) := fun g st w => by
  have h1 : Tryz.prog.eqGuardType Tryz.prog.depth 72 = false := by kernel_rfl
  have h2 : Tryz.prog.underlying 72 = some (.struct (Tryz.prog.fieldsOf 72)) := by kernel_rfl
  have h3 : Tryz.prog.stoodInHeld 72 = false := by kernel_rfl
  have key : (Op.eqFields 9999 #[.int .i64 a, .int .i64 b] #[.int .i64 c, .int .i64 e] (Tryz.prog.fieldsOf 72).toList).run Tryz.prog w = .ok (decide ((a, b) = (c, e))) w := by
    have a0 := fun w => (inferInstance : Agg Tryz.prog 28 false).h w
    have a1 := fun w => (inferInstance : Agg Tryz.prog 3 false).h w
    have u0 : Tryz.prog.underlying 28 = some (.int .i64) := Und.h
    have u1 : Tryz.prog.underlying 3 = some (.int .i64) := Und.h
    have hh : decide ((a, b) = (c, e)) = (a == c && b == e) := by
      rw [Bool.eq_iff_iff]
      simp
    rw [hh]
    simp only [Program.fieldsOf, Tryz.underlying72]
    simp only [Op.eqFields, part, Sem.run_bind, a0, a1, Result.andThen_ok, Sem.run_ite]
    simp [run_equalIn_int _ _ _ _ _ _ _ u0, run_equalIn_int _ _ _ _ _ _ _ u1]
    by_cases q0 : a = c <;> by_cases q1 : b = e <;> simp [q0, q1]
  simp only [execOp, Sem.run_bind, st.eval hx, st.eval hy, run_eqGuard_agg w .eql _ x y _ _ h1, Result.andThen_ok, run_eql_struct, run_equalIn_agg w 9999 _ _ _ h2 h3, key]
  rfl
theorem Gp.neFault {x y : Operand} {t' : TypeId} {a b c e : Int} (hx : ev L x = some (.agg #[.int .i64 a, .int .i64 b])) (hy : ev L y = some (.agg #[.int .i64 c, .int .i64 e])) :
    Gp Tryz.prog L ⟨d, .binOp .neq 72 x y t', ty, pos, af, gu⟩ (.bool (!decide ((a, b) = (c, e)))) := fun g st w => by
  have h1 : Tryz.prog.eqGuardType Tryz.prog.depth 72 = false := by kernel_rfl
  have h2 : Tryz.prog.underlying 72 = some (.struct (Tryz.prog.fieldsOf 72)) := by kernel_rfl
  have h3 : Tryz.prog.stoodInHeld 72 = false := by kernel_rfl
  have key : (Op.eqFields 9999 #[.int .i64 a, .int .i64 b] #[.int .i64 c, .int .i64 e] (Tryz.prog.fieldsOf 72).toList).run Tryz.prog w = .ok (decide ((a, b) = (c, e))) w := by
    have a0 := fun w => (inferInstance : Agg Tryz.prog 28 false).h w
    have a1 := fun w => (inferInstance : Agg Tryz.prog 3 false).h w
    have u0 : Tryz.prog.underlying 28 = some (.int .i64) := Und.h
    have u1 : Tryz.prog.underlying 3 = some (.int .i64) := Und.h
    have hh : decide ((a, b) = (c, e)) = (a == c && b == e) := by
      rw [Bool.eq_iff_iff]
      simp
    rw [hh]
    simp only [Program.fieldsOf, Tryz.underlying72]
    simp only [Op.eqFields, part, Sem.run_bind, a0, a1, Result.andThen_ok, Sem.run_ite]
    simp [run_equalIn_int _ _ _ _ _ _ _ u0, run_equalIn_int _ _ _ _ _ _ _ u1]
    by_cases q0 : a = c <;> by_cases q1 : b = e <;> simp [q0, q1]
  simp only [execOp, Sem.run_bind, st.eval hx, st.eval hy, run_eqGuard_agg w .neq _ x y _ _ h1, Result.andThen_ok, run_neq_struct, run_equalIn_agg w 9999 _ _ _ h2 h3, key]
  rfl
end
end Go.Proofs.YtkmigdmdppkpoaaGreatDoor.Gb
namespace Go.Proofs.YtkmigdmdppkpoaaGreatDoor.Gb
open Go Go.Proofs Go.MapKept
set_option linter.unusedVariables false
set_option linter.unusedSimpArgs false
set_option linter.unusedSectionVars false
attribute [local irreducible] Tryz.prog

theorem WL.freezeC {P : Program} {Q : Exit → Act → World → Prop} {cx : Cx} {L : List (Nat × Value)} {G : Gh} {H : List Own} {ops : Array Oper} {rest : List Oper} {j b : Nat} {c : Array Value} {T : TypeId} {cs : List Value} (hj : At H j (.blk b (.cells c T (0, 0)))) (hc : c.toList = cs) (h : ∀ G', G.le G' → Cs G' b 0 cs → WL P ops Q rest cx L G' (H.eraseIdx j)) : WL P ops Q rest cx L G H :=
  WK.freezeC (K := fun a w => wpList P ops Q rest a w) hj hc h

theorem small_fn (G : Gh) : Fn Tryz.prog 40 #[] G [] fun e G' H' => ∃ bi bc bp, e = .returned (.agg (obC (oS vS) (some ⟨bc, 0, none⟩) none (some ⟨bp, 0, none⟩) 1 0 1)) ∧ G = G' ∧
    H' = [.blk bc (.cells (vcells vS).toArray 99 (0, 0)), .blk bp (.cells (prC pS none 0 (some ⟨bi, 0, none⟩) 2) 45 (0, 0)), .blk bi (.cells #[.int .i64 1, .int .i64 0, .int .i64 10, .int .i64 0] 50 (0, 0))] := by
  refine Fn.enter Tryz.func40 rfl rfl fun w0 => ?_
  refine gom ?_
  refine WL.op (by kernel_rfl) (OW.alloc rfl fun b0 => ?_)
  refine gom ?_
  refine WL.op (by kernel_rfl) (OW.buildSlice rfl (by kernel_rfl) (by kernel_rfl) (by rfl) rfl fun b4 => ?_)
  refine gom ?_
  refine WL.op (by kernel_rfl) (OW.alloc rfl fun b1 => ?_)
  refine gom ?_
  refine WL.op (by kernel_rfl) (OW.buildSlice rfl (by kernel_rfl) (by kernel_rfl) (by rfl) rfl fun b7 => ?_)
  refine gom ?_
  refine WL.op (by kernel_rfl) (OW.buildSlice rfl (by kernel_rfl) (by kernel_rfl) (by rfl) rfl fun b9 => ?_)
  refine gom ?_
  refine WC.ret ?_
  refine WK.un ?_
  exact QF.p1 (.inl rfl) rfl (.cell rfl inferInstance inferInstance (by (repeat first | exact .here | apply At.there)) rfl rfl) (⟨b4, b7, b9, rfl, rfl, rfl⟩)
theorem small_rep {G : Gh} {v : V} {bc bp bi : Nat} (h1 : Cs G bc 0 (vcells v)) (h2 : Cs G bp 0 (prC pS none 0 (some ⟨bi, 0, none⟩) 2).toList) (h3 : Cs G bi 0 [.int .i64 1, .int .i64 0, .int .i64 10, .int .i64 0]) : ORep G (oS v) (some ⟨bc, 0, none⟩) none (some ⟨bp, 0, none⟩) where
  consts i x hx := by
    match i, hx with
    | 0, hx => obtain rfl : v = x := Option.some.inj hx
               exact ⟨bc, 0, vcells v, rfl, rfl, h1⟩
    | i + 1, hx => cases hx
  needs i x hx := by cases hx
  procs i x hx := by
    match i, hx with
    | 0, hx =>
      obtain rfl : pS = x := Option.some.inj hx
      refine ⟨bp, 0, _, rfl, ⟨none, 0, some ⟨bi, 0, none⟩, 2, rfl, fun i x hx => (by cases hx), fun i x hx => ?_⟩, h2⟩
      match i, hx with
      | 0, hx => obtain rfl : (1, 0) = x := Option.some.inj hx
                 exact ⟨bi, 0, _, rfl, rfl, fun j v e => h3 j v (by match j, e with | 0, e => exact e | 1, e => exact e | j + 2, e => cases e)⟩
      | 1, hx => obtain rfl : (10, 0) = x := Option.some.inj hx
                 exact ⟨bi, 0, _, rfl, rfl, fun j v e => by
                   have := h3 (j + 2) v (by match j, e with | 0, e => exact e | 1, e => exact e | j + 2, e => cases e)
                   rw [← this]; congr 1; show 0 + 1 * 2 + j = _; omega⟩
      | i + 2, hx => cases hx
    | i + 1, hx => cases hx
end Go.Proofs.YtkmigdmdppkpoaaGreatDoor.Gb
namespace Go.Proofs.YtkmigdmdppkpoaaGreatDoor.Gb
open Go Go.Proofs Go.MapKept
set_option linter.unusedVariables false
set_option linter.unusedSimpArgs false
set_option linter.unusedSectionVars false
attribute [local irreducible] Tryz.prog

set_option maxHeartbeats 2000000 in
theorem awake_fn (G : Gh) (hE : Env G) : Fn Tryz.prog 18 #[] G [] fun e G' H' => e = .returned (.bool true) ∧ G.le G' ∧ H' = [] := by
  refine Fn.enter Tryz.func18 rfl rfl fun w0 => ?_
  refine gom ?_
  refine WL.op (by kernel_rfl) (OW.callK rfl (small_fn G) rfl fun v' G' H' h hg => ?_)
  obtain ⟨bi, bc, bp, he, rfl, rfl⟩ := h
  cases he
  refine WL.freezeC .here rfl fun G1 hg1 h1 => ?_
  refine WL.freezeC .here rfl fun G2 hg2 h2 => ?_
  refine WL.freezeC .here rfl fun G3 hg3 h3 => ?_
  have hle := Gh.le_trans hg1 (Gh.le_trans hg2 hg3)
  have hO := small_rep (h1.mono (Gh.le_trans hg2 hg3)) (h2.mono hg3) h3
  refine WL.op (by kernel_rfl) (OW.callK rfl (Object_fn G3 (hE.mono hle) (oS vS) _ _ _ 1 0 1 hO (oS_lim _)) rfl fun v' G' H' h hg => ?_)
  obtain ⟨he, hg4, rfl⟩ := h
  cases he
  rw [ans_S]
  have hle4 := Gh.le_trans hle hg4
  refine gom ?_
  refine WL.op (by kernel_rfl) (OW.alloc rfl fun b1 => ?_)
  refine gom ?_
  refine WL.op (by kernel_rfl) (OW.callK rfl (small_fn _) rfl fun v' G' H' h hg => ?_)
  obtain ⟨di, dc, dp, he, rfl, rfl⟩ := h
  cases he
  have x0 : (0 : Int) ≤ 0 := by decide
  have x1 : (0 : Int) < ((1 : Nat) : Int) := by decide
  refine WL.op (by kernel_rfl) (OW.alloc rfl fun b3 => ?_)
  refine gom ?_
  refine WL.pick [.blk dc (.cells (vcells vT).toArray 99 (0, 0)), .blk dp (.cells (prC pS none 0 (some ⟨di, 0, none⟩) 2) 45 (0, 0)), .blk di (.cells #[.int .i64 1, .int .i64 0, .int .i64 10, .int .i64 0] 50 (0, 0)), .blk b3 (.cells (obC (oS vT) (some ⟨dc, 0, none⟩) none (some ⟨dp, 0, none⟩) 1 0 1) 26 (0, 0)), spB b1] ?_
  refine WL.freezeC .here rfl fun J1 jg1 j1 => ?_
  refine WL.freezeC .here rfl fun J2 jg2 j2 => ?_
  refine WL.freezeC .here rfl fun J3 jg3 j3 => ?_
  have hlj := Gh.le_trans hle4 (Gh.le_trans jg1 (Gh.le_trans jg2 jg3))
  have hOj := small_rep (j1.mono (Gh.le_trans jg2 jg3)) (j2.mono jg3) j3
  refine gom ?_
  refine WL.op (by kernel_rfl) (OW.callK rfl (Object_fn J3 (hE.mono hlj) (oS vT) _ _ _ 1 0 1 hOj (oS_lim _)) rfl fun v' G' H' h hg => ?_)
  obtain ⟨he, hj4, rfl⟩ := h
  cases he
  rw [ans_T]
  have hlj4 := Gh.le_trans hlj hj4
  refine gom ?_
  refine WL.op (by kernel_rfl) (OW.alloc rfl fun b4 => ?_)
  refine gom ?_
  refine WL.op (by kernel_rfl) (OW.callK rfl (small_fn _) rfl fun v' G' H' h hg => ?_)
  obtain ⟨ei, ec, ep, he, rfl, rfl⟩ := h
  cases he
  refine WL.freezeC .here rfl fun K1 kg1 k1 => ?_
  refine WL.freezeC .here rfl fun K2 kg2 k2 => ?_
  refine WL.freezeC .here rfl fun K3 kg3 k3 => ?_
  have hlk := Gh.le_trans hlj4 (Gh.le_trans kg1 (Gh.le_trans kg2 kg3))
  have hOk := small_rep (k1.mono (Gh.le_trans kg2 kg3)) (k2.mono kg3) k3
  refine WL.op (by kernel_rfl) (OW.callK rfl (Heights_fn K3 (hE.mono hlk) (oS vS) _ _ _ 1 0 1 hOk (oS_lim _) 0) rfl fun v' G' H' h hg => ?_)
  obtain ⟨A, cap, xo, he, hk4, hx, rfl⟩ := h
  cases he
  rw [heights_S] at hx ⊢
  rw [find_S]
  obtain ⟨xb, xc, rfl, rfl, hxc⟩ := hx.some (by decide)
  have hxg : xc[0 + ((1 : Nat) : Int).toNat * 1]? = some (.int .i64 1) := ivec_get (l := [0, 1]) hxc (i := 1) rfl
  have y0 : (0 : Int) ≤ 1 := by decide
  have y1 : (1 : Int) < ((2 : Nat) : Int) := by decide
  have hlk4 := Gh.le_trans hlk hk4
  refine gom ?_
  refine WL.p (Gp.eqSpot rfl rfl) (by kernel_rfl) rfl ?_
  refine gom ?_
  refine WC.ret ?_
  refine WK.un ?_
  exact QF.p1 (.inl rfl) rfl (.tmp rfl) (⟨rfl, hlk4, rfl⟩)
end Go.Proofs.YtkmigdmdppkpoaaGreatDoor.Gb
namespace Go.Proofs.YtkmigdmdppkpoaaGreatDoor.Gb
open Go Go.Proofs Go.MapKept
set_option linter.unusedVariables false
set_option linter.unusedSimpArgs false
set_option linter.unusedSectionVars false
attribute [local irreducible] Tryz.prog
/-! #### words -/
theorem rLetter_fn (G : Gh) (n : Int) (h0 : 0 ≤ n) (h1 : n ≤ 255) : Fn Tryz.prog 145 #[.int .u8 n] G [] fun e G' H' => e = .returned (.bool (letterN n)) ∧ G = G' ∧ H' = [] := by
  refine Fn.enter Tryz.func145 rfl rfl fun w0 => ?_
  have hrng : (0 ≤ n ∧ n ≤ 64) ∨ (65 ≤ n ∧ n ≤ 90) ∨ (91 ≤ n ∧ n ≤ 94) ∨ (95 ≤ n ∧ n ≤ 95) ∨ (96 ≤ n ∧ n ≤ 96) ∨ (97 ≤ n ∧ n ≤ 122) ∨ (123 ≤ n ∧ n ≤ 255) := by omega
  rcases hrng with hr | hr | hr | hr | hr | hr | hr
  · have eq95 : (n == (95 : Int)) = false := by rw [beq_eq_false_iff_ne]; omega
    have ge97 : decide ((97 : Int) ≤ n) = false := decide_eq_false (by omega)
    have le122 : decide (n ≤ (122 : Int)) = true := decide_eq_true (by omega)
    have ge65 : decide ((65 : Int) ≤ n) = false := decide_eq_false (by omega)
    have le90 : decide (n ≤ (90 : Int)) = true := decide_eq_true (by omega)
    have hv : letterN n = false := by unfold letterN; simp only [eq95, ge97, le122, ge65, le90]; rfl
    rw [hv]
    refine gom ?_
    refine WC.ret ?_
    refine WK.un ?_
    exact QF.p1 (.inl rfl) rfl (.tmp rfl) (⟨rfl, rfl, rfl⟩)
  · have eq95 : (n == (95 : Int)) = false := by rw [beq_eq_false_iff_ne]; omega
    have ge97 : decide ((97 : Int) ≤ n) = false := decide_eq_false (by omega)
    have le122 : decide (n ≤ (122 : Int)) = true := decide_eq_true (by omega)
    have ge65 : decide ((65 : Int) ≤ n) = true := decide_eq_true (by omega)
    have le90 : decide (n ≤ (90 : Int)) = true := decide_eq_true (by omega)
    have hv : letterN n = true := by unfold letterN; simp only [eq95, ge97, le122, ge65, le90]; rfl
    rw [hv]
    refine gom ?_
    refine WC.ret ?_
    refine WK.un ?_
    exact QF.p1 (.inl rfl) rfl (.tmp rfl) (⟨rfl, rfl, rfl⟩)
  · have eq95 : (n == (95 : Int)) = false := by rw [beq_eq_false_iff_ne]; omega
    have ge97 : decide ((97 : Int) ≤ n) = false := decide_eq_false (by omega)
    have le122 : decide (n ≤ (122 : Int)) = true := decide_eq_true (by omega)
    have ge65 : decide ((65 : Int) ≤ n) = true := decide_eq_true (by omega)
    have le90 : decide (n ≤ (90 : Int)) = false := decide_eq_false (by omega)
    have hv : letterN n = false := by unfold letterN; simp only [eq95, ge97, le122, ge65, le90]; rfl
    rw [hv]
    refine gom ?_
    refine WC.ret ?_
    refine WK.un ?_
    exact QF.p1 (.inl rfl) rfl (.tmp rfl) (⟨rfl, rfl, rfl⟩)
  · have eq95 : (n == (95 : Int)) = true := by rw [beq_iff_eq]; omega
    have ge97 : decide ((97 : Int) ≤ n) = false := decide_eq_false (by omega)
    have le122 : decide (n ≤ (122 : Int)) = true := decide_eq_true (by omega)
    have ge65 : decide ((65 : Int) ≤ n) = true := decide_eq_true (by omega)
    have le90 : decide (n ≤ (90 : Int)) = false := decide_eq_false (by omega)
    have hv : letterN n = true := by unfold letterN; simp only [eq95, ge97, le122, ge65, le90]; rfl
    rw [hv]
    refine gom ?_
    refine WC.ret ?_
    refine WK.un ?_
    exact QF.p1 (.inl rfl) rfl (.tmp rfl) (⟨rfl, rfl, rfl⟩)
  · have eq95 : (n == (95 : Int)) = false := by rw [beq_eq_false_iff_ne]; omega
    have ge97 : decide ((97 : Int) ≤ n) = false := decide_eq_false (by omega)
    have le122 : decide (n ≤ (122 : Int)) = true := decide_eq_true (by omega)
    have ge65 : decide ((65 : Int) ≤ n) = true := decide_eq_true (by omega)
    have le90 : decide (n ≤ (90 : Int)) = false := decide_eq_false (by omega)
    have hv : letterN n = false := by unfold letterN; simp only [eq95, ge97, le122, ge65, le90]; rfl
    rw [hv]
    refine gom ?_
    refine WC.ret ?_
    refine WK.un ?_
    exact QF.p1 (.inl rfl) rfl (.tmp rfl) (⟨rfl, rfl, rfl⟩)
  · have eq95 : (n == (95 : Int)) = false := by rw [beq_eq_false_iff_ne]; omega
    have ge97 : decide ((97 : Int) ≤ n) = true := decide_eq_true (by omega)
    have le122 : decide (n ≤ (122 : Int)) = true := decide_eq_true (by omega)
    have ge65 : decide ((65 : Int) ≤ n) = true := decide_eq_true (by omega)
    have le90 : decide (n ≤ (90 : Int)) = false := decide_eq_false (by omega)
    have hv : letterN n = true := by unfold letterN; simp only [eq95, ge97, le122, ge65, le90]; rfl
    rw [hv]
    refine gom ?_
    refine WC.ret ?_
    refine WK.un ?_
    exact QF.p1 (.inl rfl) rfl (.tmp rfl) (⟨rfl, rfl, rfl⟩)
  · have eq95 : (n == (95 : Int)) = false := by rw [beq_eq_false_iff_ne]; omega
    have ge97 : decide ((97 : Int) ≤ n) = true := decide_eq_true (by omega)
    have le122 : decide (n ≤ (122 : Int)) = false := decide_eq_false (by omega)
    have ge65 : decide ((65 : Int) ≤ n) = true := decide_eq_true (by omega)
    have le90 : decide (n ≤ (90 : Int)) = false := decide_eq_false (by omega)
    have hv : letterN n = false := by unfold letterN; simp only [eq95, ge97, le122, ge65, le90]; rfl
    rw [hv]
    refine gom ?_
    refine WC.ret ?_
    refine WK.un ?_
    exact QF.p1 (.inl rfl) rfl (.tmp rfl) (⟨rfl, rfl, rfl⟩)
theorem rDigit_fn (G : Gh) (n : Int) (h0 : 0 ≤ n) (h1 : n ≤ 255) : Fn Tryz.prog 146 #[.int .u8 n] G [] fun e G' H' => e = .returned (.bool (digitN n)) ∧ G = G' ∧ H' = [] := by
  refine Fn.enter Tryz.func146 rfl rfl fun w0 => ?_
  have hrng : (0 ≤ n ∧ n ≤ 47) ∨ (48 ≤ n ∧ n ≤ 57) ∨ (58 ≤ n ∧ n ≤ 255) := by omega
  rcases hrng with hr | hr | hr
  · have ge48 : decide ((48 : Int) ≤ n) = false := decide_eq_false (by omega)
    have le57 : decide (n ≤ (57 : Int)) = true := decide_eq_true (by omega)
    have hv : digitN n = false := by unfold digitN; simp only [ge48, le57]; rfl
    rw [hv]
    refine gom ?_
    refine WC.ret ?_
    refine WK.un ?_
    exact QF.p1 (.inl rfl) rfl (.tmp rfl) (⟨rfl, rfl, rfl⟩)
  · have ge48 : decide ((48 : Int) ≤ n) = true := decide_eq_true (by omega)
    have le57 : decide (n ≤ (57 : Int)) = true := decide_eq_true (by omega)
    have hv : digitN n = true := by unfold digitN; simp only [ge48, le57]; rfl
    rw [hv]
    refine gom ?_
    refine WC.ret ?_
    refine WK.un ?_
    exact QF.p1 (.inl rfl) rfl (.tmp rfl) (⟨rfl, rfl, rfl⟩)
  · have ge48 : decide ((48 : Int) ≤ n) = true := decide_eq_true (by omega)
    have le57 : decide (n ≤ (57 : Int)) = false := decide_eq_false (by omega)
    have hv : digitN n = false := by unfold digitN; simp only [ge48, le57]; rfl
    rw [hv]
    refine gom ?_
    refine WC.ret ?_
    refine WK.un ?_
    exact QF.p1 (.inl rfl) rfl (.tmp rfl) (⟨rfl, rfl, rfl⟩)
theorem rkeys_fn (G : Gh) : Fn Tryz.prog 148 #[] G [] fun e G' H' => ∃ b, e = .returned (.slice (some ⟨b, 0, none⟩) 16 16) ∧ G.le G' ∧ Sl Kd.str G' (some ⟨b, 0, none⟩) keysL ∧ H' = [] := by
  refine Fn.enter Tryz.func148 rfl rfl fun w0 => ?_
  refine gom ?_
  refine WL.op (by kernel_rfl) (OW.buildSlice rfl (by kernel_rfl) (by kernel_rfl) (by rfl) rfl fun b1 => ?_)
  refine gom ?_
  refine WC.freezeC (cs := keysL.map Value.string) .here rfl fun G1 hg1 h1 => ?_
  refine WC.ret ?_
  refine WK.un ?_
  exact QF.p1 (.inl rfl) rfl (.tmp rfl) (⟨b1, rfl, hg1, Cs.strs h1, rfl⟩)
theorem ramong_fn (G : Gh) (A : Option Addr) (l : List ByteArray) (cap : Nat) (s : ByteArray) (hA : Sl Kd.str G A l) (hl : l.length ≤ 100000000000000) :
    Fn Tryz.prog 147 #[.slice A l.length cap, .string s] G [] fun e G' H' => e = .returned (.bool (l.any (fun k => s == k))) ∧ G = G' ∧ H' = [] := by
  refine Fn.enter Tryz.func147 rfl rfl fun w0 => ?_
  refine gom ?_
  refine WC.loop (X := Nat) (fun i => [(0, .slice A l.length cap), (1, .string s), (5, .int .i64 (i : Int))]) (fun _ => G) (fun _ => []) (fun i => l.length - i) (fun i => i ≤ l.length ∧ ∀ j y, j < i → l[j]? = some y → (s == y) = false) 0 ⟨Nat.zero_le _, (fun j y h => absurd h (Nat.not_lt_zero _))⟩ (by exact ⟨rfl, rfl, rfl, trivial⟩) rfl (List.Sublist.refl _) fun i hx => ?_
  obtain ⟨hi, hall⟩ := hx
  have x2 := wrapS i (by omega)
  by_cases hlt : i < l.length
  rotate_left
  · have e2 : decide ((i : Int) < (l.length : Int)) = false := decide_eq_false (by omega)
    rw [any_none hall (by omega)]
    refine gom ?_
    refine WC.ret ?_
    refine WK.un ?_
    exact QF.p1 (.inl rfl) rfl (.tmp rfl) (⟨rfl, rfl, rfl⟩)
  have e2 : decide ((i : Int) < (l.length : Int)) = true := decide_eq_true (by omega)
  obtain ⟨y, hy⟩ : ∃ y, l[i]? = some y := ⟨_, List.getElem?_eq_getElem hlt⟩
  obtain ⟨ab, ao, cs, rfl, hk, hcs⟩ := hA i y hy
  obtain rfl : cs = [.string y] := hk
  have x0 : (0 : Int) ≤ i := by omega
  have x1 : (i : Int) < (l.length : Int) := by omega
  have hsym : (y == s) = (s == y) := by rw [bytes_beq, bytes_beq]; congr 1; exact propext ⟨Eq.symm, Eq.symm⟩
  cases hq : (s == y) with
  | true =>
    have hv : l.any (fun k => s == k) = true := List.any_eq_true.2 ⟨y, List.mem_of_getElem? hy, hq⟩
    rw [hv]
    refine gom ?_
    rw [hsym, hq]
    refine gom ?_
    refine WC.ret ?_
    refine WK.un ?_
    exact QF.p1 (.inl rfl) rfl (.tmp rfl) (⟨rfl, rfl, rfl⟩)
  | false =>
    refine gom ?_
    rw [hsym, hq]
    refine gom ?_
    exact WK.again (i + 1) (by omega) ⟨by omega, any_step hy hall hq⟩ (by exact ⟨rfl, rfl, rfl, trivial⟩) rfl (List.Sublist.refl _)
theorem rKey_fn (G : Gh) (s : ByteArray) : Fn Tryz.prog 124 #[.string s] G [] fun e G' H' => e = .returned (.bool (keyR s)) ∧ G.le G' ∧ H' = [] := by
  refine Fn.enter Tryz.func124 rfl rfl fun w0 => ?_
  refine gom ?_
  refine WL.op (by kernel_rfl) (OW.callK rfl (rkeys_fn G) rfl fun v' G' H' h hg => ?_)
  obtain ⟨b, he, hg1, hs, rfl⟩ := h
  cases he
  refine gom ?_
  refine WL.op (by kernel_rfl) (OW.callK rfl (ramong_fn G' _ keysL 16 s hs (by decide)) rfl fun v' G' H' h hg => ?_)
  obtain ⟨he, rfl, rfl⟩ := h
  cases he
  refine gom ?_
  refine WC.ret ?_
  refine WK.un ?_
  exact QF.p1 (.inl rfl) rfl (.tmp rfl) (⟨rfl, hg1, rfl⟩)
/-- letters and digits, a letter first, not too many -/
def rnameR (s : ByteArray) : Bool :=
  match bytesL s with
  | [] => false
  | c :: l => letterN c.toNat && (decide ((c :: l).length ≤ 32) && (c :: l).all (fun c => wordN c.toNat))
theorem u8le (c : UInt8) : ((c.toNat : Nat) : Int) ≤ 255 := by have := c.toNat_lt; omega
theorem rname_fn (G : Gh) (s : ByteArray) (hl : s.size ≤ 100000000000000) : Fn Tryz.prog 123 #[.string s] G [] fun e G' H' => e = .returned (.bool (rnameR s)) ∧ G = G' ∧ H' = [] := by
  have hbl := bytesL_length s
  refine Fn.enter Tryz.func123 rfl rfl fun w0 => ?_
  cases hb : bytesL s with
  | nil =>
    have h0 : s.size = 0 := by rw [← hbl, hb]; rfl
    have e1 : ((s.size : Int) == 0) = true := by rw [h0]; rfl
    have hv : rnameR s = false := by unfold rnameR; rw [hb]
    rw [hv]
    refine gom ?_
    refine WC.ret ?_
    refine WK.un ?_
    exact QF.p1 (.inl rfl) rfl (.tmp rfl) (⟨rfl, rfl, rfl⟩)
  | cons c l =>
  have hsz : s.size = (c :: l).length := by rw [← hbl, hb]
  have hpos : 0 < s.size := by rw [hsz]; simp
  have e1 : ((s.size : Int) == 0) = false := by rw [beq_eq_false_iff_ne]; omega
  have hv : rnameR s = (letterN c.toNat && (decide ((c :: l).length ≤ 32) && (c :: l).all (fun c => wordN c.toNat))) := by unfold rnameR; rw [hb]
  rw [hv, ← hsz]
  by_cases h32 : s.size ≤ 32
  rotate_left
  · have e2 : decide ((32 : Int) < (s.size : Int)) = true := decide_eq_true (by omega)
    rw [decide_eq_false h32]
    refine gom ?_
    refine WC.ret ?_
    refine WK.un ?_
    exact QF.p1 (.inl rfl) rfl (.tmp rfl) (⟨by simp, rfl, rfl⟩)
  have e2 : decide ((32 : Int) < (s.size : Int)) = false := decide_eq_false (by omega)
  rw [decide_eq_true h32]
  have hc : (bytesL s)[(0 : Int).toNat]? = some c := by rw [hb]; rfl
  refine gom ?_
  refine WL.p (Gp.indexS rfl rfl (by decide) hc) (by kernel_rfl) rfl ?_
  refine WL.op (by kernel_rfl) (OW.callK rfl (rLetter_fn G c.toNat (by omega) (u8le c)) rfl fun v' G' H' h hg => ?_)
  obtain ⟨he, rfl, rfl⟩ := h
  cases he
  cases hlc : letterN c.toNat with
  | false =>
    refine gom ?_
    refine WC.ret ?_
    refine WK.un ?_
    exact QF.p1 (.inl rfl) rfl (.tmp rfl) (⟨by simp, rfl, rfl⟩)
  | true =>
  refine gom ?_
  refine WC.loop (X := Nat) (fun i => [(0, .string s), (3, .int .i64 (i : Int))]) (fun _ => G) (fun _ => []) (fun i => s.size - i) (fun i => i ≤ s.size ∧ ∀ j y, j < i → (c :: l)[j]? = some y → (fun c : UInt8 => wordN c.toNat) y = true) 0 ⟨Nat.zero_le _, (fun j y h => absurd h (Nat.not_lt_zero _))⟩ (by exact ⟨rfl, rfl, trivial⟩) rfl (List.Sublist.refl _) fun i hx => ?_
  obtain ⟨hi, hall⟩ := hx
  have x2 := wrapS i (by omega)
  by_cases hlt : i < s.size
  rotate_left
  · have e3 : decide ((i : Int) < (s.size : Int)) = false := decide_eq_false (by omega)
    have ha := all_of (f := fun c : UInt8 => wordN c.toNat) hall (by omega)
    rw [ha]
    refine gom ?_
    refine WC.ret ?_
    refine WK.un ?_
    exact QF.p1 (.inl rfl) rfl (.tmp rfl) (⟨rfl, rfl, rfl⟩)
  have e3 : decide ((i : Int) < (s.size : Int)) = true := decide_eq_true (by omega)
  obtain ⟨y, hy⟩ : ∃ y, (c :: l)[i]? = some y := ⟨_, List.getElem?_eq_getElem (by omega)⟩
  have hy' : (bytesL s)[i]? = some y := by rw [hb]; exact hy
  refine gom ?_
  refine WL.p (Gp.indexS rfl rfl (by omega) hy') (by kernel_rfl) rfl ?_
  refine WL.op (by kernel_rfl) (OW.callK rfl (rLetter_fn G y.toNat (by omega) (u8le y)) rfl fun v' G' H' h hg => ?_)
  obtain ⟨he, rfl, rfl⟩ := h
  cases he
  cases hl1 : letterN y.toNat with
  | true =>
    have hw : (fun c : UInt8 => wordN c.toNat) y = true := by dsimp only; unfold wordN; rw [hl1]; rfl
    refine gom ?_
    exact WK.again (i + 1) (by omega) ⟨by omega, all_step (f := fun c : UInt8 => wordN c.toNat) hy hall hw⟩ (by exact ⟨rfl, rfl, trivial⟩) rfl (List.Sublist.refl _)
  | false =>
  refine gom ?_
  refine WL.p (Gp.indexS rfl rfl (by omega) hy') (by kernel_rfl) rfl ?_
  refine WL.op (by kernel_rfl) (OW.callK rfl (rDigit_fn G y.toNat (by omega) (u8le y)) rfl fun v' G' H' h hg => ?_)
  obtain ⟨he, rfl, rfl⟩ := h
  cases he
  cases hd1 : digitN y.toNat with
  | true =>
    have hw : (fun c : UInt8 => wordN c.toNat) y = true := by dsimp only; unfold wordN; rw [hl1, hd1]; rfl
    refine gom ?_
    exact WK.again (i + 1) (by omega) ⟨by omega, all_step (f := fun c : UInt8 => wordN c.toNat) hy hall hw⟩ (by exact ⟨rfl, rfl, trivial⟩) rfl (List.Sublist.refl _)
  | false =>
    have hw : (fun c : UInt8 => wordN c.toNat) y = false := by dsimp only; unfold wordN; rw [hl1, hd1]; rfl
    rw [all_not (f := fun c : UInt8 => wordN c.toNat) hy hw]
    refine gom ?_
    refine WC.ret ?_
    refine WK.un ?_
    exact QF.p1 (.inl rfl) rfl (.tmp rfl) (⟨rfl, rfl, rfl⟩)
theorem runL_allH {g : Int → Bool} : ∀ l : List UInt8, decide (runL g l = l.length) = l.all (fun c => g c.toNat)
  | [] => rfl
  | c :: l => by
    have ih := runL_allH (g := g) l
    have hle := runL_le g l
    rw [List.all_cons]
    by_cases hg : g c.toNat = true
    · have hr : runL g (c :: l) = 1 + runL g l := by simp only [runL, if_pos hg]
      rw [hg, Bool.true_and, ← ih]
      by_cases h : runL g l = l.length
      · rw [decide_eq_true h, decide_eq_true (by rw [hr, List.length_cons]; omega)]
      · rw [decide_eq_false h, decide_eq_false (by rw [hr, List.length_cons]; omega)]
    · have hr : runL g (c :: l) = 0 := by simp only [runL, if_neg hg]
      rw [show g c.toNat = false by simpa using hg, Bool.false_and]
      exact decide_eq_false (by rw [hr, List.length_cons]; omega)
theorem word_eq (s : ByteArray) : wordR s = (rnameR s && !keyR s) := by
  unfold wordR rnameR
  cases bytesL s with
  | nil => rfl
  | cons c l =>
    dsimp only
    rw [runL_allH]
    cases letterN c.toNat <;> cases (c :: l).all (fun c => wordN c.toNat) <;> cases decide ((c :: l).length ≤ 32) <;> rfl
theorem rWord_fn (G : Gh) (s : ByteArray) (hl : s.size ≤ 100000000000000) : Fn Tryz.prog 98 #[.string s] G [] fun e G' H' => e = .returned (.bool (wordR s)) ∧ G.le G' ∧ H' = [] := by
  rw [word_eq]
  refine Fn.enter Tryz.func98 rfl rfl fun w0 => ?_
  refine gom ?_
  refine WL.op (by kernel_rfl) (OW.callK rfl (rname_fn G s hl) rfl fun v' G' H' h hg => ?_)
  obtain ⟨he, rfl, rfl⟩ := h
  cases he
  cases h1 : rnameR s with
  | false =>
    refine gom ?_
    refine WC.ret ?_
    refine WK.un ?_
    exact QF.p1 (.inl rfl) rfl (.tmp rfl) (⟨rfl, Gh.le_refl _, rfl⟩)
  | true =>
  refine gom ?_
  refine WL.op (by kernel_rfl) (OW.callK rfl (rKey_fn G s) rfl fun v' G' H' h hg => ?_)
  obtain ⟨he, hg1, rfl⟩ := h
  cases he
  refine gom ?_
  refine WC.ret ?_
  refine WK.un ?_
  exact QF.p1 (.inl rfl) rfl (.tmp rfl) (⟨rfl, hg1, rfl⟩)
/-! #### paths -/
set_option maxHeartbeats 4000000 in
theorem rName4_fn (G : Gh) (s : ByteArray) (hl : s.size ≤ 100000000000000) : Fn Tryz.prog 170 #[.string s] G [] fun e G' H' => e = .returned (.bool (nameR s)) ∧ G = G' ∧ H' = [] := by
  have hbl := bytesL_length s
  refine Fn.enter Tryz.func170 rfl rfl fun w0 => ?_
  by_cases h1 : s.size < 1
  · have y1 : decide ((s.size : Int) < 1) = true := decide_eq_true (by omega)
    have hn : nameR s = false := by unfold nameR; rw [decide_eq_false (show ¬ 1 ≤ s.size by omega)]; rfl
    rw [hn]
    refine gom ?_
    refine WC.ret ?_
    refine WK.un ?_
    exact QF.p1 (.inl rfl) rfl (.tmp rfl) (⟨rfl, rfl, rfl⟩)
  have y1 : decide ((s.size : Int) < 1) = false := decide_eq_false (by omega)
  by_cases h2 : 64 < s.size
  · have y2 : decide ((64 : Int) < (s.size : Int)) = true := decide_eq_true (by omega)
    have hn : nameR s = false := by unfold nameR; rw [decide_eq_false (show ¬ s.size ≤ 64 by omega)]; simp
    rw [hn]
    refine gom ?_
    refine WC.ret ?_
    refine WK.un ?_
    exact QF.p1 (.inl rfl) rfl (.tmp rfl) (⟨rfl, rfl, rfl⟩)
  have y2 : decide ((64 : Int) < (s.size : Int)) = false := decide_eq_false (by omega)
  cases h3 : (s == ⟨#[46]⟩) with
  | true =>
    have hn : nameR s = false := by unfold nameR; rw [h3]; simp
    rw [hn]
    refine gom ?_
    rw [h3]
    refine gom ?_
    refine WC.ret ?_
    refine WK.un ?_
    exact QF.p1 (.inl rfl) rfl (.tmp rfl) (⟨rfl, rfl, rfl⟩)
  | false =>
  cases h4 : (s == ⟨#[46, 46]⟩) with
  | true =>
    have hn : nameR s = false := by unfold nameR; rw [h4]; simp
    rw [hn]
    refine gom ?_
    rw [h3]
    refine gom ?_
    rw [h4]
    refine gom ?_
    refine WC.ret ?_
    refine WK.un ?_
    exact QF.p1 (.inl rfl) rfl (.tmp rfl) (⟨rfl, rfl, rfl⟩)
  | false =>
  have hn : nameR s = (bytesL s).all (fun c => nameC c.toNat) := by unfold nameR; rw [h3, h4, decide_eq_true (show 1 ≤ s.size by omega), decide_eq_true (show s.size ≤ 64 by omega)]; rfl
  rw [hn]
  refine gom ?_
  rw [h3]
  refine gom ?_
  rw [h4]
  refine gom ?_
  refine WC.loop (X := Nat) (fun i => [(0, .string s), (3, .int .i64 (i : Int))]) (fun _ => G) (fun _ => []) (fun i => s.size - i) (fun i => i ≤ s.size ∧ ∀ j y, j < i → (bytesL s)[j]? = some y → (fun c : UInt8 => nameC c.toNat) y = true) 0 ⟨Nat.zero_le _, (fun j y h => absurd h (Nat.not_lt_zero _))⟩ (by exact ⟨rfl, rfl, trivial⟩) rfl (List.Sublist.refl _) fun i hx => ?_
  obtain ⟨hi, hall⟩ := hx
  have x2 := wrapS i (by omega)
  by_cases hlt : i < s.size
  rotate_left
  · have e3 : decide ((i : Int) < (s.size : Int)) = false := decide_eq_false (by omega)
    have ha := all_of (f := fun c : UInt8 => nameC c.toNat) hall (by omega)
    rw [ha]
    refine gom ?_
    refine WC.ret ?_
    refine WK.un ?_
    exact QF.p1 (.inl rfl) rfl (.tmp rfl) (⟨rfl, rfl, rfl⟩)
  have e3 : decide ((i : Int) < (s.size : Int)) = true := decide_eq_true (by omega)
  obtain ⟨y, hy⟩ : ∃ y, (bytesL s)[i]? = some y := ⟨_, List.getElem?_eq_getElem (by omega)⟩
  have hu := u8le y
  refine gom ?_
  refine WL.p (Gp.indexS rfl rfl (by omega) hy) (by kernel_rfl) rfl ?_
  obtain ⟨m, hm⟩ : ∃ m : Int, m = ((y.toNat : Nat) : Int) := ⟨_, rfl⟩
  rw [← hm] at hu ⊢
  have hm0 : 0 ≤ m := by omega
  have hrng : (0 ≤ m ∧ m ≤ 44) ∨ (45 ≤ m ∧ m ≤ 45) ∨ (46 ≤ m ∧ m ≤ 46) ∨ (47 ≤ m ∧ m ≤ 47) ∨ (48 ≤ m ∧ m ≤ 57) ∨ (58 ≤ m ∧ m ≤ 64) ∨ (65 ≤ m ∧ m ≤ 90) ∨ (91 ≤ m ∧ m ≤ 94) ∨ (95 ≤ m ∧ m ≤ 95) ∨ (96 ≤ m ∧ m ≤ 96) ∨ (97 ≤ m ∧ m ≤ 122) ∨ (123 ≤ m ∧ m ≤ 255) := by omega
  rcases hrng with hr | hr | hr | hr | hr | hr | hr | hr | hr | hr | hr | hr
  · have ge97 : decide ((97 : Int) ≤ m) = false := decide_eq_false (by omega)
    have le122 : decide (m ≤ (122 : Int)) = true := decide_eq_true (by omega)
    have ge65 : decide ((65 : Int) ≤ m) = false := decide_eq_false (by omega)
    have le90 : decide (m ≤ (90 : Int)) = true := decide_eq_true (by omega)
    have ge48 : decide ((48 : Int) ≤ m) = false := decide_eq_false (by omega)
    have le57 : decide (m ≤ (57 : Int)) = true := decide_eq_true (by omega)
    have eq46 : (m == (46 : Int)) = false := by rw [beq_eq_false_iff_ne]; omega
    have eq95 : (m == (95 : Int)) = false := by rw [beq_eq_false_iff_ne]; omega
    have eq45 : (m == (45 : Int)) = false := by rw [beq_eq_false_iff_ne]; omega
    have hw : (fun c : UInt8 => nameC c.toNat) y = false := by dsimp only; rw [← hm]; unfold nameC; simp only [ge97, le122, ge65, le90, ge48, le57, eq46, eq95, eq45]; rfl
    rw [all_not (f := fun c : UInt8 => nameC c.toNat) hy hw]
    refine gom ?_
    refine WC.ret ?_
    refine WK.un ?_
    exact QF.p1 (.inl rfl) rfl (.tmp rfl) (⟨rfl, rfl, rfl⟩)
  · have ge97 : decide ((97 : Int) ≤ m) = false := decide_eq_false (by omega)
    have le122 : decide (m ≤ (122 : Int)) = true := decide_eq_true (by omega)
    have ge65 : decide ((65 : Int) ≤ m) = false := decide_eq_false (by omega)
    have le90 : decide (m ≤ (90 : Int)) = true := decide_eq_true (by omega)
    have ge48 : decide ((48 : Int) ≤ m) = false := decide_eq_false (by omega)
    have le57 : decide (m ≤ (57 : Int)) = true := decide_eq_true (by omega)
    have eq46 : (m == (46 : Int)) = false := by rw [beq_eq_false_iff_ne]; omega
    have eq95 : (m == (95 : Int)) = false := by rw [beq_eq_false_iff_ne]; omega
    have eq45 : (m == (45 : Int)) = true := by rw [beq_iff_eq]; omega
    have hw : (fun c : UInt8 => nameC c.toNat) y = true := by dsimp only; rw [← hm]; unfold nameC; simp only [ge97, le122, ge65, le90, ge48, le57, eq46, eq95, eq45]; rfl
    refine gom ?_
    exact WK.again (i + 1) (by omega) ⟨by omega, all_step (f := fun c : UInt8 => nameC c.toNat) hy hall hw⟩ (by exact ⟨rfl, rfl, trivial⟩) rfl (List.Sublist.refl _)
  · have ge97 : decide ((97 : Int) ≤ m) = false := decide_eq_false (by omega)
    have le122 : decide (m ≤ (122 : Int)) = true := decide_eq_true (by omega)
    have ge65 : decide ((65 : Int) ≤ m) = false := decide_eq_false (by omega)
    have le90 : decide (m ≤ (90 : Int)) = true := decide_eq_true (by omega)
    have ge48 : decide ((48 : Int) ≤ m) = false := decide_eq_false (by omega)
    have le57 : decide (m ≤ (57 : Int)) = true := decide_eq_true (by omega)
    have eq46 : (m == (46 : Int)) = true := by rw [beq_iff_eq]; omega
    have eq95 : (m == (95 : Int)) = false := by rw [beq_eq_false_iff_ne]; omega
    have eq45 : (m == (45 : Int)) = false := by rw [beq_eq_false_iff_ne]; omega
    have hw : (fun c : UInt8 => nameC c.toNat) y = true := by dsimp only; rw [← hm]; unfold nameC; simp only [ge97, le122, ge65, le90, ge48, le57, eq46, eq95, eq45]; rfl
    refine gom ?_
    exact WK.again (i + 1) (by omega) ⟨by omega, all_step (f := fun c : UInt8 => nameC c.toNat) hy hall hw⟩ (by exact ⟨rfl, rfl, trivial⟩) rfl (List.Sublist.refl _)
  · have ge97 : decide ((97 : Int) ≤ m) = false := decide_eq_false (by omega)
    have le122 : decide (m ≤ (122 : Int)) = true := decide_eq_true (by omega)
    have ge65 : decide ((65 : Int) ≤ m) = false := decide_eq_false (by omega)
    have le90 : decide (m ≤ (90 : Int)) = true := decide_eq_true (by omega)
    have ge48 : decide ((48 : Int) ≤ m) = false := decide_eq_false (by omega)
    have le57 : decide (m ≤ (57 : Int)) = true := decide_eq_true (by omega)
    have eq46 : (m == (46 : Int)) = false := by rw [beq_eq_false_iff_ne]; omega
    have eq95 : (m == (95 : Int)) = false := by rw [beq_eq_false_iff_ne]; omega
    have eq45 : (m == (45 : Int)) = false := by rw [beq_eq_false_iff_ne]; omega
    have hw : (fun c : UInt8 => nameC c.toNat) y = false := by dsimp only; rw [← hm]; unfold nameC; simp only [ge97, le122, ge65, le90, ge48, le57, eq46, eq95, eq45]; rfl
    rw [all_not (f := fun c : UInt8 => nameC c.toNat) hy hw]
    refine gom ?_
    refine WC.ret ?_
    refine WK.un ?_
    exact QF.p1 (.inl rfl) rfl (.tmp rfl) (⟨rfl, rfl, rfl⟩)
  · have ge97 : decide ((97 : Int) ≤ m) = false := decide_eq_false (by omega)
    have le122 : decide (m ≤ (122 : Int)) = true := decide_eq_true (by omega)
    have ge65 : decide ((65 : Int) ≤ m) = false := decide_eq_false (by omega)
    have le90 : decide (m ≤ (90 : Int)) = true := decide_eq_true (by omega)
    have ge48 : decide ((48 : Int) ≤ m) = true := decide_eq_true (by omega)
    have le57 : decide (m ≤ (57 : Int)) = true := decide_eq_true (by omega)
    have eq46 : (m == (46 : Int)) = false := by rw [beq_eq_false_iff_ne]; omega
    have eq95 : (m == (95 : Int)) = false := by rw [beq_eq_false_iff_ne]; omega
    have eq45 : (m == (45 : Int)) = false := by rw [beq_eq_false_iff_ne]; omega
    have hw : (fun c : UInt8 => nameC c.toNat) y = true := by dsimp only; rw [← hm]; unfold nameC; simp only [ge97, le122, ge65, le90, ge48, le57, eq46, eq95, eq45]; rfl
    refine gom ?_
    exact WK.again (i + 1) (by omega) ⟨by omega, all_step (f := fun c : UInt8 => nameC c.toNat) hy hall hw⟩ (by exact ⟨rfl, rfl, trivial⟩) rfl (List.Sublist.refl _)
  · have ge97 : decide ((97 : Int) ≤ m) = false := decide_eq_false (by omega)
    have le122 : decide (m ≤ (122 : Int)) = true := decide_eq_true (by omega)
    have ge65 : decide ((65 : Int) ≤ m) = false := decide_eq_false (by omega)
    have le90 : decide (m ≤ (90 : Int)) = true := decide_eq_true (by omega)
    have ge48 : decide ((48 : Int) ≤ m) = true := decide_eq_true (by omega)
    have le57 : decide (m ≤ (57 : Int)) = false := decide_eq_false (by omega)
    have eq46 : (m == (46 : Int)) = false := by rw [beq_eq_false_iff_ne]; omega
    have eq95 : (m == (95 : Int)) = false := by rw [beq_eq_false_iff_ne]; omega
    have eq45 : (m == (45 : Int)) = false := by rw [beq_eq_false_iff_ne]; omega
    have hw : (fun c : UInt8 => nameC c.toNat) y = false := by dsimp only; rw [← hm]; unfold nameC; simp only [ge97, le122, ge65, le90, ge48, le57, eq46, eq95, eq45]; rfl
    rw [all_not (f := fun c : UInt8 => nameC c.toNat) hy hw]
    refine gom ?_
    refine WC.ret ?_
    refine WK.un ?_
    exact QF.p1 (.inl rfl) rfl (.tmp rfl) (⟨rfl, rfl, rfl⟩)
  · have ge97 : decide ((97 : Int) ≤ m) = false := decide_eq_false (by omega)
    have le122 : decide (m ≤ (122 : Int)) = true := decide_eq_true (by omega)
    have ge65 : decide ((65 : Int) ≤ m) = true := decide_eq_true (by omega)
    have le90 : decide (m ≤ (90 : Int)) = true := decide_eq_true (by omega)
    have ge48 : decide ((48 : Int) ≤ m) = true := decide_eq_true (by omega)
    have le57 : decide (m ≤ (57 : Int)) = false := decide_eq_false (by omega)
    have eq46 : (m == (46 : Int)) = false := by rw [beq_eq_false_iff_ne]; omega
    have eq95 : (m == (95 : Int)) = false := by rw [beq_eq_false_iff_ne]; omega
    have eq45 : (m == (45 : Int)) = false := by rw [beq_eq_false_iff_ne]; omega
    have hw : (fun c : UInt8 => nameC c.toNat) y = true := by dsimp only; rw [← hm]; unfold nameC; simp only [ge97, le122, ge65, le90, ge48, le57, eq46, eq95, eq45]; rfl
    refine gom ?_
    exact WK.again (i + 1) (by omega) ⟨by omega, all_step (f := fun c : UInt8 => nameC c.toNat) hy hall hw⟩ (by exact ⟨rfl, rfl, trivial⟩) rfl (List.Sublist.refl _)
  · have ge97 : decide ((97 : Int) ≤ m) = false := decide_eq_false (by omega)
    have le122 : decide (m ≤ (122 : Int)) = true := decide_eq_true (by omega)
    have ge65 : decide ((65 : Int) ≤ m) = true := decide_eq_true (by omega)
    have le90 : decide (m ≤ (90 : Int)) = false := decide_eq_false (by omega)
    have ge48 : decide ((48 : Int) ≤ m) = true := decide_eq_true (by omega)
    have le57 : decide (m ≤ (57 : Int)) = false := decide_eq_false (by omega)
    have eq46 : (m == (46 : Int)) = false := by rw [beq_eq_false_iff_ne]; omega
    have eq95 : (m == (95 : Int)) = false := by rw [beq_eq_false_iff_ne]; omega
    have eq45 : (m == (45 : Int)) = false := by rw [beq_eq_false_iff_ne]; omega
    have hw : (fun c : UInt8 => nameC c.toNat) y = false := by dsimp only; rw [← hm]; unfold nameC; simp only [ge97, le122, ge65, le90, ge48, le57, eq46, eq95, eq45]; rfl
    rw [all_not (f := fun c : UInt8 => nameC c.toNat) hy hw]
    refine gom ?_
    refine WC.ret ?_
    refine WK.un ?_
    exact QF.p1 (.inl rfl) rfl (.tmp rfl) (⟨rfl, rfl, rfl⟩)
  · have ge97 : decide ((97 : Int) ≤ m) = false := decide_eq_false (by omega)
    have le122 : decide (m ≤ (122 : Int)) = true := decide_eq_true (by omega)
    have ge65 : decide ((65 : Int) ≤ m) = true := decide_eq_true (by omega)
    have le90 : decide (m ≤ (90 : Int)) = false := decide_eq_false (by omega)
    have ge48 : decide ((48 : Int) ≤ m) = true := decide_eq_true (by omega)
    have le57 : decide (m ≤ (57 : Int)) = false := decide_eq_false (by omega)
    have eq46 : (m == (46 : Int)) = false := by rw [beq_eq_false_iff_ne]; omega
    have eq95 : (m == (95 : Int)) = true := by rw [beq_iff_eq]; omega
    have eq45 : (m == (45 : Int)) = false := by rw [beq_eq_false_iff_ne]; omega
    have hw : (fun c : UInt8 => nameC c.toNat) y = true := by dsimp only; rw [← hm]; unfold nameC; simp only [ge97, le122, ge65, le90, ge48, le57, eq46, eq95, eq45]; rfl
    refine gom ?_
    exact WK.again (i + 1) (by omega) ⟨by omega, all_step (f := fun c : UInt8 => nameC c.toNat) hy hall hw⟩ (by exact ⟨rfl, rfl, trivial⟩) rfl (List.Sublist.refl _)
  · have ge97 : decide ((97 : Int) ≤ m) = false := decide_eq_false (by omega)
    have le122 : decide (m ≤ (122 : Int)) = true := decide_eq_true (by omega)
    have ge65 : decide ((65 : Int) ≤ m) = true := decide_eq_true (by omega)
    have le90 : decide (m ≤ (90 : Int)) = false := decide_eq_false (by omega)
    have ge48 : decide ((48 : Int) ≤ m) = true := decide_eq_true (by omega)
    have le57 : decide (m ≤ (57 : Int)) = false := decide_eq_false (by omega)
    have eq46 : (m == (46 : Int)) = false := by rw [beq_eq_false_iff_ne]; omega
    have eq95 : (m == (95 : Int)) = false := by rw [beq_eq_false_iff_ne]; omega
    have eq45 : (m == (45 : Int)) = false := by rw [beq_eq_false_iff_ne]; omega
    have hw : (fun c : UInt8 => nameC c.toNat) y = false := by dsimp only; rw [← hm]; unfold nameC; simp only [ge97, le122, ge65, le90, ge48, le57, eq46, eq95, eq45]; rfl
    rw [all_not (f := fun c : UInt8 => nameC c.toNat) hy hw]
    refine gom ?_
    refine WC.ret ?_
    refine WK.un ?_
    exact QF.p1 (.inl rfl) rfl (.tmp rfl) (⟨rfl, rfl, rfl⟩)
  · have ge97 : decide ((97 : Int) ≤ m) = true := decide_eq_true (by omega)
    have le122 : decide (m ≤ (122 : Int)) = true := decide_eq_true (by omega)
    have ge65 : decide ((65 : Int) ≤ m) = true := decide_eq_true (by omega)
    have le90 : decide (m ≤ (90 : Int)) = false := decide_eq_false (by omega)
    have ge48 : decide ((48 : Int) ≤ m) = true := decide_eq_true (by omega)
    have le57 : decide (m ≤ (57 : Int)) = false := decide_eq_false (by omega)
    have eq46 : (m == (46 : Int)) = false := by rw [beq_eq_false_iff_ne]; omega
    have eq95 : (m == (95 : Int)) = false := by rw [beq_eq_false_iff_ne]; omega
    have eq45 : (m == (45 : Int)) = false := by rw [beq_eq_false_iff_ne]; omega
    have hw : (fun c : UInt8 => nameC c.toNat) y = true := by dsimp only; rw [← hm]; unfold nameC; simp only [ge97, le122, ge65, le90, ge48, le57, eq46, eq95, eq45]; rfl
    refine gom ?_
    exact WK.again (i + 1) (by omega) ⟨by omega, all_step (f := fun c : UInt8 => nameC c.toNat) hy hall hw⟩ (by exact ⟨rfl, rfl, trivial⟩) rfl (List.Sublist.refl _)
  · have ge97 : decide ((97 : Int) ≤ m) = true := decide_eq_true (by omega)
    have le122 : decide (m ≤ (122 : Int)) = false := decide_eq_false (by omega)
    have ge65 : decide ((65 : Int) ≤ m) = true := decide_eq_true (by omega)
    have le90 : decide (m ≤ (90 : Int)) = false := decide_eq_false (by omega)
    have ge48 : decide ((48 : Int) ≤ m) = true := decide_eq_true (by omega)
    have le57 : decide (m ≤ (57 : Int)) = false := decide_eq_false (by omega)
    have eq46 : (m == (46 : Int)) = false := by rw [beq_eq_false_iff_ne]; omega
    have eq95 : (m == (95 : Int)) = false := by rw [beq_eq_false_iff_ne]; omega
    have eq45 : (m == (45 : Int)) = false := by rw [beq_eq_false_iff_ne]; omega
    have hw : (fun c : UInt8 => nameC c.toNat) y = false := by dsimp only; rw [← hm]; unfold nameC; simp only [ge97, le122, ge65, le90, ge48, le57, eq46, eq95, eq45]; rfl
    rw [all_not (f := fun c : UInt8 => nameC c.toNat) hy hw]
    refine gom ?_
    refine WC.ret ?_
    refine WK.un ?_
    exact QF.p1 (.inl rfl) rfl (.tmp rfl) (⟨rfl, rfl, rfl⟩)
end Go.Proofs.YtkmigdmdppkpoaaGreatDoor.Gb
namespace Go.Proofs.YtkmigdmdppkpoaaGreatDoor.Gb
open Go Go.Proofs Go.MapKept
set_option linter.unusedVariables false
set_option linter.unusedSimpArgs false
set_option linter.unusedSectionVars false
abbrev slash : ByteArray := ⟨#[47]⟩
theorem index_at : ∀ (l : List UInt8) (j : Nat), (∀ k c, k < j → l[k]? = some c → c ≠ 47) → l[j]? = some 47 → Lib.index l [47] = (j : Int)
  | [], j, _, h => by simp at h
  | b :: l, 0, _, h => by
    have : b = 47 := by simpa using h
    subst this
    rw [Lib.index]; simp [List.isPrefixOf]
  | b :: l, j + 1, h1, h2 => by
    have hb : b ≠ 47 := h1 0 b (by omega) rfl
    have hp : ([47] : List UInt8).isPrefixOf (b :: l) = false := by simp [List.isPrefixOf, Ne.symm hb]
    have ih := index_at l j (fun k c hk hc => h1 (k + 1) c (by omega) (by simpa using hc)) (by simpa using h2)
    rw [Lib.index, hp, ih]
    simp
theorem index_no : ∀ (l : List UInt8), (∀ c ∈ l, c ≠ 47) → Lib.index l [47] = -1
  | [], _ => by simp [Lib.index]
  | b :: l, h => by
    have hb : b ≠ 47 := h b (List.mem_cons_self ..)
    have hp : ([47] : List UInt8).isPrefixOf (b :: l) = false := by simp [List.isPrefixOf, Ne.symm hb]
    have ih := index_no l fun c hc => h c (List.mem_cons_of_mem _ hc)
    rw [Lib.index, hp, ih]; rfl
theorem rest_list (s : ByteArray) (f : Nat) : (s.extract f s.size).data.toList = (bytesL s).drop f := by
  have : (s.extract f s.size).data = s.data.extract f s.size := by simp
  rw [this]
  unfold bytesL
  rw [Array.toList_extract, List.extract_eq_drop_take', List.drop_take]
  rw [List.take_of_length_le]
  simp
theorem ext_front (s : ByteArray) (f i : Nat) (hf : f ≤ i) (hi : i ≤ s.size) : (s.extract f s.size).extract 0 (i - f + 0) = s.extract f i := by
  apply ByteArray.ext
  simp only [ByteArray.data_extract]
  rw [Array.extract_extract]
  congr 1
  simp
  omega
theorem ext_back (s : ByteArray) (f i : Nat) (hf : f ≤ i) (hi : i < s.size) : (s.extract f s.size).extract (i - f + 1) (s.extract f s.size).size = s.extract (i + 1) s.size := by
  apply ByteArray.ext
  simp only [ByteArray.data_extract, ByteArray.size_extract]
  rw [Array.extract_extract]
  congr 1
  · omega
  · simp; omega
/-- what is still to be cut -/
def restL (s : ByteArray) (f : Nat) : List ByteArray := Lib.splitB slash 0 (Lib.countB (s.extract f s.size) slash) (s.extract f s.size)
theorem restL_all (s : ByteArray) : restL s 0 = slashL s := by
  have : s.extract 0 s.size = s := by apply ByteArray.ext; simp
  unfold restL slashL
  rw [this]
theorem restL_hit {s : ByteArray} {f i : Nat} (hf : f ≤ i) (h1 : ∀ k c, f ≤ k → k < i → (bytesL s)[k]? = some c → c ≠ 47) (h2 : (bytesL s)[i]? = some 47) : restL s f = s.extract f i :: restL s (i + 1) := by
  have hi : i < s.size := by rw [← bytesL_length]; exact (List.getElem?_eq_some_iff.1 h2).1
  have hx : Lib.indexB (s.extract f s.size) slash = ((i - f : Nat) : Int) := by
    show Lib.index (s.extract f s.size).data.toList [47] = _
    rw [rest_list]
    refine index_at _ _ (fun k c hk hc => ?_) ?_
    · rw [List.getElem?_drop] at hc; exact h1 (f + k) c (by omega) (by omega) hc
    · rw [List.getElem?_drop, show f + (i - f) = i by omega]; exact h2
  have hc := Lib.countB_hit (s.extract f s.size) slash (i - f) (by decide) hx
  unfold restL
  rw [hc, Nat.add_comm 1, Lib.splitB_hit slash 0 _ _ (i - f) hx, ext_front s f i hf (by omega)]
  have hs : slash.size = 1 := rfl
  rw [hs, ext_back s f i hf hi]
theorem restL_end {s : ByteArray} {f : Nat} (h1 : ∀ k c, f ≤ k → (bytesL s)[k]? = some c → c ≠ 47) : restL s f = [s.extract f s.size] := by
  have hx : Lib.indexB (s.extract f s.size) slash = -1 := by
    show Lib.index (s.extract f s.size).data.toList [47] = _
    rw [rest_list]
    refine index_no _ fun c hc => ?_
    obtain ⟨k, hk⟩ := List.getElem?_of_mem hc
    rw [List.getElem?_drop] at hk
    exact h1 (f + k) c (by omega) hk
  unfold restL
  rw [Lib.countB_miss _ _ hx, Lib.splitB_zero]
end Go.Proofs.YtkmigdmdppkpoaaGreatDoor.Gb
