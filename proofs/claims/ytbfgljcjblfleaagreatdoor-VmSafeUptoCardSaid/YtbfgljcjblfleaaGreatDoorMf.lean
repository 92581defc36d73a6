/- Paths: walked. A procedure's head, an object's head: walked. All procedures of a world: walked. All procedures of a world: walked. Objects, what is ahead of their instructions: walked. What is ahead of a procedure's instructions: walked. Heights and Types: walked. Verified code does not get stuck: the law, no program in sight. The least states are there; what is known of an object that was taken: no program in sight. What a row tells of its arguments, opened: the data behind slices and structs, with the bounds that their weights give. A slice that a row hands in: opened. The small object, which must be taken; and what is wrong with it when it gives another type. Pairs of numbers, compared. What must come, whatever else is so: walked. What must come, whatever else is so: walked. What a row of this seat tells of the library's variables, opened. Arguments of a bounded bulk, opened: texts, lists, structs. The machine's stack and its small helpers: what each comes to. -/
import Derived.Test.YtbfgljcjblfleaaGreatDoorMe
import Derived.SizedLaws
import Derived.ChangeSlices
import Derived.Carry
import Derived.Test.YtbfgljcjblfleaaGreatDoorRows
import Derived.ProofKit
import Derived.OpenShut
import Derived.Lay
import Derived.LaidMore
import Derived.Lib.LaidU8
import Derived.Shelf.Vars
import Derived.HandedShaped
import Derived.Deep.DeepHandedRow
set_option linter.unusedVariables false
set_option linter.unusedSimpArgs false
set_option linter.unusedSectionVars false
namespace Go.Proofs.YtbfgljcjblfleaaGreatDoor.Gb
open Go Go.Proofs
attribute [local irreducible] Tryz.prog
def slashL (s : ByteArray) : List ByteArray := Lib.splitB ⟨#[47]⟩ 0 (Lib.countB s ⟨#[47]⟩) s
theorem slashL_length (s : ByteArray) : (slashL s).length = Lib.countB s ⟨#[47]⟩ + 1 := Lib.splitB_all ⟨#[47]⟩ (by decide) 0 _ s rfl
theorem Cs.strs {G : Gh} {b : Nat} {l : List ByteArray} (h : Cs G b 0 (l.map Value.string)) : Sl Kd.str G (some ⟨b, 0, none⟩) l := fun i x hx => ⟨b, 0, [.string x], rfl, rfl, fun j v e => by
  have h1 := h i (.string x) (by rw [List.getElem?_map, hx]; rfl)
  cases j with
  | zero => simp at e; subst e; show G b (0 + i * 1 + 0) = _; rw [Nat.mul_one, Nat.add_zero]; exact h1
  | succ j => simp at e⟩
theorem split_fn (G : Gh) (hE : Env G) (s : ByteArray) (hl : s.size ≤ 4000000000) :
    Fn Tryz.prog 77 #[.string s, .string ⟨#[47]⟩] G [] fun e G' H' => ∃ A, e = .returned (.slice A (slashL s).length (slashL s).length) ∧ G.le G' ∧ Sl Kd.str G' A (slashL s) ∧ H' = [] := fun w hs _ => by
  obtain ⟨m, hm⟩ := hE.mxl
  refine (Tryz.strings_Split s ⟨#[47]⟩ m w (by omega) (hs.cell0 hm) (by decide)).mono fun e w' ⟨he, hw⟩ => ?_
  subst hw
  have hal := hs.alloc (.cells ((slashL s).map Value.string).toArray 9)
  have hst : Stp (covs []) G w G (.blk w.heap.size (.cells ((slashL s).map Value.string).toArray 9 (0, 0)) :: []) (w.alloc (.cells ((slashL s).map Value.string).toArray 9)) := Stp.alloc _
  have hfr := hal.frozen .here
  refine ⟨_, [], ⟨some ⟨w.heap.size, 0, none⟩, ?_, hfr.1, Cs.strs fun i v e => ?_, rfl⟩, hfr.2, ⟨hst.size, hst.keep, hfr.1, fun b o v e => ?_, fun x hx => (by cases hx), hst.weq⟩⟩
  · rw [he, slashL_length]
  · rw [Nat.zero_add, Gh.add_at]; simpa using e
  · unfold Gh.add at e
    split at e
    · rename_i hb; right; right; omega
    · exact .inl e
def nameC (n : Int) : Bool := (decide (97 ≤ n) && decide (n ≤ 122) || (decide (65 ≤ n) && decide (n ≤ 90)) || (decide (48 ≤ n) && decide (n ≤ 57))) || (n == 46 || n == 95 || n == 45)
def nameR (s : ByteArray) : Bool := decide (1 ≤ s.size) && decide (s.size ≤ 64) && !(s == ⟨#[46]⟩) && !(s == ⟨#[46, 46]⟩) && (bytesL s).all (fun c => nameC c.toNat)
theorem splitB_size (sep : ByteArray) : ∀ (k : Nat) (s : ByteArray) (x : ByteArray), x ∈ Lib.splitB sep 0 k s → x.size ≤ s.size
  | 0, s, x, h => by rw [Lib.splitB_zero] at h; cases List.mem_singleton.mp h; exact Nat.le_refl _
  | k + 1, s, x, h => by
    rw [Lib.splitB] at h
    split at h
    · cases List.mem_singleton.mp h; exact Nat.le_refl _
    · rcases List.mem_cons.mp h with e | h
      · rw [e, ByteArray.size_extract]; omega
      · have := splitB_size sep k _ x h
        rw [ByteArray.size_extract] at this; omega
theorem nameB1 {n : Int} (h1 : (n != 46) = true) (h2 : (n != 95) = true) (h3 : (n != 45) = true) : (n == 46 || n == 95 || n == 45) = false := by
  simp only [bne_iff_ne, ne_eq] at h1 h2 h3
  simp [h1, h2, h3]
set_option maxHeartbeats 4000000 in
theorem name_fn (G : Gh) (s : ByteArray) (hl : s.size ≤ 100000000000000) : Fn Tryz.prog 78 #[.string s] G [] fun e G' H' => e = .returned (.int .i64 (if nameR s then 0 else 42)) ∧ G = G' ∧ H' = [] := by
  have hbl := bytesL_length s
  refine Fn.enter Tryz.func78 rfl rfl fun w0 => ?_
  by_cases h1 : s.size < 1
  · have y1 : decide ((s.size : Int) < 1) = true := decide_eq_true (by omega)
    have hn : nameR s = false := by unfold nameR; rw [decide_eq_false (show ¬ 1 ≤ s.size by omega)]; rfl
    rw [hn]
    refine gom ?_
    refine WC.ret ?_
    refine WK.un ?_
    exact QF.p1 (.inl rfl) rfl (.tmp rfl) (⟨rfl, rfl, rfl⟩)
  have y1 : decide ((s.size : Int) < 1) = false := decide_eq_false (by omega)
  by_cases h2 : 64 < s.size
  · have y2 : decide ((64 : Int) < (s.size : Int)) = true := decide_eq_true (by omega)
    have hn : nameR s = false := by unfold nameR; rw [decide_eq_false (show ¬ s.size ≤ 64 by omega)]; simp
    rw [hn]
    refine gom ?_
    refine WC.ret ?_
    refine WK.un ?_
    exact QF.p1 (.inl rfl) rfl (.tmp rfl) (⟨rfl, rfl, rfl⟩)
  have y2 : decide ((64 : Int) < (s.size : Int)) = false := decide_eq_false (by omega)
  cases h3 : (s == ⟨#[46]⟩) with
  | true =>
    have hn : nameR s = false := by unfold nameR; rw [h3]; simp
    rw [hn]
    refine gom ?_
    rw [h3]
    refine gom ?_
    refine WC.ret ?_
    refine WK.un ?_
    exact QF.p1 (.inl rfl) rfl (.tmp rfl) (⟨rfl, rfl, rfl⟩)
  | false =>
  cases h4 : (s == ⟨#[46, 46]⟩) with
  | true =>
    have hn : nameR s = false := by unfold nameR; rw [h4]; simp
    rw [hn]
    refine gom ?_
    rw [h3]
    refine gom ?_
    rw [h4]
    refine gom ?_
    refine WC.ret ?_
    refine WK.un ?_
    exact QF.p1 (.inl rfl) rfl (.tmp rfl) (⟨rfl, rfl, rfl⟩)
  | false =>
  have hn : nameR s = (bytesL s).all (fun c => nameC c.toNat) := by
    unfold nameR; rw [h3, h4, decide_eq_true (show 1 ≤ s.size by omega), decide_eq_true (show s.size ≤ 64 by omega)]; simp
  rw [hn]
  refine gom ?_
  rw [h3]
  refine gom ?_
  rw [h4]
  refine gom ?_
  refine WC.loop (X := Nat) (fun i => [(0, .string s), (23, .int .i64 s.size), (24, .int .i64 i)]) (fun _ => G) (fun _ => []) (fun i => s.size - i) (fun i => i ≤ s.size ∧ ∀ j c, j < i → (bytesL s)[j]? = some c → nameC c.toNat = true) 0 ⟨Nat.zero_le _, fun j c h => by omega⟩ (by exact ⟨rfl, rfl, rfl, trivial⟩) rfl (List.Sublist.refl _) fun i hx => ?_
  obtain ⟨hi, hall⟩ := hx
  have x2 := wrapS i (by omega)
  by_cases hlt : i < s.size
  rotate_left
  · have e2 : decide ((i : Int) < (s.size : Int)) = false := decide_eq_false (by omega)
    refine gom ?_
    refine WC.ret ?_
    refine WK.un ?_
    exact QF.p1 (.inl rfl) rfl (.tmp rfl) (⟨by rw [all_of (f := fun c : UInt8 => nameC c.toNat) hall (by omega)]; rfl, rfl, rfl⟩)
  have e2 : decide ((i : Int) < (s.size : Int)) = true := decide_eq_true (by omega)
  obtain ⟨c, hc⟩ : ∃ c, (bytesL s)[i]? = some c := ⟨_, List.getElem?_eq_getElem (by omega)⟩
  refine gom ?_
  refine WL.p (Gp.indexS rfl rfl (by omega) hc) (by kernel_rfl) rfl ?_
  refine WL.p (Gp.assign rfl) (by kernel_rfl) rfl ?_
  obtain ⟨n, hnn⟩ : ∃ n : Int, n = (c.toNat : Int) := ⟨_, rfl⟩
  rw [← hnn]
  have good : nameC n = true → ∀ j d, j < i + 1 → (bytesL s)[j]? = some d → nameC d.toNat = true := fun hg => all_step (f := fun c : UInt8 => nameC c.toNat) hc hall (by rw [← hnn]; exact hg)
  have bad : nameC n = false → (bytesL s).all (fun c => nameC c.toNat) = false := fun hg => all_not (f := fun c : UInt8 => nameC c.toNat) hc (by rw [← hnn]; exact hg)
  cases a1 : decide (97 ≤ n) with
  | true =>
    cases b1 : decide (n ≤ 122) with
    | true =>
      have hg : nameC n = true := by unfold nameC; first | (rw [a1, b1]; rfl) | (rw [a1, b1, a2, b2]; rfl) | (rw [a1, a2, b2]; rfl) | (rw [a1, b1, a2, b2, a3, b3]; rfl) | (rw [a1, b1, a2, a3, b3]; rfl) | (rw [a1, a2, b2, a3, b3]; rfl) | (rw [a1, a2, a3, b3]; rfl)
      refine gom ?_
      exact WK.again (i + 1) (by omega) ⟨by omega, good hg⟩ (by exact ⟨rfl, rfl, rfl, trivial⟩) rfl (List.Sublist.refl _)
    | false =>
      cases a2 : decide (65 ≤ n) with
      | true =>
        cases b2 : decide (n ≤ 90) with
        | true =>
          have hg : nameC n = true := by unfold nameC; first | (rw [a1, b1]; rfl) | (rw [a1, b1, a2, b2]; rfl) | (rw [a1, a2, b2]; rfl) | (rw [a1, b1, a2, b2, a3, b3]; rfl) | (rw [a1, b1, a2, a3, b3]; rfl) | (rw [a1, a2, b2, a3, b3]; rfl) | (rw [a1, a2, a3, b3]; rfl)
          refine gom ?_
          exact WK.again (i + 1) (by omega) ⟨by omega, good hg⟩ (by exact ⟨rfl, rfl, rfl, trivial⟩) rfl (List.Sublist.refl _)
        | false =>
          cases a3 : decide (48 ≤ n) with
          | true =>
            cases b3 : decide (n ≤ 57) with
            | true =>
              have hg : nameC n = true := by unfold nameC; first | (rw [a1, b1]; rfl) | (rw [a1, b1, a2, b2]; rfl) | (rw [a1, a2, b2]; rfl) | (rw [a1, b1, a2, b2, a3, b3]; rfl) | (rw [a1, b1, a2, a3, b3]; rfl) | (rw [a1, a2, b2, a3, b3]; rfl) | (rw [a1, a2, a3, b3]; rfl)
              refine gom ?_
              exact WK.again (i + 1) (by omega) ⟨by omega, good hg⟩ (by exact ⟨rfl, rfl, rfl, trivial⟩) rfl (List.Sublist.refl _)
            | false =>
              cases q46 : (n != 46) with
              | false =>
                have hg : nameC n = true := by have : n = 46 := by simpa using q46
                                               subst this; rfl
                refine gom ?_
                exact WK.again (i + 1) (by omega) ⟨by omega, good hg⟩ (by exact ⟨rfl, rfl, rfl, trivial⟩) rfl (List.Sublist.refl _)
              | true =>
              cases q95 : (n != 95) with
              | false =>
                have hg : nameC n = true := by have : n = 95 := by simpa using q95
                                               subst this; rfl
                refine gom ?_
                exact WK.again (i + 1) (by omega) ⟨by omega, good hg⟩ (by exact ⟨rfl, rfl, rfl, trivial⟩) rfl (List.Sublist.refl _)
              | true =>
              cases q45 : (n != 45) with
              | false =>
                have hg : nameC n = true := by have : n = 45 := by simpa using q45
                                               subst this; rfl
                refine gom ?_
                exact WK.again (i + 1) (by omega) ⟨by omega, good hg⟩ (by exact ⟨rfl, rfl, rfl, trivial⟩) rfl (List.Sublist.refl _)
              | true =>
              have hb : nameC n = false := by unfold nameC; first | (rw [a1, b1, a2, b2, a3, b3, nameB1 q46 q95 q45]; rfl) | (rw [a1, b1, a2, b2, a3, nameB1 q46 q95 q45]; rfl) | (rw [a1, b1, a2, a3, b3, nameB1 q46 q95 q45]; rfl) | (rw [a1, b1, a2, a3, nameB1 q46 q95 q45]; rfl) | (rw [a1, a2, b2, a3, b3, nameB1 q46 q95 q45]; rfl) | (rw [a1, a2, b2, a3, nameB1 q46 q95 q45]; rfl) | (rw [a1, a2, a3, b3, nameB1 q46 q95 q45]; rfl) | (rw [a1, a2, a3, nameB1 q46 q95 q45]; rfl)
              refine gom ?_
              refine WC.ret ?_
              refine WK.un ?_
              exact QF.p1 (.inl rfl) rfl (.tmp rfl) (⟨by rw [bad hb]; rfl, rfl, rfl⟩)
          | false =>
            cases q46 : (n != 46) with
            | false =>
              have hg : nameC n = true := by have : n = 46 := by simpa using q46
                                             subst this; rfl
              refine gom ?_
              exact WK.again (i + 1) (by omega) ⟨by omega, good hg⟩ (by exact ⟨rfl, rfl, rfl, trivial⟩) rfl (List.Sublist.refl _)
            | true =>
            cases q95 : (n != 95) with
            | false =>
              have hg : nameC n = true := by have : n = 95 := by simpa using q95
                                             subst this; rfl
              refine gom ?_
              exact WK.again (i + 1) (by omega) ⟨by omega, good hg⟩ (by exact ⟨rfl, rfl, rfl, trivial⟩) rfl (List.Sublist.refl _)
            | true =>
            cases q45 : (n != 45) with
            | false =>
              have hg : nameC n = true := by have : n = 45 := by simpa using q45
                                             subst this; rfl
              refine gom ?_
              exact WK.again (i + 1) (by omega) ⟨by omega, good hg⟩ (by exact ⟨rfl, rfl, rfl, trivial⟩) rfl (List.Sublist.refl _)
            | true =>
            have hb : nameC n = false := by unfold nameC; first | (rw [a1, b1, a2, b2, a3, b3, nameB1 q46 q95 q45]; rfl) | (rw [a1, b1, a2, b2, a3, nameB1 q46 q95 q45]; rfl) | (rw [a1, b1, a2, a3, b3, nameB1 q46 q95 q45]; rfl) | (rw [a1, b1, a2, a3, nameB1 q46 q95 q45]; rfl) | (rw [a1, a2, b2, a3, b3, nameB1 q46 q95 q45]; rfl) | (rw [a1, a2, b2, a3, nameB1 q46 q95 q45]; rfl) | (rw [a1, a2, a3, b3, nameB1 q46 q95 q45]; rfl) | (rw [a1, a2, a3, nameB1 q46 q95 q45]; rfl)
            refine gom ?_
            refine WC.ret ?_
            refine WK.un ?_
            exact QF.p1 (.inl rfl) rfl (.tmp rfl) (⟨by rw [bad hb]; rfl, rfl, rfl⟩)
      | false =>
        cases a3 : decide (48 ≤ n) with
        | true =>
          cases b3 : decide (n ≤ 57) with
          | true =>
            have hg : nameC n = true := by unfold nameC; first | (rw [a1, b1]; rfl) | (rw [a1, b1, a2, b2]; rfl) | (rw [a1, a2, b2]; rfl) | (rw [a1, b1, a2, b2, a3, b3]; rfl) | (rw [a1, b1, a2, a3, b3]; rfl) | (rw [a1, a2, b2, a3, b3]; rfl) | (rw [a1, a2, a3, b3]; rfl)
            refine gom ?_
            exact WK.again (i + 1) (by omega) ⟨by omega, good hg⟩ (by exact ⟨rfl, rfl, rfl, trivial⟩) rfl (List.Sublist.refl _)
          | false =>
            cases q46 : (n != 46) with
            | false =>
              have hg : nameC n = true := by have : n = 46 := by simpa using q46
                                             subst this; rfl
              refine gom ?_
              exact WK.again (i + 1) (by omega) ⟨by omega, good hg⟩ (by exact ⟨rfl, rfl, rfl, trivial⟩) rfl (List.Sublist.refl _)
            | true =>
            cases q95 : (n != 95) with
            | false =>
              have hg : nameC n = true := by have : n = 95 := by simpa using q95
                                             subst this; rfl
              refine gom ?_
              exact WK.again (i + 1) (by omega) ⟨by omega, good hg⟩ (by exact ⟨rfl, rfl, rfl, trivial⟩) rfl (List.Sublist.refl _)
            | true =>
            cases q45 : (n != 45) with
            | false =>
              have hg : nameC n = true := by have : n = 45 := by simpa using q45
                                             subst this; rfl
              refine gom ?_
              exact WK.again (i + 1) (by omega) ⟨by omega, good hg⟩ (by exact ⟨rfl, rfl, rfl, trivial⟩) rfl (List.Sublist.refl _)
            | true =>
            have hb : nameC n = false := by unfold nameC; first | (rw [a1, b1, a2, b2, a3, b3, nameB1 q46 q95 q45]; rfl) | (rw [a1, b1, a2, b2, a3, nameB1 q46 q95 q45]; rfl) | (rw [a1, b1, a2, a3, b3, nameB1 q46 q95 q45]; rfl) | (rw [a1, b1, a2, a3, nameB1 q46 q95 q45]; rfl) | (rw [a1, a2, b2, a3, b3, nameB1 q46 q95 q45]; rfl) | (rw [a1, a2, b2, a3, nameB1 q46 q95 q45]; rfl) | (rw [a1, a2, a3, b3, nameB1 q46 q95 q45]; rfl) | (rw [a1, a2, a3, nameB1 q46 q95 q45]; rfl)
            refine gom ?_
            refine WC.ret ?_
            refine WK.un ?_
            exact QF.p1 (.inl rfl) rfl (.tmp rfl) (⟨by rw [bad hb]; rfl, rfl, rfl⟩)
        | false =>
          cases q46 : (n != 46) with
          | false =>
            have hg : nameC n = true := by have : n = 46 := by simpa using q46
                                           subst this; rfl
            refine gom ?_
            exact WK.again (i + 1) (by omega) ⟨by omega, good hg⟩ (by exact ⟨rfl, rfl, rfl, trivial⟩) rfl (List.Sublist.refl _)
          | true =>
          cases q95 : (n != 95) with
          | false =>
            have hg : nameC n = true := by have : n = 95 := by simpa using q95
                                           subst this; rfl
            refine gom ?_
            exact WK.again (i + 1) (by omega) ⟨by omega, good hg⟩ (by exact ⟨rfl, rfl, rfl, trivial⟩) rfl (List.Sublist.refl _)
          | true =>
          cases q45 : (n != 45) with
          | false =>
            have hg : nameC n = true := by have : n = 45 := by simpa using q45
                                           subst this; rfl
            refine gom ?_
            exact WK.again (i + 1) (by omega) ⟨by omega, good hg⟩ (by exact ⟨rfl, rfl, rfl, trivial⟩) rfl (List.Sublist.refl _)
          | true =>
          have hb : nameC n = false := by unfold nameC; first | (rw [a1, b1, a2, b2, a3, b3, nameB1 q46 q95 q45]; rfl) | (rw [a1, b1, a2, b2, a3, nameB1 q46 q95 q45]; rfl) | (rw [a1, b1, a2, a3, b3, nameB1 q46 q95 q45]; rfl) | (rw [a1, b1, a2, a3, nameB1 q46 q95 q45]; rfl) | (rw [a1, a2, b2, a3, b3, nameB1 q46 q95 q45]; rfl) | (rw [a1, a2, b2, a3, nameB1 q46 q95 q45]; rfl) | (rw [a1, a2, a3, b3, nameB1 q46 q95 q45]; rfl) | (rw [a1, a2, a3, nameB1 q46 q95 q45]; rfl)
          refine gom ?_
          refine WC.ret ?_
          refine WK.un ?_
          exact QF.p1 (.inl rfl) rfl (.tmp rfl) (⟨by rw [bad hb]; rfl, rfl, rfl⟩)
  | false =>
    cases a2 : decide (65 ≤ n) with
    | true =>
      cases b2 : decide (n ≤ 90) with
      | true =>
        have hg : nameC n = true := by unfold nameC; first | (rw [a1, b1]; rfl) | (rw [a1, b1, a2, b2]; rfl) | (rw [a1, a2, b2]; rfl) | (rw [a1, b1, a2, b2, a3, b3]; rfl) | (rw [a1, b1, a2, a3, b3]; rfl) | (rw [a1, a2, b2, a3, b3]; rfl) | (rw [a1, a2, a3, b3]; rfl)
        refine gom ?_
        exact WK.again (i + 1) (by omega) ⟨by omega, good hg⟩ (by exact ⟨rfl, rfl, rfl, trivial⟩) rfl (List.Sublist.refl _)
      | false =>
        cases a3 : decide (48 ≤ n) with
        | true =>
          cases b3 : decide (n ≤ 57) with
          | true =>
            have hg : nameC n = true := by unfold nameC; first | (rw [a1, b1]; rfl) | (rw [a1, b1, a2, b2]; rfl) | (rw [a1, a2, b2]; rfl) | (rw [a1, b1, a2, b2, a3, b3]; rfl) | (rw [a1, b1, a2, a3, b3]; rfl) | (rw [a1, a2, b2, a3, b3]; rfl) | (rw [a1, a2, a3, b3]; rfl)
            refine gom ?_
            exact WK.again (i + 1) (by omega) ⟨by omega, good hg⟩ (by exact ⟨rfl, rfl, rfl, trivial⟩) rfl (List.Sublist.refl _)
          | false =>
            cases q46 : (n != 46) with
            | false =>
              have hg : nameC n = true := by have : n = 46 := by simpa using q46
                                             subst this; rfl
              refine gom ?_
              exact WK.again (i + 1) (by omega) ⟨by omega, good hg⟩ (by exact ⟨rfl, rfl, rfl, trivial⟩) rfl (List.Sublist.refl _)
            | true =>
            cases q95 : (n != 95) with
            | false =>
              have hg : nameC n = true := by have : n = 95 := by simpa using q95
                                             subst this; rfl
              refine gom ?_
              exact WK.again (i + 1) (by omega) ⟨by omega, good hg⟩ (by exact ⟨rfl, rfl, rfl, trivial⟩) rfl (List.Sublist.refl _)
            | true =>
            cases q45 : (n != 45) with
            | false =>
              have hg : nameC n = true := by have : n = 45 := by simpa using q45
                                             subst this; rfl
              refine gom ?_
              exact WK.again (i + 1) (by omega) ⟨by omega, good hg⟩ (by exact ⟨rfl, rfl, rfl, trivial⟩) rfl (List.Sublist.refl _)
            | true =>
            have hb : nameC n = false := by unfold nameC; first | (rw [a1, b1, a2, b2, a3, b3, nameB1 q46 q95 q45]; rfl) | (rw [a1, b1, a2, b2, a3, nameB1 q46 q95 q45]; rfl) | (rw [a1, b1, a2, a3, b3, nameB1 q46 q95 q45]; rfl) | (rw [a1, b1, a2, a3, nameB1 q46 q95 q45]; rfl) | (rw [a1, a2, b2, a3, b3, nameB1 q46 q95 q45]; rfl) | (rw [a1, a2, b2, a3, nameB1 q46 q95 q45]; rfl) | (rw [a1, a2, a3, b3, nameB1 q46 q95 q45]; rfl) | (rw [a1, a2, a3, nameB1 q46 q95 q45]; rfl)
            refine gom ?_
            refine WC.ret ?_
            refine WK.un ?_
            exact QF.p1 (.inl rfl) rfl (.tmp rfl) (⟨by rw [bad hb]; rfl, rfl, rfl⟩)
        | false =>
          cases q46 : (n != 46) with
          | false =>
            have hg : nameC n = true := by have : n = 46 := by simpa using q46
                                           subst this; rfl
            refine gom ?_
            exact WK.again (i + 1) (by omega) ⟨by omega, good hg⟩ (by exact ⟨rfl, rfl, rfl, trivial⟩) rfl (List.Sublist.refl _)
          | true =>
          cases q95 : (n != 95) with
          | false =>
            have hg : nameC n = true := by have : n = 95 := by simpa using q95
                                           subst this; rfl
            refine gom ?_
            exact WK.again (i + 1) (by omega) ⟨by omega, good hg⟩ (by exact ⟨rfl, rfl, rfl, trivial⟩) rfl (List.Sublist.refl _)
          | true =>
          cases q45 : (n != 45) with
          | false =>
            have hg : nameC n = true := by have : n = 45 := by simpa using q45
                                           subst this; rfl
            refine gom ?_
            exact WK.again (i + 1) (by omega) ⟨by omega, good hg⟩ (by exact ⟨rfl, rfl, rfl, trivial⟩) rfl (List.Sublist.refl _)
          | true =>
          have hb : nameC n = false := by unfold nameC; first | (rw [a1, b1, a2, b2, a3, b3, nameB1 q46 q95 q45]; rfl) | (rw [a1, b1, a2, b2, a3, nameB1 q46 q95 q45]; rfl) | (rw [a1, b1, a2, a3, b3, nameB1 q46 q95 q45]; rfl) | (rw [a1, b1, a2, a3, nameB1 q46 q95 q45]; rfl) | (rw [a1, a2, b2, a3, b3, nameB1 q46 q95 q45]; rfl) | (rw [a1, a2, b2, a3, nameB1 q46 q95 q45]; rfl) | (rw [a1, a2, a3, b3, nameB1 q46 q95 q45]; rfl) | (rw [a1, a2, a3, nameB1 q46 q95 q45]; rfl)
          refine gom ?_
          refine WC.ret ?_
          refine WK.un ?_
          exact QF.p1 (.inl rfl) rfl (.tmp rfl) (⟨by rw [bad hb]; rfl, rfl, rfl⟩)
    | false =>
      cases a3 : decide (48 ≤ n) with
      | true =>
        cases b3 : decide (n ≤ 57) with
        | true =>
          have hg : nameC n = true := by unfold nameC; first | (rw [a1, b1]; rfl) | (rw [a1, b1, a2, b2]; rfl) | (rw [a1, a2, b2]; rfl) | (rw [a1, b1, a2, b2, a3, b3]; rfl) | (rw [a1, b1, a2, a3, b3]; rfl) | (rw [a1, a2, b2, a3, b3]; rfl) | (rw [a1, a2, a3, b3]; rfl)
          refine gom ?_
          exact WK.again (i + 1) (by omega) ⟨by omega, good hg⟩ (by exact ⟨rfl, rfl, rfl, trivial⟩) rfl (List.Sublist.refl _)
        | false =>
          cases q46 : (n != 46) with
          | false =>
            have hg : nameC n = true := by have : n = 46 := by simpa using q46
                                           subst this; rfl
            refine gom ?_
            exact WK.again (i + 1) (by omega) ⟨by omega, good hg⟩ (by exact ⟨rfl, rfl, rfl, trivial⟩) rfl (List.Sublist.refl _)
          | true =>
          cases q95 : (n != 95) with
          | false =>
            have hg : nameC n = true := by have : n = 95 := by simpa using q95
                                           subst this; rfl
            refine gom ?_
            exact WK.again (i + 1) (by omega) ⟨by omega, good hg⟩ (by exact ⟨rfl, rfl, rfl, trivial⟩) rfl (List.Sublist.refl _)
          | true =>
          cases q45 : (n != 45) with
          | false =>
            have hg : nameC n = true := by have : n = 45 := by simpa using q45
                                           subst this; rfl
            refine gom ?_
            exact WK.again (i + 1) (by omega) ⟨by omega, good hg⟩ (by exact ⟨rfl, rfl, rfl, trivial⟩) rfl (List.Sublist.refl _)
          | true =>
          have hb : nameC n = false := by unfold nameC; first | (rw [a1, b1, a2, b2, a3, b3, nameB1 q46 q95 q45]; rfl) | (rw [a1, b1, a2, b2, a3, nameB1 q46 q95 q45]; rfl) | (rw [a1, b1, a2, a3, b3, nameB1 q46 q95 q45]; rfl) | (rw [a1, b1, a2, a3, nameB1 q46 q95 q45]; rfl) | (rw [a1, a2, b2, a3, b3, nameB1 q46 q95 q45]; rfl) | (rw [a1, a2, b2, a3, nameB1 q46 q95 q45]; rfl) | (rw [a1, a2, a3, b3, nameB1 q46 q95 q45]; rfl) | (rw [a1, a2, a3, nameB1 q46 q95 q45]; rfl)
          refine gom ?_
          refine WC.ret ?_
          refine WK.un ?_
          exact QF.p1 (.inl rfl) rfl (.tmp rfl) (⟨by rw [bad hb]; rfl, rfl, rfl⟩)
      | false =>
        cases q46 : (n != 46) with
        | false =>
          have hg : nameC n = true := by have : n = 46 := by simpa using q46
                                         subst this; rfl
          refine gom ?_
          exact WK.again (i + 1) (by omega) ⟨by omega, good hg⟩ (by exact ⟨rfl, rfl, rfl, trivial⟩) rfl (List.Sublist.refl _)
        | true =>
        cases q95 : (n != 95) with
        | false =>
          have hg : nameC n = true := by have : n = 95 := by simpa using q95
                                         subst this; rfl
          refine gom ?_
          exact WK.again (i + 1) (by omega) ⟨by omega, good hg⟩ (by exact ⟨rfl, rfl, rfl, trivial⟩) rfl (List.Sublist.refl _)
        | true =>
        cases q45 : (n != 45) with
        | false =>
          have hg : nameC n = true := by have : n = 45 := by simpa using q45
                                         subst this; rfl
          refine gom ?_
          exact WK.again (i + 1) (by omega) ⟨by omega, good hg⟩ (by exact ⟨rfl, rfl, rfl, trivial⟩) rfl (List.Sublist.refl _)
        | true =>
        have hb : nameC n = false := by unfold nameC; first | (rw [a1, b1, a2, b2, a3, b3, nameB1 q46 q95 q45]; rfl) | (rw [a1, b1, a2, b2, a3, nameB1 q46 q95 q45]; rfl) | (rw [a1, b1, a2, a3, b3, nameB1 q46 q95 q45]; rfl) | (rw [a1, b1, a2, a3, nameB1 q46 q95 q45]; rfl) | (rw [a1, a2, b2, a3, b3, nameB1 q46 q95 q45]; rfl) | (rw [a1, a2, b2, a3, nameB1 q46 q95 q45]; rfl) | (rw [a1, a2, a3, b3, nameB1 q46 q95 q45]; rfl) | (rw [a1, a2, a3, nameB1 q46 q95 q45]; rfl)
        refine gom ?_
        refine WC.ret ?_
        refine WK.un ?_
        exact QF.p1 (.inl rfl) rfl (.tmp rfl) (⟨by rw [bad hb]; rfl, rfl, rfl⟩)
theorem names_fn (G : Gh) (hE : Env G) (s : ByteArray) (hl : s.size ≤ 4000000000) : Fn Tryz.prog 61 #[.string s] G [] fun e G' H' => ∃ A n cap, e = .returned (.tuple #[.slice A n cap, .int .i64 (if s == ⟨#[]⟩ || (decide ((slashL s).length ≤ 32) && (slashL s).all nameR) then 0 else 45)]) ∧ G.le G' ∧ H' = [] := by
  refine Fn.enter Tryz.func61 rfl rfl fun w0 => ?_
  cases h1 : (s == ⟨#[]⟩) with
  | true =>
    refine gom ?_
    rw [h1]
    refine gom ?_
    refine WC.ret ?_
    refine WK.un ?_
    exact QF.p2 (.inl rfl) rfl (.tmp rfl) (.tmp rfl) (⟨none, 0, 0, rfl, Gh.le_refl _, rfl⟩)
  | false =>
  rw [Bool.false_or]
  refine gom ?_
  rw [h1]
  refine gom ?_
  refine WL.op (by kernel_rfl) (OW.callK rfl (split_fn G hE s hl) rfl fun v' G' H' h hg => ?_)
  obtain ⟨A, he, hg1, hA, rfl⟩ := h
  cases he
  have hpl : ∀ x ∈ slashL s, x.size ≤ 100000000000000 := fun x hx => by have := splitB_size _ _ _ x hx; omega
  by_cases h2 : 32 < (slashL s).length
  · have y2 : decide ((32 : Int) < ((slashL s).length : Int)) = true := decide_eq_true (by omega)
    rw [decide_eq_false (show ¬ (slashL s).length ≤ 32 by omega), Bool.false_and]
    refine gom ?_
    refine WC.ret ?_
    refine WK.un ?_
    exact QF.p2 (.inl rfl) rfl (.tmp rfl) (.tmp rfl) (⟨none, 0, 0, rfl, hg1, rfl⟩)
  have y2 : decide ((32 : Int) < ((slashL s).length : Int)) = false := decide_eq_false (by omega)
  rw [decide_eq_true (show (slashL s).length ≤ 32 by omega), Bool.true_and]
  refine gom ?_
  refine WC.loop (X := Nat) (fun i => [(4, .slice A (slashL s).length (slashL s).length), (14, .slice A (slashL s).length (slashL s).length), (15, .int .i64 (slashL s).length), (16, .int .i64 i)]) (fun _ => G') (fun _ => []) (fun i => (slashL s).length - i) (fun i => i ≤ (slashL s).length ∧ ∀ j c, j < i → (slashL s)[j]? = some c → nameR c = true) 0 ⟨Nat.zero_le _, fun j c h => by omega⟩ (by exact ⟨rfl, rfl, rfl, rfl, trivial⟩) rfl (List.Sublist.refl _) fun i hx => ?_
  obtain ⟨hi, hall⟩ := hx
  have x2 := wrapS i (by omega)
  by_cases hlt : i < (slashL s).length
  rotate_left
  · have e2 : decide ((i : Int) < ((slashL s).length : Int)) = false := decide_eq_false (by omega)
    rw [all_of hall (by omega)]
    refine gom ?_
    refine WC.ret ?_
    refine WK.un ?_
    exact QF.p2 (.inl rfl) rfl (.tmp rfl) (.tmp rfl) (⟨A, _, _, rfl, hg1, rfl⟩)
  have e2 : decide ((i : Int) < ((slashL s).length : Int)) = true := decide_eq_true (by omega)
  obtain ⟨c, hc⟩ : ∃ c, (slashL s)[i]? = some c := ⟨_, List.getElem?_eq_getElem (by omega)⟩
  obtain ⟨b, o, cs, rfl, hk, hcs⟩ := hA i c hc
  obtain rfl : cs = [.string c] := hk
  have x0 : (0 : Int) ≤ (i : Int) := by omega
  have x1 : (i : Int) < ((slashL s).length : Int) := by omega
  refine gom ?_
  refine WL.op (by kernel_rfl) (OW.callK rfl (name_fn G' c (hpl c (List.mem_of_getElem? hc))) rfl fun v' G' H' h hg => ?_)
  obtain ⟨he, rfl, rfl⟩ := h
  cases he
  cases h3 : nameR c with
  | true =>
    refine gom ?_
    exact WK.again (i + 1) (by omega) ⟨by omega, all_step hc hall h3⟩ (by exact ⟨rfl, rfl, rfl, rfl, trivial⟩) rfl (List.nil_sublist _)
  | false =>
    rw [all_not hc h3]
    refine gom ?_
    refine WC.ret ?_
    refine WK.un ?_
    exact QF.p2 (.inl rfl) rfl (.tmp rfl) (.tmp rfl) (⟨none, 0, 0, rfl, hg1, rfl⟩)
def pathR (s : ByteArray) : Bool := s == ⟨#[]⟩ || (decide ((slashL s).length ≤ 32) && (slashL s).all nameR)
theorem pcheck_fn (G : Gh) (hE : Env G) (s : ByteArray) (hl : s.size ≤ 4000000000) : Fn Tryz.prog 45 #[.string s] G [] fun e G' H' => e = .returned (.int .i64 (if pathR s then 0 else 45)) ∧ G.le G' ∧ H' = [] := by
  refine Fn.enter Tryz.func45 rfl rfl fun w0 => ?_
  refine gom ?_
  refine WL.op (by kernel_rfl) (OW.callK rfl (names_fn G hE s hl) rfl fun v' G' H' h hg => ?_)
  obtain ⟨A, n, cap, he, hg1, rfl⟩ := h
  cases he
  refine gom ?_
  refine WC.ret ?_
  refine WK.un ?_
  exact QF.p1 (.inl rfl) rfl (.tmp rfl) (⟨rfl, hg1, rfl⟩)
def fileR (s : ByteArray) : Bool := !(s == ⟨#[]⟩) && pathR s
theorem file_fn (G : Gh) (hE : Env G) (s : ByteArray) (hl : s.size ≤ 4000000000) : Fn Tryz.prog 31 #[.string s] G [] fun e G' H' => e = .returned (.bool (fileR s)) ∧ G.le G' ∧ H' = [] := by
  refine Fn.enter Tryz.func31 rfl rfl fun w0 => ?_
  cases h1 : (s == ⟨#[]⟩) with
  | true =>
    refine gom ?_
    rw [h1]
    refine gom ?_
    refine WC.ret ?_
    refine WK.un ?_
    exact QF.p1 (.inl rfl) rfl (.tmp rfl) (⟨by rw [fileR, h1]; rfl, Gh.le_refl _, rfl⟩)
  | false =>
    refine gom ?_
    rw [h1]
    refine gom ?_
    refine WL.op (by kernel_rfl) (OW.callK rfl (pcheck_fn G hE s hl) rfl fun v' G' H' h hg => ?_)
    obtain ⟨he, hg1, rfl⟩ := h
    cases he
    cases h2 : pathR s with
    | true =>
      refine gom ?_
      refine WC.ret ?_
      refine WK.un ?_
      exact QF.p1 (.inl rfl) rfl (.tmp rfl) (⟨by rw [fileR, h1, h2]; rfl, hg1, rfl⟩)
    | false =>
      refine gom ?_
      refine WC.ret ?_
      refine WK.un ?_
      exact QF.p1 (.inl rfl) rfl (.tmp rfl) (⟨by rw [fileR, h1, h2]; rfl, hg1, rfl⟩)
end Go.Proofs.YtbfgljcjblfleaaGreatDoor.Gb
namespace Go.Proofs.YtbfgljcjblfleaaGreatDoor.Gb
open Go Go.Proofs
attribute [local irreducible] Tryz.prog
def procR (p : Pr) : Bool := wordR p.name && (headR p.params p.result && (decide ((p.params.length : Int) ≤ p.locals) && (decide (p.locals ≤ 64) && (decide (1 ≤ (p.code.length : Int)) && decide ((p.code.length : Int) ≤ 16384)))))
theorem proc_fn (G : Gh) (hE : Env G) (p : Pr) (QA IA : Option Addr) (qc ic : Nat) (hq : Sl (Kd.int .i64) G QA p.params) (hl : p.name.size ≤ 100000000000000) (hql : p.params.length ≤ 100000000000000) :
    Fn Tryz.prog 35 #[.agg (prC p QA qc IA ic)] G [] fun e G' H' => e = .returned (.bool (procR p)) ∧ G = G' ∧ H' = [] := by
  refine Fn.enter Tryz.func35 rfl rfl fun w0 => ?_
  refine WC.seq ?_
  refine WC.region ?_
  refine WL.op (by kernel_rfl) (OW.box rfl rfl fun b1 => ?_)
  refine gom ?_
  refine WL.op (by kernel_rfl) (OW.callK rfl (word_fn G hE p.name hl) rfl fun v' G' H' h hg => ?_)
  obtain ⟨he, rfl, rfl⟩ := h
  cases he
  cases h1 : wordR p.name with
  | false =>
    have hr : procR p = false := by rw [procR, h1, Bool.false_and]
    rw [hr]
    refine gom ?_
    refine WC.ret ?_
    refine WK.un ?_
    exact QF.p1 (.inl rfl) rfl (.tmp rfl) (⟨rfl, rfl, rfl⟩)
  | true =>
  refine gom ?_
  refine WL.op (by kernel_rfl) (OW.callK rfl (head_fn G QA p.params qc p.result hq hql) rfl fun v' G' H' h hg => ?_)
  obtain ⟨he, rfl, rfl⟩ := h
  cases he
  cases h2 : headR p.params p.result with
  | false =>
    have hr : procR p = false := by rw [procR, h1, h2, Bool.true_and, Bool.false_and]
    rw [hr]
    refine gom ?_
    refine WC.ret ?_
    refine WK.un ?_
    exact QF.p1 (.inl rfl) rfl (.tmp rfl) (⟨rfl, rfl, rfl⟩)
  | true =>
  cases h3 : decide ((p.params.length : Int) ≤ p.locals) with
  | false =>
    have hr : procR p = false := by rw [procR, h1, h2, h3, Bool.true_and, Bool.true_and, Bool.false_and]
    rw [hr]
    refine gom ?_
    refine WC.ret ?_
    refine WK.un ?_
    exact QF.p1 (.inl rfl) rfl (.tmp rfl) (⟨rfl, rfl, rfl⟩)
  | true =>
  cases h4 : decide (p.locals ≤ 64) with
  | false =>
    have hr : procR p = false := by rw [procR, h1, h2, h3, h4, Bool.true_and, Bool.true_and, Bool.true_and, Bool.false_and]
    rw [hr]
    refine gom ?_
    refine WC.ret ?_
    refine WK.un ?_
    exact QF.p1 (.inl rfl) rfl (.tmp rfl) (⟨rfl, rfl, rfl⟩)
  | true =>
  cases h5 : decide (1 ≤ (p.code.length : Int)) with
  | false =>
    have hr : procR p = false := by rw [procR, h1, h2, h3, h4, h5, Bool.true_and, Bool.true_and, Bool.true_and, Bool.true_and, Bool.false_and]
    rw [hr]
    refine gom ?_
    refine WC.ret ?_
    refine WK.un ?_
    exact QF.p1 (.inl rfl) rfl (.tmp rfl) (⟨rfl, rfl, rfl⟩)
  | true =>
  have hr : procR p = decide ((p.code.length : Int) ≤ 16384) := by rw [procR, h1, h2, h3, h4, h5, Bool.true_and, Bool.true_and, Bool.true_and, Bool.true_and, Bool.true_and]
  rw [hr]
  refine gom ?_
  refine WC.ret ?_
  refine WK.un ?_
  exact QF.p1 (.inl rfl) rfl (.tmp rfl) (⟨rfl, rfl, rfl⟩)
structure Ob where
  path : ByteArray
  consts : List V
  needs : List Nd
  procs : List Pr
def Ob.wd (o : Ob) : Wd := ⟨o.consts, o.needs, o.procs⟩
def obC (o : Ob) (CA NA PA : Option Addr) (cc nc pc : Nat) : Array Value := #[.string o.path, .slice CA o.consts.length cc, .slice NA o.needs.length nc, .slice PA o.procs.length pc]
structure OLim (o : Ob) : Prop where
  path : o.path.size ≤ 4000000000
  cl : o.consts.length ≤ 100000000000000
  nl : o.needs.length ≤ 100000000000000
  pl : o.procs.length ≤ 100000000000000
  nd : ∀ q ∈ o.needs, q.params.length ≤ 100000000000000 ∧ q.path.size ≤ 4000000000 ∧ q.name.size ≤ 100000000000000
  pr : ∀ q ∈ o.procs, q.params.length ≤ 100000000000000 ∧ q.code.length ≤ 100000000000000 ∧ q.name.size ≤ 100000000000000
structure ORep (G : Gh) (o : Ob) (CA NA PA : Option Addr) : Prop where
  consts : Sl Kd.val G CA o.consts
  needs : Sl Kd.ned G NA o.needs
  procs : Sl Kd.prc G PA o.procs
theorem ORep.mono {G G' : Gh} {o : Ob} {CA NA PA : Option Addr} (h : ORep G o CA NA PA) (hg : G.le G') : ORep G' o CA NA PA := ⟨h.consts.mono hg, h.needs.mono hg, h.procs.mono hg⟩
def needR (n : Nd) : Bool := fileR n.path && (wordR n.name && headR n.params n.result)
def objR (o : Ob) : Bool := fileR o.path && (o.consts.all valueR && (decide ((o.consts.length : Int) ≤ 4096) && (decide ((o.needs.length : Int) ≤ 4096) && (decide ((o.procs.length : Int) ≤ 128) && o.needs.all needR))))
theorem dgt {a b : Int} {q : Bool} (h : decide (a ≤ b) = q) : decide (b < a) = !q := by
  cases q with
  | true => have := of_decide_eq_true h; exact decide_eq_false (by omega)
  | false => have := of_decide_eq_false h; exact decide_eq_true (by omega)
theorem object_fn (G : Gh) (hE : Env G) (o : Ob) (CA NA PA : Option Addr) (cc nc pc : Nat) (hO : ORep G o CA NA PA) (hL : OLim o) :
    Fn Tryz.prog 16 #[.agg (obC o CA NA PA cc nc pc)] G [] fun e G' H' => e = .returned (.bool (objR o)) ∧ G.le G' ∧ H' = [] := by
  have hnl := hL.nl
  refine Fn.enter Tryz.func16 rfl rfl fun w0 => ?_
  refine WC.seq ?_
  refine WC.region ?_
  refine WL.op (by kernel_rfl) (OW.box rfl rfl fun b1 => ?_)
  refine gom ?_
  refine WL.op (by kernel_rfl) (OW.callK rfl (file_fn G hE o.path hL.path) rfl fun v' G' H' h hg => ?_)
  obtain ⟨he, hg1, rfl⟩ := h
  cases he
  have hO1 := hO.mono hg1
  cases h1 : fileR o.path with
  | false =>
    have hr : objR o = false := by rw [objR, h1, Bool.false_and]
    rw [hr]
    refine gom ?_
    refine WC.ret ?_
    refine WK.un ?_
    exact QF.p1 (.inl rfl) rfl (.tmp rfl) (⟨rfl, hg1, rfl⟩)
  | true =>
  refine gom ?_
  refine WL.op (by kernel_rfl) (OW.callK rfl (values_fn G' CA o.consts cc hO1.consts hL.cl) rfl fun v' G' H' h hg => ?_)
  obtain ⟨he, rfl, rfl⟩ := h
  cases he
  cases h2 : o.consts.all valueR with
  | false =>
    have hr : objR o = false := by rw [objR, h1, h2, Bool.true_and, Bool.false_and]
    rw [hr]
    refine gom ?_
    refine WC.ret ?_
    refine WK.un ?_
    exact QF.p1 (.inl rfl) rfl (.tmp rfl) (⟨rfl, hg1, rfl⟩)
  | true =>
  cases h3 : decide ((o.consts.length : Int) ≤ 4096) with
  | false =>
    have hr : objR o = false := by rw [objR, h1, h2, h3, Bool.true_and, Bool.true_and, Bool.false_and]
    have y3 := dgt h3
    rw [hr]
    refine gom ?_
    refine WC.ret ?_
    refine WK.un ?_
    exact QF.p1 (.inl rfl) rfl (.tmp rfl) (⟨rfl, hg1, rfl⟩)
  | true =>
  have y3 := dgt h3
  cases h4 : decide ((o.needs.length : Int) ≤ 4096) with
  | false =>
    have hr : objR o = false := by rw [objR, h1, h2, h3, h4, Bool.true_and, Bool.true_and, Bool.true_and, Bool.false_and]
    have y4 := dgt h4
    rw [hr]
    refine gom ?_
    refine WC.ret ?_
    refine WK.un ?_
    exact QF.p1 (.inl rfl) rfl (.tmp rfl) (⟨rfl, hg1, rfl⟩)
  | true =>
  have y4 := dgt h4
  cases h5 : decide ((o.procs.length : Int) ≤ 128) with
  | false =>
    have hr : objR o = false := by rw [objR, h1, h2, h3, h4, h5, Bool.true_and, Bool.true_and, Bool.true_and, Bool.true_and, Bool.false_and]
    have y5 := dgt h5
    rw [hr]
    refine gom ?_
    refine WC.ret ?_
    refine WK.un ?_
    exact QF.p1 (.inl rfl) rfl (.tmp rfl) (⟨rfl, hg1, rfl⟩)
  | true =>
  have y5 := dgt h5
  have hr : objR o = o.needs.all needR := by rw [objR, h1, h2, h3, h4, h5, Bool.true_and, Bool.true_and, Bool.true_and, Bool.true_and, Bool.true_and]
  rw [hr]
  refine gom ?_
  refine WC.loop (X := Nat × Gh) (fun x => [(34, .slice NA o.needs.length nc), (35, .int .i64 o.needs.length), (36, .int .i64 x.1)]) (fun x => x.2) (fun _ => []) (fun x => o.needs.length - x.1) (fun x => x.1 ≤ o.needs.length ∧ G.le x.2 ∧ ∀ j y, j < x.1 → o.needs[j]? = some y → needR y = true) (0, G') ⟨Nat.zero_le _, hg1, fun j y h => by omega⟩ (by exact ⟨rfl, rfl, rfl, trivial⟩) rfl (List.nil_sublist _) fun x hx => ?_
  obtain ⟨i, G1⟩ := x
  obtain ⟨hi, hg1, hall⟩ := hx
  dsimp only at hi hg1 hall
  have x2 := wrapS i (by omega)
  by_cases hlt : i < o.needs.length
  rotate_left
  · have e2 : decide ((i : Int) < (o.needs.length : Int)) = false := decide_eq_false (by omega)
    rw [all_of hall (by omega)]
    refine gom ?_
    refine WC.ret ?_
    refine WK.un ?_
    exact QF.p1 (.inl rfl) rfl (.tmp rfl) (⟨rfl, hg1, rfl⟩)
  have e2 : decide ((i : Int) < (o.needs.length : Int)) = true := decide_eq_true (by omega)
  obtain ⟨c, hc⟩ : ∃ c, o.needs[i]? = some c := ⟨_, List.getElem?_eq_getElem (by omega)⟩
  obtain ⟨hcp, hcf, hcn⟩ := hL.nd c (List.mem_of_getElem? hc)
  have hO2 := hO.mono hg1
  obtain ⟨b, ofs, cs, rfl, hk, hcs⟩ := hO2.needs i c hc
  obtain ⟨QA, qc, rfl, hQ⟩ := hk
  have x0 : (0 : Int) ≤ (i : Int) := by omega
  have x1 : (i : Int) < (o.needs.length : Int) := by omega
  refine gom ?_
  refine WL.op (by kernel_rfl) (OW.alloc rfl fun b4 => ?_)
  refine gom ?_
  refine WL.op (by kernel_rfl) (OW.callK rfl (file_fn G1 (hE.mono hg1) c.path hcf) rfl fun v' G' H' h hg => ?_)
  obtain ⟨he, hg2, rfl⟩ := h
  cases he
  have hg3 := Gh.le_trans hg1 hg2
  cases h6 : fileR c.path with
  | false =>
    rw [all_not hc (show needR c = false by rw [needR, h6, Bool.false_and])]
    refine gom ?_
    refine WC.ret ?_
    refine WK.un ?_
    exact QF.p1 (.inl rfl) rfl (.tmp rfl) (⟨rfl, hg3, rfl⟩)
  | true =>
  refine gom ?_
  refine WL.op (by kernel_rfl) (OW.callK rfl (word_fn _ (hE.mono hg3) c.name hcn) rfl fun v' G' H' h hg => ?_)
  obtain ⟨he, rfl, rfl⟩ := h
  cases he
  cases h7 : wordR c.name with
  | false =>
    rw [all_not hc (show needR c = false by rw [needR, h6, h7, Bool.true_and, Bool.false_and])]
    refine gom ?_
    refine WC.ret ?_
    refine WK.un ?_
    exact QF.p1 (.inl rfl) rfl (.tmp rfl) (⟨rfl, hg3, rfl⟩)
  | true =>
  refine gom ?_
  refine WL.op (by kernel_rfl) (OW.callK rfl (head_fn _ QA c.params qc c.result (hQ.mono hg2) hcp) rfl fun v' G' H' h hg => ?_)
  obtain ⟨he, rfl, rfl⟩ := h
  cases he
  cases h8 : headR c.params c.result with
  | false =>
    rw [all_not hc (show needR c = false by rw [needR, h6, h7, h8]; rfl)]
    refine gom ?_
    refine WC.ret ?_
    refine WK.un ?_
    exact QF.p1 (.inl rfl) rfl (.tmp rfl) (⟨rfl, hg3, rfl⟩)
  | true =>
    refine gom ?_
    exact WK.again (i + 1, _) (by dsimp only; omega) ⟨by dsimp only; omega, hg3, all_step hc hall (by rw [needR, h6, h7, h8]; rfl)⟩ (by exact ⟨rfl, rfl, rfl, trivial⟩) rfl (List.nil_sublist _)
end Go.Proofs.YtbfgljcjblfleaaGreatDoor.Gb
namespace Go.Proofs.YtbfgljcjblfleaaGreatDoor.Gb
open Go Go.Proofs Go.MapKept
attribute [local irreducible] Tryz.prog
open Classical in
noncomputable def flowOf (w : Wd) (p : Pr) : List SS := if h : ∃ l, Least w p l then h.choose else []
theorem Least.flow {w : Wd} {p : Pr} {l : List SS} (h : Least w p l) : flowOf w p = l := by
  have hx : ∃ l, Least w p l := ⟨l, h⟩
  unfold flowOf
  rw [dif_pos hx]
  exact Least.unique hx.choose_spec h
def aloneAt (w : Wd) (p : Pr) (k : Nat) : Int := match p.code[k]? with | some i => aloneR w p i | none => 0
open Classical in
noncomputable def procOut (w : Wd) (seen : List ByteArray) (p : Pr) : Int × Int :=
  if procR p = false ∨ p.name ∈ seen then (0, 185)
  else if (firstR p.code.length (aloneAt w p)).2 ≠ 0 then firstR p.code.length (aloneAt w p)
  else wrongR w p (flowOf w p)
noncomputable def outAt (w : Wd) (k : Nat) : Int × Int := match w.procs[k]? with | some p => procOut w ((w.procs.take k).map (·.name)) p | none => (0, 0)
noncomputable def allR (w : Wd) : Int × Int × Int :=
  match (List.range w.procs.length).find? (fun k => (outAt w k).2 != 0) with
  | some k => ((k : Int), (outAt w k).1, (outAt w k).2)
  | none => (0, 0, 0)
theorem allR_at {w : Wd} {k : Nat} (hk : k < w.procs.length) (h0 : ∀ j, j < k → (outAt w j).2 = 0) (h1 : (outAt w k).2 ≠ 0) : allR w = ((k : Int), (outAt w k).1, (outAt w k).2) := by
  unfold allR
  rw [find_range hk (fun j hj => by simp [h0 j hj]) (by simpa using h1)]
theorem allR_none {w : Wd} (h0 : ∀ j, j < w.procs.length → (outAt w j).2 = 0) : allR w = (0, 0, 0) := by
  unfold allR
  rw [List.find?_eq_none.2 (fun j hj => by simp [h0 j (by simpa using hj)])]
theorem alone_ok {w : Wd} {p : Pr} {i : Int × Int} (h : aloneR w p i = 0) : 0 ≤ i.2 ∧ EOk w p.locals.toNat i.1 i.2.toNat := by
  have hm : mayR i.1 i.2 = true := by
    cases hm : mayR i.1 i.2 with
    | true => rfl
    | false => unfold aloneR at h; rw [if_pos hm] at h; cases h
  have h0 : 0 ≤ i.2 := by
    unfold mayR at hm
    simp only [Bool.and_eq_true, decide_eq_true_eq] at hm
    exact hm.2.1
  unfold aloneR at h
  rw [if_neg (by rw [hm]; simp)] at h
  have hn : ¬ (if i.1 = 1 then (w.consts.length : Int) else if i.1 = 2 ∨ i.1 = 3 then p.locals else if i.1 = 7 then (w.procs.length : Int) else if i.1 = 8 then (w.needs.length : Int) else 2147483647) ≤ i.2 := fun hc => by
    rw [if_pos hc] at h
    exact absurd h (by split <;> decide)
  refine ⟨h0, ⟨fun e => ?_, fun e => ?_, fun e => ?_, fun e => ?_, fun e => ?_⟩⟩ <;> rw [e] at hn <;> simp at hn <;> omega
theorem procR_head {p : Pr} (h : procR p = true) : (p.params.length : Int) ≤ p.locals ∧ p.locals ≤ 64 ∧ 0 < p.code.length ∧ p.code.length ≤ 16384 := by
  unfold procR at h
  simp only [Bool.and_eq_true, decide_eq_true_eq] at h
  obtain ⟨_, _, h1, h2, h3, h4⟩ := h
  exact ⟨h1, h2, by omega, by omega⟩
theorem pok_of {w : Wd} {p : Pr} (h : procR p = true) (ha : ∀ (k : Nat) (i : Int × Int), p.code[k]? = some i → aloneR w p i = 0) : POk w p :=
  let ⟨h1, h2, h3, h4⟩ := procR_head h
  ⟨h1, h2, h3, h4, fun k i hi => alone_ok (ha k i hi)⟩
def namesM (l : List Pr) : List (ByteArray × Value) := l.map fun p => (p.name, .int .i64 1)
theorem namesM_keys (l : List Pr) : (namesM l).map (·.1) = l.map (·.name) := by rw [namesM, List.map_map]; rfl
theorem getA_namesM {l : List Pr} {n : ByteArray} (h : n ∈ l.map (·.name)) : getA (namesM l) n = some (.int .i64 1) := by
  unfold getA
  cases hf : (namesM l).find? (fun p => decide (p.1 = n)) with
  | none =>
    rw [List.find?_eq_none] at hf
    obtain ⟨p, hp, rfl⟩ := List.mem_map.1 h
    exact absurd (decide_eq_true rfl) (hf (p.name, .int .i64 1) (List.mem_map.2 ⟨p, hp, rfl⟩))
  | some q =>
    have := List.mem_of_find?_eq_some hf
    obtain ⟨p, hp, rfl⟩ := List.mem_map.1 this
    rfl
theorem getA_setA {κ : Type} [DecidableEq κ] (m : List (κ × Value)) (k : κ) (v : Value) : getA (setA m k v) k = some v := by
  unfold setA getA
  split
  · rename_i h
    obtain ⟨p, hp, hk⟩ := List.mem_map.1 h
    cases hf : (m.map (fun p => if p.1 = k then (k, v) else p)).find? (fun p => decide (p.1 = k)) with
    | none =>
      rw [List.find?_eq_none] at hf
      exact absurd (decide_eq_true rfl) (hf (k, v) (List.mem_map.2 ⟨p, hp, by simp [hk]⟩))
    | some q =>
      have h1 := List.mem_of_find?_eq_some hf
      have h2 := List.find?_some hf
      obtain ⟨r, hr, rfl⟩ := List.mem_map.1 h1
      by_cases hrk : r.1 = k
      · simp [hrk]
      · simp [hrk] at h2
  · rename_i h
    have hn : m.find? (fun p => decide (p.1 = k)) = none := by
      rw [List.find?_eq_none]
      intro p hp hk
      exact h (List.mem_map.2 ⟨p, hp, by simpa using hk⟩)
    rw [List.find?_append, hn]
    simp
theorem outAt_eq {w : Wd} {k : Nat} {p : Pr} (h : w.procs[k]? = some p) : outAt w k = procOut w ((w.procs.take k).map (·.name)) p := by unfold outAt; rw [h]
theorem take_snoc' {α : Type} {l : List α} {k : Nat} {x : α} (h : l[k]? = some x) : l.take (k + 1) = l.take k ++ [x] := by
  rw [List.take_add_one, h]; rfl
end Go.Proofs.YtbfgljcjblfleaaGreatDoor.Gb
namespace Go.Proofs.YtbfgljcjblfleaaGreatDoor.Gb
open Go Go.Proofs Go.MapKept
attribute [local irreducible] Tryz.prog
structure AL where
  k : Nat
  G : Gh
  es : Array MapEntry
  ck : Nat
def okSoFar (w : Wd) (k : Nat) : Prop := ∀ j, j < k → (outAt w j).2 = 0
abbrev spB (b : Nat) : Own := .blk b (.cells #[.int .i64 0, .int .i64 0] 29 (0, 0))
theorem name_new {w : Wd} {k : Nat} {p : Pr} (hp : w.procs[k]? = some p) (h : (outAt w k).2 = 0) : p.name ∉ (w.procs.take k).map (·.name) := fun hm => by
  rw [outAt_eq hp, procOut, if_pos (.inr hm)] at h
  cases h
theorem okSoFar_nodup {w : Wd} : ∀ {k : Nat}, k ≤ w.procs.length → okSoFar w k → ((w.procs.take k).map (·.name)).Nodup
  | 0, _, _ => by simp
  | k + 1, hk, h => by
    obtain ⟨p, hp⟩ : ∃ p, w.procs[k]? = some p := ⟨_, List.getElem?_eq_getElem (by omega)⟩
    rw [take_snoc' hp, List.map_append, List.nodup_append]
    refine ⟨okSoFar_nodup (by omega) fun j hj => h j (by omega), by simp, fun a ha b hb e => ?_⟩
    obtain rfl : b = p.name := by simpa using hb
    exact name_new hp (h k (by omega)) (e ▸ ha)
set_option maxHeartbeats 4000000 in
theorem wall_fn (G : Gh) (hE : Env G) (w : Wd) (bw : Nat) (CA NA PA : Option Addr) (cc nc pc : Nat) (hW : WRep G w bw CA NA PA cc nc pc) (hpr : ∀ q ∈ w.procs, q.code.length ≤ 100000000000000 ∧ q.name.size ≤ 100000000000000) :
    Fn Tryz.prog 17 #[.pointer (some ⟨bw, 0, none⟩), .bool false] G [] fun e G' H' => e = .returned (.tuple #[.agg #[.int .i64 (allR w).1, .int .i64 (allR w).2.1], .int .i64 (allR w).2.2]) ∧ G.le G' ∧ H' = [] := by
  have hwc := hW.cells
  have hpl := hW.pl
  refine Fn.enter Tryz.func17 rfl rfl fun w0 => ?_
  refine WC.seq ?_
  refine WC.region ?_
  refine WL.op (by kernel_rfl) (OW.alloc rfl fun b4 => ?_)
  refine gom ?_
  refine WL.op (by kernel_rfl) (OW.makeMap rfl fun bm => ?_)
  refine gom ?_
  refine WC.loop (X := AL) (fun x => [(0, .pointer (some ⟨bw, 0, none⟩)), (1, .bool false), (4, .pointer (some ⟨b4, 0, none⟩)), (6, .map (some bm)), (18, .slice PA w.procs.length pc), (19, .int .i64 w.procs.length), (20, .int .i64 x.k)]) (fun x => x.G) (fun x => [.blk bm (.map x.es x.ck), spB b4]) (fun x => w.procs.length - x.k) (fun x => x.k ≤ w.procs.length ∧ G.le x.G ∧ okSoFar w x.k ∧ MRel Value.string .string x.es x.ck (namesM (w.procs.take x.k))) ⟨0, G, #[], 0⟩ ⟨Nat.zero_le _, Gh.le_refl _, (fun j h => absurd h (Nat.not_lt_zero _)), MRel.empty⟩ (by exact ⟨rfl, rfl, rfl, rfl, rfl, rfl, rfl, trivial⟩) rfl (List.Sublist.refl _) fun x hx => ?_
  obtain ⟨k, G1, es, ck⟩ := x
  obtain ⟨hk, hg1, hok, hm⟩ := hx
  dsimp only at hk hg1 hok hm
  have x2 := wrapS k (by omega)
  by_cases hlt : k < w.procs.length
  rotate_left
  · have e2 : decide ((k : Int) < (w.procs.length : Int)) = false := decide_eq_false (by omega)
    refine gom ?_
    refine WC.ret ?_
    refine WK.un ?_
    exact QF.p2 (.inl rfl) rfl (.cell rfl inferInstance inferInstance (by (repeat first | exact .here | apply At.there)) rfl rfl) (.tmp rfl) (⟨by rw [allR_none fun j hj => hok j (by omega)]; rfl, hg1, rfl⟩)
  have e2 : decide ((k : Int) < (w.procs.length : Int)) = true := decide_eq_true (by omega)
  obtain ⟨p, hp⟩ : ∃ p, w.procs[k]? = some p := ⟨_, List.getElem?_eq_getElem (by omega)⟩
  have hW1 := hW.mono hg1
  obtain ⟨b, ofs, cs, rfl, hks, hcs⟩ := hW1.procs k p hp
  obtain ⟨QA, qc, IA, ic, rfl, hQ, hI⟩ := hks
  have hpm := List.mem_of_getElem? hp
  obtain ⟨hpc, hpn⟩ := hpr p hpm
  have hpq := hW.pp p hpm
  have x0 : (0 : Int) ≤ (k : Int) := by omega
  have x1 : (k : Int) < (w.procs.length : Int) := by omega
  have hnd := okSoFar_nodup hk hok
  have hout := outAt_eq hp
  have w1 : IntKind.i64.wrap (1 + 1) = 2 := rfl
  have w2 : IntKind.i64.wrap (0 + 1) = 1 := rfl
  refine gom ?_
  refine WL.op (by kernel_rfl) (OW.alloc rfl fun b8 => ?_)
  refine gom ?_
  by_cases hin : p.name ∈ (w.procs.take k).map (·.name)
  · have hr : allR w = ((k : Int), 0, 185) := by
      have h0 : outAt w k = (0, 185) := by rw [hout, procOut, if_pos (.inr hin)]
      rw [allR_at hlt hok (by rw [h0]; decide), h0]
    rw [hr]
    refine WL.v (Gv.lookup (emb := Value.string) (z := .int .i64 0) (v := .int .i64 1) rfl rfl (by (repeat first | exact .here | apply At.there)) hm (by rw [getA_namesM hin]; rfl)) (by kernel_rfl) rfl ?_
    refine gom ?_
    refine WL.op (by kernel_rfl) (OW.mapSet (emb := Value.string) rfl rfl rfl (by (repeat first | exact .here | apply At.there)) hm rfl fun es1 ck1 hm1 => ?_)
    refine gom ?_
    refine WL.op (by kernel_rfl) (OW.callK rfl (proc_fn G1 (hE.mono hg1) p QA IA qc ic hQ hpn hpq) rfl fun v' G' H' h hg => ?_)
    obtain ⟨he, rfl, rfl⟩ := h
    cases he
    cases h1 : procR p with
    | false =>
      refine gom ?_
      refine WC.ret ?_
      refine WK.un ?_
      exact QF.p2 (.inl rfl) rfl (.cell rfl inferInstance inferInstance (by (repeat first | exact .here | apply At.there)) rfl rfl) (.tmp rfl) (⟨rfl, hg1, rfl⟩)
    | true =>
      refine gom ?_
      refine WL.v (Gv.lookup (emb := Value.string) (z := .int .i64 0) (v := .int .i64 2) rfl rfl (by (repeat first | exact .here | apply At.there)) hm1 (by rw [getA_setA]; rfl)) (by kernel_rfl) rfl ?_
      refine gom ?_
      refine WC.ret ?_
      refine WK.un ?_
      exact QF.p2 (.inl rfl) rfl (.cell rfl inferInstance inferInstance (by (repeat first | exact .here | apply At.there)) rfl rfl) (.tmp rfl) (⟨rfl, hg1, rfl⟩)
  refine WL.v (Gv.lookup (emb := Value.string) (z := .int .i64 0) (v := .int .i64 0) rfl rfl (by (repeat first | exact .here | apply At.there)) hm (by rw [getA_absent (by rw [namesM_keys]; exact hin)]; rfl)) (by kernel_rfl) rfl ?_
  refine gom ?_
  refine WL.op (by kernel_rfl) (OW.mapSet (emb := Value.string) rfl rfl rfl (by (repeat first | exact .here | apply At.there)) hm rfl fun es1 ck1 hm1 => ?_)
  have hset : setA (namesM (w.procs.take k)) p.name (.int .i64 1) = namesM (w.procs.take (k + 1)) := by
    rw [setA, if_neg (by rw [namesM_keys]; exact hin), take_snoc' hp]; simp [namesM]
  refine gom ?_
  refine WL.op (by kernel_rfl) (OW.callK rfl (proc_fn G1 (hE.mono hg1) p QA IA qc ic hQ hpn hpq) rfl fun v' G' H' h hg => ?_)
  obtain ⟨he, rfl, rfl⟩ := h
  cases he
  cases h1 : procR p with
  | false =>
    have hr : allR w = ((k : Int), 0, 185) := by
      have h0 : outAt w k = (0, 185) := by rw [hout, procOut, if_pos (.inl h1)]
      rw [allR_at hlt hok (by rw [h0]; decide), h0]
    rw [hr]
    refine gom ?_
    refine WC.ret ?_
    refine WK.un ?_
    exact QF.p2 (.inl rfl) rfl (.cell rfl inferInstance inferInstance (by (repeat first | exact .here | apply At.there)) rfl rfl) (.tmp rfl) (⟨rfl, hg1, rfl⟩)
  | true =>
  refine gom ?_
  refine WL.v (Gv.lookup (emb := Value.string) (z := .int .i64 0) (v := .int .i64 1) rfl rfl (by (repeat first | exact .here | apply At.there)) hm1 (by rw [getA_setA]; rfl)) (by kernel_rfl) rfl ?_
  refine gom ?_
  have hnp : ¬ (procR p = false ∨ p.name ∈ (w.procs.take k).map (·.name)) := fun h => h.elim (fun h => by rw [h1] at h; cases h) hin
  refine WC.loop (X := Nat) (fun j => [(0, .pointer (some ⟨bw, 0, none⟩)), (1, .bool false), (4, .pointer (some ⟨b4, 0, none⟩)), (6, .map (some bm)), (7, .int .i64 k), (8, .pointer (some ⟨b8, 0, none⟩)), (18, .slice (some ⟨b, ofs, none⟩) w.procs.length pc), (19, .int .i64 w.procs.length), (20, .int .i64 k), (47, .slice IA p.code.length ic), (48, .int .i64 p.code.length), (49, .int .i64 j)]) (fun _ => G1) (fun _ => [prB b8 p QA qc IA ic, .blk bm (.map es1 ck1), spB b4]) (fun j => p.code.length - j) (fun j => j ≤ p.code.length ∧ ∀ i, i < j → aloneAt w p i = 0) 0 ⟨Nat.zero_le _, (fun j h => absurd h (Nat.not_lt_zero _))⟩ (by exact ⟨rfl, rfl, rfl, rfl, rfl, rfl, rfl, rfl, rfl, rfl, rfl, rfl, trivial⟩) rfl (List.Sublist.refl _) fun j hx => ?_
  obtain ⟨hj, hal⟩ := hx
  have z2 := wrapS j (by omega)
  by_cases hjl : j < p.code.length
  · have e3 : decide ((j : Int) < (p.code.length : Int)) = true := decide_eq_true (by omega)
    obtain ⟨i, hi⟩ : ∃ i, p.code[j]? = some i := ⟨_, List.getElem?_eq_getElem (by omega)⟩
    obtain ⟨ib, io, ics, rfl, hik, hic⟩ := hI j i hi
    obtain rfl : ics = [.int .i64 i.1, .int .i64 i.2] := hik
    have z0 : (0 : Int) ≤ (j : Int) := by omega
    have z1 : (j : Int) < (p.code.length : Int) := by omega
    have haa : aloneAt w p j = aloneR w p i := by unfold aloneAt; rw [hi]
    refine gom ?_
    refine WL.op (by kernel_rfl) (OW.alloc rfl fun b10 => ?_)
    refine gom ?_
    refine WL.op (by kernel_rfl) (OW.callK rfl (alone_fn G1 w p bw CA NA (some ⟨b, ofs, none⟩) cc nc pc hW1 QA (some ⟨ib, io, none⟩) qc ic i) rfl fun v' G' H' h hg => ?_)
    obtain ⟨he, rfl, rfl⟩ := h
    cases he
    by_cases ha : aloneR w p i = 0
    · have e4 : (aloneR w p i != 0) = false := by simpa using ha
      refine gom ?_
      exact WK.again (j + 1) (by omega) ⟨by omega, fun i' hi' => by
        rcases Nat.lt_or_ge i' j with h | h
        · exact hal i' h
        · obtain rfl : i' = j := by omega
          rw [haa]; exact ha⟩ (by exact ⟨rfl, rfl, rfl, rfl, rfl, rfl, rfl, rfl, rfl, rfl, rfl, rfl, trivial⟩) rfl (List.sublist_cons_self _ _)
    · have e4 : (aloneR w p i != 0) = true := by simpa using ha
      have hr : allR w = ((k : Int), (j : Int), aloneR w p i) := by
        have hf : firstR p.code.length (aloneAt w p) = ((j : Int), aloneR w p i) := by rw [firstR_at hjl hal (by rw [haa]; exact ha), haa]
        have h0 : outAt w k = ((j : Int), aloneR w p i) := by rw [hout, procOut, if_neg hnp, hf, if_pos ha]
        rw [allR_at hlt hok (by rw [h0]; exact ha), h0]
      rw [hr]
      refine gom ?_
      refine WC.ret ?_
      refine WK.un ?_
      exact QF.p2 (.inl rfl) rfl (.cell rfl inferInstance inferInstance (by (repeat first | exact .here | apply At.there)) rfl rfl) (.tmp rfl) (⟨rfl, hg1, rfl⟩)
  have e3 : decide ((j : Int) < (p.code.length : Int)) = false := decide_eq_false (by omega)
  have hpk : POk w p := pok_of h1 fun i v hv => by
    have := hal i (by have := (List.getElem?_eq_some_iff.1 hv).1; omega)
    unfold aloneAt at this; rw [hv] at this; exact this
  have hf0 : firstR p.code.length (aloneAt w p) = (0, 0) := firstR_none fun i hi => hal i (by omega)
  refine gom ?_
  refine WL.op (by kernel_rfl) (OW.callK rfl (flow_fn G1 w p bw CA NA (some ⟨b, ofs, none⟩) cc nc pc QA IA qc ic hW1 hQ hI hpk) rfl fun v' G' H' h hg => ?_)
  obtain ⟨bf, TA, tc, l, he, hg2, hF, hT, htc, hL, rfl⟩ := h
  cases he
  have hg3 := Gh.le_trans hg1 hg2
  refine gom ?_
  refine WL.op (by kernel_rfl) (OW.callK rfl (wrong_fn _ w p bf bw CA NA (some ⟨b, ofs, none⟩) cc nc pc QA IA qc ic TA tc l (hW.mono hg3) hF hT hpk hL.closed) rfl fun v' G' H' h hg => ?_)
  obtain ⟨he, hg4, rfl⟩ := h
  cases he
  have hg5 := Gh.le_trans hg3 hg4
  have h0 : outAt w k = wrongR w p l := by rw [hout, procOut, if_neg hnp, hf0, if_neg (by simp), hL.flow]
  obtain ⟨at', wy, hw⟩ : ∃ a y, wrongR w p l = (a, y) := ⟨_, _, rfl⟩
  rw [hw]
  by_cases ha : wy = 0
  · have e5 : (wy != 0) = false := by simpa using ha
    refine gom ?_
    exact WK.again ⟨k + 1, _, es1, ck1⟩ (by dsimp only; omega) ⟨by dsimp only; omega, hg5, fun i' hi' => by
      rcases Nat.lt_or_ge i' k with h | h
      · exact hok i' h
      · obtain rfl : i' = k := by dsimp only at hi'; omega
        rw [h0, hw]; exact ha, by dsimp only; rw [← hset]; exact hm1⟩ (by exact ⟨rfl, rfl, rfl, rfl, rfl, rfl, rfl, trivial⟩) rfl (List.sublist_cons_self _ _)
  · have e5 : (wy != 0) = true := by simpa using ha
    have hr : allR w = ((k : Int), at', wy) := by
      rw [allR_at hlt hok (by rw [h0, hw]; exact ha), h0, hw]
    rw [hr]
    refine gom ?_
    refine WC.ret ?_
    refine WK.un ?_
    exact QF.p2 (.inl rfl) rfl (.cell rfl inferInstance inferInstance (by (repeat first | exact .here | apply At.there)) rfl rfl) (.tmp rfl) (⟨rfl, hg5, rfl⟩)
end Go.Proofs.YtbfgljcjblfleaaGreatDoor.Gb
namespace Go.Proofs.YtbfgljcjblfleaaGreatDoor.Gb
open Go Go.Proofs Go.MapKept
attribute [local irreducible] Tryz.prog
noncomputable def objAns (o : Ob) : Int × Int × Int := if objR o then allR o.wd else (0, 0, 185)
theorem WRep.ofO {G : Gh} {o : Ob} {CA NA PA : Option Addr} {cc nc pc b : Nat} (hO : ORep G o CA NA PA) (hL : OLim o) (hf : Cs G b 0 [.slice CA o.consts.length cc, .slice NA o.needs.length nc, .slice PA o.procs.length pc]) : WRep G o.wd b CA NA PA cc nc pc :=
  ⟨hf, hO.consts, hO.needs, hO.procs, hL.cl, hL.nl, hL.pl, fun q hq => (hL.nd q hq).1, fun q hq => (hL.pr q hq).1⟩
section
variable (G : Gh) (hE : Env G) (o : Ob) (CA NA PA : Option Addr) (cc nc pc : Nat) (hO : ORep G o CA NA PA) (hL : OLim o)
include hE hO hL
theorem Object_fn : Fn Tryz.prog 4 #[.agg (obC o CA NA PA cc nc pc)] G [] fun e G' H' => e = .returned (.tuple #[.agg #[.int .i64 (objAns o).1, .int .i64 (objAns o).2.1], .int .i64 (objAns o).2.2]) ∧ G.le G' ∧ H' = [] := by
  refine Fn.enter Tryz.func4 rfl rfl fun w0 => ?_
  refine WC.seq ?_
  refine WC.region ?_
  refine WL.op (by kernel_rfl) (OW.box rfl rfl fun b1 => ?_)
  refine WL.op (by kernel_rfl) (OW.alloc rfl fun b2 => ?_)
  refine gom ?_
  refine WL.op (by kernel_rfl) (OW.callK rfl (object_fn G hE o CA NA PA cc nc pc hO hL) rfl fun v' G' H' h hg => ?_)
  obtain ⟨he, hg1, rfl⟩ := h
  cases he
  cases h1 : objR o with
  | false =>
    have hr : objAns o = (0, 0, 185) := by rw [objAns, h1]; rfl
    rw [hr]
    refine gom ?_
    refine WC.ret ?_
    refine WK.un ?_
    exact QF.p2 (.inl rfl) rfl (.cell rfl inferInstance inferInstance (by (repeat first | exact .here | apply At.there)) rfl rfl) (.tmp rfl) (⟨rfl, hg1, rfl⟩)
  | true =>
  have hr : objAns o = allR o.wd := by rw [objAns, h1]; rfl
  rw [hr]
  refine gom ?_
  refine WL.op (by kernel_rfl) (OW.box rfl rfl fun b16 => ?_)
  refine WL.p (Gp.assign rfl) (by kernel_rfl) rfl ?_
  refine WL.nil ?_
  refine WK.un ?_
  refine WC.pick [.blk b16 (.cells #[.slice CA o.consts.length cc, .slice NA o.needs.length nc, .slice PA o.procs.length pc] 58 (0, 0)), spB b2] ?_
  refine WC.freezeC .here rfl fun G1 hg2 hf1 => ?_
  have hg3 := Gh.le_trans hg1 hg2
  have hW := WRep.ofO (hO.mono hg3) hL hf1
  refine gom ?_
  refine WL.op (by kernel_rfl) (OW.callK rfl (wall_fn G1 (hE.mono hg3) o.wd b16 CA NA PA cc nc pc hW (fun q hq => (hL.pr q hq).2)) rfl fun v' G' H' h hg => ?_)
  obtain ⟨he, hg4, rfl⟩ := h
  cases he
  refine gom ?_
  refine WC.ret ?_
  refine WK.un ?_
  exact QF.p2 (.inl rfl) rfl (.cell rfl inferInstance inferInstance (by (repeat first | exact .here | apply At.there)) rfl rfl) (.tmp rfl) (⟨rfl, Gh.le_trans hg3 hg4, rfl⟩)
end
end Go.Proofs.YtbfgljcjblfleaaGreatDoor.Gb
namespace Go.Proofs.YtbfgljcjblfleaaGreatDoor.Gb
open Go Go.Proofs Go.MapKept
attribute [local irreducible] Tryz.prog
theorem allR_zero {w : Wd} (h : (allR w).2.2 = 0) : ∀ j, j < w.procs.length → (outAt w j).2 = 0 := by
  unfold allR at h
  split at h
  · rename_i k hk
    have := List.find?_some hk
    simp at this
    exact absurd h this
  · rename_i hk
    intro j hj
    have := List.find?_eq_none.1 hk j (by simpa using hj)
    simpa using this
theorem outAt_zero {w : Wd} {k : Nat} {p : Pr} (hp : w.procs[k]? = some p) (h : (outAt w k).2 = 0) : procR p = true ∧ p.name ∉ (w.procs.take k).map (·.name) ∧ (∀ (j : Nat) (i : Int × Int), p.code[j]? = some i → aloneR w p i = 0) ∧ (wrongR w p (flowOf w p)).2 = 0 := by
  rw [outAt_eq hp] at h
  unfold procOut at h
  split at h
  · cases h
  rename_i hn
  split at h
  · rename_i ha; exact absurd h ha
  rename_i ha
  refine ⟨?_, fun hm => hn (.inr hm), fun j i hi => ?_, h⟩
  · cases hq : procR p with
    | true => rfl
    | false => exact absurd (.inl hq) hn
  · have ha' : (firstR p.code.length (aloneAt w p)).2 = 0 := by simpa using ha
    unfold firstR at ha'
    split at ha'
    · rename_i k hk
      have := List.find?_some hk
      simp at this
      exact absurd ha' this
    · rename_i hk
      have := List.find?_eq_none.1 hk j (by simpa using (List.getElem?_eq_some_iff.1 hi).1)
      have h2 : aloneAt w p j = 0 := by simpa using this
      unfold aloneAt at h2
      rw [hi] at h2
      exact h2
theorem objAns_zero {o : Ob} (h : (objAns o).2.2 = 0) : objR o = true ∧ (allR o.wd).2.2 = 0 := by
  unfold objAns at h
  split at h
  · exact ⟨by assumption, h⟩
  · cases h
theorem objAns_pok {o : Ob} (h : (objAns o).2.2 = 0) {k : Nat} {p : Pr} (hp : o.procs[k]? = some p) : POk o.wd p := by
  have h1 := allR_zero (objAns_zero h).2 k (List.getElem?_eq_some_iff.1 hp).1
  have h2 := outAt_zero (w := o.wd) hp h1
  exact pok_of h2.1 h2.2.2.1
noncomputable def findE (o : Ob) (n : Int) : Int := if (objAns o).2.2 ≠ 0 then (objAns o).2.2 else if n < 0 ∨ (o.procs.length : Int) ≤ n then 1 else 0
section
variable (G : Gh) (hE : Env G) (o : Ob) (CA NA PA : Option Addr) (cc nc pc : Nat) (hO : ORep G o CA NA PA) (hL : OLim o) (n : Int)
include hE hO hL
theorem find_fn : Fn Tryz.prog 26 #[.agg (obC o CA NA PA cc nc pc), .int .i64 n] G [] fun e G' H' => ∃ F, e = .returned (.tuple #[.pointer F, .int .i64 (findE o n)]) ∧ G.le G' ∧ (findE o n = 0 → ∃ p bf bw QA IA qc ic TA tc l, F = some ⟨bf, 0, none⟩ ∧ o.procs[n.toNat]? = some p ∧ FRep G' p bf bw QA IA qc ic TA l.length tc ∧ Sl Kd.ss G' TA l ∧ l.length ≤ tc ∧ Least o.wd p l) ∧ H' = [] := by
  refine Fn.enter Tryz.func26 rfl rfl fun w0 => ?_
  refine WC.seq ?_
  refine WC.region ?_
  refine WL.op (by kernel_rfl) (OW.box rfl rfl fun b2 => ?_)
  refine gom ?_
  refine WL.op (by kernel_rfl) (OW.callK rfl (Object_fn G hE o CA NA PA cc nc pc hO hL) rfl fun v' G' H' h hg => ?_)
  obtain ⟨he, hg1, rfl⟩ := h
  cases he
  refine gom ?_
  refine WL.op (by kernel_rfl) (OW.alloc rfl fun b6 => ?_)
  by_cases h1 : (objAns o).2.2 = 0
  rotate_left
  · have e1 : ((objAns o).2.2 != 0) = true := by simpa using h1
    have hf : findE o n = (objAns o).2.2 := by rw [findE, if_pos h1]
    refine gom ?_
    refine WC.ret ?_
    refine WK.un ?_
    exact QF.p2 (.inl rfl) rfl (.tmp rfl) (.tmp rfl) (⟨none, by rw [hf] <;> rfl, hg1, fun h => absurd (hf ▸ h) h1, rfl⟩)
  have e1 : ((objAns o).2.2 != 0) = false := by simpa using h1
  have hpl := hL.pl
  by_cases h2 : n < 0
  · have e2 : decide (n < 0) = true := decide_eq_true h2
    have hf : findE o n = 1 := by rw [findE, if_neg (by simpa using h1), if_pos (.inl h2)]
    refine gom ?_
    refine WC.ret ?_
    refine WK.un ?_
    exact QF.p2 (.inl rfl) rfl (.tmp rfl) (.tmp rfl) (⟨none, by rw [hf] <;> rfl, hg1, fun h => absurd (hf ▸ h) (by decide), rfl⟩)
  have e2 : decide (n < 0) = false := decide_eq_false h2
  by_cases h3 : (o.procs.length : Int) ≤ n
  · have e3 : decide ((o.procs.length : Int) ≤ n) = true := decide_eq_true h3
    have hf : findE o n = 1 := by rw [findE, if_neg (by simpa using h1), if_pos (.inr h3)]
    refine gom ?_
    refine WC.ret ?_
    refine WK.un ?_
    exact QF.p2 (.inl rfl) rfl (.tmp rfl) (.tmp rfl) (⟨none, by rw [hf] <;> rfl, hg1, fun h => absurd (hf ▸ h) (by decide), rfl⟩)
  have e3 : decide ((o.procs.length : Int) ≤ n) = false := decide_eq_false h3
  have hf : findE o n = 0 := by rw [findE, if_neg (by simpa using h1), if_neg (by omega)]
  obtain ⟨p, hp⟩ : ∃ p, o.procs[n.toNat]? = some p := ⟨_, List.getElem?_eq_getElem (by omega)⟩
  have hpk := objAns_pok h1 hp
  refine gom ?_
  refine WL.op (by kernel_rfl) (OW.box rfl rfl fun b33 => ?_)
  refine WL.p (Gp.assign rfl) (by kernel_rfl) rfl ?_
  refine WL.nil ?_
  refine WK.un ?_
  refine WC.pick [.blk b33 (.cells #[.slice CA o.consts.length cc, .slice NA o.needs.length nc, .slice PA o.procs.length pc] 58 (0, 0)), .blk b2 (.cells (obC o CA NA PA cc nc pc) 26 (0, 0))] ?_
  refine WC.freezeC .here rfl fun G1 hg2 hf1 => ?_
  have hg3 := Gh.le_trans hg1 hg2
  have hO3 := hO.mono hg3
  have hW := WRep.ofO hO3 hL hf1
  obtain ⟨b, ofs, cs, rfl, hks, hcs⟩ := hO3.procs n.toNat p hp
  obtain ⟨QA, qc, IA, ic, rfl, hQ, hI⟩ := hks
  have x0 : (0 : Int) ≤ n := by omega
  have x1 : n < (o.procs.length : Int) := by omega
  refine gom ?_
  refine WL.op (by kernel_rfl) (OW.callK rfl (flow_fn G1 o.wd p b33 CA NA (some ⟨b, ofs, none⟩) cc nc pc QA IA qc ic hW hQ hI hpk) rfl fun v' G' H' h hg => ?_)
  obtain ⟨bf, TA, tc, l, he, hg4, hF, hT, htc, hLe, rfl⟩ := h
  cases he
  refine gom ?_
  refine WC.ret ?_
  refine WK.un ?_
  exact QF.p2 (.inl rfl) rfl (.tmp rfl) (.tmp rfl) (⟨_, by rw [hf], Gh.le_trans hg3 hg4, fun _ => ⟨p, bf, b33, QA, IA, qc, ic, TA, tc, l, rfl, hp, hF, hT, htc, hLe⟩, rfl⟩)
end
end Go.Proofs.YtbfgljcjblfleaaGreatDoor.Gb
namespace Go.Proofs.YtbfgljcjblfleaaGreatDoor.Gb
open Go Go.Proofs Go.MapKept
attribute [local irreducible] Tryz.prog
theorem IVec.nil {T : Nat} : IVec T none [] 0 (.spare 0 0 0) := ⟨rfl, .inl ⟨rfl, rfl, rfl, rfl⟩⟩
theorem findE_zero {o : Ob} {n : Int} (h : findE o n = 0) : (objAns o).2.2 = 0 ∧ 0 ≤ n ∧ n < o.procs.length := by
  unfold findE at h
  split at h
  · rename_i h1; exact absurd h h1
  rename_i h1
  split at h
  · cases h
  exact ⟨by simpa using h1, by omega, by omega⟩
def hghR (s : SS) : Int := if s.reached then (s.stack.length : Int) else -1
noncomputable def statesR (o : Ob) (n : Int) : List SS := match o.procs[n.toNat]? with | some p => flowOf o.wd p | none => []
noncomputable def heightsR (o : Ob) (n : Int) : List Int := if findE o n = 0 then (statesR o n).map hghR else []
section
variable (G : Gh) (hE : Env G) (o : Ob) (CA NA PA : Option Addr) (cc nc pc : Nat) (hO : ORep G o CA NA PA) (hL : OLim o) (n : Int)
include hE hO hL
noncomputable def typesE (o : Ob) (n k : Int) : Int := if findE o n ≠ 0 then findE o n else if k < 0 ∨ ((statesR o n).length : Int) ≤ k then 1 else 0
noncomputable def typesR (o : Ob) (n k : Int) : List Int × List Int := if typesE o n k = 0 then (match (statesR o n)[k.toNat]? with | some s => (s.vars, s.stack) | none => ([], [])) else ([], [])
theorem Types_fn (k : Int) : Fn Tryz.prog 9 #[.agg (obC o CA NA PA cc nc pc), .int .i64 n, .int .i64 k] G [] fun e G' H' => ∃ VA vc SA sc x y, e = .returned (.tuple #[.slice VA (typesR o n k).1.length vc, .slice SA (typesR o n k).2.length sc, .int .i64 (typesE o n k)]) ∧ G.le G' ∧ TVec VA (typesR o n k).1 vc x ∧ TVec SA (typesR o n k).2 sc y ∧ H' = [x, y] := by
  refine Fn.enter Tryz.func9 rfl rfl fun w0 => ?_
  refine WC.seq ?_
  refine WC.region ?_
  refine WL.op (by kernel_rfl) (OW.box rfl rfl fun b3 => ?_)
  refine gom ?_
  refine WL.op (by kernel_rfl) (OW.callK rfl (find_fn G hE o CA NA PA cc nc pc hO hL n) rfl fun v' G' H' h hg => ?_)
  obtain ⟨F, he, hg1, hF, rfl⟩ := h
  cases he
  by_cases h1 : findE o n = 0
  rotate_left
  · have e1 : (findE o n != 0) = true := by simpa using h1
    have ht : typesE o n k = findE o n := by rw [typesE, if_pos h1]
    have hr : typesR o n k = ([], []) := by rw [typesR, if_neg (by rw [ht]; exact h1)]
    rw [hr, ht]
    refine gom ?_
    refine WC.nothing ?_
    refine WC.nothing ?_
    refine WC.ret ?_
    refine WK.un ?_
    exact QF.p3 (.inl rfl) rfl (.tmp rfl) (.tmp rfl) (.tmp rfl) (⟨none, 0, none, 0, _, _, rfl, hg1, IVec.nil, IVec.nil, rfl⟩)
  have e1 : (findE o n != 0) = false := by simpa using h1
  obtain ⟨p, bf, bw, QA, IA, qc, ic, TA, tc, l, rfl, hp, hFR, hT, htc, hLe⟩ := hF h1
  have hfc := hFR.cells
  have hst : statesR o n = l := by rw [statesR, hp]; dsimp only; rw [hLe.flow]
  have hpk := objAns_pok (findE_zero h1).1 hp
  have hloc := hpk.loc
  by_cases h2 : k < 0
  · have e2 : decide (k < 0) = true := decide_eq_true h2
    have ht : typesE o n k = 1 := by rw [typesE, if_neg (by simpa using h1), if_pos (.inl h2)]
    have hr : typesR o n k = ([], []) := by rw [typesR, if_neg (by rw [ht]; decide)]
    rw [hr, ht]
    refine gom ?_
    refine WC.nothing ?_
    refine WC.nothing ?_
    refine WC.ret ?_
    refine WK.un ?_
    exact QF.p3 (.inl rfl) rfl (.tmp rfl) (.tmp rfl) (.tmp rfl) (⟨none, 0, none, 0, _, _, rfl, hg1, IVec.nil, IVec.nil, rfl⟩)
  have e2 : decide (k < 0) = false := decide_eq_false h2
  by_cases h3 : (l.length : Int) ≤ k
  · have e3 : decide ((l.length : Int) ≤ k) = true := decide_eq_true h3
    have ht : typesE o n k = 1 := by rw [typesE, if_neg (by simpa using h1), if_pos (.inr (by rw [hst]; exact h3))]
    have hr : typesR o n k = ([], []) := by rw [typesR, if_neg (by rw [ht]; decide)]
    rw [hr, ht]
    refine gom ?_
    refine WC.nothing ?_
    refine WC.nothing ?_
    refine WC.ret ?_
    refine WK.un ?_
    exact QF.p3 (.inl rfl) rfl (.tmp rfl) (.tmp rfl) (.tmp rfl) (⟨none, 0, none, 0, _, _, rfl, hg1, IVec.nil, IVec.nil, rfl⟩)
  have e3 : decide ((l.length : Int) ≤ k) = false := decide_eq_false h3
  obtain ⟨s, hs⟩ : ∃ s, l[k.toNat]? = some s := ⟨_, List.getElem?_eq_getElem (by omega)⟩
  have ht : typesE o n k = 0 := by rw [typesE, if_neg (by simpa using h1), if_neg (by rw [hst]; omega)]
  have hr : typesR o n k = (s.vars, s.stack) := by rw [typesR, if_pos ht, hst, hs]
  rw [hr, ht]
  have hwf := hLe.closed.wf s (List.mem_of_getElem? hs)
  obtain ⟨sb, so, scs, rfl, hsk, hsc⟩ := hT k.toNat s hs
  obtain ⟨VA, vc, SA, sc, rfl, hS⟩ := Kd.ss_rep hsk
  have x0 : (0 : Int) ≤ k := by omega
  have x1 : k < (l.length : Int) := by omega
  have hsv : s.vars.length ≤ 1000000000 := by
    cases hq : s.reached with
    | true => have := hwf.vars hq; omega
    | false => rw [hwf.bare hq]; decide
  have hss : s.stack.length ≤ 1000000000 := by have := hwf.high; omega
  refine gom ?_
  refine WL.op (by kernel_rfl) (OW.callK rfl (copied_fn _ s VA vc SA sc hS hsv hss) rfl fun v' G' H' h hg => ?_)
  obtain ⟨VA', vc', SA', sc', x, y, he, rfl, rfl, hx, hy⟩ := h
  cases he
  refine WL.op (by kernel_rfl) (OW.alloc rfl fun b10 => ?_)
  refine gom ?_
  refine WC.ret ?_
  refine WK.un ?_
  exact QF.p3 (.inl rfl) rfl (.tmp rfl) (.tmp rfl) (.tmp rfl) (⟨VA', vc', SA', sc', x, y, rfl, hg1, hx, hy, rfl⟩)
end
end Go.Proofs.YtbfgljcjblfleaaGreatDoor.Gb
namespace Go.Proofs.YtbfgljcjblfleaaGreatDoor.Gb
open Go Go.Proofs Go.MapKept
theorem LeR.drop {a b : List Int} (h : LeR a b) (n : Nat) : LeR (a.drop n) (b.drop n) := by
  induction h generalizing n with
  | nil => simp; exact .nil
  | cons hx h ih => cases n with | zero => exact .cons hx h | succ n => simpa using ih n
theorem LeR.eq_of {a b : List Int} (h : LeR a b) (hb : ∀ x ∈ b, x ≠ 0) : a = b := by
  induction h with
  | nil => rfl
  | cons hx h ih =>
    rcases hx with hx | hx
    · exact absurd hx (hb _ (List.mem_cons_self ..))
    · rw [hx, ih fun x m => hb x (List.mem_cons_of_mem _ m)]
theorem LeR.at_nz {a b : List Int} (h : LeR a b) {n : Nat} (hb : (b[n]?).getD 0 ≠ 0) : (a[n]?).getD 0 = (b[n]?).getD 0 := by
  rcases h.get n with h | h
  · exact absurd h hb
  · exact h
theorem allT_mono {a b : List Int} {t : Int} (h : LeR a b) (ht : t ≠ 0) (hb : allT t b = true) : allT t a = true := by
  have : a = b := h.eq_of fun x hx => by
    have := List.all_eq_true.1 hb x hx
    have : x = t := by simpa using this
    rw [this]; exact ht
  rw [this]; exact hb
def wayS (v st : List Int) : SS := ⟨true, false, v, st⟩
theorem kinds_mono {w : Wd} {p : Pr} {i : Int × Int} {s t : SS} {a b : List Int} (hv : LeR s.vars t.vars) (h : LeR a b) (hres : i.1 = 10 → p.result ≠ 0)
    (hp : ∀ q, w.procs[i.2.toNat]? = some q → ∀ x ∈ q.params, x ≠ 0) (hn : ∀ q, w.needs[i.2.toNat]? = some q → ∀ x ∈ q.params, x ≠ 0)
    (hk : kindsR w p i t b = true) : kindsR w p i s a = true := by
  unfold kindsR at hk ⊢
  split
  · rename_i h1
    rw [if_pos h1] at hk
    have : (t.vars[i.2.toNat]?).getD 0 ≠ 0 := by simpa using hk
    rw [hv.at_nz this]; exact hk
  rename_i h1
  rw [if_neg h1] at hk
  split
  · rename_i h2
    rw [if_pos h2] at hk
    have : (b[0]?).getD 0 ≠ 0 := by simpa using hk
    rw [h.at_nz this]; exact hk
  rename_i h2
  rw [if_neg h2] at hk
  split
  · rename_i h3
    rw [if_pos h3] at hk
    exact allT_mono h (by decide) hk
  rename_i h3
  rw [if_neg h3] at hk
  split
  · rename_i h4
    rw [if_pos h4] at hk
    have e : b = ((w.procs[i.2.toNat]?).map (·.params)).getD [] := by simpa using hk
    rw [show a = b from h.eq_of fun x hx => by
      rw [e] at hx
      cases hq : w.procs[i.2.toNat]? with
      | none => rw [hq] at hx; simp at hx
      | some q => rw [hq] at hx; exact hp q hq x hx]
    exact hk
  rename_i h4
  rw [if_neg h4] at hk
  split
  · rename_i h5
    rw [if_pos h5] at hk
    have e : b = ((w.needs[i.2.toNat]?).map (·.params)).getD [] := by simpa using hk
    rw [show a = b from h.eq_of fun x hx => by
      rw [e] at hx
      cases hq : w.needs[i.2.toNat]? with
      | none => rw [hq] at hx; simp at hx
      | some q => rw [hq] at hx; exact hn q hq x hx]
    exact hk
  rename_i h5
  rw [if_neg h5] at hk
  split
  · rename_i h6
    rw [if_pos h6] at hk
    exact allT_mono h (hres h6) hk
  rename_i h6
  rw [if_neg h6] at hk
  split
  · rename_i h7
    rw [if_pos h7] at hk
    simp only [Bool.and_eq_true, beq_iff_eq, bne_iff_ne, ne_eq] at hk ⊢
    rw [h.at_nz hk.2, h.at_nz (n := 1) (by rw [← hk.1]; exact hk.2)]
    exact hk
  rename_i h7
  rw [if_neg h7] at hk
  split
  · rename_i h8
    rw [if_pos h8] at hk
    simp only [Bool.or_eq_true] at hk ⊢
    exact hk.imp (allT_mono h (by decide)) (allT_mono h (by decide))
  rename_i h8
  rw [if_neg h8] at hk
  split
  · rename_i h9
    rw [if_pos h9] at hk
    exact allT_mono h (by decide) hk
  rename_i h9
  rw [if_neg h9] at hk
  split
  · rename_i h10
    rw [if_pos h10] at hk
    exact allT_mono h (by decide) hk
  · rfl
structure Taken (w : Wd) (p : Pr) (l : List SS) : Prop where
  pok : POk w p
  clo : Closed w p l
  par : ∀ q ∈ w.procs, ∀ x ∈ q.params, x ≠ 0
  npar : ∀ q ∈ w.needs, ∀ x ∈ q.params, x ≠ 0
  cons : ∀ v ∈ w.consts, v.t ≠ 0
  may : ∀ (k : Nat) (i : Int × Int), p.code[k]? = some i → mayR i.1 i.2 = true
  well : ∀ (k : Nat) (s : SS) (i : Int × Int), l[k]? = some s → p.code[k]? = some i → s.reached = true → metR w p k i s = 0
structure Way (w : Wd) (p : Pr) (l : List SS) (k : Nat) (v st : List Int) : Prop where
  at_ : ∃ t, l[k]? = some t ∧ (wayS v st).le t
theorem Way.begin {w : Wd} {p : Pr} {l : List SS} (h : Taken w p l) : Way w p l 0 (p.params ++ List.replicate (p.locals.toNat - p.params.length) 0) [] := by
  have hl := h.clo.len
  have hp := h.pok.pos
  exact ⟨l[0], List.getElem?_eq_getElem (by omega), h.clo.zero _ (List.getElem?_eq_getElem (by omega))⟩
structure Stand (w : Wd) (p : Pr) (l : List SS) (k : Nat) (v st : List Int) (t : SS) (i : Int × Int) : Prop where
  told : l[k]? = some t
  ins : p.code[k]? = some i
  vars : LeR v t.vars
  stack : LeR st t.stack
  unl : t.unlike = false
  rch : t.reached = true
  wf : t.wf p.locals.toNat
  vlen : v.length = p.locals.toNat
  bad : ¬ badS w i (wayS v st)
  kinds : kindsR w p i (wayS v st) (st.drop (st.length - (effC w v i).1)) = true
  ret : i.1 = 9 → p.result = 0
  give : i.1 = 10 → p.result ≠ 0
  jumps : ∀ x ∈ nextR i k, x < p.code.length
theorem Way.stand {w : Wd} {p : Pr} {l : List SS} {k : Nat} {v st : List Int} (hT : Taken w p l) (h : Way w p l k v st) : ∃ t i, Stand w p l k v st t i := by
  obtain ⟨t, ht, hle⟩ := h.at_
  obtain ⟨hr, hv, hs⟩ := hle rfl
  have hkl := (List.getElem?_eq_some_iff.1 ht).1
  have hl := hT.clo.len
  obtain ⟨i, hi⟩ : ∃ i, p.code[k]? = some i := ⟨_, List.getElem?_eq_getElem (by omega)⟩
  have hm := hT.well k t i ht hi hr
  have hwf := hT.clo.wf t (List.mem_of_getElem? ht)
  unfold metR at hm
  split at hm
  · cases hm
  rename_i hj
  split at hm
  · cases hm
  rename_i hb
  split at hm
  · cases hm
  rename_i hg
  split at hm
  · cases hm
  rename_i hk
  have hu : t.unlike = false := by
    cases hu : t.unlike with
    | false => rfl
    | true => exact absurd (.inl hu) hb
  have hst : LeR st t.stack := by
    rcases hs with hs | ⟨_, _, hs⟩
    · rw [hu] at hs; cases hs
    · exact hs
  have hgive : i.1 = 10 → p.result ≠ 0 := fun e h => hg (.inr ⟨e, h⟩)
  have hret : i.1 = 9 → p.result = 0 := fun e => Decidable.byContradiction fun h => hg (.inl ⟨e, h⟩)
  have he := effC_mono (w := w) (show LeR v t.vars from hv) i
  have hk' : kindsR w p i t (t.stack.drop (t.stack.length - (effC w t.vars i).1)) = true := by simpa using hk
  refine ⟨t, i, ht, hi, hv, hst, hu, hr, hwf, hv.length.trans (hwf.vars hr), ?_, ?_, hret, hgive, fun x hx => ?_⟩
  · intro hbad
    apply hb
    rcases hbad with h' | h' | h'
    · cases h'
    · right; left; rw [← hst.length, ← he.1]; exact h'
    · right; right; rw [← hst.length, ← he.1, ← he.2.length]; exact h'
  · refine kinds_mono (t := t) hv ?_ hgive (fun q hq => hT.par q (List.mem_of_getElem? hq)) (fun q hq => hT.npar q (List.mem_of_getElem? hq)) hk'
    rw [hst.length, he.1]
    exact hst.drop _
  · have : ¬ (nextR i k).any (fun x => decide ((p.code.length : Int) ≤ x)) = true := hj
    rw [List.any_eq_true] at this
    have h2 : ¬ (p.code.length : Int) ≤ x := fun h => this ⟨x, hx, by simpa using h⟩
    omega
theorem Way.go {w : Wd} {p : Pr} {l : List SS} {k : Nat} {v st : List Int} {t : SS} {i : Int × Int} (hT : Taken w p l) (h : Stand w p l k v st t i) {j : Nat} (hj : (j : Int) ∈ nextR i k) :
    Way w p l j (varsR i (wayS v st)) (st.take (st.length - (effC w v i).1) ++ (effC w v i).2) := by
  have hjl := h.jumps _ hj
  have hl := hT.clo.len
  obtain ⟨u, hu⟩ : ∃ u, l[j]? = some u := ⟨_, List.getElem?_eq_getElem (by omega)⟩
  have hle : (wayS v st).le t := fun _ => ⟨h.rch, h.vars, .inr ⟨rfl, h.unl, h.stack⟩⟩
  have hvl : v.length = p.locals.toNat := h.vlen
  have hstl : st.length ≤ 128 := by rw [h.stack.length]; exact h.wf.high
  have hww : (wayS v st).wf p.locals.toNat := ⟨fun e => (by cases e), fun _ => hvl, fun e => (by cases e), hstl⟩
  have h1 := behR_mono (w := w) (i := i) hww h.wf hle
  have h2 := hT.clo.step k i t h.ins h.told h.rch _ hj j u rfl hu
  have h3 := SS.le_trans h1 h2
  unfold behR at h3
  rw [if_neg h.bad] at h3
  exact ⟨u, hu, h3⟩
theorem Stand.next {w : Wd} {p : Pr} {l : List SS} {k : Nat} {v st : List Int} {t : SS} {i : Int × Int} (h : Stand w p l k v st t i) (h9 : i.1 ≠ 9) (h10 : i.1 ≠ 10) :
    (i.1 = 5 → i.2 ∈ nextR i k) ∧ (i.1 = 6 → i.2 ∈ nextR i k) ∧ (i.1 ≠ 5 → ((k + 1 : Nat) : Int) ∈ nextR i k) := by
  unfold nextR
  rw [if_neg (fun h => h.elim h9 h10)]
  refine ⟨fun e => ?_, fun e => ?_, fun e => ?_⟩
  · rw [if_pos e]; simp
  · rw [if_neg (by omega), if_pos e]; simp
  · rw [if_neg e]; split <;> simp
def layR (w : Wd) (v : List Int) (i : Int × Int) : Int :=
  if i.1 = 1 then ((w.consts[i.2.toNat]?).map (·.t)).getD 0
  else if i.1 = 2 then (v[i.2.toNat]?).getD 0
  else if i.1 = 7 then ((w.procs[i.2.toNat]?).map (·.result)).getD 0
  else if i.1 = 8 then ((w.needs[i.2.toNat]?).map (·.result)).getD 0
  else if i.1 = 20 then 3
  else if 12 ≤ i.1 ∧ i.1 ≤ 17 then 2
  else if i.1 = 25 then 2
  else (rowC i.1).lays
end Go.Proofs.YtbfgljcjblfleaaGreatDoor.Gb
namespace Go.Proofs.YtbfgljcjblfleaaGreatDoor.Gb
open Go Go.Proofs Go.MapKept
theorem FIn.all {w : Wd} {p : Pr} {q : Nat} {i : Int × Int} {s0 : SS} : ∀ (xs : List Int) (l : List SS) (T ds : List Int), FIn w p l T q i s0 ds → (∀ x ∈ xs, x ∈ nextR i q ∧ 0 ≤ x) →
    ∃ l' T' ds', FIn w p l' T' q i s0 ds' ∧ (∀ x ∈ xs, x ∈ ds' ∨ (p.code.length : Int) ≤ x) ∧ (∀ x ∈ ds, x ∈ ds') ∧ (sumW p.locals.toNat l' < sumW p.locals.toNat l ∨ (l' = l ∧ T' = T))
  | [], l, T, ds, h, _ => ⟨l, T, ds, h, by simp, fun _ h => h, .inr ⟨rfl, rfl⟩⟩
  | x :: xs, l, T, ds, h, hx => by
    obtain ⟨hxn, hx0⟩ := hx x (List.mem_cons_self ..)
    have hrest : ∀ y ∈ xs, y ∈ nextR i q ∧ 0 ≤ y := fun y hy => hx y (List.mem_cons_of_mem _ hy)
    by_cases hle : (p.code.length : Int) ≤ x
    · obtain ⟨l', T', ds', h1, h2, h3, h4⟩ := FIn.all xs l T ds h hrest
      exact ⟨l', T', ds', h1, fun y hy => by
        rcases List.mem_cons.1 hy with rfl | hy
        · exact .inr hle
        · exact h2 y hy, h3, h4⟩
    obtain ⟨k, rfl⟩ : ∃ k : Nat, x = (k : Int) := ⟨x.toNat, by omega⟩
    have hkl : k < l.length := by rw [h.len]; omega
    have hs : l[k]? = some l[k] := List.getElem?_eq_getElem hkl
    by_cases hj : joinS l[k] (behR w i s0) = l[k]
    · obtain ⟨l', T', ds', h1, h2, h3, h4⟩ := FIn.all xs l T _ (h.same hs hj) hrest
      exact ⟨l', T', ds', h1, fun y hy => by
        rcases List.mem_cons.1 hy with rfl | hy
        · exact .inl (h3 _ (List.mem_cons_self ..))
        · exact h2 y hy, fun y hy => h3 y (List.mem_cons_of_mem _ hy), h4⟩
    · have hri := h.rises hs hj
      obtain ⟨l', T', ds', h1, h2, h3, h4⟩ := FIn.all xs _ ((k : Int) :: T) _ (h.turn hxn hs (T' := (k : Int) :: T) (fun y => by simp [or_comm])) hrest
      refine ⟨l', T', ds', h1, fun y hy => ?_, fun y hy => h3 y (List.mem_cons_of_mem _ hy), .inl ?_⟩
      · rcases List.mem_cons.1 hy with rfl | hy
        · exact .inl (h3 _ (List.mem_cons_self ..))
        · exact h2 y hy
      · rcases h4 with h4 | ⟨h4, _⟩
        · omega
        · rw [h4]; exact hri
theorem least_go {w : Wd} {p : Pr} (hp : POk w p) : ∀ (N M : Nat) (l : List SS) (T : List Int), FInv w p l T → sumW p.locals.toNat l ≤ N → T.length ≤ M → ∃ l', Least w p l' := by
  intro N
  induction N using Nat.strongRecOn with
  | _ N ihN =>
    intro M
    induction M with
    | zero =>
      intro l T h _ hM
      have : T = [] := List.eq_nil_of_length_eq_zero (by omega)
      subst this
      exact ⟨l, h.least⟩
    | succ M ihM =>
      intro l T h hN hM
      cases T with
      | nil => exact ⟨l, h.least⟩
      | cons x T =>
        obtain ⟨q, s, rfl, hs, hr⟩ := h.todo x (List.mem_cons_self ..)
        have hql := (List.getElem?_eq_some_iff.1 hs).1
        rw [h.len] at hql
        obtain ⟨i, hi⟩ : ∃ i, p.code[q]? = some i := ⟨_, List.getElem?_eq_getElem hql⟩
        have h0 := h.into (T' := T) (List.mem_cons_self ..) hi hs (fun y hy => List.mem_cons_of_mem _ hy) (fun y hy hne => (List.mem_cons.1 hy).resolve_left hne)
        have hi0 := (hp.ins q i hi).1
        have hnn : ∀ y ∈ nextR i q, y ∈ nextR i q ∧ 0 ≤ y := fun y hy => ⟨hy, by
          obtain ⟨c, n⟩ := i
          obtain ⟨m, rfl⟩ : ∃ m : Nat, n = (m : Int) := ⟨n.toNat, by dsimp only at hi0; omega⟩
          exact nextR_nonneg hy⟩
        obtain ⟨l', T', ds', h1, h2, _, h4⟩ := FIn.all (nextR i q) l T [] h0 hnn
        have h5 := h1.done h2
        rcases h4 with h4 | ⟨rfl, rfl⟩
        · exact ihN (sumW p.locals.toNat l') (by omega) T'.length l' T' h5 (Nat.le_refl _) (Nat.le_refl _)
        · exact ihM l' T' h5 hN (by simp at hM; omega)
theorem POk.least {w : Wd} {p : Pr} (hp : POk w p) : Least w p (flowOf w p) := by
  obtain ⟨l, h⟩ := least_go hp _ _ _ _ (FInv.first hp.par hp.pos) (Nat.le_refl _) (Nat.le_refl _)
  rw [h.flow]; exact h
theorem typedR_nz {x : Int} (h : typedR x = true) : x ≠ 0 := by
  unfold typedR at h
  simp at h
  omega
theorem headR_nz {ps : List Int} {r : Int} (h : headR ps r = true) : ∀ x ∈ ps, x ≠ 0 := fun x hx => by
  unfold headR at h
  simp only [Bool.and_eq_true] at h
  exact typedR_nz (List.all_eq_true.1 h.1 x hx)
theorem valueR_nz {v : V} (h : valueR v = true) : v.t ≠ 0 := fun e => by
  unfold valueR at h
  rw [e] at h
  simp at h
theorem procR_parts {p : Pr} (h : procR p = true) : headR p.params p.result = true := by
  unfold procR at h
  simp only [Bool.and_eq_true] at h
  exact h.2.1
theorem wrong_zero {w : Wd} {p : Pr} {l : List SS} (h : (wrongR w p l).2 = 0) : ∀ (k : Nat) (s : SS) (i : Int × Int), l[k]? = some s → p.code[k]? = some i → s.reached = true → metR w p k i s = 0 := by
  intro k s i hs hi hr
  unfold wrongR firstR at h
  split at h
  · rename_i j hj
    have := List.find?_some hj
    simp at this
    exact absurd h this
  · rename_i hj
    have := List.find?_eq_none.1 hj k (by simpa using (List.getElem?_eq_some_iff.1 hs).1)
    have h2 : badAt w p l k = 0 := by simpa using this
    unfold badAt at h2
    rw [hs, hi] at h2
    dsimp only at h2
    rwa [if_pos hr] at h2
theorem taken_of {o : Ob} (h : (objAns o).2.2 = 0) {k : Nat} {p : Pr} (hp : o.procs[k]? = some p) : Taken o.wd p (flowOf o.wd p) ∧ Least o.wd p (flowOf o.wd p) := by
  obtain ⟨h1, h2⟩ := objAns_zero h
  have hk := objAns_pok h hp
  have hl := hk.least
  have hz := outAt_zero (w := o.wd) hp (allR_zero h2 k (List.getElem?_eq_some_iff.1 hp).1)
  unfold objR at h1
  simp only [Bool.and_eq_true] at h1
  refine ⟨⟨hk, hl.closed, fun q hq => ?_, fun q hq => ?_, fun v hv => ?_, fun j i hi => ?_, wrong_zero hz.2.2.2⟩, hl⟩
  · obtain ⟨j, hj⟩ := List.getElem?_of_mem hq
    have := outAt_zero (w := o.wd) hj (allR_zero h2 j (List.getElem?_eq_some_iff.1 hj).1)
    exact headR_nz (procR_parts this.1)
  · have := List.all_eq_true.1 h1.2.2.2.2.2 q hq
    unfold needR at this
    simp only [Bool.and_eq_true] at this
    exact headR_nz this.2.2
  · exact valueR_nz (List.all_eq_true.1 h1.2.1 v hv)
  · have := hz.2.2.1 j i hi
    cases hm : mayR i.1 i.2 with
    | true => rfl
    | false => unfold aloneR at this; rw [if_pos hm] at this; cases this
theorem typesR_of {o : Ob} (h : (objAns o).2.2 = 0) {n : Nat} {p : Pr} (hp : o.procs[n]? = some p) {k : Nat} {t : SS} (ht : (flowOf o.wd p)[k]? = some t) : typesE o n k = 0 ∧ typesR o n k = (t.vars, t.stack) := by
  have hnl := (List.getElem?_eq_some_iff.1 hp).1
  have hkl := (List.getElem?_eq_some_iff.1 ht).1
  have hf : findE o n = 0 := by unfold findE; rw [if_neg (by simpa using h), if_neg (by omega)]
  have hs : statesR o n = flowOf o.wd p := by unfold statesR; rw [Int.toNat_natCast, hp]
  have he : typesE o n k = 0 := by unfold typesE; rw [if_neg (by simpa using hf), hs, if_neg (by omega)]
  refine ⟨he, ?_⟩
  unfold typesR
  rw [if_pos he, hs, Int.toNat_natCast, ht]
end Go.Proofs.YtbfgljcjblfleaaGreatDoor.Gb
namespace Go.Proofs.YtbfgljcjblfleaaGreatDoor.Gb
open Go Go.RowKit Go.ChangeShapes Go.WideShapes
section
variable {H : Type} (enc : TypeId × Value → H) (P : Program) (w : World)
def Opens (t : TypeId) {α : Type} (k : Kd α) (B : α → Prop) : Prop :=
  ∀ fuel cs d ps, DataW.trod enc P w 0 (fun _ => true) true fuel t cs = some (d, ps) → (∀ n ∈ d.weights P t, n ≤ reachBytes) → ∃ a, k.K (Gw w) a cs ∧ B a
theorem Opens.mono {t : TypeId} {α : Type} {k : Kd α} {B B' : α → Prop} (h : Opens enc P w t k B) (hb : ∀ a, B a → B' a) : Opens enc P w t k B' :=
  fun fuel cs d ps e hw => let ⟨a, h1, h2⟩ := h fuel cs d ps e hw; ⟨a, h1, hb a h2⟩
theorem Opens.int {t : TypeId} {i : IntKind} (ht : P.underlying t = some (.int i)) : Opens enc P w t (Kd.int i) (fun n => (Lit.int i n).wf = true) :=
  fun fuel cs d ps e _ => let ⟨n, h1, _, h3⟩ := DataW.trod_int ht e; ⟨n, h1, h3⟩
theorem Opens.bool {t : TypeId} (ht : P.underlying t = some .bool) : Opens enc P w t Kd.bool (fun _ => True) :=
  fun fuel cs d ps e _ => let ⟨n, h1, _⟩ := DataW.trod_bool ht e; ⟨n, h1, trivial⟩
theorem Opens.str {t : TypeId} (ht : P.underlying t = some .string) : Opens enc P w t Kd.str (fun s => s.size ≤ 140737488351232) :=
  fun fuel cs d ps e hw => by
    obtain ⟨s, h1, h2, h3⟩ := DataW.trod_string ht e
    obtain ⟨rfl, rfl⟩ := Prod.mk.inj h2
    refine ⟨s, h1, ?_⟩
    have := hw s.data.toList.length (by simp [DataW.weights])
    rw [Array.length_toList] at this
    exact this
theorem weightsAll_mem {e : TypeId} : ∀ {ds : List (DataW H)} {j : Nat} {d : DataW H}, ds[j]? = some d → ∀ n ∈ d.weights P e, n ∈ DataW.weightsAll P e ds
  | d0 :: ds, 0, d, hd, n, hn => by
    simp only [List.getElem?_cons_zero, Option.some.injEq] at hd
    subst hd
    simp only [DataW.weightsAll, List.mem_append]
    exact .inl hn
  | d0 :: ds, j + 1, d, hd, n, hn => by
    simp only [List.getElem?_cons_succ] at hd
    simp only [DataW.weightsAll, List.mem_append]
    exact .inr (weightsAll_mem hd n hn)
  | [], _, _, hd, _, _ => by simp at hd
theorem mapM_cells {a : Addr} : ∀ {l : List Nat} {cs : List Value}, (l.mapM fun i => w.cell? (a.add i)) = some cs → cs.length = l.length ∧ ∀ (j i : Nat) (v : Value), l[j]? = some i → cs[j]? = some v → w.cell? (a.add i) = some v
  | [], cs, h => by
    simp at h; subst h
    exact ⟨rfl, fun j i v e => by simp at e⟩
  | i0 :: l, cs, h => by
    rw [List.mapM_cons] at h
    cases h0 : w.cell? (a.add i0) with
    | none => rw [h0] at h; simp at h
    | some v0 =>
      rw [h0] at h
      cases h1 : l.mapM (fun i => w.cell? (a.add i)) with
      | none => rw [h1] at h; simp at h
      | some cs' =>
        rw [h1] at h
        simp at h
        subst h
        obtain ⟨h2, h3⟩ := mapM_cells h1
        refine ⟨by simp [h2], fun j i v ej ev => ?_⟩
        cases j with
        | zero => simp at ej ev; subst ej ev; exact h0
        | succ j => simp at ej ev; exact h3 j i v ej ev
theorem cells_get {b : Nat} {a : Addr} {n : Nat} {cs : List Value} (h : w.cells? b a n = some cs) : cs.length = n ∧ ∀ (j : Nat) (v : Value), cs[j]? = some v → w.cell? (a.add j) = some v := by
  unfold World.cells? at h
  split at h
  · obtain ⟨h1, h2⟩ := mapM_cells w h
    rw [List.length_range] at h1
    refine ⟨h1, fun j v e => h2 j j v ?_ e⟩
    have hj := (List.getElem?_eq_some_iff.1 e).1
    rw [List.getElem?_range (by omega)]
  · cases h
theorem cell_plain {a : Addr} {v : Value} (h : w.cell? a = some v) : a.spot = none := by
  unfold World.cell? at h
  split at h
  · split at h
    · cases h
    · rename_i hs; simpa using hs
  · cases h
theorem Opens.slice {t e : TypeId} {α : Type} {k : Kd α} {B : α → Prop} (ht : P.underlying t = some (.slice e)) (hc : P.cellsOf e = k.n) (h0 : 0 < k.n) {by_ : Nat} (hby : P.bytesOf e = by_) (h : Opens enc P w e k B) :
    Opens enc P w t (Kd.slice k) (fun xs => xs.length * by_ ≤ 140737488351232 ∧ ∀ x ∈ xs, B x) := by
  subst hby
  intro fuel cs d ps hd hw
  rcases DataW.trod_slice ht hd with ⟨rfl, _⟩ | ⟨a, len, cap, elems, rest, n, _, rfl, hx, _, hl, _, hlen, hel, _, _⟩
  · exact ⟨[], ⟨none, 0, rfl, Nat.le_refl _, Sl.nil _ _ _⟩, by simp, by simp⟩
  · obtain ⟨rfl, rfl⟩ := Prod.mk.inj hx
    have hw1 : (elems.length + rest.length) * P.bytesOf e ≤ reachBytes := by
      have := hw ((elems.map (·.1)).length + (rest.map (·.1)).length |> (· * P.bytesOf e)) (by simp [DataW.weights, ht])
      simpa using this
    have hwe : ∀ (j : Nat) (d' : DataW H), (elems.map (·.1))[j]? = some d' → ∀ n ∈ d'.weights P e, n ≤ reachBytes := fun j d' hj n hn =>
      hw n (by simp only [DataW.weights, ht, List.mem_cons, List.mem_append]; exact .inr (.inl (weightsAll_mem P hj n hn)))
    have one : ∀ i, i < len → ∃ y cs', w.cells? 0 (a.add (i * P.cellsOf e)) (P.cellsOf e) = some cs' ∧ k.K (Gw w) y cs' ∧ B y := by
      intro i hi
      have hi' := hel i hi
      cases hcs : w.cells? 0 (a.add (i * P.cellsOf e)) (P.cellsOf e) with
      | none =>
        rw [hcs, List.getElem?_eq_getElem (by omega)] at hi'
        cases hi'
      | some cs' =>
        rw [hcs, List.getElem?_eq_getElem (by omega : i < elems.length)] at hi'
        simp only [Option.bind_some] at hi'
        obtain ⟨y, h1, h2⟩ := h n cs' _ _ hi' (hwe i _ (by rw [List.getElem?_map, List.getElem?_eq_getElem (by omega : i < elems.length)]; rfl))
        exact ⟨y, cs', rfl, h1, h2⟩
    have all : ∀ m, m ≤ len → ∃ xs : List α, xs.length = m ∧ (∀ x ∈ xs, B x) ∧ ∀ i x, xs[i]? = some x → ∃ cs', w.cells? 0 (a.add (i * P.cellsOf e)) (P.cellsOf e) = some cs' ∧ k.K (Gw w) x cs' := by
      intro m
      induction m with
      | zero => exact fun _ => ⟨[], rfl, by simp, by simp⟩
      | succ m ih =>
        intro hm
        obtain ⟨xs, e1, e2, e3⟩ := ih (by omega)
        obtain ⟨y, cs', h1, h2, h3⟩ := one m (by omega)
        refine ⟨xs ++ [y], by simp [e1], fun x hx => ?_, fun i x hx => ?_⟩
        · rcases List.mem_append.1 hx with hx | hx
          · exact e2 x hx
          · simp at hx; subst hx; exact h3
        · rcases Nat.lt_or_ge i xs.length with hi | hi
          · rw [List.getElem?_append_left hi] at hx; exact e3 i x hx
          · have : i = m := by have := (List.getElem?_eq_some_iff.1 hx).1; simp at this; omega
            subst this
            rw [List.getElem?_append_right hi] at hx
            simp [e1] at hx
            subst hx
            exact ⟨cs', h1, h2⟩
    obtain ⟨xs, e1, e2, e3⟩ := all len (Nat.le_refl _)
    refine ⟨xs, ⟨some a, cap, by rw [e1], by omega, fun i x hx => ?_⟩, ?_, e2⟩
    · have hi := (List.getElem?_eq_some_iff.1 hx).1
      obtain ⟨cs0, h10, h20⟩ := e3 0 _ (List.getElem?_eq_getElem (by omega : 0 < xs.length))
      obtain ⟨h30, h40⟩ := cells_get w h10
      have hsp := cell_plain w (h40 0 _ (List.getElem?_eq_getElem (by rw [h30, hc]; exact h0)))
      obtain ⟨cs', h1, h2⟩ := e3 i x hx
      obtain ⟨h3, h4⟩ := cells_get w h1
      obtain ⟨ab, ao, asp⟩ := a
      obtain rfl : asp = none := by simpa [Addr.add] using hsp
      refine ⟨ab, ao, cs', rfl, h2, fun j v e => ?_⟩
      have h5 := h4 j v e
      rw [hc] at h5
      have e5 : ((⟨ab, ao, none⟩ : Addr).add (i * k.n)).add j = ⟨ab, ao + i * k.n + j, none⟩ := by
        unfold Addr.add
        split <;> split <;> simp_all
      rw [e5] at h5
      exact h5
    · rw [e1, ← hlen]
      exact Nat.le_trans (Nat.mul_le_mul_right _ (Nat.le_add_right _ _)) hw1
end
theorem Kept.same {W W' : World} (h : Kept W W') {p : MemPlace} (hp : p.block < W.heap.size) : W.sameAt W' p := by
  cases p with
  | cell b o => exact World.cell?_of_block (w := W) (h.heap b hp)
  | map b => exact h.heap b hp
theorem Kept.trod {H : Type} {enc : TypeId × Value → H} {P : Program} {t : TypeId} (hl : laidOutB P = true) (hr : P.readableRec t = true) (hrow : t < P.types.size) {W W' : World} {v : Value} {d : DataW H} {ps : List MemPlace}
    (h : DataW.Trod enc P W 0 (fun _ => true) true t v d ps) (hb : Kept W W') :
    DataW.Trod enc P W' 0 (fun b => decide (b < W.heap.size)) true t v d ps := by
  have hlt : ∀ x ∈ ps, x.block < W.heap.size := by obtain ⟨m, hm⟩ := h; exact DataW.trod_lt m _ _ _ hm
  exact WideElems.Trod_stays hl hr hrow h (fun x hx => hb.same (hlt x hx)) (fun x hx => by simpa using hlt x hx)
end Go.Proofs.YtbfgljcjblfleaaGreatDoor.Gb
namespace Go.Proofs.YtbfgljcjblfleaaGreatDoor.Gb
open Go Go.Proofs Go.RowKit Go.ChangeShapes Go.WideShapes
section
variable {H : Type} (enc : TypeId × Value → H) (P : Program) (w : World)
end
end Go.Proofs.YtbfgljcjblfleaaGreatDoor.Gb
namespace Go.Proofs.YtbfgljcjblfleaaGreatDoor.Gb
open Go Go.Proofs Go.MapKept
attribute [local irreducible] Tryz.prog
def pS : Pr := ⟨⟨#[102]⟩, false, [], 0, 1, [(1, 0), (10, 0)]⟩
def vS : V := ⟨1, 5, false, ⟨#[]⟩⟩
def vT : V := ⟨2, 0, true, ⟨#[]⟩⟩
def oS (v : V) : Ob := ⟨⟨#[97]⟩, [v], [], [pS]⟩
def lS (t : Int) : List SS := [⟨true, false, [], []⟩, ⟨true, false, [], [t]⟩]
end Go.Proofs.YtbfgljcjblfleaaGreatDoor.Gb
namespace Go.Proofs.YtbfgljcjblfleaaGreatDoor.Gb
open Go Go.Proofs
section
variable {L : List (Nat × Value)} {d : Option Tmp} {ty : TypeId} {pos : String} {af : Array Edge} {gu : Option (Nat × Bool)}
end
end Go.Proofs.YtbfgljcjblfleaaGreatDoor.Gb
namespace Go.Proofs.YtbfgljcjblfleaaGreatDoor.Gb
open Go Go.Proofs Go.MapKept
attribute [local irreducible] Tryz.prog
theorem WL.freezeC {P : Program} {Q : Exit → Act → World → Prop} {cx : Cx} {L : List (Nat × Value)} {G : Gh} {H : List Own} {ops : Array Oper} {rest : List Oper} {j b : Nat} {c : Array Value} {T : TypeId} {cs : List Value} (hj : At H j (.blk b (.cells c T (0, 0)))) (hc : c.toList = cs) (h : ∀ G', G.le G' → Cs G' b 0 cs → WL P ops Q rest cx L G' (H.eraseIdx j)) : WL P ops Q rest cx L G H :=
  WK.freezeC (K := fun a w => wpList P ops Q rest a w) hj hc h
end Go.Proofs.YtbfgljcjblfleaaGreatDoor.Gb
namespace Go.Proofs.YtbfgljcjblfleaaGreatDoor.Gb
open Go Go.Proofs Go.MapKept
attribute [local irreducible] Tryz.prog
end Go.Proofs.YtbfgljcjblfleaaGreatDoor.Gb
namespace Go.Proofs.YtbfgljcjblfleaaGreatDoor.Gb
open Go Go.Proofs
attribute [local irreducible] Tryz.prog
theorem gSyn : Tryz.prog.globalNamed "strconv.ErrSyntax" = some 1 := by kernel_rfl
theorem gRng : Tryz.prog.globalNamed "strconv.ErrRange" = some 2 := by kernel_rfl
theorem cell_of_iface {W : World} {n nm : String} {g t : Nat} {ms : Array (String × TypeId)} {d : DataW Unit} (hg : Tryz.prog.globalNamed n = some g) (ht : (Tryz.prog.globals[g]?).map (·.type) = some t) (hu : Tryz.prog.underlying t = some (.interface ms)) (h : Lib.VarReads Tryz.prog W n (.iface nm d)) :
    ∃ te pe, Gw W g 0 = some (.iface te pe) := by
  obtain ⟨g', t', cs, fuel, p, h1, h2, h3, h4⟩ := h
  obtain rfl := Option.some.inj (hg.symm.trans h1)
  obtain rfl := Option.some.inj (ht.symm.trans h2)
  obtain ⟨_, u, v, hc, _⟩ := iface_of_trod hu h4
  refine ⟨u, v, ?_⟩
  have := World.var?_cell h1 h3 0
  unfold Gw
  rw [this, ← Array.getElem?_toList, hc]; rfl
theorem tSyn : (Tryz.prog.globals[1]?).map (·.type) = some 167 := by kernel_rfl
theorem tRng : (Tryz.prog.globals[2]?).map (·.type) = some 167 := by kernel_rfl
theorem uErr : Tryz.prog.underlying 167 = some (.interface (Tryz.prog.methodsAt 167)) := by kernel_rfl
theorem tTab : (Tryz.prog.globals[3]?).map (·.type) = some 203 := by kernel_rfl
theorem ex_of {W : World} (h : Lib.VarReads Tryz.prog W "internal/strconv.uint64pow10" Rows.laid_internal_strconv_uint64pow10) : Ex (covs []) W := by
  obtain ⟨g', t', cs, fuel, p, h1, h2, h3, h4⟩ := h
  obtain rfl := Option.some.inj (gTab.symm.trans h1)
  obtain rfl := Option.some.inj (tTab.symm.trans h2)
  have hc := Lib.cells_of_tab (k := .u64) (zs := Lib.pow10Tab) (show Tryz.prog.underlying 203 = some (.array 20 185) by kernel_rfl) (by kernel_rfl) (by kernel_rfl) (by kernel_rfl) h4
  intro q hq
  obtain rfl : q = (3, _) := by simpa [exL] using hq
  refine ⟨?_, fun o ⟨x, hx, _⟩ => by cases hx⟩
  unfold World.var? at h3
  rw [gTab] at h3
  simp only [Option.bind_some] at h3
  cases ho : W.heap[3]? with
  | none => rw [ho] at h3; cases h3
  | some ob =>
    rw [ho] at h3
    cases ob <;> simp at h3
    rename_i c T fr
    subst h3
    exact ⟨T, fr, by rw [show c = (Lib.pow10Tab.map fun z => Value.int .u64 z).toArray from Array.toList_inj.1 hc]; rfl⟩
theorem env_of {W : World} (h1 : Lib.VarReads Tryz.prog W "strconv.ErrSyntax" Rows.laid_strconv_ErrSyntax) (h2 : Lib.VarReads Tryz.prog W "strconv.ErrRange" Rows.laid_strconv_ErrRange) (hs : W.ShapedOpen Tryz.prog) : Env (Gw W) where
  syn := cell_of_iface gSyn tSyn uErr h1
  rng := cell_of_iface gRng tRng uErr h2
  mxl := by
    have h := cell_of_shapedOpen_int (P := Tryz.prog) (w := W) (g := 0) (t := 3) (zero := #[.int .i64 0]) (k := .i64) hs (of_decide_eq_true (by kernel_rfl)) (by kernel_rfl) rfl (by kernel_rfl) (by kernel_rfl) (by kernel_rfl)
    obtain ⟨m, hm⟩ := h
    exact ⟨m, hm⟩
end Go.Proofs.YtbfgljcjblfleaaGreatDoor.Gb
namespace Go.Proofs.YtbfgljcjblfleaaGreatDoor.Gb
open Go Go.Proofs Go.RowKit Go.ChangeShapes Go.WideShapes Go.MapKept
theorem bulk_part {H : Type} {d : DataW H} {l : List (DataW H)} (h : d ∈ l) : Rows.uptoBulk d ≤ Rows.uptoBulkAll l := by
  induction l with
  | nil => cases h
  | cons x r ih =>
    simp only [Rows.uptoBulkAll]
    rcases List.mem_cons.1 h with rfl | h
    · omega
    · have := ih h; omega
theorem bulk_one {H : Type} (d : DataW H) : 1 ≤ Rows.uptoBulk d := by
  cases d with
  | lit l => cases l <;> simp [Rows.uptoBulk]
  | nil => simp [Rows.uptoBulk]
  | ptr d => simp [Rows.uptoBulk]
  | slice elems spare => simp [Rows.uptoBulk]
  | agg parts => simp [Rows.uptoBulk]
  | iface t d => simp [Rows.uptoBulk]
  | map entries => simp [Rows.uptoBulk]
  | held h => simp [Rows.uptoBulk]
theorem bulk_length {H : Type} (l : List (DataW H)) : l.length ≤ Rows.uptoBulkAll l := by
  induction l with
  | nil => simp [Rows.uptoBulkAll]
  | cons x r ih => have := bulk_one x; simp only [Rows.uptoBulkAll, List.length_cons]; omega
theorem bulk_of {H : Type} {l : List (DataW H)} (h : Rows.uptoSmall H l = true) {d : DataW H} (hd : d ∈ l) : Rows.uptoBulk d ≤ 1048576 :=
  Nat.le_trans (bulk_part hd) (of_decide_eq_true h)
section
variable {H : Type} (enc : TypeId × Value → H) (P : Program) (w : World)
def OpensU (t : TypeId) {α : Type} (k : Kd α) (B : α → Prop) : Prop :=
  ∀ fuel cs d ps, DataW.trod enc P w 0 (fun _ => true) true fuel t cs = some (d, ps) → Rows.uptoBulk d ≤ 1048576 → ∃ a, k.K (Gw w) a cs ∧ B a
theorem OpensU.int {t : TypeId} {i : IntKind} (ht : P.underlying t = some (.int i)) : OpensU enc P w t (Kd.int i) (fun n => (Lit.int i n).wf = true) :=
  fun fuel cs d ps e _ => let ⟨n, h1, _, h3⟩ := DataW.trod_int ht e; ⟨n, h1, h3⟩
theorem OpensU.bool {t : TypeId} (ht : P.underlying t = some .bool) : OpensU enc P w t Kd.bool (fun _ => True) :=
  fun fuel cs d ps e _ => let ⟨n, h1, _⟩ := DataW.trod_bool ht e; ⟨n, h1, trivial⟩
theorem OpensU.str {t : TypeId} (ht : P.underlying t = some .string) : OpensU enc P w t Kd.str (fun s => s.size ≤ 1048576) :=
  fun fuel cs d ps e hw => by
    obtain ⟨s, h1, h2, h3⟩ := DataW.trod_string ht e
    obtain ⟨rfl, rfl⟩ := Prod.mk.inj h2
    refine ⟨s, h1, ?_⟩
    simp only [Rows.uptoBulk, Array.length_toList] at hw
    show s.data.size ≤ 1048576
    omega
theorem OpensU.slice {t e : TypeId} {α : Type} {k : Kd α} {B : α → Prop} (ht : P.underlying t = some (.slice e)) (hc : P.cellsOf e = k.n) (h0 : 0 < k.n) (h : OpensU enc P w e k B) :
    OpensU enc P w t (Kd.slice k) (fun xs => xs.length ≤ 1048576 ∧ ∀ x ∈ xs, B x) := by
  intro fuel cs d ps hd hw
  rcases DataW.trod_slice ht hd with ⟨rfl, _⟩ | ⟨a, len, cap, elems, rest, n, _, rfl, hx, _, hl, _, hlen, hel, _, _⟩
  · exact ⟨[], ⟨none, 0, rfl, Nat.le_refl _, Sl.nil _ _ _⟩, by simp, by simp⟩
  · obtain ⟨rfl, rfl⟩ := Prod.mk.inj hx
    simp only [Rows.uptoBulk] at hw
    have hlb := bulk_length (elems.map (·.1))
    rw [List.length_map] at hlb
    have hwe : ∀ (j : Nat) (d' : DataW H), (elems.map (·.1))[j]? = some d' → Rows.uptoBulk d' ≤ 1048576 := fun j d' hj => by
      have := bulk_part (List.mem_of_getElem? hj); omega
    have one : ∀ i, i < len → ∃ y cs', w.cells? 0 (a.add (i * P.cellsOf e)) (P.cellsOf e) = some cs' ∧ k.K (Gw w) y cs' ∧ B y := by
      intro i hi
      have hi' := hel i hi
      cases hcs : w.cells? 0 (a.add (i * P.cellsOf e)) (P.cellsOf e) with
      | none =>
        rw [hcs, List.getElem?_eq_getElem (by omega)] at hi'
        cases hi'
      | some cs' =>
        rw [hcs, List.getElem?_eq_getElem (by omega : i < elems.length)] at hi'
        simp only [Option.bind_some] at hi'
        obtain ⟨y, h1, h2⟩ := h n cs' _ _ hi' (hwe i _ (by rw [List.getElem?_map, List.getElem?_eq_getElem (by omega : i < elems.length)]; rfl))
        exact ⟨y, cs', rfl, h1, h2⟩
    have all : ∀ m, m ≤ len → ∃ xs : List α, xs.length = m ∧ (∀ x ∈ xs, B x) ∧ ∀ i x, xs[i]? = some x → ∃ cs', w.cells? 0 (a.add (i * P.cellsOf e)) (P.cellsOf e) = some cs' ∧ k.K (Gw w) x cs' := by
      intro m
      induction m with
      | zero => exact fun _ => ⟨[], rfl, by simp, by simp⟩
      | succ m ih =>
        intro hm
        obtain ⟨xs, e1, e2, e3⟩ := ih (by omega)
        obtain ⟨y, cs', h1, h2, h3⟩ := one m (by omega)
        refine ⟨xs ++ [y], by simp [e1], fun x hx => ?_, fun i x hx => ?_⟩
        · rcases List.mem_append.1 hx with hx | hx
          · exact e2 x hx
          · simp at hx; subst hx; exact h3
        · rcases Nat.lt_or_ge i xs.length with hi | hi
          · rw [List.getElem?_append_left hi] at hx; exact e3 i x hx
          · have : i = m := by have := (List.getElem?_eq_some_iff.1 hx).1; simp at this; omega
            subst this
            rw [List.getElem?_append_right hi] at hx
            simp [e1] at hx
            subst hx
            exact ⟨cs', h1, h2⟩
    obtain ⟨xs, e1, e2, e3⟩ := all len (Nat.le_refl _)
    refine ⟨xs, ⟨some a, cap, by rw [e1], by omega, fun i x hx => ?_⟩, by omega, e2⟩
    have hi := (List.getElem?_eq_some_iff.1 hx).1
    obtain ⟨cs0, h10, h20⟩ := e3 0 _ (List.getElem?_eq_getElem (by omega : 0 < xs.length))
    obtain ⟨h30, h40⟩ := cells_get w h10
    have hsp := cell_plain w (h40 0 _ (List.getElem?_eq_getElem (by rw [h30, hc]; exact h0)))
    obtain ⟨cs', h1, h2⟩ := e3 i x hx
    obtain ⟨h3, h4⟩ := cells_get w h1
    obtain ⟨ab, ao, asp⟩ := a
    obtain rfl : asp = none := by simpa [Addr.add] using hsp
    refine ⟨ab, ao, cs', rfl, h2, fun j v e => ?_⟩
    have h5 := h4 j v e
    rw [hc] at h5
    have e5 : ((⟨ab, ao, none⟩ : Addr).add (i * k.n)).add j = ⟨ab, ao + i * k.n + j, none⟩ := by
      unfold Addr.add
      split <;> split <;> simp_all
    rw [e5] at h5
    exact h5
theorem field_openU {t : TypeId} {fs : Array Field} {fuel : Nat} {cs : List Value} {d : DataW H} {ps : List MemPlace} (ht : P.underlying t = some (.struct fs)) (hd : DataW.trod enc P w 0 (fun _ => true) true fuel t cs = some (d, ps)) (hw : Rows.uptoBulk d ≤ 1048576) :
    cs.length = P.cellsOf t ∧ ∀ (i : Nat) (f : Field), fs[i]? = some f → ∀ {t' o n : Nat}, f.type = t' → f.offset = o → P.cellsOf t' = n → ∀ {α : Type} {k : Kd α} {B : α → Prop}, OpensU enc P w t' k B → ∃ a, k.K (Gw w) a ((cs.drop o).take n) ∧ B a := by
  obtain ⟨xs, n, _, hx, hl, hn, hf⟩ := DataW.trod_struct ht hd
  obtain ⟨rfl, rfl⟩ := Prod.mk.inj hx
  refine ⟨hl, fun i f hi t' o n' e1 e2 e3 α k B hO => ?_⟩
  subst e1 e2 e3
  have h1 := hf i f hi
  have hilt : i < xs.length := by rw [hn]; exact (Array.getElem?_eq_some_iff.1 hi).1
  rw [List.getElem?_eq_getElem hilt] at h1
  refine hO n _ _ _ h1 ?_
  simp only [Rows.uptoBulk] at hw
  exact Nat.le_trans (bulk_part (l := xs.map (·.1)) (d := (xs[i]).1) (List.mem_map.2 ⟨_, List.getElem_mem hilt, rfl⟩)) (by omega)
theorem open_sliceU {t e : TypeId} {α : Type} {k : Kd α} {B : α → Prop} (ht : P.underlying t = some (.slice e)) (hc : P.cellsOf e = k.n) (h0 : 0 < k.n) (h : OpensU enc P w e k B)
    {v : Value} {d : DataW H} {ps : List MemPlace} {base : Nat} (hval : Value.okWide P w .any base t v) (hd : DataW.Trod enc P w 0 (fun _ => true) true t v d ps) (hw : Rows.uptoBulk d ≤ 1048576) :
    ∃ (A : Option Addr) (cap : Nat) (xs : List α), v = .slice A xs.length cap ∧ xs.length ≤ cap ∧ Sl k (Gw w) A xs ∧ xs.length ≤ 1048576 ∧ ∀ x ∈ xs, B x := by
  obtain ⟨A, len, cap, rfl⟩ := okWide_slice ht hval
  obtain ⟨fuel, hd⟩ := hd
  obtain ⟨xs, ⟨A', cap', h1, hle, h2⟩, h3, h4⟩ := OpensU.slice enc P w ht hc h0 h fuel _ d ps hd hw
  have e1 : [Value.slice A len cap] = [Value.slice A' xs.length cap'] := h1
  cases e1
  exact ⟨_, _, xs, rfl, hle, h2, h3, h4⟩
end
theorem witness_row {H : Type} {enc : TypeId × Value → H} {C : Checked} {os : Os} {f : FuncId} {fn : Func} {s : OpenSpec} {conds : List PathCond} {apart : Bool} {laid : List (String × DataW Unit)} (modest : Bool) (w0 : World) (args : Array Value) (hos : w0.os = os)
    (hsh : (w0.forCall (fun _ _ => 0) ⟨#[], args, []⟩).Shaped C.prog) (hok : Input.okWideB C.prog (w0.forCall (fun _ _ => 0) ⟨#[], args, []⟩) f ⟨#[], args, []⟩ = true)
    (hrow : s.preRow enc C.prog fn conds apart laid (w0.forCall (fun _ _ => 0) ⟨#[], args, []⟩).memory args) :
    ∃ (w : World) (tape : Tape) (i : Input), w.os = os ∧ (w.forCall tape i).Shaped C.prog ∧ i.vars = [] ∧ Input.okWide C.prog (w.forCall tape i) .any w.heap.size f i ∧
      s.preRow enc C.prog fn conds apart laid (w.forCall tape i).memory i.args ∧ ({ modest := modest } : Assume).holds C.prog (lone (Frame.enter C.prog f i.args .normal) [] (w.forCall tape i)) :=
  ⟨w0, fun _ _ => 0, ⟨#[], args, []⟩, hos, hsh, (Input.okWide_of_okWideB (base := 0) hok).1, (Input.okWide_of_okWideB hok).2, hrow, by
    simp only [Assume.holds]
    exact ⟨by simp, by simp, fun _ => Modest.zero, by simp, by simp⟩⟩
theorem elist2 {α : Type} {l : List α} (h : l.length = 2) : ∃ a b, l = [a, b] := match l, h with | [a, b], _ => ⟨a, b, rfl⟩
theorem elist4 {α : Type} {l : List α} (h : l.length = 4) : ∃ a b c d, l = [a, b, c, d] := match l, h with | [a, b, c, d], _ => ⟨a, b, c, d, rfl⟩
theorem elist6 {α : Type} {l : List α} (h : l.length = 6) : ∃ a b c d e f, l = [a, b, c, d, e, f] := match l, h with | [a, b, c, d, e, f], _ => ⟨a, b, c, d, e, f, rfl⟩
theorem ecellsV : Tryz.prog.cellsOf 49 = 4 := by kernel_rfl
theorem ecellsI : Tryz.prog.cellsOf 97 = 2 := by kernel_rfl
theorem ecellsP : Tryz.prog.cellsOf 65 = 6 := by kernel_rfl
theorem ecellsN : Tryz.prog.cellsOf 93 = 4 := by kernel_rfl
theorem ecellsO : Tryz.prog.cellsOf 26 = 4 := by kernel_rfl
theorem ecells_int : Tryz.prog.cellsOf 3 = 1 := by kernel_rfl
theorem ecells_typ : Tryz.prog.cellsOf 47 = 1 := by kernel_rfl
theorem ecells_cod : Tryz.prog.cellsOf 62 = 1 := by kernel_rfl
theorem ecells_i64 : Tryz.prog.cellsOf 2 = 1 := by kernel_rfl
theorem ecells_bool : Tryz.prog.cellsOf 4 = 1 := by kernel_rfl
theorem ecells_str : Tryz.prog.cellsOf 9 = 1 := by kernel_rfl
theorem ecells_lv : Tryz.prog.cellsOf 22 = 1 := by kernel_rfl
theorem ecells_ln : Tryz.prog.cellsOf 23 = 1 := by kernel_rfl
theorem ecells_lp : Tryz.prog.cellsOf 24 = 1 := by kernel_rfl
theorem ecells_li : Tryz.prog.cellsOf 63 = 1 := by kernel_rfl
theorem ecells_lt : Tryz.prog.cellsOf 41 = 1 := by kernel_rfl
section
attribute [local irreducible] Tryz.prog
variable {H : Type} (enc : TypeId × Value → H) (w : World)
theorem OpensU.value : OpensU enc Tryz.prog w 49 Kd.val (fun v => v.s.size ≤ 1048576) := by
  intro fuel cs d ps hd hw
  obtain ⟨hl, hf⟩ := field_openU enc Tryz.prog w Tryz.underlying49 hd hw
  obtain ⟨c0, c1, c2, c3, rfl⟩ := elist4 (hl.trans ecellsV)
  obtain ⟨t, h0, _⟩ := hf 0 _ rfl rfl rfl ecells_typ (OpensU.int enc Tryz.prog w Tryz.underlying47)
  obtain ⟨i, h1, _⟩ := hf 1 _ rfl rfl rfl ecells_i64 (OpensU.int enc Tryz.prog w Tryz.underlying2)
  obtain ⟨b, h2, _⟩ := hf 2 _ rfl rfl rfl ecells_bool (OpensU.bool enc Tryz.prog w Tryz.underlying4)
  obtain ⟨s, h3, hs⟩ := hf 3 _ rfl rfl rfl ecells_str (OpensU.str enc Tryz.prog w Tryz.underlying9)
  have e0 : [c0] = [Value.int .i64 t] := h0
  have e1 : [c1] = [Value.int .i64 i] := h1
  have e2 : [c2] = [Value.bool b] := h2
  have e3 : [c3] = [Value.string s] := h3
  cases e0; cases e1; cases e2; cases e3
  exact ⟨⟨t, i, b, s⟩, rfl, hs⟩
theorem OpensU.instr : OpensU enc Tryz.prog w 97 Kd.ins (fun _ => True) := by
  intro fuel cs d ps hd hw
  obtain ⟨hl, hf⟩ := field_openU enc Tryz.prog w Tryz.underlying97 hd hw
  obtain ⟨c0, c1, rfl⟩ := elist2 (hl.trans ecellsI)
  obtain ⟨c, h0, _⟩ := hf 0 _ rfl rfl rfl ecells_cod (OpensU.int enc Tryz.prog w Tryz.underlying62)
  obtain ⟨n, h1, _⟩ := hf 1 _ rfl rfl rfl ecells_int (OpensU.int enc Tryz.prog w Tryz.underlying3)
  have e0 : [c0] = [Value.int .i64 c] := h0
  have e1 : [c1] = [Value.int .i64 n] := h1
  cases e0; cases e1
  exact ⟨(c, n), rfl, trivial⟩
theorem OpensU.proc : OpensU enc Tryz.prog w 65 Kd.prc (fun p => p.name.size ≤ 1048576 ∧ p.params.length ≤ 1048576 ∧ p.code.length ≤ 1048576) := by
  intro fuel cs d ps hd hw
  obtain ⟨hl, hf⟩ := field_openU enc Tryz.prog w Tryz.underlying65 hd hw
  obtain ⟨c0, c1, c2, c3, c4, c5, rfl⟩ := elist6 (hl.trans ecellsP)
  obtain ⟨nm, h0, hnm⟩ := hf 0 _ rfl rfl rfl ecells_str (OpensU.str enc Tryz.prog w Tryz.underlying9)
  obtain ⟨ex, h1, _⟩ := hf 1 _ rfl rfl rfl ecells_bool (OpensU.bool enc Tryz.prog w Tryz.underlying4)
  obtain ⟨pr, h2, hp⟩ := hf 2 _ rfl rfl rfl ecells_lt (OpensU.slice enc Tryz.prog w Tryz.underlying41 (k := Kd.int .i64) ecells_typ (by decide) (OpensU.int enc Tryz.prog w Tryz.underlying47))
  obtain ⟨lo, h3, _⟩ := hf 3 _ rfl rfl rfl ecells_int (OpensU.int enc Tryz.prog w Tryz.underlying3)
  obtain ⟨re, h4, _⟩ := hf 4 _ rfl rfl rfl ecells_typ (OpensU.int enc Tryz.prog w Tryz.underlying47)
  obtain ⟨co, h5, hc⟩ := hf 5 _ rfl rfl rfl ecells_li (OpensU.slice enc Tryz.prog w Tryz.underlying63 (k := Kd.ins) ecellsI (by decide) (OpensU.instr enc w))
  obtain ⟨PA, pc, h2', _, hPA⟩ := h2
  obtain ⟨CA, cc, h5', _, hCA⟩ := h5
  have e0 : [c0] = [Value.string nm] := h0
  have e1 : [c1] = [Value.bool ex] := h1
  have e2 : [c2] = [Value.slice PA pr.length pc] := h2'
  have e3 : [c3] = [Value.int .i64 lo] := h3
  have e4 : [c4] = [Value.int .i64 re] := h4
  have e5 : [c5] = [Value.slice CA co.length cc] := h5'
  cases e0; cases e1; cases e2; cases e3; cases e4; cases e5
  exact ⟨⟨nm, ex, pr, lo, re, co⟩, ⟨PA, pc, CA, cc, rfl, hPA, hCA⟩, hnm, hp.1, hc.1⟩
theorem OpensU.need : OpensU enc Tryz.prog w 93 Kd.ned (fun q => q.path.size ≤ 1048576 ∧ q.name.size ≤ 1048576 ∧ q.params.length ≤ 1048576) := by
  intro fuel cs d ps hd hw
  obtain ⟨hl, hf⟩ := field_openU enc Tryz.prog w Tryz.underlying93 hd hw
  obtain ⟨c0, c1, c2, c3, rfl⟩ := elist4 (hl.trans ecellsN)
  obtain ⟨pt, h0, hpt⟩ := hf 0 _ rfl rfl rfl ecells_str (OpensU.str enc Tryz.prog w Tryz.underlying9)
  obtain ⟨nm, h1, hnm⟩ := hf 1 _ rfl rfl rfl ecells_str (OpensU.str enc Tryz.prog w Tryz.underlying9)
  obtain ⟨pr, h2, hp⟩ := hf 2 _ rfl rfl rfl ecells_lt (OpensU.slice enc Tryz.prog w Tryz.underlying41 (k := Kd.int .i64) ecells_typ (by decide) (OpensU.int enc Tryz.prog w Tryz.underlying47))
  obtain ⟨re, h3, _⟩ := hf 3 _ rfl rfl rfl ecells_typ (OpensU.int enc Tryz.prog w Tryz.underlying47)
  obtain ⟨PA, pc, h2', _, hPA⟩ := h2
  have e0 : [c0] = [Value.string pt] := h0
  have e1 : [c1] = [Value.string nm] := h1
  have e2 : [c2] = [Value.slice PA pr.length pc] := h2'
  have e3 : [c3] = [Value.int .i64 re] := h3
  cases e0; cases e1; cases e2; cases e3
  exact ⟨⟨pt, nm, pr, re⟩, ⟨PA, pc, rfl, hPA⟩, hpt, hnm, hp.1⟩
theorem open_objU {v : Value} {d : DataW H} {ps : List MemPlace} {base : Nat} (hval : Value.okWide Tryz.prog w .any base 26 v) (hd : DataW.Trod enc Tryz.prog w 0 (fun _ => true) true 26 v d ps) (hw : Rows.uptoBulk d ≤ 1048576) :
    ∃ (o : Ob) (CA NA PA : Option Addr) (cc nc pc : Nat), v = .agg (obC o CA NA PA cc nc pc) ∧ ORep (Gw w) o CA NA PA ∧ OLim o := by
  obtain ⟨cells, rfl, _⟩ := okWide_struct Tryz.underlying26 hval
  obtain ⟨fuel, hd⟩ := hd
  obtain ⟨hl, hf⟩ := field_openU enc Tryz.prog w Tryz.underlying26 hd hw
  have hcl : (Value.agg cells).cells.toList = cells.toList := rfl
  rw [hcl] at hl hf
  obtain ⟨c0, c1, c2, c3, hcs⟩ := elist4 (hl.trans ecellsO)
  rw [hcs] at hf
  obtain ⟨pt, h0, hpt⟩ := hf 0 _ rfl rfl rfl ecells_str (OpensU.str enc Tryz.prog w Tryz.underlying9)
  obtain ⟨co, h1, hc⟩ := hf 1 _ rfl rfl rfl ecells_lv (OpensU.slice enc Tryz.prog w Tryz.underlying22 (k := Kd.val) ecellsV (by decide) (OpensU.value enc w))
  obtain ⟨ne, h2, hn⟩ := hf 2 _ rfl rfl rfl ecells_ln (OpensU.slice enc Tryz.prog w Tryz.underlying23 (k := Kd.ned) ecellsN (by decide) (OpensU.need enc w))
  obtain ⟨pr, h3, hp⟩ := hf 3 _ rfl rfl rfl ecells_lp (OpensU.slice enc Tryz.prog w Tryz.underlying24 (k := Kd.prc) ecellsP (by decide) (OpensU.proc enc w))
  obtain ⟨CA, cc, h1', _, hCA⟩ := h1
  obtain ⟨NA, nc, h2', _, hNA⟩ := h2
  obtain ⟨PA, pc, h3', _, hPA⟩ := h3
  have e0 : [c0] = [Value.string pt] := h0
  have e1 : [c1] = [Value.slice CA co.length cc] := h1'
  have e2 : [c2] = [Value.slice NA ne.length nc] := h2'
  have e3 : [c3] = [Value.slice PA pr.length pc] := h3'
  cases e0; cases e1; cases e2; cases e3
  refine ⟨⟨pt, co, ne, pr⟩, CA, NA, PA, cc, nc, pc, ?_, ⟨hCA, hNA, hPA⟩, ⟨?_, ?_, ?_, ?_, fun q hq => ?_, fun q hq => ?_⟩⟩
  · unfold obC
    congr 1
    cases cells
    simp at hcs
    rw [hcs]
  · dsimp only; omega
  · have := hc.1; dsimp only; omega
  · have := hn.1; dsimp only; omega
  · have := hp.1; dsimp only; omega
  · have := hn.2 q hq; omega
  · have := hp.2 q hq; omega
end
end Go.Proofs.YtbfgljcjblfleaaGreatDoor.Gb
namespace Go.Proofs.YtbfgljcjblfleaaGreatDoor.Gb
open Go Go.Proofs
attribute [local irreducible] Tryz.prog
theorem clone_vals (G : Gh) (H : List Own) (A : Option Addr) (n cap : Nat) (cs : List Value) (hr : Rds G H A cs) (hl : cs.length = n * 4) (h1 : cs.all (·.oneCell') = true) (hA : A = none → n = 0) (hb : n * 40 ≤ 140737488355328) :
    Fn Tryz.prog 29 #[.slice A n cap] G H fun e G' H' => ∃ A' cap' x', e = .returned (.slice A' n cap') ∧ G = G' ∧ H' = x' :: H ∧ Vec 49 4 A' n cap' cs x' := by
  refine Fn.enter Tryz.func29 rfl rfl fun w0 => ?_
  refine WC.seq ?_
  refine WC.region ?_
  refine WL.p (Gp.assign rfl) (by kernel_rfl) rfl ?_
  refine WL.nil ?_
  refine WK.un ?_
  refine WC.seq ?_
  refine WC.seq ?_
  refine WC.region ?_
  refine WL.p (Gp.move rfl) (by kernel_rfl) rfl ?_
  (first | refine WL.p (Gp.eqI rfl rfl) (by kernel_rfl) rfl ?_ | refine WL.p (Gp.eqS rfl rfl) (by kernel_rfl) rfl ?_ | refine WL.p (Gp.nilSl rfl) (by kernel_rfl) rfl ?_ | refine WL.p (Gp.eqB rfl rfl) (by kernel_rfl) rfl ?_)
  refine WL.nil ?_
  refine WK.un ?_
  refine WC.cond rfl (fun hc => ?_) (fun hc => ?_)
  · refine WC.seq ?_
    refine WC.region ?_
    refine WL.p (Gp.assign rfl) (by kernel_rfl) rfl ?_
    refine WL.nil ?_
    refine WK.un ?_
    refine WC.ret ?_
    have hA' : A = none := by simpa using hc
    have hn := hA hA'
    subst hn
    have hcs : cs = [] := List.eq_nil_of_length_eq_zero (by simpa using hl)
    subst hcs
    exact WK.nothing (QF.ret1 (.inl rfl) rfl (.tmp rfl) (List.Sublist.refl _) ⟨none, 0, _, rfl, rfl, rfl, ⟨by simp, .inl ⟨rfl, rfl, rfl, rfl⟩⟩⟩)
  ·
    refine WC.skip ?_
    refine WK.un ?_
    refine WC.seq ?_
    refine WC.region ?_
    refine WL.op (by kernel_rfl) (OW.buildSlice rfl (by kernel_rfl) (by kernel_rfl) (by rfl) rfl fun b1 => ?_)
    refine WL.p (Gp.move rfl) (by kernel_rfl) rfl ?_
    refine WL.op (by kernel_rfl) (OW.append rfl rfl (by kernel_rfl) (by kernel_rfl) (Vec.empty rfl) .here (hr.cons _) hl h1 (by omega) (by omega) rfl fun A' cap' o' hv => ?_)
    refine WL.p (Gp.assign rfl) (by kernel_rfl) rfl ?_
    refine WL.nil ?_
    refine WK.un ?_
    refine WC.ret ?_
    (refine WK.un ?_)
    exact QF.ret1 (.inl rfl) rfl (.tmp rfl) (List.Sublist.refl _) ⟨A', cap', o', by rw [Nat.zero_add], rfl, rfl, by simpa using hv⟩
theorem clone_procs (G : Gh) (H : List Own) (A : Option Addr) (n cap : Nat) (cs : List Value) (hr : Rds G H A cs) (hl : cs.length = n * 6) (h1 : cs.all (·.oneCell') = true) (hA : A = none → n = 0) (hb : n * 88 ≤ 140737488355328) :
    Fn Tryz.prog 39 #[.slice A n cap] G H fun e G' H' => ∃ A' cap' x', e = .returned (.slice A' n cap') ∧ G = G' ∧ H' = x' :: H ∧ Vec 65 6 A' n cap' cs x' := by
  refine Fn.enter Tryz.func39 rfl rfl fun w0 => ?_
  refine WC.seq ?_
  refine WC.region ?_
  refine WL.p (Gp.assign rfl) (by kernel_rfl) rfl ?_
  refine WL.nil ?_
  refine WK.un ?_
  refine WC.seq ?_
  refine WC.seq ?_
  refine WC.region ?_
  refine WL.p (Gp.move rfl) (by kernel_rfl) rfl ?_
  (first | refine WL.p (Gp.eqI rfl rfl) (by kernel_rfl) rfl ?_ | refine WL.p (Gp.eqS rfl rfl) (by kernel_rfl) rfl ?_ | refine WL.p (Gp.nilSl rfl) (by kernel_rfl) rfl ?_ | refine WL.p (Gp.eqB rfl rfl) (by kernel_rfl) rfl ?_)
  refine WL.nil ?_
  refine WK.un ?_
  refine WC.cond rfl (fun hc => ?_) (fun hc => ?_)
  · refine WC.seq ?_
    refine WC.region ?_
    refine WL.p (Gp.assign rfl) (by kernel_rfl) rfl ?_
    refine WL.nil ?_
    refine WK.un ?_
    refine WC.ret ?_
    have hA' : A = none := by simpa using hc
    have hn := hA hA'
    subst hn
    have hcs : cs = [] := List.eq_nil_of_length_eq_zero (by simpa using hl)
    subst hcs
    exact WK.nothing (QF.ret1 (.inl rfl) rfl (.tmp rfl) (List.Sublist.refl _) ⟨none, 0, _, rfl, rfl, rfl, ⟨by simp, .inl ⟨rfl, rfl, rfl, rfl⟩⟩⟩)
  ·
    refine WC.skip ?_
    refine WK.un ?_
    refine WC.seq ?_
    refine WC.region ?_
    refine WL.op (by kernel_rfl) (OW.buildSlice rfl (by kernel_rfl) (by kernel_rfl) (by rfl) rfl fun b1 => ?_)
    refine WL.p (Gp.move rfl) (by kernel_rfl) rfl ?_
    refine WL.op (by kernel_rfl) (OW.append rfl rfl (by kernel_rfl) (by kernel_rfl) (Vec.empty rfl) .here (hr.cons _) hl h1 (by omega) (by omega) rfl fun A' cap' o' hv => ?_)
    refine WL.p (Gp.assign rfl) (by kernel_rfl) rfl ?_
    refine WL.nil ?_
    refine WK.un ?_
    refine WC.ret ?_
    (refine WK.un ?_)
    exact QF.ret1 (.inl rfl) rfl (.tmp rfl) (List.Sublist.refl _) ⟨A', cap', o', by rw [Nat.zero_add], rfl, rfl, by simpa using hv⟩
theorem clone_instrs (G : Gh) (H : List Own) (A : Option Addr) (n cap : Nat) (cs : List Value) (hr : Rds G H A cs) (hl : cs.length = n * 2) (h1 : cs.all (·.oneCell') = true) (hA : A = none → n = 0) (hb : n * 16 ≤ 140737488355328) :
    Fn Tryz.prog 41 #[.slice A n cap] G H fun e G' H' => ∃ A' cap' x', e = .returned (.slice A' n cap') ∧ G = G' ∧ H' = x' :: H ∧ Vec 97 2 A' n cap' cs x' := by
  refine Fn.enter Tryz.func41 rfl rfl fun w0 => ?_
  refine WC.seq ?_
  refine WC.region ?_
  refine WL.p (Gp.assign rfl) (by kernel_rfl) rfl ?_
  refine WL.nil ?_
  refine WK.un ?_
  refine WC.seq ?_
  refine WC.seq ?_
  refine WC.region ?_
  refine WL.p (Gp.move rfl) (by kernel_rfl) rfl ?_
  (first | refine WL.p (Gp.eqI rfl rfl) (by kernel_rfl) rfl ?_ | refine WL.p (Gp.eqS rfl rfl) (by kernel_rfl) rfl ?_ | refine WL.p (Gp.nilSl rfl) (by kernel_rfl) rfl ?_ | refine WL.p (Gp.eqB rfl rfl) (by kernel_rfl) rfl ?_)
  refine WL.nil ?_
  refine WK.un ?_
  refine WC.cond rfl (fun hc => ?_) (fun hc => ?_)
  · refine WC.seq ?_
    refine WC.region ?_
    refine WL.p (Gp.assign rfl) (by kernel_rfl) rfl ?_
    refine WL.nil ?_
    refine WK.un ?_
    refine WC.ret ?_
    have hA' : A = none := by simpa using hc
    have hn := hA hA'
    subst hn
    have hcs : cs = [] := List.eq_nil_of_length_eq_zero (by simpa using hl)
    subst hcs
    exact WK.nothing (QF.ret1 (.inl rfl) rfl (.tmp rfl) (List.Sublist.refl _) ⟨none, 0, _, rfl, rfl, rfl, ⟨by simp, .inl ⟨rfl, rfl, rfl, rfl⟩⟩⟩)
  ·
    refine WC.skip ?_
    refine WK.un ?_
    refine WC.seq ?_
    refine WC.region ?_
    refine WL.op (by kernel_rfl) (OW.buildSlice rfl (by kernel_rfl) (by kernel_rfl) (by rfl) rfl fun b1 => ?_)
    refine WL.p (Gp.move rfl) (by kernel_rfl) rfl ?_
    refine WL.op (by kernel_rfl) (OW.append rfl rfl (by kernel_rfl) (by kernel_rfl) (Vec.empty rfl) .here (hr.cons _) hl h1 (by omega) (by omega) rfl fun A' cap' o' hv => ?_)
    refine WL.p (Gp.assign rfl) (by kernel_rfl) rfl ?_
    refine WL.nil ?_
    refine WK.un ?_
    refine WC.ret ?_
    (refine WK.un ?_)
    exact QF.ret1 (.inl rfl) rfl (.tmp rfl) (List.Sublist.refl _) ⟨A', cap', o', by rw [Nat.zero_add], rfl, rfl, by simpa using hv⟩
abbrev frC (A : Option Addr) (n cap : Nat) (p a : Int) (B : Option Addr) (m cm : Nat) : Array Value := #[.slice A n cap, .int .i64 p, .int .i64 a, .slice B m cm]
theorem high_fn (G : Gh) (b : Nat) (A : Option Addr) (n cap : Nat) (p a : Int) (B : Option Addr) (m cm : Nat) :
    Fn Tryz.prog 69 #[.pointer (some ⟨b, 0, none⟩)] G [.blk b (.cells (frC A n cap p a B m cm) 76 (0, 0))] fun e G' H' => e = .returned (.int .i64 n) ∧ G = G' ∧ H' = [.blk b (.cells (frC A n cap p a B m cm) 76 (0, 0))] := by
  refine Fn.enter Tryz.func69 rfl rfl fun w0 => ?_
  refine WC.seq ?_
  refine WC.region ?_
  refine WL.p (Gp.assign rfl) (by kernel_rfl) rfl ?_
  refine WL.nil ?_
  refine WK.un ?_
  refine WC.seq ?_
  refine WC.region ?_
  refine WL.p (Gp.move rfl) (by kernel_rfl) rfl ?_
  refine WL.p (Gp.nilCheck rfl) (by kernel_rfl) rfl ?_
  refine WL.p (Gp.fieldAddr rfl) (by kernel_rfl) rfl ?_
  (first | (refine WL.v (Gv.load1 rfl (by (repeat first | exact .here | apply At.there)) (by first | rfl | assumption)) (by kernel_rfl) rfl ?_) | (refine WL.v (Gv.loadN rfl (by (repeat first | exact .here | apply At.there)) (by rfl) (by rfl)) (by kernel_rfl) rfl ?_) | (refine WL.v (Gv.loadG1 rfl (by assumption) rfl) (by kernel_rfl) rfl ?_) | (refine WL.v (Gv.loadG0 rfl (by assumption) rfl) (by kernel_rfl) rfl ?_) | (refine WL.v (Gv.loadGN rfl (by assumption) rfl) (by kernel_rfl) rfl ?_))
  (first | refine WL.p (Gp.lenSl rfl) (by kernel_rfl) rfl ?_ | refine WL.p (Gp.lenS rfl) (by kernel_rfl) rfl ?_)
  refine WL.p (Gp.assign rfl) (by kernel_rfl) rfl ?_
  refine WL.nil ?_
  refine WK.un ?_
  refine WC.ret ?_
  (refine WK.un ?_)
  exact QF.ret1 (.inl rfl) rfl (.tmp rfl) (List.Sublist.refl _) ⟨rfl, rfl, rfl⟩
theorem push_fn (G : Gh) (b : Nat) (A : Option Addr) (n cap : Nat) (p a : Int) (B : Option Addr) (m cm : Nat) (cs : List Value) (x : Own) (v : V) (hv : Vec 49 4 A n cap cs x) (hb : n ≤ 1000000000) :
    Fn Tryz.prog 70 #[.pointer (some ⟨b, 0, none⟩), .agg #[.int .i64 v.t, .int .i64 v.i, .bool v.b, .string v.s]] G [.blk b (.cells (frC A n cap p a B m cm) 76 (0, 0)), x]
      fun e G' H' => ∃ A' cap' x', e = .returned (.tuple #[]) ∧ G = G' ∧ H' = [.blk b (.cells (frC A' (n + 1) cap' p a B m cm) 76 (0, 0)), x'] ∧ Vec 49 4 A' (n + 1) cap' (cs ++ vcells v) x' := by
  refine Fn.enter Tryz.func70 rfl rfl fun w0 => ?_
  refine WC.seq ?_
  refine WC.region ?_
  refine WL.op (by kernel_rfl) (OW.box rfl rfl fun b2 => ?_)
  refine WL.nil ?_
  refine WK.un ?_
  refine WC.draw mixed ?_
  refine WA.tp (i := 0) rfl (by kernel_rfl) (by kernel_rfl) rfl (Gp.move rfl) ?_
  refine WA.tp (i := 1) rfl (by kernel_rfl) (by kernel_rfl) rfl (Gp.move rfl) ?_
  refine WA.tp (i := 2) rfl (by kernel_rfl) (by kernel_rfl) rfl (Gp.nilCheck rfl) ?_
  refine WA.tp (i := 3) rfl (by kernel_rfl) (by kernel_rfl) rfl (Gp.fieldAddr rfl) ?_
  (first | (refine WA.tv (i := 4) rfl (by kernel_rfl) (by kernel_rfl) rfl (Gv.load1 rfl (by (repeat first | exact .here | apply At.there)) (by first | rfl | assumption)) ?_) | (refine WA.tv (i := 4) rfl (by kernel_rfl) (by kernel_rfl) rfl (Gv.loadN rfl (by (repeat first | exact .here | apply At.there)) (by rfl) (by rfl)) ?_) | (refine WA.tv (i := 4) rfl (by kernel_rfl) (by kernel_rfl) rfl (Gv.loadG1 rfl (by assumption) rfl) ?_) | (refine WA.tv (i := 4) rfl (by kernel_rfl) (by kernel_rfl) rfl (Gv.loadG0 rfl (by assumption) rfl) ?_) | (refine WA.tv (i := 4) rfl (by kernel_rfl) (by kernel_rfl) rfl (Gv.loadGN rfl (by assumption) rfl) ?_))
  (first | (refine WA.tv (i := 5) rfl (by kernel_rfl) (by kernel_rfl) rfl (Gv.load1 rfl (by (repeat first | exact .here | apply At.there)) (by first | rfl | assumption)) ?_) | (refine WA.tv (i := 5) rfl (by kernel_rfl) (by kernel_rfl) rfl (Gv.loadN rfl (by (repeat first | exact .here | apply At.there)) (by rfl) (by rfl)) ?_) | (refine WA.tv (i := 5) rfl (by kernel_rfl) (by kernel_rfl) rfl (Gv.loadG1 rfl (by assumption) rfl) ?_) | (refine WA.tv (i := 5) rfl (by kernel_rfl) (by kernel_rfl) rfl (Gv.loadG0 rfl (by assumption) rfl) ?_) | (refine WA.tv (i := 5) rfl (by kernel_rfl) (by kernel_rfl) rfl (Gv.loadGN rfl (by assumption) rfl) ?_))
  refine WA.one (i := 6) (by kernel_rfl) rfl (by kernel_rfl) (OW.buildSlice rfl (by kernel_rfl) (by kernel_rfl) (by rfl) rfl fun b3 => ?_)
  refine WA.one (i := 7) (by kernel_rfl) rfl (by kernel_rfl) (OW.append rfl rfl (by kernel_rfl) (by kernel_rfl) hv (by (repeat first | exact .here | apply At.there)) (Rds.blk0 (cs := vcells v) .here rfl) rfl rfl (by omega) (by omega) rfl fun A' cap' o' hv' => ?_)
  refine WA.tp (i := 8) rfl (by kernel_rfl) (by kernel_rfl) rfl (Gp.nilCheck rfl) ?_
  refine WA.tp (i := 9) rfl (by kernel_rfl) (by kernel_rfl) rfl (Gp.fieldAddr rfl) ?_
  refine WA.one (i := 10) (by kernel_rfl) rfl (by kernel_rfl) (OW.store rfl rfl (by (repeat first | exact .here | apply At.there)) rfl (by rfl) (by rfl) (by kernel_rfl) (by rfl) ?_ rfl)
  exact WA.done (by kernel_rfl) (QF.ret0 (.inr rfl) rfl (.cons _ (.cons _ (List.Sublist.refl _))) ⟨A', cap', o', rfl, rfl, rfl, hv'⟩)
end Go.Proofs.YtbfgljcjblfleaaGreatDoor.Gb
