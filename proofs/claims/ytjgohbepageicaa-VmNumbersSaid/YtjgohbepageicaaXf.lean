/- The statement on two numbers, proved: from the walks to the row. -/
import Derived.Test.YtjgohbepageicaaXe
import Derived.Test.YtjgohbepageicaaRows
import Derived.Test.YtjgohbepageicaaGm
import Derived.RowKit3
import Derived.WalkKit
import Derived.ProofKit
import Derived.OpenShut
namespace Go.Proofs.Ytjgohbepageicaa.Gb
open Go Go.Proofs
set_option linter.unusedVariables false

theorem numbers_fn (G : Gh) (a b o : Int) (ho0 : 0 ≤ o) (ho1 : o ≤ 255) : Fn Try.prog 5 #[.int .i64 a, .int .i64 b, .int .u8 o] G [] fun e G' H' => e = .returned (.bool true) ∧ G.le G' ∧ H' = [] := by
  have h1 : o.tmod 7 = 0 ∨ o.tmod 7 = 1 ∨ o.tmod 7 = 2 ∨ o.tmod 7 = 3 ∨ o.tmod 7 = 4 ∨ o.tmod 7 = 5 ∨ o.tmod 7 = 6 := by
    rw [Int.tmod_eq_emod_of_nonneg ho0]; omega
  rcases h1 with h | h | h | h | h | h | h
  · exact numbers_18 G a b o ho0 ho1 h
  · exact numbers_19 G a b o ho0 ho1 h
  · exact numbers_21 G a b o ho0 ho1 h
  · by_cases hb : b = 0
    · exact numbers_22z G a b o ho0 ho1 h hb
    · exact numbers_22 G a b o ho0 ho1 h hb
  · by_cases hb : b = 0
    · exact numbers_23z G a b o ho0 ho1 h hb
    · exact numbers_23 G a b o ho0 ho1 h hb
  · exact numbers_14 G a b o ho0 ho1 h
  · exact numbers_12 G a b o ho0 ho1 h
end Go.Proofs.Ytjgohbepageicaa.Gb

namespace Go.Proofs.Ytjgohbepageicaa.vmNumbers
open Go.ChangeShapes Go.WideShapes Go.ChangeAt Go.RowKit Go Go.Proofs
set_option linter.unusedVariables false

theorem own : ownKnob Try.prog.godebug = none := by kernel_rfl

theorem walk (a0 : Int) (a1 : Int) (a2 : Int) (w0 : (Lit.int .i64 a0).wf = true) (w1 : (Lit.int .i64 a1).wf = true) (w2 : (Lit.int .u8 a2).wf = true) (w : World) :
    Calls Try.prog 5 #[.int .i64 a0, .int .i64 a1, .int .u8 a2] w fun e w' => e = .returned (.bool true) ∧ Grown w w' := by
  have hb := bounds_u8 w2
  exact (Gb.numbers_fn (fun _ _ => none) a0 a1 a2 hb.1 hb.2).grown fun e G' H' h => h.1
/-! ### THE ROW's STEP: WRITTEN OUT: LEAVE IT -/
set_option maxRecDepth 100000 in
theorem lifted (os : Os) (started : os.Started) (H : Type) (enc : TypeId × Value → H) :
    ReturnsInHanded {} Try.checked os 5 .any (Rows.vmNumbersSpec.pre6 enc Try.prog Try.f5 Rows.vmNumbersRow.domain false) (Rows.vmNumbersSpec.post enc Try.prog Try.f5 false true false false) := by
  refine returnsInHanded_of_change (C := Try.checked) own started (by kernel_rfl) Try.func5
    (ChangeSpec.witness6 (enc := enc) (C := Try.checked) false ⟨#[], #[.int .i64 0, .int .i64 0, .int .u8 0], []⟩ 8 (by kernel_rfl) (by kernel_rfl) (by kernel_rfl) (by kernel_rfl)) ?_
  intro W base args ds gs before hval0 hW hcnd _
  have hval : ∀ (j : Nat) t v, Try.f5.params[j]? = some t → args[j]? = some v → Value.okWide Try.prog W .any base t v := hval0
  have hW' := hW
  obtain ⟨p, q, hA0, hV, rfl, hfz, hnd⟩ := hW
  have hA : DataW.TrodAll enc Try.prog W 0 (fun _ => true) true Try.f5.params.toList args.toList ds p := hA0
  rw [Try.params5] at hA hval
  obtain ⟨v0, vs0, d0, ds0, p0, q0, hargs, rfl, rfl, h0, r0⟩ := trodAll_cons hA
  obtain ⟨v1, vs1, d1, ds1, p1, q1, rfl, rfl, rfl, h1, r1⟩ := trodAll_cons r0
  obtain ⟨v2, vs2, d2, ds2, p2, q2, rfl, rfl, rfl, h2, r2⟩ := trodAll_cons r1
  obtain ⟨rfl, rfl, rfl⟩ := trodAll_nil r2
  obtain rfl : args = #[v0, v1, v2] := by cases args; simp_all
  obtain ⟨rfl, rfl⟩ := trodVars_none hV
  obtain ⟨a0, rfl, rfl, rfl, w0⟩ := open_int Try.underlying2 (hval 0 2 v0 rfl rfl) h0
  obtain ⟨a1, rfl, rfl, rfl, w1⟩ := open_int Try.underlying2 (hval 1 2 v1 rfl rfl) h1
  obtain ⟨a2, rfl, rfl, rfl, w2⟩ := open_int Try.underlying5 (hval 2 5 v2 rfl rfl) h2
  clear hA0 hval0
  simp only [List.append_nil] at hW'
  refine (walk a0 a1 a2 w0 w1 w2 W).mono fun e W' ⟨he, hg⟩ => ?_
  subst he
  exact ⟨_, rfl, post_of_same (pa := []) (pv := []) hW' (fun _ _ _ => (trodAll_cons_mk (shut_bool Try.underlying4 _) trodAll_mk0)) (fun sp _ => (trodAll_cons_mk (shut_int Try.underlying2 w0) (trodAll_cons_mk (shut_int Try.underlying2 w1) (trodAll_cons_mk (shut_int Try.underlying5 w2) trodAll_mk0)))) (fun _ _ => rfl) rfl
    (hg.frame _) hg.2.1 (ok_one (by kernel_rfl) rfl (okWide_bool_mk Try.underlying4 _))⟩

theorem over : Rows.vmNumbersRow.holds Try.pinned (OpenSpec.ofChange Rows.vmNumbersSpec) :=
  OpenClaim.holds_of_wide 5 Try.f5 rfl rfl rfl rfl rfl rfl rfl ⟨rfl, rfl, rfl, rfl, rfl⟩ rfl rfl rfl rfl rfl (by kernel_rfl) Try.func5 (by kernel_rfl)
    (of_decide_eq_true (by kernel_rfl)) (by unfold Func.isWrapper; first | (rw [if_pos (by decide +kernel)]; kernel_rfl) | (rw [if_neg (by decide +kernel)]; exact ⟨rfl, rfl⟩))
    (fun os started H enc _ => lifted os started H enc)

/-- ████ THE STATEMENT ████ -/
theorem proved : Rows.VmNumbersSaid :=
  over
#print axioms proved
end Go.Proofs.Ytjgohbepageicaa.vmNumbers
