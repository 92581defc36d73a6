/-
  No cell of these rows narrows 'for every input' (looked for: loops, veiled, ifaces, maps, wideKeys, modest, calm, conditions, laid).
  DERIVED. THE GIVEN ROWS OF THIS SEAT. 10 by the template 'for every input the law returns true; each argument reads behind the call as it read before'; 0 by the template 'total and deterministic' (their statements: YtjgohbepageicaaTotals.lean).
  GIVEN WITH THE SEED: the statements are not yours to turn. If you find one false, say at which input.
  Laid BY PROGRAM, IN A SANDBOX (cutbox-rows.mjs): the forced cells as the released guide's own fill.sh prints them over the translation 322fc067af5c92f1… (all of the seat's roots in one cut). By AI agents, Wed Nov 11 2026. No macro, syntax, notation, axiom, sorry.
-/
import Derived.Test.YtjgohbepageicaaChecked
import GoSem.Claim
import GoSem.ClaimJoined
import GoSem.ClaimMapViews
import Derived.JoinedTies
import Derived.KernelRfl
namespace Go.Proofs.Ytjgohbepageicaa
/- THE CELL 'sum', in the pinned program and in every row, IS THE sha256 OF THE DUMP (.gsa) THAT YtjgohbepageicaaProg.lean LOADS. Nothing in Lean hashes anything: it is a label: what it is worth is what the hold of that sum in a sandbox is worth. -/
noncomputable def Try.pinned : Pinned := { name := "ytjgohbepageicaa", sum := "322fc067af5c92f16e8314b364bfc517abab7e5d443fb97a77092e62aea514c8", checked := Try.checked }
namespace Rows
def none {H : Type} : Left H := { results := [], args := [] }

/-- 'treadlelaw20.VmRuns': WHATEVER THE INPUT: true; the input reads as it did. -/
def vmRunsSpec : ChangeSpec := { name := "vmRuns", fn := fun _ => fun
  | [d1, d2] => { results := [.lit (.bool true)], args := [d1, d2] }
  | _ => none }
def vmRunsRow : OpenClaim := { program := "ytjgohbepageicaa", sum := "322fc067af5c92f16e8314b364bfc517abab7e5d443fb97a77092e62aea514c8", func := "treadle/treadlelaw20.VmRuns", spec := "vmRuns", unfollowed := true, recurses := true, apart := false }
def VmRunsSaid : Prop := vmRunsRow.holds Try.pinned (OpenSpec.ofChange vmRunsSpec)

/-- ITS FALSE NEIGHBOUR: 'it returns false'. Refute it at one input. -/
def vmRunsWrong : ChangeSpec := { name := "vmRuns", fn := fun _ => fun
  | [d1, d2] => { results := [.lit (.bool false)], args := [d1, d2] }
  | _ => none }
def VmRunsWrongFalsely : Prop := vmRunsRow.holds Try.pinned (OpenSpec.ofChange vmRunsWrong)

/-- 'treadlelaw20.VmFuel': WHATEVER THE INPUT: true; the input reads as it did. -/
def vmFuelSpec : ChangeSpec := { name := "vmFuel", fn := fun _ => fun
  | [d1, d2, d3] => { results := [.lit (.bool true)], args := [d1, d2, d3] }
  | _ => none }
def vmFuelRow : OpenClaim := { program := "ytjgohbepageicaa", sum := "322fc067af5c92f16e8314b364bfc517abab7e5d443fb97a77092e62aea514c8", func := "treadle/treadlelaw20.VmFuel", spec := "vmFuel", unfollowed := true, recurses := true, apart := false }
def VmFuelSaid : Prop := vmFuelRow.holds Try.pinned (OpenSpec.ofChange vmFuelSpec)

/-- ITS FALSE NEIGHBOUR: 'it returns false'. Refute it at one input. -/
def vmFuelWrong : ChangeSpec := { name := "vmFuel", fn := fun _ => fun
  | [d1, d2, d3] => { results := [.lit (.bool false)], args := [d1, d2, d3] }
  | _ => none }
def VmFuelWrongFalsely : Prop := vmFuelRow.holds Try.pinned (OpenSpec.ofChange vmFuelWrong)

/-- 'treadlelaw20.VmNumbers': WHATEVER THE INPUT: true; the input reads as it did. -/
def vmNumbersSpec : ChangeSpec := { name := "vmNumbers", fn := fun _ => fun
  | [d1, d2, d3] => { results := [.lit (.bool true)], args := [d1, d2, d3] }
  | _ => none }
def vmNumbersRow : OpenClaim := { program := "ytjgohbepageicaa", sum := "322fc067af5c92f16e8314b364bfc517abab7e5d443fb97a77092e62aea514c8", func := "treadle/treadlelaw20.VmNumbers", spec := "vmNumbers", unfollowed := true, recurses := true, apart := false }
def VmNumbersSaid : Prop := vmNumbersRow.holds Try.pinned (OpenSpec.ofChange vmNumbersSpec)

/-- ITS FALSE NEIGHBOUR: 'it returns false'. Refute it at one input. -/
def vmNumbersWrong : ChangeSpec := { name := "vmNumbers", fn := fun _ => fun
  | [d1, d2, d3] => { results := [.lit (.bool false)], args := [d1, d2, d3] }
  | _ => none }
def VmNumbersWrongFalsely : Prop := vmNumbersRow.holds Try.pinned (OpenSpec.ofChange vmNumbersWrong)

/-- 'treadlelaw20.VmTexts': WHATEVER THE INPUT: true; the input reads as it did. -/
def vmTextsSpec : ChangeSpec := { name := "vmTexts", fn := fun _ => fun
  | [d1, d2, d3] => { results := [.lit (.bool true)], args := [d1, d2, d3] }
  | _ => none }
def vmTextsRow : OpenClaim := { program := "ytjgohbepageicaa", sum := "322fc067af5c92f16e8314b364bfc517abab7e5d443fb97a77092e62aea514c8", func := "treadle/treadlelaw20.VmTexts", spec := "vmTexts", unfollowed := true, recurses := true, apart := false }
def VmTextsSaid : Prop := vmTextsRow.holds Try.pinned (OpenSpec.ofChange vmTextsSpec)

/-- ITS FALSE NEIGHBOUR: 'it returns false'. Refute it at one input. -/
def vmTextsWrong : ChangeSpec := { name := "vmTexts", fn := fun _ => fun
  | [d1, d2, d3] => { results := [.lit (.bool false)], args := [d1, d2, d3] }
  | _ => none }
def VmTextsWrongFalsely : Prop := vmTextsRow.holds Try.pinned (OpenSpec.ofChange vmTextsWrong)

/-- 'treadlelaw20.VmDeep': WHATEVER THE INPUT: true; the input reads as it did. -/
def vmDeepSpec : ChangeSpec := { name := "vmDeep", fn := fun _ => fun
  | [d] => { results := [.lit (.bool true)], args := [d] }
  | _ => none }
def vmDeepRow : OpenClaim := { program := "ytjgohbepageicaa", sum := "322fc067af5c92f16e8314b364bfc517abab7e5d443fb97a77092e62aea514c8", func := "treadle/treadlelaw20.VmDeep", spec := "vmDeep", unfollowed := true, recurses := true, apart := false }
def VmDeepSaid : Prop := vmDeepRow.holds Try.pinned (OpenSpec.ofChange vmDeepSpec)

/-- ITS FALSE NEIGHBOUR: 'it returns false'. Refute it at one input. -/
def vmDeepWrong : ChangeSpec := { name := "vmDeep", fn := fun _ => fun
  | [d] => { results := [.lit (.bool false)], args := [d] }
  | _ => none }
def VmDeepWrongFalsely : Prop := vmDeepRow.holds Try.pinned (OpenSpec.ofChange vmDeepWrong)

/-- 'treadlelaw20.VmParts': WHATEVER THE INPUT: true; the input reads as it did. -/
def vmPartsSpec : ChangeSpec := { name := "vmParts", fn := fun _ => fun
  | [d1, d2, d3] => { results := [.lit (.bool true)], args := [d1, d2, d3] }
  | _ => none }
def vmPartsRow : OpenClaim := { program := "ytjgohbepageicaa", sum := "322fc067af5c92f16e8314b364bfc517abab7e5d443fb97a77092e62aea514c8", func := "treadle/treadlelaw20.VmParts", spec := "vmParts", unfollowed := true, recurses := true, apart := false }
def VmPartsSaid : Prop := vmPartsRow.holds Try.pinned (OpenSpec.ofChange vmPartsSpec)

/-- ITS FALSE NEIGHBOUR: 'it returns false'. Refute it at one input. -/
def vmPartsWrong : ChangeSpec := { name := "vmParts", fn := fun _ => fun
  | [d1, d2, d3] => { results := [.lit (.bool false)], args := [d1, d2, d3] }
  | _ => none }
def VmPartsWrongFalsely : Prop := vmPartsRow.holds Try.pinned (OpenSpec.ofChange vmPartsWrong)

/-- 'treadlelaw20.VmSteps': WHATEVER THE INPUT: true; the input reads as it did. -/
def vmStepsSpec : ChangeSpec := { name := "vmSteps", fn := fun _ => fun
  | [d1, d2] => { results := [.lit (.bool true)], args := [d1, d2] }
  | _ => none }
def vmStepsRow : OpenClaim := { program := "ytjgohbepageicaa", sum := "322fc067af5c92f16e8314b364bfc517abab7e5d443fb97a77092e62aea514c8", func := "treadle/treadlelaw20.VmSteps", spec := "vmSteps", unfollowed := true, recurses := true, apart := false }
def VmStepsSaid : Prop := vmStepsRow.holds Try.pinned (OpenSpec.ofChange vmStepsSpec)

/-- ITS FALSE NEIGHBOUR: 'it returns false'. Refute it at one input. -/
def vmStepsWrong : ChangeSpec := { name := "vmSteps", fn := fun _ => fun
  | [d1, d2] => { results := [.lit (.bool false)], args := [d1, d2] }
  | _ => none }
def VmStepsWrongFalsely : Prop := vmStepsRow.holds Try.pinned (OpenSpec.ofChange vmStepsWrong)

/-- 'treadlelaw20.VmOwn': WHATEVER THE INPUT: true; the input reads as it did. -/
def vmOwnSpec : ChangeSpec := { name := "vmOwn", fn := fun _ => fun
  | [d1, d2, d3] => { results := [.lit (.bool true)], args := [d1, d2, d3] }
  | _ => none }
def vmOwnRow : OpenClaim := { program := "ytjgohbepageicaa", sum := "322fc067af5c92f16e8314b364bfc517abab7e5d443fb97a77092e62aea514c8", func := "treadle/treadlelaw20.VmOwn", spec := "vmOwn", unfollowed := true, recurses := true, apart := false }
def VmOwnSaid : Prop := vmOwnRow.holds Try.pinned (OpenSpec.ofChange vmOwnSpec)

/-- ITS FALSE NEIGHBOUR: 'it returns false'. Refute it at one input. -/
def vmOwnWrong : ChangeSpec := { name := "vmOwn", fn := fun _ => fun
  | [d1, d2, d3] => { results := [.lit (.bool false)], args := [d1, d2, d3] }
  | _ => none }
def VmOwnWrongFalsely : Prop := vmOwnRow.holds Try.pinned (OpenSpec.ofChange vmOwnWrong)

/-- 'treadlelaw20.VmClones': WHATEVER THE INPUT: true; the input reads as it did. -/
def vmClonesSpec : ChangeSpec := { name := "vmClones", fn := fun _ => fun
  | [d1, d2, d3] => { results := [.lit (.bool true)], args := [d1, d2, d3] }
  | _ => none }
def vmClonesRow : OpenClaim := { program := "ytjgohbepageicaa", sum := "322fc067af5c92f16e8314b364bfc517abab7e5d443fb97a77092e62aea514c8", func := "treadle/treadlelaw20.VmClones", spec := "vmClones", unfollowed := true, recurses := true, apart := false }
def VmClonesSaid : Prop := vmClonesRow.holds Try.pinned (OpenSpec.ofChange vmClonesSpec)

/-- ITS FALSE NEIGHBOUR: 'it returns false'. Refute it at one input. -/
def vmClonesWrong : ChangeSpec := { name := "vmClones", fn := fun _ => fun
  | [d1, d2, d3] => { results := [.lit (.bool false)], args := [d1, d2, d3] }
  | _ => none }
def VmClonesWrongFalsely : Prop := vmClonesRow.holds Try.pinned (OpenSpec.ofChange vmClonesWrong)

/-- 'treadlelaw20.VmNobody': WHATEVER THE INPUT: true; the input reads as it did. -/
def vmNobodySpec : ChangeSpec := { name := "vmNobody", fn := fun _ => fun
  | [d] => { results := [.lit (.bool true)], args := [d] }
  | _ => none }
def vmNobodyRow : OpenClaim := { program := "ytjgohbepageicaa", sum := "322fc067af5c92f16e8314b364bfc517abab7e5d443fb97a77092e62aea514c8", func := "treadle/treadlelaw20.VmNobody", spec := "vmNobody", unfollowed := true, recurses := true, apart := false }
def VmNobodySaid : Prop := vmNobodyRow.holds Try.pinned (OpenSpec.ofChange vmNobodySpec)

/-- ITS FALSE NEIGHBOUR: 'it returns false'. Refute it at one input. -/
def vmNobodyWrong : ChangeSpec := { name := "vmNobody", fn := fun _ => fun
  | [d] => { results := [.lit (.bool false)], args := [d] }
  | _ => none }
def VmNobodyWrongFalsely : Prop := vmNobodyRow.holds Try.pinned (OpenSpec.ofChange vmNobodyWrong)

/- THE SECOND FORM. 'bulk': how many values and letters a reading holds, each counted each time it is reached (what is shared counts as often as it is met; a slice's spare places count too). A statement '..UptoSaid' is the law's where the arguments, and the package variables that the reading takes, are together of bulk at most 1048576: NARROWER than '..Said'. Prove '..Said' where nothing that the law and all that it calls make is longer than what came in: it says more and counts as full. Else prove '..UptoSaid'. A law counts once. -/
mutual
def uptoBulk {H : Type} : DataW H → Nat
  | .lit (.string bytes) => bytes.length + 1
  | .lit _ => 1
  | .nil => 1
  | .ptr d => uptoBulk d + 1
  | .slice elems spare => uptoBulkAll elems + uptoBulkAll spare + 1
  | .agg parts => uptoBulkAll parts + 1
  | .iface _ d => uptoBulk d + 1
  | .map entries => uptoBulkEntries entries + 1
  | .held _ => 1
def uptoBulkAll {H : Type} : List (DataW H) → Nat
  | [] => 0
  | d :: r => uptoBulk d + uptoBulkAll r
def uptoBulkEntries {H : Type} : List (Lit × DataW H) → Nat
  | [] => 0
  | x :: r => uptoBulkEntry x + uptoBulkEntries r
def uptoBulkEntry {H : Type} : Lit × DataW H → Nat
  | (.string bytes, d) => bytes.length + uptoBulk d + 1
  | (_, d) => uptoBulk d + 1
 end
def uptoSmall : (H : Type) → List (DataW H) → Bool := fun _ ds => decide (uptoBulkAll ds ≤ 1048576)
def OpenSpec.upto (s : _root_.Go.ChangeSpec) : _root_.Go.OpenSpec := { _root_.Go.OpenSpec.ofChange s with cond := some uptoSmall }

/-- 'treadlelaw20.VmRuns', WHERE WHAT IT READS IS OF BULK AT MOST 1048576: true; the input reads as it did. -/
def vmRunsUptoRow : OpenClaim := { program := "ytjgohbepageicaa", sum := "322fc067af5c92f16e8314b364bfc517abab7e5d443fb97a77092e62aea514c8", func := "treadle/treadlelaw20.VmRuns", spec := "vmRuns", unfollowed := true, recurses := true, apart := false, narrowed := true }
def VmRunsUptoSaid : Prop := vmRunsUptoRow.holds Try.pinned (OpenSpec.upto vmRunsSpec)

/-- 'treadlelaw20.VmFuel', WHERE WHAT IT READS IS OF BULK AT MOST 1048576: true; the input reads as it did. -/
def vmFuelUptoRow : OpenClaim := { program := "ytjgohbepageicaa", sum := "322fc067af5c92f16e8314b364bfc517abab7e5d443fb97a77092e62aea514c8", func := "treadle/treadlelaw20.VmFuel", spec := "vmFuel", unfollowed := true, recurses := true, apart := false, narrowed := true }
def VmFuelUptoSaid : Prop := vmFuelUptoRow.holds Try.pinned (OpenSpec.upto vmFuelSpec)

/-- 'treadlelaw20.VmNumbers', WHERE WHAT IT READS IS OF BULK AT MOST 1048576: true; the input reads as it did. -/
def vmNumbersUptoRow : OpenClaim := { program := "ytjgohbepageicaa", sum := "322fc067af5c92f16e8314b364bfc517abab7e5d443fb97a77092e62aea514c8", func := "treadle/treadlelaw20.VmNumbers", spec := "vmNumbers", unfollowed := true, recurses := true, apart := false, narrowed := true }
def VmNumbersUptoSaid : Prop := vmNumbersUptoRow.holds Try.pinned (OpenSpec.upto vmNumbersSpec)

/-- 'treadlelaw20.VmTexts', WHERE WHAT IT READS IS OF BULK AT MOST 1048576: true; the input reads as it did. -/
def vmTextsUptoRow : OpenClaim := { program := "ytjgohbepageicaa", sum := "322fc067af5c92f16e8314b364bfc517abab7e5d443fb97a77092e62aea514c8", func := "treadle/treadlelaw20.VmTexts", spec := "vmTexts", unfollowed := true, recurses := true, apart := false, narrowed := true }
def VmTextsUptoSaid : Prop := vmTextsUptoRow.holds Try.pinned (OpenSpec.upto vmTextsSpec)

/-- 'treadlelaw20.VmDeep', WHERE WHAT IT READS IS OF BULK AT MOST 1048576: true; the input reads as it did. -/
def vmDeepUptoRow : OpenClaim := { program := "ytjgohbepageicaa", sum := "322fc067af5c92f16e8314b364bfc517abab7e5d443fb97a77092e62aea514c8", func := "treadle/treadlelaw20.VmDeep", spec := "vmDeep", unfollowed := true, recurses := true, apart := false, narrowed := true }
def VmDeepUptoSaid : Prop := vmDeepUptoRow.holds Try.pinned (OpenSpec.upto vmDeepSpec)

/-- 'treadlelaw20.VmParts', WHERE WHAT IT READS IS OF BULK AT MOST 1048576: true; the input reads as it did. -/
def vmPartsUptoRow : OpenClaim := { program := "ytjgohbepageicaa", sum := "322fc067af5c92f16e8314b364bfc517abab7e5d443fb97a77092e62aea514c8", func := "treadle/treadlelaw20.VmParts", spec := "vmParts", unfollowed := true, recurses := true, apart := false, narrowed := true }
def VmPartsUptoSaid : Prop := vmPartsUptoRow.holds Try.pinned (OpenSpec.upto vmPartsSpec)

/-- 'treadlelaw20.VmSteps', WHERE WHAT IT READS IS OF BULK AT MOST 1048576: true; the input reads as it did. -/
def vmStepsUptoRow : OpenClaim := { program := "ytjgohbepageicaa", sum := "322fc067af5c92f16e8314b364bfc517abab7e5d443fb97a77092e62aea514c8", func := "treadle/treadlelaw20.VmSteps", spec := "vmSteps", unfollowed := true, recurses := true, apart := false, narrowed := true }
def VmStepsUptoSaid : Prop := vmStepsUptoRow.holds Try.pinned (OpenSpec.upto vmStepsSpec)

/-- 'treadlelaw20.VmOwn', WHERE WHAT IT READS IS OF BULK AT MOST 1048576: true; the input reads as it did. -/
def vmOwnUptoRow : OpenClaim := { program := "ytjgohbepageicaa", sum := "322fc067af5c92f16e8314b364bfc517abab7e5d443fb97a77092e62aea514c8", func := "treadle/treadlelaw20.VmOwn", spec := "vmOwn", unfollowed := true, recurses := true, apart := false, narrowed := true }
def VmOwnUptoSaid : Prop := vmOwnUptoRow.holds Try.pinned (OpenSpec.upto vmOwnSpec)

/-- 'treadlelaw20.VmClones', WHERE WHAT IT READS IS OF BULK AT MOST 1048576: true; the input reads as it did. -/
def vmClonesUptoRow : OpenClaim := { program := "ytjgohbepageicaa", sum := "322fc067af5c92f16e8314b364bfc517abab7e5d443fb97a77092e62aea514c8", func := "treadle/treadlelaw20.VmClones", spec := "vmClones", unfollowed := true, recurses := true, apart := false, narrowed := true }
def VmClonesUptoSaid : Prop := vmClonesUptoRow.holds Try.pinned (OpenSpec.upto vmClonesSpec)

/-- 'treadlelaw20.VmNobody', WHERE WHAT IT READS IS OF BULK AT MOST 1048576: true; the input reads as it did. -/
def vmNobodyUptoRow : OpenClaim := { program := "ytjgohbepageicaa", sum := "322fc067af5c92f16e8314b364bfc517abab7e5d443fb97a77092e62aea514c8", func := "treadle/treadlelaw20.VmNobody", spec := "vmNobody", unfollowed := true, recurses := true, apart := false, narrowed := true }
def VmNobodyUptoSaid : Prop := vmNobodyUptoRow.holds Try.pinned (OpenSpec.upto vmNobodySpec)

end Rows
end Go.Proofs.Ytjgohbepageicaa
