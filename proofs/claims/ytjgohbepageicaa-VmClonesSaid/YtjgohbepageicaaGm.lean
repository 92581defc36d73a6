/- From a contract of the small logic to what a row asks: of what was there nothing turns. -/
import Derived.Test.YtjgohbepageicaaGe
import Derived.RowKit3
namespace Go.Proofs.Ytjgohbepageicaa.Gb
open Go Go.RowKit

theorem Sat.bare (w : World) : Sat (fun _ _ => Option.none) [] w where
  agr b o v h := by cases h
  hold x h := by cases h
  apart := List.Pairwise.nil
  ghost x h := by cases h

theorem Stp.grown {G0 G : Gh} {w0 w : World} {H : List Own} (h : Stp (covs []) G0 w0 G H w) : Grown w0 w := by
  refine ⟨⟨h.weq.1, h.weq.2.1, fun i hi => ?_⟩, h.weq.2.2, h.size⟩
  have e : w.heap[i]? = w0.heap[i]? := (h.keep i hi).1 fun o ⟨x, hx, _⟩ => by cases hx
  rw [e]
  cases hb : w0.heap[i]? with
  | none => rfl
  | some ob => cases ob <;> simp_all

/-- a call that begins with G and nothing of ours -/
theorem Fn.grownG {P : Program} {f : FuncId} {vs : Array Value} {G : Gh} {R : Ending → Gh → List Own → Prop} (h : Fn P f vs G [] R) {R' : Ending → Prop} (hr : ∀ e G' H', R e G' H' → R' e) {w : World} (hs : Sat G [] w) :
    Calls P f vs w fun e w' => R' e ∧ Grown w w' :=
  (h w hs).mono fun e _ ⟨G', H', r, _, s⟩ => ⟨hr e G' H' r, s.grown⟩

theorem Fn.grown {P : Program} {f : FuncId} {vs : Array Value} {R : Ending → Gh → List Own → Prop} (h : Fn P f vs (fun _ _ => Option.none) [] R) {R' : Ending → Prop} (hr : ∀ e G' H', R e G' H' → R' e) {w : World} :
    Calls P f vs w fun e w' => R' e ∧ Grown w w' := h.grownG hr (Sat.bare w)
/-- all blocks that were there are as they were -/
structure Kept (W w' : World) : Prop where
  grown : Grown W w'
  heap : ∀ i, i < W.heap.size → w'.heap[i]? = W.heap[i]?
theorem Stp.kept {G0 G : Gh} {w0 w : World} {H : List Own} (h : Stp (covs []) G0 w0 G H w) : Kept w0 w :=
  ⟨h.grown, fun i hi => (h.keep i hi).1 fun o ⟨x, hx, _⟩ => by cases hx⟩
theorem Fn.keptG {P : Program} {f : FuncId} {vs : Array Value} {G : Gh} {R : Ending → Gh → List Own → Prop} (h : Fn P f vs G [] R) {R' : Ending → Prop} (hr : ∀ e G' H', R e G' H' → R' e) {w : World} (hs : Sat G [] w) :
    Calls P f vs w fun e w' => R' e ∧ Kept w w' :=
  (h w hs).mono fun e _ ⟨G', H', r, _, s⟩ => ⟨hr e G' H' r, s.kept⟩

/-- all that a world holds, known -/
def Gw (w : World) : Gh := fun b o => w.cell? ⟨b, o, none⟩
theorem Sat.whole (w : World) : Sat (Gw w) [] w where
  agr b o v h := h
  hold x h := by cases h
  apart := List.Pairwise.nil
  ghost x h := by cases h
end Go.Proofs.Ytjgohbepageicaa.Gb
