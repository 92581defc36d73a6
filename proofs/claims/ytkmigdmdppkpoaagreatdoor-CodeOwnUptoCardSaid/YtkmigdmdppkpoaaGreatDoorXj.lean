/- Lines of instructions: walked. CodeLines: walked. A line cut at its first blank: walked. Digits and numbers (no program in sight). A line read as an instruction: what both answers say (no program in sight). A line read as an instruction: both answers agree (no program in sight). Lines read by the program: walked. Digits, as the document reads them: walked. Lines, as the document reads them: walked. CodeParses: walked. A reader of bytes: small things, walked. A reader's numbers: walked. Bytes read as instructions: the law, no program in sight; there and back. A number at a place of bytes, read: walked. Readers of bytes: numbers of at most so much, bytes, ends: walked. Bytes read as instructions: code.Read, walked. -/
import Derived.Test.YtkmigdmdppkpoaaGreatDoorXi
import Derived.Lib.ItoaLen
import Derived.Lib.AtoiAllCases
set_option linter.unusedVariables false
set_option linter.unusedSimpArgs false
set_option linter.unusedSectionVars false
namespace Go.Proofs.YtkmigdmdppkpoaaGreatDoor.Gb
open Go Go.Proofs Go.MapKept
set_option linter.unusedVariables false
set_option linter.unusedSimpArgs false
set_option linter.unusedSectionVars false
attribute [local irreducible] Tryz.prog

/-- a number's digits -/
def decS (n : Nat) : ByteArray := ⟨(Lib.decDigits n).toArray⟩
theorem decS_lt {n : Nat} (h : n < 10) : decS n = strOfNums [((48 + n : Nat) : Int)] := by
  unfold decS strOfNums
  rw [Lib.decDigits_one h]; rfl
theorem bytes_append (a b : List UInt8) : (⟨(a ++ b).toArray⟩ : ByteArray) = ⟨a.toArray⟩ ++ ⟨b.toArray⟩ := by
  apply ByteArray.ext
  rw [ByteArray.data_append]; simp
theorem decS_ge {n : Nat} (h : ¬ n < 10) : decS n = decS (n / 10) ++ strOfNums [((48 + n % 10 : Nat) : Int)] := by
  unfold decS strOfNums
  rw [Lib.decDigits, dif_neg h, bytes_append]; rfl
theorem decS_size (n : Nat) (h : n ≤ 9223372036854775807) : (decS n).size ≤ 21 := by
  have := Lib.itoa_length_le (n : Int) (by omega) (by omega)
  rw [Lib.itoa_nonneg] at this
  unfold decS ByteArray.size
  simpa using this
theorem itoa_dec {n : Int} (h : 0 ≤ n) : (⟨(Lib.itoa n).toArray⟩ : ByteArray) = decS n.toNat := by
  obtain ⟨k, rfl⟩ : ∃ k : Nat, n = k := ⟨n.toNat, by omega⟩
  rw [Lib.itoa_nonneg]; rfl

theorem decimal_fn (G : Gh) : ∀ (n : Nat), n ≤ 2147483647 → Fn Tryz.prog 52 #[.int .i64 n] G [] fun e G' H' => e = .returned (.string (decS n)) ∧ G = G' ∧ H' = [] := by
  intro n
  induction n using Nat.strongRecOn with
  | _ n ih =>
  intro hn
  refine Fn.enter Tryz.func52 rfl rfl fun w0 => ?_
  by_cases hlt : n < 10
  · have e2 : decide ((n : Int) < 10) = true := decide_eq_true (by omega)
    have x2 : IntKind.i64.wrap (48 + (n : Int)) = ((48 + n : Nat) : Int) := by rw [wrapI (by omega) (by omega)]; rfl
    rw [decS_lt hlt]
    refine gom ?_
    refine WL.p (Gp.convTo (r := ((48 + n : Nat) : Int)) rfl (by rw [u8w, Nat.mod_eq_of_lt (by omega)])) (by kernel_rfl) rfl ?_
    refine WL.op (by kernel_rfl) (OW.buildSlice rfl (by kernel_rfl) (by kernel_rfl) (by rfl) rfl fun b8 => ?_)
    refine WL.v (Gv.convBytes (xs := [((48 + n : Nat) : Int)]) rfl (Rds.blk0 .here rfl) (fun h => by cases h)) (by kernel_rfl) rfl ?_
    refine gom ?_
    refine WC.ret ?_
    refine WK.un ?_
    exact QF.p1 (.inl rfl) rfl (.tmp rfl) (⟨rfl, rfl, rfl⟩)
  have e2 : decide ((n : Int) < 10) = false := decide_eq_false (by omega)
  have x2 : IntKind.i64.wrap (48 + ((n % 10 : Nat) : Int)) = ((48 + n % 10 : Nat) : Int) := by rw [wrapI (by omega) (by omega)]; rfl
  have hs1 := decS_size (n / 10) (by omega)
  have hs2 : (strOfNums [((48 + n % 10 : Nat) : Int)]).size = 1 := by rw [strOfNums_size]; rfl
  rw [decS_ge hlt]
  refine go ?_
  refine WC.draw mixed ?_
  refine WA.tp (i := 0) rfl (by kernel_rfl) (by kernel_rfl) rfl (Gp.move rfl) ?_
  refine WA.tp (i := 1) rfl (by kernel_rfl) (by kernel_rfl) rfl (Gp.quoTo (r := ((n / 10 : Nat) : Int)) rfl rfl (by decide) (by rw [Int.tdiv_eq_ediv_of_nonneg (by omega), wrapI (by omega) (by omega)]; omega)) ?_
  refine WA.tp (i := 3) rfl (by kernel_rfl) (by kernel_rfl) rfl (Gp.move rfl) ?_
  refine WA.tp (i := 4) rfl (by kernel_rfl) (by kernel_rfl) rfl (Gp.remTo (r := ((n % 10 : Nat) : Int)) rfl rfl (by decide) (by rw [Int.tmod_eq_emod_of_nonneg (by omega)]; omega)) ?_
  refine WA.tp (i := 5) rfl (by kernel_rfl) (by kernel_rfl) rfl (Gp.add' rfl rfl x2) ?_
  refine WA.tp (i := 6) rfl (by kernel_rfl) (by kernel_rfl) rfl (Gp.convTo (r := ((48 + n % 10 : Nat) : Int)) rfl (by rw [u8w, Nat.mod_eq_of_lt (by omega)])) ?_
  refine WA.two (i := 2) (j := 7) (by kernel_rfl) rfl rfl (by kernel_rfl) (by kernel_rfl) (OW.callK rfl (ih (n / 10) (by omega) (by omega)) rfl fun v' G' H' h hg => ?_) (OW.buildSlice rfl (by kernel_rfl) (by kernel_rfl) (by rfl) rfl fun b7 => ?_)
  · obtain ⟨he, rfl, rfl⟩ := h
    cases he
    refine WA.one (i := 7) (by kernel_rfl) rfl (by kernel_rfl) (OW.buildSlice rfl (by kernel_rfl) (by kernel_rfl) (by rfl) rfl fun b7 => ?_)
    refine WA.tv (i := 8) rfl (by kernel_rfl) (by kernel_rfl) rfl (Gv.convBytes (xs := [((48 + n % 10 : Nat) : Int)]) rfl (Rds.blk0 .here rfl) (fun h => by cases h)) ?_
    refine WA.tp (i := 9) rfl (by kernel_rfl) (by kernel_rfl) rfl (Gp.addS rfl rfl (by omega)) ?_
    refine WA.tp (i := 10) rfl (by kernel_rfl) (by kernel_rfl) rfl (Gp.assign rfl) ?_
    refine WA.done (by kernel_rfl) ?_
    refine WK.un ?_
    refine WC.ret ?_
    refine WK.un ?_
    exact QF.p1 (.inl rfl) rfl (.tmp rfl) (⟨rfl, rfl, rfl⟩)
  · refine WA.two (i := 2) (j := 8) (by kernel_rfl) rfl rfl (by kernel_rfl) (by kernel_rfl) (OW.callK rfl (ih (n / 10) (by omega) (by omega)) rfl fun v' G' H' h hg => ?_) (OW.gv (Gv.convBytes (xs := [((48 + n % 10 : Nat) : Int)]) rfl (Rds.blk0 .here rfl) (fun h => by cases h)) rfl ?_)
    · obtain ⟨he, rfl, rfl⟩ := h
      cases he
      refine WA.tv (i := 8) rfl (by kernel_rfl) (by kernel_rfl) rfl (Gv.convBytes (xs := [((48 + n % 10 : Nat) : Int)]) rfl (Rds.blk0 .here rfl) (fun h => by cases h)) ?_
      refine WA.tp (i := 9) rfl (by kernel_rfl) (by kernel_rfl) rfl (Gp.addS rfl rfl (by omega)) ?_
      refine WA.tp (i := 10) rfl (by kernel_rfl) (by kernel_rfl) rfl (Gp.assign rfl) ?_
      refine WA.done (by kernel_rfl) ?_
      refine WK.un ?_
      refine WC.ret ?_
      refine WK.un ?_
      exact QF.p1 (.inl rfl) rfl (.tmp rfl) (⟨rfl, rfl, rfl⟩)
    ·
      refine WA.one (i := 2) (by kernel_rfl) rfl (by kernel_rfl) (OW.callK rfl (ih (n / 10) (by omega) (by omega)) rfl fun v' G' H' h hg => ?_)
      obtain ⟨he, rfl, rfl⟩ := h
      cases he
      refine WA.tp (i := 9) rfl (by kernel_rfl) (by kernel_rfl) rfl (Gp.addS rfl rfl (by omega)) ?_
      refine WA.tp (i := 10) rfl (by kernel_rfl) (by kernel_rfl) rfl (Gp.assign rfl) ?_
      refine WA.done (by kernel_rfl) ?_
      refine WK.un ?_
      refine WC.ret ?_
      refine WK.un ?_
      exact QF.p1 (.inl rfl) rfl (.tmp rfl) (⟨rfl, rfl, rfl⟩)

/-! #### a line -/
def lineR (i : Int × Int) : ByteArray := if (rowC i.1).n then (rowC i.1).name ++ ⟨#[32]⟩ ++ decS i.2.toNat else (rowC i.1).name
theorem name_small (c : Int) : (rowC c).name.size ≤ 6 := by
  by_cases h : 1 ≤ c ∧ c ≤ 26
  · have hd : ∀ k : Nat, k < 26 → (rowC ((k : Int) + 1)).name.size ≤ 6 := by decide +kernel
    obtain ⟨k, rfl⟩ : ∃ k : Nat, c = (k : Int) + 1 := ⟨(c - 1).toNat, by omega⟩
    exact hd k (by omega)
  · rw [rowC_out h]; decide
theorem line_fn (G : Gh) (hE : Env G) (i : Int × Int) (h0 : 0 ≤ i.2) (h1 : i.2 ≤ 2147483647) : Fn Tryz.prog 49 #[.agg #[.int .i64 i.1, .int .i64 i.2]] G [] fun e G' H' => e = .returned (.string (lineR i)) ∧ G = G' ∧ H' = [] := by
  refine Fn.enter Tryz.func49 rfl rfl fun w0 => ?_
  refine WC.seq ?_
  refine WC.region ?_
  refine WL.op (by kernel_rfl) (OW.box rfl rfl fun b1 => ?_)
  refine go ?_
  refine WL.op (by kernel_rfl) (OW.callK rfl (rowOf_fn G i.1) rfl fun v' G' H' h hg => ?_)
  obtain ⟨he, rfl, rfl⟩ := h
  cases he
  refine WL.op (by kernel_rfl) (OW.alloc rfl fun b3 => ?_)
  have hsz := name_small i.1
  have hds := decS_size i.2.toNat (by omega)
  have h32 : ((rowC i.1).name ++ ⟨#[32]⟩).size ≤ 7 := by rw [ByteArray.size_append]; have : (⟨#[32]⟩ : ByteArray).size = 1 := rfl; omega
  have h32a : (⟨#[32]⟩ : ByteArray).size = 1 := rfl
  cases hn : (rowC i.1).n with
  | false =>
    have hr : lineR i = (rowC i.1).name := by rw [lineR, hn]; rfl
    rw [hr]
    refine go ?_
    refine WC.ret ?_
    refine WK.un ?_
    exact QF.p1 (.inl rfl) rfl (.tmp rfl) (⟨rfl, rfl, rfl⟩)
  | true =>
    have hr : lineR i = (rowC i.1).name ++ ⟨#[32]⟩ ++ decS i.2.toNat := by rw [lineR, hn]; rfl
    rw [hr, ← itoa_dec h0]
    refine go ?_
    refine WC.pick [.blk b3 (.cells #[.string (rowC i.1).name, .bool true, .int .i64 (rowC i.1).takes, .int .i64 (rowC i.1).lays] 109 (0, 0)), .blk b1 (.cells #[.int .i64 i.1, .int .i64 i.2] 50 (0, 0))] ?_
    refine WC.drawS (Hs := [.blk b3 (.cells #[.string (rowC i.1).name, .bool true, .int .i64 (rowC i.1).takes, .int .i64 (rowC i.1).lays] 109 (0, 0)), .blk b1 (.cells #[.int .i64 i.1, .int .i64 i.2] 50 (0, 0))]) mixed (by repeat (first | exact Pk.nil | exact Pk.all | exact Pk.app | exact Pk.appR | with_reducible apply Pk.na | (apply Pk.cons; (repeat first | exact .here | apply Rem.there | apply Rem.app)) | apply Pk.skip | apply Pk.skipA)) ?_
    refine WB.tp (i := 0) rfl (by kernel_rfl) (by kernel_rfl) rfl (Gp.fieldAddr rfl) ?_
    refine WB.tp (i := 3) rfl (by kernel_rfl) (by kernel_rfl) rfl (Gp.fieldAddr rfl) ?_
    (first | (refine WB.tv (i := 1) rfl (by kernel_rfl) (by kernel_rfl) rfl (Gv.load1 rfl (by (repeat first | exact .here | apply At.there)) (by first | rfl | assumption)) ?_) | (refine WB.tv (i := 1) rfl (by kernel_rfl) (by kernel_rfl) rfl (Gv.loadN rfl (by (repeat first | exact .here | apply At.there)) (by rfl) (by rfl)) ?_) | (refine WB.tv (i := 1) rfl (by kernel_rfl) (by kernel_rfl) rfl (Gv.loadG1 rfl (by assumption) rfl) ?_) | (refine WB.tv (i := 1) rfl (by kernel_rfl) (by kernel_rfl) rfl (Gv.loadG0 rfl (by assumption) rfl) ?_) | (refine WB.tv (i := 1) rfl (by kernel_rfl) (by kernel_rfl) rfl (Gv.loadGN rfl (by assumption) rfl) ?_))
    refine WB.tp (i := 2) rfl (by kernel_rfl) (by kernel_rfl) rfl (Gp.addS rfl rfl (by omega)) ?_
    (first | (refine WB.tv (i := 4) rfl (by kernel_rfl) (by kernel_rfl) rfl (Gv.load1 rfl (by (repeat first | exact .here | apply At.there)) (by first | rfl | assumption)) ?_) | (refine WB.tv (i := 4) rfl (by kernel_rfl) (by kernel_rfl) rfl (Gv.loadN rfl (by (repeat first | exact .here | apply At.there)) (by rfl) (by rfl)) ?_) | (refine WB.tv (i := 4) rfl (by kernel_rfl) (by kernel_rfl) rfl (Gv.loadG1 rfl (by assumption) rfl) ?_) | (refine WB.tv (i := 4) rfl (by kernel_rfl) (by kernel_rfl) rfl (Gv.loadG0 rfl (by assumption) rfl) ?_) | (refine WB.tv (i := 4) rfl (by kernel_rfl) (by kernel_rfl) rfl (Gv.loadGN rfl (by assumption) rfl) ?_))
    refine WB.one (i := 5) (by kernel_rfl) rfl (by kernel_rfl) (OW.callK rfl (itoa_fn G hE i.2 (by omega) (by omega)) rfl fun v' G' H' h hg => ?_)
    obtain ⟨he, rfl, rfl⟩ := h
    cases he
    refine ⟨fun w hw => hw.pk (by repeat (first | exact Pk.nil | exact Pk.all | exact Pk.app | exact Pk.appR | with_reducible apply Pk.na | (apply Pk.cons; (repeat first | exact .here | apply Rem.there | apply Rem.app)) | apply Pk.skip | apply Pk.skipA)), ?_⟩
    refine WB.tp (i := 6) rfl (by kernel_rfl) (by kernel_rfl) rfl (Gp.addS rfl rfl (by rw [itoa_dec h0]; omega)) ?_
    refine WB.tp (i := 7) rfl (by kernel_rfl) (by kernel_rfl) rfl (Gp.assign rfl) ?_
    refine WB.done (by kernel_rfl) ?_
    refine WK.un ?_
    refine WC.ret ?_
    refine WK.un ?_
    exact QF.p1 (.inl rfl) rfl (.tmp rfl) (⟨rfl, rfl, rfl⟩)
end Go.Proofs.YtkmigdmdppkpoaaGreatDoor.Gb
namespace Go.Proofs.YtkmigdmdppkpoaaGreatDoor.Gb
open Go Go.Proofs Go.MapKept
set_option linter.unusedVariables false
set_option linter.unusedSimpArgs false
set_option linter.unusedSectionVars false
attribute [local irreducible] Tryz.prog

def strV (l : List ByteArray) : List Value := l.map Value.string
abbrev TxVec (A : Option Addr) (l : List ByteArray) (cap : Nat) (x : Own) : Prop := Vec 9 1 A l.length cap (strV l) x
theorem TxVec.nil : TxVec none [] 0 (.spare 0 0 0) := ⟨rfl, .inl ⟨rfl, rfl, rfl, rfl⟩⟩
theorem TxVec.snoc {A : Option Addr} {l : List ByteArray} {cap : Nat} {x : Own} {z : ByteArray} (h : Vec 9 1 A (l.length + 1) cap (strV l ++ [.string z]) x) : TxVec A (l ++ [z]) cap x := by
  unfold TxVec strV; rw [List.map_append, List.length_append]; exact h
def linesR (l : List (Int × Int)) : List ByteArray × Int := if l.all mayI then (l.map lineR, 0) else ([], 180)
theorem map_snoc {α β : Type} (f : α → β) {l : List α} {k : Nat} {x : α} (h : l[k]? = some x) : (l.take (k + 1)).map f = (l.take k).map f ++ [f x] := by
  rw [take_snoc' h, List.map_append]; rfl

theorem Lines_fn (G : Gh) (hE : Env G) (A : Option Addr) (l : List (Int × Int)) (cap : Nat) (hA : Sl Kd.ins G A l) (hl : l.length * 16 ≤ 140737488351232) :
    Fn Tryz.prog 26 #[.slice A l.length cap] G [] fun e G' H' => ∃ A' cap' x', e = .returned (.tuple #[.slice A' (linesR l).1.length cap', .int .i64 (linesR l).2]) ∧ G = G' ∧ TxVec A' (linesR l).1 cap' x' ∧ H' = [x'] := by
  refine Fn.enter Tryz.func26 rfl rfl fun w0 => ?_
  refine gom ?_
  refine WC.nothing ?_
  refine WC.loop (X := Nat × Option Addr × Nat × Own) (fun s => [(4, .slice s.2.1 ((l.take s.1).map lineR).length s.2.2.1), (7, .slice A l.length cap), (8, .int .i64 l.length), (9, .int .i64 s.1)]) (fun _ => G) (fun s => [s.2.2.2]) (fun s => l.length - s.1) (fun s => s.1 ≤ l.length ∧ TxVec s.2.1 ((l.take s.1).map lineR) s.2.2.1 s.2.2.2 ∧ ∀ j i, j < s.1 → l[j]? = some i → mayI i = true) (0, none, 0, .spare 0 0 0) ⟨Nat.zero_le _, TxVec.nil, (fun j i h => absurd h (Nat.not_lt_zero _))⟩ (by exact ⟨rfl, rfl, rfl, rfl, trivial⟩) rfl (List.Sublist.refl _) fun s hs => ?_
  obtain ⟨k, B, c, o⟩ := s
  obtain ⟨hk, hv, hall⟩ := hs
  dsimp only at hk hv hall
  have x2 := wrapS k (by omega)
  by_cases hlt : k < l.length
  rotate_left
  · have e2 : decide ((k : Int) < (l.length : Int)) = false := decide_eq_false (by omega)
    obtain rfl : k = l.length := by omega
    have hr : linesR l = ((l.take l.length).map lineR, 0) := by rw [linesR, all_of hall (by omega), if_pos rfl, List.take_length]
    rw [hr]
    refine gom ?_
    refine WC.ret ?_
    refine WK.un ?_
    exact QF.p2 (.inl rfl) rfl (.tmp rfl) (.tmp rfl) (⟨B, c, o, rfl, rfl, hv, rfl⟩)
  have e2 : decide ((k : Int) < (l.length : Int)) = true := decide_eq_true (by omega)
  obtain ⟨i, hi⟩ : ∃ i, l[k]? = some i := ⟨_, List.getElem?_eq_getElem (by omega)⟩
  obtain ⟨ib, io, ics, rfl, hik, hic⟩ := hA k i hi
  obtain rfl : ics = [.int .i64 i.1, .int .i64 i.2] := hik
  have x0 : (0 : Int) ≤ (k : Int) := by omega
  have x1' : (k : Int) < (l.length : Int) := by omega
  refine gom ?_
  refine WL.op (by kernel_rfl) (OW.alloc rfl fun b6 => ?_)
  refine gom ?_
  refine WL.op (by kernel_rfl) (OW.callK rfl (may_fn G i.1 i.2) rfl fun v' G' H' h hg => ?_)
  obtain ⟨he, rfl, rfl⟩ := h
  cases he
  cases hm : mayR i.1 i.2 with
  | false =>
    have hr : linesR l = ([], 180) := by rw [linesR, all_not hi (show mayI i = false from hm)]; rfl
    rw [hr]
    refine gom ?_
    refine WC.nothing ?_
    refine WC.ret ?_
    refine WK.un ?_
    exact QF.p2 (.inl rfl) rfl (.tmp rfl) (.tmp rfl) (⟨none, 0, _, rfl, rfl, TxVec.nil, rfl⟩)
  | true =>
  obtain ⟨b1, b2, b3, b4⟩ := mayI_bounds (i := i) hm
  have htl : ((l.take k).map lineR).length = k := by rw [List.length_map, List.length_take]; omega
  refine gom ?_
  refine WL.op (by kernel_rfl) (OW.callK rfl (line_fn G hE i b3 b4) rfl fun v' G' H' h hg => ?_)
  obtain ⟨he, rfl, rfl⟩ := h
  cases he
  refine WL.op (by kernel_rfl) (OW.buildSlice rfl (by kernel_rfl) (by kernel_rfl) (by rfl) rfl fun b19 => ?_)
  refine WL.op (by kernel_rfl) (OW.append rfl rfl (by kernel_rfl) (by kernel_rfl) hv (by (repeat first | exact .here | apply At.there)) (Rds.blk0 (cs := [.string (lineR i)]) .here rfl) rfl rfl (by dsimp only; omega) (by dsimp only; omega) rfl fun A3 c3 o3 hv3 => ?_)
  have h3 := TxVec.snoc hv3
  dsimp only at h3
  rw [← map_snoc lineR hi] at h3
  have hl3 : ((l.take k).map lineR).length + 1 = ((l.take (k + 1)).map lineR).length := by rw [map_snoc lineR hi, List.length_append]; rfl
  have hst := all_step (f := mayI) hi hall hm
  refine gom ?_
  refine WK.pick [o3] ?_
  exact WK.again (k + 1, A3, c3, o3) (by dsimp only; omega) ⟨by dsimp only; omega, h3, hst⟩ (by exact ⟨by show _ = some (Value.slice A3 _ c3); rw [← hl3]; rfl, rfl, rfl, rfl, trivial⟩) rfl (List.Sublist.refl _)

theorem rLines_fn (G : Gh) (hE : Env G) (A : Option Addr) (l : List (Int × Int)) (cap : Nat) (hA : Sl Kd.ins G A l) (hl : l.length * 16 ≤ 140737488351232) :
    Fn Tryz.prog 27 #[.slice A l.length cap] G [] fun e G' H' => ∃ A' cap' x', e = .returned (.tuple #[.slice A' (linesR l).1.length cap', .int .i64 (linesR l).2]) ∧ G.le G' ∧ TxVec A' (linesR l).1 cap' x' ∧ H' = [x'] := by
  refine Fn.enter Tryz.func27 rfl rfl fun w0 => ?_
  refine gom ?_
  refine WC.nothing ?_
  refine WC.loop (X := Nat × Option Addr × Nat × Own × Gh) (fun s => [(4, .slice s.2.1 ((l.take s.1).map lineR).length s.2.2.1), (0, .slice A l.length cap), (5, .int .i64 s.1)]) (fun s => s.2.2.2.2) (fun s => [s.2.2.2.1]) (fun s => l.length - s.1) (fun s => s.1 ≤ l.length ∧ G.le s.2.2.2.2 ∧ TxVec s.2.1 ((l.take s.1).map lineR) s.2.2.1 s.2.2.2.1 ∧ ∀ j i, j < s.1 → l[j]? = some i → mayI i = true) (0, none, 0, .spare 0 0 0, G) ⟨Nat.zero_le _, Gh.le_refl _, TxVec.nil, (fun j i h => absurd h (Nat.not_lt_zero _))⟩ (by exact ⟨rfl, rfl, rfl, trivial⟩) rfl (List.Sublist.refl _) fun s hs => ?_
  obtain ⟨k, B, c, o, G1⟩ := s
  obtain ⟨hk, hg1, hv, hall⟩ := hs
  dsimp only at hk hg1 hv hall
  have x2 := wrapS k (by omega)
  by_cases hlt : k < l.length
  rotate_left
  · have e2 : decide ((k : Int) < (l.length : Int)) = false := decide_eq_false (by omega)
    obtain rfl : k = l.length := by omega
    have hr : linesR l = ((l.take l.length).map lineR, 0) := by rw [linesR, all_of hall (by omega), if_pos rfl, List.take_length]
    rw [hr]
    refine gom ?_
    refine WC.ret ?_
    refine WK.un ?_
    exact QF.p2 (.inl rfl) rfl (.tmp rfl) (.tmp rfl) (⟨B, c, o, rfl, hg1, hv, rfl⟩)
  have e2 : decide ((k : Int) < (l.length : Int)) = true := decide_eq_true (by omega)
  obtain ⟨i, hi⟩ : ∃ i, l[k]? = some i := ⟨_, List.getElem?_eq_getElem (by omega)⟩
  obtain ⟨ib, io, ics, rfl, hik, hic0⟩ := hA k i hi
  obtain rfl : ics = [.int .i64 i.1, .int .i64 i.2] := hik
  have hic := hic0.mono hg1
  have x0 : (0 : Int) ≤ (k : Int) := by omega
  have x1' : (k : Int) < (l.length : Int) := by omega
  refine gom ?_
  refine WL.op (by kernel_rfl) (OW.callK rfl (lone_fn G1 i.1 i.2) rfl fun v' G' H' h hg => ?_)
  obtain ⟨he, rfl, rfl⟩ := h
  cases he
  cases hm : mayR i.1 i.2 with
  | false =>
    have hr : linesR l = ([], 180) := by rw [linesR, all_not hi (show mayI i = false from hm)]; rfl
    rw [hr]
    refine gom ?_
    refine WC.nothing ?_
    refine WC.ret ?_
    refine WK.un ?_
    exact QF.p2 (.inl rfl) rfl (.tmp rfl) (.tmp rfl) (⟨none, 0, _, rfl, hg1, TxVec.nil, rfl⟩)
  | true =>
  obtain ⟨b1, b2, b3, b4⟩ := mayI_bounds (i := i) hm
  have htl : ((l.take k).map lineR).length = k := by rw [List.length_map, List.length_take]; omega
  refine gom ?_
  refine WL.op (by kernel_rfl) (OW.callK rfl (rName_fn G1 i.1) rfl fun v' G' H' h hg => ?_)
  obtain ⟨he, hg2, rfl⟩ := h
  cases he
  have hg3 := Gh.le_trans hg1 hg2
  have hic2 := hic.mono hg2
  refine gom ?_
  refine WL.op (by kernel_rfl) (OW.callK rfl (numb_fn _ [] i.1) rfl fun v' G' H' h hg => ?_)
  obtain ⟨he, rfl, rfl⟩ := h
  cases he
  have hsz := name_small i.1
  have hds := decS_size i.2.toNat (by omega)
  have h32 : ((rowC i.1).name ++ ⟨#[32]⟩).size ≤ 7 := by rw [ByteArray.size_append]; have : (⟨#[32]⟩ : ByteArray).size = 1 := rfl; omega
  have h32a : (⟨#[32]⟩ : ByteArray).size = 1 := rfl
  have hst := all_step (f := mayI) hi hall hm
  cases hn : (rowC i.1).n with
  | true =>
    have hr : lineR i = (rowC i.1).name ++ ⟨#[32]⟩ ++ decS i.2.toNat := by rw [lineR, hn]; rfl
    refine gom ?_
    refine WL.p (Gp.addS rfl rfl (by omega)) (by kernel_rfl) rfl ?_
    refine gom ?_
    rw [show i.2 = ((i.2.toNat : Nat) : Int) by omega]
    refine WL.op (by kernel_rfl) (OW.callK rfl (decimal_fn _ i.2.toNat (by omega)) rfl fun v' G' H' h hg => ?_)
    obtain ⟨he, rfl, rfl⟩ := h
    cases he
    refine WL.p (Gp.addS rfl rfl (by omega)) (by kernel_rfl) rfl ?_
    rw [← hr]
    refine gom ?_
    refine WL.op (by kernel_rfl) (OW.buildSlice rfl (by kernel_rfl) (by kernel_rfl) (by rfl) rfl fun b46 => ?_)
    refine WL.op (by kernel_rfl) (OW.append rfl rfl (by kernel_rfl) (by kernel_rfl) hv (by (repeat first | exact .here | apply At.there)) (Rds.blk0 (cs := [.string (lineR i)]) .here rfl) rfl rfl (by dsimp only; omega) (by dsimp only; omega) rfl fun A3 c3 o3 hv3 => ?_)
    have h3 := TxVec.snoc hv3
    dsimp only at h3
    rw [← map_snoc lineR hi] at h3
    have hl3 : ((l.take k).map lineR).length + 1 = ((l.take (k + 1)).map lineR).length := by rw [map_snoc lineR hi, List.length_append]; rfl
    refine gom ?_
    refine WK.pick [o3] ?_
    exact WK.again (k + 1, A3, c3, o3, _) (by dsimp only; omega) ⟨by dsimp only; omega, hg3, h3, hst⟩ (by exact ⟨by show _ = some (Value.slice A3 _ c3); rw [← hl3]; rfl, rfl, rfl, trivial⟩) rfl (List.Sublist.refl _)
  | false =>
    have hr : lineR i = (rowC i.1).name := by rw [lineR, hn]; rfl
    rw [← hr]
    refine gom ?_
    refine WL.op (by kernel_rfl) (OW.buildSlice rfl (by kernel_rfl) (by kernel_rfl) (by rfl) rfl fun b46 => ?_)
    refine WL.op (by kernel_rfl) (OW.append rfl rfl (by kernel_rfl) (by kernel_rfl) hv (by (repeat first | exact .here | apply At.there)) (Rds.blk0 (cs := [.string (lineR i)]) .here rfl) rfl rfl (by dsimp only; omega) (by dsimp only; omega) rfl fun A3 c3 o3 hv3 => ?_)
    have h3 := TxVec.snoc hv3
    dsimp only at h3
    rw [← map_snoc lineR hi] at h3
    have hl3 : ((l.take k).map lineR).length + 1 = ((l.take (k + 1)).map lineR).length := by rw [map_snoc lineR hi, List.length_append]; rfl
    refine gom ?_
    refine WK.pick [o3] ?_
    exact WK.again (k + 1, A3, c3, o3, _) (by dsimp only; omega) ⟨by dsimp only; omega, hg3, h3, hst⟩ (by exact ⟨by show _ = some (Value.slice A3 _ c3); rw [← hl3]; rfl, rfl, rfl, trivial⟩) rfl (List.Sublist.refl _)

theorem TxVec.sl {G : Gh} {A : Option Addr} {l : List ByteArray} (hz : strV l = [] ∨ ∃ b, A = some ⟨b, 0, none⟩ ∧ Cs G b 0 (strV l)) : Sl Kd.str G A l := by
  rcases hz with h | ⟨b, rfl, h⟩
  · have : l = [] := by simpa [strV] using h
    subst this; exact Sl.nil _ _ _
  · exact Cs.strs h
end Go.Proofs.YtkmigdmdppkpoaaGreatDoor.Gb
namespace Go.Proofs.YtkmigdmdppkpoaaGreatDoor.Gb
open Go Go.Proofs Go.MapKept
set_option linter.unusedVariables false
set_option linter.unusedSimpArgs false
set_option linter.unusedSectionVars false
attribute [local irreducible] Tryz.prog

def nspN (n : Int) : Bool := n != 32
/-- where the first blank stands, or the end -/
def spK (s : ByteArray) : Nat := runL nspN (bytesL s)
def cutA (s : ByteArray) : ByteArray := s.extract 0 (spK s)
def cutB (s : ByteArray) : ByteArray := if spK s < s.size then s.extract (spK s + 1) s.size else ⟨#[]⟩
end Go.Proofs.YtkmigdmdppkpoaaGreatDoor.Gb
namespace Go.Proofs.YtkmigdmdppkpoaaGreatDoor.Gb
open Go Go.Proofs
set_option linter.unusedVariables false
set_option linter.unusedSimpArgs false

def isD (c : UInt8) : Bool := decide (48 ≤ c.toNat) && decide (c.toNat ≤ 57)
def valS (a : Nat) (c : UInt8) : Nat := 10 * a + (c.toNat - 48)
def valL (l : List UInt8) : Nat := l.foldl valS 0
end Go.Proofs.YtkmigdmdppkpoaaGreatDoor.Gb
namespace Go.Proofs.YtkmigdmdppkpoaaGreatDoor.Gb
open Go Go.Proofs
set_option linter.unusedVariables false
set_option linter.unusedSimpArgs false

/-! #### names -/
end Go.Proofs.YtkmigdmdppkpoaaGreatDoor.Gb
namespace Go.Proofs.YtkmigdmdppkpoaaGreatDoor.Gb
open Go Go.Proofs
set_option linter.unusedVariables false
set_option linter.unusedSimpArgs false

/-- the document's: a number that a line may have -/
def digR (s : ByteArray) : Int × Bool :=
  if s.size = 0 ∨ 10 < s.size ∨ (1 < s.size ∧ (bytesL s).head? = some 48) then (0, false)
  else if (bytesL s).all isD then ((valL (bytesL s) : Int), decide ((valL (bytesL s) : Int) ≤ 2147483647)) else (0, false)
/-- what Atoi tells -/
def atoiV (s : ByteArray) : Int := match Lib.atoiAll s.data.toList with | .ok v => v | .range => Lib.atoiSat s.data.toList | _ => 0
/-- the document's: a line -/
def refR (s : ByteArray) : Bool × (Int × Int) :=
  if (((findN (cutA s)).2 == 0) && ((rowC (findN (cutA s)).1).n == decide (spK s < s.size))) = true then
    if spK s < s.size then ((digR (cutB s)).2, ((findN (cutA s)).1, (digR (cutB s)).1)) else (true, ((findN (cutA s)).1, 0))
  else (false, ((findN (cutA s)).1, 0))
/-- the program's: a line -/
def codeC (s : ByteArray) : Int × Int := ((findN (cutA s)).1, if cutB s = ⟨#[]⟩ then 0 else atoiV (cutB s))
/-- lines, read -/
def parsesR (l : List ByteArray) : List (Int × Int) × Int × Int :=
  match (List.range l.length).find? (fun k => match l[k]? with | some s => !(refR s).1 | none => false) with
  | some k => ([], 180, (k : Int))
  | none => (l.map fun s => (refR s).2, 0, 0)
end Go.Proofs.YtkmigdmdppkpoaaGreatDoor.Gb
namespace Go.Proofs.YtkmigdmdppkpoaaGreatDoor.Gb
open Go Go.Proofs Go.MapKept
set_option linter.unusedVariables false
set_option linter.unusedSimpArgs false
set_option linter.unusedSectionVars false
attribute [local irreducible] Tryz.prog

def icells (i : Int × Int) : List Value := [.int .i64 i.1, .int .i64 i.2]
def iflat (l : List (Int × Int)) : List Value := l.flatMap icells
theorem iflat_length (l : List (Int × Int)) : (iflat l).length = l.length * 2 := by
  induction l with
  | nil => rfl
  | cons v l ih => simp only [iflat, List.flatMap_cons, List.length_append, List.length_cons] at ih ⊢; rw [ih]; simp [icells]; omega
theorem iflat_append (a b : List (Int × Int)) : iflat (a ++ b) = iflat a ++ iflat b := by simp [iflat]
abbrev InsV (A : Option Addr) (l : List (Int × Int)) (cap : Nat) (x : Own) : Prop := Vec 50 2 A l.length cap (iflat l) x
theorem InsV.nil : InsV none [] 0 (.spare 0 0 0) := ⟨rfl, .inl ⟨rfl, rfl, rfl, rfl⟩⟩
theorem InsV.snoc {A : Option Addr} {l : List (Int × Int)} {cap : Nat} {x : Own} {z : Int × Int} (h : Vec 50 2 A (l.length + 1) cap (iflat l ++ [.int .i64 z.1, .int .i64 z.2]) x) : InsV A (l ++ [z]) cap x := by
  unfold InsV; rw [iflat_append, List.length_append]; exact h
theorem InsV.sl {G : Gh} {A : Option Addr} {l : List (Int × Int)} (hz : iflat l = [] ∨ ∃ b, A = some ⟨b, 0, none⟩ ∧ Cs G b 0 (iflat l)) : Sl Kd.ins G A l :=
  Sl.ofCs hz (iflat_length l) (by decide) fun i x hx => flat_elem icells 2 (fun _ => rfl) l i x hx

attribute [local irreducible] lineR refR cutA cutB findN atoiV parsesR mayR
end Go.Proofs.YtkmigdmdppkpoaaGreatDoor.Gb
namespace Go.Proofs.YtkmigdmdppkpoaaGreatDoor.Gb
open Go Go.Proofs Go.MapKept
set_option linter.unusedVariables false
set_option linter.unusedSimpArgs false
set_option linter.unusedSectionVars false
section
variable {P : Program} {L : List (Nat × Value)} {d : Option Tmp} {ty : TypeId} {pos : String} {af : Array Edge} {gu : Option (Nat × Bool)}
theorem Gp.mulTo {t t' : TypeId} {x y : Operand} {k : IntKind} {m n r : Int} (hx : ev L x = some (.int k m)) (hy : ev L y = some (.int k n)) (h : k.wrap (m * n) = r) : Gp P L ⟨d, .binOp .mul t x y t', ty, pos, af, gu⟩ (.int k r) := h ▸ Gp.mul hx hy
theorem Gp.subTo {t t' : TypeId} {x y : Operand} {k : IntKind} {m n r : Int} (hx : ev L x = some (.int k m)) (hy : ev L y = some (.int k n)) (h : k.wrap (m - n) = r) : Gp P L ⟨d, .binOp .sub t x y t', ty, pos, af, gu⟩ (.int k r) := h ▸ Gp.sub hx hy
end
attribute [local irreducible] Tryz.prog
attribute [local irreducible] digR valL
end Go.Proofs.YtkmigdmdppkpoaaGreatDoor.Gb
namespace Go.Proofs.YtkmigdmdppkpoaaGreatDoor.Gb
open Go Go.Proofs Go.MapKept
set_option linter.unusedVariables false
set_option linter.unusedSimpArgs false
set_option linter.unusedSectionVars false
attribute [local irreducible] Tryz.prog
attribute [local irreducible] lineR refR cutA cutB findN parsesR digR spK rowC
end Go.Proofs.YtkmigdmdppkpoaaGreatDoor.Gb
namespace Go.Proofs.YtkmigdmdppkpoaaGreatDoor.Gb
open Go Go.Proofs Go.MapKept
set_option linter.unusedVariables false
set_option linter.unusedSimpArgs false
set_option linter.unusedSectionVars false
attribute [local irreducible] Tryz.prog
attribute [local irreducible] parsesR
end Go.Proofs.YtkmigdmdppkpoaaGreatDoor.Gb
namespace Go.Proofs.YtkmigdmdppkpoaaGreatDoor.Gb
open Go Go.Proofs Go.MapKept
set_option linter.unusedVariables false
set_option linter.unusedSimpArgs false
set_option linter.unusedSectionVars false
attribute [local irreducible] Tryz.prog

/-- a reader that stands at a place, with a fault -/
def rdC (BA : Option Addr) (n bc : Nat) (k : Nat) (f : Int × Int) : Array Value := #[.slice BA n bc, .int .i64 (k : Int), .bool true, .int .i64 f.1, .int .i64 f.2]
abbrev rdB (b : Nat) (BA : Option Addr) (n bc : Nat) (k : Nat) (f : Int × Int) : Own := .blk b (.cells (rdC BA n bc k f) 159 (0, 0))
theorem well_fn (G : Gh) (b : Nat) (BA : Option Addr) (n bc k : Nat) (f : Int × Int) : Fn Tryz.prog 84 #[.pointer (some ⟨b, 0, none⟩)] G [rdB b BA n bc k f] fun e G' H' => e = .returned (.bool (decide (f = (0, 0)))) ∧ G = G' ∧ H' = [rdB b BA n bc k f] := by
  refine Fn.enter Tryz.func84 rfl rfl fun w0 => ?_
  refine gom ?_
  refine WL.p (Gp.nePtrNil rfl (by kernel_rfl)) (by kernel_rfl) rfl ?_
  refine gom ?_
  refine WL.p (Gp.eqFault rfl rfl) (by kernel_rfl) rfl ?_
  refine gom ?_
  refine WC.ret ?_
  refine WK.un ?_
  exact QF.p1 (.inl rfl) rfl (.tmp rfl) (⟨rfl, rfl, rfl⟩)
theorem fails_fn (G : Gh) (b : Nat) (BA : Option Addr) (n bc k : Nat) (f : Int × Int) (e0 a0 : Int) : Fn Tryz.prog 85 #[.pointer (some ⟨b, 0, none⟩), .int .i64 e0, .int .i64 a0] G [rdB b BA n bc k f] fun e G' H' => e = .returned (.tuple #[]) ∧ G = G' ∧ H' = [rdB b BA n bc k (e0, a0)] := by
  refine Fn.enter Tryz.func85 rfl rfl fun w0 => ?_
  refine gom ?_
  refine WK.un ?_
  exact QF.p0 (.inr rfl) rfl  (⟨rfl, rfl, rfl⟩)
theorem left_fn (G : Gh) (b : Nat) (BA : Option Addr) (n bc k : Nat) (f : Int × Int) (hk : k ≤ n) (hn : n ≤ 1000000000000000) : Fn Tryz.prog 87 #[.pointer (some ⟨b, 0, none⟩)] G [rdB b BA n bc k f] fun e G' H' => e = .returned (.int .i64 ((n - k : Nat) : Int)) ∧ G = G' ∧ H' = [rdB b BA n bc k f] := by
  refine Fn.enter Tryz.func87 rfl rfl fun w0 => ?_
  have x2 : IntKind.i64.wrap ((n : Int) - (k : Int)) = ((n - k : Nat) : Int) := by rw [wrapI (by omega) (by omega)]; omega
  refine gom ?_
  refine WC.ret ?_
  refine WK.un ?_
  exact QF.p1 (.inl rfl) rfl (.tmp rfl) (⟨rfl, rfl, rfl⟩)
theorem rat_fn (G : Gh) (b : Nat) (BA : Option Addr) (n bc k : Nat) (f : Int × Int) : Fn Tryz.prog 60 #[.pointer (some ⟨b, 0, none⟩)] G [rdB b BA n bc k f] fun e G' H' => e = .returned (.int .i64 (k : Int)) ∧ G = G' ∧ H' = [rdB b BA n bc k f] := by
  refine Fn.enter Tryz.func60 rfl rfl fun w0 => ?_
  refine gom ?_
  refine WL.p (Gp.eqPtrNil rfl (by kernel_rfl)) (by kernel_rfl) rfl ?_
  refine gom ?_
  refine WC.ret ?_
  refine WK.un ?_
  exact QF.p1 (.inl rfl) rfl (.tmp rfl) (⟨rfl, rfl, rfl⟩)
theorem rfault_fn (G : Gh) (b : Nat) (BA : Option Addr) (n bc k : Nat) (f : Int × Int) : Fn Tryz.prog 62 #[.pointer (some ⟨b, 0, none⟩)] G [rdB b BA n bc k f] fun e G' H' => e = .returned (.agg #[.int .i64 f.1, .int .i64 f.2]) ∧ G = G' ∧ H' = [rdB b BA n bc k f] := by
  refine Fn.enter Tryz.func62 rfl rfl fun w0 => ?_
  refine WC.seq ?_
  refine WC.region ?_
  refine WL.op (by kernel_rfl) (OW.alloc rfl fun b2 => ?_)
  refine gom ?_
  refine WL.p (Gp.eqPtrNil rfl (by kernel_rfl)) (by kernel_rfl) rfl ?_
  refine gom ?_
  refine WC.ret ?_
  refine WK.un ?_
  exact QF.p1 (.inl rfl) rfl (.cell rfl inferInstance inferInstance (by (repeat first | exact .here | apply At.there)) rfl rfl) (⟨rfl, rfl, rfl⟩)
/-- what is told at the end -/
def endF (n k : Nat) (f : Int × Int) : Int × Int := if f = (0, 0) ∧ k < n then (6, (k : Int)) else f
theorem rend_fn (G : Gh) (b : Nat) (BA : Option Addr) (n bc k : Nat) (f : Int × Int) (hk : k ≤ n) (hn : n ≤ 1000000000000000) : Fn Tryz.prog 63 #[.pointer (some ⟨b, 0, none⟩)] G [rdB b BA n bc k f] fun e G' H' => e = .returned (.agg #[.int .i64 (endF n k f).1, .int .i64 (endF n k f).2]) ∧ G = G' ∧ H' = [rdB b BA n bc k (endF n k f)] := by
  refine Fn.enter Tryz.func63 rfl rfl fun w0 => ?_
  refine WC.seq ?_
  refine WC.region ?_
  refine WL.op (by kernel_rfl) (OW.alloc rfl fun b2 => ?_)
  refine gom ?_
  refine WL.op (by kernel_rfl) (OW.callK rfl (well_fn G b BA n bc k f) rfl fun v' G' H' h hg => ?_)
  obtain ⟨he, rfl, rfl⟩ := h
  cases he
  by_cases hf : f = (0, 0)
  · rw [decide_eq_true hf]
    refine gom ?_
    refine WL.op (by kernel_rfl) (OW.callK rfl (left_fn G b BA n bc k f hk hn) rfl fun v' G' H' h hg => ?_)
    obtain ⟨he, rfl, rfl⟩ := h
    cases he
    by_cases hlt : k < n
    · have e2 : decide ((0 : Int) < ((n - k : Nat) : Int)) = true := decide_eq_true (by omega)
      have hr : endF n k f = (6, (k : Int)) := by unfold endF; rw [if_pos ⟨hf, hlt⟩]
      rw [hr]
      refine gom ?_
      refine WL.op (by kernel_rfl) (OW.callK rfl (fails_fn G b BA n bc k f 6 (k : Int)) rfl fun v' G' H' h hg => ?_)
      obtain ⟨he, rfl, rfl⟩ := h
      cases he
      refine gom ?_
      refine WL.op (by kernel_rfl) (OW.callK rfl (rfault_fn G b BA n bc k (6, (k : Int))) rfl fun v' G' H' h hg => ?_)
      obtain ⟨he, rfl, rfl⟩ := h
      cases he
      refine gom ?_
      refine WC.ret ?_
      refine WK.un ?_
      exact QF.p1 (.inl rfl) rfl (.cell rfl inferInstance inferInstance (by (repeat first | exact .here | apply At.there)) rfl rfl) (⟨rfl, rfl, rfl⟩)
    · have e2 : decide ((0 : Int) < ((n - k : Nat) : Int)) = false := decide_eq_false (by omega)
      have hr : endF n k f = f := by unfold endF; rw [if_neg (fun h => hlt h.2)]
      rw [hr]
      refine gom ?_
      refine WL.op (by kernel_rfl) (OW.callK rfl (rfault_fn G b BA n bc k f) rfl fun v' G' H' h hg => ?_)
      obtain ⟨he, rfl, rfl⟩ := h
      cases he
      refine gom ?_
      refine WC.ret ?_
      refine WK.un ?_
      exact QF.p1 (.inl rfl) rfl (.cell rfl inferInstance inferInstance (by (repeat first | exact .here | apply At.there)) rfl rfl) (⟨rfl, rfl, rfl⟩)
  · have hr : endF n k f = f := by unfold endF; rw [if_neg (fun h => hf h.1)]
    rw [decide_eq_false hf, hr]
    refine gom ?_
    refine WL.op (by kernel_rfl) (OW.callK rfl (rfault_fn G b BA n bc k f) rfl fun v' G' H' h hg => ?_)
    obtain ⟨he, rfl, rfl⟩ := h
    cases he
    refine gom ?_
    refine WC.ret ?_
    refine WK.un ?_
    exact QF.p1 (.inl rfl) rfl (.cell rfl inferInstance inferInstance (by (repeat first | exact .here | apply At.there)) rfl rfl) (⟨rfl, rfl, rfl⟩)
/-- a byte read: what comes, and where the reader stands then -/
def byteR (bs : List Int) (k : Nat) (f : Int × Int) : Int × Nat × (Int × Int) :=
  if f = (0, 0) then (match bs[k]? with | some c => (c, k + 1, f) | none => (0, k, (4, (k : Int)))) else (0, k, f)
theorem rbyte_fn (G : Gh) (b : Nat) (BA : Option Addr) (bs : List Int) (bc k : Nat) (f : Int × Int) (hB : Sl (Kd.int .u8) G BA bs) (hk : k ≤ bs.length) (hn : bs.length ≤ 1000000000000000 - 1) :
    Fn Tryz.prog 61 #[.pointer (some ⟨b, 0, none⟩)] G [rdB b BA bs.length bc k f] fun e G' H' => e = .returned (.int .u8 (byteR bs k f).1) ∧ G = G' ∧ H' = [rdB b BA bs.length bc (byteR bs k f).2.1 (byteR bs k f).2.2] := by
  refine Fn.enter Tryz.func61 rfl rfl fun w0 => ?_
  refine gom ?_
  refine WL.op (by kernel_rfl) (OW.callK rfl (well_fn G b BA bs.length bc k f) rfl fun v' G' H' h hg => ?_)
  obtain ⟨he, rfl, rfl⟩ := h
  cases he
  by_cases hf : f = (0, 0)
  rotate_left
  · have hr : byteR bs k f = (0, k, f) := by unfold byteR; rw [if_neg hf]
    rw [decide_eq_false hf, hr]
    refine gom ?_
    refine WC.ret ?_
    refine WK.un ?_
    exact QF.p1 (.inl rfl) rfl (.tmp rfl) (⟨rfl, rfl, rfl⟩)
  rw [decide_eq_true hf]
  refine gom ?_
  refine WL.op (by kernel_rfl) (OW.callK rfl (left_fn G b BA bs.length bc k f hk (by omega)) rfl fun v' G' H' h hg => ?_)
  obtain ⟨he, rfl, rfl⟩ := h
  cases he
  by_cases hlt : k < bs.length
  · have e2 : decide (((bs.length - k : Nat) : Int) < 1) = false := decide_eq_false (by omega)
    obtain ⟨c, hc⟩ : ∃ c, bs[k]? = some c := ⟨_, List.getElem?_eq_getElem hlt⟩
    obtain ⟨bb, bo, cs, rfl, hks, hcs⟩ := hB k c hc
    obtain rfl : cs = [.int .u8 c] := hks
    have hr : byteR bs k f = (c, k + 1, f) := by unfold byteR; rw [if_pos hf, hc]
    have x2 : IntKind.i64.wrap ((k : Int) + 1) = ((k + 1 : Nat) : Int) := by rw [wrapI (by omega) (by omega)]; rfl
    have x3 : IntKind.i64.wrap (((k + 1 : Nat) : Int) - 1) = (k : Int) := by rw [wrapI (by omega) (by omega)]; omega
    have x0 : (0 : Int) ≤ (k : Int) := by omega
    have x1 : (k : Int) < (bs.length : Int) := by omega
    rw [hr]
    refine go ?_
    refine WC.pick [rdB b (some ⟨bb, bo, none⟩) bs.length bc (k + 1) f] ?_
    refine WC.drawS (Hs := [rdB b (some ⟨bb, bo, none⟩) bs.length bc (k + 1) f]) mixed (by repeat (first | exact Pk.nil | exact Pk.all | exact Pk.app | exact Pk.appR | with_reducible apply Pk.na | (apply Pk.cons; (repeat first | exact .here | apply Rem.there | apply Rem.app)) | apply Pk.skip | apply Pk.skipA)) ?_
    refine WB.tp (i := 0) rfl (by kernel_rfl) (by kernel_rfl) rfl (Gp.move rfl) ?_
    refine WB.tp (i := 1) rfl (by kernel_rfl) (by kernel_rfl) rfl (Gp.nilCheck rfl) ?_
    refine WB.tp (i := 2) rfl (by kernel_rfl) (by kernel_rfl) rfl (Gp.fieldAddr rfl) ?_
    refine WB.tp (i := 3) rfl (by kernel_rfl) (by kernel_rfl) rfl (Gp.fieldAddr rfl) ?_
    refine WB.tp (i := 5) rfl (by kernel_rfl) (by kernel_rfl) rfl (Gp.move rfl) ?_
    refine WB.tp (i := 6) rfl (by kernel_rfl) (by kernel_rfl) rfl (Gp.nilCheck rfl) ?_
    refine WB.tp (i := 7) rfl (by kernel_rfl) (by kernel_rfl) rfl (Gp.fieldAddr rfl) ?_
    refine WB.tp (i := 8) rfl (by kernel_rfl) (by kernel_rfl) rfl (Gp.fieldAddr rfl) ?_
    (first | (refine WB.tv (i := 9) rfl (by kernel_rfl) (by kernel_rfl) rfl (Gv.load1 rfl (by (repeat first | exact .here | apply At.there)) (by first | rfl | assumption)) ?_) | (refine WB.tv (i := 9) rfl (by kernel_rfl) (by kernel_rfl) rfl (Gv.loadN rfl (by (repeat first | exact .here | apply At.there)) (by rfl) (by rfl)) ?_) | (refine WB.tv (i := 9) rfl (by kernel_rfl) (by kernel_rfl) rfl (Gv.loadG1 rfl (by assumption) rfl) ?_) | (refine WB.tv (i := 9) rfl (by kernel_rfl) (by kernel_rfl) rfl (Gv.loadG0 rfl (by assumption) rfl) ?_) | (refine WB.tv (i := 9) rfl (by kernel_rfl) (by kernel_rfl) rfl (Gv.loadGN rfl (by assumption) rfl) ?_))
    refine WB.tp (i := 10) rfl (by kernel_rfl) (by kernel_rfl) rfl (Gp.subTo rfl rfl x3) ?_
    (first | (refine WB.tv (i := 4) rfl (by kernel_rfl) (by kernel_rfl) rfl (Gv.load1 rfl (by (repeat first | exact .here | apply At.there)) (by first | rfl | assumption)) ?_) | (refine WB.tv (i := 4) rfl (by kernel_rfl) (by kernel_rfl) rfl (Gv.loadN rfl (by (repeat first | exact .here | apply At.there)) (by rfl) (by rfl)) ?_) | (refine WB.tv (i := 4) rfl (by kernel_rfl) (by kernel_rfl) rfl (Gv.loadG1 rfl (by assumption) rfl) ?_) | (refine WB.tv (i := 4) rfl (by kernel_rfl) (by kernel_rfl) rfl (Gv.loadG0 rfl (by assumption) rfl) ?_) | (refine WB.tv (i := 4) rfl (by kernel_rfl) (by kernel_rfl) rfl (Gv.loadGN rfl (by assumption) rfl) ?_))
    refine WB.tp (i := 11) rfl (by kernel_rfl) (by kernel_rfl) rfl (Gp.indexAddr rfl rfl (by first | assumption | omega | decide) (by first | assumption | omega | decide | (simp only [List.length_cons, List.length_nil]; decide))) ?_
    refine WB.tv (i := 12) rfl (by kernel_rfl) (by kernel_rfl) rfl (Gv.loadG1 (i := 0) rfl hcs rfl) ?_
    refine WB.tp (i := 13) rfl (by kernel_rfl) (by kernel_rfl) rfl (Gp.assign rfl) ?_
    refine WB.done (by kernel_rfl) ?_
    refine WK.un ?_
    refine WC.ret ?_
    refine WK.un ?_
    exact QF.p1 (.inl rfl) rfl (.tmp rfl) (⟨rfl, rfl, rfl⟩)
  · have e2 : decide (((bs.length - k : Nat) : Int) < 1) = true := decide_eq_true (by omega)
    have hr : byteR bs k f = (0, k, (4, (k : Int))) := by unfold byteR; rw [if_pos hf, List.getElem?_eq_none (by omega)]
    rw [hr]
    refine gom ?_
    refine WL.op (by kernel_rfl) (OW.callK rfl (fails_fn G b (BA) bs.length bc k f 4 (k : Int)) rfl fun v' G' H' h hg => ?_)
    obtain ⟨he, rfl, rfl⟩ := h
    cases he
    refine gom ?_
    refine WC.ret ?_
    refine WK.un ?_
    exact QF.p1 (.inl rfl) rfl (.tmp rfl) (⟨rfl, rfl, rfl⟩)
end Go.Proofs.YtkmigdmdppkpoaaGreatDoor.Gb
namespace Go.Proofs.YtkmigdmdppkpoaaGreatDoor.Gb
open Go Go.Proofs Go.MapKept
set_option linter.unusedVariables false
set_option linter.unusedSimpArgs false
set_option linter.unusedSectionVars false
attribute [local irreducible] Tryz.prog

/-- a number in bytes, from the front on: how it ends: the number, how many bytes, an error -/
def numL (n k : Nat) : List Int → Int × Int × Int
  | [] => (0, 0, 4)
  | c :: r =>
    if k = 9 ∧ 1 < c then (0, 0, 10)
    else if c < 128 then (if c = 0 ∧ 0 < k then (0, 0, 5) else (((n + c.toNat % 128 * 128 ^ k : Nat) : Int), ((k + 1 : Nat) : Int), 0))
    else numL (n + c.toNat % 128 * 128 ^ k) (k + 1) r
theorem or_u64 (n m k : Nat) (hn : n < 128 ^ k) (h : n + m * 128 ^ k < 18446744073709551616) : bits .or .u64 (n : Int) ((m * 128 ^ k : Nat) : Int) = ((n + m * 128 ^ k : Nat) : Int) := by
  have hp : (128 : Nat) ^ k = 2 ^ (7 * k) := by rw [Nat.pow_mul]
  have h1 : m * 128 ^ k ||| n = m * 128 ^ k + n := by
    rw [hp] at hn ⊢
    rw [← Nat.shiftLeft_eq, ← Nat.shiftLeft_add_eq_or_of_lt hn]
  have h2 : n ||| m * 128 ^ k = n + m * 128 ^ k := by rw [Nat.or_comm, h1, Nat.add_comm]
  have e1 : ∀ q : Nat, BitVec.ofInt IntKind.u64.bits (q : Int) = BitVec.ofNat 64 q := fun q => BitVec.ofInt_natCast ..
  unfold bits
  dsimp only
  rw [e1, e1]
  have e2 : (BitVec.ofNat 64 n ||| BitVec.ofNat 64 (m * 128 ^ k)).toNat = n + m * 128 ^ k := by
    rw [BitVec.toNat_or, BitVec.toNat_ofNat, BitVec.toNat_ofNat, Nat.mod_eq_of_lt (by omega), Nat.mod_eq_of_lt (by omega), h2]
  show IntKind.u64.wrap (((BitVec.ofNat 64 n ||| BitVec.ofNat 64 (m * 128 ^ k)).toNat : Nat) : Int) = _
  rw [e2]
  obtain ⟨q, hq⟩ : ∃ q : Nat, q = n + m * 128 ^ k := ⟨_, rfl⟩
  rw [← hq] at h ⊢
  simp [IntKind.wrap, IntKind.signed, IntKind.bits]
  omega
end Go.Proofs.YtkmigdmdppkpoaaGreatDoor.Gb
namespace Go.Proofs.YtkmigdmdppkpoaaGreatDoor.Gb
open Go Go.Proofs Go.MapKept
set_option linter.unusedVariables false
set_option linter.unusedSimpArgs false
set_option linter.unusedSectionVars false

/-- and the other way round -/
theorem uintL_numL : ∀ (bs : List Int) (n k r w : Nat), (∀ c ∈ bs, 0 ≤ c ∧ c < 256) → numL n k bs = ((r : Int), (w : Int), 0) →
    ∃ m, uintL m = bs.take (w - k) ∧ r = n + m * 128 ^ k ∧ (0 < k → 0 < m) ∧ k < w ∧ w - k ≤ bs.length
  | [], n, k, r, w, _, h => by simp [numL] at h
  | c :: bs, n, k, r, w, hb, h => by
    have hc := hb c (List.mem_cons_self ..)
    simp only [numL] at h
    split at h
    · simp at h
    · split at h
      · split at h
        · simp at h
        · rename_i h1 h2 h3
          simp only [Prod.mk.injEq, and_true] at h
          have hcm : c.toNat % 128 = c.toNat := Nat.mod_eq_of_lt (by omega)
          rw [hcm] at h
          refine ⟨c.toNat, ?_, by omega, fun hk => ?_, by omega, by simp; omega⟩
          · rw [uintL_lt (by omega), show w - k = 1 by omega]
            simp; omega
          · rcases Nat.eq_zero_or_pos c.toNat with h0 | h0
            · exact absurd ⟨by omega, hk⟩ h3
            · exact h0
      · rename_i h1 h2
        obtain ⟨m, e1, e2, e3, e4, e5⟩ := uintL_numL bs _ (k + 1) r w (fun x hx => hb x (List.mem_cons_of_mem _ hx)) h
        have hm := e3 (by omega)
        have hq : (c.toNat % 128 + 128 * m) / 128 = m := by omega
        have hr : (c.toNat % 128 + 128 * m) % 128 = c.toNat % 128 := by omega
        refine ⟨c.toNat % 128 + 128 * m, ?_, ?_, fun _ => by omega, by omega, by simp; omega⟩
        · rw [uintL_ge (by omega), hq, hr, show w - k = (w - (k + 1)) + 1 by omega, List.take_succ_cons, e1]
          congr 1; omega
        · rw [e2, Nat.pow_succ, Nat.add_mul]
          have : m * (128 ^ k * 128) = 128 * m * 128 ^ k := by rw [Nat.mul_comm (128 ^ k) 128, ← Nat.mul_assoc, Nat.mul_comm m 128]
          omega
theorem numL_pos : ∀ (bs : List Int) (n k : Nat), (∀ c ∈ bs, 0 ≤ c ∧ c < 256) → ∃ (r w : Nat) (e : Int), numL n k bs = ((r : Int), (w : Int), e) ∧ (e ≠ 0 → r = 0 ∧ w = 0)
  | [], n, k, _ => ⟨0, 0, 4, rfl, fun _ => ⟨rfl, rfl⟩⟩
  | c :: bs, n, k, hb => by
    simp only [numL]
    split
    · exact ⟨0, 0, 10, rfl, fun _ => ⟨rfl, rfl⟩⟩
    · split
      · split
        · exact ⟨0, 0, 5, rfl, fun _ => ⟨rfl, rfl⟩⟩
        · exact ⟨_, _, 0, rfl, fun h => absurd rfl h⟩
      · exact numL_pos bs _ _ fun x hx => hb x (List.mem_cons_of_mem _ hx)

/-- a number of at most so much: it, and where the reader stands then -/
def cntR (bs : List Int) (most : Int) (k : Nat) (f : Int × Int) : Int × Nat × (Int × Int) :=
  if f = (0, 0) then
    (if (numL 0 0 (bs.drop k)).2.2 = 0 then
      (if most < (numL 0 0 (bs.drop k)).1 then (0, k, (11, (k : Int))) else ((numL 0 0 (bs.drop k)).1, k + (numL 0 0 (bs.drop k)).2.1.toNat, (0, 0)))
     else (0, k, ((numL 0 0 (bs.drop k)).2.2, (k : Int))))
  else (0, k, f)
/-- one instruction read -/
def stepR (bs : List Int) (k : Nat) : (Int × Int) × Nat × (Int × Int) :=
  let b := byteR bs k (0, 0)
  if b.2.2 = (0, 0) then
    (if (rowC b.1).name = ⟨#[]⟩ then ((b.1, 0), k, (5, (k : Int)))
     else if (rowC b.1).n then (let c := cntR bs 2147483647 b.2.1 (0, 0); ((b.1, c.1), c.2.1, c.2.2))
     else ((b.1, 0), b.2.1, (0, 0)))
  else ((b.1, 0), b.2.1, b.2.2)
def readL (bs : List Int) : Nat → Nat → List (Int × Int) × Nat × (Int × Int)
  | 0, k => ([], k, (0, 0))
  | m + 1, k => if (stepR bs k).2.2 = (0, 0) then (let r := readL bs m (stepR bs k).2.1; ((stepR bs k).1 :: r.1, r.2)) else ([], (stepR bs k).2)
def readR (bs : List Int) : List (Int × Int) × (Int × Int) :=
  let c := cntR bs 16384 0 (0, 0)
  let r := readL bs c.1.toNat c.2.1
  let fin := if c.2.2 = (0, 0) then r.2 else (c.2.1, c.2.2)
  let e := endF bs.length fin.1 fin.2
  if e = (0, 0) then (r.1, (0, 0)) else ([], e)

theorem cntR_ok {bs : List Int} {most : Int} {k k' : Nat} {n : Int} (hb : ∀ c ∈ bs, 0 ≤ c ∧ c < 256) (hk : k ≤ bs.length) (h : cntR bs most k (0, 0) = (n, k', (0, 0))) :
    ∃ m : Nat, n = (m : Int) ∧ n ≤ most ∧ bs.drop k = uintL m ++ bs.drop k' ∧ k < k' ∧ k' ≤ bs.length := by
  unfold cntR at h
  rw [if_pos rfl] at h
  obtain ⟨r, w, e, he, _⟩ := numL_pos (bs.drop k) 0 0 fun c hc => hb c (List.mem_of_mem_drop hc)
  rw [he] at h
  dsimp only at h
  split at h
  · rename_i h0
    subst h0
    split at h
    · simp at h
    · rename_i hm
      obtain ⟨m, e1, e2, _, e4, e5⟩ := uintL_numL (bs.drop k) 0 0 r w (fun c hc => hb c (List.mem_of_mem_drop hc)) he
      simp only [Prod.mk.injEq, and_true, Int.toNat_natCast] at h
      obtain ⟨rfl, rfl⟩ := h
      rw [List.length_drop] at e5
      refine ⟨r, rfl, by omega, ?_, by omega, by omega⟩
      have : r = m := by simpa using e2
      rw [this, e1, ← List.drop_drop, Nat.sub_zero, List.take_append_drop]
  · rename_i h0
    simp only [Prod.mk.injEq] at h
    exact absurd h.2.2.1 h0
theorem cntR_le {bs : List Int} {most : Int} {k : Nat} {f : Int × Int} (hb : ∀ c ∈ bs, 0 ≤ c ∧ c < 256) (hk : k ≤ bs.length) (hm : 0 ≤ most) : (cntR bs most k f).2.1 ≤ bs.length ∧ 0 ≤ (cntR bs most k f).1 ∧ (cntR bs most k f).1 ≤ most ∧ (f ≠ (0, 0) → (cntR bs most k f).2.2 = f) ∧ ((cntR bs most k f).2.2 ≠ (0, 0) → (cntR bs most k f).1 = 0 ∧ (cntR bs most k f).2.1 = k) := by
  by_cases hf : f = (0, 0)
  · subst hf
    by_cases h0 : (cntR bs most k (0, 0)).2.2 = (0, 0)
    · obtain ⟨m, e1, e2, e3, e4, e5⟩ := cntR_ok (n := (cntR bs most k (0, 0)).1) (k' := (cntR bs most k (0, 0)).2.1) hb hk (Prod.ext rfl (Prod.ext rfl h0))
      exact ⟨e5, by omega, e2, fun h => absurd rfl h, fun h => absurd h0 h⟩
    · have : cntR bs most k (0, 0) = (0, k, (cntR bs most k (0, 0)).2.2) := by
        unfold cntR at h0 ⊢
        rw [if_pos rfl] at h0 ⊢
        split at h0
        · rename_i h1
          rw [if_pos h1]
          split at h0
          · rename_i h2; rw [if_pos h2]
          · exact absurd rfl h0
        · rename_i h1; rw [if_neg h1]
      rw [this]
      exact ⟨hk, Int.le_refl 0, hm, fun h => absurd rfl h, fun _ => ⟨rfl, rfl⟩⟩
  · have : cntR bs most k f = (0, k, f) := by unfold cntR; rw [if_neg hf]
    rw [this]
    exact ⟨hk, Int.le_refl 0, hm, fun _ => rfl, fun _ => ⟨rfl, rfl⟩⟩
theorem readL_len {bs : List Int} : ∀ (n k : Nat), (readL bs n k).1.length ≤ n
  | 0, k => by simp [readL]
  | n + 1, k => by
    simp only [readL]
    split
    · have := readL_len (bs := bs) n (stepR bs k).2.1
      simp; omega
    · simp
theorem readR_len (bs : List Int) (hb : ∀ c ∈ bs, 0 ≤ c ∧ c < 256) : (readR bs).1.length ≤ 16384 := by
  have h1 := readL_len (bs := bs) (cntR bs 16384 0 (0, 0)).1.toNat (cntR bs 16384 0 (0, 0)).2.1
  have h2 := (cntR_le (most := 16384) (k := 0) (f := (0, 0)) hb (Nat.zero_le _) (by decide)).2
  unfold readR
  dsimp only
  generalize endF bs.length _ _ = e
  by_cases he : e = (0, 0)
  · rw [if_pos he]; dsimp only; omega
  · rw [if_neg he]; exact Nat.zero_le _
theorem encI_nums {i : Int × Int} (h : mayI i = true) : ∀ c ∈ encI i, 0 ≤ c ∧ c < 256 := fun c hc => by
  obtain ⟨b1, b2, b3, b4⟩ := mayI_bounds h
  have hu : ∀ (k n : Nat), n < 128 ^ (k + 1) → ∀ c ∈ uintL n, 0 ≤ c ∧ c < 256 := by
    intro k
    induction k with
    | zero => intro n hn c hc; rw [uintL_lt (by simpa using hn)] at hc; simp at hc; omega
    | succ k ih =>
      intro n hn c hc
      by_cases h128 : n < 128
      · rw [uintL_lt h128] at hc; simp at hc; omega
      · rw [uintL_ge h128] at hc
        rcases List.mem_cons.1 hc with rfl | hc
        · omega
        · exact ih (n / 128) (by rw [Nat.div_lt_iff_lt_mul (by decide)]; rw [Nat.pow_succ] at hn; exact hn) c hc
  unfold encI at hc
  rcases List.mem_cons.1 hc with rfl | hc
  · omega
  · split at hc
    · exact hu 4 i.2.toNat (by omega) c hc
    · simp at hc
end Go.Proofs.YtkmigdmdppkpoaaGreatDoor.Gb
namespace Go.Proofs.YtkmigdmdppkpoaaGreatDoor.Gb
open Go Go.Proofs Go.MapKept
set_option linter.unusedVariables false
set_option linter.unusedSimpArgs false
set_option linter.unusedSectionVars false
section
variable {P : Program} {L : List (Nat × Value)} {d : Option Tmp} {ty : TypeId} {pos : String} {af : Array Edge} {gu : Option (Nat × Bool)}
theorem Gp.andTo {t t' : TypeId} {x y : Operand} {k : IntKind} {m n r : Int} (hx : ev L x = some (.int k m)) (hy : ev L y = some (.int k n)) (hr : bits .and k m n = r) : Gp P L ⟨d, .binOp .and t x y t', ty, pos, af, gu⟩ (.int k r) :=
  fun a st w => by
    have h : Op.intBits .and k m n = pure (.int k (bits .and k m n)) := rfl
    subst hr
    simp [execOp, st.eval hx, st.eval hy, eqGuard_and, binOp_and, h]
theorem Gp.shlTo {t t' : TypeId} {x y : Operand} {k k' : IntKind} {m n r : Int} (hx : ev L x = some (.int k m)) (hy : ev L y = some (.int k' n)) (hn : 0 ≤ n) (hr : k.wrap (m * 2 ^ min n.toNat k.bits) = r) : Gp P L ⟨d, .binOp .shl t x y t', ty, pos, af, gu⟩ (.int k r) := hr ▸ Gp.shl hx hy hn
end
theorem and127 : ∀ m : Nat, m < 256 → bits .and .u8 (m : Int) 127 = ((m % 128 : Nat) : Int) := by decide +kernel
theorem wrapU64 {x : Nat} (h : x < 18446744073709551616) : IntKind.u64.wrap (x : Int) = (x : Int) := by
  simp [IntKind.wrap, IntKind.signed, IntKind.bits]; omega
theorem shl_num (m i : Nat) (hi : i ≤ 9) (h : m * 128 ^ i < 18446744073709551616) : IntKind.u64.wrap ((m : Int) * 2 ^ min ((7 * i : Nat) : Int).toNat IntKind.u64.bits) = ((m * 128 ^ i : Nat) : Int) := by
  have e1 : min ((7 * i : Nat) : Int).toNat IntKind.u64.bits = 7 * i := by rw [Int.toNat_natCast]; exact Nat.min_eq_left (by show 7 * i ≤ 64; omega)
  have hp : (128 : Nat) ^ i = 2 ^ (7 * i) := by rw [Nat.pow_mul]
  have e2 : (m : Int) * 2 ^ (7 * i) = ((m * 128 ^ i : Nat) : Int) := by rw [hp]; simp
  rw [e1, e2]
  exact wrapU64 h
theorem pow128 {n m i : Nat} (hn : n < 128 ^ i) (hm : m < 128) : n + m * 128 ^ i < 128 ^ (i + 1) := by
  rw [Nat.pow_succ, Nat.mul_comm _ 128]
  have : m * 128 ^ i ≤ 127 * 128 ^ i := Nat.mul_le_mul_right _ (by omega)
  omega
theorem num_fits {n m i : Nat} (hn : n < 128 ^ i) (hm : m < 128) (hi : i ≤ 9) (h9 : i = 9 → m ≤ 1) : n + m * 128 ^ i < 18446744073709551616 := by
  by_cases h : i = 9
  · have := h9 h
    subst h
    have : m * 128 ^ 9 ≤ 1 * 128 ^ 9 := Nat.mul_le_mul_right _ this
    omega
  · have h1 := pow128 hn hm
    have h2 : (128 : Nat) ^ (i + 1) ≤ 128 ^ 9 := Nat.pow_le_pow_right (by decide) (by omega)
    have h3 : (128 : Nat) ^ 9 < 18446744073709551616 := by decide
    omega
attribute [local irreducible] Tryz.prog
set_option maxHeartbeats 2000000 in
set_option maxRecDepth 20000 in
theorem number_fn (G : Gh) (b k : Nat) (f : Int × Int) (BA : Option Addr) (bs : List Int) (bc : Nat) (pl : Nat) (hB : Sl (Kd.int .u8) G BA bs) (hbs : ∀ c ∈ bs, 0 ≤ c ∧ c < 256) (hpl : pl ≤ bs.length) (hn : bs.length ≤ 140737488351232) :
    Fn Tryz.prog 86 #[.pointer (some ⟨b, 0, none⟩), .int .i64 (pl : Int)] G [rdB b BA bs.length bc k f] fun e G' H' => e = .returned (.tuple #[.int .u64 (numL 0 0 (bs.drop pl)).1, .int .i64 (numL 0 0 (bs.drop pl)).2.1, .int .i64 (numL 0 0 (bs.drop pl)).2.2]) ∧ G = G' ∧ H' = [rdB b BA bs.length bc k f] := by
  refine Fn.enter Tryz.func86 rfl rfl fun w0 => ?_
  refine gom ?_
  refine WC.loop (X := Nat × Nat) (fun s => [(0, .pointer (some ⟨b, 0, none⟩)), (1, .int .i64 (pl : Int)), (7, .int .u64 (s.1 : Int)), (8, .int .i64 (s.2 : Int))]) (fun _ => G) (fun _ => [rdB b BA bs.length bc k f]) (fun s => 10 - s.2) (fun s => numL s.1 s.2 (bs.drop (pl + s.2)) = numL 0 0 (bs.drop pl) ∧ s.1 < 128 ^ s.2 ∧ s.2 ≤ 9) (0, 0) ⟨rfl, by decide, by decide⟩ (by exact ⟨rfl, rfl, rfl, rfl, trivial⟩) rfl (List.Sublist.refl _) fun s hs => ?_
  obtain ⟨n, i⟩ := s
  obtain ⟨hr, hn128, hi9⟩ := hs
  dsimp only at hr hn128 hi9
  have x2 : IntKind.i64.wrap ((pl : Int) + (i : Int)) = ((pl + i : Nat) : Int) := by rw [wrapI (by omega) (by omega)]; omega
  by_cases hend : bs.length ≤ pl + i
  · have e3 : decide ((bs.length : Int) ≤ ((pl + i : Nat) : Int)) = true := decide_eq_true (by omega)
    rw [List.drop_eq_nil_of_le hend] at hr
    rw [← hr]
    refine gom ?_
    refine WC.ret ?_
    refine WK.un ?_
    exact QF.p3 (.inl rfl) rfl (.tmp rfl) (.tmp rfl) (.tmp rfl) (⟨rfl, rfl, rfl⟩)
  have e3 : decide ((bs.length : Int) ≤ ((pl + i : Nat) : Int)) = false := decide_eq_false (by omega)
  obtain ⟨c, hc⟩ : ∃ c, bs[pl + i]? = some c := ⟨_, List.getElem?_eq_getElem (by omega)⟩
  have hcb := hbs c (List.mem_of_getElem? hc)
  have hdrop : bs.drop (pl + i) = c :: bs.drop (pl + (i + 1)) := by
    rw [List.drop_eq_getElem_cons (by omega)]; congr 1; exact (List.getElem?_eq_some_iff.1 hc).2
  obtain ⟨m, rfl⟩ : ∃ m : Nat, c = (m : Int) := ⟨c.toNat, by omega⟩
  rw [hdrop] at hr
  simp only [numL] at hr
  obtain ⟨bb, bo, cs, rfl, hks, hcs⟩ := hB (pl + i) _ hc
  obtain rfl : cs = [.int .u8 (m : Int)] := hks
  have x0 : (0 : Int) ≤ ((pl + i : Nat) : Int) := by omega
  have x1 : ((pl + i : Nat) : Int) < (bs.length : Int) := by omega
  by_cases hq : i = 9
  · have e9 : ((i : Int) == 9) = true := by rw [beq_iff_eq]; omega
    by_cases hc1 : 1 < m
    · have e1 : decide ((1 : Int) < (m : Int)) = true := decide_eq_true (by omega)
      rw [if_pos ⟨hq, by omega⟩] at hr
      rw [← hr]
      refine gom ?_
      refine WC.ret ?_
      refine WK.un ?_
      exact QF.p3 (.inl rfl) rfl (.tmp rfl) (.tmp rfl) (.tmp rfl) (⟨rfl, rfl, rfl⟩)
    have e1 : decide ((1 : Int) < (m : Int)) = false := decide_eq_false (by omega)
    have h9c : ¬ (i = 9 ∧ 1 < (m : Int)) := fun h => hc1 (by omega)
    have hfit := num_fits hn128 (m := m % 128) (by omega) hi9 (by omega)
    have y7 : IntKind.i64.wrap (7 * (i : Int)) = ((7 * i : Nat) : Int) := by rw [wrapI (by omega) (by omega)]; omega
    have yI : IntKind.i64.wrap ((i : Int) + 1) = ((i + 1 : Nat) : Int) := by rw [wrapI (by omega) (by omega)]; rfl
    have hshl := shl_num (m % 128) i hi9 (by omega)
    have hor := or_u64 n (m % 128) i hn128 hfit
    have hpw := pow128 hn128 (m := m % 128) (by omega)
    obtain ⟨u, hu⟩ : ∃ u : Nat, u = m % 128 * 128 ^ i := ⟨_, rfl⟩
    obtain ⟨q, hq128⟩ : ∃ q : Nat, q = 128 ^ (i + 1) := ⟨_, rfl⟩
    have hnm : (m : Int).toNat = m := Int.toNat_natCast m
    rw [hnm] at hr
    rw [← hu] at hfit hshl hor hpw hr
    rw [← hq128] at hpw
    obtain ⟨v, hv⟩ : ∃ v : Nat, v = n + u := ⟨_, rfl⟩
    rw [← hv] at hfit hor hpw hr
    have y8 : IntKind.u64.wrap ((n : Int) + (u : Int)) = (v : Int) := by
      rw [show (n : Int) + (u : Int) = (v : Int) by omega]; exact wrapU64 hfit
    clear hn128
    refine gom ?_
    refine WL.p (Gp.andTo (r := ((m % 128 : Nat) : Int)) rfl rfl (and127 _ (by omega))) (by kernel_rfl) rfl ?_
    refine WL.p (Gp.convTo (r := ((m % 128 : Nat) : Int)) rfl (by exact wrapU64 (by omega))) (by kernel_rfl) rfl ?_
    refine gom ?_
    refine WL.p (Gp.mulTo (r := ((7 * i : Nat) : Int)) rfl rfl y7) (by kernel_rfl) rfl ?_
    refine WL.p (Gp.shlTo (r := (u : Int)) rfl rfl (by omega) hshl) (by kernel_rfl) rfl ?_
    refine WL.p (Gp.orTo (r := (v : Int)) rfl rfl hor) (by kernel_rfl) rfl ?_
    clear hshl hor y8 y7
    by_cases hlt : m < 128
    rotate_left
    · have e5 : decide ((m : Int) < 128) = false := decide_eq_false (by omega)
      rw [if_neg h9c, if_neg (by omega)] at hr
      have hi8 : i < 9 := by
        rcases Nat.lt_or_ge i 9 with h | h
        · exact h
        · exact absurd ⟨by omega, by omega⟩ h9c
      refine gom ?_
      exact WK.again (v, i + 1) (by dsimp only; omega) ⟨by rw [← hr], by dsimp only; rw [← hq128]; exact hpw, by dsimp only; omega⟩ (by exact ⟨rfl, rfl, rfl, rfl, trivial⟩) rfl (List.Sublist.refl _)
    have e5 : decide ((m : Int) < 128) = true := decide_eq_true (by omega)
    rw [if_neg h9c, if_pos (by omega)] at hr
    by_cases hm0 : m = 0
    · subst hm0
      have e6 : (((0 : Nat) : Int) == 0) = true := rfl
      by_cases hi0 : 0 < i
      · have e7 : decide ((0 : Int) < (i : Int)) = true := decide_eq_true (by omega)
        rw [if_pos ⟨rfl, hi0⟩] at hr
        rw [← hr]
        refine gom ?_
        refine WC.ret ?_
        refine WK.un ?_
        exact QF.p3 (.inl rfl) rfl (.tmp rfl) (.tmp rfl) (.tmp rfl) (⟨rfl, rfl, rfl⟩)
      · have e7 : decide ((0 : Int) < (i : Int)) = false := decide_eq_false (by omega)
        rw [if_neg (fun h => hi0 h.2)] at hr
        rw [← hr]
        refine gom ?_
        refine WC.ret ?_
        refine WK.un ?_
        exact QF.p3 (.inl rfl) rfl (.tmp rfl) (.tmp rfl) (.tmp rfl) (⟨rfl, rfl, rfl⟩)
    · have e6 : ((m : Int) == 0) = false := by rw [beq_eq_false_iff_ne]; omega
      rw [if_neg (fun h => hm0 (by omega))] at hr
      rw [← hr]
      refine gom ?_
      refine WC.ret ?_
      refine WK.un ?_
      exact QF.p3 (.inl rfl) rfl (.tmp rfl) (.tmp rfl) (.tmp rfl) (⟨rfl, rfl, rfl⟩)
  have e9 : ((i : Int) == 9) = false := by rw [beq_eq_false_iff_ne]; omega
  have h9c : ¬ (i = 9 ∧ 1 < (m : Int)) := fun h => hq h.1
  have hfit := num_fits hn128 (m := m % 128) (by omega) hi9 (by omega)
  have y7 : IntKind.i64.wrap (7 * (i : Int)) = ((7 * i : Nat) : Int) := by rw [wrapI (by omega) (by omega)]; omega
  have yI : IntKind.i64.wrap ((i : Int) + 1) = ((i + 1 : Nat) : Int) := by rw [wrapI (by omega) (by omega)]; rfl
  have hshl := shl_num (m % 128) i hi9 (by omega)
  have hor := or_u64 n (m % 128) i hn128 hfit
  have hpw := pow128 hn128 (m := m % 128) (by omega)
  obtain ⟨u, hu⟩ : ∃ u : Nat, u = m % 128 * 128 ^ i := ⟨_, rfl⟩
  obtain ⟨q, hq128⟩ : ∃ q : Nat, q = 128 ^ (i + 1) := ⟨_, rfl⟩
  have hnm : (m : Int).toNat = m := Int.toNat_natCast m
  rw [hnm] at hr
  rw [← hu] at hfit hshl hor hpw hr
  rw [← hq128] at hpw
  obtain ⟨v, hv⟩ : ∃ v : Nat, v = n + u := ⟨_, rfl⟩
  rw [← hv] at hfit hor hpw hr
  have y8 : IntKind.u64.wrap ((n : Int) + (u : Int)) = (v : Int) := by
    rw [show (n : Int) + (u : Int) = (v : Int) by omega]; exact wrapU64 hfit
  clear hn128
  refine gom ?_
  refine WL.p (Gp.andTo (r := ((m % 128 : Nat) : Int)) rfl rfl (and127 _ (by omega))) (by kernel_rfl) rfl ?_
  refine WL.p (Gp.convTo (r := ((m % 128 : Nat) : Int)) rfl (by exact wrapU64 (by omega))) (by kernel_rfl) rfl ?_
  refine gom ?_
  refine WL.p (Gp.mulTo (r := ((7 * i : Nat) : Int)) rfl rfl y7) (by kernel_rfl) rfl ?_
  refine WL.p (Gp.shlTo (r := (u : Int)) rfl rfl (by omega) hshl) (by kernel_rfl) rfl ?_
  refine WL.p (Gp.orTo (r := (v : Int)) rfl rfl hor) (by kernel_rfl) rfl ?_
  clear hshl hor y8 y7
  by_cases hlt : m < 128
  rotate_left
  · have e5 : decide ((m : Int) < 128) = false := decide_eq_false (by omega)
    rw [if_neg h9c, if_neg (by omega)] at hr
    have hi8 : i < 9 := by
      rcases Nat.lt_or_ge i 9 with h | h
      · exact h
      · exact absurd ⟨by omega, by omega⟩ h9c
    refine gom ?_
    exact WK.again (v, i + 1) (by dsimp only; omega) ⟨by rw [← hr], by dsimp only; rw [← hq128]; exact hpw, by dsimp only; omega⟩ (by exact ⟨rfl, rfl, rfl, rfl, trivial⟩) rfl (List.Sublist.refl _)
  have e5 : decide ((m : Int) < 128) = true := decide_eq_true (by omega)
  rw [if_neg h9c, if_pos (by omega)] at hr
  by_cases hm0 : m = 0
  · subst hm0
    have e6 : (((0 : Nat) : Int) == 0) = true := rfl
    by_cases hi0 : 0 < i
    · have e7 : decide ((0 : Int) < (i : Int)) = true := decide_eq_true (by omega)
      rw [if_pos ⟨rfl, hi0⟩] at hr
      rw [← hr]
      refine gom ?_
      refine WC.ret ?_
      refine WK.un ?_
      exact QF.p3 (.inl rfl) rfl (.tmp rfl) (.tmp rfl) (.tmp rfl) (⟨rfl, rfl, rfl⟩)
    · have e7 : decide ((0 : Int) < (i : Int)) = false := decide_eq_false (by omega)
      rw [if_neg (fun h => hi0 h.2)] at hr
      rw [← hr]
      refine gom ?_
      refine WC.ret ?_
      refine WK.un ?_
      exact QF.p3 (.inl rfl) rfl (.tmp rfl) (.tmp rfl) (.tmp rfl) (⟨rfl, rfl, rfl⟩)
  · have e6 : ((m : Int) == 0) = false := by rw [beq_eq_false_iff_ne]; omega
    rw [if_neg (fun h => hm0 (by omega))] at hr
    rw [← hr]
    refine gom ?_
    refine WC.ret ?_
    refine WK.un ?_
    exact QF.p3 (.inl rfl) rfl (.tmp rfl) (.tmp rfl) (.tmp rfl) (⟨rfl, rfl, rfl⟩)
set_option maxHeartbeats 2000000 in
set_option maxRecDepth 20000 in
theorem rshort_fn (G : Gh) (BA : Option Addr) (bs : List Int) (bc : Nat) (pl : Nat) (hB : Sl (Kd.int .u8) G BA bs) (hbs : ∀ c ∈ bs, 0 ≤ c ∧ c < 256) (hpl : pl ≤ bs.length) (hn : bs.length ≤ 140737488351232) :
    Fn Tryz.prog 141 #[.slice BA bs.length bc, .int .i64 (pl : Int)] G [] fun e G' H' => e = .returned (.tuple #[.int .u64 (numL 0 0 (bs.drop pl)).1, .int .i64 (numL 0 0 (bs.drop pl)).2.1, .int .i64 (numL 0 0 (bs.drop pl)).2.2]) ∧ G = G' ∧ H' = [] := by
  refine Fn.enter Tryz.func141 rfl rfl fun w0 => ?_
  refine gom ?_
  refine WC.loop (X := Nat × Nat) (fun s => [(0, .slice BA bs.length bc), (1, .int .i64 (pl : Int)), (7, .int .u64 (s.1 : Int)), (8, .int .i64 (s.2 : Int))]) (fun _ => G) (fun _ => []) (fun s => 10 - s.2) (fun s => numL s.1 s.2 (bs.drop (pl + s.2)) = numL 0 0 (bs.drop pl) ∧ s.1 < 128 ^ s.2 ∧ s.2 ≤ 9) (0, 0) ⟨rfl, by decide, by decide⟩ (by exact ⟨rfl, rfl, rfl, rfl, trivial⟩) rfl (List.Sublist.refl _) fun s hs => ?_
  obtain ⟨n, i⟩ := s
  obtain ⟨hr, hn128, hi9⟩ := hs
  dsimp only at hr hn128 hi9
  have x2 : IntKind.i64.wrap ((pl : Int) + (i : Int)) = ((pl + i : Nat) : Int) := by rw [wrapI (by omega) (by omega)]; omega
  have e10 : decide ((i : Int) < 10) = true := decide_eq_true (by omega)
  by_cases hend : bs.length ≤ pl + i
  · have e3 : decide ((bs.length : Int) ≤ ((pl + i : Nat) : Int)) = true := decide_eq_true (by omega)
    rw [List.drop_eq_nil_of_le hend] at hr
    rw [← hr]
    refine gom ?_
    refine WC.ret ?_
    refine WK.un ?_
    exact QF.p3 (.inl rfl) rfl (.tmp rfl) (.tmp rfl) (.tmp rfl) (⟨rfl, rfl, rfl⟩)
  have e3 : decide ((bs.length : Int) ≤ ((pl + i : Nat) : Int)) = false := decide_eq_false (by omega)
  obtain ⟨c, hc⟩ : ∃ c, bs[pl + i]? = some c := ⟨_, List.getElem?_eq_getElem (by omega)⟩
  have hcb := hbs c (List.mem_of_getElem? hc)
  have hdrop : bs.drop (pl + i) = c :: bs.drop (pl + (i + 1)) := by
    rw [List.drop_eq_getElem_cons (by omega)]; congr 1; exact (List.getElem?_eq_some_iff.1 hc).2
  obtain ⟨m, rfl⟩ : ∃ m : Nat, c = (m : Int) := ⟨c.toNat, by omega⟩
  rw [hdrop] at hr
  simp only [numL] at hr
  obtain ⟨bb, bo, cs, rfl, hks, hcs⟩ := hB (pl + i) _ hc
  obtain rfl : cs = [.int .u8 (m : Int)] := hks
  have x0 : (0 : Int) ≤ ((pl + i : Nat) : Int) := by omega
  have x1 : ((pl + i : Nat) : Int) < (bs.length : Int) := by omega
  by_cases hq : i = 9
  · have e9 : ((i : Int) == 9) = true := by rw [beq_iff_eq]; omega
    by_cases hc1 : 1 < m
    · have e1 : decide ((1 : Int) < (m : Int)) = true := decide_eq_true (by omega)
      rw [if_pos ⟨hq, by omega⟩] at hr
      rw [← hr]
      refine gom ?_
      refine WC.ret ?_
      refine WK.un ?_
      exact QF.p3 (.inl rfl) rfl (.tmp rfl) (.tmp rfl) (.tmp rfl) (⟨rfl, rfl, rfl⟩)
    have e1 : decide ((1 : Int) < (m : Int)) = false := decide_eq_false (by omega)
    have h9c : ¬ (i = 9 ∧ 1 < (m : Int)) := fun h => hc1 (by omega)
    have hfit := num_fits hn128 (m := m % 128) (by omega) hi9 (by omega)
    have y7 : IntKind.i64.wrap (7 * (i : Int)) = ((7 * i : Nat) : Int) := by rw [wrapI (by omega) (by omega)]; omega
    have yI : IntKind.i64.wrap ((i : Int) + 1) = ((i + 1 : Nat) : Int) := by rw [wrapI (by omega) (by omega)]; rfl
    have hshl := shl_num (m % 128) i hi9 (by omega)
    have hor := or_u64 n (m % 128) i hn128 hfit
    have hpw := pow128 hn128 (m := m % 128) (by omega)
    obtain ⟨u, hu⟩ : ∃ u : Nat, u = m % 128 * 128 ^ i := ⟨_, rfl⟩
    obtain ⟨q, hq128⟩ : ∃ q : Nat, q = 128 ^ (i + 1) := ⟨_, rfl⟩
    have hnm : (m : Int).toNat = m := Int.toNat_natCast m
    rw [hnm] at hr
    rw [← hu] at hfit hshl hor hpw hr
    rw [← hq128] at hpw
    obtain ⟨v, hv⟩ : ∃ v : Nat, v = n + u := ⟨_, rfl⟩
    rw [← hv] at hfit hor hpw hr
    have y8 : IntKind.u64.wrap ((n : Int) + (u : Int)) = (v : Int) := by
      rw [show (n : Int) + (u : Int) = (v : Int) by omega]; exact wrapU64 hfit
    clear hn128
    refine gom ?_
    refine WL.p (Gp.remTo (r := ((m % 128 : Nat) : Int)) rfl rfl (by decide) (by rw [Int.tmod_eq_emod_of_nonneg (by omega)]; omega)) (by kernel_rfl) rfl ?_
    refine WL.p (Gp.convTo (r := ((m % 128 : Nat) : Int)) rfl (by exact wrapU64 (by omega))) (by kernel_rfl) rfl ?_
    refine gom ?_
    refine WL.p (Gp.mulTo (r := ((7 * i : Nat) : Int)) rfl rfl y7) (by kernel_rfl) rfl ?_
    refine WL.p (Gp.shlTo (r := (u : Int)) rfl rfl (by omega) hshl) (by kernel_rfl) rfl ?_
    refine WL.p (Gp.add' rfl rfl y8) (by kernel_rfl) rfl ?_
    clear hshl hor y8 y7
    by_cases hlt : m < 128
    rotate_left
    · have e5 : decide ((m : Int) < 128) = false := decide_eq_false (by omega)
      rw [if_neg h9c, if_neg (by omega)] at hr
      have hi8 : i < 9 := by
        rcases Nat.lt_or_ge i 9 with h | h
        · exact h
        · exact absurd ⟨by omega, by omega⟩ h9c
      refine gom ?_
      exact WK.again (v, i + 1) (by dsimp only; omega) ⟨by rw [← hr], by dsimp only; rw [← hq128]; exact hpw, by dsimp only; omega⟩ (by exact ⟨rfl, rfl, rfl, rfl, trivial⟩) rfl (List.Sublist.refl _)
    have e5 : decide ((m : Int) < 128) = true := decide_eq_true (by omega)
    rw [if_neg h9c, if_pos (by omega)] at hr
    by_cases hm0 : m = 0
    · subst hm0
      have e6 : (((0 : Nat) : Int) == 0) = true := rfl
      by_cases hi0 : 0 < i
      · have e7 : decide ((0 : Int) < (i : Int)) = true := decide_eq_true (by omega)
        rw [if_pos ⟨rfl, hi0⟩] at hr
        rw [← hr]
        refine gom ?_
        refine WC.ret ?_
        refine WK.un ?_
        exact QF.p3 (.inl rfl) rfl (.tmp rfl) (.tmp rfl) (.tmp rfl) (⟨rfl, rfl, rfl⟩)
      · have e7 : decide ((0 : Int) < (i : Int)) = false := decide_eq_false (by omega)
        rw [if_neg (fun h => hi0 h.2)] at hr
        rw [← hr]
        refine gom ?_
        refine WC.ret ?_
        refine WK.un ?_
        exact QF.p3 (.inl rfl) rfl (.tmp rfl) (.tmp rfl) (.tmp rfl) (⟨rfl, rfl, rfl⟩)
    · have e6 : ((m : Int) == 0) = false := by rw [beq_eq_false_iff_ne]; omega
      rw [if_neg (fun h => hm0 (by omega))] at hr
      rw [← hr]
      refine gom ?_
      refine WC.ret ?_
      refine WK.un ?_
      exact QF.p3 (.inl rfl) rfl (.tmp rfl) (.tmp rfl) (.tmp rfl) (⟨rfl, rfl, rfl⟩)
  have e9 : ((i : Int) == 9) = false := by rw [beq_eq_false_iff_ne]; omega
  have h9c : ¬ (i = 9 ∧ 1 < (m : Int)) := fun h => hq h.1
  have hfit := num_fits hn128 (m := m % 128) (by omega) hi9 (by omega)
  have y7 : IntKind.i64.wrap (7 * (i : Int)) = ((7 * i : Nat) : Int) := by rw [wrapI (by omega) (by omega)]; omega
  have yI : IntKind.i64.wrap ((i : Int) + 1) = ((i + 1 : Nat) : Int) := by rw [wrapI (by omega) (by omega)]; rfl
  have hshl := shl_num (m % 128) i hi9 (by omega)
  have hor := or_u64 n (m % 128) i hn128 hfit
  have hpw := pow128 hn128 (m := m % 128) (by omega)
  obtain ⟨u, hu⟩ : ∃ u : Nat, u = m % 128 * 128 ^ i := ⟨_, rfl⟩
  obtain ⟨q, hq128⟩ : ∃ q : Nat, q = 128 ^ (i + 1) := ⟨_, rfl⟩
  have hnm : (m : Int).toNat = m := Int.toNat_natCast m
  rw [hnm] at hr
  rw [← hu] at hfit hshl hor hpw hr
  rw [← hq128] at hpw
  obtain ⟨v, hv⟩ : ∃ v : Nat, v = n + u := ⟨_, rfl⟩
  rw [← hv] at hfit hor hpw hr
  have y8 : IntKind.u64.wrap ((n : Int) + (u : Int)) = (v : Int) := by
    rw [show (n : Int) + (u : Int) = (v : Int) by omega]; exact wrapU64 hfit
  clear hn128
  refine gom ?_
  refine WL.p (Gp.remTo (r := ((m % 128 : Nat) : Int)) rfl rfl (by decide) (by rw [Int.tmod_eq_emod_of_nonneg (by omega)]; omega)) (by kernel_rfl) rfl ?_
  refine WL.p (Gp.convTo (r := ((m % 128 : Nat) : Int)) rfl (by exact wrapU64 (by omega))) (by kernel_rfl) rfl ?_
  refine gom ?_
  refine WL.p (Gp.mulTo (r := ((7 * i : Nat) : Int)) rfl rfl y7) (by kernel_rfl) rfl ?_
  refine WL.p (Gp.shlTo (r := (u : Int)) rfl rfl (by omega) hshl) (by kernel_rfl) rfl ?_
  refine WL.p (Gp.add' rfl rfl y8) (by kernel_rfl) rfl ?_
  clear hshl hor y8 y7
  by_cases hlt : m < 128
  rotate_left
  · have e5 : decide ((m : Int) < 128) = false := decide_eq_false (by omega)
    rw [if_neg h9c, if_neg (by omega)] at hr
    have hi8 : i < 9 := by
      rcases Nat.lt_or_ge i 9 with h | h
      · exact h
      · exact absurd ⟨by omega, by omega⟩ h9c
    refine gom ?_
    exact WK.again (v, i + 1) (by dsimp only; omega) ⟨by rw [← hr], by dsimp only; rw [← hq128]; exact hpw, by dsimp only; omega⟩ (by exact ⟨rfl, rfl, rfl, rfl, trivial⟩) rfl (List.Sublist.refl _)
  have e5 : decide ((m : Int) < 128) = true := decide_eq_true (by omega)
  rw [if_neg h9c, if_pos (by omega)] at hr
  by_cases hm0 : m = 0
  · subst hm0
    have e6 : (((0 : Nat) : Int) == 0) = true := rfl
    by_cases hi0 : 0 < i
    · have e7 : decide ((0 : Int) < (i : Int)) = true := decide_eq_true (by omega)
      rw [if_pos ⟨rfl, hi0⟩] at hr
      rw [← hr]
      refine gom ?_
      refine WC.ret ?_
      refine WK.un ?_
      exact QF.p3 (.inl rfl) rfl (.tmp rfl) (.tmp rfl) (.tmp rfl) (⟨rfl, rfl, rfl⟩)
    · have e7 : decide ((0 : Int) < (i : Int)) = false := decide_eq_false (by omega)
      rw [if_neg (fun h => hi0 h.2)] at hr
      rw [← hr]
      refine gom ?_
      refine WC.ret ?_
      refine WK.un ?_
      exact QF.p3 (.inl rfl) rfl (.tmp rfl) (.tmp rfl) (.tmp rfl) (⟨rfl, rfl, rfl⟩)
  · have e6 : ((m : Int) == 0) = false := by rw [beq_eq_false_iff_ne]; omega
    rw [if_neg (fun h => hm0 (by omega))] at hr
    rw [← hr]
    refine gom ?_
    refine WC.ret ?_
    refine WK.un ?_
    exact QF.p3 (.inl rfl) rfl (.tmp rfl) (.tmp rfl) (.tmp rfl) (⟨rfl, rfl, rfl⟩)
end Go.Proofs.YtkmigdmdppkpoaaGreatDoor.Gb
namespace Go.Proofs.YtkmigdmdppkpoaaGreatDoor.Gb
open Go Go.Proofs Go.MapKept
set_option linter.unusedVariables false
set_option linter.unusedSimpArgs false
set_option linter.unusedSectionVars false

theorem Sl.u8s {G : Gh} {H : List Own} {A : Option Addr} {l : List Int} (h : Sl (Kd.int .u8) G A l) : Rds G H A (u8s l) := by
  cases l with
  | nil => exact .inl rfl
  | cons z l =>
    obtain ⟨b, o, cs, rfl, _, _⟩ := h 0 z rfl
    refine .inr ⟨b, o, rfl, fun w s j v e => ?_⟩
    rw [Gb.u8s, List.getElem?_map] at e
    cases hz : (z :: l)[j]? with
    | none => rw [hz] at e; cases e
    | some y =>
      rw [hz] at e
      simp only [Option.map_some, Option.some.injEq] at e
      subst e
      obtain ⟨b', o', cs', he, hk, hc⟩ := h j y hz
      cases he
      obtain rfl : cs' = [.int .u8 y] := hk
      have := hc 0 _ rfl
      exact s.agr _ _ _ (by simpa [Kd.int] using this)
theorem BVec.sl {G : Gh} {A : Option Addr} {l : List Int} (hz : u8s l = [] ∨ ∃ b, A = some ⟨b, 0, none⟩ ∧ Cs G b 0 (u8s l)) : Sl (Kd.int .u8) G A l := Sl.ofCs (k := Kd.int .u8) hz (u8s_length l) (by decide) (fun i x hx => by
  have hl := (List.getElem?_eq_some_iff.1 hx).1
  have h1 : (u8s l)[i]? = some (.int .u8 x) := by rw [u8s, List.getElem?_map, hx]; rfl
  have hl' : i < (u8s l).length := (List.getElem?_eq_some_iff.1 h1).1
  show ((u8s l).drop (i * 1)).take 1 = [.int .u8 x]
  rw [Nat.mul_one, List.drop_eq_getElem_cons hl']
  rw [List.getElem?_eq_getElem hl'] at h1
  rw [Option.some.inj h1]; rfl)
theorem Sl.take {α : Type} {k : Kd α} {G : Gh} {A : Option Addr} {xs : List α} (h : Sl k G A xs) (n : Nat) : Sl k G A (xs.take n) := fun i x hx => h i x (by
  rw [List.getElem?_take] at hx
  split at hx
  · exact hx
  · cases hx)
theorem nums_drop {bs : List Int} (h : ∀ c ∈ bs, 0 ≤ c ∧ c < 256) (k : Nat) : ∀ c ∈ bs.drop k, 0 ≤ c ∧ c < 256 := fun c hc => h c (List.mem_of_mem_drop hc)
theorem numL_lt : ∀ (bs : List Int) (n k : Nat), (∀ c ∈ bs, 0 ≤ c ∧ c < 256) → n < 128 ^ k → k ≤ 9 → 0 ≤ (numL n k bs).1 ∧ (numL n k bs).1 < 18446744073709551616
  | [], n, k, _, _, _ => by simp [numL]
  | c :: bs, n, k, hb, hn, hk => by
    have hc := hb c (List.mem_cons_self ..)
    simp only [numL]
    split
    · simp
    · rename_i h9
      have hfit := num_fits (m := c.toNat % 128) hn (by omega) hk (fun e => by have : ¬ 1 < c := fun h => h9 ⟨e, h⟩; omega)
      split
      · split
        · simp
        · dsimp only; omega
      · rename_i h128
        have hk9 : k < 9 := by
          rcases Nat.lt_or_ge k 9 with h | h
          · exact h
          · exact absurd ⟨by omega, by omega⟩ h9
        exact numL_lt bs _ _ (fun x hx => hb x (List.mem_cons_of_mem _ hx)) (pow128 hn (by omega)) (by omega)
/-- what a number comes to, of at most so much -/
inductive CntIs (bs : List Int) (most : Int) (k : Nat) : Prop where
  | bad (e : Int) (hn : numL 0 0 (bs.drop k) = (0, 0, e)) (he : e ≠ 0) (hr : cntR bs most k (0, 0) = (0, k, (e, (k : Int))))
  | big (r w : Nat) (hn : numL 0 0 (bs.drop k) = ((r : Int), (w : Int), 0)) (hw : k + w ≤ bs.length) (h64 : r < 18446744073709551616) (hlt : most < r) (hr : cntR bs most k (0, 0) = (0, k, (11, (k : Int))))
  | good (r w : Nat) (hn : numL 0 0 (bs.drop k) = ((r : Int), (w : Int), 0)) (hw : k + w ≤ bs.length) (h64 : r < 18446744073709551616) (hle : (r : Int) ≤ most) (hr : cntR bs most k (0, 0) = ((r : Int), k + w, (0, 0)))
theorem cntR_is {bs : List Int} (most : Int) {k : Nat} (hb : ∀ c ∈ bs, 0 ≤ c ∧ c < 256) (hk : k ≤ bs.length) : CntIs bs most k := by
  obtain ⟨r, w, e, he, hz⟩ := numL_pos (bs.drop k) 0 0 (nums_drop hb k)
  have h64 := (numL_lt (bs.drop k) 0 0 (nums_drop hb k) (by decide) (by decide)).2
  by_cases h0 : e = 0
  · subst h0
    obtain ⟨m, e1, e2, _, e4, e5⟩ := uintL_numL (bs.drop k) 0 0 r w (nums_drop hb k) he
    rw [List.length_drop] at e5
    rw [he] at h64
    dsimp only at h64
    by_cases hm : most < (r : Int)
    · exact .big r w he (by omega) (by omega) hm (by unfold cntR; rw [if_pos rfl, he]; dsimp only; rw [if_pos rfl, if_pos hm])
    · exact .good r w he (by omega) (by omega) (by omega) (by unfold cntR; rw [if_pos rfl, he]; dsimp only; rw [if_pos rfl, if_neg hm]; rfl)
  · obtain ⟨rfl, rfl⟩ := hz h0
    exact .bad e he h0 (by unfold cntR; rw [if_pos rfl, he]; dsimp only; rw [if_neg h0])
theorem cntR_bad {bs : List Int} {most : Int} {k : Nat} {f : Int × Int} (h : f ≠ (0, 0)) : cntR bs most k f = (0, k, f) := by unfold cntR; rw [if_neg h]
theorem cntR_fault {bs : List Int} {most : Int} {k : Nat} {f : Int × Int} (hb : ∀ c ∈ bs, 0 ≤ c ∧ c < 256) (hk : k ≤ bs.length) (hf : f.1 = 0 → f = (0, 0)) : (cntR bs most k f).2.2.1 = 0 → (cntR bs most k f).2.2 = (0, 0) := by
  by_cases h : f = (0, 0)
  · subst h
    cases cntR_is most hb hk with
    | bad e _ he hr => rw [hr]; exact fun h => absurd h he
    | big r w _ _ _ _ hr => rw [hr]; exact fun h => by simp at h
    | good r w _ _ _ _ hr => rw [hr]; exact fun _ => rfl
  · rw [cntR_bad h]; exact hf
attribute [local irreducible] Tryz.prog
attribute [local irreducible] numL cntR
set_option maxHeartbeats 1000000 in
theorem count_fn (G : Gh) (b : Nat) (BA : Option Addr) (bs : List Int) (bc k : Nat) (f : Int × Int) (most : Int) (hB : Sl (Kd.int .u8) G BA bs) (hbs : ∀ c ∈ bs, 0 ≤ c ∧ c < 256) (hk : k ≤ bs.length) (hn : bs.length ≤ 140737488351232) (hm0 : 0 ≤ most) (hm1 : most ≤ 9223372036854775807) :
    Fn Tryz.prog 59 #[.pointer (some ⟨b, 0, none⟩), .int .i64 most] G [rdB b BA bs.length bc k f] fun e G' H' => e = .returned (.int .i64 (cntR bs most k f).1) ∧ G = G' ∧ H' = [rdB b BA bs.length bc (cntR bs most k f).2.1 (cntR bs most k f).2.2] := by
  refine Fn.enter Tryz.func59 rfl rfl fun w0 => ?_
  refine gom ?_
  refine WL.op (by kernel_rfl) (OW.callK rfl (well_fn G b BA bs.length bc k f) rfl fun v' G' H' h hg => ?_)
  obtain ⟨he, rfl, rfl⟩ := h
  cases he
  by_cases hf : f = (0, 0)
  rotate_left
  · rw [decide_eq_false hf, cntR_bad hf]
    refine gom ?_
    refine WC.ret ?_
    refine WK.un ?_
    exact QF.p1 (.inl rfl) rfl (.tmp rfl) (⟨rfl, rfl, rfl⟩)
  subst hf
  rw [decide_eq_true rfl]
  have e0 : decide (most < 0) = false := decide_eq_false (by omega)
  refine gom ?_
  refine WL.op (by kernel_rfl) (OW.callK rfl (number_fn G b k (0, 0) BA bs bc k hB hbs hk hn) rfl fun v' G' H' h hg => ?_)
  obtain ⟨he, rfl, rfl⟩ := h
  cases he
  have hw64 : IntKind.u64.wrap most = most := by
    obtain ⟨q, rfl⟩ : ∃ q : Nat, most = q := ⟨most.toNat, by omega⟩
    exact wrapU64 (by omega)
  cases cntR_is most hbs hk with
  | bad e hnum h0 hr =>
    have e1 : (e == 0) = false := by rw [beq_eq_false_iff_ne]; exact h0
    have e2 : (e != 0) = true := by rw [bne_iff_ne]; exact h0
    rw [hnum, hr]
    refine gom ?_
    refine WL.op (by kernel_rfl) (OW.callK rfl (fails_fn G b BA bs.length bc k (0, 0) e (k : Int)) rfl fun v' G' H' h hg => ?_)
    obtain ⟨he, rfl, rfl⟩ := h
    cases he
    refine gom ?_
    refine WC.ret ?_
    refine WK.un ?_
    exact QF.p1 (.inl rfl) rfl (.tmp rfl) (⟨rfl, rfl, rfl⟩)
  | big r w hnum hw h64 hlt hr =>
    have e1 : decide (most < (r : Int)) = true := decide_eq_true hlt
    rw [hnum, hr]
    refine gom ?_
    refine WL.p (Gp.convTo (r := most) rfl hw64) (by kernel_rfl) rfl ?_
    refine gom ?_
    refine WL.op (by kernel_rfl) (OW.callK rfl (fails_fn G b BA bs.length bc k (0, 0) 11 (k : Int)) rfl fun v' G' H' h hg => ?_)
    obtain ⟨he, rfl, rfl⟩ := h
    cases he
    refine gom ?_
    refine WC.ret ?_
    refine WK.un ?_
    exact QF.p1 (.inl rfl) rfl (.tmp rfl) (⟨rfl, rfl, rfl⟩)
  | good r w hnum hw h64 hle hr =>
    have e1 : decide (most < (r : Int)) = false := decide_eq_false (by omega)
    have x2 : IntKind.i64.wrap ((k : Int) + (w : Int)) = ((k + w : Nat) : Int) := by rw [wrapI (by omega) (by omega)]; omega
    rw [hnum, hr]
    refine gom ?_
    refine WL.p (Gp.convTo (r := most) rfl hw64) (by kernel_rfl) rfl ?_
    refine gom ?_
    refine WL.p (Gp.convTo (r := (r : Int)) rfl (by rw [IntKind.wrap_i64]; omega)) (by kernel_rfl) rfl ?_
    refine gom ?_
    refine WC.ret ?_
    refine WK.un ?_
    exact QF.p1 (.inl rfl) rfl (.tmp rfl) (⟨rfl, rfl, rfl⟩)
/-- bytes of our own, as they are elsewhere -/
theorem fresh0_fn (G : Gh) (A : Option Addr) (l : List Int) (cap : Nat) (hA : Sl (Kd.int .u8) G A l) (hl : l.length ≤ 140737488355328) :
    Fn Tryz.prog 80 #[.slice A l.length cap, .int .i64 0] G [] fun e G' H' => ∃ A' cap' x', e = .returned (.slice A' l.length cap') ∧ G = G' ∧ BVec A' l cap' x' ∧ H' = [x'] := by
  refine Fn.enter Tryz.func80 rfl rfl fun w0 => ?_
  have x2 : IntKind.i64.wrap ((l.length : Int) + 0) = (l.length : Int) := by rw [wrapI (by omega) (by omega)]; omega
  refine gom ?_
  refine WL.op (by kernel_rfl) (OW.makeSlice2 (n := 1) (z := .int .u8 0) (m := (l.length : Int)) (c := (l.length : Int)) rfl rfl rfl (by omega) (by omega) (by omega) (by omega) rfl fun tb o1 ho1 => ?_)
  rw [Int.toNat_natCast] at ho1 ⊢
  refine gom ?_
  refine WL.op (by kernel_rfl) (OW.copy rfl rfl (by kernel_rfl) ho1 .here hA.u8s (u8s_length l) (u8s_one l) (Nat.le_refl _) rfl fun o2 ho2 => ?_)
  have h2 : BVec (some ⟨tb, 0, none⟩) l l.length o2 := by
    unfold BVec
    rw [List.drop_eq_nil_of_le (by rw [repS_length]; exact Nat.le_refl _), List.append_nil] at ho2
    exact ho2
  refine gom ?_
  refine WC.ret ?_
  refine WK.un ?_
  exact QF.p1 (.inl rfl) rfl (.tmp rfl) (⟨_, _, o2, rfl, rfl, h2, rfl⟩)
theorem newReader_fn (G : Gh) (A : Option Addr) (bs : List Int) (cap : Nat) (hA : Sl (Kd.int .u8) G A bs) (hl : bs.length ≤ 140737488355328) :
    Fn Tryz.prog 58 #[.slice A bs.length cap] G [] fun e G' H' => ∃ b A' c, e = .returned (.pointer (some ⟨b, 0, none⟩)) ∧ G.le G' ∧ Sl (Kd.int .u8) G' A' bs ∧ H' = [rdB b A' bs.length c 0 (0, 0)] := by
  refine Fn.enter Tryz.func58 rfl rfl fun w0 => ?_
  refine gom ?_
  refine WL.op (by kernel_rfl) (OW.callK rfl (fresh0_fn G A bs cap hA hl) rfl fun v' G' H' h hg => ?_)
  obtain ⟨A1, c1, x1, he, rfl, h1, rfl⟩ := h
  cases he
  refine WL.frozenVec h1 (by (repeat first | exact .here | apply At.there)) fun G1 hg1 hz1 => ?_
  have hs1 := BVec.sl hz1
  refine gom ?_
  refine WL.op (by kernel_rfl) (OW.box rfl rfl fun b7 => ?_)
  refine gom ?_
  refine WC.ret ?_
  refine WK.un ?_
  exact QF.p1 (.inl rfl) rfl (.tmp rfl) (⟨b7, A1, c1, rfl, hg1, hs1, rfl⟩)

/-! #### the document's reader -/
def rrC (BA : Option Addr) (n bc : Nat) (k : Nat) (f : Int × Int) : Array Value := #[.slice BA n bc, .int .i64 (k : Int), .int .i64 f.1, .int .i64 f.2]
abbrev rrB (b : Nat) (BA : Option Addr) (n bc : Nat) (k : Nat) (f : Int × Int) : Own := .blk b (.cells (rrC BA n bc k f) 134 (0, 0))
theorem rfail_fn (G : Gh) (b : Nat) (BA : Option Addr) (n bc k : Nat) (f : Int × Int) (e0 a0 : Int) : Fn Tryz.prog 91 #[.pointer (some ⟨b, 0, none⟩), .int .i64 e0, .int .i64 a0] G [rrB b BA n bc k f] fun e G' H' => e = .returned (.tuple #[]) ∧ G = G' ∧ H' = [rrB b BA n bc k (e0, a0)] := by
  refine Fn.enter Tryz.func91 rfl rfl fun w0 => ?_
  refine gom ?_
  refine WK.un ?_
  exact QF.p0 (.inr rfl) rfl  (⟨rfl, rfl, rfl⟩)
theorem rFail_fn (G : Gh) (b : Nat) (BA : Option Addr) (n bc k : Nat) (e0 : Int) (he0 : e0 ≠ 0) : Fn Tryz.prog 90 #[.pointer (some ⟨b, 0, none⟩), .int .i64 e0] G [rrB b BA n bc k (0, 0)] fun e G' H' => e = .returned (.tuple #[]) ∧ G = G' ∧ H' = [rrB b BA n bc k (e0, (k : Int))] := by
  refine Fn.enter Tryz.func90 rfl rfl fun w0 => ?_
  have e2 : (e0 != 0) = true := by rw [bne_iff_ne]; exact he0
  refine gom ?_
  refine WL.op (by kernel_rfl) (OW.callK rfl (rfail_fn G b BA n bc k (0, 0) e0 (k : Int)) rfl fun v' G' H' h hg => ?_)
  obtain ⟨he, rfl, rfl⟩ := h
  cases he
  refine gom ?_
  refine WK.un ?_
  exact QF.p0 (.inr rfl) rfl  (⟨rfl, rfl, rfl⟩)
theorem fault1 {f : Int × Int} (hf : f.1 = 0 → f = (0, 0)) (h : f ≠ (0, 0)) : (f.1 == 0) = false ∧ (f.1 != 0) = true := by
  have : f.1 ≠ 0 := fun e => h (hf e)
  exact ⟨by rw [beq_eq_false_iff_ne]; exact this, by rw [bne_iff_ne]; exact this⟩
theorem rrend_fn (G : Gh) (b : Nat) (BA : Option Addr) (n bc k : Nat) (f : Int × Int) (hf : f.1 = 0 → f = (0, 0)) : Fn Tryz.prog 66 #[.pointer (some ⟨b, 0, none⟩)] G [rrB b BA n bc k f] fun e G' H' => e = .returned (.tuple #[.int .i64 (endF n k f).1, .int .i64 (endF n k f).2]) ∧ G = G' ∧ H' = [rrB b BA n bc k (endF n k f)] := by
  refine Fn.enter Tryz.func66 rfl rfl fun w0 => ?_
  by_cases h0 : f = (0, 0)
  · subst h0
    by_cases hlt : k < n
    · have e2 : decide ((k : Int) < (n : Int)) = true := decide_eq_true (by omega)
      have hr : endF n k (0, 0) = (6, (k : Int)) := by unfold endF; rw [if_pos ⟨rfl, hlt⟩]
      rw [hr]
      refine gom ?_
      refine WL.op (by kernel_rfl) (OW.callK rfl (rfail_fn G b BA n bc k (0, 0) 6 (k : Int)) rfl fun v' G' H' h hg => ?_)
      obtain ⟨he, rfl, rfl⟩ := h
      cases he
      refine gom ?_
      refine WC.ret ?_
      refine WK.un ?_
      exact QF.p2 (.inl rfl) rfl (.tmp rfl) (.tmp rfl) (⟨rfl, rfl, rfl⟩)
    · have e2 : decide ((k : Int) < (n : Int)) = false := decide_eq_false (by omega)
      have hr : endF n k (0, 0) = (0, 0) := by unfold endF; rw [if_neg (fun h => hlt h.2)]
      rw [hr]
      refine gom ?_
      refine WC.ret ?_
      refine WK.un ?_
      exact QF.p2 (.inl rfl) rfl (.tmp rfl) (.tmp rfl) (⟨rfl, rfl, rfl⟩)
  · obtain ⟨e1, e2⟩ := fault1 hf h0
    have hr : endF n k f = f := by unfold endF; rw [if_neg (fun h => h0 h.1)]
    rw [hr]
    refine gom ?_
    refine WC.ret ?_
    refine WK.un ?_
    exact QF.p2 (.inl rfl) rfl (.tmp rfl) (.tmp rfl) (⟨rfl, rfl, rfl⟩)
set_option maxHeartbeats 1000000 in
theorem ruint_fn (G : Gh) (b : Nat) (BA : Option Addr) (bs : List Int) (bc k : Nat) (f : Int × Int) (hB : Sl (Kd.int .u8) G BA bs) (hbs : ∀ c ∈ bs, 0 ≤ c ∧ c < 256) (hk : k ≤ bs.length) (hn : bs.length ≤ 140737488351232) (hf : f.1 = 0 → f = (0, 0)) :
    Fn Tryz.prog 117 #[.pointer (some ⟨b, 0, none⟩)] G [rrB b BA bs.length bc k f] fun e G' H' => e = .returned (.int .u64 (cntR bs 18446744073709551615 k f).1) ∧ G = G' ∧ H' = [rrB b BA bs.length bc (cntR bs 18446744073709551615 k f).2.1 (cntR bs 18446744073709551615 k f).2.2] := by
  refine Fn.enter Tryz.func117 rfl rfl fun w0 => ?_
  by_cases h0 : f = (0, 0)
  rotate_left
  · obtain ⟨e1, e2⟩ := fault1 hf h0
    rw [cntR_bad h0]
    refine gom ?_
    refine WC.ret ?_
    refine WK.un ?_
    exact QF.p1 (.inl rfl) rfl (.tmp rfl) (⟨rfl, rfl, rfl⟩)
  subst h0
  refine gom ?_
  refine WQ.one (by kernel_rfl) (by kernel_rfl) (OW.callK rfl (rshort_fn G BA bs bc k hB hbs hk hn) rfl fun v' G' H' h hg => ?_)
  obtain ⟨he, rfl, rfl⟩ := h
  cases he
  cases cntR_is 18446744073709551615 hbs hk with
  | bad e hnum h0 hr =>
    have e1 : (e == 0) = false := by rw [beq_eq_false_iff_ne]; exact h0
    have e2 : (e != 0) = true := by rw [bne_iff_ne]; exact h0
    rw [hnum, hr]
    refine gom ?_
    refine WL.op (by kernel_rfl) (OW.callK rfl (rfail_fn G b BA bs.length bc k (0, 0) e (k : Int)) rfl fun v' G' H' h hg => ?_)
    obtain ⟨he, rfl, rfl⟩ := h
    cases he
    refine gom ?_
    refine WC.ret ?_
    refine WK.un ?_
    exact QF.p1 (.inl rfl) rfl (.tmp rfl) (⟨rfl, rfl, rfl⟩)
  | big r w hnum hw h64 hlt hr => omega
  | good r w hnum hw h64 hle hr =>
    have x2 : IntKind.i64.wrap ((k : Int) + (w : Int)) = ((k + w : Nat) : Int) := by rw [wrapI (by omega) (by omega)]; omega
    rw [hnum, hr]
    refine gom ?_
    refine WC.ret ?_
    refine WK.un ?_
    exact QF.p1 (.inl rfl) rfl (.tmp rfl) (⟨rfl, rfl, rfl⟩)
/-- at most so much, and at most what a number can be -/
theorem cntR_uint {bs : List Int} {most : Int} {k : Nat} (hb : ∀ c ∈ bs, 0 ≤ c ∧ c < 256) (hk : k ≤ bs.length) (hm0 : 0 ≤ most) :
    ((cntR bs 18446744073709551615 k (0, 0)).2.2 ≠ (0, 0) ∧ cntR bs most k (0, 0) = (0, k, (cntR bs 18446744073709551615 k (0, 0)).2.2) ∧ cntR bs 18446744073709551615 k (0, 0) = (0, k, (cntR bs 18446744073709551615 k (0, 0)).2.2)) ∨
    ∃ r w : Nat, cntR bs 18446744073709551615 k (0, 0) = ((r : Int), k + w, (0, 0)) ∧ r < 18446744073709551616 ∧ k + w ≤ bs.length ∧ ((most < r ∧ cntR bs most k (0, 0) = (0, k, (11, (k : Int)))) ∨ ((r : Int) ≤ most ∧ cntR bs most k (0, 0) = ((r : Int), k + w, (0, 0)))) := by
  cases cntR_is 18446744073709551615 hb hk with
  | bad e hnum h0 hr =>
    left
    rw [hr]
    cases cntR_is most hb hk with
    | bad e' hnum' h0' hr' =>
      rw [hnum] at hnum'
      cases hnum'
      exact ⟨fun h => h0 (congrArg Prod.fst h), hr', rfl⟩
    | big r w hnum' _ _ _ _ => rw [hnum] at hnum'; cases hnum'; exact absurd rfl h0
    | good r w hnum' _ _ _ _ => rw [hnum] at hnum'; cases hnum'; exact absurd rfl h0
  | big r w hnum hw h64 hlt hr => omega
  | good r w hnum hw h64 hle hr =>
    right
    refine ⟨r, w, hr, h64, hw, ?_⟩
    cases cntR_is most hb hk with
    | bad e' hnum' h0' hr' => rw [hnum] at hnum'; cases hnum'; exact absurd rfl h0'
    | big r' w' hnum' _ _ hlt' hr' =>
      rw [hnum] at hnum'
      have : r = r' := by have := congrArg Prod.fst hnum'; dsimp only at this; omega
      subst this
      exact .inl ⟨hlt', hr'⟩
    | good r' w' hnum' _ _ hle' hr' =>
      rw [hnum] at hnum'
      have h1 : r = r' := by have := congrArg Prod.fst hnum'; dsimp only at this; omega
      have h2 : w = w' := by have := congrArg (fun x => x.2.1) hnum'; dsimp only at this; omega
      subst h1 h2
      exact .inr ⟨hle', hr'⟩
set_option maxHeartbeats 1000000 in
theorem rcount_fn (G : Gh) (b : Nat) (BA : Option Addr) (bs : List Int) (bc k : Nat) (f : Int × Int) (most : Int) (hB : Sl (Kd.int .u8) G BA bs) (hbs : ∀ c ∈ bs, 0 ≤ c ∧ c < 256) (hk : k ≤ bs.length) (hn : bs.length ≤ 140737488351232) (hf : f.1 = 0 → f = (0, 0)) (hm0 : 0 ≤ most) (hm1 : most ≤ 9223372036854775807) :
    Fn Tryz.prog 88 #[.pointer (some ⟨b, 0, none⟩), .int .i64 most] G [rrB b BA bs.length bc k f] fun e G' H' => e = .returned (.int .i64 (cntR bs most k f).1) ∧ G = G' ∧ H' = [rrB b BA bs.length bc (cntR bs most k f).2.1 (cntR bs most k f).2.2] := by
  refine Fn.enter Tryz.func88 rfl rfl fun w0 => ?_
  have e0 : decide (most < 0) = false := decide_eq_false (by omega)
  have hw64 : IntKind.u64.wrap most = most := by
    obtain ⟨q, rfl⟩ : ∃ q : Nat, most = q := ⟨most.toNat, by omega⟩
    exact wrapU64 (by omega)
  by_cases h0 : f = (0, 0)
  rotate_left
  · obtain ⟨e1, e2⟩ := fault1 hf h0
    rw [cntR_bad h0]
    refine gom ?_
    refine WL.op (by kernel_rfl) (OW.callK rfl (ruint_fn G b BA bs bc k f hB hbs hk hn hf) rfl fun v' G' H' h hg => ?_)
    obtain ⟨he, rfl, rfl⟩ := h
    cases he
    rw [cntR_bad h0]
    refine gom ?_
    refine WL.p (Gp.convTo (r := 0) rfl (by rfl)) (by kernel_rfl) rfl ?_
    refine gom ?_
    refine WC.ret ?_
    refine WK.un ?_
    exact QF.p1 (.inl rfl) rfl (.tmp rfl) (⟨rfl, rfl, rfl⟩)
  subst h0
  refine gom ?_
  refine WL.op (by kernel_rfl) (OW.callK rfl (ruint_fn G b BA bs bc k (0, 0) hB hbs hk hn hf) rfl fun v' G' H' h hg => ?_)
  obtain ⟨he, rfl, rfl⟩ := h
  cases he
  have hcf := cntR_fault (most := 18446744073709551615) hbs hk hf
  rcases cntR_uint (most := most) hbs hk hm0 with ⟨hne, hr, hu⟩ | ⟨r, w, hu, h64, hw, ⟨hlt, hr⟩ | ⟨hle, hr⟩⟩
  · obtain ⟨e1, e2⟩ := fault1 hcf hne
    generalize (cntR bs 18446744073709551615 k (0, 0)).2.2 = ff at hr hu e1 e2
    rw [hr, hu]
    refine gom ?_
    refine WL.p (Gp.convTo (r := 0) rfl (by rfl)) (by kernel_rfl) rfl ?_
    refine gom ?_
    refine WC.ret ?_
    refine WK.un ?_
    exact QF.p1 (.inl rfl) rfl (.tmp rfl) (⟨rfl, rfl, rfl⟩)
  · have e1 : decide (most < (r : Int)) = true := decide_eq_true hlt
    rw [hr, hu]
    refine gom ?_
    refine WL.p (Gp.convTo (r := most) rfl hw64) (by kernel_rfl) rfl ?_
    refine gom ?_
    refine WL.op (by kernel_rfl) (OW.callK rfl (rfail_fn G b BA bs.length bc k (0, 0) 11 (k : Int)) rfl fun v' G' H' h hg => ?_)
    obtain ⟨he, rfl, rfl⟩ := h
    cases he
    refine gom ?_
    refine WC.ret ?_
    refine WK.un ?_
    exact QF.p1 (.inl rfl) rfl (.tmp rfl) (⟨rfl, rfl, rfl⟩)
  · have e1 : decide (most < (r : Int)) = false := decide_eq_false (by omega)
    rw [hr, hu]
    refine gom ?_
    refine WL.p (Gp.convTo (r := most) rfl hw64) (by kernel_rfl) rfl ?_
    refine gom ?_
    refine WL.p (Gp.convTo (r := (r : Int)) rfl (by rw [IntKind.wrap_i64]; omega)) (by kernel_rfl) rfl ?_
    refine gom ?_
    refine WC.ret ?_
    refine WK.un ?_
    exact QF.p1 (.inl rfl) rfl (.tmp rfl) (⟨rfl, rfl, rfl⟩)
end Go.Proofs.YtkmigdmdppkpoaaGreatDoor.Gb
namespace Go.Proofs.YtkmigdmdppkpoaaGreatDoor.Gb
open Go Go.Proofs Go.MapKept
set_option linter.unusedVariables false
set_option linter.unusedSimpArgs false
set_option linter.unusedSectionVars false
def cnt0 (bs : List Int) : Int × Nat × (Int × Int) := cntR bs 16384 0 (0, 0)
def lstR (bs : List Int) : List (Int × Int) × Nat × (Int × Int) := readL bs (cnt0 bs).1.toNat (cnt0 bs).2.1
def finR (bs : List Int) : Nat × (Int × Int) := if (cnt0 bs).2.2 = (0, 0) then (lstR bs).2 else ((cnt0 bs).2.1, (cnt0 bs).2.2)
theorem readR_at {bs : List Int} {k : Nat} {f : Int × Int} (h : finR bs = (k, f)) : readR bs = if endF bs.length k f = (0, 0) then ((lstR bs).1, (0, 0)) else ([], endF bs.length k f) := by
  have h1 : k = (finR bs).1 := by rw [h]
  have h2 : f = (finR bs).2 := by rw [h]
  rw [h1, h2]; rfl
theorem endF_zero {n k : Nat} {f : Int × Int} (h : endF n k f = (0, 0)) : f = (0, 0) := by
  unfold endF at h
  split at h
  · rename_i hh; exact hh.1
  · exact h
theorem endF_fault {n k : Nat} {f : Int × Int} (h : f ≠ (0, 0)) : endF n k f = f := by unfold endF; rw [if_neg (fun x => h x.1)]
/-- where the reading stands: it is well, or nothing is left to do -/
def RdI (bs : List Int) (i k : Nat) (f : Int × Int) (xs : List (Int × Int)) : Prop :=
  (f = (0, 0) ∧ finR bs = (readL bs ((cnt0 bs).1.toNat - i) k).2 ∧ (lstR bs).1 = xs ++ (readL bs ((cnt0 bs).1.toNat - i) k).1) ∨ (f ≠ (0, 0) ∧ i = (cnt0 bs).1.toNat ∧ finR bs = (k, f))
theorem RdI.begin (bs : List Int) (hb : ∀ c ∈ bs, 0 ≤ c ∧ c < 256) : RdI bs 0 (cnt0 bs).2.1 (cnt0 bs).2.2 [] := by
  by_cases h : (cnt0 bs).2.2 = (0, 0)
  · exact .inl ⟨h, by unfold finR; rw [if_pos h]; rfl, rfl⟩
  · refine .inr ⟨h, ?_, by unfold finR; rw [if_neg h]⟩
    have h0 : (cnt0 bs).1 = 0 := ((cntR_le (bs := bs) (most := 16384) (k := 0) (f := (0, 0)) hb (Nat.zero_le _) (by decide)).2.2.2.2 h).1
    rw [h0]; rfl
theorem RdI.fin {bs : List Int} {k : Nat} {f : Int × Int} {xs : List (Int × Int)} (h : RdI bs (cnt0 bs).1.toNat k f xs) : finR bs = (k, f) ∧ (f = (0, 0) → (lstR bs).1 = xs) := by
  rcases h with ⟨h1, h2, h3⟩ | ⟨h1, h2, h3⟩
  · rw [Nat.sub_self] at h2 h3
    refine ⟨by rw [h2, h1]; rfl, fun _ => by rw [h3]; simp [readL]⟩
  · exact ⟨h3, fun h => absurd h h1⟩
theorem RdI.well {bs : List Int} {i k : Nat} {f : Int × Int} {xs : List (Int × Int)} (h : RdI bs i k f xs) (hi : i < (cnt0 bs).1.toNat) : f = (0, 0) := by
  rcases h with ⟨h1, h2, h3⟩ | ⟨h1, h2, h3⟩
  · exact h1
  · omega
theorem RdI.step {bs : List Int} {i k : Nat} {xs : List (Int × Int)} (h : RdI bs i k (0, 0) xs) (hi : i < (cnt0 bs).1.toNat) (hs : (stepR bs k).2.2 = (0, 0)) : RdI bs (i + 1) (stepR bs k).2.1 (0, 0) (xs ++ [(stepR bs k).1]) := by
  rcases h with ⟨h1, h2, h3⟩ | ⟨h1, h2, h3⟩
  · obtain ⟨m, hm⟩ : ∃ m, (cnt0 bs).1.toNat - i = m + 1 := ⟨(cnt0 bs).1.toNat - i - 1, by omega⟩
    have hm' : (cnt0 bs).1.toNat - (i + 1) = m := by omega
    rw [hm] at h2 h3
    simp only [readL] at h2 h3
    rw [if_pos hs] at h2 h3
    exact .inl ⟨rfl, by rw [hm']; exact h2, by rw [hm', h3]; simp⟩
  · exact absurd rfl h1
theorem RdI.stop {bs : List Int} {i k : Nat} {xs : List (Int × Int)} (h : RdI bs i k (0, 0) xs) (hi : i < (cnt0 bs).1.toNat) (hs : (stepR bs k).2.2 ≠ (0, 0)) : finR bs = ((stepR bs k).2.1, (stepR bs k).2.2) := by
  rcases h with ⟨h1, h2, h3⟩ | ⟨h1, h2, h3⟩
  · obtain ⟨m, hm⟩ : ∃ m, (cnt0 bs).1.toNat - i = m + 1 := ⟨(cnt0 bs).1.toNat - i - 1, by omega⟩
    rw [hm] at h2
    simp only [readL] at h2
    rw [if_neg hs] at h2
    exact h2
  · exact absurd rfl h1
/-- one instruction read: what it comes to -/
inductive StIs (bs : List Int) (k : Nat) : Prop where
  | short (hb : byteR bs k (0, 0) = (0, k, (4, (k : Int)))) (hr : stepR bs k = ((0, 0), k, (4, (k : Int))))
  | form (c : Int) (hb : byteR bs k (0, 0) = (c, k + 1, (0, 0))) (hk : k < bs.length) (hc : 0 ≤ c ∧ c < 256) (hn : (rowC c).name = ⟨#[]⟩) (hr : stepR bs k = ((c, 0), k, (5, (k : Int))))
  | plain (c : Int) (hb : byteR bs k (0, 0) = (c, k + 1, (0, 0))) (hk : k < bs.length) (hc : 0 ≤ c ∧ c < 256) (hn : (rowC c).name ≠ ⟨#[]⟩) (hm : (rowC c).n = false) (hr : stepR bs k = ((c, 0), k + 1, (0, 0)))
  | num (c : Int) (hb : byteR bs k (0, 0) = (c, k + 1, (0, 0))) (hk : k < bs.length) (hc : 0 ≤ c ∧ c < 256) (hn : (rowC c).name ≠ ⟨#[]⟩) (hm : (rowC c).n = true) (hr : stepR bs k = ((c, (cntR bs 2147483647 (k + 1) (0, 0)).1), (cntR bs 2147483647 (k + 1) (0, 0)).2.1, (cntR bs 2147483647 (k + 1) (0, 0)).2.2))
theorem stepR_is {bs : List Int} {k : Nat} (hbs : ∀ c ∈ bs, 0 ≤ c ∧ c < 256) : StIs bs k := by
  cases hc : bs[k]? with
  | none =>
    have hb : byteR bs k (0, 0) = (0, k, (4, (k : Int))) := by unfold byteR; rw [if_pos rfl, hc]
    exact .short hb (by unfold stepR; rw [hb]; rfl)
  | some c =>
    have hb : byteR bs k (0, 0) = (c, k + 1, (0, 0)) := by unfold byteR; rw [if_pos rfl, hc]
    have hk := (List.getElem?_eq_some_iff.1 hc).1
    have hcb := hbs c (List.mem_of_getElem? hc)
    by_cases hn : (rowC c).name = ⟨#[]⟩
    · exact .form c hb hk hcb hn (by unfold stepR; rw [hb]; dsimp only; rw [if_pos rfl, if_pos hn])
    · cases hm : (rowC c).n with
      | true => exact .num c hb hk hcb hn hm (by unfold stepR; rw [hb]; dsimp only; rw [if_pos rfl, if_neg hn, hm, if_pos rfl])
      | false => exact .plain c hb hk hcb hn hm (by unfold stepR; rw [hb]; dsimp only; rw [if_pos rfl, if_neg hn, hm, if_neg (by simp)])
theorem i64u8 {c : Int} (h : 0 ≤ c ∧ c < 256) : IntKind.i64.wrap c = c := by rw [IntKind.wrap_i64]; omega
attribute [local irreducible] Tryz.prog
attribute [local irreducible] numL cntR byteR stepR readL readR finR lstR cnt0 endF rowC
set_option maxHeartbeats 4000000 in
theorem Read_fn (G : Gh) (A : Option Addr) (bs : List Int) (cap : Nat) (hA : Sl (Kd.int .u8) G A bs) (hbs : ∀ c ∈ bs, 0 ≤ c ∧ c < 256) (hl : bs.length ≤ 140737488351232) :
    Fn Tryz.prog 35 #[.slice A bs.length cap] G [] fun e G' H' => ∃ A' cap' x', e = .returned (.tuple #[.slice A' (readR bs).1.length cap', .agg #[.int .i64 (readR bs).2.1, .int .i64 (readR bs).2.2]]) ∧ G.le G' ∧ InsV A' (readR bs).1 cap' x' ∧ H' = [x'] := by
  refine Fn.enter Tryz.func35 rfl rfl fun w0 => ?_
  refine WC.seq ?_
  refine WC.region ?_
  refine WL.p (Gp.assign rfl) (by kernel_rfl) rfl ?_
  refine WL.op (by kernel_rfl) (OW.alloc rfl fun b3 => ?_)
  refine gom ?_
  refine WL.op (by kernel_rfl) (OW.callK rfl (newReader_fn G A bs cap hA (by omega)) rfl fun v' G' H' h hg => ?_)
  obtain ⟨rb, RA, rc, he, hg1, hR, rfl⟩ := h
  cases he
  obtain ⟨G1, rfl⟩ : ∃ G1, G1 = G' := ⟨_, rfl⟩
  refine gom ?_
  refine WL.op (by kernel_rfl) (OW.callK rfl (count_fn G1 rb RA bs rc 0 (0, 0) 16384 hR hbs (Nat.zero_le _) hl (by decide) (by decide)) rfl fun v' G' H' h hg => ?_)
  obtain ⟨he, rfl, rfl⟩ := h
  cases he
  have hc0 := cntR_le (bs := bs) (most := 16384) (k := 0) (f := (0, 0)) hbs (Nat.zero_le _) (by decide)
  rw [show cntR bs 16384 0 (0, 0) = cnt0 bs from by unfold cnt0; rfl] at hc0 ⊢
  have hbeg := RdI.begin bs hbs
  generalize hcn : cnt0 bs = cn at hc0 hbeg ⊢
  obtain ⟨nI, k0, f0⟩ := cn
  dsimp only at hc0 hbeg ⊢
  obtain ⟨n, rfl⟩ : ∃ n : Nat, nI = (n : Int) := ⟨nI.toNat, by omega⟩
  have hn0 : (cnt0 bs).1.toNat = n := by rw [hcn]; exact Int.toNat_natCast n
  refine gom ?_
  refine WC.nothing ?_
  refine WC.loop (X := Nat × Nat × (Int × Int) × List (Int × Int) × Option Addr × Nat × Own) (fun s => [(3, .pointer (some ⟨b3, 0, none⟩)), (4, .pointer (some ⟨rb, 0, none⟩)), (5, .slice s.2.2.2.2.1 s.2.2.2.1.length s.2.2.2.2.2.1), (12, .int .i64 (n : Int)), (13, .int .i64 (s.1 : Int))]) (fun _ => G1) (fun s => [s.2.2.2.2.2.2, rdB rb RA bs.length rc s.2.1 s.2.2.1, .blk b3 (.cells #[.int .i64 0, .int .i64 0] 72 (0, 0))]) (fun s => n - s.1) (fun s => s.1 ≤ n ∧ s.2.1 ≤ bs.length ∧ s.2.2.2.1.length ≤ s.1 ∧ RdI bs s.1 s.2.1 s.2.2.1 s.2.2.2.1 ∧ InsV s.2.2.2.2.1 s.2.2.2.1 s.2.2.2.2.2.1 s.2.2.2.2.2.2) (0, k0, f0, [], none, 0, .spare 0 0 0) ⟨Nat.zero_le _, hc0.1, Nat.le_refl _, hbeg, InsV.nil⟩ (by exact ⟨rfl, rfl, rfl, rfl, rfl, trivial⟩) rfl (by first | exact List.Sublist.refl _ | (repeat (first | exact List.Sublist.refl _ | exact List.nil_sublist _ | apply List.Sublist.cons₂ | apply List.Sublist.cons))) fun s hs => ?_
  obtain ⟨i, k, f, xs, B, c, o⟩ := s
  obtain ⟨hin, hkl, hxl, hI, hv⟩ := hs
  dsimp only at hin hkl hxl hI hv
  by_cases hlt : i < n
  rotate_left
  · have e2 : decide ((i : Int) < (n : Int)) = false := decide_eq_false (by omega)
    obtain rfl : i = n := by omega
    rw [← hn0] at hI
    obtain ⟨hfin, hlst⟩ := hI.fin
    have hrr := readR_at hfin
    refine gom ?_
    refine WL.op (by kernel_rfl) (OW.callK rfl (rend_fn G1 rb RA bs.length rc (k) (f) hkl (by omega)) rfl fun v' G' H' h hg => ?_)
    obtain ⟨he, rfl, rfl⟩ := h
    cases he
    refine gom ?_
    refine WL.op (by kernel_rfl) (OW.alloc rfl fun b8 => ?_)
    refine gom ?_
    refine WL.p (Gp.neFault rfl rfl) (by kernel_rfl) rfl ?_
    by_cases hend : endF bs.length (k) (f) = (0, 0)
    · have hf0 := endF_zero hend
      rw [if_pos hend, hlst hf0] at hrr
      have hev : (!decide (((endF bs.length (k) (f)).1, (endF bs.length (k) (f)).2) = ((0 : Int), (0 : Int)))) = false := by rw [show ((endF bs.length (k) (f)).1, (endF bs.length (k) (f)).2) = endF bs.length (k) (f) from rfl, decide_eq_true hend]; rfl
      rw [hev, hrr]
      rw [hend]
      refine gom ?_
      refine WQ.one (by kernel_rfl) (by kernel_rfl) (OW.store rfl rfl (by (repeat first | exact .here | apply At.there)) rfl (by rfl) (by rfl) (by kernel_rfl) (by rfl) ?_ rfl)
      refine gom ?_
      refine WC.ret ?_
      refine WK.un ?_
      exact QF.p2 (.inl rfl) rfl (.tmp rfl) (.cell rfl inferInstance inferInstance (by (repeat first | exact .here | apply At.there)) rfl rfl) (⟨B, c, o, rfl, hg1, hv, rfl⟩)
    · rw [if_neg hend] at hrr
      have hev : (!decide (((endF bs.length (k) (f)).1, (endF bs.length (k) (f)).2) = ((0 : Int), (0 : Int)))) = true := by rw [show ((endF bs.length (k) (f)).1, (endF bs.length (k) (f)).2) = endF bs.length (k) (f) from rfl, decide_eq_false hend]; rfl
      rw [hev, hrr]
      refine gom ?_
      refine WQ.one (by kernel_rfl) (by kernel_rfl) (OW.store rfl rfl (by (repeat first | exact .here | apply At.there)) rfl (by rfl) (by rfl) (by kernel_rfl) (by rfl) ?_ rfl)
      refine gom ?_
      refine WC.nothing ?_
      refine WC.ret ?_
      refine WK.un ?_
      exact QF.p2 (.inl rfl) rfl (.tmp rfl) (.cell rfl inferInstance inferInstance (by (repeat first | exact .here | apply At.there)) rfl rfl) (⟨none, 0, _, rfl, hg1, InsV.nil, rfl⟩)
  have e2 : decide ((i : Int) < (n : Int)) = true := decide_eq_true (by omega)
  obtain rfl := hI.well (by omega)
  have x2 : IntKind.i64.wrap ((i : Int) + 1) = ((i + 1 : Nat) : Int) := by rw [wrapI (by omega) (by omega)]; rfl
  refine gom ?_
  refine WL.op (by kernel_rfl) (OW.callK rfl (rat_fn G1 rb RA bs.length rc k (0, 0)) rfl fun v' G' H' h hg => ?_)
  obtain ⟨he, rfl, rfl⟩ := h
  cases he
  refine gom ?_
  refine WL.op (by kernel_rfl) (OW.callK rfl (rbyte_fn G1 rb RA bs rc k (0, 0) hR hkl (by omega)) rfl fun v' G' H' h hg => ?_)
  obtain ⟨he, rfl, rfl⟩ := h
  cases he
  cases stepR_is (bs := bs) (k := k) hbs with
  | short hb hr =>
    rw [hb]
    refine WL.p (Gp.convTo (r := 0) rfl (by rfl)) (by kernel_rfl) rfl ?_
    refine gom ?_
    refine WL.op (by kernel_rfl) (OW.alloc rfl fun b7 => ?_)
    refine gom ?_
    refine WL.op (by kernel_rfl) (OW.callK rfl (rfault_fn G1 rb RA bs.length rc k (4, (k : Int))) rfl fun v' G' H' h hg => ?_)
    obtain ⟨he, rfl, rfl⟩ := h
    cases he
    refine gom ?_
    refine WL.p (Gp.eqFault rfl rfl) (by kernel_rfl) rfl ?_
    rw [show decide (((4 : Int), (k : Int)) = ((0 : Int), (0 : Int))) = false from by simp]
    refine gom ?_
    refine WL.op (by kernel_rfl) (OW.callK rfl (rowOf_fn G1 0) rfl fun v' G' H' h hg => ?_)
    obtain ⟨he, rfl, rfl⟩ := h
    cases he
    rw [show rowC 0 = rw0 from rowC_out (by omega)]
    refine WL.p (Gp.rowN (r := rw0) rfl) (by kernel_rfl) rfl ?_
    refine gom ?_
    refine WL.op (by kernel_rfl) (OW.callK rfl (rfault_fn G1 rb RA bs.length rc k (4, (k : Int))) rfl fun v' G' H' h hg => ?_)
    obtain ⟨he, rfl, rfl⟩ := h
    cases he
    refine gom ?_
    refine WL.p (Gp.neFault rfl rfl) (by kernel_rfl) rfl ?_
    rw [show (!decide (((4 : Int), (k : Int)) = ((0 : Int), (0 : Int)))) = true from by simp]
    have hfin := hI.stop (by omega) (by rw [hr]; simp)
    rw [hr] at hfin
    have hlst : ((4 : Int), (k : Int)) = (0, 0) → (lstR bs).1 = xs := fun h => by simp at h
    have hrr := readR_at hfin
    refine gom ?_
    refine WL.op (by kernel_rfl) (OW.callK rfl (rend_fn G1 rb RA bs.length rc (k) (4, (k : Int)) hkl (by omega)) rfl fun v' G' H' h hg => ?_)
    obtain ⟨he, rfl, rfl⟩ := h
    cases he
    refine gom ?_
    refine WL.op (by kernel_rfl) (OW.alloc rfl fun b8 => ?_)
    refine gom ?_
    refine WL.p (Gp.neFault rfl rfl) (by kernel_rfl) rfl ?_
    by_cases hend : endF bs.length (k) (4, (k : Int)) = (0, 0)
    · have hf0 := endF_zero hend
      rw [if_pos hend, hlst hf0] at hrr
      have hev : (!decide (((endF bs.length (k) (4, (k : Int))).1, (endF bs.length (k) (4, (k : Int))).2) = ((0 : Int), (0 : Int)))) = false := by rw [show ((endF bs.length (k) (4, (k : Int))).1, (endF bs.length (k) (4, (k : Int))).2) = endF bs.length (k) (4, (k : Int)) from rfl, decide_eq_true hend]; rfl
      rw [hev, hrr]
      rw [hend]
      refine gom ?_
      refine WQ.one (by kernel_rfl) (by kernel_rfl) (OW.store rfl rfl (by (repeat first | exact .here | apply At.there)) rfl (by rfl) (by rfl) (by kernel_rfl) (by rfl) ?_ rfl)
      refine gom ?_
      refine WC.ret ?_
      refine WK.un ?_
      exact QF.p2 (.inl rfl) rfl (.tmp rfl) (.cell rfl inferInstance inferInstance (by (repeat first | exact .here | apply At.there)) rfl rfl) (⟨B, c, o, rfl, hg1, hv, rfl⟩)
    · rw [if_neg hend] at hrr
      have hev : (!decide (((endF bs.length (k) (4, (k : Int))).1, (endF bs.length (k) (4, (k : Int))).2) = ((0 : Int), (0 : Int)))) = true := by rw [show ((endF bs.length (k) (4, (k : Int))).1, (endF bs.length (k) (4, (k : Int))).2) = endF bs.length (k) (4, (k : Int)) from rfl, decide_eq_false hend]; rfl
      rw [hev, hrr]
      refine gom ?_
      refine WQ.one (by kernel_rfl) (by kernel_rfl) (OW.store rfl rfl (by (repeat first | exact .here | apply At.there)) rfl (by rfl) (by rfl) (by kernel_rfl) (by rfl) ?_ rfl)
      refine gom ?_
      refine WC.nothing ?_
      refine WC.ret ?_
      refine WK.un ?_
      exact QF.p2 (.inl rfl) rfl (.tmp rfl) (.cell rfl inferInstance inferInstance (by (repeat first | exact .here | apply At.there)) rfl rfl) (⟨none, 0, _, rfl, hg1, InsV.nil, rfl⟩)
  | form ch hb hk1 hch hnm hr =>
    rw [hb]
    refine WL.p (Gp.convTo (r := ch) rfl (i64u8 hch)) (by kernel_rfl) rfl ?_
    refine gom ?_
    refine WL.op (by kernel_rfl) (OW.alloc rfl fun b7 => ?_)
    refine gom ?_
    refine WL.op (by kernel_rfl) (OW.callK rfl (rfault_fn G1 rb RA bs.length rc (k + 1) (0, 0)) rfl fun v' G' H' h hg => ?_)
    obtain ⟨he, rfl, rfl⟩ := h
    cases he
    refine gom ?_
    refine WL.p (Gp.eqFault rfl rfl) (by kernel_rfl) rfl ?_
    rw [show decide (((0 : Int), (0 : Int)) = ((0 : Int), (0 : Int))) = true from by simp]
    refine gom ?_
    refine WL.op (by kernel_rfl) (OW.callK rfl (rowOf_fn G1 ch) rfl fun v' G' H' h hg => ?_)
    obtain ⟨he, rfl, rfl⟩ := h
    cases he
    refine WL.p (Gp.rowName (r := rowC ch) rfl) (by kernel_rfl) rfl ?_
    have en : ((rowC ch).name == ⟨#[]⟩) = true := by rw [bytes_beq, decide_eq_true hnm]
    refine WL.p (Gp.eqS rfl rfl) (by kernel_rfl) rfl ?_
    rw [en]
    have hfin := hI.stop (by omega) (by rw [hr]; simp)
    rw [hr] at hfin
    have hrr := readR_at hfin
    rw [endF_fault (by simp), if_neg (by simp)] at hrr
    rw [hrr]
    refine gom ?_
    refine WC.nothing ?_
    refine WC.ret ?_
    refine WK.un ?_
    exact QF.p2 (.inl rfl) rfl (.tmp rfl) (.cell rfl inferInstance inferInstance (by (repeat first | exact .here | apply At.there)) rfl rfl) (⟨none, 0, _, rfl, hg1, InsV.nil, rfl⟩)
  | plain ch hb hk1 hch hnm hm hr =>
    rw [hb]
    refine WL.p (Gp.convTo (r := ch) rfl (i64u8 hch)) (by kernel_rfl) rfl ?_
    refine gom ?_
    refine WL.op (by kernel_rfl) (OW.alloc rfl fun b7 => ?_)
    refine gom ?_
    refine WL.op (by kernel_rfl) (OW.callK rfl (rfault_fn G1 rb RA bs.length rc (k + 1) (0, 0)) rfl fun v' G' H' h hg => ?_)
    obtain ⟨he, rfl, rfl⟩ := h
    cases he
    refine gom ?_
    refine WL.p (Gp.eqFault rfl rfl) (by kernel_rfl) rfl ?_
    rw [show decide (((0 : Int), (0 : Int)) = ((0 : Int), (0 : Int))) = true from by simp]
    refine gom ?_
    refine WL.op (by kernel_rfl) (OW.callK rfl (rowOf_fn G1 ch) rfl fun v' G' H' h hg => ?_)
    obtain ⟨he, rfl, rfl⟩ := h
    cases he
    refine WL.p (Gp.rowName (r := rowC ch) rfl) (by kernel_rfl) rfl ?_
    have en : ((rowC ch).name == ⟨#[]⟩) = false := by rw [bytes_beq, decide_eq_false hnm]
    refine WL.p (Gp.eqS rfl rfl) (by kernel_rfl) rfl ?_
    rw [en]
    refine gom ?_
    refine WL.op (by kernel_rfl) (OW.callK rfl (rowOf_fn G1 ch) rfl fun v' G' H' h hg => ?_)
    obtain ⟨he, rfl, rfl⟩ := h
    cases he
    refine WL.p (Gp.rowN (r := rowC ch) rfl) (by kernel_rfl) rfl ?_
    rw [hm]
    refine gom ?_
    refine WL.op (by kernel_rfl) (OW.callK rfl (rfault_fn G1 rb RA bs.length rc (k + 1) (0, 0)) rfl fun v' G' H' h hg => ?_)
    obtain ⟨he, rfl, rfl⟩ := h
    cases he
    refine gom ?_
    refine WL.p (Gp.neFault rfl rfl) (by kernel_rfl) rfl ?_
    rw [show (!decide (((0 : Int), (0 : Int)) = ((0 : Int), (0 : Int)))) = false from by simp]
    refine gom ?_
    refine WL.op (by kernel_rfl) (OW.buildSlice rfl (by kernel_rfl) (by kernel_rfl) (by rfl) rfl fun b47 => ?_)
    refine WL.op (by kernel_rfl) (OW.append rfl rfl (by kernel_rfl) (by kernel_rfl) hv (by (repeat first | exact .here | apply At.there)) (Rds.blk0 (cs := [.int .i64 ch, .int .i64 0]) .here rfl) rfl rfl (by first | omega | (dsimp only; omega)) (by first | omega | (dsimp only; omega)) rfl fun A3 c3 o3 hv3 => ?_)
    have h3 := InsV.snoc (z := (ch, 0)) hv3
    have hst := hI.step (by omega) (by rw [hr])
    rw [hr] at hst
    dsimp only at hst
    have hl3 : xs.length + 1 = (xs ++ [(ch, 0)]).length := by rw [List.length_append]; rfl
    refine gom ?_
    refine WK.pick [o3, rdB rb RA bs.length rc (k + 1) (0, 0), .blk b3 (.cells #[.int .i64 0, .int .i64 0] 72 (0, 0))] ?_
    exact WK.again (i + 1, k + 1, ((0 : Int), (0 : Int)), xs ++ [(ch, 0)], A3, c3, o3) (by dsimp only; omega) ⟨by dsimp only; omega, by dsimp only; omega, by dsimp only; omega, hst, h3⟩ (by exact ⟨rfl, rfl, by show _ = some (Value.slice A3 _ c3); rw [← hl3]; rfl, rfl, rfl, trivial⟩) rfl (List.Sublist.refl _)
  | num ch hb hk1 hch hnm hm hr =>
    rw [hb]
    refine WL.p (Gp.convTo (r := ch) rfl (i64u8 hch)) (by kernel_rfl) rfl ?_
    refine gom ?_
    refine WL.op (by kernel_rfl) (OW.alloc rfl fun b7 => ?_)
    refine gom ?_
    refine WL.op (by kernel_rfl) (OW.callK rfl (rfault_fn G1 rb RA bs.length rc (k + 1) (0, 0)) rfl fun v' G' H' h hg => ?_)
    obtain ⟨he, rfl, rfl⟩ := h
    cases he
    refine gom ?_
    refine WL.p (Gp.eqFault rfl rfl) (by kernel_rfl) rfl ?_
    rw [show decide (((0 : Int), (0 : Int)) = ((0 : Int), (0 : Int))) = true from by simp]
    refine gom ?_
    refine WL.op (by kernel_rfl) (OW.callK rfl (rowOf_fn G1 ch) rfl fun v' G' H' h hg => ?_)
    obtain ⟨he, rfl, rfl⟩ := h
    cases he
    refine WL.p (Gp.rowName (r := rowC ch) rfl) (by kernel_rfl) rfl ?_
    have en : ((rowC ch).name == ⟨#[]⟩) = false := by rw [bytes_beq, decide_eq_false hnm]
    refine WL.p (Gp.eqS rfl rfl) (by kernel_rfl) rfl ?_
    rw [en]
    refine gom ?_
    refine WL.op (by kernel_rfl) (OW.callK rfl (rowOf_fn G1 ch) rfl fun v' G' H' h hg => ?_)
    obtain ⟨he, rfl, rfl⟩ := h
    cases he
    refine WL.p (Gp.rowN (r := rowC ch) rfl) (by kernel_rfl) rfl ?_
    rw [hm]
    refine gom ?_
    refine WL.op (by kernel_rfl) (OW.callK rfl (count_fn G1 rb RA bs rc (k + 1) (0, 0) 2147483647 hR hbs (by omega) hl (by decide) (by decide)) rfl fun v' G' H' h hg => ?_)
    obtain ⟨he, rfl, rfl⟩ := h
    cases he
    have hcl := cntR_le (bs := bs) (most := 2147483647) (k := k + 1) (f := (0, 0)) hbs (by omega) (by decide)
    rcases hcn2 : cntR bs 2147483647 (k + 1) (0, 0) with ⟨N, K, F⟩
    rw [hcn2] at hr hcl
    dsimp only at hr hcl
    refine gom ?_
    refine WL.op (by kernel_rfl) (OW.callK rfl (rfault_fn G1 rb RA bs.length rc (K) (F)) rfl fun v' G' H' h hg => ?_)
    obtain ⟨he, rfl, rfl⟩ := h
    cases he
    refine gom ?_
    refine WL.p (Gp.neFault rfl rfl) (by kernel_rfl) rfl ?_
    by_cases hF : F = (0, 0)
    · subst hF
      rw [show (!decide (((0 : Int), (0 : Int)) = ((0 : Int), (0 : Int)))) = false from by simp]
      refine gom ?_
      refine WL.op (by kernel_rfl) (OW.buildSlice rfl (by kernel_rfl) (by kernel_rfl) (by rfl) rfl fun b47 => ?_)
      refine WL.op (by kernel_rfl) (OW.append rfl rfl (by kernel_rfl) (by kernel_rfl) hv (by (repeat first | exact .here | apply At.there)) (Rds.blk0 (cs := [.int .i64 ch, .int .i64 N]) .here rfl) rfl rfl (by first | omega | (dsimp only; omega)) (by first | omega | (dsimp only; omega)) rfl fun A3 c3 o3 hv3 => ?_)
      have h3 := InsV.snoc (z := (ch, N)) hv3
      have hst := hI.step (by omega) (by rw [hr])
      rw [hr] at hst
      dsimp only at hst
      have hl3 : xs.length + 1 = (xs ++ [(ch, N)]).length := by rw [List.length_append]; rfl
      refine gom ?_
      refine WK.pick [o3, rdB rb RA bs.length rc (K) (0, 0), .blk b3 (.cells #[.int .i64 0, .int .i64 0] 72 (0, 0))] ?_
      exact WK.again (i + 1, K, ((0 : Int), (0 : Int)), xs ++ [(ch, N)], A3, c3, o3) (by dsimp only; omega) ⟨by dsimp only; omega, hcl.1, by dsimp only; omega, hst, h3⟩ (by exact ⟨rfl, rfl, by show _ = some (Value.slice A3 _ c3); rw [← hl3]; rfl, rfl, rfl, trivial⟩) rfl (List.Sublist.refl _)
    · have hev : (!decide ((F.1, F.2) = ((0 : Int), (0 : Int)))) = true := by rw [show (F.1, F.2) = F from rfl, decide_eq_false hF]; rfl
      rw [hev]
      have hfin := hI.stop (by omega) (by rw [hr]; exact hF)
      rw [hr] at hfin
      have hlst : F = (0, 0) → (lstR bs).1 = xs := fun h => absurd h hF
      have hkl := hcl.1
      have hrr := readR_at hfin
      refine gom ?_
      refine WL.op (by kernel_rfl) (OW.callK rfl (rend_fn G1 rb RA bs.length rc (K) (F) hkl (by omega)) rfl fun v' G' H' h hg => ?_)
      obtain ⟨he, rfl, rfl⟩ := h
      cases he
      refine gom ?_
      refine WL.op (by kernel_rfl) (OW.alloc rfl fun b8 => ?_)
      refine gom ?_
      refine WL.p (Gp.neFault rfl rfl) (by kernel_rfl) rfl ?_
      by_cases hend : endF bs.length (K) (F) = (0, 0)
      · have hf0 := endF_zero hend
        rw [if_pos hend, hlst hf0] at hrr
        have hev : (!decide (((endF bs.length (K) (F)).1, (endF bs.length (K) (F)).2) = ((0 : Int), (0 : Int)))) = false := by rw [show ((endF bs.length (K) (F)).1, (endF bs.length (K) (F)).2) = endF bs.length (K) (F) from rfl, decide_eq_true hend]; rfl
        rw [hev, hrr]
        rw [hend]
        refine gom ?_
        refine WQ.one (by kernel_rfl) (by kernel_rfl) (OW.store rfl rfl (by (repeat first | exact .here | apply At.there)) rfl (by rfl) (by rfl) (by kernel_rfl) (by rfl) ?_ rfl)
        refine gom ?_
        refine WC.ret ?_
        refine WK.un ?_
        exact QF.p2 (.inl rfl) rfl (.tmp rfl) (.cell rfl inferInstance inferInstance (by (repeat first | exact .here | apply At.there)) rfl rfl) (⟨B, c, o, rfl, hg1, hv, rfl⟩)
      · rw [if_neg hend] at hrr
        have hev : (!decide (((endF bs.length (K) (F)).1, (endF bs.length (K) (F)).2) = ((0 : Int), (0 : Int)))) = true := by rw [show ((endF bs.length (K) (F)).1, (endF bs.length (K) (F)).2) = endF bs.length (K) (F) from rfl, decide_eq_false hend]; rfl
        rw [hev, hrr]
        refine gom ?_
        refine WQ.one (by kernel_rfl) (by kernel_rfl) (OW.store rfl rfl (by (repeat first | exact .here | apply At.there)) rfl (by rfl) (by rfl) (by kernel_rfl) (by rfl) ?_ rfl)
        refine gom ?_
        refine WC.nothing ?_
        refine WC.ret ?_
        refine WK.un ?_
        exact QF.p2 (.inl rfl) rfl (.tmp rfl) (.cell rfl inferInstance inferInstance (by (repeat first | exact .here | apply At.there)) rfl rfl) (⟨none, 0, _, rfl, hg1, InsV.nil, rfl⟩)
end Go.Proofs.YtkmigdmdppkpoaaGreatDoor.Gb
