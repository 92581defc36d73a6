/- CodeOwn, where what it reads is of bounded bulk. -/
import Derived.Test.YtkmigdmdppkpoaaGreatDoorXj
import Derived.Test.YtkmigdmdppkpoaaGreatDoorRows
import Derived.ProofKit
import Derived.OpenShut
import Derived.Lay
import Derived.LaidMore
import Derived.Lib.LaidU8
import Derived.Shelf.Vars
import Derived.HandedShaped
import Derived.Deep.DeepHandedRow
import Derived.Test.YtkmigdmdppkpoaaGreatDoorTie
import Derived.Test.YtkmigdmdppkpoaaGreatDoorCards
import Derived.SevenTiedAt
import Derived.ShutString
import Derived.ChangeMaps5
set_option linter.unusedVariables false
set_option linter.unusedSimpArgs false
set_option linter.unusedSectionVars false
namespace Go.Proofs.YtkmigdmdppkpoaaGreatDoor.Gb
open Go Go.Proofs Go.MapKept
set_option linter.unusedVariables false
set_option linter.unusedSimpArgs false
set_option linter.unusedSectionVars false
/-- so many bytes read -/
def rawR (bs : List Int) (k n : Nat) (f : Int × Int) : List Int × Nat × (Int × Int) :=
  if f = (0, 0) then (if bs.length < k + n then ([], k, (4, (k : Int))) else ((bs.drop k).take n, k + n, (0, 0))) else ([], k, f)
theorem bvec_get {T : Nat} {c : Array Value} {l : List Int} {i : Nat} {x : Int} (h : c.toList.take (l.length * 1) = u8s l) (hx : l[i]? = Option.some x) : c[i]? = Option.some (.int .u8 x) := by
  have h1 : (u8s l)[i]? = some (.int .u8 x) := by rw [u8s, List.getElem?_map, hx]; rfl
  rw [← h, List.getElem?_take] at h1
  split at h1
  · simpa using h1
  · cases h1
attribute [local irreducible] Tryz.prog
attribute [local irreducible] numL cntR
set_option maxHeartbeats 1000000 in
theorem rraw_fn (G : Gh) (b : Nat) (BA : Option Addr) (bs : List Int) (bc k n : Nat) (f : Int × Int) (hB : Sl (Kd.int .u8) G BA bs) (hk : k ≤ bs.length) (hbc : bs.length ≤ bc) (hl : bs.length ≤ 140737488351232) (hn : n ≤ 140737488351232) (hf : f.1 = 0 → f = (0, 0)) :
    Fn Tryz.prog 118 #[.pointer (some ⟨b, 0, none⟩), .int .i64 (n : Int)] G [rrB b BA bs.length bc k f] fun e G' H' => ∃ A' cap' x', e = .returned (.slice A' (rawR bs k n f).1.length cap') ∧ G = G' ∧ BVec A' (rawR bs k n f).1 cap' x' ∧ H' = [x', rrB b BA bs.length bc (rawR bs k n f).2.1 (rawR bs k n f).2.2] := by
  refine Fn.enter Tryz.func118 rfl rfl fun w0 => ?_
  have e0 : decide ((n : Int) < 0) = false := decide_eq_false (by omega)
  by_cases h0 : f = (0, 0)
  rotate_left
  · obtain ⟨e1, e2⟩ := fault1 hf h0
    have hr : rawR bs k n f = ([], k, f) := by unfold rawR; rw [if_neg h0]
    rw [hr]
    refine gom ?_
    refine WC.nothing ?_
    refine WC.ret ?_
    refine WK.un ?_
    exact QF.p1 (.inl rfl) rfl (.tmp rfl) (⟨none, 0, _, rfl, rfl, BVec.nil, rfl⟩)
  subst h0
  have x3 : IntKind.i64.wrap ((bs.length : Int) - (k : Int)) = ((bs.length - k : Nat) : Int) := by rw [wrapI (by omega) (by omega)]; omega
  by_cases hlt : bs.length < k + n
  · have e1 : decide (((bs.length - k : Nat) : Int) < (n : Int)) = true := decide_eq_true (by omega)
    have hr : rawR bs k n (0, 0) = ([], k, (4, (k : Int))) := by unfold rawR; rw [if_pos rfl, if_pos hlt]
    rw [hr]
    refine gom ?_
    refine WL.op (by kernel_rfl) (OW.callK rfl (rfail_fn G b BA bs.length bc k (0, 0) 4 (k : Int)) rfl fun v' G' H' h hg => ?_)
    obtain ⟨he, rfl, rfl⟩ := h
    cases he
    refine gom ?_
    refine WC.nothing ?_
    refine WC.ret ?_
    refine WK.un ?_
    exact QF.p1 (.inl rfl) rfl (.tmp rfl) (⟨none, 0, _, rfl, rfl, BVec.nil, rfl⟩)
  have e1 : decide (((bs.length - k : Nat) : Int) < (n : Int)) = false := decide_eq_false (by omega)
  have hr : rawR bs k n (0, 0) = ((bs.drop k).take n, k + n, (0, 0)) := by unfold rawR; rw [if_pos rfl, if_neg hlt]
  have x2 : IntKind.i64.wrap ((k : Int) + (n : Int)) = ((k + n : Nat) : Int) := by rw [wrapI (by omega) (by omega)]; omega
  have x4 : IntKind.i64.wrap (((k + n : Nat) : Int) - (n : Int)) = (k : Int) := by rw [wrapI (by omega) (by omega)]; omega
  have hlen : ((bs.drop k).take n).length = n := by rw [List.length_take, List.length_drop]; omega
  rw [hr]
  refine go ?_
  refine WC.draw mixed ?_
  refine WA.tp (i := 0) rfl (by kernel_rfl) (by kernel_rfl) rfl (Gp.move rfl) ?_
  refine WA.tp (i := 1) rfl (by kernel_rfl) (by kernel_rfl) rfl (Gp.move rfl) ?_
  refine WA.tp (i := 2) rfl (by kernel_rfl) (by kernel_rfl) rfl (Gp.nilCheck rfl) ?_
  refine WA.tp (i := 3) rfl (by kernel_rfl) (by kernel_rfl) rfl (Gp.fieldAddr rfl) ?_
  refine WA.tp (i := 6) rfl (by kernel_rfl) (by kernel_rfl) rfl (Gp.move rfl) ?_
  refine WA.tp (i := 7) rfl (by kernel_rfl) (by kernel_rfl) rfl (Gp.nilCheck rfl) ?_
  refine WA.tp (i := 8) rfl (by kernel_rfl) (by kernel_rfl) rfl (Gp.fieldAddr rfl) ?_
  (first | (refine WA.tv (i := 9) rfl (by kernel_rfl) (by kernel_rfl) rfl (Gv.load1 rfl (by (repeat first | exact .here | apply At.there)) (by first | rfl | assumption)) ?_) | (refine WA.tv (i := 9) rfl (by kernel_rfl) (by kernel_rfl) rfl (Gv.loadN rfl (by (repeat first | exact .here | apply At.there)) (by rfl) (by rfl)) ?_) | (refine WA.tv (i := 9) rfl (by kernel_rfl) (by kernel_rfl) rfl (Gv.loadG1 rfl (by assumption) rfl) ?_) | (refine WA.tv (i := 9) rfl (by kernel_rfl) (by kernel_rfl) rfl (Gv.loadG0 rfl (by assumption) rfl) ?_) | (refine WA.tv (i := 9) rfl (by kernel_rfl) (by kernel_rfl) rfl (Gv.loadGN rfl (by assumption) rfl) ?_))
  (first | (refine WA.tv (i := 4) rfl (by kernel_rfl) (by kernel_rfl) rfl (Gv.load1 rfl (by (repeat first | exact .here | apply At.there)) (by first | rfl | assumption)) ?_) | (refine WA.tv (i := 4) rfl (by kernel_rfl) (by kernel_rfl) rfl (Gv.loadN rfl (by (repeat first | exact .here | apply At.there)) (by rfl) (by rfl)) ?_) | (refine WA.tv (i := 4) rfl (by kernel_rfl) (by kernel_rfl) rfl (Gv.loadG1 rfl (by assumption) rfl) ?_) | (refine WA.tv (i := 4) rfl (by kernel_rfl) (by kernel_rfl) rfl (Gv.loadG0 rfl (by assumption) rfl) ?_) | (refine WA.tv (i := 4) rfl (by kernel_rfl) (by kernel_rfl) rfl (Gv.loadGN rfl (by assumption) rfl) ?_))
  (first | refine WA.tp (i := 5) rfl (by kernel_rfl) (by kernel_rfl) rfl (Gp.lenSl rfl) ?_ | refine WA.tp (i := 5) rfl (by kernel_rfl) (by kernel_rfl) rfl (Gp.lenS rfl) ?_)
  refine WA.tp (i := 10) rfl (by kernel_rfl) (by kernel_rfl) rfl (Gp.subTo rfl rfl x3) ?_
  refine WA.tp (i := 11) rfl (by kernel_rfl) (by kernel_rfl) rfl (Gp.gtI' rfl rfl e1) ?_
  refine WA.done (by kernel_rfl) ?_
  refine WK.un ?_
  refine go ?_
  refine WC.pick [rrB b BA bs.length bc (k + n) (0, 0)] ?_
  refine WC.nothing ?_
  refine WC.drawS (Hs := [rrB b BA bs.length bc (k + n) (0, 0)]) mixed (by repeat (first | exact Pk.nil | exact Pk.all | exact Pk.app | exact Pk.appR | with_reducible apply Pk.na | (apply Pk.cons; (repeat first | exact .here | apply Rem.there | apply Rem.app)) | apply Pk.skip | apply Pk.skipA)) ?_
  refine WB.tp (i := 0) rfl (by kernel_rfl) (by kernel_rfl) rfl (Gp.move rfl) ?_
  refine WB.tp (i := 1) rfl (by kernel_rfl) (by kernel_rfl) rfl (Gp.nilCheck rfl) ?_
  refine WB.tp (i := 2) rfl (by kernel_rfl) (by kernel_rfl) rfl (Gp.fieldAddr rfl) ?_
  refine WB.tp (i := 4) rfl (by kernel_rfl) (by kernel_rfl) rfl (Gp.move rfl) ?_
  refine WB.tp (i := 5) rfl (by kernel_rfl) (by kernel_rfl) rfl (Gp.nilCheck rfl) ?_
  refine WB.tp (i := 6) rfl (by kernel_rfl) (by kernel_rfl) rfl (Gp.fieldAddr rfl) ?_
  refine WB.tp (i := 8) rfl (by kernel_rfl) (by kernel_rfl) rfl (Gp.move rfl) ?_
  refine WB.tp (i := 10) rfl (by kernel_rfl) (by kernel_rfl) rfl (Gp.move rfl) ?_
  refine WB.tp (i := 11) rfl (by kernel_rfl) (by kernel_rfl) rfl (Gp.nilCheck rfl) ?_
  refine WB.tp (i := 12) rfl (by kernel_rfl) (by kernel_rfl) rfl (Gp.fieldAddr rfl) ?_
  (first | (refine WB.tv (i := 3) rfl (by kernel_rfl) (by kernel_rfl) rfl (Gv.load1 rfl (by (repeat first | exact .here | apply At.there)) (by first | rfl | assumption)) ?_) | (refine WB.tv (i := 3) rfl (by kernel_rfl) (by kernel_rfl) rfl (Gv.loadN rfl (by (repeat first | exact .here | apply At.there)) (by rfl) (by rfl)) ?_) | (refine WB.tv (i := 3) rfl (by kernel_rfl) (by kernel_rfl) rfl (Gv.loadG1 rfl (by assumption) rfl) ?_) | (refine WB.tv (i := 3) rfl (by kernel_rfl) (by kernel_rfl) rfl (Gv.loadG0 rfl (by assumption) rfl) ?_) | (refine WB.tv (i := 3) rfl (by kernel_rfl) (by kernel_rfl) rfl (Gv.loadGN rfl (by assumption) rfl) ?_))
  (first | (refine WB.tv (i := 7) rfl (by kernel_rfl) (by kernel_rfl) rfl (Gv.load1 rfl (by (repeat first | exact .here | apply At.there)) (by first | rfl | assumption)) ?_) | (refine WB.tv (i := 7) rfl (by kernel_rfl) (by kernel_rfl) rfl (Gv.loadN rfl (by (repeat first | exact .here | apply At.there)) (by rfl) (by rfl)) ?_) | (refine WB.tv (i := 7) rfl (by kernel_rfl) (by kernel_rfl) rfl (Gv.loadG1 rfl (by assumption) rfl) ?_) | (refine WB.tv (i := 7) rfl (by kernel_rfl) (by kernel_rfl) rfl (Gv.loadG0 rfl (by assumption) rfl) ?_) | (refine WB.tv (i := 7) rfl (by kernel_rfl) (by kernel_rfl) rfl (Gv.loadGN rfl (by assumption) rfl) ?_))
  refine WB.tp (i := 9) rfl (by kernel_rfl) (by kernel_rfl) rfl (Gp.subTo rfl rfl x4) ?_
  (first | (refine WB.tv (i := 13) rfl (by kernel_rfl) (by kernel_rfl) rfl (Gv.load1 rfl (by (repeat first | exact .here | apply At.there)) (by first | rfl | assumption)) ?_) | (refine WB.tv (i := 13) rfl (by kernel_rfl) (by kernel_rfl) rfl (Gv.loadN rfl (by (repeat first | exact .here | apply At.there)) (by rfl) (by rfl)) ?_) | (refine WB.tv (i := 13) rfl (by kernel_rfl) (by kernel_rfl) rfl (Gv.loadG1 rfl (by assumption) rfl) ?_) | (refine WB.tv (i := 13) rfl (by kernel_rfl) (by kernel_rfl) rfl (Gv.loadG0 rfl (by assumption) rfl) ?_) | (refine WB.tv (i := 13) rfl (by kernel_rfl) (by kernel_rfl) rfl (Gv.loadGN rfl (by assumption) rfl) ?_))
  refine WB.tp (i := 14) rfl (by kernel_rfl) (by kernel_rfl) rfl (Gp.slice2 rfl rfl rfl (by omega) (by omega) (by omega)) ?_
  refine WB.one (i := 15) (by kernel_rfl) rfl (by kernel_rfl) (OW.append rfl rfl (by kernel_rfl) (by kernel_rfl) BVec.nil (by (repeat first | exact .here | apply At.there)) ((hB.fromG hbc (lo := k)).take n).u8s (by rw [u8s_length, hlen]; omega) (u8s_one _) (by first | omega | (dsimp only; omega)) (by first | omega | (dsimp only; omega)) rfl fun A3 c3 o3 hv3 => ?_)
  refine ⟨fun w hw => hw.leSub (Gh.le_refl _) (List.Sublist.cons _ (List.Sublist.refl _)), ?_⟩
  refine WB.tp (i := 16) rfl (by kernel_rfl) (by kernel_rfl) rfl (Gp.assign rfl) ?_
  refine WB.done (by kernel_rfl) ?_
  refine WK.un ?_
  have hv4 : BVec A3 ((bs.drop k).take n) c3 o3 := by
    unfold BVec
    have e : 0 + (((k + n : Nat) : Int).toNat - ((k : Nat) : Int).toNat) = ((bs.drop k).take n).length := by rw [hlen, Int.toNat_natCast, Int.toNat_natCast]; omega
    rw [← e]; exact hv3
  have e4 : ((bs.drop k).take n).length = 0 + (((k + n : Nat) : Int).toNat - ((k : Nat) : Int).toNat) := by rw [hlen, Int.toNat_natCast, Int.toNat_natCast]; omega
  refine WC.ret ?_
  refine WK.un ?_
  exact QF.p1 (.inl rfl) rfl (.tmp rfl) (⟨A3, c3, o3, by rw [e4], rfl, hv4, rfl⟩)
theorem rrbyte_fn (G : Gh) (b : Nat) (BA : Option Addr) (bs : List Int) (bc k : Nat) (f : Int × Int) (hB : Sl (Kd.int .u8) G BA bs) (hk : k ≤ bs.length) (hbc : bs.length ≤ bc) (hl : bs.length ≤ 140737488351232) (hf : f.1 = 0 → f = (0, 0)) :
    Fn Tryz.prog 89 #[.pointer (some ⟨b, 0, none⟩)] G [rrB b BA bs.length bc k f] fun e G' H' => e = .returned (.int .u8 (byteR bs k f).1) ∧ G = G' ∧ H' = [rrB b BA bs.length bc (byteR bs k f).2.1 (byteR bs k f).2.2] := by
  refine Fn.enter Tryz.func89 rfl rfl fun w0 => ?_
  refine gom ?_
  refine WL.op (by kernel_rfl) (OW.callK rfl (rraw_fn G b BA bs bc k 1 f hB hk hbc hl (by decide) hf) rfl fun v' G' H' h hg => ?_)
  obtain ⟨A1, c1, x1, he, rfl, h1, rfl⟩ := h
  cases he
  by_cases h0 : f = (0, 0)
  rotate_left
  · have hr : rawR bs k 1 f = ([], k, f) := by unfold rawR; rw [if_neg h0]
    have hr2 : byteR bs k f = (0, k, f) := by unfold byteR; rw [if_neg h0]
    rw [hr, hr2]
    refine gom ?_
    refine WC.ret ?_
    refine WK.un ?_
    exact QF.p1 (.inl rfl) rfl (.tmp rfl) (⟨rfl, rfl, rfl⟩)
  subst h0
  cases hc : bs[k]? with
  | none =>
    have hlt : bs.length < k + 1 := by rw [List.getElem?_eq_none_iff] at hc; omega
    have hr : rawR bs k 1 (0, 0) = ([], k, (4, (k : Int))) := by unfold rawR; rw [if_pos rfl, if_pos hlt]
    have hr2 : byteR bs k (0, 0) = (0, k, (4, (k : Int))) := by unfold byteR; rw [if_pos rfl, hc]
    rw [hr, hr2]
    refine gom ?_
    refine WC.ret ?_
    refine WK.un ?_
    exact QF.p1 (.inl rfl) rfl (.tmp rfl) (⟨rfl, rfl, rfl⟩)
  | some ch =>
    have hkl := (List.getElem?_eq_some_iff.1 hc).1
    have hd : (bs.drop k).take 1 = [ch] := by rw [List.drop_eq_getElem_cons hkl, (List.getElem?_eq_some_iff.1 hc).2]; rfl
    have hr : rawR bs k 1 (0, 0) = ([ch], k + 1, (0, 0)) := by unfold rawR; rw [if_pos rfl, if_neg (by omega), hd]
    have hr2 : byteR bs k (0, 0) = (ch, k + 1, (0, 0)) := by unfold byteR; rw [if_pos rfl, hc]
    rw [hr] at h1
    rw [hr, hr2]
    obtain ⟨b1, cc, rfl, rfl⟩ := h1.isBlk (by show 0 < 1; decide)
    have hcc : cc[0]? = some (.int .u8 ch) := by
      rcases h1.2 with ⟨h, _⟩ | ⟨b', c', he1, he2, _, _, he3⟩
      · cases h
      · cases he2; exact bvec_get (T := 0) (l := [ch]) he3 rfl
    have xl : (0 : Int) < ((([ch] : List Int).length : Nat) : Int) := by simp
    refine gom ?_
    refine WC.ret ?_
    refine WK.un ?_
    exact QF.p1 (.inl rfl) rfl (.tmp rfl) (⟨rfl, rfl, rfl⟩)
theorem rnew_fn (G : Gh) (A : Option Addr) (bs : List Int) (cap : Nat) (hA : Sl (Kd.int .u8) G A bs) (hl : bs.length ≤ 140737488351232) :
    Fn Tryz.prog 64 #[.slice A bs.length cap] G [] fun e G' H' => ∃ A' c, e = .returned (.agg #[.slice A' bs.length c, .int .i64 0, .int .i64 0, .int .i64 0]) ∧ G.le G' ∧ Sl (Kd.int .u8) G' A' bs ∧ bs.length ≤ c ∧ H' = [] := by
  refine Fn.enter Tryz.func64 rfl rfl fun w0 => ?_
  refine WC.nothing ?_
  refine gom ?_
  refine WL.op (by kernel_rfl) (OW.alloc rfl fun b2 => ?_)
  refine gom ?_
  refine WL.op (by kernel_rfl) (OW.append rfl rfl (by kernel_rfl) (by kernel_rfl) BVec.nil (by (repeat first | exact .here | apply At.there)) hA.u8s (u8s_length _) (u8s_one _) (by first | omega | (dsimp only; omega)) (by first | omega | (dsimp only; omega)) rfl fun A3 c3 o3 hv3 => ?_)
  have hv4 : BVec A3 bs c3 o3 := by
    unfold BVec
    have e : 0 + bs.length = bs.length := Nat.zero_add _
    rw [← e]; exact hv3
  have hle := hv4.le
  refine WL.frozenVec hv4 (by (repeat first | exact .here | apply At.there)) fun G1 hg1 hz1 => ?_
  have hs1 := BVec.sl hz1
  rw [show 0 + bs.length = bs.length from Nat.zero_add _]
  refine gom ?_
  refine WC.ret ?_
  refine WK.un ?_
  exact QF.p1 (.inl rfl) rfl (.cell rfl inferInstance inferInstance (by (repeat first | exact .here | apply At.there)) rfl rfl) (⟨A3, c3, rfl, hg1, hs1, hle, rfl⟩)
attribute [local irreducible] byteR stepR readL readR finR lstR cnt0 endF rowC rawR
/-- where the document's reading stands -/
def RdJ (bs : List Int) (i k : Nat) (f : Int × Int) (xs : List (Int × Int)) : Prop := RdI bs i k f xs ∨ (f ≠ (0, 0) ∧ finR bs = (k, f))
theorem RdJ.well {bs : List Int} {i k : Nat} {xs : List (Int × Int)} (h : RdJ bs i k (0, 0) xs) : RdI bs i k (0, 0) xs := by
  rcases h with h | ⟨h, _⟩
  · exact h
  · exact absurd rfl h
theorem RdJ.fin {bs : List Int} {k i : Nat} {f : Int × Int} {xs : List (Int × Int)} (h : RdJ bs i k f xs) (hi : i = (cnt0 bs).1.toNat ∨ f ≠ (0, 0)) : finR bs = (k, f) ∧ (f = (0, 0) → (lstR bs).1 = xs) := by
  rcases h with h | ⟨h, h1⟩
  · rcases hi with hi | hi
    · subst hi; exact h.fin
    · rcases h with ⟨h, _⟩ | ⟨_, _, h⟩
      · exact absurd h hi
      · exact ⟨h, fun h => absurd h hi⟩
  · exact ⟨h1, fun h' => absurd h' h⟩
set_option maxHeartbeats 4000000 in
set_option maxRecDepth 20000 in
theorem readFrom_fn (G : Gh) (b : Nat) (BA : Option Addr) (bs : List Int) (bc : Nat) (hB : Sl (Kd.int .u8) G BA bs) (hbs : ∀ c ∈ bs, 0 ≤ c ∧ c < 256) (hbc : bs.length ≤ bc) (hl : bs.length ≤ 140737488351232) :
    Fn Tryz.prog 65 #[.pointer (some ⟨b, 0, none⟩)] G [rrB b BA bs.length bc 0 (0, 0)] fun e G' H' => ∃ xs A' cap' x', e = .returned (.slice A' xs.length cap') ∧ G = G' ∧ InsV A' xs cap' x' ∧ xs.length ≤ 16384 ∧ ((finR bs).2 = (0, 0) → (lstR bs).1 = xs) ∧ ((finR bs).2.1 = 0 → (finR bs).2 = (0, 0)) ∧ H' = [x', rrB b BA bs.length bc (finR bs).1 (finR bs).2] := by
  refine Fn.enter Tryz.func65 rfl rfl fun w0 => ?_
  refine gom ?_
  refine WL.op (by kernel_rfl) (OW.callK rfl (rcount_fn G b BA bs bc 0 (0, 0) 16384 hB hbs (Nat.zero_le _) hl (fun _ => rfl) (by decide) (by decide)) rfl fun v' G' H' h hg => ?_)
  obtain ⟨he, rfl, rfl⟩ := h
  cases he
  have hc0 := cntR_le (bs := bs) (most := 16384) (k := 0) (f := (0, 0)) hbs (Nat.zero_le _) (by decide)
  have hcf0 := cntR_fault (bs := bs) (most := 16384) (k := 0) (f := (0, 0)) hbs (Nat.zero_le _) (fun _ => rfl)
  rw [show cntR bs 16384 0 (0, 0) = cnt0 bs from by unfold cnt0; rfl] at hc0 hcf0 ⊢
  have hbeg := RdI.begin bs hbs
  generalize hcn : cnt0 bs = cn at hc0 hcf0 hbeg ⊢
  obtain ⟨nI, k0, f0⟩ := cn
  dsimp only at hc0 hcf0 hbeg ⊢
  obtain ⟨n, rfl⟩ : ∃ n : Nat, nI = (n : Int) := ⟨nI.toNat, by omega⟩
  have hn0 : (cnt0 bs).1.toNat = n := by rw [hcn]; exact Int.toNat_natCast n
  refine gom ?_
  refine WC.nothing ?_
  refine WC.loop (X := Nat × Nat × (Int × Int) × List (Int × Int) × Option Addr × Nat × Own) (fun s => [(0, .pointer (some ⟨b, 0, none⟩)), (3, .int .i64 (n : Int)), (4, .slice s.2.2.2.2.1 s.2.2.2.1.length s.2.2.2.2.2.1), (5, .int .i64 (s.1 : Int))]) (fun _ => G) (fun s => [s.2.2.2.2.2.2, rrB b BA bs.length bc s.2.1 s.2.2.1]) (fun s => n - s.1) (fun s => s.1 ≤ n ∧ s.2.1 ≤ bs.length ∧ s.2.2.2.1.length ≤ s.1 ∧ (s.2.2.1.1 = 0 → s.2.2.1 = (0, 0)) ∧ RdJ bs s.1 s.2.1 s.2.2.1 s.2.2.2.1 ∧ InsV s.2.2.2.2.1 s.2.2.2.1 s.2.2.2.2.2.1 s.2.2.2.2.2.2) (0, k0, f0, [], none, 0, .spare 0 0 0) ⟨Nat.zero_le _, hc0.1, Nat.le_refl _, hcf0, .inl hbeg, InsV.nil⟩ (by exact ⟨rfl, rfl, rfl, rfl, trivial⟩) rfl (by first | exact List.Sublist.refl _ | (repeat (first | exact List.Sublist.refl _ | exact List.nil_sublist _ | apply List.Sublist.cons₂ | apply List.Sublist.cons))) fun s hs => ?_
  obtain ⟨i, k, f, xs, B, c, o⟩ := s
  obtain ⟨hin, hkl, hxl, hf, hI, hv⟩ := hs
  dsimp only at hin hkl hxl hf hI hv
  have x2 : IntKind.i64.wrap ((i : Int) + 1) = ((i + 1 : Nat) : Int) := by rw [wrapI (by omega) (by omega)]; rfl
  by_cases hlt : i < n
  rotate_left
  · have e2 : decide ((i : Int) < (n : Int)) = false := decide_eq_false (by omega)
    obtain ⟨hfin, hlst⟩ := hI.fin (.inl (by omega))
    rw [hfin]
    refine gom ?_
    refine WC.ret ?_
    refine WK.un ?_
    exact QF.p1 (.inl rfl) rfl (.tmp rfl) (⟨xs, B, c, o, rfl, rfl, hv, by omega, hlst, hf, rfl⟩)
  have e2 : decide ((i : Int) < (n : Int)) = true := decide_eq_true (by omega)
  by_cases h0 : f = (0, 0)
  rotate_left
  · obtain ⟨e1, e3⟩ := fault1 hf h0
    obtain ⟨hfin, hlst⟩ := hI.fin (.inr h0)
    rw [hfin]
    refine gom ?_
    refine WC.ret ?_
    refine WK.un ?_
    exact QF.p1 (.inl rfl) rfl (.tmp rfl) (⟨xs, B, c, o, rfl, rfl, hv, by omega, hlst, hf, rfl⟩)
  subst h0
  have hI := hI.well
  refine gom ?_
  refine WL.op (by kernel_rfl) (OW.callK rfl (rrbyte_fn G b BA bs bc k (0, 0) hB hkl hbc hl (fun _ => rfl)) rfl fun v' G' H' h hg => ?_)
  obtain ⟨he, rfl, rfl⟩ := h
  cases he
  cases stepR_is (bs := bs) (k := k) hbs with
  | short hb hr =>
    have hfin := hI.stop (by omega) (by rw [hr]; simp)
    rw [hr] at hfin
    rw [hb]
    refine WL.p (Gp.convTo (r := 0) rfl (by rfl)) (by kernel_rfl) rfl ?_
    refine gom ?_
    refine WL.op (by kernel_rfl) (OW.alloc rfl fun b8 => ?_)
    refine gom ?_
    refine WL.op (by kernel_rfl) (OW.buildSlice rfl (by kernel_rfl) (by kernel_rfl) (by rfl) rfl fun b62 => ?_)
    refine WL.op (by kernel_rfl) (OW.append rfl rfl (by kernel_rfl) (by kernel_rfl) hv (by (repeat first | exact .here | apply At.there)) (Rds.blk0 (cs := [.int .i64 0, .int .i64 0]) .here rfl) rfl rfl (by first | omega | (dsimp only; omega)) (by first | omega | (dsimp only; omega)) rfl fun A3 c3 o3 hv3 => ?_)
    have h3 := InsV.snoc (z := (0, 0)) hv3
    have hl3 : xs.length + 1 = (xs ++ [(0, (0 : Int))]).length := by rw [List.length_append]; rfl
    refine gom ?_
    refine WK.pick [o3, rrB b BA bs.length bc (k) (((4 : Int), (k : Int)))] ?_
    exact WK.again (i + 1, k, (((4 : Int), (k : Int))), xs ++ [(0, (0 : Int))], A3, c3, o3) (by dsimp only; omega) ⟨by dsimp only; omega, hkl, by dsimp only; omega, (fun h => by simp at h), .inr ⟨(by simp), hfin⟩, h3⟩ (by exact ⟨rfl, rfl, by show _ = some (Value.slice A3 _ c3); rw [← hl3]; rfl, rfl, trivial⟩) rfl (List.Sublist.refl _)
  | form ch hb hk1 hch hnm hr =>
    have hfin := hI.stop (by omega) (by rw [hr]; simp)
    rw [hr] at hfin
    have en : ((rowC ch).name != ⟨#[]⟩) = false := by rw [bne, bytes_beq, decide_eq_true hnm]; rfl
    rw [hb]
    refine WL.p (Gp.convTo (r := ch) rfl (i64u8 hch)) (by kernel_rfl) rfl ?_
    refine gom ?_
    refine WL.op (by kernel_rfl) (OW.callK rfl (ris_fn G ch) rfl fun v' G' H' h hg => ?_)
    obtain ⟨he, rfl, rfl⟩ := h
    cases he
    rw [is_row, en]
    refine gom ?_
    refine WL.op (by kernel_rfl) (OW.callK rfl (rFail_fn G b BA bs.length bc k 5 (by decide)) rfl fun v' G' H' h hg => ?_)
    obtain ⟨he, rfl, rfl⟩ := h
    cases he
    refine gom ?_
    refine WL.op (by kernel_rfl) (OW.alloc rfl fun b8 => ?_)
    refine gom ?_
    refine WL.op (by kernel_rfl) (OW.buildSlice rfl (by kernel_rfl) (by kernel_rfl) (by rfl) rfl fun b62 => ?_)
    refine WL.op (by kernel_rfl) (OW.append rfl rfl (by kernel_rfl) (by kernel_rfl) hv (by (repeat first | exact .here | apply At.there)) (Rds.blk0 (cs := [.int .i64 ch, .int .i64 0]) .here rfl) rfl rfl (by first | omega | (dsimp only; omega)) (by first | omega | (dsimp only; omega)) rfl fun A3 c3 o3 hv3 => ?_)
    have h3 := InsV.snoc (z := (ch, 0)) hv3
    have hl3 : xs.length + 1 = (xs ++ [(ch, (0 : Int))]).length := by rw [List.length_append]; rfl
    refine gom ?_
    refine WK.pick [o3, rrB b BA bs.length bc (k) (((5 : Int), (k : Int)))] ?_
    exact WK.again (i + 1, k, (((5 : Int), (k : Int))), xs ++ [(ch, (0 : Int))], A3, c3, o3) (by dsimp only; omega) ⟨by dsimp only; omega, hkl, by dsimp only; omega, (fun h => by simp at h), .inr ⟨(by simp), hfin⟩, h3⟩ (by exact ⟨rfl, rfl, by show _ = some (Value.slice A3 _ c3); rw [← hl3]; rfl, rfl, trivial⟩) rfl (List.Sublist.refl _)
  | plain ch hb hk1 hch hnm hm hr =>
    have en : ((rowC ch).name != ⟨#[]⟩) = true := by rw [bne, bytes_beq, decide_eq_false hnm]; rfl
    rw [hb]
    refine WL.p (Gp.convTo (r := ch) rfl (i64u8 hch)) (by kernel_rfl) rfl ?_
    refine gom ?_
    refine WL.op (by kernel_rfl) (OW.callK rfl (ris_fn G ch) rfl fun v' G' H' h hg => ?_)
    obtain ⟨he, rfl, rfl⟩ := h
    cases he
    rw [is_row, en]
    refine gom ?_
    refine WL.op (by kernel_rfl) (OW.alloc rfl fun b8 => ?_)
    refine gom ?_
    refine WL.op (by kernel_rfl) (OW.callK rfl (numb_fn G [] ch) rfl fun v' G' H' h hg => ?_)
    obtain ⟨he, rfl, rfl⟩ := h
    cases he
    rw [hm]
    have hst := hI.step (by omega) (by rw [hr])
    rw [hr] at hst
    dsimp only at hst
    refine gom ?_
    refine WL.op (by kernel_rfl) (OW.buildSlice rfl (by kernel_rfl) (by kernel_rfl) (by rfl) rfl fun b62 => ?_)
    refine WL.op (by kernel_rfl) (OW.append rfl rfl (by kernel_rfl) (by kernel_rfl) hv (by (repeat first | exact .here | apply At.there)) (Rds.blk0 (cs := [.int .i64 ch, .int .i64 0]) .here rfl) rfl rfl (by first | omega | (dsimp only; omega)) (by first | omega | (dsimp only; omega)) rfl fun A3 c3 o3 hv3 => ?_)
    have h3 := InsV.snoc (z := (ch, 0)) hv3
    have hl3 : xs.length + 1 = (xs ++ [(ch, (0 : Int))]).length := by rw [List.length_append]; rfl
    refine gom ?_
    refine WK.pick [o3, rrB b BA bs.length bc (k + 1) (((0 : Int), (0 : Int)))] ?_
    exact WK.again (i + 1, k + 1, (((0 : Int), (0 : Int))), xs ++ [(ch, (0 : Int))], A3, c3, o3) (by dsimp only; omega) ⟨by dsimp only; omega, by dsimp only; omega, by dsimp only; omega, (fun _ => rfl), .inl hst, h3⟩ (by exact ⟨rfl, rfl, by show _ = some (Value.slice A3 _ c3); rw [← hl3]; rfl, rfl, trivial⟩) rfl (List.Sublist.refl _)
  | num ch hb hk1 hch hnm hm hr =>
    have en : ((rowC ch).name != ⟨#[]⟩) = true := by rw [bne, bytes_beq, decide_eq_false hnm]; rfl
    rw [hb]
    refine WL.p (Gp.convTo (r := ch) rfl (i64u8 hch)) (by kernel_rfl) rfl ?_
    refine gom ?_
    refine WL.op (by kernel_rfl) (OW.callK rfl (ris_fn G ch) rfl fun v' G' H' h hg => ?_)
    obtain ⟨he, rfl, rfl⟩ := h
    cases he
    rw [is_row, en]
    refine gom ?_
    refine WL.op (by kernel_rfl) (OW.alloc rfl fun b8 => ?_)
    refine gom ?_
    refine WL.op (by kernel_rfl) (OW.callK rfl (numb_fn G [] ch) rfl fun v' G' H' h hg => ?_)
    obtain ⟨he, rfl, rfl⟩ := h
    cases he
    rw [hm]
    refine gom ?_
    refine WL.op (by kernel_rfl) (OW.callK rfl (rcount_fn G b BA bs bc (k + 1) (0, 0) 2147483647 hB hbs (by omega) hl (fun _ => rfl) (by decide) (by decide)) rfl fun v' G' H' h hg => ?_)
    obtain ⟨he, rfl, rfl⟩ := h
    cases he
    have hcl := cntR_le (bs := bs) (most := 2147483647) (k := k + 1) (f := (0, 0)) hbs (by omega) (by decide)
    have hcf := cntR_fault (bs := bs) (most := 2147483647) (k := k + 1) (f := (0, 0)) hbs (by omega) (fun _ => rfl)
    rcases hcn2 : cntR bs 2147483647 (k + 1) (0, 0) with ⟨N, K, F⟩
    rw [hcn2] at hr hcl hcf
    dsimp only at hr hcl hcf
    have hJ : RdJ bs (i + 1) K F (xs ++ [(ch, N)]) := by
      by_cases hF : F = (0, 0)
      · have hst := hI.step (by omega) (by rw [hr]; exact hF)
        rw [hr] at hst
        rw [hF]
        exact .inl hst
      · have hfin := hI.stop (by omega) (by rw [hr]; exact hF)
        rw [hr] at hfin
        exact .inr ⟨hF, hfin⟩
    refine gom ?_
    refine WL.op (by kernel_rfl) (OW.buildSlice rfl (by kernel_rfl) (by kernel_rfl) (by rfl) rfl fun b62 => ?_)
    refine WL.op (by kernel_rfl) (OW.append rfl rfl (by kernel_rfl) (by kernel_rfl) hv (by (repeat first | exact .here | apply At.there)) (Rds.blk0 (cs := [.int .i64 ch, .int .i64 N]) .here rfl) rfl rfl (by first | omega | (dsimp only; omega)) (by first | omega | (dsimp only; omega)) rfl fun A3 c3 o3 hv3 => ?_)
    have h3 := InsV.snoc (z := (ch, N)) hv3
    have hl3 : xs.length + 1 = (xs ++ [(ch, (N : Int))]).length := by rw [List.length_append]; rfl
    refine gom ?_
    refine WK.pick [o3, rrB b BA bs.length bc (K) (F)] ?_
    exact WK.again (i + 1, K, (F), xs ++ [(ch, (N : Int))], A3, c3, o3) (by dsimp only; omega) ⟨by dsimp only; omega, hcl.1, by dsimp only; omega, hcf, hJ, h3⟩ (by exact ⟨rfl, rfl, by show _ = some (Value.slice A3 _ c3); rw [← hl3]; rfl, rfl, trivial⟩) rfl (List.Sublist.refl _)
theorem rRead_fn (G : Gh) (A : Option Addr) (bs : List Int) (cap : Nat) (hA : Sl (Kd.int .u8) G A bs) (hbs : ∀ c ∈ bs, 0 ≤ c ∧ c < 256) (hl : bs.length ≤ 140737488351232) :
    Fn Tryz.prog 36 #[.slice A bs.length cap] G [] fun e G' H' => ∃ A' cap' x', e = .returned (.tuple #[.slice A' (readR bs).1.length cap', .agg #[.int .i64 (readR bs).2.1, .int .i64 (readR bs).2.2]]) ∧ G.le G' ∧ InsV A' (readR bs).1 cap' x' ∧ H' = [x'] := by
  refine Fn.enter Tryz.func36 rfl rfl fun w0 => ?_
  refine WC.seq ?_
  refine WC.region ?_
  refine WL.p (Gp.assign rfl) (by kernel_rfl) rfl ?_
  refine WL.op (by kernel_rfl) (OW.alloc rfl fun b3 => ?_)
  refine gom ?_
  refine WL.op (by kernel_rfl) (OW.callK rfl (rnew_fn G A bs cap hA hl) rfl fun v' G' H' h hg => ?_)
  obtain ⟨RA, rc, he, hg1, hR, hrc, rfl⟩ := h
  cases he
  obtain ⟨G1, rfl⟩ : ∃ G1, G1 = G' := ⟨_, rfl⟩
  refine gom ?_
  refine WL.op (by kernel_rfl) (OW.alloc rfl fun b4 => ?_)
  refine gom ?_
  refine WL.op (by kernel_rfl) (OW.callK rfl (readFrom_fn G1 b4 RA bs rc hR hbs hrc hl) rfl fun v' G' H' h hg => ?_)
  obtain ⟨xs, B, c, o, he, rfl, hv, hxl, hlst, hcf, rfl⟩ := h
  cases he
  rcases hfin : finR bs with ⟨k, f⟩
  rw [hfin] at hlst hcf
  dsimp only at hlst hcf
  have hrr := readR_at hfin
  refine gom ?_
  refine WL.op (by kernel_rfl) (OW.callK rfl (rrend_fn G1 b4 RA bs.length rc k f hcf) rfl fun v' G' H' h hg => ?_)
  obtain ⟨he, rfl, rfl⟩ := h
  cases he
  by_cases hend : endF bs.length k f = (0, 0)
  · have hf0 := endF_zero hend
    rw [if_pos hend, hlst hf0] at hrr
    rw [hrr, hend]
    refine gom ?_
    refine WC.ret ?_
    refine WK.un ?_
    exact QF.p2 (.inl rfl) rfl (.tmp rfl) (.cell rfl inferInstance inferInstance (by (repeat first | exact .here | apply At.there)) rfl rfl) (⟨B, c, o, rfl, hg1, hv, rfl⟩)
  · rw [if_neg hend] at hrr
    rw [hrr]
    have e1 : ((endF bs.length k f).1 != 0) = true := by
      by_cases h0 : f = (0, 0)
      · subst h0
        unfold endF at hend ⊢
        split
        · rfl
        · rename_i hh; rw [if_neg hh] at hend; exact absurd rfl hend
      · rw [endF_fault h0]; exact (fault1 hcf h0).2
    refine gom ?_
    refine WC.nothing ?_
    refine WC.ret ?_
    refine WK.un ?_
    exact QF.p2 (.inl rfl) rfl (.tmp rfl) (.cell rfl inferInstance inferInstance (by (repeat first | exact .here | apply At.there)) rfl rfl) (⟨none, 0, _, rfl, hg1, InsV.nil, rfl⟩)
end Go.Proofs.YtkmigdmdppkpoaaGreatDoor.Gb
namespace Go.Proofs.YtkmigdmdppkpoaaGreatDoor.Gb
open Go Go.Proofs Go.MapKept
set_option linter.unusedVariables false
set_option linter.unusedSimpArgs false
set_option linter.unusedSectionVars false
attribute [local irreducible] Tryz.prog
theorem sameBytesO_fn (G : Gh) (A B : Option Addr) (l : List Int) (ca cb : Nat) (o : Own) (hx : BVec A l ca o) (hy : Sl (Kd.int .u8) G B l) :
    Fn Tryz.prog 31 #[.slice A l.length ca, .slice B l.length cb] G [o] fun e G' H' => e = .returned (.bool true) ∧ G = G' ∧ H' = [o] := by
  refine Fn.enter Tryz.func31 rfl rfl fun w0 => ?_
  have nx : A = none → l.length = 0 := fun h => by rcases hx.2 with ⟨_, h1, _⟩ | ⟨b, c, h1, _⟩; exact h1; rw [h1] at h; cases h
  refine gom ?_
  refine WL.v (Gv.convBytes rfl (hx.rds .here) nx) (by kernel_rfl) rfl ?_
  refine gom ?_
  refine WL.v (Gv.convBytes rfl hy.u8s hy.none_zero) (by kernel_rfl) rfl ?_
  refine gom ?_
  have e1 : (strOfNums l == strOfNums l) = true := by rw [bytes_beq]; simp
  rw [e1]
  refine gom ?_
  refine WC.ret ?_
  refine WK.un ?_
  exact QF.p1 (.inl rfl) rfl (.tmp rfl) (⟨rfl, rfl, rfl⟩)
theorem TxVec.some {cap : Nat} {A : Option Addr} {l : List ByteArray} {x : Own} (h : TxVec A l cap x) (hl : 0 < l.length) : ∃ b c, A = some ⟨b, 0, none⟩ ∧ x = .blk b (.cells c 9 (0, 0)) ∧ c.toList.take (l.length * 1) = strV l := by
  obtain ⟨_, ⟨_, h, _⟩ | ⟨b, c, h1, h2, _, _, h3⟩⟩ := h
  · omega
  · exact ⟨b, c, h1, h2, h3⟩
theorem txvec_get {c : Array Value} {l : List ByteArray} {i : Nat} {x : ByteArray} (h : c.toList.take (l.length * 1) = strV l) (hx : l[i]? = Option.some x) : c[i]? = Option.some (.string x) := by
  have h1 : (strV l)[i]? = Option.some (.string x) := by unfold strV; rw [List.getElem?_map, hx]; rfl
  rw [← h, List.getElem?_take] at h1
  split at h1
  · simpa using h1
  · cases h1
theorem sameTypesO_fn (G : Gh) (A B : Option Addr) (l : List (Int)) (ca cb : Nat) (o : Own) (ho : TVec A l ca o) (hb : Sl (Kd.int .i64) G B l) (hl : l.length ≤ 100000000000000) :
    Fn Tryz.prog 17 #[.slice A l.length ca, .slice B l.length cb] G [o] fun e G' H' => e = .returned (.bool true) ∧ G = G' ∧ H' = [o] := by
  refine Fn.enter Tryz.func17 rfl rfl fun w0 => ?_
  have e1 : ((l.length : Int) != (l.length : Int)) = false := by simp
  refine gom ?_
  refine WC.loop (X := Nat) (fun i => [(5, .int .i64 i), (0, .slice A l.length ca), (1, .slice B l.length cb)]) (fun _ => G) (fun _ => [o]) (fun i => l.length - i) (fun i => i ≤ l.length) 0 (Nat.zero_le _) (by exact ⟨rfl, rfl, rfl, trivial⟩) rfl (List.Sublist.refl _) fun i hi => ?_
  by_cases hlt : i < l.length
  rotate_left
  · have e2 : decide ((i : Int) < (l.length : Int)) = false := decide_eq_false (by omega)
    refine gom ?_
    refine WC.ret ?_
    refine WK.un ?_
    exact QF.p1 (.inl rfl) rfl (.tmp rfl) (⟨rfl, rfl, rfl⟩)
  have e2 : decide ((i : Int) < (l.length : Int)) = true := decide_eq_true (by omega)
  obtain ⟨x, hx⟩ : ∃ x, l[i]? = some x := ⟨_, List.getElem?_eq_getElem hlt⟩
  obtain ⟨bb, bo, cs2, rfl, hk2, hcb⟩ := hb i x hx
  obtain rfl : cs2 = [.int .i64 x] := hk2
  obtain ⟨xb, xc, rfl, rfl, hxc⟩ := ho.some (by omega)
  have hxg : xc[0 + ((i : Nat) : Int).toNat * 1]? = some (.int .i64 x) := by
    have := ivec_get hxc hx
    simpa using this
  have x0 : (0 : Int) ≤ i := by omega
  have x2 : (i : Int) < (l.length : Int) := by omega
  have x4 := wrapS i (by omega)
  have e3 : (x != x) = false := by simp
  refine gom ?_
  exact WK.again (i + 1) (by omega) (by omega) (by exact ⟨rfl, rfl, rfl, trivial⟩) rfl (List.Sublist.refl _)
theorem sameTextsO_fn (G : Gh) (A B : Option Addr) (l : List (ByteArray)) (ca cb : Nat) (o : Own) (ho : TxVec A l ca o) (hb : Sl Kd.str G B l) (hl : l.length ≤ 100000000000000) :
    Fn Tryz.prog 28 #[.slice A l.length ca, .slice B l.length cb] G [o] fun e G' H' => e = .returned (.bool true) ∧ G = G' ∧ H' = [o] := by
  refine Fn.enter Tryz.func28 rfl rfl fun w0 => ?_
  have e1 : ((l.length : Int) != (l.length : Int)) = false := by simp
  refine gom ?_
  refine WC.loop (X := Nat) (fun i => [(5, .int .i64 i), (0, .slice A l.length ca), (1, .slice B l.length cb)]) (fun _ => G) (fun _ => [o]) (fun i => l.length - i) (fun i => i ≤ l.length) 0 (Nat.zero_le _) (by exact ⟨rfl, rfl, rfl, trivial⟩) rfl (List.Sublist.refl _) fun i hi => ?_
  by_cases hlt : i < l.length
  rotate_left
  · have e2 : decide ((i : Int) < (l.length : Int)) = false := decide_eq_false (by omega)
    refine gom ?_
    refine WC.ret ?_
    refine WK.un ?_
    exact QF.p1 (.inl rfl) rfl (.tmp rfl) (⟨rfl, rfl, rfl⟩)
  have e2 : decide ((i : Int) < (l.length : Int)) = true := decide_eq_true (by omega)
  obtain ⟨x, hx⟩ : ∃ x, l[i]? = some x := ⟨_, List.getElem?_eq_getElem hlt⟩
  obtain ⟨bb, bo, cs2, rfl, hk2, hcb⟩ := hb i x hx
  obtain rfl : cs2 = [.string x] := hk2
  obtain ⟨xb, xc, rfl, rfl, hxc⟩ := ho.some (by omega)
  have hxg : xc[0 + ((i : Nat) : Int).toNat * 1]? = some (.string x) := by
    have := txvec_get hxc hx
    simpa using this
  have x0 : (0 : Int) ≤ i := by omega
  have x2 : (i : Int) < (l.length : Int) := by omega
  have x4 := wrapS i (by omega)
  have e3 : (!(x == x)) = false := by rw [bytes_beq]; simp
  refine gom ?_
  rw [e3]
  refine gom ?_
  exact WK.again (i + 1) (by omega) (by omega) (by exact ⟨rfl, rfl, rfl, trivial⟩) rfl (List.Sublist.refl _)
theorem sameInstrsO_fn (G : Gh) (A B : Option Addr) (l : List (Int × Int)) (ca cb : Nat) (o : Own) (ho : InsV A l ca o) (hb : Sl Kd.ins G B l) (hl : l.length ≤ 100000000000000) :
    Fn Tryz.prog 32 #[.slice A l.length ca, .slice B l.length cb] G [o] fun e G' H' => e = .returned (.bool true) ∧ G = G' ∧ H' = [o] := by
  refine Fn.enter Tryz.func32 rfl rfl fun w0 => ?_
  have e1 : ((l.length : Int) != (l.length : Int)) = false := by simp
  refine gom ?_
  refine WC.loop (X := Nat) (fun i => [(5, .int .i64 i), (0, .slice A l.length ca), (1, .slice B l.length cb)]) (fun _ => G) (fun _ => [o]) (fun i => l.length - i) (fun i => i ≤ l.length) 0 (Nat.zero_le _) (by exact ⟨rfl, rfl, rfl, trivial⟩) rfl (List.Sublist.refl _) fun i hi => ?_
  by_cases hlt : i < l.length
  rotate_left
  · have e2 : decide ((i : Int) < (l.length : Int)) = false := decide_eq_false (by omega)
    refine gom ?_
    refine WC.ret ?_
    refine WK.un ?_
    exact QF.p1 (.inl rfl) rfl (.tmp rfl) (⟨rfl, rfl, rfl⟩)
  have e2 : decide ((i : Int) < (l.length : Int)) = true := decide_eq_true (by omega)
  obtain ⟨x, hx⟩ : ∃ x, l[i]? = some x := ⟨_, List.getElem?_eq_getElem hlt⟩
  obtain ⟨bb, bo, cs2, rfl, hk2, hcb⟩ := hb i x hx
  obtain rfl : cs2 = [.int .i64 x.1, .int .i64 x.2] := hk2
  have hee : ((iflat l).drop (((i : Nat) : Int).toNat * 2)).take 2 = [.int .i64 x.1, .int .i64 x.2] := flat_elem icells 2 (fun _ => rfl) l i x hx
  obtain ⟨rb, ro, hrr, hread⟩ := (Vec.rds ho .here : Rds G [o] A (iflat l)).resolve_left (fun h => by have h1 := iflat_length l; rw [h] at h1; simp at h1; omega)
  subst hrr
  have x0 : (0 : Int) ≤ i := by omega
  have x2 : (i : Int) < (l.length : Int) := by omega
  have x4 := wrapS i (by omega)
  have e3 : (!decide ((x.1, x.2) = (x.1, x.2))) = false := by simp
  refine gom ?_
  refine WQ.tv (Gv.loadRN (i := ((i : Nat) : Int).toNat * 2) rfl hread (List.Sublist.refl _) hee rfl) (by kernel_rfl) (by kernel_rfl) rfl ?_
  refine gom ?_
  refine WQ.tp (Gp.neIns rfl rfl) (by kernel_rfl) (by kernel_rfl) rfl ?_
  rw [e3]
  refine gom ?_
  exact WK.again (i + 1) (by omega) (by omega) (by exact ⟨rfl, rfl, rfl, trivial⟩) rfl (List.Sublist.refl _)
end Go.Proofs.YtkmigdmdppkpoaaGreatDoor.Gb
namespace Go.Proofs.YtkmigdmdppkpoaaGreatDoor.Gb
open Go Go.Proofs Go.MapKept
set_option linter.unusedVariables false
set_option linter.unusedSimpArgs false
set_option linter.unusedSectionVars false
attribute [local irreducible] Tryz.prog
theorem bytesR_len {l : List (Int × Int)} (h : l.all mayI = true) : (bytesR l).1.length ≤ 10 + 6 * l.length ∨ 18446744073709551616 ≤ l.length := by
  rcases Nat.lt_or_ge l.length 18446744073709551616 with h0 | h0
  · left
    unfold bytesR
    rw [h, if_pos rfl]
    have h1 := uintL_len10 h0
    have h2 := flat_le (l := l) (k := l.length) fun j i _ hi => List.all_eq_true.1 h i (List.mem_of_getElem? hi)
    unfold encP
    rw [List.length_append]; omega
  · exact .inr h0
theorem bytesR_nums {l : List (Int × Int)} (h : l.all mayI = true) (h0 : l.length < 18446744073709551616) : ∀ c ∈ (bytesR l).1, 0 ≤ c ∧ c < 256 := by
  have hu : ∀ (k n : Nat), n < 128 ^ (k + 1) → ∀ c ∈ uintL n, 0 ≤ c ∧ c < 256 := by
    intro k
    induction k with
    | zero => intro n hn c hc; rw [uintL_lt (by simpa using hn)] at hc; simp at hc; omega
    | succ k ih =>
      intro n hn c hc
      by_cases h128 : n < 128
      · rw [uintL_lt h128] at hc; simp at hc; omega
      · rw [uintL_ge h128] at hc
        rcases List.mem_cons.1 hc with rfl | hc
        · omega
        · exact ih (n / 128) (by rw [Nat.div_lt_iff_lt_mul (by decide)]; rw [Nat.pow_succ] at hn; exact hn) c hc
  unfold bytesR
  rw [h, if_pos rfl]
  unfold encP
  rw [List.take_length]
  intro c hc
  rcases List.mem_append.1 hc with hc | hc
  · exact hu 9 _ (by omega) c hc
  · obtain ⟨i, hi, hc⟩ := List.mem_flatMap.1 hc
    exact encI_nums (List.all_eq_true.1 h i hi) c hc
attribute [local irreducible] readR bytesR
end Go.Proofs.YtkmigdmdppkpoaaGreatDoor.Gb
namespace Go.Proofs.YtkmigdmdppkpoaaGreatDoor.Gb
open Go Go.Proofs Go.MapKept
set_option linter.unusedVariables false
set_option linter.unusedSimpArgs false
set_option linter.unusedSectionVars false
attribute [local irreducible] Tryz.prog
theorem bytesR_all {l : List (Int × Int)} (hl : l.length ≤ 1048576) : (bytesR l).1.length ≤ 7000000 ∧ ∀ c ∈ (bytesR l).1, 0 ≤ c ∧ c < 256 := by
  cases h : l.all mayI with
  | true =>
    have h1 := bytesR_len h
    exact ⟨by omega, bytesR_nums h (by omega)⟩
  | false =>
    have e : (bytesR l).1 = [] := by unfold bytesR; rw [h]; rfl
    rw [e]; exact ⟨by simp, by simp⟩
theorem linesR_le1 (l : List (Int × Int)) : (linesR l).1.length ≤ l.length := by
  unfold linesR
  split
  · simp
  · simp
section
variable (G : Gh) (hE : Env G) (IA : Option Addr) (l : List (Int × Int)) (cap : Nat) (hI : Sl Kd.ins G IA l) (hl : l.length ≤ 1048576) (o : Ob) (CA NA PA : Option Addr) (cc nc pc : Nat) (hO : ORep G o CA NA PA) (hL : OLim o)
include hE hI hl hO hL
set_option maxHeartbeats 8000000 in
set_option maxRecDepth 20000 in
theorem codeOwn_fn : Fn Tryz.prog 12 #[.slice IA l.length cap, .agg (obC o CA NA PA cc nc pc)] G [] fun e G' H' => e = .returned (.bool true) ∧ G.le G' ∧ H' = [] := by
  obtain ⟨hbl, hbn⟩ := bytesR_all hl
  have hlen := linesR_le1 l
  have hrl := readR_len (bytesR l).1 hbn
  have hhl := heights_len (o := o) (n := 0)
  obtain ⟨htl1, htl2⟩ := types_len (o := o) (n := 0) (k := 0)
  refine Fn.enter Tryz.func12 rfl rfl fun w0 => ?_
  refine WC.seq ?_
  refine WC.region ?_
  refine WL.op (by kernel_rfl) (OW.box rfl rfl fun b3 => ?_)
  refine gom ?_
  refine WL.op (by kernel_rfl) (OW.callK rfl (rBytes_fn G IA l cap hI (by omega)) rfl fun v' G' H' h hg => ?_)
  obtain ⟨BA, cb, x5, he, rfl, hx5, rfl⟩ := h
  cases he
  clear hg
  refine WL.frozenVec hx5 (by (repeat first | exact .here | apply At.there)) fun G1 hg1 z1 => ?_
  have hB := BVec.sl z1
  refine gom ?_
  refine WL.op (by kernel_rfl) (OW.callK rfl (rLines_fn G1 (hE.mono hg1) IA l cap (hI.mono hg1) (by omega)) rfl fun v' G' H' h hg => ?_)
  obtain ⟨LA, cl, x7, he, hg2, hx7, rfl⟩ := h
  cases he
  clear hg
  refine WL.frozenVec hx7 (by (repeat first | exact .here | apply At.there)) fun G3 hg3 z3 => ?_
  have hLs := TxVec.sl z3
  have hg13 := Gh.le_trans hg1 (Gh.le_trans hg2 hg3)
  replace hB := (hB.mono hg2).mono hg3
  obtain ⟨bs, hbs⟩ : ∃ bs, bs = (bytesR l).1 := ⟨_, rfl⟩
  obtain ⟨ls, hls⟩ : ∃ ls, ls = (linesR l).1 := ⟨_, rfl⟩
  rw [← hbs] at hB hbl hbn hrl ⊢
  rw [← hls] at hLs hlen ⊢
  refine gom ?_
  refine WC.loop (X := Nat × Gh) (fun x => [(0, .slice IA l.length cap), (3, .pointer (some ⟨b3, 0, none⟩)), (5, .slice BA bs.length cb), (7, .slice LA ls.length cl), (9, .int .i64 (x.1 : Int))]) (fun x => x.2) (fun _ => [.blk b3 (.cells (obC o CA NA PA cc nc pc) 26 (0, 0))]) (fun x => 2 - x.1) (fun x => x.1 ≤ 2 ∧ G3.le x.2) (0, G3) ⟨Nat.zero_le _, Gh.le_refl _⟩ (by exact ⟨rfl, rfl, rfl, rfl, rfl, trivial⟩) rfl (List.Sublist.refl _) fun x hx => ?_
  obtain ⟨i, G4⟩ := x
  obtain ⟨hi, hg4⟩ := hx
  dsimp only at hi hg4
  have hgA := Gh.le_trans hg13 hg4
  by_cases hlt : i < 2
  rotate_left
  · have e2 : decide ((i : Int) < 2) = false := decide_eq_false (by omega)
    refine gom ?_
    refine WL.op (by kernel_rfl) (OW.callK rfl (awake_fn G4 (hE.mono hgA)) rfl fun v' G' H' h hg => ?_)
    obtain ⟨he, hg9, rfl⟩ := h
    cases he
    refine gom ?_
    refine WC.ret ?_
    refine WK.un ?_
    exact QF.p1 (.inl rfl) rfl (.tmp rfl) (⟨rfl, Gh.le_trans hgA hg9, rfl⟩)
  · have e2 : decide ((i : Int) < 2) = true := decide_eq_true (by omega)
    have iw := wrapS i (by omega)
    refine gom ?_
    refine WL.op (by kernel_rfl) (OW.callK rfl (Bytes_fn G4 IA l cap (hI.mono hgA) (by omega)) rfl fun v' G' H' h hg => ?_)
    obtain ⟨A10, c10, x10, he, rfl, hx10, rfl⟩ := h
    cases he
    clear hg
    rw [← hbs] at hx10 ⊢
    refine gom ?_
    refine WL.op (by kernel_rfl) (OW.callK rfl (Lines_fn G4 (hE.mono hgA) IA l cap (hI.mono hgA) (by omega)) rfl fun v' G' H' h hg => ?_)
    obtain ⟨A12, c12, x12, he, rfl, hx12, rfl⟩ := h
    cases he
    clear hg
    rw [← hls] at hx12 ⊢
    refine gom ?_
    refine WL.op (by kernel_rfl) (OW.callK rfl (Read_fn G4 BA bs cb (hB.mono hg4) hbn (by omega)) rfl fun v' G' H' h hg => ?_)
    obtain ⟨A14, c14, x14, he, hg5, hx14, rfl⟩ := h
    cases he
    clear hg
    obtain ⟨G5, rfl⟩ : ∃ G1, G1 = G' := ⟨_, rfl⟩
    have hg35 := Gh.le_trans hg4 hg5
    refine gom ?_
    refine WL.op (by kernel_rfl) (OW.alloc rfl fun b15 => ?_)
    refine gom ?_
    refine WL.op (by kernel_rfl) (OW.callK rfl (rRead_fn G5 BA bs cb (hB.mono hg35) hbn (by omega)) rfl fun v' G' H' h hg => ?_)
    obtain ⟨A16, c16, x16, he, hg6, hx16, rfl⟩ := h
    cases he
    clear hg
    obtain ⟨G6, rfl⟩ : ∃ G1, G1 = G' := ⟨_, rfl⟩
    refine WL.frozenVec hx16 (by (repeat first | exact .here | apply At.there)) fun G7 hg7 z7 => ?_
    have hs16 := InsV.sl z7
    have hg37 := Gh.le_trans hg35 (Gh.le_trans hg6 hg7)
    refine gom ?_
    refine WL.op (by kernel_rfl) (OW.alloc rfl fun b17 => ?_)
    refine gom ?_
    refine WL.op (by kernel_rfl) (OW.callK rfl (sameBytesO_fn G7 A10 BA bs c10 cb x10 hx10 (hB.mono hg37)) rfl fun v' G' H' h hg => ?_)
    obtain ⟨he, rfl, rfl⟩ := h
    cases he
    clear hg
    refine gom ?_
    refine WL.op (by kernel_rfl) (OW.callK rfl (sameTextsO_fn G7 A12 LA ls c12 cl x12 hx12 (hLs.mono hg37) (by omega)) rfl fun v' G' H' h hg => ?_)
    obtain ⟨he, rfl, rfl⟩ := h
    cases he
    clear hg
    refine gom ?_
    refine WL.p (Gp.neFault rfl rfl) (by kernel_rfl) rfl ?_
    rw [show (!decide (((readR bs).2.1, (readR bs).2.2) = ((readR bs).2.1, (readR bs).2.2))) = false by simp]
    refine gom ?_
    refine WL.op (by kernel_rfl) (OW.callK rfl (sameInstrsO_fn G7 A14 A16 (readR bs).1 c14 c16 x14 hx14 hs16 (by omega)) rfl fun v' G' H' h hg => ?_)
    obtain ⟨he, rfl, rfl⟩ := h
    cases he
    clear hg
    have hgB := Gh.le_trans hg13 hg37
    refine gom ?_
    refine WL.op (by kernel_rfl) (OW.callK rfl (Heights_fn G7 (hE.mono hgB) o CA NA PA cc nc pc (hO.mono hgB) hL 0) rfl fun v' G' H' h hg => ?_)
    obtain ⟨A18, c18, x18, he, hg8, hx18, rfl⟩ := h
    cases he
    clear hg
    obtain ⟨G8, rfl⟩ : ∃ G1, G1 = G' := ⟨_, rfl⟩
    have hgC := Gh.le_trans hgB hg8
    refine gom ?_
    refine WL.op (by kernel_rfl) (OW.callK rfl (Types_fn G8 (hE.mono hgC) o CA NA PA cc nc pc (hO.mono hgC) hL 0 0) rfl fun v' G' H' h hg => ?_)
    obtain ⟨A20, c20, A21, c21, x20, x21, he, hg9, hx20, hx21, rfl⟩ := h
    cases he
    clear hg
    obtain ⟨G9, rfl⟩ : ∃ G1, G1 = G' := ⟨_, rfl⟩
    refine WL.frozenVec hx21 (by (repeat first | exact .here | apply At.there)) fun G10 hg10 z10 => ?_
    have hs21 := IVec.sl z10
    have hgD := Gh.le_trans hgC (Gh.le_trans hg9 hg10)
    refine gom ?_
    refine WL.op (by kernel_rfl) (OW.callK rfl (rHeights_fn G10 o CA NA PA cc nc pc (hO.mono hgD) hL 0) rfl fun v' G' H' h hg => ?_)
    obtain ⟨A23, c23, x23, he, hg11, hx23, rfl⟩ := h
    cases he
    clear hg
    obtain ⟨G11, rfl⟩ : ∃ G1, G1 = G' := ⟨_, rfl⟩
    refine WL.frozenVec hx23 (by (repeat first | exact .here | apply At.there)) fun G12 hg12 z12 => ?_
    have hs23 := IVec.sl z12
    have hgE := Gh.le_trans hgD (Gh.le_trans hg11 hg12)
    refine gom ?_
    refine WL.op (by kernel_rfl) (OW.callK rfl (rTypes_fn G12 o CA NA PA cc nc pc (hO.mono hgE) hL 0 0) rfl fun v' G' H' h hg => ?_)
    obtain ⟨A25, c25, A26, c26, he, hg13', hs25, hs26, rfl⟩ := h
    cases he
    clear hg
    obtain ⟨G13, rfl⟩ : ∃ G1, G1 = G' := ⟨_, rfl⟩
    have hg1013 := Gh.le_trans hg11 (Gh.le_trans hg12 hg13')
    have hgF := Gh.le_trans hgE hg13'
    obtain ⟨hs, hhs⟩ : ∃ hs, hs = heightsR o 0 := ⟨_, rfl⟩
    obtain ⟨tv, htv⟩ : ∃ tv, tv = (typesR o 0 0).1 := ⟨_, rfl⟩
    obtain ⟨ts, hts⟩ : ∃ ts, ts = (typesR o 0 0).2 := ⟨_, rfl⟩
    rw [← hhs] at hhl hx18 hs23 ⊢
    rw [← htv] at htl1 hx20 hs25 ⊢
    rw [← hts] at htl2 hs21 hs26 ⊢
    have h1' : ((hs.length : Int) != (hs.length : Int)) = false := by simp
    refine go ?_
    refine WC.joinG (X := Unit) (fun _ => [(0, .slice IA l.length cap), (3, .pointer (some ⟨b3, 0, none⟩)), (5, .slice BA bs.length cb), (7, .slice LA ls.length cl), (9, .int .i64 (i : Int)), (10, .slice A10 bs.length c10), (12, .slice A12 ls.length c12), (14, .slice A14 (readR bs).1.length c14), (18, .slice A18 hs.length c18), (20, .slice A20 tv.length c20), (140, .bool false)]) (fun _ => G13) (fun _ => [x10, x12, x14, x18, x20, .blk b3 (.cells (obC o CA NA PA cc nc pc) 26 (0, 0))]) (fun _ => True) ?_ fun _ _ => ?_
    · refine gom ?_
      refine WQ.one (by kernel_rfl) (by kernel_rfl) (OW.callK rfl (sameTypesO_fn G13 A20 A25 tv c20 c25 x20 hx20 hs25 (by omega)) rfl fun v' G' H' h hg => ?_)
      obtain ⟨he, rfl, rfl⟩ := h
      cases he
      clear hg
      refine gom ?_
      refine WQ.one (by kernel_rfl) (by kernel_rfl) (OW.callK rfl (sameTypes_fn G13 A21 A26 ts ts c21 c26 (hs21.mono hg1013) hs26 (by omega)) rfl fun v' G' H' h hg => ?_)
      obtain ⟨he, rfl, rfl⟩ := h
      cases he
      clear hg
      rw [decide_eq_true (rfl : ts = ts)]
      by_cases h0 : hs.length = 0
      · have q0 : decide ((0 : Int) < (hs.length : Int)) = false := decide_eq_false (by omega)
        refine gom ?_
        refine WK.pick [x10, x12, x14, x18, x20, .blk b3 (.cells (obC o CA NA PA cc nc pc) 26 (0, 0))] ?_
        exact WK.meet () trivial (by exact ⟨rfl, rfl, rfl, rfl, rfl, rfl, rfl, rfl, rfl, rfl, rfl, trivial⟩) rfl (List.Sublist.refl _)
      · have q0 : decide ((0 : Int) < (hs.length : Int)) = true := decide_eq_true (by omega)
        obtain ⟨x, hx⟩ : ∃ x, hs[0]? = some x := ⟨_, List.getElem?_eq_getElem (by omega)⟩
        obtain ⟨xb, xc, rfl, rfl, hxc⟩ := hx18.some (by omega)
        have hxg : xc[0 + (0 : Int).toNat * 1]? = some (.int .i64 x) := ivec_get hxc hx
        obtain ⟨bb, bo, rfl, hcb⟩ := hs23.at hx
        have hcb' := hcb.mono hg13'
        have q1 : (0 : Int) < (hs.length : Int) := by omega
        have q2 : (x != x) = false := by simp
        refine gom ?_
        refine WK.pick [x10, x12, x14, .blk xb (.cells xc 3 (0, 0)), x20, .blk b3 (.cells (obC o CA NA PA cc nc pc) 26 (0, 0))] ?_
        exact WK.meet () trivial (by exact ⟨rfl, rfl, rfl, rfl, rfl, rfl, rfl, rfl, rfl, rfl, rfl, trivial⟩) rfl (List.Sublist.refl _)
    refine gom ?_
    have w91 : IntKind.i64.wrap (90 + (i : Int)) = 90 + (i : Int) := wrapI (by omega) (by omega)
    have w92 : IntKind.u8.wrap (90 + (i : Int)) = 90 + (i : Int) := by rcases (by omega : i = 0 ∨ i = 1) with rfl | rfl <;> rfl
    refine WC.pick [x10, x12, x14, x18, x20, .blk b3 (.cells (obC o CA NA PA cc nc pc) 26 (0, 0))] ?_
    refine WC.loop (X := Nat × List Value × Own) (fun j => [(0, .slice IA l.length cap), (3, .pointer (some ⟨b3, 0, none⟩)), (5, .slice BA bs.length cb), (7, .slice LA ls.length cl), (9, .int .i64 (i : Int)), (10, .slice A10 bs.length c10), (12, .slice A12 ls.length c12), (14, .slice A14 (readR bs).1.length c14), (18, .slice A18 hs.length c18), (20, .slice A20 tv.length c20), (28, .int .i64 (j.1 : Int))]) (fun _ => G13) (fun j => [j.2.2, x12, x14, x18, x20, .blk b3 (.cells (obC o CA NA PA cc nc pc) 26 (0, 0))]) (fun j => bs.length - j.1)
      (fun j => j.1 ≤ bs.length ∧ Vec 5 1 A10 bs.length c10 j.2.1 j.2.2) (0, _, x10) ⟨Nat.zero_le _, hx10⟩ (by exact ⟨rfl, rfl, rfl, rfl, rfl, rfl, rfl, rfl, rfl, rfl, rfl, trivial⟩) rfl (List.Sublist.refl _) fun j hj => ?_
    obtain ⟨j, cs, ow⟩ := j
    obtain ⟨hj1, hjv⟩ := hj
    dsimp only at hj1 hjv
    by_cases hjl : j < bs.length
    · have f2 : decide ((j : Int) < (bs.length : Int)) = true := decide_eq_true (by omega)
      have f0 : (0 : Int) ≤ (j : Int) := by omega
      have f1 : (j : Int) < (bs.length : Int) := by omega
      have f3 := wrapS j (by omega)
      obtain ⟨wb, wc, rfl, rfl⟩ := hjv.isBlk (by omega)
      obtain ⟨_, hft, hpv⟩ := Vec.put1 (o := 0 + ((j : Nat) : Int).toNat * 1) hjv (by omega) (.int .u8 (90 + (i : Int)))
      have hbl : Nat.ble (0 + ((j : Nat) : Int).toNat * 1 + 1) wc.size = true := Nat.ble_eq_true_of_le hft
      refine gom ?_
      refine WL.p (Gp.convTo rfl w92) (by kernel_rfl) rfl ?_
      refine gom ?_
      refine WK.pick [.blk wb (.cells (splice wc (0 + ((j : Nat) : Int).toNat * 1) [.int .u8 (90 + (i : Int))]) 5 (0, 0)), x12, x14, x18, x20, .blk b3 (.cells (obC o CA NA PA cc nc pc) 26 (0, 0))] ?_
      exact WK.again (j + 1, _, _) (by dsimp only; omega) ⟨by dsimp only; omega, hpv⟩ (by exact ⟨rfl, rfl, rfl, rfl, rfl, rfl, rfl, rfl, rfl, rfl, rfl, trivial⟩) rfl (List.Sublist.refl _)
    have f2 : decide ((j : Int) < (bs.length : Int)) = false := decide_eq_false (by omega)
    clear hjv hj1 hjl
    refine gom ?_
    refine WC.pick [x12, x14, x18, x20, .blk b3 (.cells (obC o CA NA PA cc nc pc) 26 (0, 0))] ?_
    refine WC.loop (X := Nat × List Value × Own) (fun j => [(0, .slice IA l.length cap), (3, .pointer (some ⟨b3, 0, none⟩)), (5, .slice BA bs.length cb), (7, .slice LA ls.length cl), (9, .int .i64 (i : Int)), (12, .slice A12 ls.length c12), (14, .slice A14 (readR bs).1.length c14), (18, .slice A18 hs.length c18), (20, .slice A20 tv.length c20), (29, .int .i64 (j.1 : Int))]) (fun _ => G13) (fun j => [j.2.2, x14, x18, x20, .blk b3 (.cells (obC o CA NA PA cc nc pc) 26 (0, 0))]) (fun j => ls.length - j.1)
      (fun j => j.1 ≤ ls.length ∧ Vec 9 1 A12 ls.length c12 j.2.1 j.2.2) (0, _, x12) ⟨Nat.zero_le _, hx12⟩ (by exact ⟨rfl, rfl, rfl, rfl, rfl, rfl, rfl, rfl, rfl, rfl, trivial⟩) rfl (List.Sublist.refl _) fun j hj => ?_
    obtain ⟨j, cs, ow⟩ := j
    obtain ⟨hj1, hjv⟩ := hj
    dsimp only at hj1 hjv
    by_cases hjl : j < ls.length
    · have f2 : decide ((j : Int) < (ls.length : Int)) = true := decide_eq_true (by omega)
      have f0 : (0 : Int) ≤ (j : Int) := by omega
      have f1 : (j : Int) < (ls.length : Int) := by omega
      have f3 := wrapS j (by omega)
      obtain ⟨wb, wc, rfl, rfl⟩ := hjv.isBlk (by omega)
      obtain ⟨_, hft, hpv⟩ := Vec.put1 (o := 0 + ((j : Nat) : Int).toNat * 1) hjv (by omega) (.string ⟨#[115,112,111,105,108,116]⟩)
      have hbl : Nat.ble (0 + ((j : Nat) : Int).toNat * 1 + 1) wc.size = true := Nat.ble_eq_true_of_le hft
      refine gom ?_
      refine WK.pick [.blk wb (.cells (splice wc (0 + ((j : Nat) : Int).toNat * 1) [.string ⟨#[115,112,111,105,108,116]⟩]) 9 (0, 0)), x14, x18, x20, .blk b3 (.cells (obC o CA NA PA cc nc pc) 26 (0, 0))] ?_
      exact WK.again (j + 1, _, _) (by dsimp only; omega) ⟨by dsimp only; omega, hpv⟩ (by exact ⟨rfl, rfl, rfl, rfl, rfl, rfl, rfl, rfl, rfl, rfl, trivial⟩) rfl (List.Sublist.refl _)
    have f2 : decide ((j : Int) < (ls.length : Int)) = false := decide_eq_false (by omega)
    clear hjv hj1 hjl
    refine gom ?_
    refine WC.pick [x14, x18, x20, .blk b3 (.cells (obC o CA NA PA cc nc pc) 26 (0, 0))] ?_
    refine WC.loop (X := Nat × List Value × Own) (fun j => [(0, .slice IA l.length cap), (3, .pointer (some ⟨b3, 0, none⟩)), (5, .slice BA bs.length cb), (7, .slice LA ls.length cl), (9, .int .i64 (i : Int)), (14, .slice A14 (readR bs).1.length c14), (18, .slice A18 hs.length c18), (20, .slice A20 tv.length c20), (30, .int .i64 (j.1 : Int))]) (fun _ => G13) (fun j => [j.2.2, x18, x20, .blk b3 (.cells (obC o CA NA PA cc nc pc) 26 (0, 0))]) (fun j => (readR bs).1.length - j.1)
      (fun j => j.1 ≤ (readR bs).1.length ∧ Vec 50 2 A14 (readR bs).1.length c14 j.2.1 j.2.2) (0, _, x14) ⟨Nat.zero_le _, hx14⟩ (by exact ⟨rfl, rfl, rfl, rfl, rfl, rfl, rfl, rfl, rfl, trivial⟩) rfl (List.Sublist.refl _) fun j hj => ?_
    obtain ⟨j, cs, ow⟩ := j
    obtain ⟨hj1, hjv⟩ := hj
    dsimp only at hj1 hjv
    by_cases hjl : j < (readR bs).1.length
    · have f2 : decide ((j : Int) < ((readR bs).1.length : Int)) = true := decide_eq_true (by omega)
      have f0 : (0 : Int) ≤ (j : Int) := by omega
      have f1 : (j : Int) < ((readR bs).1.length : Int) := by omega
      have f3 := wrapS j (by omega)
      obtain ⟨wb, wc, rfl, rfl⟩ := hjv.isBlk (by omega)
      obtain ⟨_, hft, hpv⟩ := Vec.put1 (o := 0 + ((j : Nat) : Int).toNat * 2 + 1) hjv (by omega) (.int .i64 77)
      have hbl : Nat.ble (0 + ((j : Nat) : Int).toNat * 2 + 1 + 1) wc.size = true := Nat.ble_eq_true_of_le hft
      refine gom ?_
      refine WK.pick [.blk wb (.cells (splice wc (0 + ((j : Nat) : Int).toNat * 2 + 1) [.int .i64 77]) 50 (0, 0)), x18, x20, .blk b3 (.cells (obC o CA NA PA cc nc pc) 26 (0, 0))] ?_
      exact WK.again (j + 1, _, _) (by dsimp only; omega) ⟨by dsimp only; omega, hpv⟩ (by exact ⟨rfl, rfl, rfl, rfl, rfl, rfl, rfl, rfl, rfl, trivial⟩) rfl (List.Sublist.refl _)
    have f2 : decide ((j : Int) < ((readR bs).1.length : Int)) = false := decide_eq_false (by omega)
    clear hjv hj1 hjl
    refine gom ?_
    refine WC.pick [x18, x20, .blk b3 (.cells (obC o CA NA PA cc nc pc) 26 (0, 0))] ?_
    refine WC.loop (X := Nat × List Value × Own) (fun j => [(0, .slice IA l.length cap), (3, .pointer (some ⟨b3, 0, none⟩)), (5, .slice BA bs.length cb), (7, .slice LA ls.length cl), (9, .int .i64 (i : Int)), (18, .slice A18 hs.length c18), (20, .slice A20 tv.length c20), (31, .int .i64 (j.1 : Int))]) (fun _ => G13) (fun j => [j.2.2, x20, .blk b3 (.cells (obC o CA NA PA cc nc pc) 26 (0, 0))]) (fun j => hs.length - j.1)
      (fun j => j.1 ≤ hs.length ∧ Vec 3 1 A18 hs.length c18 j.2.1 j.2.2) (0, _, x18) ⟨Nat.zero_le _, hx18⟩ (by exact ⟨rfl, rfl, rfl, rfl, rfl, rfl, rfl, rfl, trivial⟩) rfl (List.Sublist.refl _) fun j hj => ?_
    obtain ⟨j, cs, ow⟩ := j
    obtain ⟨hj1, hjv⟩ := hj
    dsimp only at hj1 hjv
    by_cases hjl : j < hs.length
    · have f2 : decide ((j : Int) < (hs.length : Int)) = true := decide_eq_true (by omega)
      have f0 : (0 : Int) ≤ (j : Int) := by omega
      have f1 : (j : Int) < (hs.length : Int) := by omega
      have f3 := wrapS j (by omega)
      obtain ⟨wb, wc, rfl, rfl⟩ := hjv.isBlk (by omega)
      obtain ⟨_, hft, hpv⟩ := Vec.put1 (o := 0 + ((j : Nat) : Int).toNat * 1) hjv (by omega) (.int .i64 78)
      have hbl : Nat.ble (0 + ((j : Nat) : Int).toNat * 1 + 1) wc.size = true := Nat.ble_eq_true_of_le hft
      refine gom ?_
      refine WK.pick [.blk wb (.cells (splice wc (0 + ((j : Nat) : Int).toNat * 1) [.int .i64 78]) 3 (0, 0)), x20, .blk b3 (.cells (obC o CA NA PA cc nc pc) 26 (0, 0))] ?_
      exact WK.again (j + 1, _, _) (by dsimp only; omega) ⟨by dsimp only; omega, hpv⟩ (by exact ⟨rfl, rfl, rfl, rfl, rfl, rfl, rfl, rfl, trivial⟩) rfl (List.Sublist.refl _)
    have f2 : decide ((j : Int) < (hs.length : Int)) = false := decide_eq_false (by omega)
    clear hjv hj1 hjl
    refine gom ?_
    refine WC.pick [x20, .blk b3 (.cells (obC o CA NA PA cc nc pc) 26 (0, 0))] ?_
    refine WC.loop (X := Nat × List Value × Own) (fun j => [(0, .slice IA l.length cap), (3, .pointer (some ⟨b3, 0, none⟩)), (5, .slice BA bs.length cb), (7, .slice LA ls.length cl), (9, .int .i64 (i : Int)), (20, .slice A20 tv.length c20), (32, .int .i64 (j.1 : Int))]) (fun _ => G13) (fun j => [j.2.2, .blk b3 (.cells (obC o CA NA PA cc nc pc) 26 (0, 0))]) (fun j => tv.length - j.1)
      (fun j => j.1 ≤ tv.length ∧ Vec 42 1 A20 tv.length c20 j.2.1 j.2.2) (0, _, x20) ⟨Nat.zero_le _, hx20⟩ (by exact ⟨rfl, rfl, rfl, rfl, rfl, rfl, rfl, trivial⟩) rfl (List.Sublist.refl _) fun j hj => ?_
    obtain ⟨j, cs, ow⟩ := j
    obtain ⟨hj1, hjv⟩ := hj
    dsimp only at hj1 hjv
    by_cases hjl : j < tv.length
    · have f2 : decide ((j : Int) < (tv.length : Int)) = true := decide_eq_true (by omega)
      have f0 : (0 : Int) ≤ (j : Int) := by omega
      have f1 : (j : Int) < (tv.length : Int) := by omega
      have f3 := wrapS j (by omega)
      obtain ⟨wb, wc, rfl, rfl⟩ := hjv.isBlk (by omega)
      obtain ⟨_, hft, hpv⟩ := Vec.put1 (o := 0 + ((j : Nat) : Int).toNat * 1) hjv (by omega) (.int .i64 79)
      have hbl : Nat.ble (0 + ((j : Nat) : Int).toNat * 1 + 1) wc.size = true := Nat.ble_eq_true_of_le hft
      refine gom ?_
      refine WK.pick [.blk wb (.cells (splice wc (0 + ((j : Nat) : Int).toNat * 1) [.int .i64 79]) 42 (0, 0)), .blk b3 (.cells (obC o CA NA PA cc nc pc) 26 (0, 0))] ?_
      exact WK.again (j + 1, _, _) (by dsimp only; omega) ⟨by dsimp only; omega, hpv⟩ (by exact ⟨rfl, rfl, rfl, rfl, rfl, rfl, rfl, trivial⟩) rfl (List.Sublist.refl _)
    have f2 : decide ((j : Int) < (tv.length : Int)) = false := decide_eq_false (by omega)
    clear hjv hj1 hjl
    refine gom ?_
    refine WK.pick [.blk b3 (.cells (obC o CA NA PA cc nc pc) 26 (0, 0))] ?_
    exact WK.again (i + 1, G13) (by dsimp only; omega) ⟨by dsimp only; omega, Gh.le_trans hg37 (Gh.le_trans hg8 (Gh.le_trans hg9 (Gh.le_trans hg10 hg1013)))⟩ (by exact ⟨rfl, rfl, rfl, rfl, rfl, trivial⟩) rfl (List.Sublist.refl _)
end
end Go.Proofs.YtkmigdmdppkpoaaGreatDoor.Gb
namespace Go.Proofs.YtkmigdmdppkpoaaGreatDoor.Gb
open Go Go.Proofs
set_option linter.unusedVariables false
set_option linter.unusedSimpArgs false
set_option linter.unusedSectionVars false
attribute [local irreducible] Tryz.prog

theorem gSyn : Tryz.prog.globalNamed "strconv.ErrSyntax" = some 1 := by kernel_rfl
theorem gRng : Tryz.prog.globalNamed "strconv.ErrRange" = some 2 := by kernel_rfl
theorem cell_of_iface {W : World} {n nm : String} {g t : Nat} {ms : Array (String × TypeId)} {d : DataW Unit} (hg : Tryz.prog.globalNamed n = some g) (ht : (Tryz.prog.globals[g]?).map (·.type) = some t) (hu : Tryz.prog.underlying t = some (.interface ms)) (h : Lib.VarReads Tryz.prog W n (.iface nm d)) :
    ∃ te pe, Gw W g 0 = some (.iface te pe) := by
  obtain ⟨g', t', cs, fuel, p, h1, h2, h3, h4⟩ := h
  obtain rfl := Option.some.inj (hg.symm.trans h1)
  obtain rfl := Option.some.inj (ht.symm.trans h2)
  obtain ⟨_, u, v, hc, _⟩ := iface_of_trod hu h4
  refine ⟨u, v, ?_⟩
  have := World.var?_cell h1 h3 0
  unfold Gw
  rw [this, ← Array.getElem?_toList, hc]; rfl
theorem tSyn : (Tryz.prog.globals[1]?).map (·.type) = some 122 := by kernel_rfl
theorem tRng : (Tryz.prog.globals[2]?).map (·.type) = some 122 := by kernel_rfl
theorem uErr : Tryz.prog.underlying 122 = some (.interface (Tryz.prog.methodsAt 122)) := by kernel_rfl
theorem tTab : (Tryz.prog.globals[3]?).map (·.type) = some 246 := by kernel_rfl
theorem ex_of {W : World} (h : Lib.VarReads Tryz.prog W "internal/strconv.uint64pow10" Rows.laid_internal_strconv_uint64pow10) : Ex (covs []) W := by
  obtain ⟨g', t', cs, fuel, p, h1, h2, h3, h4⟩ := h
  obtain rfl := Option.some.inj (gTab.symm.trans h1)
  obtain rfl := Option.some.inj (tTab.symm.trans h2)
  have hc := Lib.cells_of_tab (k := .u64) (zs := Lib.pow10Tab) (show Tryz.prog.underlying 246 = some (.array 20 117) by kernel_rfl) (by kernel_rfl) (by kernel_rfl) (by kernel_rfl) h4
  intro q hq
  obtain rfl : q = (3, _) := by simpa [exL] using hq
  refine ⟨?_, fun o ⟨x, hx, _⟩ => by cases hx⟩
  unfold World.var? at h3
  rw [gTab] at h3
  simp only [Option.bind_some] at h3
  cases ho : W.heap[3]? with
  | none => rw [ho] at h3; cases h3
  | some ob =>
    rw [ho] at h3
    cases ob <;> simp at h3
    rename_i c T fr
    subst h3
    exact ⟨T, fr, by rw [show c = (Lib.pow10Tab.map fun z => Value.int .u64 z).toArray from Array.toList_inj.1 hc]; rfl⟩
theorem env_of {W : World} (h1 : Lib.VarReads Tryz.prog W "strconv.ErrSyntax" Rows.laid_strconv_ErrSyntax) (h2 : Lib.VarReads Tryz.prog W "strconv.ErrRange" Rows.laid_strconv_ErrRange) (hs : W.ShapedOpen Tryz.prog) : Env (Gw W) where
  syn := cell_of_iface gSyn tSyn uErr h1
  rng := cell_of_iface gRng tRng uErr h2
  mxl := by
    have h := cell_of_shapedOpen_int (P := Tryz.prog) (w := W) (g := 0) (t := 3) (zero := #[.int .i64 0]) (k := .i64) hs (of_decide_eq_true (by kernel_rfl)) (by kernel_rfl) rfl (by kernel_rfl) (by kernel_rfl) (by kernel_rfl)
    obtain ⟨m, hm⟩ := h
    exact ⟨m, hm⟩
end Go.Proofs.YtkmigdmdppkpoaaGreatDoor.Gb
namespace Go.Proofs.YtkmigdmdppkpoaaGreatDoor.Gb
open Go Go.Proofs Go.RowKit Go.ChangeShapes Go.WideShapes Go.MapKept
set_option linter.unusedVariables false
set_option linter.unusedSimpArgs false
set_option linter.unusedSectionVars false

theorem bulk_part {H : Type} {d : DataW H} {l : List (DataW H)} (h : d ∈ l) : Rows.uptoBulk d ≤ Rows.uptoBulkAll l := by
  induction l with
  | nil => cases h
  | cons x r ih =>
    simp only [Rows.uptoBulkAll]
    rcases List.mem_cons.1 h with rfl | h
    · omega
    · have := ih h; omega
theorem bulk_one {H : Type} (d : DataW H) : 1 ≤ Rows.uptoBulk d := by
  cases d with
  | lit l => cases l <;> simp [Rows.uptoBulk]
  | nil => simp [Rows.uptoBulk]
  | ptr d => simp [Rows.uptoBulk]
  | slice elems spare => simp [Rows.uptoBulk]
  | agg parts => simp [Rows.uptoBulk]
  | iface t d => simp [Rows.uptoBulk]
  | map entries => simp [Rows.uptoBulk]
  | held h => simp [Rows.uptoBulk]
theorem bulk_length {H : Type} (l : List (DataW H)) : l.length ≤ Rows.uptoBulkAll l := by
  induction l with
  | nil => simp [Rows.uptoBulkAll]
  | cons x r ih => have := bulk_one x; simp only [Rows.uptoBulkAll, List.length_cons]; omega
theorem bulk_of {H : Type} {l : List (DataW H)} (h : Rows.uptoSmall H l = true) {d : DataW H} (hd : d ∈ l) : Rows.uptoBulk d ≤ 1048576 :=
  Nat.le_trans (bulk_part hd) (of_decide_eq_true h)

section
variable {H : Type} (enc : TypeId × Value → H) (P : Program) (w : World)
/-- values of a type are known, with what their bulk says -/
def OpensU (t : TypeId) {α : Type} (k : Kd α) (B : α → Prop) : Prop :=
  ∀ fuel cs d ps, DataW.trod enc P w 0 (fun _ => true) true fuel t cs = some (d, ps) → Rows.uptoBulk d ≤ 1048576 → ∃ a, k.K (Gw w) a cs ∧ B a
theorem OpensU.int {t : TypeId} {i : IntKind} (ht : P.underlying t = some (.int i)) : OpensU enc P w t (Kd.int i) (fun n => (Lit.int i n).wf = true) :=
  fun fuel cs d ps e _ => let ⟨n, h1, _, h3⟩ := DataW.trod_int ht e; ⟨n, h1, h3⟩
theorem OpensU.bool {t : TypeId} (ht : P.underlying t = some .bool) : OpensU enc P w t Kd.bool (fun _ => True) :=
  fun fuel cs d ps e _ => let ⟨n, h1, _⟩ := DataW.trod_bool ht e; ⟨n, h1, trivial⟩
theorem OpensU.str {t : TypeId} (ht : P.underlying t = some .string) : OpensU enc P w t Kd.str (fun s => s.size ≤ 1048576) :=
  fun fuel cs d ps e hw => by
    obtain ⟨s, h1, h2, h3⟩ := DataW.trod_string ht e
    obtain ⟨rfl, rfl⟩ := Prod.mk.inj h2
    refine ⟨s, h1, ?_⟩
    simp only [Rows.uptoBulk, Array.length_toList] at hw
    show s.data.size ≤ 1048576
    omega
theorem OpensU.slice {t e : TypeId} {α : Type} {k : Kd α} {B : α → Prop} (ht : P.underlying t = some (.slice e)) (hc : P.cellsOf e = k.n) (h0 : 0 < k.n) (h : OpensU enc P w e k B) :
    OpensU enc P w t (Kd.slice k) (fun xs => xs.length ≤ 1048576 ∧ ∀ x ∈ xs, B x) := by
  intro fuel cs d ps hd hw
  rcases DataW.trod_slice ht hd with ⟨rfl, _⟩ | ⟨a, len, cap, elems, rest, n, _, rfl, hx, _, hl, _, hlen, hel, _, _⟩
  · exact ⟨[], ⟨none, 0, rfl, Nat.le_refl _, Sl.nil _ _ _⟩, by simp, by simp⟩
  · obtain ⟨rfl, rfl⟩ := Prod.mk.inj hx
    simp only [Rows.uptoBulk] at hw
    have hlb := bulk_length (elems.map (·.1))
    rw [List.length_map] at hlb
    have hwe : ∀ (j : Nat) (d' : DataW H), (elems.map (·.1))[j]? = some d' → Rows.uptoBulk d' ≤ 1048576 := fun j d' hj => by
      have := bulk_part (List.mem_of_getElem? hj); omega
    have one : ∀ i, i < len → ∃ y cs', w.cells? 0 (a.add (i * P.cellsOf e)) (P.cellsOf e) = some cs' ∧ k.K (Gw w) y cs' ∧ B y := by
      intro i hi
      have hi' := hel i hi
      cases hcs : w.cells? 0 (a.add (i * P.cellsOf e)) (P.cellsOf e) with
      | none =>
        rw [hcs, List.getElem?_eq_getElem (by omega)] at hi'
        cases hi'
      | some cs' =>
        rw [hcs, List.getElem?_eq_getElem (by omega : i < elems.length)] at hi'
        simp only [Option.bind_some] at hi'
        obtain ⟨y, h1, h2⟩ := h n cs' _ _ hi' (hwe i _ (by rw [List.getElem?_map, List.getElem?_eq_getElem (by omega : i < elems.length)]; rfl))
        exact ⟨y, cs', rfl, h1, h2⟩
    have all : ∀ m, m ≤ len → ∃ xs : List α, xs.length = m ∧ (∀ x ∈ xs, B x) ∧ ∀ i x, xs[i]? = some x → ∃ cs', w.cells? 0 (a.add (i * P.cellsOf e)) (P.cellsOf e) = some cs' ∧ k.K (Gw w) x cs' := by
      intro m
      induction m with
      | zero => exact fun _ => ⟨[], rfl, by simp, by simp⟩
      | succ m ih =>
        intro hm
        obtain ⟨xs, e1, e2, e3⟩ := ih (by omega)
        obtain ⟨y, cs', h1, h2, h3⟩ := one m (by omega)
        refine ⟨xs ++ [y], by simp [e1], fun x hx => ?_, fun i x hx => ?_⟩
        · rcases List.mem_append.1 hx with hx | hx
          · exact e2 x hx
          · simp at hx; subst hx; exact h3
        · rcases Nat.lt_or_ge i xs.length with hi | hi
          · rw [List.getElem?_append_left hi] at hx; exact e3 i x hx
          · have : i = m := by have := (List.getElem?_eq_some_iff.1 hx).1; simp at this; omega
            subst this
            rw [List.getElem?_append_right hi] at hx
            simp [e1] at hx
            subst hx
            exact ⟨cs', h1, h2⟩
    obtain ⟨xs, e1, e2, e3⟩ := all len (Nat.le_refl _)
    refine ⟨xs, ⟨some a, cap, by rw [e1], by omega, fun i x hx => ?_⟩, by omega, e2⟩
    have hi := (List.getElem?_eq_some_iff.1 hx).1
    obtain ⟨cs0, h10, h20⟩ := e3 0 _ (List.getElem?_eq_getElem (by omega : 0 < xs.length))
    obtain ⟨h30, h40⟩ := cells_get w h10
    have hsp := cell_plain w (h40 0 _ (List.getElem?_eq_getElem (by rw [h30, hc]; exact h0)))
    obtain ⟨cs', h1, h2⟩ := e3 i x hx
    obtain ⟨h3, h4⟩ := cells_get w h1
    obtain ⟨ab, ao, asp⟩ := a
    obtain rfl : asp = none := by simpa [Addr.add] using hsp
    refine ⟨ab, ao, cs', rfl, h2, fun j v e => ?_⟩
    have h5 := h4 j v e
    rw [hc] at h5
    have e5 : ((⟨ab, ao, none⟩ : Addr).add (i * k.n)).add j = ⟨ab, ao + i * k.n + j, none⟩ := by
      unfold Addr.add
      split <;> split <;> simp_all
    rw [e5] at h5
    exact h5
theorem field_openU {t : TypeId} {fs : Array Field} {fuel : Nat} {cs : List Value} {d : DataW H} {ps : List MemPlace} (ht : P.underlying t = some (.struct fs)) (hd : DataW.trod enc P w 0 (fun _ => true) true fuel t cs = some (d, ps)) (hw : Rows.uptoBulk d ≤ 1048576) :
    cs.length = P.cellsOf t ∧ ∀ (i : Nat) (f : Field), fs[i]? = some f → ∀ {t' o n : Nat}, f.type = t' → f.offset = o → P.cellsOf t' = n → ∀ {α : Type} {k : Kd α} {B : α → Prop}, OpensU enc P w t' k B → ∃ a, k.K (Gw w) a ((cs.drop o).take n) ∧ B a := by
  obtain ⟨xs, n, _, hx, hl, hn, hf⟩ := DataW.trod_struct ht hd
  obtain ⟨rfl, rfl⟩ := Prod.mk.inj hx
  refine ⟨hl, fun i f hi t' o n' e1 e2 e3 α k B hO => ?_⟩
  subst e1 e2 e3
  have h1 := hf i f hi
  have hilt : i < xs.length := by rw [hn]; exact (Array.getElem?_eq_some_iff.1 hi).1
  rw [List.getElem?_eq_getElem hilt] at h1
  refine hO n _ _ _ h1 ?_
  simp only [Rows.uptoBulk] at hw
  exact Nat.le_trans (bulk_part (l := xs.map (·.1)) (d := (xs[i]).1) (List.mem_map.2 ⟨_, List.getElem_mem hilt, rfl⟩)) (by omega)
theorem open_sliceU {t e : TypeId} {α : Type} {k : Kd α} {B : α → Prop} (ht : P.underlying t = some (.slice e)) (hc : P.cellsOf e = k.n) (h0 : 0 < k.n) (h : OpensU enc P w e k B)
    {v : Value} {d : DataW H} {ps : List MemPlace} {base : Nat} (hval : Value.okWide P w .any base t v) (hd : DataW.Trod enc P w 0 (fun _ => true) true t v d ps) (hw : Rows.uptoBulk d ≤ 1048576) :
    ∃ (A : Option Addr) (cap : Nat) (xs : List α), v = .slice A xs.length cap ∧ xs.length ≤ cap ∧ Sl k (Gw w) A xs ∧ xs.length ≤ 1048576 ∧ ∀ x ∈ xs, B x := by
  obtain ⟨A, len, cap, rfl⟩ := okWide_slice ht hval
  obtain ⟨fuel, hd⟩ := hd
  obtain ⟨xs, ⟨A', cap', h1, hle, h2⟩, h3, h4⟩ := OpensU.slice enc P w ht hc h0 h fuel _ d ps hd hw
  have e1 : [Value.slice A len cap] = [Value.slice A' xs.length cap'] := h1
  cases e1
  exact ⟨_, _, xs, rfl, hle, h2, h3, h4⟩
end

/-- there is an input that fits, at a world of one's own making -/
theorem witness_row {H : Type} {enc : TypeId × Value → H} {C : Checked} {os : Os} {f : FuncId} {fn : Func} {s : OpenSpec} {conds : List PathCond} {apart : Bool} {laid : List (String × DataW Unit)} (modest : Bool) (w0 : World) (args : Array Value) (hos : w0.os = os)
    (hsh : (w0.forCall (fun _ _ => 0) ⟨#[], args, []⟩).Shaped C.prog) (hok : Input.okWideB C.prog (w0.forCall (fun _ _ => 0) ⟨#[], args, []⟩) f ⟨#[], args, []⟩ = true)
    (hrow : s.preRow enc C.prog fn conds apart laid (w0.forCall (fun _ _ => 0) ⟨#[], args, []⟩).memory args) :
    ∃ (w : World) (tape : Tape) (i : Input), w.os = os ∧ (w.forCall tape i).Shaped C.prog ∧ i.vars = [] ∧ Input.okWide C.prog (w.forCall tape i) .any w.heap.size f i ∧
      s.preRow enc C.prog fn conds apart laid (w.forCall tape i).memory i.args ∧ ({ modest := modest } : Assume).holds C.prog (lone (Frame.enter C.prog f i.args .normal) [] (w.forCall tape i)) :=
  ⟨w0, fun _ _ => 0, ⟨#[], args, []⟩, hos, hsh, (Input.okWide_of_okWideB (base := 0) hok).1, (Input.okWide_of_okWideB hok).2, hrow, by
    simp only [Assume.holds]
    exact ⟨by simp, by simp, fun _ => Modest.zero, by simp, by simp⟩⟩
theorem elist2 {α : Type} {l : List α} (h : l.length = 2) : ∃ a b, l = [a, b] := match l, h with | [a, b], _ => ⟨a, b, rfl⟩
theorem elist4 {α : Type} {l : List α} (h : l.length = 4) : ∃ a b c d, l = [a, b, c, d] := match l, h with | [a, b, c, d], _ => ⟨a, b, c, d, rfl⟩
theorem elist6 {α : Type} {l : List α} (h : l.length = 6) : ∃ a b c d e f, l = [a, b, c, d, e, f] := match l, h with | [a, b, c, d, e, f], _ => ⟨a, b, c, d, e, f, rfl⟩
theorem ecellsV : Tryz.prog.cellsOf 99 = 4 := by kernel_rfl
theorem ecellsI : Tryz.prog.cellsOf 50 = 2 := by kernel_rfl
theorem ecellsP : Tryz.prog.cellsOf 45 = 6 := by kernel_rfl
theorem ecellsN : Tryz.prog.cellsOf 105 = 4 := by kernel_rfl
theorem ecellsO : Tryz.prog.cellsOf 26 = 4 := by kernel_rfl
theorem ecells_int : Tryz.prog.cellsOf 3 = 1 := by kernel_rfl
theorem ecells_typ : Tryz.prog.cellsOf 42 = 1 := by kernel_rfl
theorem ecells_cod : Tryz.prog.cellsOf 48 = 1 := by kernel_rfl
theorem ecells_i64 : Tryz.prog.cellsOf 2 = 1 := by kernel_rfl
theorem ecells_bool : Tryz.prog.cellsOf 4 = 1 := by kernel_rfl
theorem ecells_str : Tryz.prog.cellsOf 9 = 1 := by kernel_rfl
theorem ecells_lv : Tryz.prog.cellsOf 22 = 1 := by kernel_rfl
theorem ecells_ln : Tryz.prog.cellsOf 23 = 1 := by kernel_rfl
theorem ecells_lp : Tryz.prog.cellsOf 24 = 1 := by kernel_rfl
theorem ecells_li : Tryz.prog.cellsOf 43 = 1 := by kernel_rfl
theorem ecells_lt : Tryz.prog.cellsOf 31 = 1 := by kernel_rfl
section
attribute [local irreducible] Tryz.prog
variable {H : Type} (enc : TypeId × Value → H) (w : World)
theorem OpensU.value : OpensU enc Tryz.prog w 99 Kd.val (fun v => v.s.size ≤ 1048576) := by
  intro fuel cs d ps hd hw
  obtain ⟨hl, hf⟩ := field_openU enc Tryz.prog w Tryz.underlying99 hd hw
  obtain ⟨c0, c1, c2, c3, rfl⟩ := elist4 (hl.trans ecellsV)
  obtain ⟨t, h0, _⟩ := hf 0 _ rfl rfl rfl ecells_typ (OpensU.int enc Tryz.prog w Tryz.underlying42)
  obtain ⟨i, h1, _⟩ := hf 1 _ rfl rfl rfl ecells_i64 (OpensU.int enc Tryz.prog w Tryz.underlying2)
  obtain ⟨b, h2, _⟩ := hf 2 _ rfl rfl rfl ecells_bool (OpensU.bool enc Tryz.prog w Tryz.underlying4)
  obtain ⟨s, h3, hs⟩ := hf 3 _ rfl rfl rfl ecells_str (OpensU.str enc Tryz.prog w Tryz.underlying9)
  have e0 : [c0] = [Value.int .i64 t] := h0
  have e1 : [c1] = [Value.int .i64 i] := h1
  have e2 : [c2] = [Value.bool b] := h2
  have e3 : [c3] = [Value.string s] := h3
  cases e0; cases e1; cases e2; cases e3
  exact ⟨⟨t, i, b, s⟩, rfl, hs⟩
theorem OpensU.instr : OpensU enc Tryz.prog w 50 Kd.ins (fun _ => True) := by
  intro fuel cs d ps hd hw
  obtain ⟨hl, hf⟩ := field_openU enc Tryz.prog w Tryz.underlying50 hd hw
  obtain ⟨c0, c1, rfl⟩ := elist2 (hl.trans ecellsI)
  obtain ⟨c, h0, _⟩ := hf 0 _ rfl rfl rfl ecells_cod (OpensU.int enc Tryz.prog w Tryz.underlying48)
  obtain ⟨n, h1, _⟩ := hf 1 _ rfl rfl rfl ecells_int (OpensU.int enc Tryz.prog w Tryz.underlying3)
  have e0 : [c0] = [Value.int .i64 c] := h0
  have e1 : [c1] = [Value.int .i64 n] := h1
  cases e0; cases e1
  exact ⟨(c, n), rfl, trivial⟩
theorem OpensU.proc : OpensU enc Tryz.prog w 45 Kd.prc (fun p => p.name.size ≤ 1048576 ∧ p.params.length ≤ 1048576 ∧ p.code.length ≤ 1048576) := by
  intro fuel cs d ps hd hw
  obtain ⟨hl, hf⟩ := field_openU enc Tryz.prog w Tryz.underlying45 hd hw
  obtain ⟨c0, c1, c2, c3, c4, c5, rfl⟩ := elist6 (hl.trans ecellsP)
  obtain ⟨nm, h0, hnm⟩ := hf 0 _ rfl rfl rfl ecells_str (OpensU.str enc Tryz.prog w Tryz.underlying9)
  obtain ⟨ex, h1, _⟩ := hf 1 _ rfl rfl rfl ecells_bool (OpensU.bool enc Tryz.prog w Tryz.underlying4)
  obtain ⟨pr, h2, hp⟩ := hf 2 _ rfl rfl rfl ecells_lt (OpensU.slice enc Tryz.prog w Tryz.underlying31 (k := Kd.int .i64) ecells_typ (by decide) (OpensU.int enc Tryz.prog w Tryz.underlying42))
  obtain ⟨lo, h3, _⟩ := hf 3 _ rfl rfl rfl ecells_int (OpensU.int enc Tryz.prog w Tryz.underlying3)
  obtain ⟨re, h4, _⟩ := hf 4 _ rfl rfl rfl ecells_typ (OpensU.int enc Tryz.prog w Tryz.underlying42)
  obtain ⟨co, h5, hc⟩ := hf 5 _ rfl rfl rfl ecells_li (OpensU.slice enc Tryz.prog w Tryz.underlying43 (k := Kd.ins) ecellsI (by decide) (OpensU.instr enc w))
  obtain ⟨PA, pc, h2', _, hPA⟩ := h2
  obtain ⟨CA, cc, h5', _, hCA⟩ := h5
  have e0 : [c0] = [Value.string nm] := h0
  have e1 : [c1] = [Value.bool ex] := h1
  have e2 : [c2] = [Value.slice PA pr.length pc] := h2'
  have e3 : [c3] = [Value.int .i64 lo] := h3
  have e4 : [c4] = [Value.int .i64 re] := h4
  have e5 : [c5] = [Value.slice CA co.length cc] := h5'
  cases e0; cases e1; cases e2; cases e3; cases e4; cases e5
  exact ⟨⟨nm, ex, pr, lo, re, co⟩, ⟨PA, pc, CA, cc, rfl, hPA, hCA⟩, hnm, hp.1, hc.1⟩
theorem OpensU.need : OpensU enc Tryz.prog w 105 Kd.ned (fun q => q.path.size ≤ 1048576 ∧ q.name.size ≤ 1048576 ∧ q.params.length ≤ 1048576) := by
  intro fuel cs d ps hd hw
  obtain ⟨hl, hf⟩ := field_openU enc Tryz.prog w Tryz.underlying105 hd hw
  obtain ⟨c0, c1, c2, c3, rfl⟩ := elist4 (hl.trans ecellsN)
  obtain ⟨pt, h0, hpt⟩ := hf 0 _ rfl rfl rfl ecells_str (OpensU.str enc Tryz.prog w Tryz.underlying9)
  obtain ⟨nm, h1, hnm⟩ := hf 1 _ rfl rfl rfl ecells_str (OpensU.str enc Tryz.prog w Tryz.underlying9)
  obtain ⟨pr, h2, hp⟩ := hf 2 _ rfl rfl rfl ecells_lt (OpensU.slice enc Tryz.prog w Tryz.underlying31 (k := Kd.int .i64) ecells_typ (by decide) (OpensU.int enc Tryz.prog w Tryz.underlying42))
  obtain ⟨re, h3, _⟩ := hf 3 _ rfl rfl rfl ecells_typ (OpensU.int enc Tryz.prog w Tryz.underlying42)
  obtain ⟨PA, pc, h2', _, hPA⟩ := h2
  have e0 : [c0] = [Value.string pt] := h0
  have e1 : [c1] = [Value.string nm] := h1
  have e2 : [c2] = [Value.slice PA pr.length pc] := h2'
  have e3 : [c3] = [Value.int .i64 re] := h3
  cases e0; cases e1; cases e2; cases e3
  exact ⟨⟨pt, nm, pr, re⟩, ⟨PA, pc, rfl, hPA⟩, hpt, hnm, hp.1⟩
theorem open_objU {v : Value} {d : DataW H} {ps : List MemPlace} {base : Nat} (hval : Value.okWide Tryz.prog w .any base 26 v) (hd : DataW.Trod enc Tryz.prog w 0 (fun _ => true) true 26 v d ps) (hw : Rows.uptoBulk d ≤ 1048576) :
    ∃ (o : Ob) (CA NA PA : Option Addr) (cc nc pc : Nat), v = .agg (obC o CA NA PA cc nc pc) ∧ ORep (Gw w) o CA NA PA ∧ OLim o := by
  obtain ⟨cells, rfl, _⟩ := okWide_struct Tryz.underlying26 hval
  obtain ⟨fuel, hd⟩ := hd
  obtain ⟨hl, hf⟩ := field_openU enc Tryz.prog w Tryz.underlying26 hd hw
  have hcl : (Value.agg cells).cells.toList = cells.toList := rfl
  rw [hcl] at hl hf
  obtain ⟨c0, c1, c2, c3, hcs⟩ := elist4 (hl.trans ecellsO)
  rw [hcs] at hf
  obtain ⟨pt, h0, hpt⟩ := hf 0 _ rfl rfl rfl ecells_str (OpensU.str enc Tryz.prog w Tryz.underlying9)
  obtain ⟨co, h1, hc⟩ := hf 1 _ rfl rfl rfl ecells_lv (OpensU.slice enc Tryz.prog w Tryz.underlying22 (k := Kd.val) ecellsV (by decide) (OpensU.value enc w))
  obtain ⟨ne, h2, hn⟩ := hf 2 _ rfl rfl rfl ecells_ln (OpensU.slice enc Tryz.prog w Tryz.underlying23 (k := Kd.ned) ecellsN (by decide) (OpensU.need enc w))
  obtain ⟨pr, h3, hp⟩ := hf 3 _ rfl rfl rfl ecells_lp (OpensU.slice enc Tryz.prog w Tryz.underlying24 (k := Kd.prc) ecellsP (by decide) (OpensU.proc enc w))
  obtain ⟨CA, cc, h1', _, hCA⟩ := h1
  obtain ⟨NA, nc, h2', _, hNA⟩ := h2
  obtain ⟨PA, pc, h3', _, hPA⟩ := h3
  have e0 : [c0] = [Value.string pt] := h0
  have e1 : [c1] = [Value.slice CA co.length cc] := h1'
  have e2 : [c2] = [Value.slice NA ne.length nc] := h2'
  have e3 : [c3] = [Value.slice PA pr.length pc] := h3'
  cases e0; cases e1; cases e2; cases e3
  refine ⟨⟨pt, co, ne, pr⟩, CA, NA, PA, cc, nc, pc, ?_, ⟨hCA, hNA, hPA⟩, ⟨?_, ?_, ?_, ?_, fun q hq => ?_, fun q hq => ?_⟩⟩
  · unfold obC
    congr 1
    cases cells
    simp at hcs
    rw [hcs]
  · dsimp only; omega
  · have := hc.1; dsimp only; omega
  · have := hn.1; dsimp only; omega
  · have := hp.1; dsimp only; omega
  · have := hn.2 q hq; omega
  · have := hp.2 q hq; omega
theorem open_insU {v : Value} {d : DataW H} {ps : List MemPlace} {base : Nat} (hval : Value.okWide Tryz.prog w .any base 43 v) (hd : DataW.Trod enc Tryz.prog w 0 (fun _ => true) true 43 v d ps) (hw : Rows.uptoBulk d ≤ 1048576) :
    ∃ (x : List (Int × Int)) (A : Option Addr) (c : Nat), v = .slice A x.length c ∧ Sl Kd.ins (Gw w) A x ∧ x.length ≤ c ∧ x.length ≤ 1048576 := by
  obtain ⟨A, c, x, h1, h2, h3, h4, _⟩ := open_sliceU enc Tryz.prog w Tryz.underlying43 (k := Kd.ins) ecellsI (by decide) (OpensU.instr enc w) hval hd hw
  exact ⟨x, A, c, h1, h3, h2, h4⟩
end
end Go.Proofs.YtkmigdmdppkpoaaGreatDoor.Gb
namespace Go.Proofs.YtkmigdmdppkpoaaGreatDoor.codeOwn
open Go Go.Proofs Go.ChangeShapes Go.WideShapes Go.ChangeAt Go.RowKit Go.ChangeMaps
set_option linter.unusedVariables false
attribute [local irreducible] Tryz.prog
theorem walk (W : World) (hE : Gb.Env (Gb.Gw W)) (hX : Gb.Ex (Gb.covs []) W) (l : List (Int × Int)) (A : Option Addr) (c : Nat) (hA : Gb.Sl Gb.Kd.ins (Gb.Gw W) A l) (hlc : l.length ≤ c) (hl : l.length ≤ 1048576)
    (o : Gb.Ob) (CA NA PA : Option Addr) (cc nc pc : Nat) (hO : Gb.ORep (Gb.Gw W) o CA NA PA) (hL : Gb.OLim o) :
    Calls Tryz.prog 12 #[.slice A l.length c, .agg (Gb.obC o CA NA PA cc nc pc)] W fun e W' => e = .returned (.bool true) ∧ Gb.Kept W W' :=
  (Gb.codeOwn_fn (Gb.Gw W) hE A l c hA hl o CA NA PA cc nc pc hO hL).keptG (R' := fun e => e = .returned (.bool true)) (fun e G' H' h => h.1) (Gb.Sat.whole W) hX
theorem own : ownKnob Tryz.prog.godebug = none := by kernel_rfl
theorem laidOut : laidOutB Tryz.prog = true := by kernel_rfl
theorem reads (os : Os) {H : Type} (enc : TypeId × Value → H) : ∃ places, DataW.whole enc Tryz.prog ((World.laidAll Tryz.prog os Rows.codeOwnUptoRow.laid).forCall (fun _ _ => 0) ⟨#[], #[.slice none 0 0, .agg #[.string ⟨#[]⟩, .slice none 0 0, .slice none 0 0, .slice none 0 0]], []⟩).memory Tryz.f12.params.toList Rows.codeOwnSpec.vars false (#[.slice none 0 0, .agg #[.string ⟨#[]⟩, .slice none 0 0, .slice none 0 0, .slice none 0 0]] : Array Value).toList 8 = some ([.nil, .agg [.lit (.string []), .nil, .nil, .nil]], [], places) :=
  ⟨[], by kernel_rfl⟩
set_option maxRecDepth 100000 in
theorem lifted (os : Os) (started : os.Started) (H : Type) (enc : TypeId × Value → H) (F : Stop.Interp) :
    ReturnsInHanded {} Tryz.checked os 12 .any ((Rows.OpenSpec.upto Rows.codeOwnSpec).preRow enc Tryz.prog Tryz.f12 Rows.codeOwnUptoRow.domain false Rows.codeOwnUptoRow.laid) (((Rows.OpenSpec.upto Rows.codeOwnSpec).at F).post enc Tryz.prog Tryz.f12 false true false false) := by
  obtain ⟨places, hx⟩ := reads os enc
  refine returnsInHanded_of_row (C := Tryz.checked) (s := Rows.OpenSpec.upto Rows.codeOwnSpec) own started (by kernel_rfl) Tryz.func12
    (Gb.witness_row (enc := enc) (C := Tryz.checked) false (World.laidAll Tryz.prog os Rows.codeOwnUptoRow.laid) #[.slice none 0 0, .agg #[.string ⟨#[]⟩, .slice none 0 0, .slice none 0 0, .slice none 0 0]] (World.laidAll_os _ _ _) (World.shaped_of_ZipB (by kernel_rfl) (by kernel_rfl)) (by kernel_rfl)
      (OpenSpec.preRow_of_cond 8 hx (by kernel_rfl) (fun k hk => by cases hk; kernel_rfl) (by kernel_rfl) (by rw [MakeChecks.laidMetH_plain _ _ _ (by kernel_rfl)]; exact laidMet_laidAll _ (by kernel_rfl) (by kernel_rfl)))) ?_
  intro W base args ds gs before hval0 hW _ hcond _ hL hsh _
  rw [MakeChecks.laidMetH_plain _ _ _ (by kernel_rfl)] at hL
  have hE := Gb.env_of (Lib.laidMet.reads hL (by simp [Rows.codeOwnUptoRow])) (Lib.laidMet.reads hL (by simp [Rows.codeOwnUptoRow])) hsh
  have hX := Gb.ex_of (Lib.laidMet.reads hL (by simp [Rows.codeOwnUptoRow]))
  have hval : ∀ (j : Nat) t v, Tryz.f12.params[j]? = some t → args[j]? = some v → Value.okWide Tryz.prog W .any base t v := hval0
  have hbk := hcond _ rfl
  have hW' := hW
  obtain ⟨p, q, hA0, hV, rfl, hfz, hnd⟩ := hW
  have hA : DataW.TrodAll enc Tryz.prog W 0 (fun _ => true) true Tryz.f12.params.toList args.toList ds p := hA0
  rw [Tryz.params12] at hA hval
  obtain ⟨v0, vs0, d0, ds0, p0, q0, hargs, rfl, rfl, h0, r0⟩ := trodAll_cons hA
  obtain ⟨v1, vs1, d1, ds1, p1, q1, rfl, rfl, rfl, h1, r1⟩ := trodAll_cons r0
  obtain ⟨rfl, rfl, rfl⟩ := trodAll_nil r1
  obtain rfl : args = #[v0, v1] := by cases args; simp_all
  obtain ⟨rfl, rfl⟩ := trodVars_none hV
  obtain ⟨x0, A0, c0, rfl, hD0, hM0, hN0⟩ := Gb.open_insU enc W (hval 0 43 v0 rfl rfl) h0 (Gb.bulk_of hbk (by simp))
  obtain ⟨o1, CA1, NA1, PA1, cc1, nc1, pc1, rfl, hO1, hL1⟩ := Gb.open_objU enc W (hval 1 26 v1 rfl rfl) h1 (Gb.bulk_of hbk (by simp))
  clear hA0 hval0 hbk hcond
  refine (walk W hE hX x0 A0 c0 hD0 hM0 hN0 o1 CA1 NA1 PA1 cc1 nc1 pc1 hO1 hL1).mono fun e W' ⟨he, hg⟩ => ?_
  subst he
  exact ⟨_, rfl, _, _, _, [], _, [], hW', trodAll_mk1 (shut_bool Tryz.underlying4 _), (trodAll_cons_mk (Gb.Kept.trod laidOut (by kernel_rfl) (of_decide_eq_true (by kernel_rfl)) h0 hg) (trodAll_cons_mk (Gb.Kept.trod laidOut (by kernel_rfl) (of_decide_eq_true (by kernel_rfl)) h1 hg) trodAll_mk0)), rfl, hg.frame _, fun h => by cases h⟩
theorem over : Rows.CodeOwnUptoSaid :=
  OpenClaim.holds_of_cond 12 Tryz.f12 rfl rfl rfl rfl rfl rfl rfl ⟨rfl, rfl, rfl, rfl, rfl⟩ rfl rfl rfl rfl rfl (by kernel_rfl) Tryz.func12 (by kernel_rfl)
    (of_decide_eq_true (by kernel_rfl)) (by unfold Func.isWrapper; first | (rw [if_pos (by decide +kernel)]; kernel_rfl) | (rw [if_neg (by decide +kernel)]; exact ⟨rfl, rfl⟩))
    (fun os started H enc _ F => by rw [OpenClaim.pre_eq_preRow]; exact lifted os started H enc F)
/-- the statement -/
theorem proved : Rows.CodeOwnUptoCardSaid :=
  Claim7.holds_tied_plain_at .later [] _ _ _ _
    over (fun _ h => by cases h) (by kernel_rfl) (fun _ h => by cases h) codeOwnUpto_row_tie rfl ⟨rfl, rfl⟩ (by kernel_rfl) rfl
    (fun f fn hf hfn => by
      obtain rfl : f = 12 := Option.some.inj ((show Tryz.prog.funcNamed "treadle/treadlelaw18.CodeOwn" = some 12 by kernel_rfl).symm.trans hf) |>.symm
      obtain rfl : fn = Tryz.f12 := (Option.some.inj (Tryz.func12.symm.trans hfn)).symm
      exact ⟨by kernel_rfl, fun j t ht => by
        rw [Tryz.params12] at ht
        have hm : t ∈ [43, 26] := by simpa using Array.mem_of_getElem? ht
        have hall : ([43, 26].all fun u => !Tryz.prog.wantsStandIn u) = true := by kernel_rfl
        exact (show Tryz.prog.wantsStandIn t = false by simpa using List.all_eq_true.1 hall t hm)⟩)
    (by kernel_rfl)
#print axioms proved
end Go.Proofs.YtkmigdmdppkpoaaGreatDoor.codeOwn
