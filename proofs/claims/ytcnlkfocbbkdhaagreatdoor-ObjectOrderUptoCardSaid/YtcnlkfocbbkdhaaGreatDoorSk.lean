/- ObjectOrder, walked. ObjectOrder: its arguments opened. -/
import Derived.Test.YtcnlkfocbbkdhaaGreatDoorSj
set_option linter.unusedVariables false
set_option linter.unusedSimpArgs false
set_option linter.unusedSectionVars false
namespace Go.Proofs.YtcnlkfocbbkdhaaGreatDoor.Gb
open Go Go.Proofs
section
open Go.MapKept
attribute [local irreducible] Tryz.prog linkE csZ prZ ptZ objAns turned runR ptR joinT' pgL
structure O18 where
 G : Gh
 b : Nat
 ZA : Option Addr
 wc : Nat
 ZP : Option Addr
 wpc : Nat
 ZQ : Option Addr
 wqc : Nat
structure O20 where
 G : Gh
 b1 : Nat
 b2 : Nat
 OA : Option Addr
 oc : Nat
 PA : Option Addr
 pc : Nat
set_option maxRecDepth 20000 in
set_option maxHeartbeats 16000000 in
theorem order_fn (G : Gh) (hE : Env G) (A : Option Addr) (cap : Nat) (l : List Ob) (hcap : l.length ≤ cap) (hl : Sl Kd.ob G A l) (hM : (l.map mOb).sum ≤ 1048576) (tn xp f : Nat) (htn : tn < 256) (hxp : xp < 256) (hf : f < 65536) (AA : Option Addr) (ac : Nat) (args : List V) (hr : Sl Kd.val G AA args) (hal : args.length ≤ 1048576) :
  Fn Tryz.prog 6 #[.slice A l.length cap, .int .u8 (tn : Int), .agg #[.int .u8 (xp : Int), .slice AA args.length ac, .int .u16 (f : Int)]] G [] fun e G' H' => e = .returned (.bool true) ∧ G.le G' ∧ H' = [] := by
 have hL := llim_of hM
 have hlen := hL.len
 have htl := ptZ_len hL
 refine Fn.enter Tryz.func6 rfl rfl fun w0 => ?_
 refine WC.seq ?_
 refine WC.region ?_
 refine WL.oo (OW.box rfl rfl fun b5 => ?_)
 refine gom ?_
 refine WL.oo (OW.callK rfl (linkZ_fn G hE A cap l hl hL) rfl fun v' G' H' h hg => ?_)
 obtain ⟨CA, cc, PA, pc, QA, qc, he, hg1, hC, hP, hQ, rfl⟩ := h
 cases he
 obtain ⟨G1, rfl⟩ : ∃ G1, G1 = G' := ⟨_, rfl⟩
 refine gom ?_
 refine WL.oo (OW.alloc rfl fun b7 => ?_)
 by_cases hz : linkE l = 0
 rotate_left
 ·have e1 : (linkE l != 0) = true := by simpa using hz
  refine gom ?_
  refine WL.oo (OW.callK rfl (awakeL _ (hE.mono hg1)) rfl fun v' G' H' h hg => ?_)
  obtain ⟨he, hgz, rfl⟩ := h
  cases he
  refine gom ?_
  refine WC.rt ?_
  exact QF.p1 (.inl rfl) rfl (.tmp rfl) (⟨rfl, Gh.le_trans hg1 hgz, rfl⟩)
 have e1 : (linkE l != 0) = false := by simpa using hz
 by_cases hpz : (ptZ l).length = 0
 ·have e2 : (((ptZ l).length : Int) == 0) = true := by rw [hpz]; rfl
  refine gom ?_
  refine WL.oo (OW.callK rfl (awakeL _ (hE.mono hg1)) rfl fun v' G' H' h hg => ?_)
  obtain ⟨he, hgz, rfl⟩ := h
  cases he
  refine gom ?_
  refine WC.rt ?_
  exact QF.p1 (.inl rfl) rfl (.tmp rfl) (⟨rfl, Gh.le_trans hg1 hgz, rfl⟩)
 have e2 : (((ptZ l).length : Int) == 0) = false := by rw [beq_eq_false_iff_ne]; omega
 obtain ⟨hv, hpn, hm, hsp, hsc⟩ := linkE_zero hz
 have g : Good l := ⟨hv, hpn, hm⟩
 have hl2 := len2 hv
 have hl0 : 0 < l.length := by
  rcases Nat.eq_zero_or_pos l.length with h | h
  ·exfalso
   rw [ptZ_ok hz] at hpz
   have := List.eq_nil_of_length_eq_zero h
   subst this
   exact hpz (by unfold joinT'; rfl)
  ·exact h
 refine gom ?_
 refine WL.pp (Gp.convTo (r := (tn : Int)) rfl (wrapI (by omega) (by omega))) ?_
 refine gom ?_
 refine WL.pp (Gp.remTo (r := ((tn % l.length : Nat) : Int)) rfl rfl (by omega) (by rw [Int.tmod_eq_emod_of_nonneg (by omega)]; omega)) ?_
 obtain ⟨k, hk⟩ : ∃ k, k = tn % l.length := ⟨_, rfl⟩
 have hkl : k < l.length := by rw [hk]; exact Nat.mod_lt _ hl0
 rw [← hk]
 refine gom ?_
 refine WL.pp (Gp.sliceFromR (v := .slice (if cap = k then A else A.map (·.add (k * 4))) (l.drop k).length (cap - k)) rfl rfl (by omega) (by omega) (by rw [Int.toNat_natCast, List.length_drop])) ?_
 have hld : Sl Kd.ob G1 (if cap = k then A else A.map (·.add (k * 4))) (l.drop k) := (hl.mono hg1).fromG (k := Kd.ob) hcap
 have hlt : Sl Kd.ob G1 A (l.take k) := Sl.takeO (hl.mono hg1) k
 refine WL.nothing ?_
 refine WL.oo (OW.appendS (k := Kd.ob) (l := []) (m := l.drop k) rfl rfl kr rfl KVec.nil .here hld (by rw [List.length_drop, List.length_nil]; omega) (by rw [List.length_drop, List.length_nil]; omega) rfl fun A2 c2 o2 hk2 => ?_)
 refine gom ?_
 refine WL.pp (Gp.sliceToR (v := .slice A (l.take k).length cap) rfl rfl (by omega) (by omega) (by rw [Int.toNat_natCast, List.length_take, Nat.min_eq_left (by omega)])) ?_
 refine WL.oo (OW.appendS (k := Kd.ob) (l := [] ++ l.drop k) (m := l.take k) rfl rfl kr rfl hk2 atA hlt (by rw [List.nil_append, List.length_drop, List.length_take]; omega) (by rw [List.nil_append, List.length_drop, List.length_take]; omega) rfl fun A3 c3 o3 hk3 => ?_)
 rw [show ([] ++ l.drop k) ++ l.take k = turned l k by unfold turned; rfl] at hk3 ⊢
 refine WL.freezeK (by decide) hk3 atA fun G2 hg2 hSm => ?_
 have hLm := llim_turned hL k
 have hzm := turned_link hz k
 have gm := turned_good g k
 have hg12 := Gh.le_trans hg1 hg2
 refine gom ?_
 refine WL.oo (OW.callK rfl (linkZ_fn G2 (hE.mono hg12) A3 c3 (turned l k) hSm hLm) rfl fun v' G' H' h hg => ?_)
 rw [hzm] at h
 obtain ⟨DA, dc, RA, rc, SA, sc, he, hg3, hD, hR, hS, rfl⟩ := h
 cases he
 obtain ⟨G3, rfl⟩ : ∃ G3, G3 = G' := ⟨_, rfl⟩
 have hg13 := Gh.le_trans hg12 hg3
 refine gom ?_
 refine WL.oo (OW.alloc rfl fun b11 => ?_)
 refine gom ?_
 refine WL.oo (OW.callK rfl (lawOne_fn G3) rfl fun v' G' H' h hg => ?_)
 obtain ⟨XA, XP, he, hg4, hO1, rfl⟩ := h
 cases he
 obtain ⟨G4, rfl⟩ : ∃ G4, G4 = G' := ⟨_, rfl⟩
 have hg14 := Gh.le_trans hg13 hg4
 have hOz : ORep G4 oz XA none XP := ⟨hO1.consts, hO1.needs, hO1.procs⟩
 refine gom ?_
 refine WL.oo (OW.alloc rfl fun b13 => ?_)
 refine gom ?_
 refine WC.loop (X := Nat) (fun i => [(0, .slice A l.length cap), (5, .pointer (some ⟨b5, 0, none⟩)), (7, .pointer (some ⟨b7, 0, none⟩)), (10, .slice A3 (turned l k).length c3), (11, .pointer (some ⟨b11, 0, none⟩)), (13, .pointer (some ⟨b13, 0, none⟩)), (14, .int .i64 i)]) (fun _ => G4) (fun _ => [.blk b13 (.cells #[.string zz, .slice XA 1 1, .slice none 0 0, .slice XP 1 1] 38 (0, 0)), pgB b11 DA RA SA (csZ (turned l k)).length dc (prZ (turned l k)).length rc (ptZ (turned l k)).length sc, pgB b7 CA PA QA (csZ l).length cc (prZ l).length pc (ptZ l).length qc, .blk b5 (.cells #[.int .u8 (xp : Int), .slice AA args.length ac, .int .u16 (f : Int)] 62 (0, 0))]) (fun i => l.length - i) (fun i => i ≤ l.length ∧ ∀ (j : Nat) y, j < i → l[j]? = some y → (y.path == zz) = false) 0 ⟨Nat.zero_le _, fun j y h => absurd h (Nat.not_lt_zero _)⟩ (by exact ⟨rfl, rfl, rfl, rfl, rfl, rfl, rfl, trivial⟩) rfl (List.Sublist.refl _) fun i hx => ?_
 obtain ⟨hi, hno⟩ := hx
 have x2 := wrapS i (by omega)
 by_cases hlti : i < l.length
 ·have e3 : decide ((i : Int) < (l.length : Int)) = true := decide_eq_true (by omega)
  obtain ⟨o, ho⟩ : ∃ o, l[i]? = some o := ⟨_, List.getElem?_eq_getElem hlti⟩
  have x0 : (0 : Int) ≤ (i : Int) := by omega
  have x1 : (i : Int) < (l.length : Int) := by omega
  obtain ⟨ab, ao, ocs, hAe, hks, hcs⟩ := (hl.mono hg14) i o ho
  obtain ⟨OA, oc, NA, nc, PB, pb, rfl, _⟩ := hks
  subst hAe
  cases hq : (o.path == zz) with
  | true =>
   refine gom ?_
   try rw [hq]
   refine gom ?_
   refine WL.oo (OW.callK rfl (awakeL _ (hE.mono hg14)) rfl fun v' G' H' h hg => ?_)
   obtain ⟨he, hgz, rfl⟩ := h
   cases he
   refine gom ?_
   refine WC.rt ?_
   exact QF.p1 (.inl rfl) rfl (.tmp rfl) (⟨rfl, Gh.le_trans hg14 hgz, rfl⟩)
  | false =>
   refine gom ?_
   try rw [hq]
   refine gom ?_
   exact WK.again (i + 1) (by omega) ⟨by omega, fun j y hj hy => by
    rcases Nat.lt_or_ge j i with h | h
    ·exact hno j y h hy
    ·obtain rfl : j = i := by omega
     rw [ho] at hy; cases hy; exact hq⟩ (by exact ⟨rfl, rfl, rfl, rfl, rfl, rfl, rfl, trivial⟩) rfl (List.Sublist.refl _)
 have e3 : decide ((i : Int) < (l.length : Int)) = false := decide_eq_false (by omega)
 have hnz : ∀ o ∈ turned l k, o.path ≠ oz.path := fun o ho e => by
  obtain ⟨j, hj⟩ := List.mem_iff_getElem?.1 (turned_mem.1 ho)
  have := hno j o (by have := (List.getElem?_eq_some_iff.1 hj).1; omega) hj
  rw [show o.path = zz from e, bb_refl] at this
  cases this
 have gw : Good (turned l k ++ [oz]) := more_good gm ans_z rfl hnz
 have hmlen : (turned l k).length = l.length := (turned_perm l k).length_eq
 have hLw : LLim (turned l k ++ [oz]) := llim_snoc hLm (by omega) (by rw [turned_sumP]; omega) (by rw [turned_sumC]; omega)
 have hSm4 := hSm.mono (Gh.le_trans hg3 hg4)
 refine go ?_
 refine WC.joinG (X := O18) (fun t => [(5, .pointer (some ⟨b5, 0, none⟩)), (7, .pointer (some ⟨b7, 0, none⟩)), (11, .pointer (some ⟨b11, 0, none⟩)), (15, .pointer (some ⟨t.b, 0, none⟩)), (16, .int .i64 (linkE (turned l k ++ [oz])))]) (fun t => t.G) (fun t => [pgB t.b t.ZA t.ZP t.ZQ (csZ (turned l k ++ [oz])).length t.wc (prZ (turned l k ++ [oz])).length t.wpc (ptZ (turned l k ++ [oz])).length t.wqc, pgB b11 DA RA SA (csZ (turned l k)).length dc (prZ (turned l k)).length rc (ptZ (turned l k)).length sc, pgB b7 CA PA QA (csZ l).length cc (prZ l).length pc (ptZ l).length qc, .blk b5 (.cells #[.int .u8 (xp : Int), .slice AA args.length ac, .int .u16 (f : Int)] 62 (0, 0))]) (fun t => G4.le t.G ∧ Sl Kd.val t.G t.ZA (csZ (turned l k ++ [oz])) ∧ Sl Kd.prc t.G t.ZP (prZ (turned l k ++ [oz])) ∧ Sl Kd.pnt t.G t.ZQ (ptZ (turned l k ++ [oz]))) ?_ fun t ht => ?_
 ·refine WC.drawB mixed ?_
  refine zb.move 1 ?_
  refine zb.ld 3 ?_
  refine WB.three (i := 0) (j := 4) (k := 10) kr rfl rfl rfl kr kr kr (OW.buildSlice (len := 0) rfl kr kr (by rfl) rfl fun b18 => ?_) (OW.buildSlice rfl kr kr (by rfl) rfl fun b19 => ?_) (OW.alloc rfl fun b15 => ?_)
  ·refine ⟨fun w hw => (hw.pk pkA), ?_⟩
   refine WB.three (i := 2) (j := 4) (k := 10) kr rfl rfl rfl kr kr kr (OW.appendS (k := Kd.ob) (l := []) (m := turned l k) rfl rfl kr rfl ⟨[], Vec.empty rfl, KFl.nil⟩ atA hSm4 (by rw [hmlen, List.length_nil]; omega) (by rw [hmlen, List.length_nil]; omega) rfl fun A5 c5 o5 hk5 => ?_) (OW.buildSlice rfl kr kr (by rfl) rfl fun b19 => ?_) (OW.alloc rfl fun b15 => ?_)
   ·refine ⟨fun w hw => (hw.pk pkA), ?_⟩
    refine WB.two (i := 4) (j := 10) kr rfl rfl kr kr (OW.buildSlice rfl kr kr (by rfl) rfl fun b19 => ?_) (OW.alloc rfl fun b15 => ?_)
    ·refine ⟨fun w hw => (hw.pk pkA), ?_⟩
     refine WB.two (i := 5) (j := 10) kr rfl rfl kr kr (OW.append1 (k := Kd.ob) (l := [] ++ turned l k) (news := [.string zz, .slice XA 1 1, .slice none 0 0, .slice XP 1 1]) (u := oz) rfl rfl kr rfl hk5 atA atA rfl ⟨XA, 1, none, 0, XP, 1, rfl, hOz⟩ (by rw [List.nil_append, hmlen]; omega) (by rw [List.nil_append, hmlen]; omega) rfl fun A6 c6 o6 hk6 => ?_) (OW.alloc rfl fun b15 => ?_)
     ·refine ⟨fun w hw => (hw.pk pkA), ?_⟩
      refine WB.freezeK (by decide) hk6 atA fun G6 hg6 hSw => ?_
      refine WB.two (i := 6) (j := 10) kr rfl rfl kr kr (OW.callK rfl (linkZ_fn G6 (hE.mono (Gh.le_trans hg14 hg6)) A6 c6 (turned l k ++ [oz]) hSw hLw) rfl fun v' G' H' h hg => ?_) (OW.alloc rfl fun b15 => ?_)
      ·obtain ⟨ZA, wc, ZP, wpc, ZQ, wqc, he, hg7, hW1, hW2, hW3, rfl⟩ := h
       cases he
       have hg67 := Gh.le_trans hg6 hg7
       refine ⟨fun w hw => (hw.pk pkA).le hg67, ?_⟩
       refine zb.move 7 ?_
       refine zb.ext 8 ?_
       refine zb.ext 9 ?_
       refine WB.oo 10 rfl (OW.alloc rfl fun b15 => ?_)
       refine ⟨fun w hw => (hw.pk pkA).le hg67, ?_⟩
       refine zb.st 11 ?_
       refine ⟨fun w hw => (hw.pk pkA).le hg67, ?_⟩
       refine zb.assign 12 ?_
       refine WB.done kr ?_
       refine WK.un ?_
       refine WK.pick [pgB b15 ZA ZP ZQ (csZ (turned l k ++ [oz])).length wc (prZ (turned l k ++ [oz])).length wpc (ptZ (turned l k ++ [oz])).length wqc, pgB b11 DA RA SA (csZ (turned l k)).length dc (prZ (turned l k)).length rc (ptZ (turned l k)).length sc, pgB b7 CA PA QA (csZ l).length cc (prZ l).length pc (ptZ l).length qc, .blk b5 (.cells #[.int .u8 (xp : Int), .slice AA args.length ac, .int .u16 (f : Int)] 62 (0, 0))] ?_
       exact WK.meet ⟨G', b15, ZA, wc, ZP, wpc, ZQ, wqc⟩ ⟨hg67, hW1, hW2, hW3⟩ (by exact ⟨rfl, rfl, rfl, rfl, rfl, trivial⟩) rfl (List.Sublist.refl _)
      ·refine ⟨fun w hw => (hw.pk pkA).le hg6, ?_⟩
       refine WB.oo 6 rfl (OW.callK rfl (linkZ_fn G6 (hE.mono (Gh.le_trans hg14 hg6)) A6 c6 (turned l k ++ [oz]) hSw hLw) rfl fun v' G' H' h hg => ?_)
       obtain ⟨ZA, wc, ZP, wpc, ZQ, wqc, he, hg7, hW1, hW2, hW3, rfl⟩ := h
       cases he
       have hg67 := Gh.le_trans hg6 hg7
       refine ⟨fun w hw => (hw.pk pkA).le hg67, ?_⟩
       refine zb.move 7 ?_
       refine zb.ext 8 ?_
       refine zb.ext 9 ?_
       refine zb.st 11 ?_
       refine ⟨fun w hw => (hw.pk pkA).le hg67, ?_⟩
       refine zb.assign 12 ?_
       refine WB.done kr ?_
       refine WK.un ?_
       refine WK.pick [pgB b15 ZA ZP ZQ (csZ (turned l k ++ [oz])).length wc (prZ (turned l k ++ [oz])).length wpc (ptZ (turned l k ++ [oz])).length wqc, pgB b11 DA RA SA (csZ (turned l k)).length dc (prZ (turned l k)).length rc (ptZ (turned l k)).length sc, pgB b7 CA PA QA (csZ l).length cc (prZ l).length pc (ptZ l).length qc, .blk b5 (.cells #[.int .u8 (xp : Int), .slice AA args.length ac, .int .u16 (f : Int)] 62 (0, 0))] ?_
       exact WK.meet ⟨G', b15, ZA, wc, ZP, wpc, ZQ, wqc⟩ ⟨hg67, hW1, hW2, hW3⟩ (by exact ⟨rfl, rfl, rfl, rfl, rfl, trivial⟩) rfl (List.Sublist.refl _)
     ·refine ⟨fun w hw => (hw.pk pkA), ?_⟩
      refine WB.oo 5 rfl (OW.append1 (k := Kd.ob) (l := [] ++ turned l k) (news := [.string zz, .slice XA 1 1, .slice none 0 0, .slice XP 1 1]) (u := oz) rfl rfl kr rfl hk5 atA atA rfl ⟨XA, 1, none, 0, XP, 1, rfl, hOz⟩ (by rw [List.nil_append, hmlen]; omega) (by rw [List.nil_append, hmlen]; omega) rfl fun A6 c6 o6 hk6 => ?_)
      refine ⟨fun w hw => (hw.pk pkA), ?_⟩
      refine WB.freezeK (by decide) hk6 atA fun G6 hg6 hSw => ?_
      refine WB.oo 6 rfl (OW.callK rfl (linkZ_fn G6 (hE.mono (Gh.le_trans hg14 hg6)) A6 c6 (turned l k ++ [oz]) hSw hLw) rfl fun v' G' H' h hg => ?_)
      obtain ⟨ZA, wc, ZP, wpc, ZQ, wqc, he, hg7, hW1, hW2, hW3, rfl⟩ := h
      cases he
      have hg67 := Gh.le_trans hg6 hg7
      refine ⟨fun w hw => (hw.pk pkA).le hg67, ?_⟩
      refine zb.move 7 ?_
      refine zb.ext 8 ?_
      refine zb.ext 9 ?_
      refine zb.st 11 ?_
      refine ⟨fun w hw => (hw.pk pkA).le hg67, ?_⟩
      refine zb.assign 12 ?_
      refine WB.done kr ?_
      refine WK.un ?_
      refine WK.pick [pgB b15 ZA ZP ZQ (csZ (turned l k ++ [oz])).length wc (prZ (turned l k ++ [oz])).length wpc (ptZ (turned l k ++ [oz])).length wqc, pgB b11 DA RA SA (csZ (turned l k)).length dc (prZ (turned l k)).length rc (ptZ (turned l k)).length sc, pgB b7 CA PA QA (csZ l).length cc (prZ l).length pc (ptZ l).length qc, .blk b5 (.cells #[.int .u8 (xp : Int), .slice AA args.length ac, .int .u16 (f : Int)] 62 (0, 0))] ?_
      exact WK.meet ⟨G', b15, ZA, wc, ZP, wpc, ZQ, wqc⟩ ⟨hg67, hW1, hW2, hW3⟩ (by exact ⟨rfl, rfl, rfl, rfl, rfl, trivial⟩) rfl (List.Sublist.refl _)
    ·refine ⟨fun w hw => (hw.pk pkA), ?_⟩
     refine WB.oo 4 rfl (OW.buildSlice rfl kr kr (by rfl) rfl fun b19 => ?_)
     refine ⟨fun w hw => (hw.pk pkA), ?_⟩
     refine WB.oo 5 rfl (OW.append1 (k := Kd.ob) (l := [] ++ turned l k) (news := [.string zz, .slice XA 1 1, .slice none 0 0, .slice XP 1 1]) (u := oz) rfl rfl kr rfl hk5 atA atA rfl ⟨XA, 1, none, 0, XP, 1, rfl, hOz⟩ (by rw [List.nil_append, hmlen]; omega) (by rw [List.nil_append, hmlen]; omega) rfl fun A6 c6 o6 hk6 => ?_)
     refine ⟨fun w hw => (hw.pk pkA), ?_⟩
     refine WB.freezeK (by decide) hk6 atA fun G6 hg6 hSw => ?_
     refine WB.oo 6 rfl (OW.callK rfl (linkZ_fn G6 (hE.mono (Gh.le_trans hg14 hg6)) A6 c6 (turned l k ++ [oz]) hSw hLw) rfl fun v' G' H' h hg => ?_)
     obtain ⟨ZA, wc, ZP, wpc, ZQ, wqc, he, hg7, hW1, hW2, hW3, rfl⟩ := h
     cases he
     have hg67 := Gh.le_trans hg6 hg7
     refine ⟨fun w hw => (hw.pk pkA).le hg67, ?_⟩
     refine zb.move 7 ?_
     refine zb.ext 8 ?_
     refine zb.ext 9 ?_
     refine zb.st 11 ?_
     refine ⟨fun w hw => (hw.pk pkA).le hg67, ?_⟩
     refine zb.assign 12 ?_
     refine WB.done kr ?_
     refine WK.un ?_
     refine WK.pick [pgB b15 ZA ZP ZQ (csZ (turned l k ++ [oz])).length wc (prZ (turned l k ++ [oz])).length wpc (ptZ (turned l k ++ [oz])).length wqc, pgB b11 DA RA SA (csZ (turned l k)).length dc (prZ (turned l k)).length rc (ptZ (turned l k)).length sc, pgB b7 CA PA QA (csZ l).length cc (prZ l).length pc (ptZ l).length qc, .blk b5 (.cells #[.int .u8 (xp : Int), .slice AA args.length ac, .int .u16 (f : Int)] 62 (0, 0))] ?_
     exact WK.meet ⟨G', b15, ZA, wc, ZP, wpc, ZQ, wqc⟩ ⟨hg67, hW1, hW2, hW3⟩ (by exact ⟨rfl, rfl, rfl, rfl, rfl, trivial⟩) rfl (List.Sublist.refl _)
   ·refine ⟨fun w hw => (hw.pk pkA), ?_⟩
    refine WB.two (i := 2) (j := 10) kr rfl rfl kr kr (OW.appendS (k := Kd.ob) (l := []) (m := turned l k) rfl rfl kr rfl ⟨[], Vec.empty rfl, KFl.nil⟩ atA hSm4 (by rw [hmlen, List.length_nil]; omega) (by rw [hmlen, List.length_nil]; omega) rfl fun A5 c5 o5 hk5 => ?_) (OW.alloc rfl fun b15 => ?_)
    ·refine ⟨fun w hw => (hw.pk pkA), ?_⟩
     refine WB.two (i := 5) (j := 10) kr rfl rfl kr kr (OW.append1 (k := Kd.ob) (l := [] ++ turned l k) (news := [.string zz, .slice XA 1 1, .slice none 0 0, .slice XP 1 1]) (u := oz) rfl rfl kr rfl hk5 atA atA rfl ⟨XA, 1, none, 0, XP, 1, rfl, hOz⟩ (by rw [List.nil_append, hmlen]; omega) (by rw [List.nil_append, hmlen]; omega) rfl fun A6 c6 o6 hk6 => ?_) (OW.alloc rfl fun b15 => ?_)
     ·refine ⟨fun w hw => (hw.pk pkA), ?_⟩
      refine WB.freezeK (by decide) hk6 atA fun G6 hg6 hSw => ?_
      refine WB.two (i := 6) (j := 10) kr rfl rfl kr kr (OW.callK rfl (linkZ_fn G6 (hE.mono (Gh.le_trans hg14 hg6)) A6 c6 (turned l k ++ [oz]) hSw hLw) rfl fun v' G' H' h hg => ?_) (OW.alloc rfl fun b15 => ?_)
      ·obtain ⟨ZA, wc, ZP, wpc, ZQ, wqc, he, hg7, hW1, hW2, hW3, rfl⟩ := h
       cases he
       have hg67 := Gh.le_trans hg6 hg7
       refine ⟨fun w hw => (hw.pk pkA).le hg67, ?_⟩
       refine zb.move 7 ?_
       refine zb.ext 8 ?_
       refine zb.ext 9 ?_
       refine WB.oo 10 rfl (OW.alloc rfl fun b15 => ?_)
       refine ⟨fun w hw => (hw.pk pkA).le hg67, ?_⟩
       refine zb.st 11 ?_
       refine ⟨fun w hw => (hw.pk pkA).le hg67, ?_⟩
       refine zb.assign 12 ?_
       refine WB.done kr ?_
       refine WK.un ?_
       refine WK.pick [pgB b15 ZA ZP ZQ (csZ (turned l k ++ [oz])).length wc (prZ (turned l k ++ [oz])).length wpc (ptZ (turned l k ++ [oz])).length wqc, pgB b11 DA RA SA (csZ (turned l k)).length dc (prZ (turned l k)).length rc (ptZ (turned l k)).length sc, pgB b7 CA PA QA (csZ l).length cc (prZ l).length pc (ptZ l).length qc, .blk b5 (.cells #[.int .u8 (xp : Int), .slice AA args.length ac, .int .u16 (f : Int)] 62 (0, 0))] ?_
       exact WK.meet ⟨G', b15, ZA, wc, ZP, wpc, ZQ, wqc⟩ ⟨hg67, hW1, hW2, hW3⟩ (by exact ⟨rfl, rfl, rfl, rfl, rfl, trivial⟩) rfl (List.Sublist.refl _)
      ·refine ⟨fun w hw => (hw.pk pkA).le hg6, ?_⟩
       refine WB.oo 6 rfl (OW.callK rfl (linkZ_fn G6 (hE.mono (Gh.le_trans hg14 hg6)) A6 c6 (turned l k ++ [oz]) hSw hLw) rfl fun v' G' H' h hg => ?_)
       obtain ⟨ZA, wc, ZP, wpc, ZQ, wqc, he, hg7, hW1, hW2, hW3, rfl⟩ := h
       cases he
       have hg67 := Gh.le_trans hg6 hg7
       refine ⟨fun w hw => (hw.pk pkA).le hg67, ?_⟩
       refine zb.move 7 ?_
       refine zb.ext 8 ?_
       refine zb.ext 9 ?_
       refine zb.st 11 ?_
       refine ⟨fun w hw => (hw.pk pkA).le hg67, ?_⟩
       refine zb.assign 12 ?_
       refine WB.done kr ?_
       refine WK.un ?_
       refine WK.pick [pgB b15 ZA ZP ZQ (csZ (turned l k ++ [oz])).length wc (prZ (turned l k ++ [oz])).length wpc (ptZ (turned l k ++ [oz])).length wqc, pgB b11 DA RA SA (csZ (turned l k)).length dc (prZ (turned l k)).length rc (ptZ (turned l k)).length sc, pgB b7 CA PA QA (csZ l).length cc (prZ l).length pc (ptZ l).length qc, .blk b5 (.cells #[.int .u8 (xp : Int), .slice AA args.length ac, .int .u16 (f : Int)] 62 (0, 0))] ?_
       exact WK.meet ⟨G', b15, ZA, wc, ZP, wpc, ZQ, wqc⟩ ⟨hg67, hW1, hW2, hW3⟩ (by exact ⟨rfl, rfl, rfl, rfl, rfl, trivial⟩) rfl (List.Sublist.refl _)
     ·refine ⟨fun w hw => (hw.pk pkA), ?_⟩
      refine WB.oo 5 rfl (OW.append1 (k := Kd.ob) (l := [] ++ turned l k) (news := [.string zz, .slice XA 1 1, .slice none 0 0, .slice XP 1 1]) (u := oz) rfl rfl kr rfl hk5 atA atA rfl ⟨XA, 1, none, 0, XP, 1, rfl, hOz⟩ (by rw [List.nil_append, hmlen]; omega) (by rw [List.nil_append, hmlen]; omega) rfl fun A6 c6 o6 hk6 => ?_)
      refine ⟨fun w hw => (hw.pk pkA), ?_⟩
      refine WB.freezeK (by decide) hk6 atA fun G6 hg6 hSw => ?_
      refine WB.oo 6 rfl (OW.callK rfl (linkZ_fn G6 (hE.mono (Gh.le_trans hg14 hg6)) A6 c6 (turned l k ++ [oz]) hSw hLw) rfl fun v' G' H' h hg => ?_)
      obtain ⟨ZA, wc, ZP, wpc, ZQ, wqc, he, hg7, hW1, hW2, hW3, rfl⟩ := h
      cases he
      have hg67 := Gh.le_trans hg6 hg7
      refine ⟨fun w hw => (hw.pk pkA).le hg67, ?_⟩
      refine zb.move 7 ?_
      refine zb.ext 8 ?_
      refine zb.ext 9 ?_
      refine zb.st 11 ?_
      refine ⟨fun w hw => (hw.pk pkA).le hg67, ?_⟩
      refine zb.assign 12 ?_
      refine WB.done kr ?_
      refine WK.un ?_
      refine WK.pick [pgB b15 ZA ZP ZQ (csZ (turned l k ++ [oz])).length wc (prZ (turned l k ++ [oz])).length wpc (ptZ (turned l k ++ [oz])).length wqc, pgB b11 DA RA SA (csZ (turned l k)).length dc (prZ (turned l k)).length rc (ptZ (turned l k)).length sc, pgB b7 CA PA QA (csZ l).length cc (prZ l).length pc (ptZ l).length qc, .blk b5 (.cells #[.int .u8 (xp : Int), .slice AA args.length ac, .int .u16 (f : Int)] 62 (0, 0))] ?_
      exact WK.meet ⟨G', b15, ZA, wc, ZP, wpc, ZQ, wqc⟩ ⟨hg67, hW1, hW2, hW3⟩ (by exact ⟨rfl, rfl, rfl, rfl, rfl, trivial⟩) rfl (List.Sublist.refl _)
    ·refine ⟨fun w hw => (hw.pk pkA), ?_⟩
     refine WB.oo 2 rfl (OW.appendS (k := Kd.ob) (l := []) (m := turned l k) rfl rfl kr rfl ⟨[], Vec.empty rfl, KFl.nil⟩ atA hSm4 (by rw [hmlen, List.length_nil]; omega) (by rw [hmlen, List.length_nil]; omega) rfl fun A5 c5 o5 hk5 => ?_)
     refine ⟨fun w hw => (hw.pk pkA), ?_⟩
     refine WB.oo 5 rfl (OW.append1 (k := Kd.ob) (l := [] ++ turned l k) (news := [.string zz, .slice XA 1 1, .slice none 0 0, .slice XP 1 1]) (u := oz) rfl rfl kr rfl hk5 atA atA rfl ⟨XA, 1, none, 0, XP, 1, rfl, hOz⟩ (by rw [List.nil_append, hmlen]; omega) (by rw [List.nil_append, hmlen]; omega) rfl fun A6 c6 o6 hk6 => ?_)
     refine ⟨fun w hw => (hw.pk pkA), ?_⟩
     refine WB.freezeK (by decide) hk6 atA fun G6 hg6 hSw => ?_
     refine WB.oo 6 rfl (OW.callK rfl (linkZ_fn G6 (hE.mono (Gh.le_trans hg14 hg6)) A6 c6 (turned l k ++ [oz]) hSw hLw) rfl fun v' G' H' h hg => ?_)
     obtain ⟨ZA, wc, ZP, wpc, ZQ, wqc, he, hg7, hW1, hW2, hW3, rfl⟩ := h
     cases he
     have hg67 := Gh.le_trans hg6 hg7
     refine ⟨fun w hw => (hw.pk pkA).le hg67, ?_⟩
     refine zb.move 7 ?_
     refine zb.ext 8 ?_
     refine zb.ext 9 ?_
     refine zb.st 11 ?_
     refine ⟨fun w hw => (hw.pk pkA).le hg67, ?_⟩
     refine zb.assign 12 ?_
     refine WB.done kr ?_
     refine WK.un ?_
     refine WK.pick [pgB b15 ZA ZP ZQ (csZ (turned l k ++ [oz])).length wc (prZ (turned l k ++ [oz])).length wpc (ptZ (turned l k ++ [oz])).length wqc, pgB b11 DA RA SA (csZ (turned l k)).length dc (prZ (turned l k)).length rc (ptZ (turned l k)).length sc, pgB b7 CA PA QA (csZ l).length cc (prZ l).length pc (ptZ l).length qc, .blk b5 (.cells #[.int .u8 (xp : Int), .slice AA args.length ac, .int .u16 (f : Int)] 62 (0, 0))] ?_
     exact WK.meet ⟨G', b15, ZA, wc, ZP, wpc, ZQ, wqc⟩ ⟨hg67, hW1, hW2, hW3⟩ (by exact ⟨rfl, rfl, rfl, rfl, rfl, trivial⟩) rfl (List.Sublist.refl _)
   ·refine ⟨fun w hw => (hw.pk pkA), ?_⟩
    refine WB.two (i := 2) (j := 4) kr rfl rfl kr kr (OW.appendS (k := Kd.ob) (l := []) (m := turned l k) rfl rfl kr rfl ⟨[], Vec.empty rfl, KFl.nil⟩ atA hSm4 (by rw [hmlen, List.length_nil]; omega) (by rw [hmlen, List.length_nil]; omega) rfl fun A5 c5 o5 hk5 => ?_) (OW.buildSlice rfl kr kr (by rfl) rfl fun b19 => ?_)
    ·refine ⟨fun w hw => (hw.pk pkA), ?_⟩
     refine WB.oo 4 rfl (OW.buildSlice rfl kr kr (by rfl) rfl fun b19 => ?_)
     refine ⟨fun w hw => (hw.pk pkA), ?_⟩
     refine WB.oo 5 rfl (OW.append1 (k := Kd.ob) (l := [] ++ turned l k) (news := [.string zz, .slice XA 1 1, .slice none 0 0, .slice XP 1 1]) (u := oz) rfl rfl kr rfl hk5 atA atA rfl ⟨XA, 1, none, 0, XP, 1, rfl, hOz⟩ (by rw [List.nil_append, hmlen]; omega) (by rw [List.nil_append, hmlen]; omega) rfl fun A6 c6 o6 hk6 => ?_)
     refine ⟨fun w hw => (hw.pk pkA), ?_⟩
     refine WB.freezeK (by decide) hk6 atA fun G6 hg6 hSw => ?_
     refine WB.oo 6 rfl (OW.callK rfl (linkZ_fn G6 (hE.mono (Gh.le_trans hg14 hg6)) A6 c6 (turned l k ++ [oz]) hSw hLw) rfl fun v' G' H' h hg => ?_)
     obtain ⟨ZA, wc, ZP, wpc, ZQ, wqc, he, hg7, hW1, hW2, hW3, rfl⟩ := h
     cases he
     have hg67 := Gh.le_trans hg6 hg7
     refine ⟨fun w hw => (hw.pk pkA).le hg67, ?_⟩
     refine zb.move 7 ?_
     refine zb.ext 8 ?_
     refine zb.ext 9 ?_
     refine zb.st 11 ?_
     refine ⟨fun w hw => (hw.pk pkA).le hg67, ?_⟩
     refine zb.assign 12 ?_
     refine WB.done kr ?_
     refine WK.un ?_
     refine WK.pick [pgB b15 ZA ZP ZQ (csZ (turned l k ++ [oz])).length wc (prZ (turned l k ++ [oz])).length wpc (ptZ (turned l k ++ [oz])).length wqc, pgB b11 DA RA SA (csZ (turned l k)).length dc (prZ (turned l k)).length rc (ptZ (turned l k)).length sc, pgB b7 CA PA QA (csZ l).length cc (prZ l).length pc (ptZ l).length qc, .blk b5 (.cells #[.int .u8 (xp : Int), .slice AA args.length ac, .int .u16 (f : Int)] 62 (0, 0))] ?_
     exact WK.meet ⟨G', b15, ZA, wc, ZP, wpc, ZQ, wqc⟩ ⟨hg67, hW1, hW2, hW3⟩ (by exact ⟨rfl, rfl, rfl, rfl, rfl, trivial⟩) rfl (List.Sublist.refl _)
    ·refine ⟨fun w hw => (hw.pk pkA), ?_⟩
     refine WB.oo 2 rfl (OW.appendS (k := Kd.ob) (l := []) (m := turned l k) rfl rfl kr rfl ⟨[], Vec.empty rfl, KFl.nil⟩ atA hSm4 (by rw [hmlen, List.length_nil]; omega) (by rw [hmlen, List.length_nil]; omega) rfl fun A5 c5 o5 hk5 => ?_)
     refine ⟨fun w hw => (hw.pk pkA), ?_⟩
     refine WB.oo 5 rfl (OW.append1 (k := Kd.ob) (l := [] ++ turned l k) (news := [.string zz, .slice XA 1 1, .slice none 0 0, .slice XP 1 1]) (u := oz) rfl rfl kr rfl hk5 atA atA rfl ⟨XA, 1, none, 0, XP, 1, rfl, hOz⟩ (by rw [List.nil_append, hmlen]; omega) (by rw [List.nil_append, hmlen]; omega) rfl fun A6 c6 o6 hk6 => ?_)
     refine ⟨fun w hw => (hw.pk pkA), ?_⟩
     refine WB.freezeK (by decide) hk6 atA fun G6 hg6 hSw => ?_
     refine WB.oo 6 rfl (OW.callK rfl (linkZ_fn G6 (hE.mono (Gh.le_trans hg14 hg6)) A6 c6 (turned l k ++ [oz]) hSw hLw) rfl fun v' G' H' h hg => ?_)
     obtain ⟨ZA, wc, ZP, wpc, ZQ, wqc, he, hg7, hW1, hW2, hW3, rfl⟩ := h
     cases he
     have hg67 := Gh.le_trans hg6 hg7
     refine ⟨fun w hw => (hw.pk pkA).le hg67, ?_⟩
     refine zb.move 7 ?_
     refine zb.ext 8 ?_
     refine zb.ext 9 ?_
     refine zb.st 11 ?_
     refine ⟨fun w hw => (hw.pk pkA).le hg67, ?_⟩
     refine zb.assign 12 ?_
     refine WB.done kr ?_
     refine WK.un ?_
     refine WK.pick [pgB b15 ZA ZP ZQ (csZ (turned l k ++ [oz])).length wc (prZ (turned l k ++ [oz])).length wpc (ptZ (turned l k ++ [oz])).length wqc, pgB b11 DA RA SA (csZ (turned l k)).length dc (prZ (turned l k)).length rc (ptZ (turned l k)).length sc, pgB b7 CA PA QA (csZ l).length cc (prZ l).length pc (ptZ l).length qc, .blk b5 (.cells #[.int .u8 (xp : Int), .slice AA args.length ac, .int .u16 (f : Int)] 62 (0, 0))] ?_
     exact WK.meet ⟨G', b15, ZA, wc, ZP, wpc, ZQ, wqc⟩ ⟨hg67, hW1, hW2, hW3⟩ (by exact ⟨rfl, rfl, rfl, rfl, rfl, trivial⟩) rfl (List.Sublist.refl _)
  ·refine ⟨fun w hw => (hw.pk pkA), ?_⟩
   refine WB.two (i := 0) (j := 10) kr rfl rfl kr kr (OW.buildSlice (len := 0) rfl kr kr (by rfl) rfl fun b18 => ?_) (OW.alloc rfl fun b15 => ?_)
   ·refine ⟨fun w hw => (hw.pk pkA), ?_⟩
    refine WB.two (i := 2) (j := 10) kr rfl rfl kr kr (OW.appendS (k := Kd.ob) (l := []) (m := turned l k) rfl rfl kr rfl ⟨[], Vec.empty rfl, KFl.nil⟩ atA hSm4 (by rw [hmlen, List.length_nil]; omega) (by rw [hmlen, List.length_nil]; omega) rfl fun A5 c5 o5 hk5 => ?_) (OW.alloc rfl fun b15 => ?_)
    ·refine ⟨fun w hw => (hw.pk pkA), ?_⟩
     refine WB.two (i := 5) (j := 10) kr rfl rfl kr kr (OW.append1 (k := Kd.ob) (l := [] ++ turned l k) (news := [.string zz, .slice XA 1 1, .slice none 0 0, .slice XP 1 1]) (u := oz) rfl rfl kr rfl hk5 atA atA rfl ⟨XA, 1, none, 0, XP, 1, rfl, hOz⟩ (by rw [List.nil_append, hmlen]; omega) (by rw [List.nil_append, hmlen]; omega) rfl fun A6 c6 o6 hk6 => ?_) (OW.alloc rfl fun b15 => ?_)
     ·refine ⟨fun w hw => (hw.pk pkA), ?_⟩
      refine WB.freezeK (by decide) hk6 atA fun G6 hg6 hSw => ?_
      refine WB.two (i := 6) (j := 10) kr rfl rfl kr kr (OW.callK rfl (linkZ_fn G6 (hE.mono (Gh.le_trans hg14 hg6)) A6 c6 (turned l k ++ [oz]) hSw hLw) rfl fun v' G' H' h hg => ?_) (OW.alloc rfl fun b15 => ?_)
      ·obtain ⟨ZA, wc, ZP, wpc, ZQ, wqc, he, hg7, hW1, hW2, hW3, rfl⟩ := h
       cases he
       have hg67 := Gh.le_trans hg6 hg7
       refine ⟨fun w hw => (hw.pk pkA).le hg67, ?_⟩
       refine zb.move 7 ?_
       refine zb.ext 8 ?_
       refine zb.ext 9 ?_
       refine WB.oo 10 rfl (OW.alloc rfl fun b15 => ?_)
       refine ⟨fun w hw => (hw.pk pkA).le hg67, ?_⟩
       refine zb.st 11 ?_
       refine ⟨fun w hw => (hw.pk pkA).le hg67, ?_⟩
       refine zb.assign 12 ?_
       refine WB.done kr ?_
       refine WK.un ?_
       refine WK.pick [pgB b15 ZA ZP ZQ (csZ (turned l k ++ [oz])).length wc (prZ (turned l k ++ [oz])).length wpc (ptZ (turned l k ++ [oz])).length wqc, pgB b11 DA RA SA (csZ (turned l k)).length dc (prZ (turned l k)).length rc (ptZ (turned l k)).length sc, pgB b7 CA PA QA (csZ l).length cc (prZ l).length pc (ptZ l).length qc, .blk b5 (.cells #[.int .u8 (xp : Int), .slice AA args.length ac, .int .u16 (f : Int)] 62 (0, 0))] ?_
       exact WK.meet ⟨G', b15, ZA, wc, ZP, wpc, ZQ, wqc⟩ ⟨hg67, hW1, hW2, hW3⟩ (by exact ⟨rfl, rfl, rfl, rfl, rfl, trivial⟩) rfl (List.Sublist.refl _)
      ·refine ⟨fun w hw => (hw.pk pkA).le hg6, ?_⟩
       refine WB.oo 6 rfl (OW.callK rfl (linkZ_fn G6 (hE.mono (Gh.le_trans hg14 hg6)) A6 c6 (turned l k ++ [oz]) hSw hLw) rfl fun v' G' H' h hg => ?_)
       obtain ⟨ZA, wc, ZP, wpc, ZQ, wqc, he, hg7, hW1, hW2, hW3, rfl⟩ := h
       cases he
       have hg67 := Gh.le_trans hg6 hg7
       refine ⟨fun w hw => (hw.pk pkA).le hg67, ?_⟩
       refine zb.move 7 ?_
       refine zb.ext 8 ?_
       refine zb.ext 9 ?_
       refine zb.st 11 ?_
       refine ⟨fun w hw => (hw.pk pkA).le hg67, ?_⟩
       refine zb.assign 12 ?_
       refine WB.done kr ?_
       refine WK.un ?_
       refine WK.pick [pgB b15 ZA ZP ZQ (csZ (turned l k ++ [oz])).length wc (prZ (turned l k ++ [oz])).length wpc (ptZ (turned l k ++ [oz])).length wqc, pgB b11 DA RA SA (csZ (turned l k)).length dc (prZ (turned l k)).length rc (ptZ (turned l k)).length sc, pgB b7 CA PA QA (csZ l).length cc (prZ l).length pc (ptZ l).length qc, .blk b5 (.cells #[.int .u8 (xp : Int), .slice AA args.length ac, .int .u16 (f : Int)] 62 (0, 0))] ?_
       exact WK.meet ⟨G', b15, ZA, wc, ZP, wpc, ZQ, wqc⟩ ⟨hg67, hW1, hW2, hW3⟩ (by exact ⟨rfl, rfl, rfl, rfl, rfl, trivial⟩) rfl (List.Sublist.refl _)
     ·refine ⟨fun w hw => (hw.pk pkA), ?_⟩
      refine WB.oo 5 rfl (OW.append1 (k := Kd.ob) (l := [] ++ turned l k) (news := [.string zz, .slice XA 1 1, .slice none 0 0, .slice XP 1 1]) (u := oz) rfl rfl kr rfl hk5 atA atA rfl ⟨XA, 1, none, 0, XP, 1, rfl, hOz⟩ (by rw [List.nil_append, hmlen]; omega) (by rw [List.nil_append, hmlen]; omega) rfl fun A6 c6 o6 hk6 => ?_)
      refine ⟨fun w hw => (hw.pk pkA), ?_⟩
      refine WB.freezeK (by decide) hk6 atA fun G6 hg6 hSw => ?_
      refine WB.oo 6 rfl (OW.callK rfl (linkZ_fn G6 (hE.mono (Gh.le_trans hg14 hg6)) A6 c6 (turned l k ++ [oz]) hSw hLw) rfl fun v' G' H' h hg => ?_)
      obtain ⟨ZA, wc, ZP, wpc, ZQ, wqc, he, hg7, hW1, hW2, hW3, rfl⟩ := h
      cases he
      have hg67 := Gh.le_trans hg6 hg7
      refine ⟨fun w hw => (hw.pk pkA).le hg67, ?_⟩
      refine zb.move 7 ?_
      refine zb.ext 8 ?_
      refine zb.ext 9 ?_
      refine zb.st 11 ?_
      refine ⟨fun w hw => (hw.pk pkA).le hg67, ?_⟩
      refine zb.assign 12 ?_
      refine WB.done kr ?_
      refine WK.un ?_
      refine WK.pick [pgB b15 ZA ZP ZQ (csZ (turned l k ++ [oz])).length wc (prZ (turned l k ++ [oz])).length wpc (ptZ (turned l k ++ [oz])).length wqc, pgB b11 DA RA SA (csZ (turned l k)).length dc (prZ (turned l k)).length rc (ptZ (turned l k)).length sc, pgB b7 CA PA QA (csZ l).length cc (prZ l).length pc (ptZ l).length qc, .blk b5 (.cells #[.int .u8 (xp : Int), .slice AA args.length ac, .int .u16 (f : Int)] 62 (0, 0))] ?_
      exact WK.meet ⟨G', b15, ZA, wc, ZP, wpc, ZQ, wqc⟩ ⟨hg67, hW1, hW2, hW3⟩ (by exact ⟨rfl, rfl, rfl, rfl, rfl, trivial⟩) rfl (List.Sublist.refl _)
    ·refine ⟨fun w hw => (hw.pk pkA), ?_⟩
     refine WB.oo 2 rfl (OW.appendS (k := Kd.ob) (l := []) (m := turned l k) rfl rfl kr rfl ⟨[], Vec.empty rfl, KFl.nil⟩ atA hSm4 (by rw [hmlen, List.length_nil]; omega) (by rw [hmlen, List.length_nil]; omega) rfl fun A5 c5 o5 hk5 => ?_)
     refine ⟨fun w hw => (hw.pk pkA), ?_⟩
     refine WB.oo 5 rfl (OW.append1 (k := Kd.ob) (l := [] ++ turned l k) (news := [.string zz, .slice XA 1 1, .slice none 0 0, .slice XP 1 1]) (u := oz) rfl rfl kr rfl hk5 atA atA rfl ⟨XA, 1, none, 0, XP, 1, rfl, hOz⟩ (by rw [List.nil_append, hmlen]; omega) (by rw [List.nil_append, hmlen]; omega) rfl fun A6 c6 o6 hk6 => ?_)
     refine ⟨fun w hw => (hw.pk pkA), ?_⟩
     refine WB.freezeK (by decide) hk6 atA fun G6 hg6 hSw => ?_
     refine WB.oo 6 rfl (OW.callK rfl (linkZ_fn G6 (hE.mono (Gh.le_trans hg14 hg6)) A6 c6 (turned l k ++ [oz]) hSw hLw) rfl fun v' G' H' h hg => ?_)
     obtain ⟨ZA, wc, ZP, wpc, ZQ, wqc, he, hg7, hW1, hW2, hW3, rfl⟩ := h
     cases he
     have hg67 := Gh.le_trans hg6 hg7
     refine ⟨fun w hw => (hw.pk pkA).le hg67, ?_⟩
     refine zb.move 7 ?_
     refine zb.ext 8 ?_
     refine zb.ext 9 ?_
     refine zb.st 11 ?_
     refine ⟨fun w hw => (hw.pk pkA).le hg67, ?_⟩
     refine zb.assign 12 ?_
     refine WB.done kr ?_
     refine WK.un ?_
     refine WK.pick [pgB b15 ZA ZP ZQ (csZ (turned l k ++ [oz])).length wc (prZ (turned l k ++ [oz])).length wpc (ptZ (turned l k ++ [oz])).length wqc, pgB b11 DA RA SA (csZ (turned l k)).length dc (prZ (turned l k)).length rc (ptZ (turned l k)).length sc, pgB b7 CA PA QA (csZ l).length cc (prZ l).length pc (ptZ l).length qc, .blk b5 (.cells #[.int .u8 (xp : Int), .slice AA args.length ac, .int .u16 (f : Int)] 62 (0, 0))] ?_
     exact WK.meet ⟨G', b15, ZA, wc, ZP, wpc, ZQ, wqc⟩ ⟨hg67, hW1, hW2, hW3⟩ (by exact ⟨rfl, rfl, rfl, rfl, rfl, trivial⟩) rfl (List.Sublist.refl _)
   ·refine ⟨fun w hw => (hw.pk pkA), ?_⟩
    refine WB.oo 0 rfl (OW.buildSlice (len := 0) rfl kr kr (by rfl) rfl fun b18 => ?_)
    refine ⟨fun w hw => (hw.pk pkA), ?_⟩
    refine WB.oo 2 rfl (OW.appendS (k := Kd.ob) (l := []) (m := turned l k) rfl rfl kr rfl ⟨[], Vec.empty rfl, KFl.nil⟩ atA hSm4 (by rw [hmlen, List.length_nil]; omega) (by rw [hmlen, List.length_nil]; omega) rfl fun A5 c5 o5 hk5 => ?_)
    refine ⟨fun w hw => (hw.pk pkA), ?_⟩
    refine WB.oo 5 rfl (OW.append1 (k := Kd.ob) (l := [] ++ turned l k) (news := [.string zz, .slice XA 1 1, .slice none 0 0, .slice XP 1 1]) (u := oz) rfl rfl kr rfl hk5 atA atA rfl ⟨XA, 1, none, 0, XP, 1, rfl, hOz⟩ (by rw [List.nil_append, hmlen]; omega) (by rw [List.nil_append, hmlen]; omega) rfl fun A6 c6 o6 hk6 => ?_)
    refine ⟨fun w hw => (hw.pk pkA), ?_⟩
    refine WB.freezeK (by decide) hk6 atA fun G6 hg6 hSw => ?_
    refine WB.oo 6 rfl (OW.callK rfl (linkZ_fn G6 (hE.mono (Gh.le_trans hg14 hg6)) A6 c6 (turned l k ++ [oz]) hSw hLw) rfl fun v' G' H' h hg => ?_)
    obtain ⟨ZA, wc, ZP, wpc, ZQ, wqc, he, hg7, hW1, hW2, hW3, rfl⟩ := h
    cases he
    have hg67 := Gh.le_trans hg6 hg7
    refine ⟨fun w hw => (hw.pk pkA).le hg67, ?_⟩
    refine zb.move 7 ?_
    refine zb.ext 8 ?_
    refine zb.ext 9 ?_
    refine zb.st 11 ?_
    refine ⟨fun w hw => (hw.pk pkA).le hg67, ?_⟩
    refine zb.assign 12 ?_
    refine WB.done kr ?_
    refine WK.un ?_
    refine WK.pick [pgB b15 ZA ZP ZQ (csZ (turned l k ++ [oz])).length wc (prZ (turned l k ++ [oz])).length wpc (ptZ (turned l k ++ [oz])).length wqc, pgB b11 DA RA SA (csZ (turned l k)).length dc (prZ (turned l k)).length rc (ptZ (turned l k)).length sc, pgB b7 CA PA QA (csZ l).length cc (prZ l).length pc (ptZ l).length qc, .blk b5 (.cells #[.int .u8 (xp : Int), .slice AA args.length ac, .int .u16 (f : Int)] 62 (0, 0))] ?_
    exact WK.meet ⟨G', b15, ZA, wc, ZP, wpc, ZQ, wqc⟩ ⟨hg67, hW1, hW2, hW3⟩ (by exact ⟨rfl, rfl, rfl, rfl, rfl, trivial⟩) rfl (List.Sublist.refl _)
  ·refine ⟨fun w hw => (hw.pk pkA), ?_⟩
   refine WB.two (i := 0) (j := 4) kr rfl rfl kr kr (OW.buildSlice (len := 0) rfl kr kr (by rfl) rfl fun b18 => ?_) (OW.buildSlice rfl kr kr (by rfl) rfl fun b19 => ?_)
   ·refine ⟨fun w hw => (hw.pk pkA), ?_⟩
    refine WB.two (i := 2) (j := 4) kr rfl rfl kr kr (OW.appendS (k := Kd.ob) (l := []) (m := turned l k) rfl rfl kr rfl ⟨[], Vec.empty rfl, KFl.nil⟩ atA hSm4 (by rw [hmlen, List.length_nil]; omega) (by rw [hmlen, List.length_nil]; omega) rfl fun A5 c5 o5 hk5 => ?_) (OW.buildSlice rfl kr kr (by rfl) rfl fun b19 => ?_)
    ·refine ⟨fun w hw => (hw.pk pkA), ?_⟩
     refine WB.oo 4 rfl (OW.buildSlice rfl kr kr (by rfl) rfl fun b19 => ?_)
     refine ⟨fun w hw => (hw.pk pkA), ?_⟩
     refine WB.oo 5 rfl (OW.append1 (k := Kd.ob) (l := [] ++ turned l k) (news := [.string zz, .slice XA 1 1, .slice none 0 0, .slice XP 1 1]) (u := oz) rfl rfl kr rfl hk5 atA atA rfl ⟨XA, 1, none, 0, XP, 1, rfl, hOz⟩ (by rw [List.nil_append, hmlen]; omega) (by rw [List.nil_append, hmlen]; omega) rfl fun A6 c6 o6 hk6 => ?_)
     refine ⟨fun w hw => (hw.pk pkA), ?_⟩
     refine WB.freezeK (by decide) hk6 atA fun G6 hg6 hSw => ?_
     refine WB.oo 6 rfl (OW.callK rfl (linkZ_fn G6 (hE.mono (Gh.le_trans hg14 hg6)) A6 c6 (turned l k ++ [oz]) hSw hLw) rfl fun v' G' H' h hg => ?_)
     obtain ⟨ZA, wc, ZP, wpc, ZQ, wqc, he, hg7, hW1, hW2, hW3, rfl⟩ := h
     cases he
     have hg67 := Gh.le_trans hg6 hg7
     refine ⟨fun w hw => (hw.pk pkA).le hg67, ?_⟩
     refine zb.move 7 ?_
     refine zb.ext 8 ?_
     refine zb.ext 9 ?_
     refine zb.st 11 ?_
     refine ⟨fun w hw => (hw.pk pkA).le hg67, ?_⟩
     refine zb.assign 12 ?_
     refine WB.done kr ?_
     refine WK.un ?_
     refine WK.pick [pgB b15 ZA ZP ZQ (csZ (turned l k ++ [oz])).length wc (prZ (turned l k ++ [oz])).length wpc (ptZ (turned l k ++ [oz])).length wqc, pgB b11 DA RA SA (csZ (turned l k)).length dc (prZ (turned l k)).length rc (ptZ (turned l k)).length sc, pgB b7 CA PA QA (csZ l).length cc (prZ l).length pc (ptZ l).length qc, .blk b5 (.cells #[.int .u8 (xp : Int), .slice AA args.length ac, .int .u16 (f : Int)] 62 (0, 0))] ?_
     exact WK.meet ⟨G', b15, ZA, wc, ZP, wpc, ZQ, wqc⟩ ⟨hg67, hW1, hW2, hW3⟩ (by exact ⟨rfl, rfl, rfl, rfl, rfl, trivial⟩) rfl (List.Sublist.refl _)
    ·refine ⟨fun w hw => (hw.pk pkA), ?_⟩
     refine WB.oo 2 rfl (OW.appendS (k := Kd.ob) (l := []) (m := turned l k) rfl rfl kr rfl ⟨[], Vec.empty rfl, KFl.nil⟩ atA hSm4 (by rw [hmlen, List.length_nil]; omega) (by rw [hmlen, List.length_nil]; omega) rfl fun A5 c5 o5 hk5 => ?_)
     refine ⟨fun w hw => (hw.pk pkA), ?_⟩
     refine WB.oo 5 rfl (OW.append1 (k := Kd.ob) (l := [] ++ turned l k) (news := [.string zz, .slice XA 1 1, .slice none 0 0, .slice XP 1 1]) (u := oz) rfl rfl kr rfl hk5 atA atA rfl ⟨XA, 1, none, 0, XP, 1, rfl, hOz⟩ (by rw [List.nil_append, hmlen]; omega) (by rw [List.nil_append, hmlen]; omega) rfl fun A6 c6 o6 hk6 => ?_)
     refine ⟨fun w hw => (hw.pk pkA), ?_⟩
     refine WB.freezeK (by decide) hk6 atA fun G6 hg6 hSw => ?_
     refine WB.oo 6 rfl (OW.callK rfl (linkZ_fn G6 (hE.mono (Gh.le_trans hg14 hg6)) A6 c6 (turned l k ++ [oz]) hSw hLw) rfl fun v' G' H' h hg => ?_)
     obtain ⟨ZA, wc, ZP, wpc, ZQ, wqc, he, hg7, hW1, hW2, hW3, rfl⟩ := h
     cases he
     have hg67 := Gh.le_trans hg6 hg7
     refine ⟨fun w hw => (hw.pk pkA).le hg67, ?_⟩
     refine zb.move 7 ?_
     refine zb.ext 8 ?_
     refine zb.ext 9 ?_
     refine zb.st 11 ?_
     refine ⟨fun w hw => (hw.pk pkA).le hg67, ?_⟩
     refine zb.assign 12 ?_
     refine WB.done kr ?_
     refine WK.un ?_
     refine WK.pick [pgB b15 ZA ZP ZQ (csZ (turned l k ++ [oz])).length wc (prZ (turned l k ++ [oz])).length wpc (ptZ (turned l k ++ [oz])).length wqc, pgB b11 DA RA SA (csZ (turned l k)).length dc (prZ (turned l k)).length rc (ptZ (turned l k)).length sc, pgB b7 CA PA QA (csZ l).length cc (prZ l).length pc (ptZ l).length qc, .blk b5 (.cells #[.int .u8 (xp : Int), .slice AA args.length ac, .int .u16 (f : Int)] 62 (0, 0))] ?_
     exact WK.meet ⟨G', b15, ZA, wc, ZP, wpc, ZQ, wqc⟩ ⟨hg67, hW1, hW2, hW3⟩ (by exact ⟨rfl, rfl, rfl, rfl, rfl, trivial⟩) rfl (List.Sublist.refl _)
   ·refine ⟨fun w hw => (hw.pk pkA), ?_⟩
    refine WB.oo 0 rfl (OW.buildSlice (len := 0) rfl kr kr (by rfl) rfl fun b18 => ?_)
    refine ⟨fun w hw => (hw.pk pkA), ?_⟩
    refine WB.oo 2 rfl (OW.appendS (k := Kd.ob) (l := []) (m := turned l k) rfl rfl kr rfl ⟨[], Vec.empty rfl, KFl.nil⟩ atA hSm4 (by rw [hmlen, List.length_nil]; omega) (by rw [hmlen, List.length_nil]; omega) rfl fun A5 c5 o5 hk5 => ?_)
    refine ⟨fun w hw => (hw.pk pkA), ?_⟩
    refine WB.oo 5 rfl (OW.append1 (k := Kd.ob) (l := [] ++ turned l k) (news := [.string zz, .slice XA 1 1, .slice none 0 0, .slice XP 1 1]) (u := oz) rfl rfl kr rfl hk5 atA atA rfl ⟨XA, 1, none, 0, XP, 1, rfl, hOz⟩ (by rw [List.nil_append, hmlen]; omega) (by rw [List.nil_append, hmlen]; omega) rfl fun A6 c6 o6 hk6 => ?_)
    refine ⟨fun w hw => (hw.pk pkA), ?_⟩
    refine WB.freezeK (by decide) hk6 atA fun G6 hg6 hSw => ?_
    refine WB.oo 6 rfl (OW.callK rfl (linkZ_fn G6 (hE.mono (Gh.le_trans hg14 hg6)) A6 c6 (turned l k ++ [oz]) hSw hLw) rfl fun v' G' H' h hg => ?_)
    obtain ⟨ZA, wc, ZP, wpc, ZQ, wqc, he, hg7, hW1, hW2, hW3, rfl⟩ := h
    cases he
    have hg67 := Gh.le_trans hg6 hg7
    refine ⟨fun w hw => (hw.pk pkA).le hg67, ?_⟩
    refine zb.move 7 ?_
    refine zb.ext 8 ?_
    refine zb.ext 9 ?_
    refine zb.st 11 ?_
    refine ⟨fun w hw => (hw.pk pkA).le hg67, ?_⟩
    refine zb.assign 12 ?_
    refine WB.done kr ?_
    refine WK.un ?_
    refine WK.pick [pgB b15 ZA ZP ZQ (csZ (turned l k ++ [oz])).length wc (prZ (turned l k ++ [oz])).length wpc (ptZ (turned l k ++ [oz])).length wqc, pgB b11 DA RA SA (csZ (turned l k)).length dc (prZ (turned l k)).length rc (ptZ (turned l k)).length sc, pgB b7 CA PA QA (csZ l).length cc (prZ l).length pc (ptZ l).length qc, .blk b5 (.cells #[.int .u8 (xp : Int), .slice AA args.length ac, .int .u16 (f : Int)] 62 (0, 0))] ?_
    exact WK.meet ⟨G', b15, ZA, wc, ZP, wpc, ZQ, wqc⟩ ⟨hg67, hW1, hW2, hW3⟩ (by exact ⟨rfl, rfl, rfl, rfl, rfl, trivial⟩) rfl (List.Sublist.refl _)
 obtain ⟨G5, b15, ZA, wc, ZP, wpc, ZQ, wqc⟩ := t
 obtain ⟨hg5, hW1, hW2, hW3⟩ := ht
 dsimp only at hg5 hW1 hW2 hW3
 dsimp only
 have hg15 := Gh.le_trans hg14 hg5
 obtain ⟨tx, htx⟩ : ∃ tx, tx = xp % (ptZ l).length := ⟨_, rfl⟩
 have htxl : tx < (ptZ l).length := by rw [htx]; exact Nat.mod_lt _ (by omega)
 obtain ⟨x, hx⟩ : ∃ x, (ptZ l)[tx]? = some x := ⟨_, List.getElem?_eq_getElem htxl⟩
 have hxm : x ∈ joinT' l 0 := by rw [← ptZ_ok hz]; exact List.mem_of_getElem? hx
 obtain ⟨n, n', hp1, hp2, hrun⟩ := run_same g gm (fun o ho => turned_mem.2 ho) hxm
 obtain ⟨n0, n'', hp3, hp4, hrun2⟩ := run_same g gw (fun o ho => List.mem_append_left _ (turned_mem.2 ho)) hxm
 obtain rfl : n = n0 := by rw [hp1] at hp3; have := congrArg Prod.fst hp3; dsimp only at this; omega
 have hQ5 := hQ.mono (Gh.le_trans hg2 (Gh.le_trans hg3 (Gh.le_trans hg4 hg5)))
 have hC5 := hC.mono (Gh.le_trans hg2 (Gh.le_trans hg3 (Gh.le_trans hg4 hg5)))
 have hP5 := hP.mono (Gh.le_trans hg2 (Gh.le_trans hg3 (Gh.le_trans hg4 hg5)))
 have hD5 := hD.mono (Gh.le_trans hg4 hg5)
 have hR5 := hR.mono (Gh.le_trans hg4 hg5)
 have hS5 := hS.mono (Gh.le_trans hg4 hg5)
 have hr5 := hr.mono hg15
 have hB1 : PgB ⟨csZ l, prZ l⟩ := by rw [csZ_ok hz, prZ_ok hz]; exact pgb_link hL
 have hB2 : PgB ⟨csZ (turned l k), prZ (turned l k)⟩ := by rw [csZ_ok hzm, prZ_ok hzm]; exact pgb_link hLm
 have ht1 : ptR (ptZ l) x.path x.name = ((n : Int), 0) := by rw [ptZ_ok hz]; exact hp1
 have ht2 : ptR (ptZ (turned l k)) x.path x.name = ((n' : Int), 0) := by rw [ptZ_ok hzm]; exact hp2
 have hsame1 : runR ⟨csZ (turned l k), prZ (turned l k)⟩ n' ((f % 3000 : Nat) : Int) args = runR ⟨csZ l, prZ l⟩ n ((f % 3000 : Nat) : Int) args := by rw [csZ_ok hz, prZ_ok hz, csZ_ok hzm, prZ_ok hzm]; exact (hrun _ _).symm
 have htl2 := ptZ_len hLm
 obtain ⟨qb, qo, qcs, hQe, hqk, hqc⟩ := hQ5 tx x hx
 obtain rfl : qcs = [.string x.path, .string x.name, .int .i64 x.proc] := hqk
 subst hQe
 have y0 : (0 : Int) ≤ (tx : Int) := by omega
 have y1 : (tx : Int) < ((ptZ l).length : Int) := by omega
 refine go ?_
 refine WC.draw mixed ?_
 refine za.fa 0 ?_
 refine za.fa 2 ?_
 refine za.ld 3 ?_
 refine WA.pp 4 rfl (Gp.convTo (r := (xp : Int)) rfl (wrapI (by omega) (by omega))) ?_
 refine za.fa 5 ?_
 refine za.ld 6 ?_
 refine za.len 7 ?_
 refine WA.pp 8 rfl (Gp.remTo (r := ((tx : Nat) : Int)) rfl rfl (by omega) (by rw [htx, Int.tmod_eq_emod_of_nonneg (by omega)]; omega)) ?_
 refine za.ld 1 ?_
 refine za.ix 9 ?_
 refine WA.vv 10 rfl (Gv.loadGN rfl hqc rfl) ?_
 refine WA.oo 11 rfl (OW.alloc rfl fun b17 => ?_)
 refine za.st 12 ?_
 refine WA.done kr ?_
 refine WK.un ?_
 refine go ?_
 obtain ⟨oo, hoo⟩ : ∃ oo, oo = runR ⟨csZ l, prZ l⟩ n ((f % 3000 : Nat) : Int) args := ⟨_, rfl⟩
 refine WC.joinG (X := O20) (fun t => [(5, .pointer (some ⟨b5, 0, none⟩)), (15, .pointer (some ⟨b15, 0, none⟩)), (16, .int .i64 (linkE (turned l k ++ [oz]))), (17, .pointer (some ⟨b17, 0, none⟩)), (18, .pointer (some ⟨t.b1, 0, none⟩)), (19, .pointer (some ⟨t.b2, 0, none⟩))]) (fun t => t.G) (fun t => [.blk t.b1 (.cells (ocC oo t.OA t.oc) 65 (0, 0)), .blk t.b2 (.cells (ocC oo t.PA t.pc) 65 (0, 0)), .blk b17 (.cells #[.string x.path, .string x.name, .int .i64 x.proc] 54 (0, 0)), pgB b15 ZA ZP ZQ (csZ (turned l k ++ [oz])).length wc (prZ (turned l k ++ [oz])).length wpc (ptZ (turned l k ++ [oz])).length wqc, .blk b5 (.cells #[.int .u8 (xp : Int), .slice AA args.length ac, .int .u16 (f : Int)] 62 (0, 0))]) (fun t => G5.le t.G ∧ Rds t.G [] t.OA (vflat oo.out) ∧ Rds t.G [] t.PA (vflat oo.out)) ?_ fun t ht => ?_
 ·refine WC.drawB mixed ?_
  refine zb.ld 0 ?_
  refine zb.fa 1 ?_
  refine zb.ld 2 ?_
  refine zb.fa 3 ?_
  refine zb.ld 4 ?_
  refine zb.ld 5 ?_
  refine zb.ld 7 ?_
  refine zb.fa 8 ?_
  refine zb.ld 9 ?_
  refine zb.fa 10 ?_
  refine zb.ld 11 ?_
  refine zb.ld 12 ?_
  refine WB.three (i := 6) (j := 14) (k := 15) kr rfl rfl rfl kr kr kr (OW.callK rfl (runs_fn G5 (csZ l) (prZ l) (ptZ l) CA PA (some ⟨qb, qo, none⟩) cc pc qc hC5 hP5 hQ5 hB1 (by omega) x.path x.name n ht1 (xp : Int) f hf AA ac args hr5 hal) rfl fun v' G' H' h hg => ?_) (OW.alloc rfl fun b18 => ?_) (OW.alloc rfl fun b19 => ?_)
  ·rw [← hoo] at h
   obtain ⟨OA, oc, he, hg8, hrd1, rfl⟩ := h
   cases he
   obtain ⟨G8, rfl⟩ : ∃ G8, G8 = G' := ⟨_, rfl⟩
   refine ⟨fun w hw => (hw.pk pkA).le hg8, ?_⟩
   refine WB.three (i := 13) (j := 14) (k := 15) kr rfl rfl rfl kr kr kr (OW.callK rfl (runs_fn G8 (csZ (turned l k)) (prZ (turned l k)) (ptZ (turned l k)) DA RA SA dc rc sc (hD5.mono hg8) (hR5.mono hg8) (hS5.mono hg8) hB2 (by omega) x.path x.name n' ht2 (xp : Int) f hf AA ac args (hr5.mono hg8) hal) rfl fun v' G' H' h hg => ?_) (OW.alloc rfl fun b18 => ?_) (OW.alloc rfl fun b19 => ?_)
   ·rw [hsame1, ← hoo] at h
    obtain ⟨OB, ob, he, hg9, hrd2, rfl⟩ := h
    cases he
    obtain ⟨G9, rfl⟩ : ∃ G9, G9 = G' := ⟨_, rfl⟩
    have hg89 := Gh.le_trans hg8 hg9
    refine ⟨fun w hw => (hw.pk pkA).le hg89, ?_⟩
    refine WB.two (i := 14) (j := 15) kr rfl rfl kr kr (OW.alloc rfl fun b18 => ?_) (OW.alloc rfl fun b19 => ?_)
    ·refine ⟨fun w hw => (hw.pk pkA).le hg89, ?_⟩
     refine WB.oo 15 rfl (OW.alloc rfl fun b19 => ?_)
     refine ⟨fun w hw => (hw.pk pkA).le hg89, ?_⟩
     refine zb.st 16 ?_
     refine ⟨fun w hw => (hw.pk pkA).le hg89, ?_⟩
     refine zb.st 17 ?_
     refine ⟨fun w hw => (hw.pk pkA).le hg89, ?_⟩
     refine WB.done kr ?_
     refine WK.un ?_
     refine WK.pick [.blk b18 (.cells (ocC oo OA oc) 65 (0, 0)), .blk b19 (.cells (ocC oo OB ob) 65 (0, 0)), .blk b17 (.cells #[.string x.path, .string x.name, .int .i64 x.proc] 54 (0, 0)), pgB b15 ZA ZP ZQ (csZ (turned l k ++ [oz])).length wc (prZ (turned l k ++ [oz])).length wpc (ptZ (turned l k ++ [oz])).length wqc, .blk b5 (.cells #[.int .u8 (xp : Int), .slice AA args.length ac, .int .u16 (f : Int)] 62 (0, 0))] ?_
     exact WK.meet ⟨G9, b18, b19, OA, oc, OB, ob⟩ ⟨hg89, hrd1.le hg9, hrd2⟩ (by exact ⟨rfl, rfl, rfl, rfl, rfl, rfl, trivial⟩) rfl (List.Sublist.refl _)
    ·refine ⟨fun w hw => (hw.pk pkA).le hg89, ?_⟩
     refine WB.oo 14 rfl (OW.alloc rfl fun b18 => ?_)
     refine ⟨fun w hw => (hw.pk pkA).le hg89, ?_⟩
     refine zb.st 16 ?_
     refine ⟨fun w hw => (hw.pk pkA).le hg89, ?_⟩
     refine zb.st 17 ?_
     refine ⟨fun w hw => (hw.pk pkA).le hg89, ?_⟩
     refine WB.done kr ?_
     refine WK.un ?_
     refine WK.pick [.blk b18 (.cells (ocC oo OA oc) 65 (0, 0)), .blk b19 (.cells (ocC oo OB ob) 65 (0, 0)), .blk b17 (.cells #[.string x.path, .string x.name, .int .i64 x.proc] 54 (0, 0)), pgB b15 ZA ZP ZQ (csZ (turned l k ++ [oz])).length wc (prZ (turned l k ++ [oz])).length wpc (ptZ (turned l k ++ [oz])).length wqc, .blk b5 (.cells #[.int .u8 (xp : Int), .slice AA args.length ac, .int .u16 (f : Int)] 62 (0, 0))] ?_
     exact WK.meet ⟨G9, b18, b19, OA, oc, OB, ob⟩ ⟨hg89, hrd1.le hg9, hrd2⟩ (by exact ⟨rfl, rfl, rfl, rfl, rfl, rfl, trivial⟩) rfl (List.Sublist.refl _)
   ·refine ⟨fun w hw => (hw.pk pkA).le hg8, ?_⟩
    refine WB.two (i := 13) (j := 15) kr rfl rfl kr kr (OW.callK rfl (runs_fn G8 (csZ (turned l k)) (prZ (turned l k)) (ptZ (turned l k)) DA RA SA dc rc sc (hD5.mono hg8) (hR5.mono hg8) (hS5.mono hg8) hB2 (by omega) x.path x.name n' ht2 (xp : Int) f hf AA ac args (hr5.mono hg8) hal) rfl fun v' G' H' h hg => ?_) (OW.alloc rfl fun b19 => ?_)
    ·rw [hsame1, ← hoo] at h
     obtain ⟨OB, ob, he, hg9, hrd2, rfl⟩ := h
     cases he
     obtain ⟨G9, rfl⟩ : ∃ G9, G9 = G' := ⟨_, rfl⟩
     have hg89 := Gh.le_trans hg8 hg9
     refine ⟨fun w hw => (hw.pk pkA).le hg89, ?_⟩
     refine WB.oo 15 rfl (OW.alloc rfl fun b19 => ?_)
     refine ⟨fun w hw => (hw.pk pkA).le hg89, ?_⟩
     refine zb.st 16 ?_
     refine ⟨fun w hw => (hw.pk pkA).le hg89, ?_⟩
     refine zb.st 17 ?_
     refine ⟨fun w hw => (hw.pk pkA).le hg89, ?_⟩
     refine WB.done kr ?_
     refine WK.un ?_
     refine WK.pick [.blk b18 (.cells (ocC oo OA oc) 65 (0, 0)), .blk b19 (.cells (ocC oo OB ob) 65 (0, 0)), .blk b17 (.cells #[.string x.path, .string x.name, .int .i64 x.proc] 54 (0, 0)), pgB b15 ZA ZP ZQ (csZ (turned l k ++ [oz])).length wc (prZ (turned l k ++ [oz])).length wpc (ptZ (turned l k ++ [oz])).length wqc, .blk b5 (.cells #[.int .u8 (xp : Int), .slice AA args.length ac, .int .u16 (f : Int)] 62 (0, 0))] ?_
     exact WK.meet ⟨G9, b18, b19, OA, oc, OB, ob⟩ ⟨hg89, hrd1.le hg9, hrd2⟩ (by exact ⟨rfl, rfl, rfl, rfl, rfl, rfl, trivial⟩) rfl (List.Sublist.refl _)
    ·refine ⟨fun w hw => (hw.pk pkA).le hg8, ?_⟩
     refine WB.oo 13 rfl (OW.callK rfl (runs_fn G8 (csZ (turned l k)) (prZ (turned l k)) (ptZ (turned l k)) DA RA SA dc rc sc (hD5.mono hg8) (hR5.mono hg8) (hS5.mono hg8) hB2 (by omega) x.path x.name n' ht2 (xp : Int) f hf AA ac args (hr5.mono hg8) hal) rfl fun v' G' H' h hg => ?_)
     rw [hsame1, ← hoo] at h
     obtain ⟨OB, ob, he, hg9, hrd2, rfl⟩ := h
     cases he
     obtain ⟨G9, rfl⟩ : ∃ G9, G9 = G' := ⟨_, rfl⟩
     have hg89 := Gh.le_trans hg8 hg9
     refine ⟨fun w hw => (hw.pk pkA).le hg89, ?_⟩
     refine zb.st 16 ?_
     refine ⟨fun w hw => (hw.pk pkA).le hg89, ?_⟩
     refine zb.st 17 ?_
     refine ⟨fun w hw => (hw.pk pkA).le hg89, ?_⟩
     refine WB.done kr ?_
     refine WK.un ?_
     refine WK.pick [.blk b18 (.cells (ocC oo OA oc) 65 (0, 0)), .blk b19 (.cells (ocC oo OB ob) 65 (0, 0)), .blk b17 (.cells #[.string x.path, .string x.name, .int .i64 x.proc] 54 (0, 0)), pgB b15 ZA ZP ZQ (csZ (turned l k ++ [oz])).length wc (prZ (turned l k ++ [oz])).length wpc (ptZ (turned l k ++ [oz])).length wqc, .blk b5 (.cells #[.int .u8 (xp : Int), .slice AA args.length ac, .int .u16 (f : Int)] 62 (0, 0))] ?_
     exact WK.meet ⟨G9, b18, b19, OA, oc, OB, ob⟩ ⟨hg89, hrd1.le hg9, hrd2⟩ (by exact ⟨rfl, rfl, rfl, rfl, rfl, rfl, trivial⟩) rfl (List.Sublist.refl _)
   ·refine ⟨fun w hw => (hw.pk pkA).le hg8, ?_⟩
    refine WB.two (i := 13) (j := 14) kr rfl rfl kr kr (OW.callK rfl (runs_fn G8 (csZ (turned l k)) (prZ (turned l k)) (ptZ (turned l k)) DA RA SA dc rc sc (hD5.mono hg8) (hR5.mono hg8) (hS5.mono hg8) hB2 (by omega) x.path x.name n' ht2 (xp : Int) f hf AA ac args (hr5.mono hg8) hal) rfl fun v' G' H' h hg => ?_) (OW.alloc rfl fun b18 => ?_)
    ·rw [hsame1, ← hoo] at h
     obtain ⟨OB, ob, he, hg9, hrd2, rfl⟩ := h
     cases he
     obtain ⟨G9, rfl⟩ : ∃ G9, G9 = G' := ⟨_, rfl⟩
     have hg89 := Gh.le_trans hg8 hg9
     refine ⟨fun w hw => (hw.pk pkA).le hg89, ?_⟩
     refine WB.oo 14 rfl (OW.alloc rfl fun b18 => ?_)
     refine ⟨fun w hw => (hw.pk pkA).le hg89, ?_⟩
     refine zb.st 16 ?_
     refine ⟨fun w hw => (hw.pk pkA).le hg89, ?_⟩
     refine zb.st 17 ?_
     refine ⟨fun w hw => (hw.pk pkA).le hg89, ?_⟩
     refine WB.done kr ?_
     refine WK.un ?_
     refine WK.pick [.blk b18 (.cells (ocC oo OA oc) 65 (0, 0)), .blk b19 (.cells (ocC oo OB ob) 65 (0, 0)), .blk b17 (.cells #[.string x.path, .string x.name, .int .i64 x.proc] 54 (0, 0)), pgB b15 ZA ZP ZQ (csZ (turned l k ++ [oz])).length wc (prZ (turned l k ++ [oz])).length wpc (ptZ (turned l k ++ [oz])).length wqc, .blk b5 (.cells #[.int .u8 (xp : Int), .slice AA args.length ac, .int .u16 (f : Int)] 62 (0, 0))] ?_
     exact WK.meet ⟨G9, b18, b19, OA, oc, OB, ob⟩ ⟨hg89, hrd1.le hg9, hrd2⟩ (by exact ⟨rfl, rfl, rfl, rfl, rfl, rfl, trivial⟩) rfl (List.Sublist.refl _)
    ·refine ⟨fun w hw => (hw.pk pkA).le hg8, ?_⟩
     refine WB.oo 13 rfl (OW.callK rfl (runs_fn G8 (csZ (turned l k)) (prZ (turned l k)) (ptZ (turned l k)) DA RA SA dc rc sc (hD5.mono hg8) (hR5.mono hg8) (hS5.mono hg8) hB2 (by omega) x.path x.name n' ht2 (xp : Int) f hf AA ac args (hr5.mono hg8) hal) rfl fun v' G' H' h hg => ?_)
     rw [hsame1, ← hoo] at h
     obtain ⟨OB, ob, he, hg9, hrd2, rfl⟩ := h
     cases he
     obtain ⟨G9, rfl⟩ : ∃ G9, G9 = G' := ⟨_, rfl⟩
     have hg89 := Gh.le_trans hg8 hg9
     refine ⟨fun w hw => (hw.pk pkA).le hg89, ?_⟩
     refine zb.st 16 ?_
     refine ⟨fun w hw => (hw.pk pkA).le hg89, ?_⟩
     refine zb.st 17 ?_
     refine ⟨fun w hw => (hw.pk pkA).le hg89, ?_⟩
     refine WB.done kr ?_
     refine WK.un ?_
     refine WK.pick [.blk b18 (.cells (ocC oo OA oc) 65 (0, 0)), .blk b19 (.cells (ocC oo OB ob) 65 (0, 0)), .blk b17 (.cells #[.string x.path, .string x.name, .int .i64 x.proc] 54 (0, 0)), pgB b15 ZA ZP ZQ (csZ (turned l k ++ [oz])).length wc (prZ (turned l k ++ [oz])).length wpc (ptZ (turned l k ++ [oz])).length wqc, .blk b5 (.cells #[.int .u8 (xp : Int), .slice AA args.length ac, .int .u16 (f : Int)] 62 (0, 0))] ?_
     exact WK.meet ⟨G9, b18, b19, OA, oc, OB, ob⟩ ⟨hg89, hrd1.le hg9, hrd2⟩ (by exact ⟨rfl, rfl, rfl, rfl, rfl, rfl, trivial⟩) rfl (List.Sublist.refl _)
  ·refine ⟨fun w hw => (hw.pk pkA), ?_⟩
   refine WB.two (i := 6) (j := 15) kr rfl rfl kr kr (OW.callK rfl (runs_fn G5 (csZ l) (prZ l) (ptZ l) CA PA (some ⟨qb, qo, none⟩) cc pc qc hC5 hP5 hQ5 hB1 (by omega) x.path x.name n ht1 (xp : Int) f hf AA ac args hr5 hal) rfl fun v' G' H' h hg => ?_) (OW.alloc rfl fun b19 => ?_)
   ·rw [← hoo] at h
    obtain ⟨OA, oc, he, hg8, hrd1, rfl⟩ := h
    cases he
    obtain ⟨G8, rfl⟩ : ∃ G8, G8 = G' := ⟨_, rfl⟩
    refine ⟨fun w hw => (hw.pk pkA).le hg8, ?_⟩
    refine WB.two (i := 13) (j := 15) kr rfl rfl kr kr (OW.callK rfl (runs_fn G8 (csZ (turned l k)) (prZ (turned l k)) (ptZ (turned l k)) DA RA SA dc rc sc (hD5.mono hg8) (hR5.mono hg8) (hS5.mono hg8) hB2 (by omega) x.path x.name n' ht2 (xp : Int) f hf AA ac args (hr5.mono hg8) hal) rfl fun v' G' H' h hg => ?_) (OW.alloc rfl fun b19 => ?_)
    ·rw [hsame1, ← hoo] at h
     obtain ⟨OB, ob, he, hg9, hrd2, rfl⟩ := h
     cases he
     obtain ⟨G9, rfl⟩ : ∃ G9, G9 = G' := ⟨_, rfl⟩
     have hg89 := Gh.le_trans hg8 hg9
     refine ⟨fun w hw => (hw.pk pkA).le hg89, ?_⟩
     refine WB.oo 15 rfl (OW.alloc rfl fun b19 => ?_)
     refine ⟨fun w hw => (hw.pk pkA).le hg89, ?_⟩
     refine zb.st 16 ?_
     refine ⟨fun w hw => (hw.pk pkA).le hg89, ?_⟩
     refine zb.st 17 ?_
     refine ⟨fun w hw => (hw.pk pkA).le hg89, ?_⟩
     refine WB.done kr ?_
     refine WK.un ?_
     refine WK.pick [.blk b18 (.cells (ocC oo OA oc) 65 (0, 0)), .blk b19 (.cells (ocC oo OB ob) 65 (0, 0)), .blk b17 (.cells #[.string x.path, .string x.name, .int .i64 x.proc] 54 (0, 0)), pgB b15 ZA ZP ZQ (csZ (turned l k ++ [oz])).length wc (prZ (turned l k ++ [oz])).length wpc (ptZ (turned l k ++ [oz])).length wqc, .blk b5 (.cells #[.int .u8 (xp : Int), .slice AA args.length ac, .int .u16 (f : Int)] 62 (0, 0))] ?_
     exact WK.meet ⟨G9, b18, b19, OA, oc, OB, ob⟩ ⟨hg89, hrd1.le hg9, hrd2⟩ (by exact ⟨rfl, rfl, rfl, rfl, rfl, rfl, trivial⟩) rfl (List.Sublist.refl _)
    ·refine ⟨fun w hw => (hw.pk pkA).le hg8, ?_⟩
     refine WB.oo 13 rfl (OW.callK rfl (runs_fn G8 (csZ (turned l k)) (prZ (turned l k)) (ptZ (turned l k)) DA RA SA dc rc sc (hD5.mono hg8) (hR5.mono hg8) (hS5.mono hg8) hB2 (by omega) x.path x.name n' ht2 (xp : Int) f hf AA ac args (hr5.mono hg8) hal) rfl fun v' G' H' h hg => ?_)
     rw [hsame1, ← hoo] at h
     obtain ⟨OB, ob, he, hg9, hrd2, rfl⟩ := h
     cases he
     obtain ⟨G9, rfl⟩ : ∃ G9, G9 = G' := ⟨_, rfl⟩
     have hg89 := Gh.le_trans hg8 hg9
     refine ⟨fun w hw => (hw.pk pkA).le hg89, ?_⟩
     refine zb.st 16 ?_
     refine ⟨fun w hw => (hw.pk pkA).le hg89, ?_⟩
     refine zb.st 17 ?_
     refine ⟨fun w hw => (hw.pk pkA).le hg89, ?_⟩
     refine WB.done kr ?_
     refine WK.un ?_
     refine WK.pick [.blk b18 (.cells (ocC oo OA oc) 65 (0, 0)), .blk b19 (.cells (ocC oo OB ob) 65 (0, 0)), .blk b17 (.cells #[.string x.path, .string x.name, .int .i64 x.proc] 54 (0, 0)), pgB b15 ZA ZP ZQ (csZ (turned l k ++ [oz])).length wc (prZ (turned l k ++ [oz])).length wpc (ptZ (turned l k ++ [oz])).length wqc, .blk b5 (.cells #[.int .u8 (xp : Int), .slice AA args.length ac, .int .u16 (f : Int)] 62 (0, 0))] ?_
     exact WK.meet ⟨G9, b18, b19, OA, oc, OB, ob⟩ ⟨hg89, hrd1.le hg9, hrd2⟩ (by exact ⟨rfl, rfl, rfl, rfl, rfl, rfl, trivial⟩) rfl (List.Sublist.refl _)
   ·refine ⟨fun w hw => (hw.pk pkA), ?_⟩
    refine WB.oo 6 rfl (OW.callK rfl (runs_fn G5 (csZ l) (prZ l) (ptZ l) CA PA (some ⟨qb, qo, none⟩) cc pc qc hC5 hP5 hQ5 hB1 (by omega) x.path x.name n ht1 (xp : Int) f hf AA ac args hr5 hal) rfl fun v' G' H' h hg => ?_)
    rw [← hoo] at h
    obtain ⟨OA, oc, he, hg8, hrd1, rfl⟩ := h
    cases he
    obtain ⟨G8, rfl⟩ : ∃ G8, G8 = G' := ⟨_, rfl⟩
    refine ⟨fun w hw => (hw.pk pkA).le hg8, ?_⟩
    refine WB.oo 13 rfl (OW.callK rfl (runs_fn G8 (csZ (turned l k)) (prZ (turned l k)) (ptZ (turned l k)) DA RA SA dc rc sc (hD5.mono hg8) (hR5.mono hg8) (hS5.mono hg8) hB2 (by omega) x.path x.name n' ht2 (xp : Int) f hf AA ac args (hr5.mono hg8) hal) rfl fun v' G' H' h hg => ?_)
    rw [hsame1, ← hoo] at h
    obtain ⟨OB, ob, he, hg9, hrd2, rfl⟩ := h
    cases he
    obtain ⟨G9, rfl⟩ : ∃ G9, G9 = G' := ⟨_, rfl⟩
    have hg89 := Gh.le_trans hg8 hg9
    refine ⟨fun w hw => (hw.pk pkA).le hg89, ?_⟩
    refine zb.st 16 ?_
    refine ⟨fun w hw => (hw.pk pkA).le hg89, ?_⟩
    refine zb.st 17 ?_
    refine ⟨fun w hw => (hw.pk pkA).le hg89, ?_⟩
    refine WB.done kr ?_
    refine WK.un ?_
    refine WK.pick [.blk b18 (.cells (ocC oo OA oc) 65 (0, 0)), .blk b19 (.cells (ocC oo OB ob) 65 (0, 0)), .blk b17 (.cells #[.string x.path, .string x.name, .int .i64 x.proc] 54 (0, 0)), pgB b15 ZA ZP ZQ (csZ (turned l k ++ [oz])).length wc (prZ (turned l k ++ [oz])).length wpc (ptZ (turned l k ++ [oz])).length wqc, .blk b5 (.cells #[.int .u8 (xp : Int), .slice AA args.length ac, .int .u16 (f : Int)] 62 (0, 0))] ?_
    exact WK.meet ⟨G9, b18, b19, OA, oc, OB, ob⟩ ⟨hg89, hrd1.le hg9, hrd2⟩ (by exact ⟨rfl, rfl, rfl, rfl, rfl, rfl, trivial⟩) rfl (List.Sublist.refl _)
  ·refine ⟨fun w hw => (hw.pk pkA), ?_⟩
   refine WB.two (i := 6) (j := 14) kr rfl rfl kr kr (OW.callK rfl (runs_fn G5 (csZ l) (prZ l) (ptZ l) CA PA (some ⟨qb, qo, none⟩) cc pc qc hC5 hP5 hQ5 hB1 (by omega) x.path x.name n ht1 (xp : Int) f hf AA ac args hr5 hal) rfl fun v' G' H' h hg => ?_) (OW.alloc rfl fun b18 => ?_)
   ·rw [← hoo] at h
    obtain ⟨OA, oc, he, hg8, hrd1, rfl⟩ := h
    cases he
    obtain ⟨G8, rfl⟩ : ∃ G8, G8 = G' := ⟨_, rfl⟩
    refine ⟨fun w hw => (hw.pk pkA).le hg8, ?_⟩
    refine WB.two (i := 13) (j := 14) kr rfl rfl kr kr (OW.callK rfl (runs_fn G8 (csZ (turned l k)) (prZ (turned l k)) (ptZ (turned l k)) DA RA SA dc rc sc (hD5.mono hg8) (hR5.mono hg8) (hS5.mono hg8) hB2 (by omega) x.path x.name n' ht2 (xp : Int) f hf AA ac args (hr5.mono hg8) hal) rfl fun v' G' H' h hg => ?_) (OW.alloc rfl fun b18 => ?_)
    ·rw [hsame1, ← hoo] at h
     obtain ⟨OB, ob, he, hg9, hrd2, rfl⟩ := h
     cases he
     obtain ⟨G9, rfl⟩ : ∃ G9, G9 = G' := ⟨_, rfl⟩
     have hg89 := Gh.le_trans hg8 hg9
     refine ⟨fun w hw => (hw.pk pkA).le hg89, ?_⟩
     refine WB.oo 14 rfl (OW.alloc rfl fun b18 => ?_)
     refine ⟨fun w hw => (hw.pk pkA).le hg89, ?_⟩
     refine zb.st 16 ?_
     refine ⟨fun w hw => (hw.pk pkA).le hg89, ?_⟩
     refine zb.st 17 ?_
     refine ⟨fun w hw => (hw.pk pkA).le hg89, ?_⟩
     refine WB.done kr ?_
     refine WK.un ?_
     refine WK.pick [.blk b18 (.cells (ocC oo OA oc) 65 (0, 0)), .blk b19 (.cells (ocC oo OB ob) 65 (0, 0)), .blk b17 (.cells #[.string x.path, .string x.name, .int .i64 x.proc] 54 (0, 0)), pgB b15 ZA ZP ZQ (csZ (turned l k ++ [oz])).length wc (prZ (turned l k ++ [oz])).length wpc (ptZ (turned l k ++ [oz])).length wqc, .blk b5 (.cells #[.int .u8 (xp : Int), .slice AA args.length ac, .int .u16 (f : Int)] 62 (0, 0))] ?_
     exact WK.meet ⟨G9, b18, b19, OA, oc, OB, ob⟩ ⟨hg89, hrd1.le hg9, hrd2⟩ (by exact ⟨rfl, rfl, rfl, rfl, rfl, rfl, trivial⟩) rfl (List.Sublist.refl _)
    ·refine ⟨fun w hw => (hw.pk pkA).le hg8, ?_⟩
     refine WB.oo 13 rfl (OW.callK rfl (runs_fn G8 (csZ (turned l k)) (prZ (turned l k)) (ptZ (turned l k)) DA RA SA dc rc sc (hD5.mono hg8) (hR5.mono hg8) (hS5.mono hg8) hB2 (by omega) x.path x.name n' ht2 (xp : Int) f hf AA ac args (hr5.mono hg8) hal) rfl fun v' G' H' h hg => ?_)
     rw [hsame1, ← hoo] at h
     obtain ⟨OB, ob, he, hg9, hrd2, rfl⟩ := h
     cases he
     obtain ⟨G9, rfl⟩ : ∃ G9, G9 = G' := ⟨_, rfl⟩
     have hg89 := Gh.le_trans hg8 hg9
     refine ⟨fun w hw => (hw.pk pkA).le hg89, ?_⟩
     refine zb.st 16 ?_
     refine ⟨fun w hw => (hw.pk pkA).le hg89, ?_⟩
     refine zb.st 17 ?_
     refine ⟨fun w hw => (hw.pk pkA).le hg89, ?_⟩
     refine WB.done kr ?_
     refine WK.un ?_
     refine WK.pick [.blk b18 (.cells (ocC oo OA oc) 65 (0, 0)), .blk b19 (.cells (ocC oo OB ob) 65 (0, 0)), .blk b17 (.cells #[.string x.path, .string x.name, .int .i64 x.proc] 54 (0, 0)), pgB b15 ZA ZP ZQ (csZ (turned l k ++ [oz])).length wc (prZ (turned l k ++ [oz])).length wpc (ptZ (turned l k ++ [oz])).length wqc, .blk b5 (.cells #[.int .u8 (xp : Int), .slice AA args.length ac, .int .u16 (f : Int)] 62 (0, 0))] ?_
     exact WK.meet ⟨G9, b18, b19, OA, oc, OB, ob⟩ ⟨hg89, hrd1.le hg9, hrd2⟩ (by exact ⟨rfl, rfl, rfl, rfl, rfl, rfl, trivial⟩) rfl (List.Sublist.refl _)
   ·refine ⟨fun w hw => (hw.pk pkA), ?_⟩
    refine WB.oo 6 rfl (OW.callK rfl (runs_fn G5 (csZ l) (prZ l) (ptZ l) CA PA (some ⟨qb, qo, none⟩) cc pc qc hC5 hP5 hQ5 hB1 (by omega) x.path x.name n ht1 (xp : Int) f hf AA ac args hr5 hal) rfl fun v' G' H' h hg => ?_)
    rw [← hoo] at h
    obtain ⟨OA, oc, he, hg8, hrd1, rfl⟩ := h
    cases he
    obtain ⟨G8, rfl⟩ : ∃ G8, G8 = G' := ⟨_, rfl⟩
    refine ⟨fun w hw => (hw.pk pkA).le hg8, ?_⟩
    refine WB.oo 13 rfl (OW.callK rfl (runs_fn G8 (csZ (turned l k)) (prZ (turned l k)) (ptZ (turned l k)) DA RA SA dc rc sc (hD5.mono hg8) (hR5.mono hg8) (hS5.mono hg8) hB2 (by omega) x.path x.name n' ht2 (xp : Int) f hf AA ac args (hr5.mono hg8) hal) rfl fun v' G' H' h hg => ?_)
    rw [hsame1, ← hoo] at h
    obtain ⟨OB, ob, he, hg9, hrd2, rfl⟩ := h
    cases he
    obtain ⟨G9, rfl⟩ : ∃ G9, G9 = G' := ⟨_, rfl⟩
    have hg89 := Gh.le_trans hg8 hg9
    refine ⟨fun w hw => (hw.pk pkA).le hg89, ?_⟩
    refine zb.st 16 ?_
    refine ⟨fun w hw => (hw.pk pkA).le hg89, ?_⟩
    refine zb.st 17 ?_
    refine ⟨fun w hw => (hw.pk pkA).le hg89, ?_⟩
    refine WB.done kr ?_
    refine WK.un ?_
    refine WK.pick [.blk b18 (.cells (ocC oo OA oc) 65 (0, 0)), .blk b19 (.cells (ocC oo OB ob) 65 (0, 0)), .blk b17 (.cells #[.string x.path, .string x.name, .int .i64 x.proc] 54 (0, 0)), pgB b15 ZA ZP ZQ (csZ (turned l k ++ [oz])).length wc (prZ (turned l k ++ [oz])).length wpc (ptZ (turned l k ++ [oz])).length wqc, .blk b5 (.cells #[.int .u8 (xp : Int), .slice AA args.length ac, .int .u16 (f : Int)] 62 (0, 0))] ?_
    exact WK.meet ⟨G9, b18, b19, OA, oc, OB, ob⟩ ⟨hg89, hrd1.le hg9, hrd2⟩ (by exact ⟨rfl, rfl, rfl, rfl, rfl, rfl, trivial⟩) rfl (List.Sublist.refl _)
 obtain ⟨G9, b18, b19, OA, oc, OB, ob⟩ := t
 obtain ⟨hg9, hrd1, hrd2⟩ := ht
 dsimp only at hg9 hrd1 hrd2
 dsimp only
 have hg19 := Gh.le_trans hg15 hg9
 have hol : oo.out.length ≤ 1000000000000 := by rw [hoo]; have := runR_outR (pg := ⟨csZ l, prZ l⟩) (n := n) (fuel := ((f % 3000 : Nat) : Int)) (args := args); omega
 have hos : 0 ≤ oo.steps := by rw [hoo]; exact runR_steps
 have hst : decide (oo.steps < 0) = false := decide_eq_false (by omega)
 refine gom ?_
 refine WL.oo (OW.callK rfl (same_fnQ G9 [] OA OB oc ob oo oo hrd1 hrd2 hol) rfl fun v' G' H' h hg => ?_)
 obtain ⟨he, rfl, rfl⟩ := h
 rw [sameO_refl] at he
 cases he
 refine gom ?_
 have hlw := linkE_good gw
 by_cases hzw : linkE (turned l k ++ [oz]) = 0
 rotate_left
 ·have h53 : linkE (turned l k ++ [oz]) = 53 := by
   rw [hlw] at hzw ⊢
   split
   ·rfl
   ·rename_i hne; rw [if_neg hne] at hzw; exact absurd rfl hzw
  rw [h53]
  refine gom ?_
  refine WL.oo (OW.callK rfl (awakeL _ (hE.mono hg19)) rfl fun v' G' H' h hg => ?_)
  obtain ⟨he, hgz, rfl⟩ := h
  cases he
  refine gom ?_
  refine WC.rt ?_
  exact QF.p1 (.inl rfl) rfl (.tmp rfl) (⟨rfl, Gh.le_trans hg19 hgz, rfl⟩)
 rw [hzw]
 have ht3 : ptR (ptZ (turned l k ++ [oz])) x.path x.name = ((n'' : Int), 0) := by rw [ptZ_ok hzw]; exact hp4
 have hB3 : PgB ⟨csZ (turned l k ++ [oz]), prZ (turned l k ++ [oz])⟩ := by rw [csZ_ok hzw, prZ_ok hzw]; exact pgb_link hLw
 have hsame2 : runR ⟨csZ (turned l k ++ [oz]), prZ (turned l k ++ [oz])⟩ n'' ((f % 3000 : Nat) : Int) args = runR ⟨csZ l, prZ l⟩ n ((f % 3000 : Nat) : Int) args := by rw [csZ_ok hz, prZ_ok hz, csZ_ok hzw, prZ_ok hzw]; exact (hrun2 _ _).symm
 have htl3 := ptZ_len hLw
 refine go ?_
 refine WC.drawB mixed ?_
 refine zb.ld 0 ?_
 refine zb.ld 1 ?_
 refine zb.fa 2 ?_
 refine zb.ld 3 ?_
 refine zb.fa 4 ?_
 refine zb.ld 5 ?_
 refine zb.ld 6 ?_
 refine WB.oo 7 rfl (OW.callK rfl (runs_fn G9 (csZ (turned l k ++ [oz])) (prZ (turned l k ++ [oz])) (ptZ (turned l k ++ [oz])) ZA ZP ZQ wc wpc wqc (hW1.mono hg9) (hW2.mono hg9) (hW3.mono hg9) hB3 (by omega) x.path x.name n'' ht3 (xp : Int) f hf AA ac args (hr5.mono hg9) hal) rfl fun v' G' H' h hg => ?_)
 rw [hsame2, ← hoo] at h
 obtain ⟨OD, od, he, hg10, hrd3, rfl⟩ := h
 cases he
 obtain ⟨G10, rfl⟩ : ∃ G10, G10 = G' := ⟨_, rfl⟩
 refine ⟨fun w hw => (hw.pk pkA).le hg10, ?_⟩
 refine WB.oo 8 rfl (OW.callK rfl (same_fnQ G10 [] OA OD oc od oo oo (hrd1.le hg10) hrd3 hol) rfl fun v' G' H' h hg => ?_)
 obtain ⟨he, rfl, rfl⟩ := h
 rw [sameO_refl] at he
 cases he
 refine ⟨fun w hw => (hw.pk pkA).le hg10, ?_⟩
 refine zb.move 9 ?_
 have hg110 := Gh.le_trans hg19 hg10
 refine WB.oo 10 rfl (OW.callK rfl (awakeL G10 (hE.mono hg110)) rfl fun v' G' H' h hg => ?_)
 obtain ⟨he, hg11, rfl⟩ := h
 cases he
 refine ⟨fun w hw => (hw.pk pkA).le (Gh.le_trans hg10 hg11), ?_⟩
 refine zb.pick 11 ?_
 refine zb.assign 12 ?_
 refine WB.done kr ?_
 refine WK.un ?_
 refine WC.rt ?_
 exact QF.p1 (.inl rfl) rfl (.tmp rfl) (⟨rfl, Gh.le_trans hg110 hg11, rfl⟩)
end
section
open Go.RowKit Go.ChangeShapes Go.WideShapes Go.MapKept
theorem elist3 {α : Type} {l : List α} (h : l.length = 3) : ∃ a b c, l = [a, b, c] := match l, h with | [a, b, c], _ => ⟨a, b, c, rfl⟩
theorem ecellsEn : Tryz.prog.cellsOf 62 = 3 := by kernel_rfl
theorem ecells_u8 : Tryz.prog.cellsOf 5 = 1 := by kernel_rfl
theorem ecells_u16 : Tryz.prog.cellsOf 60 = 1 := by kernel_rfl
theorem wf_nat8 {z : Int} (h : (Lit.int .u8 z).wf = true) : ∃ n : Nat, z = (n : Int) ∧ n < 256 := by
 simp [Lit.wf, IntKind.min, IntKind.max, IntKind.signed, IntKind.bits] at h
 exact ⟨z.toNat, by omega, by omega⟩
theorem wf_nat16 {z : Int} (h : (Lit.int .u16 z).wf = true) : ∃ n : Nat, z = (n : Int) ∧ n < 65536 := by
 simp [Lit.wf, IntKind.min, IntKind.max, IntKind.signed, IntKind.bits] at h
 exact ⟨z.toNat, by omega, by omega⟩
section
attribute [local irreducible] Tryz.prog
variable {H : Type} (enc : TypeId × Value → H) (w : World)
theorem open_objsM {v : Value} {d : DataW H} {ps : List MemPlace} {base : Nat} (hval : Value.okWide Tryz.prog w .any base 22 v) (hd : DataW.Trod enc Tryz.prog w 0 (fun _ => true) true 22 v d ps) (hw : Rows.uptoBulk d ≤ 1048576) :
  ∃ (l : List Ob) (A : Option Addr) (c : Nat), v = .slice A l.length c ∧ l.length ≤ c ∧ Sl Kd.ob (Gw w) A l ∧ (l.map mOb).sum ≤ 1048576 := by
 obtain ⟨A, c, l, h1, h2, h3, h4, h5⟩ := open_sliceW enc Tryz.prog w Tryz.underlying22 (k := Kd.ob) ecellsO (by decide) (OpensW.object enc w) hval hd hw
 exact ⟨l, A, c, h1, h2, h3, h4⟩
theorem open_entryU {v : Value} {d : DataW H} {ps : List MemPlace} {base : Nat} (hval : Value.okWide Tryz.prog w .any base 62 v) (hd : DataW.Trod enc Tryz.prog w 0 (fun _ => true) true 62 v d ps) (hw : Rows.uptoBulk d ≤ 1048576) :
  ∃ (xp f : Nat) (args : List V) (AA : Option Addr) (ac : Nat), v = .agg #[.int .u8 (xp : Int), .slice AA args.length ac, .int .u16 (f : Int)] ∧ xp < 256 ∧ f < 65536 ∧ Sl Kd.val (Gw w) AA args ∧ args.length ≤ 1048576 := by
 obtain ⟨cells, rfl, _⟩ := okWide_struct Tryz.underlying62 hval
 obtain ⟨fuel, hd⟩ := hd
 obtain ⟨hl, ds, hds, hb, hf⟩ := field_openW enc Tryz.prog w Tryz.underlying62 hd hw
 have hcl : (Value.agg cells).cells.toList = cells.toList := rfl
 rw [hcl] at hl hf
 obtain ⟨c0, c1, c2, hcs⟩ := elist3 (hl.trans ecellsEn)
 rw [hcs] at hf
 obtain ⟨d0, d1, d2, rfl⟩ := elist3 hds
 obtain ⟨z, h0, _, b0⟩ := hf 0 _ rfl rfl rfl ecells_u8 (OpensW.int enc Tryz.prog w Tryz.underlying5)
 obtain ⟨co, h1, m1, bc⟩ := hf 1 _ rfl rfl rfl ecells_lv (OpensW.slice enc Tryz.prog w Tryz.underlying23 (k := Kd.val) ecellsV (by decide) (OpensW.value enc w))
 obtain ⟨y, h2, _, b2⟩ := hf 2 _ rfl rfl rfl ecells_u16 (OpensW.int enc Tryz.prog w Tryz.underlying60)
 have m1 := m1 _ rfl
 have a1 := sum_len (m := mV) co fun x _ => by unfold mV; omega
 simp only [Rows.uptoBulkAll] at hb
 obtain ⟨CA, cc, h1', _, hCA⟩ := h1
 obtain ⟨xp, rfl, hxp⟩ := wf_nat8 b0
 obtain ⟨f, rfl, hf'⟩ := wf_nat16 b2
 have e0 : [c0] = [Value.int .u8 (xp : Int)] := h0
 have e1 : [c1] = [Value.slice CA co.length cc] := h1'
 have e2 : [c2] = [Value.int .u16 (f : Int)] := h2
 cases e0; cases e1; cases e2
 refine ⟨xp, f, co, CA, cc, ?_, hxp, hf', hCA, by omega⟩
 congr 1
 cases cells
 simp at hcs
 rw [hcs]
end
end
end Go.Proofs.YtcnlkfocbbkdhaaGreatDoor.Gb
