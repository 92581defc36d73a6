/- The document's look at one instruction; what it takes and lays: walked. What the document knows behind an instruction: walked. -/
import Derived.Test.YtkmigdmdppkpoaaGreatDoorWg
set_option linter.unusedVariables false
set_option linter.unusedSimpArgs false
set_option linter.unusedSectionVars false
namespace Go.Proofs.YtkmigdmdppkpoaaGreatDoor.Gb
open Go Go.Proofs Go.MapKept
set_option linter.unusedVariables false
set_option linter.unusedSimpArgs false
set_option linter.unusedSectionVars false
attribute [local irreducible] Tryz.prog
/-- what instructions can name, by value -/
structure RWp (G : Gh) (w : Wd) (CA NA PA : Option Addr) : Prop where
  consts : Sl Kd.val G CA w.consts
  needs : Sl Kd.ned G NA w.needs
  procs : Sl Kd.prc G PA w.procs
  cl : w.consts.length ≤ 100000000000000
  nl : w.needs.length ≤ 100000000000000
  pl : w.procs.length ≤ 100000000000000
  np : ∀ q ∈ w.needs, q.params.length ≤ 100000000000000
  pp : ∀ q ∈ w.procs, q.params.length ≤ 100000000000000
theorem RWp.mono {G G' : Gh} {w : Wd} {CA NA PA : Option Addr} (h : RWp G w CA NA PA) (hg : G.le G') : RWp G' w CA NA PA :=
  ⟨h.consts.mono hg, h.needs.mono hg, h.procs.mono hg, h.cl, h.nl, h.pl, h.np, h.pp⟩
abbrev wdC (w : Wd) (CA NA PA : Option Addr) (cc nc pc : Nat) : Array Value := #[.slice CA w.consts.length cc, .slice NA w.needs.length nc, .slice PA w.procs.length pc]
theorem RWp.takes {G : Gh} {w : Wd} {CA NA PA : Option Addr} {cc nc pc : Nat} (h : RWp G w CA NA PA) (vars : List Int) (i : Int × Int) : (effC w vars i).1 ≤ 100000000000000 := by
  unfold effC
  have h2 := rowC_takes i.1
  split
  · simp
  split
  · simp
  split
  · cases hq : w.procs[i.2.toNat]? with
    | none => simp
    | some p => exact h.pp p (List.mem_of_getElem? hq)
  split
  · cases hq : w.needs[i.2.toNat]? with
    | none => simp
    | some p => exact h.np p (List.mem_of_getElem? hq)
  split
  · simp
  split
  · simp
  split
  · simp
  split <;> simp <;> omega

def limR (w : Wd) (p : Pr) (c : Int) : Int := if c = 1 then (w.consts.length : Int) else if c = 2 ∨ c = 3 then p.locals else if c = 7 then (w.procs.length : Int) else if c = 8 then (w.needs.length : Int) else (p.code.length : Int)
def itsR (w : Wd) (p : Pr) (c n : Int) : Int := if mayR c n = false then 180 else if (rowC c).n = true ∧ limR w p c ≤ n then (if c = 5 ∨ c = 6 then 182 else 180) else 0
theorem itsR_eq {w : Wd} {p : Pr} (h : p.code.length ≤ 16384) (c n : Int) : itsR w p c n = aloneR w p (c, n) := by
  unfold itsR aloneR limR
  cases hm : mayR c n with
  | false => rfl
  | true =>
    have hm' : ¬ (true = false) := by simp
    rw [if_neg hm', if_neg hm']
    have hmm := hm
    unfold mayR at hmm
    simp only [Bool.and_eq_true, Bool.or_eq_true, decide_eq_true_eq] at hmm
    obtain ⟨_, h0, h1, h2⟩ := hmm
    dsimp only
    rw [← numbR_row] at h2 ⊢
    by_cases c1 : c = 1
    · subst c1; simp [numbR]
    by_cases c2 : c = 2
    · subst c2; simp [numbR]
    by_cases c3 : c = 3
    · subst c3; simp [numbR]
    by_cases c7 : c = 7
    · subst c7; simp [numbR]
    by_cases c8 : c = 8
    · subst c8; simp [numbR]
    by_cases c5 : c = 5
    · subst c5
      by_cases hn : (p.code.length : Int) ≤ n
      · simp [numbR, hn]
      · simp [numbR, hn]; omega
    by_cases c6 : c = 6
    · subst c6
      by_cases hn : (p.code.length : Int) ≤ n
      · simp [numbR, hn]
      · simp [numbR, hn]; omega
    have hn : numbR c = false := by unfold numbR; simp [c1, c2, c3, c5, c6, c7, c8]
    rw [hn] at h2 ⊢
    have hn0 : n = 0 := by simpa using h2
    subst hn0
    simp [c1, c2, c3, c5, c6, c7, c8]
set_option maxHeartbeats 2000000 in
theorem ritself_fn (G : Gh) (w : Wd) (p : Pr) (CA NA PA : Option Addr) (cc nc pc : Nat) (QA IA : Option Addr) (qc ic : Nat) (c n : Int) :
    Fn Tryz.prog 125 #[.agg (wdC w CA NA PA cc nc pc), .agg (prC p QA qc IA ic), .agg #[.int .i64 c, .int .i64 n]] G [] fun e G' H' => e = .returned (.int .i64 (itsR w p c n)) ∧ G = G' ∧ H' = [] := by
  refine Fn.enter Tryz.func125 rfl rfl fun w0 => ?_
  refine WC.seq ?_
  refine WC.region ?_
  refine WL.op (by kernel_rfl) (OW.box rfl rfl fun b1 => ?_)
  refine WL.op (by kernel_rfl) (OW.box rfl rfl fun b2 => ?_)
  refine WL.op (by kernel_rfl) (OW.box rfl rfl fun b3 => ?_)
  refine gom ?_
  refine WL.op (by kernel_rfl) (OW.callK rfl (lone_fn G c n) rfl fun v' G' H' h hg => ?_)
  obtain ⟨he, rfl, rfl⟩ := h
  cases he
  cases hm : mayR c n with
  | false =>
    have he : itsR w p c n = 180 := by unfold itsR; rw [if_pos hm]
    rw [he]
    refine gom ?_
    refine WC.ret ?_
    refine WK.un ?_
    exact QF.p1 (.inl rfl) rfl (.tmp rfl) (⟨rfl, rfl, rfl⟩)
  | true =>
  have hm' : ¬ (mayR c n = false) := by rw [hm]; simp
  refine WL.pick [.blk b1 (.cells (wdC w CA NA PA cc nc pc) 143 (0, 0)), .blk b2 (.cells (prC p QA qc IA ic) 45 (0, 0)), .blk b3 (.cells #[.int .i64 c, .int .i64 n] 50 (0, 0))] ?_
  by_cases c1 : c = 1
  · subst c1
    have hr : (rowC 1).n = true := rfl
    by_cases hq : (w.consts.length : Int) ≤ n
    · have z2 : decide ((w.consts.length : Int) ≤ n) = true := decide_eq_true hq
      have he : itsR w p 1 n = 180 := by unfold itsR limR; rw [if_neg hm', if_pos ⟨hr, by simpa using hq⟩]; rfl
      rw [he]
      refine gom ?_
      refine WL.op (by kernel_rfl) (OW.callK rfl (numb_fn G [] 1) rfl fun v' G' H' h hg => ?_)
      obtain ⟨he2, rfl, rfl⟩ := h
      cases he2
      rw [hr]
      refine gom ?_
      refine WC.ret ?_
      refine WK.un ?_
      exact QF.p1 (.inl rfl) rfl (.tmp rfl) (⟨rfl, rfl, rfl⟩)
    · have z2 : decide ((w.consts.length : Int) ≤ n) = false := decide_eq_false hq
      have he : itsR w p 1 n = 0 := by unfold itsR limR; rw [if_neg hm', if_neg (fun h => hq (by simpa using h.2))]
      rw [he]
      refine gom ?_
      refine WL.op (by kernel_rfl) (OW.callK rfl (numb_fn G [] 1) rfl fun v' G' H' h hg => ?_)
      obtain ⟨he2, rfl, rfl⟩ := h
      cases he2
      rw [hr]
      refine gom ?_
      refine WC.ret ?_
      refine WK.un ?_
      exact QF.p1 (.inl rfl) rfl (.tmp rfl) (⟨rfl, rfl, rfl⟩)
  have y1 : (c == 1) = false := by simpa using c1
  by_cases c2 : c = 2
  · subst c2
    have hr : (rowC 2).n = true := rfl
    by_cases hq : p.locals ≤ n
    · have z2 : decide (p.locals ≤ n) = true := decide_eq_true hq
      have he : itsR w p 2 n = 180 := by unfold itsR limR; rw [if_neg hm', if_pos ⟨hr, by simpa using hq⟩]; rfl
      rw [he]
      refine gom ?_
      refine WL.op (by kernel_rfl) (OW.callK rfl (numb_fn G [] 2) rfl fun v' G' H' h hg => ?_)
      obtain ⟨he2, rfl, rfl⟩ := h
      cases he2
      rw [hr]
      refine gom ?_
      refine WC.ret ?_
      refine WK.un ?_
      exact QF.p1 (.inl rfl) rfl (.tmp rfl) (⟨rfl, rfl, rfl⟩)
    · have z2 : decide (p.locals ≤ n) = false := decide_eq_false hq
      have he : itsR w p 2 n = 0 := by unfold itsR limR; rw [if_neg hm', if_neg (fun h => hq (by simpa using h.2))]
      rw [he]
      refine gom ?_
      refine WL.op (by kernel_rfl) (OW.callK rfl (numb_fn G [] 2) rfl fun v' G' H' h hg => ?_)
      obtain ⟨he2, rfl, rfl⟩ := h
      cases he2
      rw [hr]
      refine gom ?_
      refine WC.ret ?_
      refine WK.un ?_
      exact QF.p1 (.inl rfl) rfl (.tmp rfl) (⟨rfl, rfl, rfl⟩)
  have y2 : (c == 2) = false := by simpa using c2
  by_cases c3 : c = 3
  · subst c3
    have hr : (rowC 3).n = true := rfl
    by_cases hq : p.locals ≤ n
    · have z2 : decide (p.locals ≤ n) = true := decide_eq_true hq
      have he : itsR w p 3 n = 180 := by unfold itsR limR; rw [if_neg hm', if_pos ⟨hr, by simpa using hq⟩]; rfl
      rw [he]
      refine gom ?_
      refine WL.op (by kernel_rfl) (OW.callK rfl (numb_fn G [] 3) rfl fun v' G' H' h hg => ?_)
      obtain ⟨he2, rfl, rfl⟩ := h
      cases he2
      rw [hr]
      refine gom ?_
      refine WC.ret ?_
      refine WK.un ?_
      exact QF.p1 (.inl rfl) rfl (.tmp rfl) (⟨rfl, rfl, rfl⟩)
    · have z2 : decide (p.locals ≤ n) = false := decide_eq_false hq
      have he : itsR w p 3 n = 0 := by unfold itsR limR; rw [if_neg hm', if_neg (fun h => hq (by simpa using h.2))]
      rw [he]
      refine gom ?_
      refine WL.op (by kernel_rfl) (OW.callK rfl (numb_fn G [] 3) rfl fun v' G' H' h hg => ?_)
      obtain ⟨he2, rfl, rfl⟩ := h
      cases he2
      rw [hr]
      refine gom ?_
      refine WC.ret ?_
      refine WK.un ?_
      exact QF.p1 (.inl rfl) rfl (.tmp rfl) (⟨rfl, rfl, rfl⟩)
  have y3 : (c == 3) = false := by simpa using c3
  by_cases c7 : c = 7
  · subst c7
    have hr : (rowC 7).n = true := rfl
    by_cases hq : (w.procs.length : Int) ≤ n
    · have z2 : decide ((w.procs.length : Int) ≤ n) = true := decide_eq_true hq
      have he : itsR w p 7 n = 180 := by unfold itsR limR; rw [if_neg hm', if_pos ⟨hr, by simpa using hq⟩]; rfl
      rw [he]
      refine gom ?_
      refine WL.op (by kernel_rfl) (OW.callK rfl (numb_fn G [] 7) rfl fun v' G' H' h hg => ?_)
      obtain ⟨he2, rfl, rfl⟩ := h
      cases he2
      rw [hr]
      refine gom ?_
      refine WC.ret ?_
      refine WK.un ?_
      exact QF.p1 (.inl rfl) rfl (.tmp rfl) (⟨rfl, rfl, rfl⟩)
    · have z2 : decide ((w.procs.length : Int) ≤ n) = false := decide_eq_false hq
      have he : itsR w p 7 n = 0 := by unfold itsR limR; rw [if_neg hm', if_neg (fun h => hq (by simpa using h.2))]
      rw [he]
      refine gom ?_
      refine WL.op (by kernel_rfl) (OW.callK rfl (numb_fn G [] 7) rfl fun v' G' H' h hg => ?_)
      obtain ⟨he2, rfl, rfl⟩ := h
      cases he2
      rw [hr]
      refine gom ?_
      refine WC.ret ?_
      refine WK.un ?_
      exact QF.p1 (.inl rfl) rfl (.tmp rfl) (⟨rfl, rfl, rfl⟩)
  have y7 : (c == 7) = false := by simpa using c7
  by_cases c8 : c = 8
  · subst c8
    have hr : (rowC 8).n = true := rfl
    by_cases hq : (w.needs.length : Int) ≤ n
    · have z2 : decide ((w.needs.length : Int) ≤ n) = true := decide_eq_true hq
      have he : itsR w p 8 n = 180 := by unfold itsR limR; rw [if_neg hm', if_pos ⟨hr, by simpa using hq⟩]; rfl
      rw [he]
      refine gom ?_
      refine WL.op (by kernel_rfl) (OW.callK rfl (numb_fn G [] 8) rfl fun v' G' H' h hg => ?_)
      obtain ⟨he2, rfl, rfl⟩ := h
      cases he2
      rw [hr]
      refine gom ?_
      refine WC.ret ?_
      refine WK.un ?_
      exact QF.p1 (.inl rfl) rfl (.tmp rfl) (⟨rfl, rfl, rfl⟩)
    · have z2 : decide ((w.needs.length : Int) ≤ n) = false := decide_eq_false hq
      have he : itsR w p 8 n = 0 := by unfold itsR limR; rw [if_neg hm', if_neg (fun h => hq (by simpa using h.2))]
      rw [he]
      refine gom ?_
      refine WL.op (by kernel_rfl) (OW.callK rfl (numb_fn G [] 8) rfl fun v' G' H' h hg => ?_)
      obtain ⟨he2, rfl, rfl⟩ := h
      cases he2
      rw [hr]
      refine gom ?_
      refine WC.ret ?_
      refine WK.un ?_
      exact QF.p1 (.inl rfl) rfl (.tmp rfl) (⟨rfl, rfl, rfl⟩)
  have y8 : (c == 8) = false := by simpa using c8
  by_cases c5 : c = 5
  · subst c5
    have hr : (rowC 5).n = true := rfl
    by_cases hq : (p.code.length : Int) ≤ n
    · have z2 : decide ((p.code.length : Int) ≤ n) = true := decide_eq_true hq
      have he : itsR w p 5 n = 182 := by unfold itsR limR; rw [if_neg hm', if_pos ⟨hr, by simpa using hq⟩]; rfl
      rw [he]
      refine gom ?_
      refine WL.op (by kernel_rfl) (OW.callK rfl (numb_fn G [] 5) rfl fun v' G' H' h hg => ?_)
      obtain ⟨he2, rfl, rfl⟩ := h
      cases he2
      rw [hr]
      refine gom ?_
      refine WC.ret ?_
      refine WK.un ?_
      exact QF.p1 (.inl rfl) rfl (.tmp rfl) (⟨rfl, rfl, rfl⟩)
    · have z2 : decide ((p.code.length : Int) ≤ n) = false := decide_eq_false hq
      have he : itsR w p 5 n = 0 := by unfold itsR limR; rw [if_neg hm', if_neg (fun h => hq (by simpa using h.2))]
      rw [he]
      refine gom ?_
      refine WL.op (by kernel_rfl) (OW.callK rfl (numb_fn G [] 5) rfl fun v' G' H' h hg => ?_)
      obtain ⟨he2, rfl, rfl⟩ := h
      cases he2
      rw [hr]
      refine gom ?_
      refine WC.ret ?_
      refine WK.un ?_
      exact QF.p1 (.inl rfl) rfl (.tmp rfl) (⟨rfl, rfl, rfl⟩)
  have y5 : (c == 5) = false := by simpa using c5
  by_cases c6 : c = 6
  · subst c6
    have hr : (rowC 6).n = true := rfl
    by_cases hq : (p.code.length : Int) ≤ n
    · have z2 : decide ((p.code.length : Int) ≤ n) = true := decide_eq_true hq
      have he : itsR w p 6 n = 182 := by unfold itsR limR; rw [if_neg hm', if_pos ⟨hr, by simpa using hq⟩]; rfl
      rw [he]
      refine gom ?_
      refine WL.op (by kernel_rfl) (OW.callK rfl (numb_fn G [] 6) rfl fun v' G' H' h hg => ?_)
      obtain ⟨he2, rfl, rfl⟩ := h
      cases he2
      rw [hr]
      refine gom ?_
      refine WC.ret ?_
      refine WK.un ?_
      exact QF.p1 (.inl rfl) rfl (.tmp rfl) (⟨rfl, rfl, rfl⟩)
    · have z2 : decide ((p.code.length : Int) ≤ n) = false := decide_eq_false hq
      have he : itsR w p 6 n = 0 := by unfold itsR limR; rw [if_neg hm', if_neg (fun h => hq (by simpa using h.2))]
      rw [he]
      refine gom ?_
      refine WL.op (by kernel_rfl) (OW.callK rfl (numb_fn G [] 6) rfl fun v' G' H' h hg => ?_)
      obtain ⟨he2, rfl, rfl⟩ := h
      cases he2
      rw [hr]
      refine gom ?_
      refine WC.ret ?_
      refine WK.un ?_
      exact QF.p1 (.inl rfl) rfl (.tmp rfl) (⟨rfl, rfl, rfl⟩)
  have y6 : (c == 6) = false := by simpa using c6
  have hr : (rowC c).n = false := by rw [← numbR_row]; unfold numbR; simp [c1, c2, c3, c5, c6, c7, c8]
  have he : itsR w p c n = 0 := by unfold itsR; rw [if_neg hm', if_neg (fun h => by rw [hr] at h; exact absurd h.1 (by simp))]
  rw [he]
  refine gom ?_
  refine WL.op (by kernel_rfl) (OW.callK rfl (numb_fn G [] c) rfl fun v' G' H' h hg => ?_)
  obtain ⟨he2, rfl, rfl⟩ := h
  cases he2
  rw [hr]
  refine gom ?_
  refine WC.ret ?_
  refine WK.un ?_
  exact QF.p1 (.inl rfl) rfl (.tmp rfl) (⟨rfl, rfl, rfl⟩)
/-! #### what an instruction takes and lays -/
set_option maxHeartbeats 4000000 in
theorem reffect_fn (G : Gh) (w : Wd) (p : Pr) (CA NA PA : Option Addr) (cc nc pc : Nat) (hW : RWp G w CA NA PA) (QA IA : Option Addr) (qc ic : Nat) (VA : Option Addr) (sv : List Int) (vc : Nat) (hV : Sl (Kd.int .i64) G VA sv) (c : Int) (n : Nat) (ho : EOk w sv.length c n) :
    Fn Tryz.prog 127 #[.agg (wdC w CA NA PA cc nc pc), .agg (prC p QA qc IA ic), .agg #[.int .i64 c, .int .i64 n], .slice VA sv.length vc] G []
      fun e G' H' => ∃ A cap, e = .returned (.tuple #[.int .i64 (effC w sv (c, n)).1, .slice A (effC w sv (c, n)).2.length cap]) ∧ G.le G' ∧ Sl (Kd.int .i64) G' A (effC w sv (c, n)).2 ∧ H' = [] := by
  obtain ⟨ho1, ho2, ho3, ho7, ho8⟩ := ho
  refine Fn.enter Tryz.func127 rfl rfl fun w0 => ?_
  refine WC.seq ?_
  refine WC.region ?_
  refine WL.op (by kernel_rfl) (OW.box rfl rfl fun b1 => ?_)
  refine WL.op (by kernel_rfl) (OW.box rfl rfl fun b2 => ?_)
  refine WL.op (by kernel_rfl) (OW.box rfl rfl fun b3 => ?_)
  by_cases h1 : c = 1
  · subst h1
    obtain ⟨v, hvv⟩ : ∃ v, w.consts[n]? = some v := ⟨_, List.getElem?_eq_getElem (ho1 rfl)⟩
    obtain ⟨cb, co, cs, rfl, hk, hcs⟩ := hW.consts n v hvv
    obtain rfl : cs = vcells v := hk
    have x0 : (0 : Int) ≤ (n : Int) := by omega
    have x1 : (n : Int) < (w.consts.length : Int) := by have := ho1 rfl; omega
    have he1 : effC w sv ((1 : Int), (n : Int)) = (0, [v.t]) := by unfold effC; simp [hvv]
    refine gom ?_
    refine WL.op (by kernel_rfl) (OW.buildSlice rfl (by kernel_rfl) (by kernel_rfl) (by rfl) rfl fun b4 => ?_)
    refine WL.nothing ?_
    refine WL.op (by kernel_rfl) (OW.append rfl rfl (by kernel_rfl) (by kernel_rfl) TVec.nil (by (repeat first | exact .here | apply At.there)) (Rds.blk0 (cs := [.int .i64 v.t]) (by (repeat first | exact .here | apply At.there)) rfl) rfl rfl (by first | omega | (dsimp only; omega)) (by first | omega | (dsimp only; omega)) rfl fun A3 c3 o3 hv3 => ?_)
    have h3 := TVec.snoc (l := []) hv3
    refine gom ?_
    refine WC.frozenVec h3 (by (repeat first | exact .here | apply At.there)) fun G2 h2 z2 => ?_
    have hs2 := IVec.sl z2
    refine WC.ret ?_
    refine WK.un ?_
    exact QF.p2 (.inl rfl) rfl (.tmp rfl) (.tmp rfl) (⟨A3, c3, by rw [he1]; first | done | rfl, h2, by rw [he1]; exact hs2, rfl⟩)
  have y1 : (c == 1) = false := by simpa using h1
  by_cases h2 : c = 2
  · subst h2
    obtain ⟨v, hvv⟩ : ∃ v, sv[n]? = some v := ⟨_, List.getElem?_eq_getElem (ho2 rfl)⟩
    obtain ⟨cb, co, rfl, hcs⟩ := hV.at hvv
    have x0 : (0 : Int) ≤ (n : Int) := by omega
    have x1 : (n : Int) < (sv.length : Int) := by have := ho2 rfl; omega
    have he1 : effC w sv ((2 : Int), (n : Int)) = (0, [v]) := by unfold effC; simp [hvv]
    refine gom ?_
    refine WL.op (by kernel_rfl) (OW.buildSlice rfl (by kernel_rfl) (by kernel_rfl) (by rfl) rfl fun b5 => ?_)
    refine WL.nothing ?_
    refine WL.op (by kernel_rfl) (OW.append rfl rfl (by kernel_rfl) (by kernel_rfl) TVec.nil (by (repeat first | exact .here | apply At.there)) (Rds.blk0 (cs := [.int .i64 v]) (by (repeat first | exact .here | apply At.there)) rfl) rfl rfl (by first | omega | (dsimp only; omega)) (by first | omega | (dsimp only; omega)) rfl fun A3 c3 o3 hv3 => ?_)
    have h3 := TVec.snoc (l := []) hv3
    refine gom ?_
    refine WC.frozenVec h3 (by (repeat first | exact .here | apply At.there)) fun G2 h2 z2 => ?_
    have hs2 := IVec.sl z2
    refine WC.ret ?_
    refine WK.un ?_
    exact QF.p2 (.inl rfl) rfl (.tmp rfl) (.tmp rfl) (⟨A3, c3, by rw [he1]; first | done | rfl, h2, by rw [he1]; exact hs2, rfl⟩)
  have y2 : (c == 2) = false := by simpa using h2
  by_cases h3 : c = 3
  · subst h3
    have he1 : effC w sv ((3 : Int), (n : Int)) = (1, []) := by unfold effC; simp [rowC, rowsC]
    refine gom ?_
    refine WC.ret ?_
    refine WK.un ?_
    exact QF.p2 (.inl rfl) rfl (.tmp rfl) (.tmp rfl) (⟨none, 0, by rw [he1]; first | done | rfl, Gh.le_refl _, by rw [he1]; exact Sl.nil _ _ _, rfl⟩)
  have y3 : (c == 3) = false := by simpa using h3
  by_cases h4 : c = 4
  · subst h4
    have he1 : effC w sv ((4 : Int), (n : Int)) = (1, []) := by unfold effC; simp [rowC, rowsC]
    refine gom ?_
    refine WC.ret ?_
    refine WK.un ?_
    exact QF.p2 (.inl rfl) rfl (.tmp rfl) (.tmp rfl) (⟨none, 0, by rw [he1]; first | done | rfl, Gh.le_refl _, by rw [he1]; exact Sl.nil _ _ _, rfl⟩)
  have y4 : (c == 4) = false := by simpa using h4
  by_cases h6 : c = 6
  · subst h6
    have he1 : effC w sv ((6 : Int), (n : Int)) = (1, []) := by unfold effC; simp [rowC, rowsC]
    refine gom ?_
    refine WC.ret ?_
    refine WK.un ?_
    exact QF.p2 (.inl rfl) rfl (.tmp rfl) (.tmp rfl) (⟨none, 0, by rw [he1]; first | done | rfl, Gh.le_refl _, by rw [he1]; exact Sl.nil _ _ _, rfl⟩)
  have y6 : (c == 6) = false := by simpa using h6
  by_cases h10 : c = 10
  · subst h10
    have he1 : effC w sv ((10 : Int), (n : Int)) = (1, []) := by unfold effC; simp [rowC, rowsC]
    refine gom ?_
    refine WC.ret ?_
    refine WK.un ?_
    exact QF.p2 (.inl rfl) rfl (.tmp rfl) (.tmp rfl) (⟨none, 0, by rw [he1]; first | done | rfl, Gh.le_refl _, by rw [he1]; exact Sl.nil _ _ _, rfl⟩)
  have y10 : (c == 10) = false := by simpa using h10
  by_cases h11 : c = 11
  · subst h11
    have he1 : effC w sv ((11 : Int), (n : Int)) = (1, []) := by unfold effC; simp [rowC, rowsC]
    refine gom ?_
    refine WC.ret ?_
    refine WK.un ?_
    exact QF.p2 (.inl rfl) rfl (.tmp rfl) (.tmp rfl) (⟨none, 0, by rw [he1]; first | done | rfl, Gh.le_refl _, by rw [he1]; exact Sl.nil _ _ _, rfl⟩)
  have y11 : (c == 11) = false := by simpa using h11
  by_cases h7 : c = 7
  · subst h7
    obtain ⟨q, hq⟩ : ∃ q, w.procs[n]? = some q := ⟨_, List.getElem?_eq_getElem (ho7 rfl)⟩
    obtain ⟨cb, co, cs, rfl, hk, hcs⟩ := hW.procs n q hq
    obtain ⟨PA2, pc2, CA2, cc2, rfl, hk1, hk2⟩ := hk
    have x0 : (0 : Int) ≤ (n : Int) := by omega
    have x1 : (n : Int) < (w.procs.length : Int) := by have := ho7 rfl; omega
    have he1 : effC w sv ((7 : Int), (n : Int)) = (q.params.length, if q.result = 0 then [] else [q.result]) := by unfold effC; simp [hq, hdE]
    by_cases hr : q.result = 0
    · have e4 : (q.result != 0) = false := by simpa using hr
      rw [if_pos hr] at he1
      refine gom ?_
      refine WC.ret ?_
      refine WK.un ?_
      exact QF.p2 (.inl rfl) rfl (.tmp rfl) (.tmp rfl) (⟨none, 0, by rw [he1]; first | done | rfl, Gh.le_refl _, by rw [he1]; exact Sl.nil _ _ _, rfl⟩)
    · have e4 : (q.result != 0) = true := by simpa using hr
      rw [if_neg hr] at he1
      refine gom ?_
      refine WL.op (by kernel_rfl) (OW.buildSlice rfl (by kernel_rfl) (by kernel_rfl) (by rfl) rfl fun b6 => ?_)
      refine WL.nothing ?_
      refine WL.op (by kernel_rfl) (OW.append rfl rfl (by kernel_rfl) (by kernel_rfl) TVec.nil (by (repeat first | exact .here | apply At.there)) (Rds.blk0 (cs := [.int .i64 q.result]) (by (repeat first | exact .here | apply At.there)) rfl) rfl rfl (by first | omega | (dsimp only; omega)) (by first | omega | (dsimp only; omega)) rfl fun A3 c3 o3 hv3 => ?_)
      have h3 := TVec.snoc (l := []) hv3
      refine gom ?_
      refine WC.frozenVec h3 (by (repeat first | exact .here | apply At.there)) fun G2 h2 z2 => ?_
      have hs2 := IVec.sl z2
      refine WC.ret ?_
      refine WK.un ?_
      exact QF.p2 (.inl rfl) rfl (.tmp rfl) (.tmp rfl) (⟨A3, c3, by rw [he1]; first | done | rfl, h2, by rw [he1]; exact hs2, rfl⟩)
  have y7 : (c == 7) = false := by simpa using h7
  by_cases h8 : c = 8
  · subst h8
    obtain ⟨q, hq⟩ : ∃ q, w.needs[n]? = some q := ⟨_, List.getElem?_eq_getElem (ho8 rfl)⟩
    obtain ⟨cb, co, cs, rfl, hk, hcs⟩ := hW.needs n q hq
    obtain ⟨PA2, pc2, rfl, hk1⟩ := hk
    have x0 : (0 : Int) ≤ (n : Int) := by omega
    have x1 : (n : Int) < (w.needs.length : Int) := by have := ho8 rfl; omega
    have he1 : effC w sv ((8 : Int), (n : Int)) = (q.params.length, if q.result = 0 then [] else [q.result]) := by unfold effC; simp [hq, hdE]
    by_cases hr : q.result = 0
    · have e4 : (q.result != 0) = false := by simpa using hr
      rw [if_pos hr] at he1
      refine gom ?_
      refine WC.ret ?_
      refine WK.un ?_
      exact QF.p2 (.inl rfl) rfl (.tmp rfl) (.tmp rfl) (⟨none, 0, by rw [he1]; first | done | rfl, Gh.le_refl _, by rw [he1]; exact Sl.nil _ _ _, rfl⟩)
    · have e4 : (q.result != 0) = true := by simpa using hr
      rw [if_neg hr] at he1
      refine gom ?_
      refine WL.op (by kernel_rfl) (OW.buildSlice rfl (by kernel_rfl) (by kernel_rfl) (by rfl) rfl fun b7 => ?_)
      refine WL.nothing ?_
      refine WL.op (by kernel_rfl) (OW.append rfl rfl (by kernel_rfl) (by kernel_rfl) TVec.nil (by (repeat first | exact .here | apply At.there)) (Rds.blk0 (cs := [.int .i64 q.result]) (by (repeat first | exact .here | apply At.there)) rfl) rfl rfl (by first | omega | (dsimp only; omega)) (by first | omega | (dsimp only; omega)) rfl fun A3 c3 o3 hv3 => ?_)
      have h3 := TVec.snoc (l := []) hv3
      refine gom ?_
      refine WC.frozenVec h3 (by (repeat first | exact .here | apply At.there)) fun G2 h2 z2 => ?_
      have hs2 := IVec.sl z2
      refine WC.ret ?_
      refine WK.un ?_
      exact QF.p2 (.inl rfl) rfl (.tmp rfl) (.tmp rfl) (⟨A3, c3, by rw [he1]; first | done | rfl, h2, by rw [he1]; exact hs2, rfl⟩)
  have y8 : (c == 8) = false := by simpa using h8
  by_cases h12 : c = 12
  · subst h12
    have he1 : effC w sv ((12 : Int), (n : Int)) = (2, [2]) := by unfold effC; simp [rowC, rowsC]
    refine gom ?_
    refine WL.op (by kernel_rfl) (OW.buildSlice rfl (by kernel_rfl) (by kernel_rfl) (by rfl) rfl fun b8 => ?_)
    refine WL.nothing ?_
    refine WL.op (by kernel_rfl) (OW.append rfl rfl (by kernel_rfl) (by kernel_rfl) TVec.nil (by (repeat first | exact .here | apply At.there)) (Rds.blk0 (cs := [.int .i64 2]) (by (repeat first | exact .here | apply At.there)) rfl) rfl rfl (by first | omega | (dsimp only; omega)) (by first | omega | (dsimp only; omega)) rfl fun A3 c3 o3 hv3 => ?_)
    have h3 := TVec.snoc (l := []) hv3
    refine gom ?_
    refine WC.frozenVec h3 (by (repeat first | exact .here | apply At.there)) fun G2 h2 z2 => ?_
    have hs2 := IVec.sl z2
    refine WC.ret ?_
    refine WK.un ?_
    exact QF.p2 (.inl rfl) rfl (.tmp rfl) (.tmp rfl) (⟨A3, c3, by rw [he1]; first | done | rfl, h2, by rw [he1]; exact hs2, rfl⟩)
  have y12 : (c == 12) = false := by simpa using h12
  by_cases h13 : c = 13
  · subst h13
    have he1 : effC w sv ((13 : Int), (n : Int)) = (2, [2]) := by unfold effC; simp [rowC, rowsC]
    refine gom ?_
    refine WL.op (by kernel_rfl) (OW.buildSlice rfl (by kernel_rfl) (by kernel_rfl) (by rfl) rfl fun b8 => ?_)
    refine WL.nothing ?_
    refine WL.op (by kernel_rfl) (OW.append rfl rfl (by kernel_rfl) (by kernel_rfl) TVec.nil (by (repeat first | exact .here | apply At.there)) (Rds.blk0 (cs := [.int .i64 2]) (by (repeat first | exact .here | apply At.there)) rfl) rfl rfl (by first | omega | (dsimp only; omega)) (by first | omega | (dsimp only; omega)) rfl fun A3 c3 o3 hv3 => ?_)
    have h3 := TVec.snoc (l := []) hv3
    refine gom ?_
    refine WC.frozenVec h3 (by (repeat first | exact .here | apply At.there)) fun G2 h2 z2 => ?_
    have hs2 := IVec.sl z2
    refine WC.ret ?_
    refine WK.un ?_
    exact QF.p2 (.inl rfl) rfl (.tmp rfl) (.tmp rfl) (⟨A3, c3, by rw [he1]; first | done | rfl, h2, by rw [he1]; exact hs2, rfl⟩)
  have y13 : (c == 13) = false := by simpa using h13
  by_cases h14 : c = 14
  · subst h14
    have he1 : effC w sv ((14 : Int), (n : Int)) = (2, [2]) := by unfold effC; simp [rowC, rowsC]
    refine gom ?_
    refine WL.op (by kernel_rfl) (OW.buildSlice rfl (by kernel_rfl) (by kernel_rfl) (by rfl) rfl fun b8 => ?_)
    refine WL.nothing ?_
    refine WL.op (by kernel_rfl) (OW.append rfl rfl (by kernel_rfl) (by kernel_rfl) TVec.nil (by (repeat first | exact .here | apply At.there)) (Rds.blk0 (cs := [.int .i64 2]) (by (repeat first | exact .here | apply At.there)) rfl) rfl rfl (by first | omega | (dsimp only; omega)) (by first | omega | (dsimp only; omega)) rfl fun A3 c3 o3 hv3 => ?_)
    have h3 := TVec.snoc (l := []) hv3
    refine gom ?_
    refine WC.frozenVec h3 (by (repeat first | exact .here | apply At.there)) fun G2 h2 z2 => ?_
    have hs2 := IVec.sl z2
    refine WC.ret ?_
    refine WK.un ?_
    exact QF.p2 (.inl rfl) rfl (.tmp rfl) (.tmp rfl) (⟨A3, c3, by rw [he1]; first | done | rfl, h2, by rw [he1]; exact hs2, rfl⟩)
  have y14 : (c == 14) = false := by simpa using h14
  by_cases h15 : c = 15
  · subst h15
    have he1 : effC w sv ((15 : Int), (n : Int)) = (2, [2]) := by unfold effC; simp [rowC, rowsC]
    refine gom ?_
    refine WL.op (by kernel_rfl) (OW.buildSlice rfl (by kernel_rfl) (by kernel_rfl) (by rfl) rfl fun b8 => ?_)
    refine WL.nothing ?_
    refine WL.op (by kernel_rfl) (OW.append rfl rfl (by kernel_rfl) (by kernel_rfl) TVec.nil (by (repeat first | exact .here | apply At.there)) (Rds.blk0 (cs := [.int .i64 2]) (by (repeat first | exact .here | apply At.there)) rfl) rfl rfl (by first | omega | (dsimp only; omega)) (by first | omega | (dsimp only; omega)) rfl fun A3 c3 o3 hv3 => ?_)
    have h3 := TVec.snoc (l := []) hv3
    refine gom ?_
    refine WC.frozenVec h3 (by (repeat first | exact .here | apply At.there)) fun G2 h2 z2 => ?_
    have hs2 := IVec.sl z2
    refine WC.ret ?_
    refine WK.un ?_
    exact QF.p2 (.inl rfl) rfl (.tmp rfl) (.tmp rfl) (⟨A3, c3, by rw [he1]; first | done | rfl, h2, by rw [he1]; exact hs2, rfl⟩)
  have y15 : (c == 15) = false := by simpa using h15
  by_cases h16 : c = 16
  · subst h16
    have he1 : effC w sv ((16 : Int), (n : Int)) = (2, [2]) := by unfold effC; simp [rowC, rowsC]
    refine gom ?_
    refine WL.op (by kernel_rfl) (OW.buildSlice rfl (by kernel_rfl) (by kernel_rfl) (by rfl) rfl fun b8 => ?_)
    refine WL.nothing ?_
    refine WL.op (by kernel_rfl) (OW.append rfl rfl (by kernel_rfl) (by kernel_rfl) TVec.nil (by (repeat first | exact .here | apply At.there)) (Rds.blk0 (cs := [.int .i64 2]) (by (repeat first | exact .here | apply At.there)) rfl) rfl rfl (by first | omega | (dsimp only; omega)) (by first | omega | (dsimp only; omega)) rfl fun A3 c3 o3 hv3 => ?_)
    have h3 := TVec.snoc (l := []) hv3
    refine gom ?_
    refine WC.frozenVec h3 (by (repeat first | exact .here | apply At.there)) fun G2 h2 z2 => ?_
    have hs2 := IVec.sl z2
    refine WC.ret ?_
    refine WK.un ?_
    exact QF.p2 (.inl rfl) rfl (.tmp rfl) (.tmp rfl) (⟨A3, c3, by rw [he1]; first | done | rfl, h2, by rw [he1]; exact hs2, rfl⟩)
  have y16 : (c == 16) = false := by simpa using h16
  by_cases h17 : c = 17
  · subst h17
    have he1 : effC w sv ((17 : Int), (n : Int)) = (2, [2]) := by unfold effC; simp [rowC, rowsC]
    refine gom ?_
    refine WL.op (by kernel_rfl) (OW.buildSlice rfl (by kernel_rfl) (by kernel_rfl) (by rfl) rfl fun b8 => ?_)
    refine WL.nothing ?_
    refine WL.op (by kernel_rfl) (OW.append rfl rfl (by kernel_rfl) (by kernel_rfl) TVec.nil (by (repeat first | exact .here | apply At.there)) (Rds.blk0 (cs := [.int .i64 2]) (by (repeat first | exact .here | apply At.there)) rfl) rfl rfl (by first | omega | (dsimp only; omega)) (by first | omega | (dsimp only; omega)) rfl fun A3 c3 o3 hv3 => ?_)
    have h3 := TVec.snoc (l := []) hv3
    refine gom ?_
    refine WC.frozenVec h3 (by (repeat first | exact .here | apply At.there)) fun G2 h2 z2 => ?_
    have hs2 := IVec.sl z2
    refine WC.ret ?_
    refine WK.un ?_
    exact QF.p2 (.inl rfl) rfl (.tmp rfl) (.tmp rfl) (⟨A3, c3, by rw [he1]; first | done | rfl, h2, by rw [he1]; exact hs2, rfl⟩)
  have y17 : (c == 17) = false := by simpa using h17
  by_cases h20 : c = 20
  · subst h20
    have he1 : effC w sv ((20 : Int), (n : Int)) = (2, [3]) := by unfold effC; simp [rowC, rowsC]
    refine gom ?_
    refine WL.op (by kernel_rfl) (OW.buildSlice rfl (by kernel_rfl) (by kernel_rfl) (by rfl) rfl fun b9 => ?_)
    refine WL.nothing ?_
    refine WL.op (by kernel_rfl) (OW.append rfl rfl (by kernel_rfl) (by kernel_rfl) TVec.nil (by (repeat first | exact .here | apply At.there)) (Rds.blk0 (cs := [.int .i64 3]) (by (repeat first | exact .here | apply At.there)) rfl) rfl rfl (by first | omega | (dsimp only; omega)) (by first | omega | (dsimp only; omega)) rfl fun A3 c3 o3 hv3 => ?_)
    have h3 := TVec.snoc (l := []) hv3
    refine gom ?_
    refine WC.frozenVec h3 (by (repeat first | exact .here | apply At.there)) fun G2 h2 z2 => ?_
    have hs2 := IVec.sl z2
    refine WC.ret ?_
    refine WK.un ?_
    exact QF.p2 (.inl rfl) rfl (.tmp rfl) (.tmp rfl) (⟨A3, c3, by rw [he1]; first | done | rfl, h2, by rw [he1]; exact hs2, rfl⟩)
  have y20 : (c == 20) = false := by simpa using h20
  by_cases h18 : c = 18
  · subst h18
    have he1 : effC w sv ((18 : Int), (n : Int)) = (2, [1]) := by unfold effC; simp [rowC, rowsC]
    refine gom ?_
    refine WL.op (by kernel_rfl) (OW.buildSlice rfl (by kernel_rfl) (by kernel_rfl) (by rfl) rfl fun b10 => ?_)
    refine WL.nothing ?_
    refine WL.op (by kernel_rfl) (OW.append rfl rfl (by kernel_rfl) (by kernel_rfl) TVec.nil (by (repeat first | exact .here | apply At.there)) (Rds.blk0 (cs := [.int .i64 1]) (by (repeat first | exact .here | apply At.there)) rfl) rfl rfl (by first | omega | (dsimp only; omega)) (by first | omega | (dsimp only; omega)) rfl fun A3 c3 o3 hv3 => ?_)
    have h3 := TVec.snoc (l := []) hv3
    refine gom ?_
    refine WC.frozenVec h3 (by (repeat first | exact .here | apply At.there)) fun G2 h2 z2 => ?_
    have hs2 := IVec.sl z2
    refine WC.ret ?_
    refine WK.un ?_
    exact QF.p2 (.inl rfl) rfl (.tmp rfl) (.tmp rfl) (⟨A3, c3, by rw [he1]; first | done | rfl, h2, by rw [he1]; exact hs2, rfl⟩)
  have y18 : (c == 18) = false := by simpa using h18
  by_cases h19 : c = 19
  · subst h19
    have he1 : effC w sv ((19 : Int), (n : Int)) = (2, [1]) := by unfold effC; simp [rowC, rowsC]
    refine gom ?_
    refine WL.op (by kernel_rfl) (OW.buildSlice rfl (by kernel_rfl) (by kernel_rfl) (by rfl) rfl fun b10 => ?_)
    refine WL.nothing ?_
    refine WL.op (by kernel_rfl) (OW.append rfl rfl (by kernel_rfl) (by kernel_rfl) TVec.nil (by (repeat first | exact .here | apply At.there)) (Rds.blk0 (cs := [.int .i64 1]) (by (repeat first | exact .here | apply At.there)) rfl) rfl rfl (by first | omega | (dsimp only; omega)) (by first | omega | (dsimp only; omega)) rfl fun A3 c3 o3 hv3 => ?_)
    have h3 := TVec.snoc (l := []) hv3
    refine gom ?_
    refine WC.frozenVec h3 (by (repeat first | exact .here | apply At.there)) fun G2 h2 z2 => ?_
    have hs2 := IVec.sl z2
    refine WC.ret ?_
    refine WK.un ?_
    exact QF.p2 (.inl rfl) rfl (.tmp rfl) (.tmp rfl) (⟨A3, c3, by rw [he1]; first | done | rfl, h2, by rw [he1]; exact hs2, rfl⟩)
  have y19 : (c == 19) = false := by simpa using h19
  by_cases h21 : c = 21
  · subst h21
    have he1 : effC w sv ((21 : Int), (n : Int)) = (2, [1]) := by unfold effC; simp [rowC, rowsC]
    refine gom ?_
    refine WL.op (by kernel_rfl) (OW.buildSlice rfl (by kernel_rfl) (by kernel_rfl) (by rfl) rfl fun b10 => ?_)
    refine WL.nothing ?_
    refine WL.op (by kernel_rfl) (OW.append rfl rfl (by kernel_rfl) (by kernel_rfl) TVec.nil (by (repeat first | exact .here | apply At.there)) (Rds.blk0 (cs := [.int .i64 1]) (by (repeat first | exact .here | apply At.there)) rfl) rfl rfl (by first | omega | (dsimp only; omega)) (by first | omega | (dsimp only; omega)) rfl fun A3 c3 o3 hv3 => ?_)
    have h3 := TVec.snoc (l := []) hv3
    refine gom ?_
    refine WC.frozenVec h3 (by (repeat first | exact .here | apply At.there)) fun G2 h2 z2 => ?_
    have hs2 := IVec.sl z2
    refine WC.ret ?_
    refine WK.un ?_
    exact QF.p2 (.inl rfl) rfl (.tmp rfl) (.tmp rfl) (⟨A3, c3, by rw [he1]; first | done | rfl, h2, by rw [he1]; exact hs2, rfl⟩)
  have y21 : (c == 21) = false := by simpa using h21
  by_cases h22 : c = 22
  · subst h22
    have he1 : effC w sv ((22 : Int), (n : Int)) = (2, [1]) := by unfold effC; simp [rowC, rowsC]
    refine gom ?_
    refine WL.op (by kernel_rfl) (OW.buildSlice rfl (by kernel_rfl) (by kernel_rfl) (by rfl) rfl fun b10 => ?_)
    refine WL.nothing ?_
    refine WL.op (by kernel_rfl) (OW.append rfl rfl (by kernel_rfl) (by kernel_rfl) TVec.nil (by (repeat first | exact .here | apply At.there)) (Rds.blk0 (cs := [.int .i64 1]) (by (repeat first | exact .here | apply At.there)) rfl) rfl rfl (by first | omega | (dsimp only; omega)) (by first | omega | (dsimp only; omega)) rfl fun A3 c3 o3 hv3 => ?_)
    have h3 := TVec.snoc (l := []) hv3
    refine gom ?_
    refine WC.frozenVec h3 (by (repeat first | exact .here | apply At.there)) fun G2 h2 z2 => ?_
    have hs2 := IVec.sl z2
    refine WC.ret ?_
    refine WK.un ?_
    exact QF.p2 (.inl rfl) rfl (.tmp rfl) (.tmp rfl) (⟨A3, c3, by rw [he1]; first | done | rfl, h2, by rw [he1]; exact hs2, rfl⟩)
  have y22 : (c == 22) = false := by simpa using h22
  by_cases h23 : c = 23
  · subst h23
    have he1 : effC w sv ((23 : Int), (n : Int)) = (2, [1]) := by unfold effC; simp [rowC, rowsC]
    refine gom ?_
    refine WL.op (by kernel_rfl) (OW.buildSlice rfl (by kernel_rfl) (by kernel_rfl) (by rfl) rfl fun b10 => ?_)
    refine WL.nothing ?_
    refine WL.op (by kernel_rfl) (OW.append rfl rfl (by kernel_rfl) (by kernel_rfl) TVec.nil (by (repeat first | exact .here | apply At.there)) (Rds.blk0 (cs := [.int .i64 1]) (by (repeat first | exact .here | apply At.there)) rfl) rfl rfl (by first | omega | (dsimp only; omega)) (by first | omega | (dsimp only; omega)) rfl fun A3 c3 o3 hv3 => ?_)
    have h3 := TVec.snoc (l := []) hv3
    refine gom ?_
    refine WC.frozenVec h3 (by (repeat first | exact .here | apply At.there)) fun G2 h2 z2 => ?_
    have hs2 := IVec.sl z2
    refine WC.ret ?_
    refine WK.un ?_
    exact QF.p2 (.inl rfl) rfl (.tmp rfl) (.tmp rfl) (⟨A3, c3, by rw [he1]; first | done | rfl, h2, by rw [he1]; exact hs2, rfl⟩)
  have y23 : (c == 23) = false := by simpa using h23
  by_cases h24 : c = 24
  · subst h24
    have he1 : effC w sv ((24 : Int), (n : Int)) = (1, [1]) := by unfold effC; simp [rowC, rowsC]
    refine gom ?_
    refine WL.op (by kernel_rfl) (OW.buildSlice rfl (by kernel_rfl) (by kernel_rfl) (by rfl) rfl fun b11 => ?_)
    refine WL.nothing ?_
    refine WL.op (by kernel_rfl) (OW.append rfl rfl (by kernel_rfl) (by kernel_rfl) TVec.nil (by (repeat first | exact .here | apply At.there)) (Rds.blk0 (cs := [.int .i64 1]) (by (repeat first | exact .here | apply At.there)) rfl) rfl rfl (by first | omega | (dsimp only; omega)) (by first | omega | (dsimp only; omega)) rfl fun A3 c3 o3 hv3 => ?_)
    have h3 := TVec.snoc (l := []) hv3
    refine gom ?_
    refine WC.frozenVec h3 (by (repeat first | exact .here | apply At.there)) fun G2 h2 z2 => ?_
    have hs2 := IVec.sl z2
    refine WC.ret ?_
    refine WK.un ?_
    exact QF.p2 (.inl rfl) rfl (.tmp rfl) (.tmp rfl) (⟨A3, c3, by rw [he1]; first | done | rfl, h2, by rw [he1]; exact hs2, rfl⟩)
  have y24 : (c == 24) = false := by simpa using h24
  by_cases h26 : c = 26
  · subst h26
    have he1 : effC w sv ((26 : Int), (n : Int)) = (1, [1]) := by unfold effC; simp [rowC, rowsC]
    refine gom ?_
    refine WL.op (by kernel_rfl) (OW.buildSlice rfl (by kernel_rfl) (by kernel_rfl) (by rfl) rfl fun b11 => ?_)
    refine WL.nothing ?_
    refine WL.op (by kernel_rfl) (OW.append rfl rfl (by kernel_rfl) (by kernel_rfl) TVec.nil (by (repeat first | exact .here | apply At.there)) (Rds.blk0 (cs := [.int .i64 1]) (by (repeat first | exact .here | apply At.there)) rfl) rfl rfl (by first | omega | (dsimp only; omega)) (by first | omega | (dsimp only; omega)) rfl fun A3 c3 o3 hv3 => ?_)
    have h3 := TVec.snoc (l := []) hv3
    refine gom ?_
    refine WC.frozenVec h3 (by (repeat first | exact .here | apply At.there)) fun G2 h2 z2 => ?_
    have hs2 := IVec.sl z2
    refine WC.ret ?_
    refine WK.un ?_
    exact QF.p2 (.inl rfl) rfl (.tmp rfl) (.tmp rfl) (⟨A3, c3, by rw [he1]; first | done | rfl, h2, by rw [he1]; exact hs2, rfl⟩)
  have y26 : (c == 26) = false := by simpa using h26
  by_cases h25 : c = 25
  · subst h25
    have he1 : effC w sv ((25 : Int), (n : Int)) = (1, [2]) := by unfold effC; simp [rowC, rowsC]
    refine gom ?_
    refine WL.op (by kernel_rfl) (OW.buildSlice rfl (by kernel_rfl) (by kernel_rfl) (by rfl) rfl fun b12 => ?_)
    refine WL.nothing ?_
    refine WL.op (by kernel_rfl) (OW.append rfl rfl (by kernel_rfl) (by kernel_rfl) TVec.nil (by (repeat first | exact .here | apply At.there)) (Rds.blk0 (cs := [.int .i64 2]) (by (repeat first | exact .here | apply At.there)) rfl) rfl rfl (by first | omega | (dsimp only; omega)) (by first | omega | (dsimp only; omega)) rfl fun A3 c3 o3 hv3 => ?_)
    have h3 := TVec.snoc (l := []) hv3
    refine gom ?_
    refine WC.frozenVec h3 (by (repeat first | exact .here | apply At.there)) fun G2 h2 z2 => ?_
    have hs2 := IVec.sl z2
    refine WC.ret ?_
    refine WK.un ?_
    exact QF.p2 (.inl rfl) rfl (.tmp rfl) (.tmp rfl) (⟨A3, c3, by rw [he1]; first | done | rfl, h2, by rw [he1]; exact hs2, rfl⟩)
  have y25 : (c == 25) = false := by simpa using h25
  have he1 : effC w sv (c, (n : Int)) = (0, []) := by
    by_cases h : 1 ≤ c ∧ c ≤ 26
    · obtain h5 | h9 : c = 5 ∨ c = 9 := by omega
      · subst h5; unfold effC; simp [rowC, rowsC]
      · subst h9; unfold effC; simp [rowC, rowsC]
    · unfold effC
      rw [rowC_out h]
      rw [if_neg h1, if_neg h2, if_neg h7, if_neg h8, if_neg h20, if_neg (by omega), if_neg h25]; rfl
  refine gom ?_
  refine WC.ret ?_
  refine WK.un ?_
  exact QF.p2 (.inl rfl) rfl (.tmp rfl) (.tmp rfl) (⟨none, 0, by rw [he1]; first | done | rfl, Gh.le_refl _, by rw [he1]; exact Sl.nil _ _ _, rfl⟩)
end Go.Proofs.YtkmigdmdppkpoaaGreatDoor.Gb
namespace Go.Proofs.YtkmigdmdppkpoaaGreatDoor.Gb
open Go Go.Proofs Go.MapKept
set_option linter.unusedVariables false
set_option linter.unusedSimpArgs false
set_option linter.unusedSectionVars false
attribute [local irreducible] Tryz.prog
theorem TVec.nilv : Vec 42 1 none 0 0 [] (.spare 0 0 0) := ⟨rfl, .inl ⟨rfl, rfl, rfl, rfl⟩⟩
theorem Sl.takeV {α : Type} {k : Kd α} {G : Gh} {A : Option Addr} {xs : List α} (h : Sl k G A xs) (n : Nat) : Sl k G A (xs.take n) := fun i x hx => h i x (by
  rw [List.getElem?_take] at hx
  split at hx
  · exact hx
  · cases hx)
section
variable (G : Gh) (w : Wd) (p : Pr) (CA NA PA : Option Addr) (cc nc pc : Nat) (hW : RWp G w CA NA PA) (QA IA : Option Addr) (qc ic : Nat)
include hW
set_option maxHeartbeats 4000000 in
theorem rbehind_fn (s : SS) (VA : Option Addr) (vc : Nat) (SA : Option Addr) (sc : Nat) (hS : SRep G s VA vc SA sc) (hr : s.reached = true) (hv : s.vars.length ≤ 1000000000) (hk : s.stack.length ≤ 1000000000) (c : Int) (n : Nat) (ho : EOk w s.vars.length c n) :
    Fn Tryz.prog 101 #[.agg (wdC w CA NA PA cc nc pc), .agg (prC p QA qc IA ic), .agg #[.int .i64 c, .int .i64 n], rsV s VA vc SA sc] G []
      fun e G' H' => ∃ V' v' S' s', e = .returned (rsV (behR w (c, n) s) V' v' S' s') ∧ G.le G' ∧ SRep G' (behR w (c, n) s) V' v' S' s' ∧ H' = [] := by
  have htk := hW.takes (cc := cc) (nc := nc) (pc := pc) s.vars (c, n)
  have hly := effC_lays w s.vars (c, n)
  refine Fn.enter Tryz.func101 rfl rfl fun w0 => ?_
  obtain ⟨sr, su, sv, sk⟩ := s
  dsimp only at htk hly hv hk ho hr ⊢
  subst hr
  refine WC.seq ?_
  refine WC.region ?_
  refine WL.op (by kernel_rfl) (OW.box rfl rfl fun b1 => ?_)
  refine WL.op (by kernel_rfl) (OW.box rfl rfl fun b2 => ?_)
  refine WL.op (by kernel_rfl) (OW.box rfl rfl fun b3 => ?_)
  refine WL.op (by kernel_rfl) (OW.box rfl rfl fun b4 => ?_)
  refine WL.op (by kernel_rfl) (OW.alloc rfl fun b5 => ?_)
  refine gom ?_
  refine WL.op (by kernel_rfl) (OW.alloc rfl fun b6 => ?_)
  refine gom ?_
  refine WL.nothing ?_
  refine WL.op (by kernel_rfl) (OW.append rfl rfl (by kernel_rfl) (by kernel_rfl) TVec.nilv (by (repeat first | exact .here | apply At.there)) hS.vars.ints (ints_length _) (ints_one _) (by first | omega | (dsimp only; omega)) (by first | omega | (dsimp only; omega)) rfl fun A1 c1 x1 hx1 => ?_)
  rw [Nat.zero_add] at hx1 ⊢
  rw [List.nil_append] at hx1
  replace hx1 : TVec A1 sv c1 x1 := hx1
  have ho3 := ho.store
  have hvl : (varsR (c, (n : Int)) ⟨true, su, sv, sk⟩).length = sv.length := varsR_length _ _
  refine WL.p (Gp.fieldAddr rfl) (by kernel_rfl) rfl ?_
  refine WL.op (by kernel_rfl) (OW.store rfl rfl (by (repeat first | exact .here | apply At.there)) rfl (by rfl) (by rfl) (by kernel_rfl) (by rfl) ?_ rfl)
  refine WL.nil ?_
  refine WK.un ?_
  refine WC.join (X := Own) (fun _ => [(4, .pointer (some ⟨b1, 0, none⟩)), (5, .pointer (some ⟨b2, 0, none⟩)), (6, .pointer (some ⟨b3, 0, none⟩)), (7, .pointer (some ⟨b4, 0, none⟩)), (8, .pointer (some ⟨b5, 0, none⟩)), (9, .pointer (some ⟨b6, 0, none⟩))]) (fun _ => G)
    (fun o => [o, .blk b6 (.cells #[.bool true, .slice A1 sv.length c1, .bool false, .slice none 0 0] 95 (0, 0)), .blk b1 (.cells (wdC w CA NA PA cc nc pc) 143 (0, 0)), .blk b2 (.cells (prC p QA qc IA ic) 45 (0, 0)), .blk b3 (.cells #[.int .i64 c, .int .i64 n] 50 (0, 0)), .blk b4 (.cells #[.bool true, .slice VA sv.length vc, .bool su, .slice SA sk.length sc] 95 (0, 0)), .blk b5 (.cells #[.bool false, .slice none 0 0, .bool false, .slice none 0 0] 95 (0, 0))])
    (fun o => Vec 42 1 A1 sv.length c1 (ints (varsR (c, (n : Int)) ⟨true, su, sv, sk⟩)) o) ?_ fun o hx1' => ?_
  · by_cases h3 : c = 3
    rotate_left
    · have y3 : (c == 3) = false := by simpa using h3
      refine gom ?_
      refine WK.pick [x1, .blk b6 (.cells #[.bool true, .slice A1 sv.length c1, .bool false, .slice none 0 0] 95 (0, 0)), .blk b1 (.cells (wdC w CA NA PA cc nc pc) 143 (0, 0)), .blk b2 (.cells (prC p QA qc IA ic) 45 (0, 0)), .blk b3 (.cells #[.int .i64 c, .int .i64 n] 50 (0, 0)), .blk b4 (.cells #[.bool true, .slice VA sv.length vc, .bool su, .slice SA sk.length sc] 95 (0, 0)), .blk b5 (.cells #[.bool false, .slice none 0 0, .bool false, .slice none 0 0] 95 (0, 0))] ?_
      exact WK.meet (x1) (by unfold varsR; rw [if_neg h3]; exact hx1) (by exact ⟨rfl, rfl, rfl, rfl, rfl, rfl, trivial⟩) rfl (List.Sublist.refl _)
    subst h3
    have hn := ho3 rfl
    obtain ⟨xb, xc, rfl, rfl, hxc⟩ := hx1.some (by omega)
    have hn0 : 0 + ((n : Nat) : Int).toNat * 1 = n := by omega
    obtain ⟨_, hfit, hput⟩ := IVec.put hx1 (i := 0 + ((n : Nat) : Int).toNat * 1) (by omega) 0
    have hble : Nat.ble (0 + ((n : Nat) : Int).toNat * 1 + 1) xc.size = true := Nat.ble_eq_true_of_le (by omega)
    have x0 : (0 : Int) ≤ (n : Int) := by omega
    have x1 : (n : Int) < (sv.length : Int) := by omega
    have hput' : Vec 42 1 (some ⟨xb, 0, none⟩) sv.length c1 (ints (sv.set n 0)) (.blk xb (.cells (splice xc (0 + ((n : Nat) : Int).toNat * 1) [.int .i64 0]) 42 (0, 0))) := by
      have h := hput
      unfold IVec at h
      rw [List.length_set] at h
      rwa [hn0] at h ⊢
    cases su with
    | true =>
      refine gom ?_
      refine WK.pick [.blk xb (.cells (splice xc (0 + ((n : Nat) : Int).toNat * 1) [.int .i64 0]) 42 (0, 0)), .blk b6 (.cells #[.bool true, .slice (some ⟨xb, 0, none⟩) sv.length c1, .bool false, .slice none 0 0] 95 (0, 0)), .blk b1 (.cells (wdC w CA NA PA cc nc pc) 143 (0, 0)), .blk b2 (.cells (prC p QA qc IA ic) 45 (0, 0)), .blk b3 (.cells #[.int .i64 3, .int .i64 n] 50 (0, 0)), .blk b4 (.cells #[.bool true, .slice VA sv.length vc, .bool true, .slice SA sk.length sc] 95 (0, 0)), .blk b5 (.cells #[.bool false, .slice none 0 0, .bool false, .slice none 0 0] 95 (0, 0))] ?_
      exact WK.meet (.blk xb (.cells (splice xc (0 + ((n : Nat) : Int).toNat * 1) [.int .i64 0]) 42 (0, 0))) (hput') (by exact ⟨rfl, rfl, rfl, rfl, rfl, rfl, trivial⟩) rfl (List.Sublist.refl _)
    | false =>
    by_cases hk0 : sk.length = 0
    · have y4 : decide ((0 : Int) < (sk.length : Int)) = false := decide_eq_false (by omega)
      have ht : topS ⟨true, false, sv, sk⟩ = 0 := by
        have : sk = [] := List.eq_nil_of_length_eq_zero hk0
        subst this; rfl
      refine gom ?_
      refine WK.pick [.blk xb (.cells (splice xc (0 + ((n : Nat) : Int).toNat * 1) [.int .i64 0]) 42 (0, 0)), .blk b6 (.cells #[.bool true, .slice (some ⟨xb, 0, none⟩) sv.length c1, .bool false, .slice none 0 0] 95 (0, 0)), .blk b1 (.cells (wdC w CA NA PA cc nc pc) 143 (0, 0)), .blk b2 (.cells (prC p QA qc IA ic) 45 (0, 0)), .blk b3 (.cells #[.int .i64 3, .int .i64 n] 50 (0, 0)), .blk b4 (.cells #[.bool true, .slice VA sv.length vc, .bool false, .slice SA sk.length sc] 95 (0, 0)), .blk b5 (.cells #[.bool false, .slice none 0 0, .bool false, .slice none 0 0] 95 (0, 0))] ?_
      exact WK.meet (.blk xb (.cells (splice xc (0 + ((n : Nat) : Int).toNat * 1) [.int .i64 0]) 42 (0, 0))) (by unfold varsR; rw [if_pos rfl, ht]; exact hput') (by exact ⟨rfl, rfl, rfl, rfl, rfl, rfl, trivial⟩) rfl (List.Sublist.refl _)
    have y4 : decide ((0 : Int) < (sk.length : Int)) = true := decide_eq_true (by omega)
    obtain ⟨z, hz⟩ : ∃ z, sk[sk.length - 1]? = some z := ⟨_, List.getElem?_eq_getElem (by omega)⟩
    have ht : topS ⟨true, false, sv, sk⟩ = z := by
      show (sk[sk.length - 1]?).getD 0 = z
      rw [hz]; rfl
    obtain ⟨zb, zo, rfl, hzc⟩ := hS.stack.at hz
    have y5 : IntKind.i64.wrap ((sk.length : Int) - 1) = ((sk.length - 1 : Nat) : Int) := by
      have e := wrapI (x := (sk.length : Int) - 1) (by omega) (by omega)
      rw [e]; omega
    have z0 : (0 : Int) ≤ ((sk.length - 1 : Nat) : Int) := by omega
    have z1 : ((sk.length - 1 : Nat) : Int) < (sk.length : Int) := by omega
    obtain ⟨_, hfit2, hput2⟩ := IVec.put hput (i := 0 + ((n : Nat) : Int).toNat * 1) (by rw [List.length_set]; omega) z
    have hble2 : Nat.ble (0 + ((n : Nat) : Int).toNat * 1 + 1) (splice xc (0 + ((n : Nat) : Int).toNat * 1) [.int .i64 0]).size = true := Nat.ble_eq_true_of_le (by omega)
    have hput2' : Vec 42 1 (some ⟨xb, 0, none⟩) sv.length c1 (ints (sv.set n z)) (.blk xb (.cells (splice (splice xc (0 + ((n : Nat) : Int).toNat * 1) [.int .i64 0]) (0 + ((n : Nat) : Int).toNat * 1) [.int .i64 z]) 42 (0, 0))) := by
      have h := hput2
      unfold IVec at h
      rw [List.set_set, List.length_set] at h
      rwa [hn0] at h ⊢
    refine go ?_
    refine WC.draw mixed ?_
    refine WA.tp (i := 0) rfl (by kernel_rfl) (by kernel_rfl) rfl (Gp.fieldAddr rfl) ?_
    refine WA.tp (i := 2) rfl (by kernel_rfl) (by kernel_rfl) rfl (Gp.fieldAddr rfl) ?_
    refine WA.tp (i := 4) rfl (by kernel_rfl) (by kernel_rfl) rfl (Gp.fieldAddr rfl) ?_
    refine WA.tp (i := 6) rfl (by kernel_rfl) (by kernel_rfl) rfl (Gp.fieldAddr rfl) ?_
    (first | (refine WA.tv (i := 7) rfl (by kernel_rfl) (by kernel_rfl) rfl (Gv.load1 rfl (by (repeat first | exact .here | apply At.there)) (by first | rfl | assumption)) ?_) | (refine WA.tv (i := 7) rfl (by kernel_rfl) (by kernel_rfl) rfl (Gv.loadN rfl (by (repeat first | exact .here | apply At.there)) (by rfl) (by rfl)) ?_) | (refine WA.tv (i := 7) rfl (by kernel_rfl) (by kernel_rfl) rfl (Gv.loadG1 rfl (by assumption) rfl) ?_) | (refine WA.tv (i := 7) rfl (by kernel_rfl) (by kernel_rfl) rfl (Gv.loadG0 rfl (by assumption) rfl) ?_) | (refine WA.tv (i := 7) rfl (by kernel_rfl) (by kernel_rfl) rfl (Gv.loadGN rfl (by assumption) rfl) ?_))
    (first | refine WA.tp (i := 8) rfl (by kernel_rfl) (by kernel_rfl) rfl (Gp.lenSl rfl) ?_ | refine WA.tp (i := 8) rfl (by kernel_rfl) (by kernel_rfl) rfl (Gp.lenS rfl) ?_)
    refine WA.tp (i := 9) rfl (by kernel_rfl) (by kernel_rfl) rfl (Gp.sub' rfl rfl y5) ?_
    (first | (refine WA.tv (i := 1) rfl (by kernel_rfl) (by kernel_rfl) rfl (Gv.load1 rfl (by (repeat first | exact .here | apply At.there)) (by first | rfl | assumption)) ?_) | (refine WA.tv (i := 1) rfl (by kernel_rfl) (by kernel_rfl) rfl (Gv.loadN rfl (by (repeat first | exact .here | apply At.there)) (by rfl) (by rfl)) ?_) | (refine WA.tv (i := 1) rfl (by kernel_rfl) (by kernel_rfl) rfl (Gv.loadG1 rfl (by assumption) rfl) ?_) | (refine WA.tv (i := 1) rfl (by kernel_rfl) (by kernel_rfl) rfl (Gv.loadG0 rfl (by assumption) rfl) ?_) | (refine WA.tv (i := 1) rfl (by kernel_rfl) (by kernel_rfl) rfl (Gv.loadGN rfl (by assumption) rfl) ?_))
    (first | (refine WA.tv (i := 3) rfl (by kernel_rfl) (by kernel_rfl) rfl (Gv.load1 rfl (by (repeat first | exact .here | apply At.there)) (by first | rfl | assumption)) ?_) | (refine WA.tv (i := 3) rfl (by kernel_rfl) (by kernel_rfl) rfl (Gv.loadN rfl (by (repeat first | exact .here | apply At.there)) (by rfl) (by rfl)) ?_) | (refine WA.tv (i := 3) rfl (by kernel_rfl) (by kernel_rfl) rfl (Gv.loadG1 rfl (by assumption) rfl) ?_) | (refine WA.tv (i := 3) rfl (by kernel_rfl) (by kernel_rfl) rfl (Gv.loadG0 rfl (by assumption) rfl) ?_) | (refine WA.tv (i := 3) rfl (by kernel_rfl) (by kernel_rfl) rfl (Gv.loadGN rfl (by assumption) rfl) ?_))
    (first | (refine WA.tv (i := 5) rfl (by kernel_rfl) (by kernel_rfl) rfl (Gv.load1 rfl (by (repeat first | exact .here | apply At.there)) (by first | rfl | assumption)) ?_) | (refine WA.tv (i := 5) rfl (by kernel_rfl) (by kernel_rfl) rfl (Gv.loadN rfl (by (repeat first | exact .here | apply At.there)) (by rfl) (by rfl)) ?_) | (refine WA.tv (i := 5) rfl (by kernel_rfl) (by kernel_rfl) rfl (Gv.loadG1 rfl (by assumption) rfl) ?_) | (refine WA.tv (i := 5) rfl (by kernel_rfl) (by kernel_rfl) rfl (Gv.loadG0 rfl (by assumption) rfl) ?_) | (refine WA.tv (i := 5) rfl (by kernel_rfl) (by kernel_rfl) rfl (Gv.loadGN rfl (by assumption) rfl) ?_))
    refine WA.tp (i := 10) rfl (by kernel_rfl) (by kernel_rfl) rfl (Gp.indexAddr rfl rfl (by first | assumption | omega | decide) (by first | assumption | omega | decide | (simp only [List.length_cons, List.length_nil]; decide))) ?_
    refine WA.tv (i := 11) rfl (by kernel_rfl) (by kernel_rfl) rfl (Gv.loadG1 (i := 0) rfl hzc rfl) ?_
    refine WA.tp (i := 12) rfl (by kernel_rfl) (by kernel_rfl) rfl (Gp.indexAddr rfl rfl (by first | assumption | omega | decide) (by first | assumption | omega | decide | (simp only [List.length_cons, List.length_nil]; decide))) ?_
    refine WA.one (i := 13) (by kernel_rfl) rfl (by kernel_rfl) (OW.store (n := 1) (cs := [.int .i64 z]) rfl rfl (by (repeat first | exact .here | apply At.there)) rfl rfl rfl hble2 rfl ?_ rfl)
    refine WA.done (by kernel_rfl) ?_
    refine WK.un ?_
    refine WK.pick [.blk xb (.cells (splice (splice xc (0 + ((n : Nat) : Int).toNat * 1) [.int .i64 0]) (0 + ((n : Nat) : Int).toNat * 1) [.int .i64 z]) 42 (0, 0)), .blk b6 (.cells #[.bool true, .slice (some ⟨xb, 0, none⟩) sv.length c1, .bool false, .slice none 0 0] 95 (0, 0)), .blk b1 (.cells (wdC w CA NA PA cc nc pc) 143 (0, 0)), .blk b2 (.cells (prC p QA qc IA ic) 45 (0, 0)), .blk b3 (.cells #[.int .i64 3, .int .i64 n] 50 (0, 0)), .blk b4 (.cells #[.bool true, .slice VA sv.length vc, .bool false, .slice (some ⟨zb, zo, none⟩) sk.length sc] 95 (0, 0)), .blk b5 (.cells #[.bool false, .slice none 0 0, .bool false, .slice none 0 0] 95 (0, 0))] ?_
    exact WK.meet (.blk xb (.cells (splice (splice xc (0 + ((n : Nat) : Int).toNat * 1) [.int .i64 0]) (0 + ((n : Nat) : Int).toNat * 1) [.int .i64 z]) 42 (0, 0))) (by unfold varsR; rw [if_pos rfl, ht]; exact hput2') (by exact ⟨rfl, rfl, rfl, rfl, rfl, rfl, trivial⟩) rfl (List.Sublist.refl _)
  have hx1v : TVec A1 (varsR (c, (n : Int)) ⟨true, su, sv, sk⟩) c1 o := by unfold TVec IVec; rw [hvl]; exact hx1'
  clear hx1
  refine gom ?_
  refine WL.op (by kernel_rfl) (OW.callK rfl (reffect_fn G w p CA NA PA cc nc pc hW QA IA qc ic VA sv vc hS.vars c n ho) rfl fun v' G' H' h hg => ?_)
  obtain ⟨LA, lc, he, hg1, hs1, rfl⟩ := h
  cases he
  obtain ⟨tk, htke⟩ : ∃ tk, tk = (effC w sv (c, n)).1 := ⟨_, rfl⟩
  obtain ⟨ly, hlye⟩ : ∃ ly, ly = (effC w sv (c, n)).2 := ⟨_, rfl⟩
  rw [← htke] at htk
  rw [← hlye] at hly hs1
  rw [← htke, ← hlye]
  refine WL.pick [o, .blk b6 (.cells #[.bool true, .slice A1 sv.length c1, .bool false, .slice none 0 0] 95 (0, 0)), .blk b1 (.cells (wdC w CA NA PA cc nc pc) 143 (0, 0)), .blk b2 (.cells (prC p QA qc IA ic) 45 (0, 0)), .blk b3 (.cells #[.int .i64 c, .int .i64 n] 50 (0, 0)), .blk b4 (.cells #[.bool true, .slice VA sv.length vc, .bool su, .slice SA sk.length sc] 95 (0, 0)), .blk b5 (.cells #[.bool false, .slice none 0 0, .bool false, .slice none 0 0] 95 (0, 0))] ?_
  have y1 : IntKind.i64.wrap ((sk.length : Int) - (tk : Int)) = (sk.length : Int) - (tk : Int) := wrapI (by omega) (by omega)
  by_cases hb : badS w (c, (n : Int)) ⟨true, su, sv, sk⟩
  · have he1 : behR w (c, (n : Int)) ⟨true, su, sv, sk⟩ = ⟨true, true, varsR (c, (n : Int)) ⟨true, su, sv, sk⟩, []⟩ := by unfold behR; rw [if_pos hb]
    rw [he1]
    have hb' : su = true ∨ (sk.length < tk ∨ 128 < sk.length - tk + ly.length) := by unfold badS at hb; rw [htke, hlye]; exact hb
    cases su with
    | true =>
      refine gom ?_
      refine WC.frozenVec hx1v (by (repeat first | exact .here | apply At.there)) fun G3 h3 z3 => ?_
      refine WC.ret ?_
      refine WK.un ?_
      exact QF.p1 (.inl rfl) rfl (.cell rfl inferInstance inferInstance (by (repeat first | exact .here | apply At.there)) rfl rfl) (⟨A1, c1, none, 0, by show _ = Ending.returned (.agg #[.bool true, .slice A1 (varsR (c, (n : Int)) ⟨true, true, sv, sk⟩).length c1, .bool true, .slice none 0 0]); rw [hvl]; first | done | rfl, Gh.le_trans hg1 h3, ⟨hx1v.le, Nat.le_refl _, IVec.sl z3, Sl.nil _ _ _⟩, rfl⟩)
    | false =>
    by_cases h1 : sk.length < tk
    · have y7 : decide ((sk.length : Int) < (tk : Int)) = true := decide_eq_true (by omega)
      refine gom ?_
      refine WC.frozenVec hx1v (by (repeat first | exact .here | apply At.there)) fun G3 h3 z3 => ?_
      refine WC.ret ?_
      refine WK.un ?_
      exact QF.p1 (.inl rfl) rfl (.cell rfl inferInstance inferInstance (by (repeat first | exact .here | apply At.there)) rfl rfl) (⟨A1, c1, none, 0, by show _ = Ending.returned (.agg #[.bool true, .slice A1 (varsR (c, (n : Int)) ⟨true, false, sv, sk⟩).length c1, .bool true, .slice none 0 0]); rw [hvl]; first | done | rfl, Gh.le_trans hg1 h3, ⟨hx1v.le, Nat.le_refl _, IVec.sl z3, Sl.nil _ _ _⟩, rfl⟩)
    · have y7 : decide ((sk.length : Int) < (tk : Int)) = false := decide_eq_false (by omega)
      have h2 : 128 < sk.length - tk + ly.length := by
        rcases hb' with h | h | h
        · cases h
        · exact absurd h h1
        · exact h
      have y8 : IntKind.i64.wrap ((sk.length : Int) - (tk : Int) + (ly.length : Int)) = (sk.length : Int) - (tk : Int) + (ly.length : Int) := wrapI (by omega) (by omega)
      have y9 : decide ((128 : Int) < (sk.length : Int) - (tk : Int) + (ly.length : Int)) = true := decide_eq_true (by omega)
      refine gom ?_
      refine WC.frozenVec hx1v (by (repeat first | exact .here | apply At.there)) fun G3 h3 z3 => ?_
      refine WC.ret ?_
      refine WK.un ?_
      exact QF.p1 (.inl rfl) rfl (.cell rfl inferInstance inferInstance (by (repeat first | exact .here | apply At.there)) rfl rfl) (⟨A1, c1, none, 0, by show _ = Ending.returned (.agg #[.bool true, .slice A1 (varsR (c, (n : Int)) ⟨true, false, sv, sk⟩).length c1, .bool true, .slice none 0 0]); rw [hvl]; first | done | rfl, Gh.le_trans hg1 h3, ⟨hx1v.le, Nat.le_refl _, IVec.sl z3, Sl.nil _ _ _⟩, rfl⟩)
  · have he1 : behR w (c, (n : Int)) ⟨true, su, sv, sk⟩ = ⟨true, false, varsR (c, (n : Int)) ⟨true, su, sv, sk⟩, sk.take (sk.length - tk) ++ ly⟩ := by unfold behR; rw [if_neg hb, htke, hlye]
    have hb' : ¬ (su = true ∨ (sk.length < tk ∨ 128 < sk.length - tk + ly.length)) := by unfold badS at hb; rw [htke, hlye]; exact hb
    rw [he1]
    have hus : su = false := by cases h : su with | false => rfl | true => exact absurd (.inl h) hb'
    subst hus
    have h1 : ¬ sk.length < tk := fun h => hb' (.inr (.inl h))
    have h2 : ¬ 128 < sk.length - tk + ly.length := fun h => hb' (.inr (.inr h))
    have y7 : decide ((sk.length : Int) < (tk : Int)) = false := decide_eq_false (by omega)
    have y8 : IntKind.i64.wrap ((sk.length : Int) - (tk : Int) + (ly.length : Int)) = (sk.length : Int) - (tk : Int) + (ly.length : Int) := wrapI (by omega) (by omega)
    have y9 : decide ((128 : Int) < (sk.length : Int) - (tk : Int) + (ly.length : Int)) = false := decide_eq_false (by omega)
    have hsc := hS.hs
    dsimp only at hsc
    have e5 : ((sk.length : Int) - (tk : Int)).toNat = sk.length - tk := by omega
    refine WL.nothing ?_
    refine go ?_
    refine WC.draw mixed ?_
    have hcut := Sl.takeV hS.stack (sk.length - tk)
    have hcl : (sk.take (sk.length - tk)).length = sk.length - tk := by rw [List.length_take]; omega
    refine WA.tp (i := 0) rfl (by kernel_rfl) (by kernel_rfl) rfl (Gp.fieldAddr rfl) ?_
    refine WA.tp (i := 2) rfl (by kernel_rfl) (by kernel_rfl) rfl (Gp.fieldAddr rfl) ?_
    refine WA.tp (i := 4) rfl (by kernel_rfl) (by kernel_rfl) rfl (Gp.fieldAddr rfl) ?_
    (first | (refine WA.tv (i := 5) rfl (by kernel_rfl) (by kernel_rfl) rfl (Gv.load1 rfl (by (repeat first | exact .here | apply At.there)) (by first | rfl | assumption)) ?_) | (refine WA.tv (i := 5) rfl (by kernel_rfl) (by kernel_rfl) rfl (Gv.loadN rfl (by (repeat first | exact .here | apply At.there)) (by rfl) (by rfl)) ?_) | (refine WA.tv (i := 5) rfl (by kernel_rfl) (by kernel_rfl) rfl (Gv.loadG1 rfl (by assumption) rfl) ?_) | (refine WA.tv (i := 5) rfl (by kernel_rfl) (by kernel_rfl) rfl (Gv.loadG0 rfl (by assumption) rfl) ?_) | (refine WA.tv (i := 5) rfl (by kernel_rfl) (by kernel_rfl) rfl (Gv.loadGN rfl (by assumption) rfl) ?_))
    (first | refine WA.tp (i := 6) rfl (by kernel_rfl) (by kernel_rfl) rfl (Gp.lenSl rfl) ?_ | refine WA.tp (i := 6) rfl (by kernel_rfl) (by kernel_rfl) rfl (Gp.lenS rfl) ?_)
    refine WA.tp (i := 7) rfl (by kernel_rfl) (by kernel_rfl) rfl (Gp.move rfl) ?_
    refine WA.tp (i := 8) rfl (by kernel_rfl) (by kernel_rfl) rfl (Gp.sub' rfl rfl y1) ?_
    (first | (refine WA.tv (i := 1) rfl (by kernel_rfl) (by kernel_rfl) rfl (Gv.load1 rfl (by (repeat first | exact .here | apply At.there)) (by first | rfl | assumption)) ?_) | (refine WA.tv (i := 1) rfl (by kernel_rfl) (by kernel_rfl) rfl (Gv.loadN rfl (by (repeat first | exact .here | apply At.there)) (by rfl) (by rfl)) ?_) | (refine WA.tv (i := 1) rfl (by kernel_rfl) (by kernel_rfl) rfl (Gv.loadG1 rfl (by assumption) rfl) ?_) | (refine WA.tv (i := 1) rfl (by kernel_rfl) (by kernel_rfl) rfl (Gv.loadG0 rfl (by assumption) rfl) ?_) | (refine WA.tv (i := 1) rfl (by kernel_rfl) (by kernel_rfl) rfl (Gv.loadGN rfl (by assumption) rfl) ?_))
    (first | (refine WA.tv (i := 3) rfl (by kernel_rfl) (by kernel_rfl) rfl (Gv.load1 rfl (by (repeat first | exact .here | apply At.there)) (by first | rfl | assumption)) ?_) | (refine WA.tv (i := 3) rfl (by kernel_rfl) (by kernel_rfl) rfl (Gv.loadN rfl (by (repeat first | exact .here | apply At.there)) (by rfl) (by rfl)) ?_) | (refine WA.tv (i := 3) rfl (by kernel_rfl) (by kernel_rfl) rfl (Gv.loadG1 rfl (by assumption) rfl) ?_) | (refine WA.tv (i := 3) rfl (by kernel_rfl) (by kernel_rfl) rfl (Gv.loadG0 rfl (by assumption) rfl) ?_) | (refine WA.tv (i := 3) rfl (by kernel_rfl) (by kernel_rfl) rfl (Gv.loadGN rfl (by assumption) rfl) ?_))
    refine WA.tp (i := 9) rfl (by kernel_rfl) (by kernel_rfl) rfl (Gp.sliceTo rfl rfl (by omega) (by omega)) ?_
    refine WA.one (i := 10) (by kernel_rfl) rfl (by kernel_rfl) (OW.append rfl rfl (by kernel_rfl) (by kernel_rfl) TVec.nilv (by (repeat first | exact .here | apply At.there)) (hcut.mono hg1).ints (by rw [ints_length, hcl, e5]) (ints_one _) (by first | omega | (dsimp only; omega)) (by first | omega | (dsimp only; omega)) rfl fun A3 c3 o3 hv3 => ?_)
    refine WA.tp (i := 11) rfl (by kernel_rfl) (by kernel_rfl) rfl (Gp.fieldAddr rfl) ?_
    refine WA.one (i := 12) (by kernel_rfl) rfl (by kernel_rfl) (OW.store rfl rfl (by (repeat first | exact .here | apply At.there)) rfl (by rfl) (by rfl) (by kernel_rfl) (by rfl) ?_ rfl)
    refine WA.done (by kernel_rfl) ?_
    refine WK.un ?_
    refine gom ?_
    have hln : ints (sk.take (sk.length - tk) ++ ly) = ([] ++ ints (sk.take (sk.length - tk))) ++ ints ly := by rw [ints_append, List.nil_append]
    have hle : (sk.take (sk.length - tk) ++ ly).length = 0 + ((sk.length : Int) - (tk : Int)).toNat + ly.length := by rw [List.length_append, hcl, Nat.zero_add, e5]
    refine WL.op (by kernel_rfl) (OW.append rfl rfl (by kernel_rfl) (by kernel_rfl) hv3 (by (repeat first | exact .here | apply At.there)) hs1.ints (ints_length _) (ints_one _) (by first | omega | (dsimp only; omega)) (by first | omega | (dsimp only; omega)) rfl fun A4 c4 o4 hv4 => ?_)
    rw [← hln] at hv4
    refine gom ?_
    refine WC.frozenVec hx1v (by (repeat first | exact .here | apply At.there)) fun G3 h3 z3 => ?_
    refine WC.frozenVec hv4 (by (repeat first | exact .here | apply At.there)) fun G4 h4 z4 => ?_
    refine WC.ret ?_
    refine WK.un ?_
    exact QF.p1 (.inl rfl) rfl (.cell rfl inferInstance inferInstance (by (repeat first | exact .here | apply At.there)) rfl rfl) (⟨A1, c1, A4, c4, by show _ = Ending.returned (.agg #[.bool true, .slice A1 (varsR (c, (n : Int)) ⟨true, false, sv, sk⟩).length c1, .bool false, .slice A4 (sk.take (sk.length - tk) ++ ly).length c4]); rw [hvl, hle]; first | done | rfl, Gh.le_trans hg1 (Gh.le_trans h3 h4), ⟨hx1v.le, by rw [hle]; exact hv4.le, (IVec.sl z3).mono h4, IVec.sl z4⟩, rfl⟩)
end
end Go.Proofs.YtkmigdmdppkpoaaGreatDoor.Gb
