/- Two values are compared by their order. -/
import Derived.Test.YtjgohbepageicaaVf
namespace Go.Proofs.Ytjgohbepageicaa.Gb
open Go Go.Proofs
set_option linter.unusedVariables false
attribute [local irreducible] Try.prog

def ordN (u v : V) : Int := if cmpI u.i v.i = 0 then cmpS u.s v.s else cmpI u.i v.i
def ordS (c : Int) (u v : V) : Bool := if c = 14 then decide (ordN u v < 0) else if c = 15 then decide (ordN u v ≤ 0) else if c = 16 then decide (0 < ordN u v) else decide (0 ≤ ordN u v)
def ordOK (u v : V) : Prop := u.t = v.t ∧ (u.t = 1 ∨ u.t = 3)

theorem two_at {c : Array Value} {l : List Value} {n j : Nat} {w : Value} (h : c.toList.take n = l) (hw : l[j]? = some w) : c[j]? = some w := by
  subst h
  rw [List.getElem?_take] at hw
  split at hw
  · rw [← Array.getElem?_toList]; exact hw
  · cases hw

theorem two_lo {c : Array Value} {u v : V} {n j : Nat} {w : Value} (h : c.toList.take n = vflat [u, v]) (hw : (vcells u)[j]? = some w) : c[0 + (0 : Int).toNat * 4 + j]? = some w := by
  have hj : j < (vcells u).length := (List.getElem?_eq_some_iff.1 hw).1
  have e : (0 + (0 : Int).toNat * 4 + j) = j := by simp
  rw [e]
  refine two_at h ?_
  show (vcells u ++ (vcells v ++ []))[j]? = _
  rw [List.getElem?_append_left hj]; exact hw

theorem two_hi {c : Array Value} {u v : V} {n j : Nat} {w : Value} (h : c.toList.take n = vflat [u, v]) (hw : (vcells v)[j]? = some w) : c[0 + (1 : Int).toNat * 4 + j]? = some w := by
  have hj : j < (vcells v).length := (List.getElem?_eq_some_iff.1 hw).1
  have e : (0 + (1 : Int).toNat * 4 + j) = 4 + j := by simp
  rw [e]
  refine two_at h ?_
  show (vcells u ++ (vcells v ++ []))[4 + j]? = _
  rw [List.getElem?_append_right (by show 4 ≤ 4 + j; omega)]
  show (vcells v ++ [])[4 + j - 4]? = _
  rw [Nat.add_sub_cancel_left, List.append_nil]; exact hw

theorem ordered_fn (G : Gh) (mv : Value) (b : Nat) (A : Option Addr) (cap : Nat) (p a : Int) (B : Option Addr) (m cm : Nat) (l1 : List V) (u v : V) (x : Own) (c : Int) (hv : VVec A cap (l1 ++ [u, v]) x) (hb : l1.length + 2 ≤ 1000000000) :
    Fn Try.prog 84 #[mv, .pointer (some ⟨b, 0, none⟩), .int .i64 c] G [frB b A (l1 ++ [u, v]).length cap p a B m cm, x]
      fun e G' H' => G = G' ∧ ((e = .returned (.bool (ordS c u v)) ∧ ordOK u v ∧ H' = [frB b A l1.length cap p a B m cm, x] ∧ VVec A cap l1 x) ∨ (e = halted 6 ∧ ¬ ordOK u v ∧ Left b H')) := by
  refine Fn.enter Try.func84 rfl rfl fun w0 => ?_
  refine WC.seq ?_
  refine WC.region ?_
  refine WL.p (Gp.assign rfl) (by kernel_rfl) rfl ?_
  refine WL.nil ?_
  refine WK.un ?_
  refine WC.seq ?_
  refine WC.region ?_
  refine WL.p (Gp.move rfl) (by kernel_rfl) rfl ?_
  refine WL.p (Gp.move rfl) (by kernel_rfl) rfl ?_
  refine WL.op (by kernel_rfl) (OW.callR rfl (perm_all _) (take_ok G mv b A cap p a B m cm l1 [u, v] x hv hb) rfl (by rintro e G' H' ⟨_, _, _, h, _⟩; exact ⟨_, h⟩) fun v' G' H' h hg => ?_)
  obtain ⟨A', cap', x', he, rfl, rfl, hv1, hv2⟩ := h
  cases he
  refine WL.p (Gp.assign rfl) (by kernel_rfl) rfl ?_
  refine WL.nil ?_
  refine WK.un ?_
  obtain ⟨hl, ⟨h1, h2, h3, h4⟩ | ⟨b', c', rfl, rfl, h1, h2, h3⟩⟩ := hv1
  · simp at h2
  have hc0 : ∀ (j : Nat) (w : Value), (vcells u)[j]? = some w → c'[0 + (0 : Int).toNat * 4 + j]? = some w := fun j w hw => two_lo h3 hw
  have hc1 : ∀ (j : Nat) (w : Value), (vcells v)[j]? = some w → c'[0 + (1 : Int).toNat * 4 + j]? = some w := fun j w hw => two_hi h3 hw
  refine WC.join (X := Unit) (fun _ => [(7, .slice (some ⟨b', 0, none⟩) 2 cap'), (2, .int .i64 c)]) (fun _ => G) (fun _ => [.blk b' (.cells c' 33 (0, 0)), frB b A l1.length cap p a B m cm, x]) (fun _ => ordOK u v) ?_ fun _ hok => ?_
  · refine WC.draw mixed ?_
    refine WA.tp (i := 0) rfl (by kernel_rfl) (by kernel_rfl) rfl (Gp.move rfl) ?_
    refine WA.tp (i := 1) rfl (by kernel_rfl) (by kernel_rfl) rfl (Gp.indexAddr rfl rfl (by first | assumption | omega | decide) (by first | assumption | omega | decide | (simp only [List.length_cons, List.length_nil]; decide))) ?_
    refine WA.tp (i := 2) rfl (by kernel_rfl) (by kernel_rfl) rfl (Gp.fieldAddr rfl) ?_
    refine WA.tv (i := 3) rfl (by kernel_rfl) (by kernel_rfl) rfl (Gv.load1 rfl .here (hc0 0 _ rfl)) ?_
    refine WA.tp (i := 4) rfl (by kernel_rfl) (by kernel_rfl) rfl (Gp.move rfl) ?_
    refine WA.tp (i := 5) rfl (by kernel_rfl) (by kernel_rfl) rfl (Gp.indexAddr rfl rfl (by first | assumption | omega | decide) (by first | assumption | omega | decide | (simp only [List.length_cons, List.length_nil]; decide))) ?_
    refine WA.tp (i := 6) rfl (by kernel_rfl) (by kernel_rfl) rfl (Gp.fieldAddr rfl) ?_
    refine WA.tv (i := 7) rfl (by kernel_rfl) (by kernel_rfl) rfl (Gv.load1 rfl .here (hc1 0 _ rfl)) ?_
    (first | refine WA.tp (i := 8) rfl (by kernel_rfl) (by kernel_rfl) rfl (Gp.eqI rfl rfl) ?_ | refine WA.tp (i := 8) rfl (by kernel_rfl) (by kernel_rfl) rfl (Gp.eqS rfl rfl) ?_ | refine WA.tp (i := 8) rfl (by kernel_rfl) (by kernel_rfl) rfl (Gp.nilSl rfl) ?_ | refine WA.tp (i := 8) rfl (by kernel_rfl) (by kernel_rfl) rfl (Gp.eqB rfl rfl) ?_)
    refine WA.tp (i := 9) rfl (by kernel_rfl) (by kernel_rfl) rfl (Gp.move rfl) ?_
    by_cases e1 : u.t = v.t
    · rw [show (u.t == v.t) = true by simpa using e1]
      refine WA.tp (i := 10) rfl (by kernel_rfl) (by kernel_rfl) rfl (Gp.move rfl) ?_
      refine WA.tp (i := 11) rfl (by kernel_rfl) (by kernel_rfl) rfl (Gp.indexAddr rfl rfl (by first | assumption | omega | decide) (by first | assumption | omega | decide | (simp only [List.length_cons, List.length_nil]; decide))) ?_
      refine WA.tp (i := 12) rfl (by kernel_rfl) (by kernel_rfl) rfl (Gp.fieldAddr rfl) ?_
      refine WA.tv (i := 13) rfl (by kernel_rfl) (by kernel_rfl) rfl (Gv.load1 rfl .here (hc0 0 _ rfl)) ?_
      (first | refine WA.tp (i := 14) rfl (by kernel_rfl) (by kernel_rfl) rfl (Gp.eqI rfl rfl) ?_ | refine WA.tp (i := 14) rfl (by kernel_rfl) (by kernel_rfl) rfl (Gp.eqS rfl rfl) ?_ | refine WA.tp (i := 14) rfl (by kernel_rfl) (by kernel_rfl) rfl (Gp.nilSl rfl) ?_ | refine WA.tp (i := 14) rfl (by kernel_rfl) (by kernel_rfl) rfl (Gp.eqB rfl rfl) ?_)
      refine WA.tp (i := 15) rfl (by kernel_rfl) (by kernel_rfl) rfl (Gp.move rfl) ?_
      by_cases e2 : u.t = 1
      · rw [show (u.t == 1) = true by simpa using e2]
        refine WA.sp (i := 16) rfl (by kernel_rfl) (by kernel_rfl) rfl ?_
        refine WA.sp (i := 17) rfl (by kernel_rfl) (by kernel_rfl) rfl ?_
        refine WA.sp (i := 18) rfl (by kernel_rfl) (by kernel_rfl) rfl ?_
        refine WA.sp (i := 19) rfl (by kernel_rfl) (by kernel_rfl) rfl ?_
        refine WA.sp (i := 20) rfl (by kernel_rfl) (by kernel_rfl) rfl ?_
        (first | refine WA.tp (i := 21) rfl (by kernel_rfl) (by kernel_rfl) rfl (Gp.pickT rfl rfl) ?_ | refine WA.tp (i := 21) rfl (by kernel_rfl) (by kernel_rfl) rfl (Gp.pickF rfl rfl) ?_)
        (first | refine WA.tp (i := 22) rfl (by kernel_rfl) (by kernel_rfl) rfl (Gp.pickT rfl rfl) ?_ | refine WA.tp (i := 22) rfl (by kernel_rfl) (by kernel_rfl) rfl (Gp.pickF rfl rfl) ?_)
        refine WA.one (i := 23) (by kernel_rfl) rfl (by kernel_rfl) (OW.callR rfl (Hf := []) (List.Perm.refl _) (need_ok G) rfl (by rintro e G' H' ⟨h, _⟩; exact ⟨_, h⟩) fun v' G' H' h hg => ?_)
        obtain ⟨he, rfl, rfl⟩ := h
        cases he
        refine WA.done (by kernel_rfl) ?_
        refine WK.un ?_
        exact WK.meet () ⟨e1, .inl e2⟩ (by exact ⟨rfl, rfl, trivial⟩) rfl (List.Sublist.refl _)
      · rw [show (u.t == 1) = false by simpa using e2]
        refine WA.tp (i := 16) rfl (by kernel_rfl) (by kernel_rfl) rfl (Gp.move rfl) ?_
        refine WA.tp (i := 17) rfl (by kernel_rfl) (by kernel_rfl) rfl (Gp.indexAddr rfl rfl (by first | assumption | omega | decide) (by first | assumption | omega | decide | (simp only [List.length_cons, List.length_nil]; decide))) ?_
        refine WA.tp (i := 18) rfl (by kernel_rfl) (by kernel_rfl) rfl (Gp.fieldAddr rfl) ?_
        refine WA.tv (i := 19) rfl (by kernel_rfl) (by kernel_rfl) rfl (Gv.load1 rfl .here (hc0 0 _ rfl)) ?_
        (first | refine WA.tp (i := 20) rfl (by kernel_rfl) (by kernel_rfl) rfl (Gp.eqI rfl rfl) ?_ | refine WA.tp (i := 20) rfl (by kernel_rfl) (by kernel_rfl) rfl (Gp.eqS rfl rfl) ?_ | refine WA.tp (i := 20) rfl (by kernel_rfl) (by kernel_rfl) rfl (Gp.nilSl rfl) ?_ | refine WA.tp (i := 20) rfl (by kernel_rfl) (by kernel_rfl) rfl (Gp.eqB rfl rfl) ?_)
        (first | refine WA.tp (i := 21) rfl (by kernel_rfl) (by kernel_rfl) rfl (Gp.pickT rfl rfl) ?_ | refine WA.tp (i := 21) rfl (by kernel_rfl) (by kernel_rfl) rfl (Gp.pickF rfl rfl) ?_)
        (first | refine WA.tp (i := 22) rfl (by kernel_rfl) (by kernel_rfl) rfl (Gp.pickT rfl rfl) ?_ | refine WA.tp (i := 22) rfl (by kernel_rfl) (by kernel_rfl) rfl (Gp.pickF rfl rfl) ?_)
        by_cases e3 : u.t = 3
        · rw [show (u.t == 3) = true by simpa using e3]
          refine WA.one (i := 23) (by kernel_rfl) rfl (by kernel_rfl) (OW.callR rfl (Hf := []) (List.Perm.refl _) (need_ok G) rfl (by rintro e G' H' ⟨h, _⟩; exact ⟨_, h⟩) fun v' G' H' h hg => ?_)
          obtain ⟨he, rfl, rfl⟩ := h
          cases he
          refine WA.done (by kernel_rfl) ?_
          refine WK.un ?_
          exact WK.meet () ⟨e1, .inr e3⟩ (by exact ⟨rfl, rfl, trivial⟩) rfl (List.Sublist.refl _)
        · rw [show (u.t == 3) = false by simpa using e3]
          refine WA.one (i := 23) (by kernel_rfl) rfl (by kernel_rfl) (OW.call rfl (Hf := []) (List.Perm.refl _) (need_no G) rfl (fun v G' H' h _ => by cases h.1) (fun ch G' H' h _ => ?_) (fun G' H' h => by cases h.1))
          obtain ⟨he, rfl, rfl⟩ := h
          cases he
          refine WK.un ?_
          exact QF.panic (H' := [frB b A l1.length cap p a B m cm]) (by exact .cons _ (.cons_cons _ (List.nil_sublist _))) ⟨rfl, .inr ⟨rfl, fun h => h.2.elim e2 e3, Left.of ..⟩⟩
    · rw [show (u.t == v.t) = false by simpa using e1]
      refine WA.sp (i := 10) rfl (by kernel_rfl) (by kernel_rfl) rfl ?_
      refine WA.sp (i := 11) rfl (by kernel_rfl) (by kernel_rfl) rfl ?_
      refine WA.sp (i := 12) rfl (by kernel_rfl) (by kernel_rfl) rfl ?_
      refine WA.sp (i := 13) rfl (by kernel_rfl) (by kernel_rfl) rfl ?_
      refine WA.sp (i := 14) rfl (by kernel_rfl) (by kernel_rfl) rfl ?_
      refine WA.sp (i := 15) rfl (by kernel_rfl) (by kernel_rfl) rfl ?_
      refine WA.sp (i := 16) rfl (by kernel_rfl) (by kernel_rfl) rfl ?_
      refine WA.sp (i := 17) rfl (by kernel_rfl) (by kernel_rfl) rfl ?_
      refine WA.sp (i := 18) rfl (by kernel_rfl) (by kernel_rfl) rfl ?_
      refine WA.sp (i := 19) rfl (by kernel_rfl) (by kernel_rfl) rfl ?_
      refine WA.sp (i := 20) rfl (by kernel_rfl) (by kernel_rfl) rfl ?_
      refine WA.sp (i := 21) rfl (by kernel_rfl) (by kernel_rfl) rfl ?_
      (first | refine WA.tp (i := 22) rfl (by kernel_rfl) (by kernel_rfl) rfl (Gp.pickT rfl rfl) ?_ | refine WA.tp (i := 22) rfl (by kernel_rfl) (by kernel_rfl) rfl (Gp.pickF rfl rfl) ?_)
      refine WA.one (i := 23) (by kernel_rfl) rfl (by kernel_rfl) (OW.call rfl (Hf := []) (List.Perm.refl _) (need_no G) rfl (fun v G' H' h _ => by cases h.1) (fun ch G' H' h _ => ?_) (fun G' H' h => by cases h.1))
      obtain ⟨he, rfl, rfl⟩ := h
      cases he
      refine WK.un ?_
      exact QF.panic (H' := [frB b A l1.length cap p a B m cm]) (by exact .cons _ (.cons_cons _ (List.nil_sublist _))) ⟨rfl, .inr ⟨rfl, fun h => e1 h.1, Left.of ..⟩⟩
  refine WC.seq ?_
  refine WC.drawB mixed ?_
  refine WB.tp (i := 0) rfl (by kernel_rfl) (by kernel_rfl) rfl (Gp.move rfl) ?_
  refine WB.tp (i := 1) rfl (by kernel_rfl) (by kernel_rfl) rfl (Gp.indexAddr rfl rfl (by first | assumption | omega | decide) (by first | assumption | omega | decide | (simp only [List.length_cons, List.length_nil]; decide))) ?_
  refine WB.tp (i := 2) rfl (by kernel_rfl) (by kernel_rfl) rfl (Gp.fieldAddr rfl) ?_
  refine WB.tv (i := 3) rfl (by kernel_rfl) (by kernel_rfl) rfl (Gv.load1 rfl .here (hc0 1 _ rfl)) ?_
  refine WB.tp (i := 4) rfl (by kernel_rfl) (by kernel_rfl) rfl (Gp.move rfl) ?_
  refine WB.tp (i := 5) rfl (by kernel_rfl) (by kernel_rfl) rfl (Gp.indexAddr rfl rfl (by first | assumption | omega | decide) (by first | assumption | omega | decide | (simp only [List.length_cons, List.length_nil]; decide))) ?_
  refine WB.tp (i := 6) rfl (by kernel_rfl) (by kernel_rfl) rfl (Gp.fieldAddr rfl) ?_
  refine WB.tv (i := 7) rfl (by kernel_rfl) (by kernel_rfl) rfl (Gv.load1 rfl .here (hc1 1 _ rfl)) ?_
  refine WB.tp (i := 9) rfl (by kernel_rfl) (by kernel_rfl) rfl (Gp.move rfl) ?_
  refine WB.tp (i := 10) rfl (by kernel_rfl) (by kernel_rfl) rfl (Gp.indexAddr rfl rfl (by first | assumption | omega | decide) (by first | assumption | omega | decide | (simp only [List.length_cons, List.length_nil]; decide))) ?_
  refine WB.tp (i := 11) rfl (by kernel_rfl) (by kernel_rfl) rfl (Gp.fieldAddr rfl) ?_
  refine WB.tv (i := 12) rfl (by kernel_rfl) (by kernel_rfl) rfl (Gv.load1 rfl .here (hc0 3 _ rfl)) ?_
  refine WB.tp (i := 13) rfl (by kernel_rfl) (by kernel_rfl) rfl (Gp.move rfl) ?_
  refine WB.tp (i := 14) rfl (by kernel_rfl) (by kernel_rfl) rfl (Gp.indexAddr rfl rfl (by first | assumption | omega | decide) (by first | assumption | omega | decide | (simp only [List.length_cons, List.length_nil]; decide))) ?_
  refine WB.tp (i := 15) rfl (by kernel_rfl) (by kernel_rfl) rfl (Gp.fieldAddr rfl) ?_
  refine WB.tv (i := 16) rfl (by kernel_rfl) (by kernel_rfl) rfl (Gv.load1 rfl .here (hc1 3 _ rfl)) ?_
  refine WB.one (i := 8) (by kernel_rfl) rfl (by kernel_rfl) (OW.callR rfl (Hf := []) (List.Perm.refl _) (compareI_fn G _ _) rfl (by rintro e G' H' ⟨h, _⟩; exact ⟨_, h⟩) fun v' G' H' h hg => ?_)
  obtain ⟨he, rfl, rfl⟩ := h
  cases he
  refine ⟨fun w hw => hw.leSub (Gh.le_refl _) (List.Sublist.refl _), ?_⟩
  refine WB.one (i := 17) (by kernel_rfl) rfl (by kernel_rfl) (OW.callR rfl (Hf := []) (List.Perm.refl _) (compareS_fn G _ _) rfl (by rintro e G' H' ⟨h, _⟩; exact ⟨_, h⟩) fun v' G' H' h hg => ?_)
  obtain ⟨he, rfl, rfl⟩ := h
  cases he
  refine ⟨fun w hw => hw.leSub (Gh.le_refl _) (List.Sublist.refl _), ?_⟩
  refine WB.one (i := 18) (by kernel_rfl) rfl (by kernel_rfl) (OW.buildSlice rfl (by kernel_rfl) (by kernel_rfl) (by rfl) rfl fun b3 => ?_)
  refine ⟨fun w hw => hw.leSub (Gh.le_refl _) (List.sublist_cons_self _ _), ?_⟩
  refine WB.one (i := 19) (by kernel_rfl) rfl (by kernel_rfl) (OW.callR rfl (perm_at .here) (or_fn G b3 _ _) rfl (by rintro e G' H' ⟨h, _⟩; exact ⟨_, h⟩) fun v' G' H' h hg => ?_)
  obtain ⟨he, rfl, rfl⟩ := h
  cases he
  refine ⟨fun w hw => hw.leSub (Gh.le_refl _) (List.Sublist.refl _), ?_⟩
  refine WB.tp (i := 20) rfl (by kernel_rfl) (by kernel_rfl) rfl (Gp.assign rfl) ?_
  refine WB.done (by kernel_rfl) ?_
  refine WK.un ?_
  refine WC.seq ?_
  refine WC.seq ?_
  refine WC.region ?_
  refine WL.p (Gp.move rfl) (by kernel_rfl) rfl ?_
  refine WL.nil ?_
  refine WK.un ?_
  refine WC.block ?_  -- 0
  refine WC.seq ?_
  refine WC.region ?_
  (first | refine WL.p (Gp.eqI rfl rfl) (by kernel_rfl) rfl ?_ | refine WL.p (Gp.eqS rfl rfl) (by kernel_rfl) rfl ?_ | refine WL.p (Gp.nilSl rfl) (by kernel_rfl) rfl ?_ | refine WL.p (Gp.eqB rfl rfl) (by kernel_rfl) rfl ?_)
  refine WL.p (Gp.assign rfl) (by kernel_rfl) rfl ?_
  refine WL.nil ?_
  refine WK.un ?_
  refine WC.cond rfl (fun hc2 => ?_) (fun hc2 => ?_)
  · -- yes
    refine WC.seq ?_
    refine WC.region ?_
    refine WL.p (Gp.move rfl) (by kernel_rfl) rfl ?_
    (first | refine WL.p (Gp.ltI rfl rfl) (by kernel_rfl) rfl ?_ | refine WL.p (Gp.ltS rfl rfl) (by kernel_rfl) rfl ?_)
    refine WL.p (Gp.assign rfl) (by kernel_rfl) rfl ?_
    refine WL.nil ?_
    refine WK.un ?_
    refine WC.ret ?_
    (refine WK.un ?_)
    exact QF.ret1 (.inl rfl) rfl (.tmp rfl) (by exact .cons _ (List.Sublist.refl _)) ⟨rfl, .inl ⟨by rw [ordS, if_pos (show c = 14 by simpa using hc2)]; rfl, hok, rfl, hv2⟩⟩
  · -- no
    have h14 : ¬ c = 14 := by simpa using hc2
    refine WC.seq ?_
    refine WC.region ?_
    (first | refine WL.p (Gp.eqI rfl rfl) (by kernel_rfl) rfl ?_ | refine WL.p (Gp.eqS rfl rfl) (by kernel_rfl) rfl ?_ | refine WL.p (Gp.nilSl rfl) (by kernel_rfl) rfl ?_ | refine WL.p (Gp.eqB rfl rfl) (by kernel_rfl) rfl ?_)
    refine WL.p (Gp.assign rfl) (by kernel_rfl) rfl ?_
    refine WL.nil ?_
    refine WK.un ?_
    refine WC.cond rfl (fun hc2 => ?_) (fun hc2 => ?_)
    · -- yes
      refine WC.seq ?_
      refine WC.region ?_
      refine WL.p (Gp.move rfl) (by kernel_rfl) rfl ?_
      (first | refine WL.p (Gp.leI rfl rfl) (by kernel_rfl) rfl ?_ | refine WL.p (Gp.leS rfl rfl) (by kernel_rfl) rfl ?_)
      refine WL.p (Gp.assign rfl) (by kernel_rfl) rfl ?_
      refine WL.nil ?_
      refine WK.un ?_
      refine WC.ret ?_
      (refine WK.un ?_)
      exact QF.ret1 (.inl rfl) rfl (.tmp rfl) (by exact .cons _ (List.Sublist.refl _)) ⟨rfl, .inl ⟨by rw [ordS, if_neg h14, if_pos (show c = 15 by simpa using hc2)]; rfl, hok, rfl, hv2⟩⟩
    · -- no
      have h15 : ¬ c = 15 := by simpa using hc2
      refine WC.seq ?_
      refine WC.region ?_
      (first | refine WL.p (Gp.eqI rfl rfl) (by kernel_rfl) rfl ?_ | refine WL.p (Gp.eqS rfl rfl) (by kernel_rfl) rfl ?_ | refine WL.p (Gp.nilSl rfl) (by kernel_rfl) rfl ?_ | refine WL.p (Gp.eqB rfl rfl) (by kernel_rfl) rfl ?_)
      refine WL.p (Gp.assign rfl) (by kernel_rfl) rfl ?_
      refine WL.nil ?_
      refine WK.un ?_
      refine WC.cond rfl (fun hc2 => ?_) (fun hc2 => ?_)
      · -- yes
        refine WC.seq ?_
        refine WC.region ?_
        refine WL.p (Gp.move rfl) (by kernel_rfl) rfl ?_
        (first | refine WL.p (Gp.gtI rfl rfl) (by kernel_rfl) rfl ?_ | refine WL.p (Gp.gtS rfl rfl) (by kernel_rfl) rfl ?_)
        refine WL.p (Gp.assign rfl) (by kernel_rfl) rfl ?_
        refine WL.nil ?_
        refine WK.un ?_
        refine WC.ret ?_
        (refine WK.un ?_)
        exact QF.ret1 (.inl rfl) rfl (.tmp rfl) (by exact .cons _ (List.Sublist.refl _)) ⟨rfl, .inl ⟨by rw [ordS, if_neg h14, if_neg h15, if_pos (show c = 16 by simpa using hc2)]; rfl, hok, rfl, hv2⟩⟩
      · -- no
        have h16 : ¬ c = 16 := by simpa using hc2
        refine WC.skip ?_
        refine WK.un ?_
        refine WC.seq ?_
        refine WC.region ?_
        refine WL.p (Gp.move rfl) (by kernel_rfl) rfl ?_
        (first | refine WL.p (Gp.geI rfl rfl) (by kernel_rfl) rfl ?_ | refine WL.p (Gp.geS rfl rfl) (by kernel_rfl) rfl ?_)
        refine WL.p (Gp.assign rfl) (by kernel_rfl) rfl ?_
        refine WL.nil ?_
        refine WK.un ?_
        refine WC.ret ?_
        (refine WK.un ?_)
        exact QF.ret1 (.inl rfl) rfl (.tmp rfl) (by exact .cons _ (List.Sublist.refl _)) ⟨rfl, .inl ⟨by rw [ordS, if_neg h14, if_neg h15, if_neg h16]; rfl, hok, rfl, hv2⟩⟩
end Go.Proofs.Ytjgohbepageicaa.Gb
