/- What must come, whatever else is so; small programs run. -/
import Derived.Test.YtjgohbepageicaaXc
namespace Go.Proofs.Ytjgohbepageicaa.Gb
open Go Go.Proofs
set_option linter.unusedVariables false
set_option linter.unusedSimpArgs false
set_option linter.unusedSectionVars false
attribute [local irreducible] Try.prog

theorem Run_two (G : Gh) (pg : Pg) (CA PA : Option Addr) (cc pc : Nat) (qv : Value) (hC : Sl Kd.val G CA pg.consts) (hP : Sl Kd.prc G PA pg.procs) (hB : PgB pg) (o : Oc) (ho : runR pg 0 9 [] = o) :
    Fn Try.prog 15 #[.agg #[.slice CA pg.consts.length cc, .slice PA pg.procs.length pc, qv], .int .i64 0, .int .i64 9, .slice none 0 0] G []
      fun e G' H' => ∃ A' cap' x', e = .returned (ocV o A' cap') ∧ G.le G' ∧ VVec A' cap' o.out x' ∧ H' = [x'] := by
  subst ho
  exact Run_fn G pg CA PA cc pc qv hC hP hB 0 9 (by decide) none 0 [] [] (Rds.nil _ _ _) (by simp)

theorem awake_fn (G : Gh) : Fn Try.prog 17 #[] G [] fun e G' H' => e = .returned (.bool true) ∧ G.le G' ∧ H' = [] := by
  refine Fn.enter (vs := []) Try.func17 rfl rfl fun w0 => ?_
  refine WC.seq ?_
  refine WC.region ?_
  refine WL.p (Gp.assign rfl) (by kernel_rfl) rfl ?_
  refine WL.nil ?_
  refine WK.un ?_
  refine WC.seq ?_
  refine WC.region ?_
  refine WL.op (by kernel_rfl) (OW.callR rfl (Hf := []) (List.Perm.refl _) (lnumber_fn G 2) rfl (by rintro e G' H' ⟨h, _⟩; exact ⟨_, h⟩) fun v' G' H' h hg => ?_)
  obtain ⟨he, rfl, rfl⟩ := h
  cases he
  refine WL.op (by kernel_rfl) (OW.callR rfl (Hf := []) (List.Perm.refl _) (lnumber_fn G 3) rfl (by rintro e G' H' ⟨h, _⟩; exact ⟨_, h⟩) fun v' G' H' h hg => ?_)
  obtain ⟨he, rfl, rfl⟩ := h
  cases he
  refine WL.op (by kernel_rfl) (OW.callK rfl (two_fn G (numV 2) (numV 3) 21 1) rfl fun v' G' H' h hg => ?_)
  obtain ⟨CA, PA, he, hg1, hC, hP, rfl⟩ := h
  cases he
  refine WL.op (by kernel_rfl) (OW.callK rfl (Run_two G' (twoP (numV 2) (numV 3) 21 1) CA PA 2 1 _ hC hP (twoP_B _ _ _ _) _ run_six) rfl fun v' G' H' h hg => ?_)
  obtain ⟨A1, cap1, x1, he, hg2, hx1, rfl⟩ := h
  cases he
  refine WL.op (by kernel_rfl) (OW.alloc rfl fun b1 => ?_)
  refine WL.op (by kernel_rfl) (OW.store rfl rfl (by (repeat first | exact .here | apply At.there)) rfl (by rfl) (by rfl) (by kernel_rfl) (by rfl) ?_ rfl)
  refine WL.nil ?_
  refine WK.un ?_
  refine WC.seq ?_
  refine WC.region ?_
  refine WL.op (by kernel_rfl) (OW.callR rfl (Hf := []) (List.Perm.refl _) (lnumber_fn _ 1) rfl (by rintro e G' H' ⟨h, _⟩; exact ⟨_, h⟩) fun v' G' H' h hg => ?_)
  obtain ⟨he, rfl, rfl⟩ := h
  cases he
  refine WL.op (by kernel_rfl) (OW.callR rfl (Hf := []) (List.Perm.refl _) (lnumber_fn _ 0) rfl (by rintro e G' H' ⟨h, _⟩; exact ⟨_, h⟩) fun v' G' H' h hg => ?_)
  obtain ⟨he, rfl, rfl⟩ := h
  cases he
  refine WL.op (by kernel_rfl) (OW.callK rfl (two_fn _ (numV 1) (numV 0) 22 1) rfl fun v' G' H' h hg => ?_)
  obtain ⟨CB, PB, he, hg3, hC2, hP2, rfl⟩ := h
  cases he
  refine WL.op (by kernel_rfl) (OW.callK rfl (Run_two _ (twoP (numV 1) (numV 0) 22 1) CB PB 2 1 _ hC2 hP2 (twoP_B _ _ _ _) _ run_zero) rfl fun v' G' H' h hg => ?_)
  obtain ⟨A2, cap2, x2, he, hg4, hx2, rfl⟩ := h
  cases he
  refine WL.op (by kernel_rfl) (OW.alloc rfl fun b2 => ?_)
  refine WL.op (by kernel_rfl) (OW.store rfl rfl (by (repeat first | exact .here | apply At.there)) rfl (by rfl) (by rfl) (by kernel_rfl) (by rfl) ?_ rfl)
  refine WL.nil ?_
  refine WK.un ?_
  refine WC.seq ?_
  refine WC.drawB mixed ?_
  refine WB.tp (i := 0) rfl (by kernel_rfl) (by kernel_rfl) rfl (Gp.fieldAddr rfl) ?_
  refine WB.tv (i := 1) rfl (by kernel_rfl) (by kernel_rfl) rfl (Gv.load1 rfl (by (repeat first | exact .here | apply At.there)) rfl) ?_
  (first | refine WB.tp (i := 2) rfl (by kernel_rfl) (by kernel_rfl) rfl (Gp.eqI rfl rfl) ?_ | refine WB.tp (i := 2) rfl (by kernel_rfl) (by kernel_rfl) rfl (Gp.eqS rfl rfl) ?_ | refine WB.tp (i := 2) rfl (by kernel_rfl) (by kernel_rfl) rfl (Gp.nilSl rfl) ?_ | refine WB.tp (i := 2) rfl (by kernel_rfl) (by kernel_rfl) rfl (Gp.eqB rfl rfl) ?_)
  refine WB.tp (i := 3) rfl (by kernel_rfl) (by kernel_rfl) rfl (Gp.move rfl) ?_
  refine WB.tp (i := 4) rfl (by kernel_rfl) (by kernel_rfl) rfl (Gp.fieldAddr rfl) ?_
  refine WB.tv (i := 5) rfl (by kernel_rfl) (by kernel_rfl) rfl (Gv.loadN rfl (by (repeat first | exact .here | apply At.there)) rfl rfl) ?_
  refine WB.one (i := 6) (by kernel_rfl) rfl (by kernel_rfl) (OW.callR rfl (Hf := []) (List.Perm.refl _) (lnumber_fn _ 6) rfl (by rintro e G' H' ⟨h, _⟩; exact ⟨_, h⟩) fun v' G' H' h hg => ?_)
  obtain ⟨he, rfl, rfl⟩ := h
  cases he
  refine ⟨fun w hw => hw.leSub (Gh.le_refl _) (List.Sublist.refl _), ?_⟩
  refine WB.tp (i := 7) rfl (by kernel_rfl) (by kernel_rfl) rfl (Gp.eqV (u := numV 6) (v := numV 6) rfl rfl) ?_
  (first | refine WB.tp (i := 8) rfl (by kernel_rfl) (by kernel_rfl) rfl (Gp.pickT rfl rfl) ?_ | refine WB.tp (i := 8) rfl (by kernel_rfl) (by kernel_rfl) rfl (Gp.pickF rfl rfl) ?_)
  refine WB.tp (i := 9) rfl (by kernel_rfl) (by kernel_rfl) rfl (Gp.move rfl) ?_
  refine WB.tp (i := 10) rfl (by kernel_rfl) (by kernel_rfl) rfl (Gp.fieldAddr rfl) ?_
  refine WB.tv (i := 11) rfl (by kernel_rfl) (by kernel_rfl) rfl (Gv.load1 rfl (by (repeat first | exact .here | apply At.there)) rfl) ?_
  (first | refine WB.tp (i := 12) rfl (by kernel_rfl) (by kernel_rfl) rfl (Gp.eqI rfl rfl) ?_ | refine WB.tp (i := 12) rfl (by kernel_rfl) (by kernel_rfl) rfl (Gp.eqS rfl rfl) ?_ | refine WB.tp (i := 12) rfl (by kernel_rfl) (by kernel_rfl) rfl (Gp.nilSl rfl) ?_ | refine WB.tp (i := 12) rfl (by kernel_rfl) (by kernel_rfl) rfl (Gp.eqB rfl rfl) ?_)
  (first | refine WB.tp (i := 13) rfl (by kernel_rfl) (by kernel_rfl) rfl (Gp.pickT rfl rfl) ?_ | refine WB.tp (i := 13) rfl (by kernel_rfl) (by kernel_rfl) rfl (Gp.pickF rfl rfl) ?_)
  refine WB.tp (i := 14) rfl (by kernel_rfl) (by kernel_rfl) rfl (Gp.move rfl) ?_
  refine WB.tp (i := 15) rfl (by kernel_rfl) (by kernel_rfl) rfl (Gp.fieldAddr rfl) ?_
  refine WB.tv (i := 16) rfl (by kernel_rfl) (by kernel_rfl) rfl (Gv.load1 rfl (by (repeat first | exact .here | apply At.there)) rfl) ?_
  (first | refine WB.tp (i := 17) rfl (by kernel_rfl) (by kernel_rfl) rfl (Gp.eqI rfl rfl) ?_ | refine WB.tp (i := 17) rfl (by kernel_rfl) (by kernel_rfl) rfl (Gp.eqS rfl rfl) ?_ | refine WB.tp (i := 17) rfl (by kernel_rfl) (by kernel_rfl) rfl (Gp.nilSl rfl) ?_ | refine WB.tp (i := 17) rfl (by kernel_rfl) (by kernel_rfl) rfl (Gp.eqB rfl rfl) ?_)
  (first | refine WB.tp (i := 18) rfl (by kernel_rfl) (by kernel_rfl) rfl (Gp.pickT rfl rfl) ?_ | refine WB.tp (i := 18) rfl (by kernel_rfl) (by kernel_rfl) rfl (Gp.pickF rfl rfl) ?_)
  refine WB.tp (i := 19) rfl (by kernel_rfl) (by kernel_rfl) rfl (Gp.move rfl) ?_
  refine WB.tp (i := 20) rfl (by kernel_rfl) (by kernel_rfl) rfl (Gp.fieldAddr rfl) ?_
  refine WB.tv (i := 21) rfl (by kernel_rfl) (by kernel_rfl) rfl (Gv.load1 rfl (by (repeat first | exact .here | apply At.there)) rfl) ?_
  (first | refine WB.tp (i := 22) rfl (by kernel_rfl) (by kernel_rfl) rfl (Gp.eqI rfl rfl) ?_ | refine WB.tp (i := 22) rfl (by kernel_rfl) (by kernel_rfl) rfl (Gp.eqS rfl rfl) ?_ | refine WB.tp (i := 22) rfl (by kernel_rfl) (by kernel_rfl) rfl (Gp.nilSl rfl) ?_ | refine WB.tp (i := 22) rfl (by kernel_rfl) (by kernel_rfl) rfl (Gp.eqB rfl rfl) ?_)
  (first | refine WB.tp (i := 23) rfl (by kernel_rfl) (by kernel_rfl) rfl (Gp.pickT rfl rfl) ?_ | refine WB.tp (i := 23) rfl (by kernel_rfl) (by kernel_rfl) rfl (Gp.pickF rfl rfl) ?_)
  refine WB.tp (i := 24) rfl (by kernel_rfl) (by kernel_rfl) rfl (Gp.assign rfl) ?_
  refine WB.done (by kernel_rfl) ?_
  refine WK.un ?_
  refine WC.ret ?_
  refine WK.un ?_
  exact QF.p1 (.inl rfl) rfl (.tmp rfl) (⟨rfl, Gh.le_trans hg1 (Gh.le_trans hg2 (Gh.le_trans hg3 hg4)), rfl⟩)

def mcTwo (st : List V) (k : Nat) (steps : Nat) : Mc := ⟨[⟨0, k, st, []⟩], [], steps, 0, V0, false⟩
theorem vOK_ne {v : V} (h : vOK v = true) : True := trivial
section
variable {u v w : V} {c r : Int} (hu : vOK u = true) (hv : vOK v = true)
include hu in
theorem two1 : stepM (twoP u v c r) (mcTwo [] 0 0) = mcTwo [u] 1 1 := by simp [stepM, mcTwo, twoP, doR, constR, layR, hu]
include hv in
theorem two2 : stepM (twoP u v c r) (mcTwo [u] 1 1) = mcTwo [u, v] 2 2 := by simp [stepM, mcTwo, twoP, doR, constR, layR, hv]
theorem two3 (hc : ¬ (c = 1 ∨ c = 2 ∨ c = 3 ∨ c = 5 ∨ c = 6 ∨ c = 7)) (hp : plainR r [u, v] c 0 = .set [w]) : stepM (twoP u v c r) (mcTwo [u, v] 2 2) = mcTwo [w] 3 3 := by
  simp only [not_or] at hc
  simp [stepM, mcTwo, twoP, doR, hc, plainD, hp]
theorem two3h {k : Int} (hc : ¬ (c = 1 ∨ c = 2 ∨ c = 3 ∨ c = 5 ∨ c = 6 ∨ c = 7)) (hp : plainR r [u, v] c 0 = .halt k) : stepM (twoP u v c r) (mcTwo [u, v] 2 2) = ⟨[⟨0, 2, [u, v], []⟩], [], 3, k, V0, true⟩ := by
  simp only [not_or] at hc
  simp [stepM, mcTwo, twoP, doR, hc, plainD, hp]
theorem two4 (hr : r ≠ 0) (hw : w.t = r) : stepM (twoP u v c r) (mcTwo [w] 3 3) = ⟨[], [], 4, 1, w, true⟩ := by
  have h : plainR r [w] 10 0 = .leave [] [w] := by simp [plainR, hr, on1, ty1, pop1, hw]
  simp [stepM, mcTwo, twoP, doR, plainD, h, lastV]
include hu hv in
theorem run_two (hc : ¬ (c = 1 ∨ c = 2 ∨ c = 3 ∨ c = 5 ∨ c = 6 ∨ c = 7)) (hp : plainR r [u, v] c 0 = .set [w]) (hr : r ≠ 0) (hw : w.t = r) : runR (twoP u v c r) 0 9 [] = ⟨1, w, [], 4⟩ := by
  have h0 : startR (twoP u v c r) 0 [] = some ⟨⟨#[102]⟩, false, [], 0, r, [(1, 0), (1, 1), (c, 0), (10, 0)]⟩ := by simp [startR, twoP, sizedP, tys]
  have h1 : startS ⟨⟨#[102]⟩, false, [], 0, r, [(1, 0), (1, 1), (c, 0), (10, 0)]⟩ 0 [] = mcTwo [] 0 0 := by simp [startS, mcTwo, padded]
  have hf : ∀ st k n, (mcTwo st k n).ended = false := fun _ _ _ => rfl
  rw [runR, h0]
  simp only [h1, show (9 : Int).toNat = 9 from rfl]
  simp [runM, hf, two1 hu, two2 hv, two3 hc hp, two4 hr hw, Mc.oc]
include hu hv in
theorem run_twoH {k : Int} (hc : ¬ (c = 1 ∨ c = 2 ∨ c = 3 ∨ c = 5 ∨ c = 6 ∨ c = 7)) (hp : plainR r [u, v] c 0 = .halt k) : runR (twoP u v c r) 0 9 [] = ⟨k, V0, [], 3⟩ := by
  have h0 : startR (twoP u v c r) 0 [] = some ⟨⟨#[102]⟩, false, [], 0, r, [(1, 0), (1, 1), (c, 0), (10, 0)]⟩ := by simp [startR, twoP, sizedP, tys]
  have h1 : startS ⟨⟨#[102]⟩, false, [], 0, r, [(1, 0), (1, 1), (c, 0), (10, 0)]⟩ 0 [] = mcTwo [] 0 0 := by simp [startS, mcTwo, padded]
  have hf : ∀ st k n, (mcTwo st k n).ended = false := fun _ _ _ => rfl
  rw [runR, h0]
  simp only [h1, show (9 : Int).toNat = 9 from rfl]
  simp [runM, hf, two1 hu, two2 hv, two3h hc hp, Mc.oc]
end
end Go.Proofs.Ytjgohbepageicaa.Gb
