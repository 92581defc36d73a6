/- No values are shared with the caller: the statement proved. -/
import Derived.Test.YtjgohbepageicaaOk
import Derived.Laws.Small
import Derived.Test.YtjgohbepageicaaRows
import Derived.RowKit3
import Derived.WalkKit
import Derived.ProofKit
import Derived.OpenShut
import Derived.ShutString
import Derived.ChangeOld
import Derived.Below
import Derived.Carry
import Derived.SizedLaws
namespace Go.Proofs.Ytjgohbepageicaa.Gb
open Go Go.Proofs
set_option linter.unusedVariables false
set_option linter.unusedSimpArgs false
set_option linter.unusedSectionVars false
attribute [local irreducible] Try.prog

theorem lnumber_fn (G : Gh) (n : Int) : Fn Try.prog 20 #[.int .i64 n] G [] fun e G' H' => e = .returned (.agg #[.int .i64 1, .int .i64 n, .bool false, .string ⟨#[]⟩]) ∧ G = G' ∧ H' = [] := by
  refine Fn.enter Try.func20 rfl rfl fun w0 => ?_
  refine WC.seq ?_
  refine WC.region ?_
  refine WL.op (by kernel_rfl) (OW.alloc rfl fun b1 => ?_)
  refine WL.nil ?_
  refine WK.un ?_
  refine WC.seq ?_
  refine WC.region ?_
  refine WL.p (Gp.move rfl) (by kernel_rfl) rfl ?_
  refine WL.p (Gp.build rfl rfl) (by kernel_rfl) rfl ?_
  refine WL.op (by kernel_rfl) (OW.store rfl rfl (by (repeat first | exact .here | apply At.there)) rfl (by rfl) (by rfl) (by kernel_rfl) (by rfl) ?_ rfl)
  refine WL.nil ?_
  refine WK.un ?_
  refine WC.ret ?_
  refine WK.un ?_
  exact QF.p1 (.inl rfl) rfl (.cell rfl inferInstance inferInstance (by (repeat first | exact .here | apply At.there)) rfl rfl) (⟨rfl, rfl, rfl⟩)
theorem ltext_fn (G : Gh) (s : ByteArray) : Fn Try.prog 21 #[.string s] G [] fun e G' H' => e = .returned (.agg #[.int .i64 3, .int .i64 0, .bool false, .string s]) ∧ G = G' ∧ H' = [] := by
  refine Fn.enter Try.func21 rfl rfl fun w0 => ?_
  refine WC.seq ?_
  refine WC.region ?_
  refine WL.op (by kernel_rfl) (OW.alloc rfl fun b1 => ?_)
  refine WL.nil ?_
  refine WK.un ?_
  refine WC.seq ?_
  refine WC.region ?_
  refine WL.p (Gp.move rfl) (by kernel_rfl) rfl ?_
  refine WL.p (Gp.build rfl rfl) (by kernel_rfl) rfl ?_
  refine WL.op (by kernel_rfl) (OW.store rfl rfl (by (repeat first | exact .here | apply At.there)) rfl (by rfl) (by rfl) (by kernel_rfl) (by rfl) ?_ rfl)
  refine WL.nil ?_
  refine WK.un ?_
  refine WC.ret ?_
  refine WK.un ?_
  exact QF.p1 (.inl rfl) rfl (.cell rfl inferInstance inferInstance (by (repeat first | exact .here | apply At.there)) rfl rfl) (⟨rfl, rfl, rfl⟩)

def twoP (u v : V) (c r : Int) : Pg := ⟨[u, v], [⟨⟨#[102]⟩, false, [], 0, r, [(1, 0), (1, 1), (c, 0), (10, 0)]⟩]⟩
theorem twoP_B (u v : V) (c r : Int) : PgB (twoP u v c r) := ⟨by simp [twoP], by simp [twoP], fun p hp => by simp [twoP] at hp; subst hp; simp, fun p hp => by simp [twoP] at hp; subst hp; simp⟩

theorem two_fn (G : Gh) (u v : V) (c r : Int) : Fn Try.prog 19 #[.agg #[.int .i64 u.t, .int .i64 u.i, .bool u.b, .string u.s], .agg #[.int .i64 v.t, .int .i64 v.i, .bool v.b, .string v.s], .int .i64 c, .int .i64 r] G []
    fun e G' H' => ∃ CA PA, e = .returned (.agg #[.slice CA (twoP u v c r).consts.length 2, .slice PA (twoP u v c r).procs.length 1, .slice none 0 0]) ∧ G.le G' ∧ Sl Kd.val G' CA (twoP u v c r).consts ∧ Sl Kd.prc G' PA (twoP u v c r).procs ∧ H' = [] := by
  refine Fn.enter Try.func19 rfl rfl fun w0 => ?_
  refine WC.seq ?_
  refine WC.region ?_
  refine WL.op (by kernel_rfl) (OW.box rfl rfl fun b4 => ?_)
  refine WL.op (by kernel_rfl) (OW.box rfl rfl fun b5 => ?_)
  refine WL.op (by kernel_rfl) (OW.alloc rfl fun b8 => ?_)
  refine WL.nil ?_
  refine WK.un ?_
  refine WC.seq ?_
  refine WC.region ?_
  refine WL.p (Gp.build rfl rfl) (by kernel_rfl) rfl ?_
  refine WL.p (Gp.build rfl rfl) (by kernel_rfl) rfl ?_
  refine WL.p (Gp.move rfl) (by kernel_rfl) rfl ?_
  refine WL.p (Gp.build rfl rfl) (by kernel_rfl) rfl ?_
  refine WL.p (Gp.build rfl rfl) (by kernel_rfl) rfl ?_
  refine WL.op (by kernel_rfl) (OW.buildSlice rfl (by kernel_rfl) (by kernel_rfl) (by rfl) rfl fun b15 => ?_)
  refine WL.p (Gp.assign rfl) (by kernel_rfl) rfl ?_
  refine WL.nil ?_
  refine WK.un ?_
  refine WC.seq ?_
  refine WC.region ?_
  refine WL.v (Gv.loadN rfl (by (repeat first | exact .here | apply At.there)) rfl rfl) (by kernel_rfl) rfl ?_
  refine WL.v (Gv.loadN rfl (by (repeat first | exact .here | apply At.there)) rfl rfl) (by kernel_rfl) rfl ?_
  refine WL.op (by kernel_rfl) (OW.buildSlice rfl (by kernel_rfl) (by kernel_rfl) (by rfl) rfl fun b18 => ?_)
  refine WL.p (Gp.move rfl) (by kernel_rfl) rfl ?_
  refine WL.p (Gp.move rfl) (by kernel_rfl) rfl ?_
  refine WL.p (Gp.build rfl rfl) (by kernel_rfl) rfl ?_
  refine WL.op (by kernel_rfl) (OW.buildSlice rfl (by kernel_rfl) (by kernel_rfl) (by rfl) rfl fun b22 => ?_)
  refine WL.p (Gp.build rfl rfl) (by kernel_rfl) rfl ?_
  refine WL.op (by kernel_rfl) (OW.store rfl rfl (by (repeat first | exact .here | apply At.there)) rfl (by rfl) (by rfl) (by kernel_rfl) (by rfl) ?_ rfl)
  refine WL.nil ?_
  refine WK.un ?_
  refine WC.pk (H' := [.blk b15 (.cells #[.int .i64 1, .int .i64 0, .int .i64 1, .int .i64 1, .int .i64 c, .int .i64 0, .int .i64 10, .int .i64 0] 51 (0, 0)),
    .blk b18 (.cells (vflat [u, v]).toArray 33 (0, 0)),
    .blk b22 (.cells #[.string ⟨#[102]⟩, .bool false, .slice none 0 0, .int .i64 0, .int .i64 r, .slice (some ⟨b15, 0, none⟩) 4 4] 55 (0, 0)),
    .blk b8 (.cells #[.slice (some ⟨b18, 0, none⟩) 2 2, .slice (some ⟨b22, 0, none⟩) 1 1, .slice none 0 0] 26 (0, 0))]) (by repeat (first | exact Pk.nil | exact Pk.all | exact Pk.app | exact Pk.appR | with_reducible apply Pk.na | (apply Pk.cons; (repeat first | exact .here | apply Rem.there | apply Rem.app)) | apply Pk.skip | apply Pk.skipA)) ?_
  refine WC.frozenVec (T := 51) (sz := 2) (A := some ⟨b15, 0, none⟩) (n := 4) (cap := 4) (cs := [.int .i64 1, .int .i64 0, .int .i64 1, .int .i64 1, .int .i64 c, .int .i64 0, .int .i64 10, .int .i64 0]) ⟨rfl, .inr ⟨b15, _, rfl, rfl, Nat.le_refl _, rfl, rfl⟩⟩ .here fun G1 h1 z1 => ?_
  refine WC.frozenVec (T := 33) (sz := 4) (A := some ⟨b18, 0, none⟩) (n := 2) (cap := 2) (cs := vflat [u, v]) ⟨rfl, .inr ⟨b18, _, rfl, rfl, Nat.le_refl _, rfl, rfl⟩⟩ .here fun G2 h2 z2 => ?_
  refine WC.frozenVec (T := 55) (sz := 6) (A := some ⟨b22, 0, none⟩) (n := 1) (cap := 1) (cs := [.string ⟨#[102]⟩, .bool false, .slice none 0 0, .int .i64 0, .int .i64 r, .slice (some ⟨b15, 0, none⟩) 4 4]) ⟨rfl, .inr ⟨b22, _, rfl, rfl, Nat.le_refl _, rfl, rfl⟩⟩ .here fun G3 h3 z3 => ?_
  have hI : Sl Kd.ins G3 (some ⟨b15, 0, none⟩) [(1, 0), (1, 1), (c, 0), (10, 0)] := (Sl.ofCs (k := Kd.ins) z1 rfl (by decide) (fun i x hx => by
    match i, hx with
    | 0, hx => cases hx; rfl
    | 1, hx => cases hx; rfl
    | 2, hx => cases hx; rfl
    | 3, hx => cases hx; rfl)).mono (Gh.le_trans h2 h3)
  have hC : Sl Kd.val G3 (some ⟨b18, 0, none⟩) [u, v] := (Sl.ofCs (k := Kd.val) z2 rfl (by decide) (fun i x hx => by
    match i, hx with
    | 0, hx => cases hx; rfl
    | 1, hx => cases hx; rfl)).mono h3
  have hP : Sl Kd.prc G3 (some ⟨b22, 0, none⟩) (twoP u v c r).procs := Sl.ofCs (k := Kd.prc) z3 rfl (by decide) (fun i x hx => by
    match i, hx with
    | 0, hx => cases hx; exact ⟨none, 0, some ⟨b15, 0, none⟩, 4, rfl, Sl.nil _ _ _, hI⟩)
  refine WC.ret ?_
  refine WK.un ?_
  exact QF.p1 (.inl rfl) rfl (.cell rfl inferInstance inferInstance (by (repeat first | exact .here | apply At.there)) rfl rfl) (⟨some ⟨b18, 0, none⟩, some ⟨b22, 0, none⟩, rfl, Gh.le_trans h1 (Gh.le_trans h2 h3), hC, hP, rfl⟩)

theorem run_six : runR (twoP (numV 2) (numV 3) 21 1) 0 9 [] = ⟨1, numV 6, [], 4⟩ := by kernel_rfl
theorem run_zero : runR (twoP (numV 1) (numV 0) 22 1) 0 9 [] = ⟨2, V0, [], 3⟩ := by kernel_rfl
end Go.Proofs.Ytjgohbepageicaa.Gb
namespace Go.Proofs.Ytjgohbepageicaa.Gb
open Go Go.Proofs
set_option linter.unusedVariables false
set_option linter.unusedSimpArgs false
set_option linter.unusedSectionVars false
attribute [local irreducible] Try.prog

theorem Run_two (G : Gh) (pg : Pg) (CA PA : Option Addr) (cc pc : Nat) (qv : Value) (hC : Sl Kd.val G CA pg.consts) (hP : Sl Kd.prc G PA pg.procs) (hB : PgB pg) (o : Oc) (ho : runR pg 0 9 [] = o) :
    Fn Try.prog 15 #[.agg #[.slice CA pg.consts.length cc, .slice PA pg.procs.length pc, qv], .int .i64 0, .int .i64 9, .slice none 0 0] G []
      fun e G' H' => ∃ A' cap' x', e = .returned (ocV o A' cap') ∧ G.le G' ∧ VVec A' cap' o.out x' ∧ H' = [x'] := by
  subst ho
  exact Run_fn G pg CA PA cc pc qv hC hP hB 0 9 (by decide) none 0 [] [] (Rds.nil _ _ _) (by simp)

theorem awake_fn (G : Gh) : Fn Try.prog 17 #[] G [] fun e G' H' => e = .returned (.bool true) ∧ G.le G' ∧ H' = [] := by
  refine Fn.enter (vs := []) Try.func17 rfl rfl fun w0 => ?_
  refine WC.seq ?_
  refine WC.region ?_
  refine WL.p (Gp.assign rfl) (by kernel_rfl) rfl ?_
  refine WL.nil ?_
  refine WK.un ?_
  refine WC.seq ?_
  refine WC.region ?_
  refine WL.op (by kernel_rfl) (OW.callR rfl (Hf := []) (List.Perm.refl _) (lnumber_fn G 2) rfl (by rintro e G' H' ⟨h, _⟩; exact ⟨_, h⟩) fun v' G' H' h hg => ?_)
  obtain ⟨he, rfl, rfl⟩ := h
  cases he
  refine WL.op (by kernel_rfl) (OW.callR rfl (Hf := []) (List.Perm.refl _) (lnumber_fn G 3) rfl (by rintro e G' H' ⟨h, _⟩; exact ⟨_, h⟩) fun v' G' H' h hg => ?_)
  obtain ⟨he, rfl, rfl⟩ := h
  cases he
  refine WL.op (by kernel_rfl) (OW.callK rfl (two_fn G (numV 2) (numV 3) 21 1) rfl fun v' G' H' h hg => ?_)
  obtain ⟨CA, PA, he, hg1, hC, hP, rfl⟩ := h
  cases he
  refine WL.op (by kernel_rfl) (OW.callK rfl (Run_two G' (twoP (numV 2) (numV 3) 21 1) CA PA 2 1 _ hC hP (twoP_B _ _ _ _) _ run_six) rfl fun v' G' H' h hg => ?_)
  obtain ⟨A1, cap1, x1, he, hg2, hx1, rfl⟩ := h
  cases he
  refine WL.op (by kernel_rfl) (OW.alloc rfl fun b1 => ?_)
  refine WL.op (by kernel_rfl) (OW.store rfl rfl (by (repeat first | exact .here | apply At.there)) rfl (by rfl) (by rfl) (by kernel_rfl) (by rfl) ?_ rfl)
  refine WL.nil ?_
  refine WK.un ?_
  refine WC.seq ?_
  refine WC.region ?_
  refine WL.op (by kernel_rfl) (OW.callR rfl (Hf := []) (List.Perm.refl _) (lnumber_fn _ 1) rfl (by rintro e G' H' ⟨h, _⟩; exact ⟨_, h⟩) fun v' G' H' h hg => ?_)
  obtain ⟨he, rfl, rfl⟩ := h
  cases he
  refine WL.op (by kernel_rfl) (OW.callR rfl (Hf := []) (List.Perm.refl _) (lnumber_fn _ 0) rfl (by rintro e G' H' ⟨h, _⟩; exact ⟨_, h⟩) fun v' G' H' h hg => ?_)
  obtain ⟨he, rfl, rfl⟩ := h
  cases he
  refine WL.op (by kernel_rfl) (OW.callK rfl (two_fn _ (numV 1) (numV 0) 22 1) rfl fun v' G' H' h hg => ?_)
  obtain ⟨CB, PB, he, hg3, hC2, hP2, rfl⟩ := h
  cases he
  refine WL.op (by kernel_rfl) (OW.callK rfl (Run_two _ (twoP (numV 1) (numV 0) 22 1) CB PB 2 1 _ hC2 hP2 (twoP_B _ _ _ _) _ run_zero) rfl fun v' G' H' h hg => ?_)
  obtain ⟨A2, cap2, x2, he, hg4, hx2, rfl⟩ := h
  cases he
  refine WL.op (by kernel_rfl) (OW.alloc rfl fun b2 => ?_)
  refine WL.op (by kernel_rfl) (OW.store rfl rfl (by (repeat first | exact .here | apply At.there)) rfl (by rfl) (by rfl) (by kernel_rfl) (by rfl) ?_ rfl)
  refine WL.nil ?_
  refine WK.un ?_
  refine WC.seq ?_
  refine WC.drawB mixed ?_
  refine WB.tp (i := 0) rfl (by kernel_rfl) (by kernel_rfl) rfl (Gp.fieldAddr rfl) ?_
  refine WB.tv (i := 1) rfl (by kernel_rfl) (by kernel_rfl) rfl (Gv.load1 rfl (by (repeat first | exact .here | apply At.there)) rfl) ?_
  (first | refine WB.tp (i := 2) rfl (by kernel_rfl) (by kernel_rfl) rfl (Gp.eqI rfl rfl) ?_ | refine WB.tp (i := 2) rfl (by kernel_rfl) (by kernel_rfl) rfl (Gp.eqS rfl rfl) ?_ | refine WB.tp (i := 2) rfl (by kernel_rfl) (by kernel_rfl) rfl (Gp.nilSl rfl) ?_ | refine WB.tp (i := 2) rfl (by kernel_rfl) (by kernel_rfl) rfl (Gp.eqB rfl rfl) ?_)
  refine WB.tp (i := 3) rfl (by kernel_rfl) (by kernel_rfl) rfl (Gp.move rfl) ?_
  refine WB.tp (i := 4) rfl (by kernel_rfl) (by kernel_rfl) rfl (Gp.fieldAddr rfl) ?_
  refine WB.tv (i := 5) rfl (by kernel_rfl) (by kernel_rfl) rfl (Gv.loadN rfl (by (repeat first | exact .here | apply At.there)) rfl rfl) ?_
  refine WB.one (i := 6) (by kernel_rfl) rfl (by kernel_rfl) (OW.callR rfl (Hf := []) (List.Perm.refl _) (lnumber_fn _ 6) rfl (by rintro e G' H' ⟨h, _⟩; exact ⟨_, h⟩) fun v' G' H' h hg => ?_)
  obtain ⟨he, rfl, rfl⟩ := h
  cases he
  refine ⟨fun w hw => hw.leSub (Gh.le_refl _) (List.Sublist.refl _), ?_⟩
  refine WB.tp (i := 7) rfl (by kernel_rfl) (by kernel_rfl) rfl (Gp.eqV (u := numV 6) (v := numV 6) rfl rfl) ?_
  (first | refine WB.tp (i := 8) rfl (by kernel_rfl) (by kernel_rfl) rfl (Gp.pickT rfl rfl) ?_ | refine WB.tp (i := 8) rfl (by kernel_rfl) (by kernel_rfl) rfl (Gp.pickF rfl rfl) ?_)
  refine WB.tp (i := 9) rfl (by kernel_rfl) (by kernel_rfl) rfl (Gp.move rfl) ?_
  refine WB.tp (i := 10) rfl (by kernel_rfl) (by kernel_rfl) rfl (Gp.fieldAddr rfl) ?_
  refine WB.tv (i := 11) rfl (by kernel_rfl) (by kernel_rfl) rfl (Gv.load1 rfl (by (repeat first | exact .here | apply At.there)) rfl) ?_
  (first | refine WB.tp (i := 12) rfl (by kernel_rfl) (by kernel_rfl) rfl (Gp.eqI rfl rfl) ?_ | refine WB.tp (i := 12) rfl (by kernel_rfl) (by kernel_rfl) rfl (Gp.eqS rfl rfl) ?_ | refine WB.tp (i := 12) rfl (by kernel_rfl) (by kernel_rfl) rfl (Gp.nilSl rfl) ?_ | refine WB.tp (i := 12) rfl (by kernel_rfl) (by kernel_rfl) rfl (Gp.eqB rfl rfl) ?_)
  (first | refine WB.tp (i := 13) rfl (by kernel_rfl) (by kernel_rfl) rfl (Gp.pickT rfl rfl) ?_ | refine WB.tp (i := 13) rfl (by kernel_rfl) (by kernel_rfl) rfl (Gp.pickF rfl rfl) ?_)
  refine WB.tp (i := 14) rfl (by kernel_rfl) (by kernel_rfl) rfl (Gp.move rfl) ?_
  refine WB.tp (i := 15) rfl (by kernel_rfl) (by kernel_rfl) rfl (Gp.fieldAddr rfl) ?_
  refine WB.tv (i := 16) rfl (by kernel_rfl) (by kernel_rfl) rfl (Gv.load1 rfl (by (repeat first | exact .here | apply At.there)) rfl) ?_
  (first | refine WB.tp (i := 17) rfl (by kernel_rfl) (by kernel_rfl) rfl (Gp.eqI rfl rfl) ?_ | refine WB.tp (i := 17) rfl (by kernel_rfl) (by kernel_rfl) rfl (Gp.eqS rfl rfl) ?_ | refine WB.tp (i := 17) rfl (by kernel_rfl) (by kernel_rfl) rfl (Gp.nilSl rfl) ?_ | refine WB.tp (i := 17) rfl (by kernel_rfl) (by kernel_rfl) rfl (Gp.eqB rfl rfl) ?_)
  (first | refine WB.tp (i := 18) rfl (by kernel_rfl) (by kernel_rfl) rfl (Gp.pickT rfl rfl) ?_ | refine WB.tp (i := 18) rfl (by kernel_rfl) (by kernel_rfl) rfl (Gp.pickF rfl rfl) ?_)
  refine WB.tp (i := 19) rfl (by kernel_rfl) (by kernel_rfl) rfl (Gp.move rfl) ?_
  refine WB.tp (i := 20) rfl (by kernel_rfl) (by kernel_rfl) rfl (Gp.fieldAddr rfl) ?_
  refine WB.tv (i := 21) rfl (by kernel_rfl) (by kernel_rfl) rfl (Gv.load1 rfl (by (repeat first | exact .here | apply At.there)) rfl) ?_
  (first | refine WB.tp (i := 22) rfl (by kernel_rfl) (by kernel_rfl) rfl (Gp.eqI rfl rfl) ?_ | refine WB.tp (i := 22) rfl (by kernel_rfl) (by kernel_rfl) rfl (Gp.eqS rfl rfl) ?_ | refine WB.tp (i := 22) rfl (by kernel_rfl) (by kernel_rfl) rfl (Gp.nilSl rfl) ?_ | refine WB.tp (i := 22) rfl (by kernel_rfl) (by kernel_rfl) rfl (Gp.eqB rfl rfl) ?_)
  (first | refine WB.tp (i := 23) rfl (by kernel_rfl) (by kernel_rfl) rfl (Gp.pickT rfl rfl) ?_ | refine WB.tp (i := 23) rfl (by kernel_rfl) (by kernel_rfl) rfl (Gp.pickF rfl rfl) ?_)
  refine WB.tp (i := 24) rfl (by kernel_rfl) (by kernel_rfl) rfl (Gp.assign rfl) ?_
  refine WB.done (by kernel_rfl) ?_
  refine WK.un ?_
  refine WC.ret ?_
  refine WK.un ?_
  exact QF.p1 (.inl rfl) rfl (.tmp rfl) (⟨rfl, Gh.le_trans hg1 (Gh.le_trans hg2 (Gh.le_trans hg3 hg4)), rfl⟩)

def mcTwo (st : List V) (k : Nat) (steps : Nat) : Mc := ⟨[⟨0, k, st, []⟩], [], steps, 0, V0, false⟩
theorem vOK_ne {v : V} (h : vOK v = true) : True := trivial
section
variable {u v w : V} {c r : Int} (hu : vOK u = true) (hv : vOK v = true)
include hu in
theorem two1 : stepM (twoP u v c r) (mcTwo [] 0 0) = mcTwo [u] 1 1 := by simp [stepM, mcTwo, twoP, doR, constR, layR, hu]
include hv in
theorem two2 : stepM (twoP u v c r) (mcTwo [u] 1 1) = mcTwo [u, v] 2 2 := by simp [stepM, mcTwo, twoP, doR, constR, layR, hv]
theorem two3 (hc : ¬ (c = 1 ∨ c = 2 ∨ c = 3 ∨ c = 5 ∨ c = 6 ∨ c = 7)) (hp : plainR r [u, v] c 0 = .set [w]) : stepM (twoP u v c r) (mcTwo [u, v] 2 2) = mcTwo [w] 3 3 := by
  simp only [not_or] at hc
  simp [stepM, mcTwo, twoP, doR, hc, plainD, hp]
theorem two3h {k : Int} (hc : ¬ (c = 1 ∨ c = 2 ∨ c = 3 ∨ c = 5 ∨ c = 6 ∨ c = 7)) (hp : plainR r [u, v] c 0 = .halt k) : stepM (twoP u v c r) (mcTwo [u, v] 2 2) = ⟨[⟨0, 2, [u, v], []⟩], [], 3, k, V0, true⟩ := by
  simp only [not_or] at hc
  simp [stepM, mcTwo, twoP, doR, hc, plainD, hp]
theorem two4 (hr : r ≠ 0) (hw : w.t = r) : stepM (twoP u v c r) (mcTwo [w] 3 3) = ⟨[], [], 4, 1, w, true⟩ := by
  have h : plainR r [w] 10 0 = .leave [] [w] := by simp [plainR, hr, on1, ty1, pop1, hw]
  simp [stepM, mcTwo, twoP, doR, plainD, h, lastV]
include hu hv in
theorem run_two (hc : ¬ (c = 1 ∨ c = 2 ∨ c = 3 ∨ c = 5 ∨ c = 6 ∨ c = 7)) (hp : plainR r [u, v] c 0 = .set [w]) (hr : r ≠ 0) (hw : w.t = r) : runR (twoP u v c r) 0 9 [] = ⟨1, w, [], 4⟩ := by
  have h0 : startR (twoP u v c r) 0 [] = some ⟨⟨#[102]⟩, false, [], 0, r, [(1, 0), (1, 1), (c, 0), (10, 0)]⟩ := by simp [startR, twoP, sizedP, tys]
  have h1 : startS ⟨⟨#[102]⟩, false, [], 0, r, [(1, 0), (1, 1), (c, 0), (10, 0)]⟩ 0 [] = mcTwo [] 0 0 := by simp [startS, mcTwo, padded]
  have hf : ∀ st k n, (mcTwo st k n).ended = false := fun _ _ _ => rfl
  rw [runR, h0]
  simp only [h1, show (9 : Int).toNat = 9 from rfl]
  simp [runM, hf, two1 hu, two2 hv, two3 hc hp, two4 hr hw, Mc.oc]
include hu hv in
theorem run_twoH {k : Int} (hc : ¬ (c = 1 ∨ c = 2 ∨ c = 3 ∨ c = 5 ∨ c = 6 ∨ c = 7)) (hp : plainR r [u, v] c 0 = .halt k) : runR (twoP u v c r) 0 9 [] = ⟨k, V0, [], 3⟩ := by
  have h0 : startR (twoP u v c r) 0 [] = some ⟨⟨#[102]⟩, false, [], 0, r, [(1, 0), (1, 1), (c, 0), (10, 0)]⟩ := by simp [startR, twoP, sizedP, tys]
  have h1 : startS ⟨⟨#[102]⟩, false, [], 0, r, [(1, 0), (1, 1), (c, 0), (10, 0)]⟩ 0 [] = mcTwo [] 0 0 := by simp [startS, mcTwo, padded]
  have hf : ∀ st k n, (mcTwo st k n).ended = false := fun _ _ _ => rfl
  rw [runR, h0]
  simp only [h1, show (9 : Int).toNat = 9 from rfl]
  simp [runM, hf, two1 hu, two2 hv, two3h hc hp, Mc.oc]
end
end Go.Proofs.Ytjgohbepageicaa.Gb
namespace Go.Proofs.Ytjgohbepageicaa.Gb
open Go Go.Proofs Go.RowKit Go.ChangeShapes Go.WideShapes
set_option linter.unusedVariables false
set_option linter.unusedSimpArgs false
set_option linter.unusedSectionVars false

/-- any slice -/
def Kd.shp : Kd (Option Addr × Nat × Nat) where
  n := 1
  K _ x cs := cs = [.slice x.1 x.2.1 x.2.2]
  mono _ h := h
  len h := by rw [h]; rfl
  one h := by rw [h]; rfl
section
attribute [local irreducible] Try.prog
variable {H : Type} (enc : TypeId × Value → H) (w : World)
theorem Opens.shape (P : Program) {t e : TypeId} (ht : P.underlying t = some (.slice e)) : Opens enc P w t Kd.shp (fun _ => True) := by
  intro fuel cs d ps hd hw
  rcases DataW.trod_slice ht hd with ⟨rfl, _⟩ | ⟨a, len, cap, elems, rest, n, _, rfl, _⟩
  · exact ⟨(none, 0, 0), rfl, trivial⟩
  · exact ⟨(some a, len, cap), rfl, trivial⟩
theorem open_givenQ {v : Value} {d : DataW H} {ps : List MemPlace} {base : Nat} (hval : Value.okWide Try.prog w .any base 28 v) (hd : DataW.Trod enc Try.prog w 0 (fun _ => true) true 28 v d ps) (hw : ∀ n ∈ d.weights Try.prog 28, n ≤ reachBytes) :
    ∃ (x : GivenR) (CA PA QA AA : Option Addr) (cc pc qn qc ac : Nat), v = .agg #[.slice CA x.pg.consts.length cc, .slice PA x.pg.procs.length pc, .slice QA qn qc, .int .i64 x.n, .slice AA x.args.length ac] ∧
      Sl Kd.val (Gw w) CA x.pg.consts ∧ Sl Kd.prc (Gw w) PA x.pg.procs ∧ Sl Kd.val (Gw w) AA x.args ∧ PgB x.pg ∧ x.args.length * 40 ≤ 140737488351232 := by
  obtain ⟨x, CA, PA, AA, cc, pc, ac, qv, rfl, h1, h2, h3, h4, h5⟩ := open_given enc w hval hd hw
  obtain ⟨fuel, hd⟩ := hd
  obtain ⟨hl, hr⟩ := field_raw enc Try.prog w Try.underlying28 hd hw
  obtain ⟨fuel', d', ps', hp, hpw⟩ := hr 0 _ rfl rfl rfl cellsG
  obtain ⟨_, hg⟩ := field_open enc Try.prog w Try.underlying26 hp hpw
  obtain ⟨⟨QA, qn, qc⟩, h6, _⟩ := hg 2 _ rfl rfl rfl cells_lo (Opens.shape enc w Try.prog Try.underlying24)
  have e6 : [qv] = [Value.slice QA qn qc] := h6
  cases e6
  exact ⟨x, CA, PA, QA, AA, cc, pc, qn, qc, ac, rfl, h1, h2, h3, h4, h5⟩
end
attribute [local irreducible] Try.prog

abbrev gvQ (CA PA QA AA : Option Addr) (cc pc qn qc ac : Nat) (x : GivenR) : Value := .agg #[.slice CA x.pg.consts.length cc, .slice PA x.pg.procs.length pc, .slice QA qn qc, .int .i64 x.n, .slice AA x.args.length ac]

theorem VmRuns_fn (G : Gh) (x : GivenR) (CA PA QA AA : Option Addr) (cc pc qn qc ac : Nat) (hC : Sl Kd.val G CA x.pg.consts) (hP : Sl Kd.prc G PA x.pg.procs) (hA : Sl Kd.val G AA x.args) (hB : PgB x.pg) (hal : x.args.length * 40 ≤ 140737488351232) (n : Int) :
    Fn Try.prog 3 #[gvQ CA PA QA AA cc pc qn qc ac x, .int .i64 n] G [] fun e G' H' => e = .returned (.bool true) ∧ G.le G' := by
  have hr : ∀ {G' : Gh} {H : List Own}, G.le G' → Rds G' H AA (vflat x.args) := fun hg => Sl.vals (hA.mono hg)
  refine Fn.enter Try.func3 rfl rfl fun w0 => ?_
  refine WC.seq ?_
  refine WC.region ?_
  refine WL.op (by kernel_rfl) (OW.box rfl rfl fun b1 => ?_)
  refine go ?_
  refine WL.op (by kernel_rfl) (OW.callK rfl (capped_fn G n) rfl fun v' G' H' h hg => ?_)
  obtain ⟨he, rfl, rfl⟩ := h
  cases he
  obtain ⟨m, hm⟩ : ∃ m : Int, m = if 20000 < n then 20000 else n := ⟨_, rfl⟩
  rw [← hm]
  have hm1 : m ≤ 1000000 := by rw [hm]; split <;> omega
  clear hm
  have hol : (runR x.pg x.n m x.args).out.length ≤ 4096 := runR_out
  refine go ?_
  refine WC.drawS (Hs := [.blk b1 (.cells #[.slice CA x.pg.consts.length cc, .slice PA x.pg.procs.length pc, .slice QA qn qc, .int .i64 x.n, .slice AA x.args.length ac] 28 (0, 0))]) mixed (by repeat (first | exact Pk.nil | exact Pk.all | exact Pk.app | exact Pk.appR | with_reducible apply Pk.na | (apply Pk.cons; (repeat first | exact .here | apply Rem.there | apply Rem.app)) | apply Pk.skip | apply Pk.skipA)) ?_
  refine WB.tp (i := 0) rfl (by kernel_rfl) (by kernel_rfl) rfl (Gp.fieldAddr rfl) ?_
  (first | (refine WB.tv (i := 1) rfl (by kernel_rfl) (by kernel_rfl) rfl (Gv.load1 rfl (by (repeat first | exact .here | apply At.there)) (by first | rfl | assumption)) ?_) | (refine WB.tv (i := 1) rfl (by kernel_rfl) (by kernel_rfl) rfl (Gv.loadN rfl (by (repeat first | exact .here | apply At.there)) (by rfl) (by rfl)) ?_) | (refine WB.tv (i := 1) rfl (by kernel_rfl) (by kernel_rfl) rfl (Gv.loadG1 rfl (by assumption) rfl) ?_) | (refine WB.tv (i := 1) rfl (by kernel_rfl) (by kernel_rfl) rfl (Gv.loadG0 rfl (by assumption) rfl) ?_) | (refine WB.tv (i := 1) rfl (by kernel_rfl) (by kernel_rfl) rfl (Gv.loadGN rfl (by assumption) rfl) ?_))
  refine WB.tp (i := 2) rfl (by kernel_rfl) (by kernel_rfl) rfl (Gp.fieldAddr rfl) ?_
  (first | (refine WB.tv (i := 3) rfl (by kernel_rfl) (by kernel_rfl) rfl (Gv.load1 rfl (by (repeat first | exact .here | apply At.there)) (by first | rfl | assumption)) ?_) | (refine WB.tv (i := 3) rfl (by kernel_rfl) (by kernel_rfl) rfl (Gv.loadN rfl (by (repeat first | exact .here | apply At.there)) (by rfl) (by rfl)) ?_) | (refine WB.tv (i := 3) rfl (by kernel_rfl) (by kernel_rfl) rfl (Gv.loadG1 rfl (by assumption) rfl) ?_) | (refine WB.tv (i := 3) rfl (by kernel_rfl) (by kernel_rfl) rfl (Gv.loadG0 rfl (by assumption) rfl) ?_) | (refine WB.tv (i := 3) rfl (by kernel_rfl) (by kernel_rfl) rfl (Gv.loadGN rfl (by assumption) rfl) ?_))
  refine WB.tp (i := 4) rfl (by kernel_rfl) (by kernel_rfl) rfl (Gp.move rfl) ?_
  refine WB.tp (i := 5) rfl (by kernel_rfl) (by kernel_rfl) rfl (Gp.fieldAddr rfl) ?_
  (first | (refine WB.tv (i := 6) rfl (by kernel_rfl) (by kernel_rfl) rfl (Gv.load1 rfl (by (repeat first | exact .here | apply At.there)) (by first | rfl | assumption)) ?_) | (refine WB.tv (i := 6) rfl (by kernel_rfl) (by kernel_rfl) rfl (Gv.loadN rfl (by (repeat first | exact .here | apply At.there)) (by rfl) (by rfl)) ?_) | (refine WB.tv (i := 6) rfl (by kernel_rfl) (by kernel_rfl) rfl (Gv.loadG1 rfl (by assumption) rfl) ?_) | (refine WB.tv (i := 6) rfl (by kernel_rfl) (by kernel_rfl) rfl (Gv.loadG0 rfl (by assumption) rfl) ?_) | (refine WB.tv (i := 6) rfl (by kernel_rfl) (by kernel_rfl) rfl (Gv.loadGN rfl (by assumption) rfl) ?_))
  refine WB.tp (i := 8) rfl (by kernel_rfl) (by kernel_rfl) rfl (Gp.fieldAddr rfl) ?_
  (first | (refine WB.tv (i := 9) rfl (by kernel_rfl) (by kernel_rfl) rfl (Gv.load1 rfl (by (repeat first | exact .here | apply At.there)) (by first | rfl | assumption)) ?_) | (refine WB.tv (i := 9) rfl (by kernel_rfl) (by kernel_rfl) rfl (Gv.loadN rfl (by (repeat first | exact .here | apply At.there)) (by rfl) (by rfl)) ?_) | (refine WB.tv (i := 9) rfl (by kernel_rfl) (by kernel_rfl) rfl (Gv.loadG1 rfl (by assumption) rfl) ?_) | (refine WB.tv (i := 9) rfl (by kernel_rfl) (by kernel_rfl) rfl (Gv.loadG0 rfl (by assumption) rfl) ?_) | (refine WB.tv (i := 9) rfl (by kernel_rfl) (by kernel_rfl) rfl (Gv.loadGN rfl (by assumption) rfl) ?_))
  refine WB.tp (i := 10) rfl (by kernel_rfl) (by kernel_rfl) rfl (Gp.fieldAddr rfl) ?_
  (first | (refine WB.tv (i := 11) rfl (by kernel_rfl) (by kernel_rfl) rfl (Gv.load1 rfl (by (repeat first | exact .here | apply At.there)) (by first | rfl | assumption)) ?_) | (refine WB.tv (i := 11) rfl (by kernel_rfl) (by kernel_rfl) rfl (Gv.loadN rfl (by (repeat first | exact .here | apply At.there)) (by rfl) (by rfl)) ?_) | (refine WB.tv (i := 11) rfl (by kernel_rfl) (by kernel_rfl) rfl (Gv.loadG1 rfl (by assumption) rfl) ?_) | (refine WB.tv (i := 11) rfl (by kernel_rfl) (by kernel_rfl) rfl (Gv.loadG0 rfl (by assumption) rfl) ?_) | (refine WB.tv (i := 11) rfl (by kernel_rfl) (by kernel_rfl) rfl (Gv.loadGN rfl (by assumption) rfl) ?_))
  refine WB.tp (i := 12) rfl (by kernel_rfl) (by kernel_rfl) rfl (Gp.move rfl) ?_
  refine WB.tp (i := 13) rfl (by kernel_rfl) (by kernel_rfl) rfl (Gp.fieldAddr rfl) ?_
  (first | (refine WB.tv (i := 14) rfl (by kernel_rfl) (by kernel_rfl) rfl (Gv.load1 rfl (by (repeat first | exact .here | apply At.there)) (by first | rfl | assumption)) ?_) | (refine WB.tv (i := 14) rfl (by kernel_rfl) (by kernel_rfl) rfl (Gv.loadN rfl (by (repeat first | exact .here | apply At.there)) (by rfl) (by rfl)) ?_) | (refine WB.tv (i := 14) rfl (by kernel_rfl) (by kernel_rfl) rfl (Gv.loadG1 rfl (by assumption) rfl) ?_) | (refine WB.tv (i := 14) rfl (by kernel_rfl) (by kernel_rfl) rfl (Gv.loadG0 rfl (by assumption) rfl) ?_) | (refine WB.tv (i := 14) rfl (by kernel_rfl) (by kernel_rfl) rfl (Gv.loadGN rfl (by assumption) rfl) ?_))
  refine WB.one (i := 7) (by kernel_rfl) rfl (by kernel_rfl) (OW.callK rfl (Run_fn G x.pg CA PA cc pc (.slice QA qn qc) hC hP hB x.n m hm1 AA ac x.args [] (hr G.le_refl) (by omega)) rfl fun v' G' H' h hg => ?_)
  obtain ⟨A1, cap1, x1, he, hg1, hx1, rfl⟩ := h
  cases he
  refine ⟨fun w hw => Sat.leSub hw hg1 (by repeat (first | exact List.Sublist.refl _ | exact List.nil_sublist _ | apply List.Sublist.cons)), ?_⟩
  refine WB.one (i := 15) (by kernel_rfl) rfl (by kernel_rfl) (OW.callK rfl (rrun_fn G' x.pg CA PA QA qn cc pc qc (hC.mono hg1) (hP.mono hg1) hB x.n m hm1 AA ac x.args [] (hr hg1) (by omega)) rfl fun v' G' H' h hg => ?_)
  obtain ⟨A2, cap2, x2, he, hg2, hx2, rfl⟩ := h
  cases he
  refine ⟨fun w hw => Sat.leSub hw (Gh.le_trans hg1 hg2) (by repeat (first | exact List.Sublist.refl _ | exact List.nil_sublist _ | apply List.Sublist.cons)), ?_⟩
  refine WB.one (i := 16) (by kernel_rfl) rfl (by kernel_rfl) (OW.callK rfl (same_fn _ [x1, x2] A1 A2 cap1 cap2 _ _ (Vec.rds hx1 .here) (Vec.rds hx2 (.there .here)) (by omega)) rfl fun v' G' H' h hg => ?_)
  obtain ⟨he, rfl, rfl⟩ := h
  cases he
  rw [sameO_refl]
  refine ⟨fun w hw => Sat.leSub hw (Gh.le_trans hg1 hg2) (by repeat (first | exact List.Sublist.refl _ | exact List.nil_sublist _ | apply List.Sublist.cons)), ?_⟩
  refine WB.tp (i := 17) rfl (by kernel_rfl) (by kernel_rfl) rfl (Gp.move rfl) ?_
  refine WB.one (i := 18) (by kernel_rfl) rfl (by kernel_rfl) (OW.callK rfl (awake_fn _) rfl fun v' G' H' h hg => ?_)
  obtain ⟨he, hg3, rfl⟩ := h
  cases he
  refine ⟨fun w hw => Sat.leSub hw (Gh.le_trans hg1 (Gh.le_trans hg2 hg3)) (by repeat (first | exact List.Sublist.refl _ | exact List.nil_sublist _ | apply List.Sublist.cons)), ?_⟩
  (first | refine WB.tp (i := 19) rfl (by kernel_rfl) (by kernel_rfl) rfl (Gp.pickT rfl rfl) ?_ | refine WB.tp (i := 19) rfl (by kernel_rfl) (by kernel_rfl) rfl (Gp.pickF rfl rfl) ?_)
  refine WB.tp (i := 20) rfl (by kernel_rfl) (by kernel_rfl) rfl (Gp.assign rfl) ?_
  refine WB.done (by kernel_rfl) ?_
  refine WK.un ?_
  refine WC.ret ?_
  refine WK.un ?_
  exact QF.p1 (.inl rfl) rfl (.tmp rfl) (⟨rfl, Gh.le_trans hg1 (Gh.le_trans hg2 hg3)⟩)
end Go.Proofs.Ytjgohbepageicaa.Gb
namespace Go.Proofs.Ytjgohbepageicaa.Gb
open Go Go.Proofs
set_option linter.unusedVariables false
set_option linter.unusedSimpArgs false
set_option linter.unusedSectionVars false
section
variable {P : Program} {L : List (Nat × Value)} {d : Option Tmp} {ty : TypeId} {pos : String} {af : Array Edge} {gu : Option (Nat × Bool)}
theorem Gp.maxI {x y : Operand} {ts : Array TypeId} {m n r : Int} (hx : ev L x = some (.int .i64 m)) (hy : ev L y = some (.int .i64 n)) (h : (if n > m then n else m) = r) : Gp P L ⟨d, .call { callee := .builtin .max, args := #[x, y], argTypes := ts }, ty, pos, af, gu⟩ (.int .i64 r) :=
  fun a st w => by subst h; simp [execOp, resolve, invoke, builtin, st.eval hx, st.eval hy, Builtin.max_, Builtin.max2]
end
theorem runM_le2 {pg : Pg} : ∀ (n : Nat) (s : Mc), (runM pg n s).1 ≤ n
  | 0, s => Nat.le_refl _
  | n + 1, s => by
    unfold runM
    split
    · omega
    · have := runM_le2 (pg := pg) n (stepM pg s); simp; exact this
attribute [local irreducible] Try.prog

theorem VmSteps_fn (G : Gh) (x : GivenR) (CA PA QA AA : Option Addr) (cc pc qn qc ac : Nat) (hC : Sl Kd.val G CA x.pg.consts) (hP : Sl Kd.prc G PA x.pg.procs) (hA : Sl Kd.val G AA x.args) (hB : PgB x.pg) (hal : x.args.length * 40 ≤ 140737488351232)
    (BA : Option Addr) (bc : Nat) (l : List Int) (hl : Sl (Kd.int .i64) G BA l) (hll : l.length ≤ 100000000000000) :
    Fn Try.prog 9 #[gvQ CA PA QA AA cc pc qn qc ac x, .slice BA l.length bc] G [] fun e G' H' => e = .returned (.bool true) ∧ G.le G' := by
  have hr : ∀ {G' : Gh} {H : List Own}, G.le G' → Rds G' H AA (vflat x.args) := fun hg => Sl.vals (hA.mono hg)
  refine Fn.enter Try.func9 rfl rfl fun w0 => ?_
  refine WC.seq ?_
  refine WC.region ?_
  refine WL.op (by kernel_rfl) (OW.box rfl rfl fun b1 => ?_)
  refine go ?_
  have hst1 := Start_fn G x.pg CA PA cc pc (.slice QA qn qc) hC hP hB x.n AA ac x.args [] (hr G.le_refl) (by omega)
  cases hs : startR x.pg x.n x.args with
  | none =>
    rw [hs] at hst1
    refine WL.op (by kernel_rfl) (OW.callK rfl (hst1.mono fun e G' H' h => h) rfl fun v' G' H' h hg => ?_)
    obtain ⟨he, rfl, rfl⟩ := h
    cases he
    refine go ?_
    have hst2 := rstart_fn G x.pg CA PA QA qn cc pc qc hC hP hB x.n AA ac x.args [] (hr G.le_refl) (by omega)
    rw [hs] at hst2
    refine WL.op (by kernel_rfl) (OW.callK rfl (hst2.mono fun e G' H' h => h) rfl fun v' G' H' h hg => ?_)
    obtain ⟨he, rfl, rfl⟩ := h
    cases he
    refine go ?_
    refine WL.op (by kernel_rfl) (OW.alloc rfl fun b2 => ?_)
    refine go ?_
    refine WL.p (Gp.nePtrNil rfl ptrM) (by kernel_rfl) rfl ?_
    refine go ?_
    refine WL.op (by kernel_rfl) (OW.callK rfl (awake_fn _) rfl fun v' G' H' h hg => ?_)
    obtain ⟨he, hg3, rfl⟩ := h
    cases he
    refine go ?_
    refine WC.ret ?_
    refine WK.un ?_
    exact QF.p1 (.inl rfl) rfl (.tmp rfl) (⟨rfl, hg3⟩)
  | some q =>
    rw [hs] at hst1
    obtain ⟨hI, hL⟩ := startS_inv hs
    have hE := startS_E q x.n x.args
    refine WL.op (by kernel_rfl) (OW.callK rfl (hst1.mono fun e G' H' h => h) rfl fun v' G' H' h hg => ?_)
    obtain ⟨mb, CA1, PA1, cc1, pc1, H1, he, hg1, hC1, hP1, hM, rfl⟩ := h
    cases he
    refine WL.pick (.blk b1 (.cells #[.slice CA x.pg.consts.length cc, .slice PA x.pg.procs.length pc, .slice QA qn qc, .int .i64 x.n, .slice AA x.args.length ac] 28 (0, 0)) :: H1) ?_
    refine go ?_
    have hst2 := rstart_fn G' x.pg CA PA QA qn cc pc qc (hC.mono hg1) (hP.mono hg1) hB x.n AA ac x.args [] (hr hg1) (by omega)
    rw [hs] at hst2
    refine WL.op (by kernel_rfl) (OW.callK rfl (hst2.mono fun e G' H' h => h) rfl fun v' G' H' h hg => ?_)
    obtain ⟨FA, fc, y, he, hg2, hR, rfl⟩ := h
    cases he
    refine go ?_
    refine WL.op (by kernel_rfl) (OW.alloc rfl fun b2 => ?_)
    refine go ?_
    refine WL.p (Gp.nePtrNil rfl ptrM) (by kernel_rfl) rfl ?_
    refine go ?_
    refine WL.op (by kernel_rfl) (OW.callK rfl (told_fn _ x.pg CA PA QA qn cc pc qc CA1 PA1 cc1 pc1 x.pg.consts.length x.pg.procs.length (.slice none 0 0) mb (startS q x.n x.args) H1 hM hI hL hE FA fc none 0 y hR) rfl fun v' G' H' h hg => ?_)
    obtain ⟨he, rfl, rfl⟩ := h
    cases he
    refine go ?_
    have hg12 := Gh.le_trans hg1 hg2
    refine WC.pick (.blk b2 (.cells (mC x.pg CA PA QA qn cc pc qc (startS q x.n x.args) FA fc none 0) 70 (0, 0)) :: y :: H1) ?_
    refine WC.loop (X := Nat × Int × Mc × Gh × List Own × (Option Addr × Nat × Option Addr × Nat × Own)) (fun t => [(1, .slice BA l.length bc), (5, .pointer (some ⟨mb, 0, none⟩)), (7, .pointer (some ⟨b2, 0, none⟩)), (9, .int .i64 t.2.1), (10, .int .i64 t.1)]) (fun t => t.2.2.2.1)
      (fun t => .blk b2 (.cells (mC x.pg CA PA QA qn cc pc qc t.2.2.1 t.2.2.2.2.2.1 t.2.2.2.2.2.2.1 t.2.2.2.2.2.2.2.1 t.2.2.2.2.2.2.2.2.1) 70 (0, 0)) :: t.2.2.2.2.2.2.2.2.2 :: t.2.2.2.2.1) (fun t => l.length - t.1)
      (fun t => t.1 ≤ l.length ∧ (0 ≤ t.2.1 ∧ t.2.1 ≤ 100000 ∧ (t.2.2.1.steps : Int) ≤ t.2.1) ∧ G.le t.2.2.2.1 ∧ Gh.le _ t.2.2.2.1 ∧ MRep CA1 PA1 cc1 pc1 x.pg.consts.length x.pg.procs.length (.slice none 0 0) mb t.2.2.1 t.2.2.2.2.1 ∧ RRep t.2.2.2.1 t.2.2.1 t.2.2.2.2.2.1 t.2.2.2.2.2.2.1 t.2.2.2.2.2.2.2.1 t.2.2.2.2.2.2.2.2.1 t.2.2.2.2.2.2.2.2.2 ∧ Inv x.pg t.2.2.1 ∧ Live t.2.2.1 ∧ EInv t.2.2.1)
      (0, 0, startS q x.n x.args, _, H1, FA, fc, none, 0, y) ⟨Nat.zero_le _, ⟨Int.le_refl _, by show (0 : Int) ≤ 100000; decide, by simp [startS]⟩, hg12, hg2, hM, hR, hI, hL, hE⟩ (by exact ⟨rfl, rfl, rfl, rfl, rfl, trivial⟩) rfl (List.Sublist.refl _) fun t ht => ?_
    obtain ⟨i, al, s, G3, H3, FA3, fc3, OA3, oc3, y3⟩ := t
    obtain ⟨hi, ⟨ha0, ha1, hst⟩, hg3, hg3', hM3, hR3, hI3, hL3, hE3⟩ := ht
    dsimp only at hi ha0 ha1 hst hg3 hg3' hM3 hR3 hI3 hL3 hE3
    by_cases hil : i < l.length
    rotate_left
    · have e1 : decide ((i : Int) < (l.length : Int)) = false := decide_eq_false (by omega)
      refine go ?_
      refine WL.op (by kernel_rfl) (OW.callK rfl (awake_fn _) rfl fun v' G' H' h hg => ?_)
      obtain ⟨he, hg4, rfl⟩ := h
      cases he
      refine go ?_
      refine WC.ret ?_
      refine WK.un ?_
      exact QF.p1 (.inl rfl) rfl (.tmp rfl) (⟨rfl, Gh.le_trans hg3 hg4⟩)
    have e1 : decide ((i : Int) < (l.length : Int)) = true := decide_eq_true (by omega)
    by_cases hall : al ≤ 20000
    rotate_left
    · have e2 : decide (al ≤ 20000) = false := decide_eq_false hall
      refine go ?_
      rw [e2]
      refine go ?_
      refine WL.op (by kernel_rfl) (OW.callK rfl (awake_fn _) rfl fun v' G' H' h hg => ?_)
      obtain ⟨he, hg4, rfl⟩ := h
      cases he
      refine go ?_
      refine WC.ret ?_
      refine WK.un ?_
      exact QF.p1 (.inl rfl) rfl (.tmp rfl) (⟨rfl, Gh.le_trans hg3 hg4⟩)
    have e2 : decide (al ≤ 20000) = true := decide_eq_true hall
    obtain ⟨z, hz⟩ : ∃ z, l[i]? = some z := ⟨_, List.getElem?_eq_getElem hil⟩
    obtain ⟨lb, lo, lcs, rfl, hlK, hlc⟩ := hl.mono hg3 i z hz
    obtain rfl : lcs = [.int .i64 z] := hlK
    refine go ?_
    rw [e2]
    refine go ?_
    refine WL.op (by kernel_rfl) (OW.callK rfl (capped_fn _ z) rfl fun v' G' H' h hg => ?_)
    obtain ⟨he, rfl, rfl⟩ := h
    cases he
    obtain ⟨m, hm⟩ : ∃ m : Int, m = if 20000 < z then 20000 else z := ⟨_, rfl⟩
    rw [← hm]
    have hm1 : m ≤ 20000 := by rw [hm]; split <;> omega
    clear hm
    refine go ?_
    refine WL.op (by kernel_rfl) (OW.callK rfl (Step_fn _ x.pg CA1 PA1 cc1 pc1 (hC1.mono hg3') (hP1.mono hg3') hB.codeB mb (.slice none 0 0) s H3 hM3 hI3 hL3 m (by omega) (by omega)) rfl fun v' G' H' h hg => ?_)
    obtain ⟨he, rfl, hM4⟩ := h
    cases he
    generalize H' = H4 at *
    refine WL.pick (.blk b2 (.cells (mC x.pg CA PA QA qn cc pc qc s FA3 fc3 OA3 oc3) 70 (0, 0)) :: y3 :: H4) ?_
    refine go ?_
    refine WL.op (by kernel_rfl) (OW.callK rfl (rsteps_fn x.pg CA PA QA qn cc pc qc hB _ (hC.mono hg3) (hP.mono hg3) s FA3 fc3 OA3 oc3 y3 hR3 hI3 hL3 hE3 m (by omega) (by omega)) rfl fun v' G' H' h hg => ?_)
    obtain ⟨FA4, fc4, OA4, oc4, y4, he, hg4, hR4, rfl⟩ := h
    cases he
    have hI4 := Inv.run m.toNat s hI3 hL3
    have hE4 := hE3.run (pg := x.pg) m.toNat
    have hk1 := runM_steps m.toNat hI3 hL3
    have hk2 := runM_le2 (pg := x.pg) m.toNat s
    generalize runM x.pg m.toNat s = r at *
    obtain ⟨k, s4⟩ := r
    dsimp only at hM4 hR4 hI4 hE4 hk1 hk2
    refine go ?_
    refine WL.op (by kernel_rfl) (OW.alloc rfl fun b3 => ?_)
    have e5 : ((k : Int) != (k : Int)) = false := by simp
    refine go ?_
    refine WL.pick (.blk b2 (.cells (mC x.pg CA PA QA qn cc pc qc s4 FA4 fc4 OA4 oc4) 70 (0, 0)) :: y4 :: H4) ?_
    refine go ?_
    refine WL.op (by kernel_rfl) (OW.callK rfl (told_fn _ x.pg CA PA QA qn cc pc qc CA1 PA1 cc1 pc1 x.pg.consts.length x.pg.procs.length (.slice none 0 0) mb s4 H4 hM4 hI4.1 hI4.2 hE4 FA4 fc4 OA4 oc4 y4 hR4) rfl fun v' G' H' h hg => ?_)
    obtain ⟨he, rfl, rfl⟩ := h
    cases he
    refine go ?_
    obtain ⟨mx, hmx⟩ : ∃ mx : Int, mx = if (1 : Int) > m then 1 else m := ⟨_, rfl⟩
    have hmx1 : 0 ≤ mx ∧ mx ≤ 20000 ∧ (m.toNat : Int) ≤ mx := by rw [hmx]; split <;> omega
    refine WL.p (Gp.maxI rfl rfl hmx.symm) (by kernel_rfl) rfl ?_
    have e6 : IntKind.i64.wrap (al + mx) = al + mx := wrap_small (by omega) (by omega)
    have e7 : IntKind.i64.wrap ((i : Int) + 1) = ((i + 1 : Nat) : Int) := by rw [wrap_small (by omega) (by omega)]; omega
    refine go ?_
    refine WK.pick (.blk b2 (.cells (mC x.pg CA PA QA qn cc pc qc s4 FA4 fc4 OA4 oc4) 70 (0, 0)) :: y4 :: H4) ?_
    exact WK.again (i + 1, al + mx, s4, _, H4, FA4, fc4, OA4, oc4, y4) (by dsimp only; omega) ⟨by dsimp only; omega, ⟨by dsimp only; omega, by dsimp only; omega, by dsimp only; omega⟩, Gh.le_trans hg3 hg4, Gh.le_trans hg3' hg4, hM4, hR4, hI4.1, hI4.2, hE4⟩ (by exact ⟨rfl, rfl, rfl, rfl, rfl, trivial⟩) rfl (List.Sublist.refl _)
end Go.Proofs.Ytjgohbepageicaa.Gb
namespace Go.Proofs.Ytjgohbepageicaa.Gb
open Go Go.Proofs
set_option linter.unusedVariables false
set_option linter.unusedSimpArgs false
set_option linter.unusedSectionVars false
section
variable {P : Program} {L : List (Nat × Value)} {d : Option Tmp} {ty : TypeId} {pos : String} {af : Array Edge} {gu : Option (Nat × Bool)}
theorem Gp.convIo {s t : TypeId} {x : Operand} {k k' : IntKind} {m r : Int} {ds : TypeDesc} (hx : ev L x = some (.int k m)) [hs : Und P s ds] [ht : Und P t (.int k')] (h : k'.wrap m = r) : Gp P L ⟨d, .convert s t x, ty, pos, af, gu⟩ (.int k' r) := h ▸ Gp.convI hx
end
attribute [local irreducible] Try.prog

theorem VVec.set {b cap i : Nat} {A : Option Addr} {l : List V} {c : Array Value} (h : VVec A cap l (.blk b (.cells c 33 (0, 0)))) (hi : i < l.length) (v : V) :
    i * 4 + 4 ≤ c.size ∧ VVec A cap (l.set i v) (.blk b (.cells (splice c (i * 4) (vcells v)) 33 (0, 0))) := by
  obtain ⟨_, hfit, hput⟩ := Vec.put h hi (vcells v) rfl
  rw [show (vflat l).take (i * 4) ++ vcells v ++ (vflat l).drop (i * 4 + (vcells v).length) = vflat (l.set i v) from vflat_set l i v hi] at hput
  have el : (l.set i v).length = l.length := List.length_set
  exact ⟨hfit, by unfold VVec; rw [el]; exact hput⟩

theorem VmOwn_fn (G : Gh) (x : GivenR) (CA PA QA AA : Option Addr) (cc pc qn qc ac : Nat) (hC : Sl Kd.val G CA x.pg.consts) (hP : Sl Kd.prc G PA x.pg.procs) (hA : Sl Kd.val G AA x.args) (hB : PgB x.pg) (hal : x.args.length * 40 ≤ 140737488351232)
    (a b : Int) (ha0 : 0 ≤ a) (ha1 : a ≤ 255) (hb0 : 0 ≤ b) (hb1 : b ≤ 255) :
    Fn Try.prog 10 #[gvQ CA PA QA AA cc pc qn qc ac x, .int .u8 a, .int .u8 b] G [] fun e G' H' => e = .returned (.bool true) ∧ G.le G' := by
  have hr : ∀ {G' : Gh} {H : List Own}, G.le G' → Rds G' H AA (vflat x.args) := fun hg => Sl.vals (hA.mono hg)
  refine Fn.enter Try.func10 rfl rfl fun w0 => ?_
  refine WC.seq ?_
  refine WC.region ?_
  refine WL.op (by kernel_rfl) (OW.box rfl rfl fun b1 => ?_)
  refine go ?_
  refine WL.op (by kernel_rfl) (OW.buildSlice rfl (by kernel_rfl) (by kernel_rfl) (by rfl) rfl fun b2 => ?_)
  refine go ?_
  refine WL.op (by kernel_rfl) (OW.append rfl rfl (by kernel_rfl) (by kernel_rfl) (A := some ⟨b2, 0, none⟩) (n := 0) (cap := 0) (cs := []) ⟨rfl, .inr ⟨b2, _, rfl, rfl, Nat.le_refl _, rfl, rfl⟩⟩ .here (hr G.le_refl) (vflat_length x.args) (vflat_one x.args) (by omega) (by omega) rfl fun A1 cap1 y1 hv1 => ?_)
  have e0 : 0 + x.args.length = x.args.length := by omega
  rw [e0] at hv1 ⊢
  rw [List.nil_append] at hv1
  have hva : VVec A1 cap1 x.args y1 := hv1
  refine go ?_
  have hst1 := Start_fn G x.pg CA PA cc pc (.slice QA qn qc) hC hP hB x.n A1 cap1 x.args [y1] (Vec.rds hv1 .here) (by omega)
  cases hs : startR x.pg x.n x.args with
  | none =>
    rw [hs] at hst1
    refine WL.op (by kernel_rfl) (OW.callK rfl (hst1.mono fun e G' H' h => h) rfl fun v' G' H' h hg => ?_)
    obtain ⟨he, rfl, rfl⟩ := h
    cases he
    refine go ?_
    have hst2 := rstart_fn G x.pg CA PA QA qn cc pc qc hC hP hB x.n AA ac x.args [] (hr G.le_refl) (by omega)
    rw [hs] at hst2
    refine WL.op (by kernel_rfl) (OW.callK rfl (hst2.mono fun e G' H' h => h) rfl fun v' G' H' h hg => ?_)
    obtain ⟨he, rfl, rfl⟩ := h
    cases he
    refine go ?_
    refine WL.op (by kernel_rfl) (OW.alloc rfl fun b3 => ?_)
    refine go ?_
    refine WL.op (by kernel_rfl) (OW.callK rfl (awake_fn _) rfl fun v' G' H' h hg => ?_)
    obtain ⟨he, hg3, rfl⟩ := h
    cases he
    refine go ?_
    refine WC.ret ?_
    refine WK.un ?_
    exact QF.p1 (.inl rfl) rfl (.tmp rfl) (⟨rfl, hg3⟩)
  | some q =>
    rw [hs] at hst1
    obtain ⟨hI, hL⟩ := startS_inv hs
    have hE := startS_E q x.n x.args
    refine WL.op (by kernel_rfl) (OW.callK rfl (hst1.mono fun e G' H' h => h) rfl fun v' G' H' h hg => ?_)
    obtain ⟨mb, CA1, PA1, cc1, pc1, H1, he, hg1, hC1, hP1, hM, rfl⟩ := h
    cases he
    refine WL.pick (H1 ++ (y1 :: [.blk b1 (.cells #[.slice CA x.pg.consts.length cc, .slice PA x.pg.procs.length pc, .slice QA qn qc, .int .i64 x.n, .slice AA x.args.length ac] 28 (0, 0))])) ?_
    refine WL.pick (.blk b1 (.cells #[.slice CA x.pg.consts.length cc, .slice PA x.pg.procs.length pc, .slice QA qn qc, .int .i64 x.n, .slice AA x.args.length ac] 28 (0, 0)) :: y1 :: H1) ?_
    refine go ?_
    have hst2 := rstart_fn _ x.pg CA PA QA qn cc pc qc (hC.mono hg1) (hP.mono hg1) hB x.n AA ac x.args [] (hr hg1) (by omega)
    rw [hs] at hst2
    refine WL.op (by kernel_rfl) (OW.callK rfl (hst2.mono fun e G' H' h => h) rfl fun v' G' H' h hg => ?_)
    obtain ⟨FA, fc, y, he, hg2, hR, rfl⟩ := h
    cases he
    refine go ?_
    refine WL.op (by kernel_rfl) (OW.alloc rfl fun b3 => ?_)
    refine go ?_
    refine WC.pick (y1 :: .blk b3 (.cells (mC x.pg CA PA QA qn cc pc qc (startS q x.n x.args) FA fc none 0) 70 (0, 0)) :: y :: H1) ?_
    refine WC.loop (X := Nat × List V × Own) (fun t => [(12, .int .i64 t.1), (1, .int .u8 a), (2, .int .u8 b), (7, .slice A1 x.args.length cap1), (8, .pointer (some ⟨mb, 0, none⟩)), (10, .pointer (some ⟨b3, 0, none⟩))]) (fun _ => _) (fun t => t.2.2 :: .blk b3 (.cells (mC x.pg CA PA QA qn cc pc qc (startS q x.n x.args) FA fc none 0) 70 (0, 0)) :: y :: H1) (fun t => x.args.length - t.1)
      (fun t => t.1 ≤ x.args.length ∧ t.2.1.length = x.args.length ∧ VVec A1 cap1 t.2.1 t.2.2) (0, x.args, y1) ⟨Nat.zero_le _, by first | rfl | assumption, by assumption⟩ (by exact ⟨rfl, rfl, rfl, rfl, rfl, rfl, trivial⟩) rfl (List.Sublist.refl _) fun t ht => ?_
    obtain ⟨i, l1, o1⟩ := t
    obtain ⟨hi, hl1, hv1⟩ := ht
    dsimp only at hi hl1 hv1
    by_cases hil : i < x.args.length
    ·
      have e1 : decide ((i : Int) < ((x.args.length : Nat) : Int)) = true := decide_eq_true (by omega)
      have x1 : (0 : Int) ≤ (i : Int) := by omega
      have x2 : (i : Int) < ((x.args.length : Nat) : Int) := by omega
      obtain ⟨hlv, ⟨_, w2, _, _⟩ | ⟨yb, yc, hA, ho, w1, w2, w3⟩⟩ := id hv1
      · omega
      cases ho
      subst hA
      obtain ⟨hfit5, hput⟩ := VVec.set hv1 (by omega : i < l1.length) (⟨3, 0, false, ⟨#[115, 112, 111, 105, 108, 116]⟩⟩)
      have e7 : IntKind.i64.wrap ((i : Int) + 1) = ((i + 1 : Nat) : Int) := by rw [wrap_small (by omega) (by omega)]; omega
      refine go ?_
      refine WL.op (by kernel_rfl) (OW.callK rfl (ltext_fn _ ⟨#[115, 112, 111, 105, 108, 116]⟩) rfl fun v' G' H' h hg => ?_)
      obtain ⟨he, rfl, rfl⟩ := h
      cases he
      refine WL.p (Gp.indexAddr rfl rfl (by first | assumption | omega | decide) (by first | assumption | omega | decide | (simp only [List.length_cons, List.length_nil]; decide))) (by kernel_rfl) rfl ?_
      refine WL.op (by kernel_rfl) (OW.store (n := 4) (c' := splice yc (i * 4) (vcells (⟨3, 0, false, ⟨#[115, 112, 111, 105, 108, 116]⟩⟩))) rfl rfl (by (repeat first | exact .here | apply At.there)) rfl rfl rfl (by have : (vcells (⟨3, 0, false, ⟨#[115, 112, 111, 105, 108, 116]⟩⟩)).length = 4 := rfl; exact Nat.ble_eq_true_of_le (by simp; omega)) (by simp; rfl) ?_ rfl)
      refine go ?_
      exact WK.again (i + 1, l1.set i (⟨3, 0, false, ⟨#[115, 112, 111, 105, 108, 116]⟩⟩), _) (by dsimp only; omega) ⟨by dsimp only; omega, by simpa using hl1, by simpa using hput⟩ (by exact ⟨rfl, rfl, rfl, rfl, rfl, rfl, trivial⟩) rfl (List.Sublist.refl _)
    have e1 : decide ((i : Int) < ((x.args.length : Nat) : Int)) = false := decide_eq_false (by omega)
    refine go ?_
    refine WC.pick (.blk b3 (.cells (mC x.pg CA PA QA qn cc pc qc (startS q x.n x.args) FA fc none 0) 70 (0, 0)) :: y :: H1) ?_
    refine WC.loop (X := Nat × Mc × Gh × List Own × (Option Addr × Nat × Option Addr × Nat × Own)) (fun t => [(13, .int .i64 t.1), (1, .int .u8 a), (2, .int .u8 b), (8, .pointer (some ⟨mb, 0, none⟩)), (10, .pointer (some ⟨b3, 0, none⟩))]) (fun t => t.2.2.1)
      (fun t => .blk b3 (.cells (mC x.pg CA PA QA qn cc pc qc t.2.1 t.2.2.2.2.1 t.2.2.2.2.2.1 t.2.2.2.2.2.2.1 t.2.2.2.2.2.2.2.1) 70 (0, 0)) :: t.2.2.2.2.2.2.2.2 :: t.2.2.2.1) (fun t => 2 - t.1)
      (fun t => t.1 ≤ 2 ∧ t.2.1.steps ≤ 300 * t.1 ∧ G.le t.2.2.1 ∧ Gh.le _ t.2.2.1 ∧ MRep CA1 PA1 cc1 pc1 x.pg.consts.length x.pg.procs.length (.slice none 0 0) mb t.2.1 t.2.2.2.1 ∧ RRep t.2.2.1 t.2.1 t.2.2.2.2.1 t.2.2.2.2.2.1 t.2.2.2.2.2.2.1 t.2.2.2.2.2.2.2.1 t.2.2.2.2.2.2.2.2 ∧ Inv x.pg t.2.1 ∧ Live t.2.1 ∧ EInv t.2.1)
      (0, startS q x.n x.args, _, H1, FA, fc, none, 0, y) ⟨Nat.zero_le _, by simp [startS], Gh.le_trans hg1 hg2, hg2, hM, hR, hI, hL, hE⟩ (by exact ⟨rfl, rfl, rfl, rfl, rfl, trivial⟩) rfl (List.Sublist.refl _) fun t ht => ?_
    obtain ⟨r, s, G3, H3, FA3, fc3, OA3, oc3, y3⟩ := t
    obtain ⟨hr2, hst, hg3, hg3', hM3, hR3, hI3, hL3, hE3⟩ := ht
    dsimp only at hr2 hst hg3 hg3' hM3 hR3 hI3 hL3 hE3
    by_cases hrl : r < 2
    rotate_left
    · have e1 : decide ((r : Int) < 2) = false := decide_eq_false (by omega)
      refine go ?_
      refine WL.op (by kernel_rfl) (OW.callK rfl (awake_fn _) rfl fun v' G' H' h hg => ?_)
      obtain ⟨he, hg4, rfl⟩ := h
      cases he
      refine go ?_
      refine WC.ret ?_
      refine WK.un ?_
      exact QF.p1 (.inl rfl) rfl (.tmp rfl) (⟨rfl, Gh.le_trans hg3 hg4⟩)
    have e1 : decide ((r : Int) < 2) = true := decide_eq_true (by omega)
    refine go ?_
    refine WL.p (Gp.convIo rfl (wrap_small (x := a) (by omega) (by omega))) (by kernel_rfl) rfl ?_
    refine WL.p (Gp.assign rfl) (by kernel_rfl) rfl ?_
    refine WL.nil ?_
    refine WK.un ?_
    refine WC.seq ?_
    refine WC.joinR (X := { m : Int // 0 ≤ m ∧ m ≤ 255 }) (fun t => [(13, .int .i64 r), (1, .int .u8 a), (2, .int .u8 b), (8, .pointer (some ⟨mb, 0, none⟩)), (10, .pointer (some ⟨b3, 0, none⟩)), (14, .int .i64 t.1)])
      (fun t => .blk b3 (.cells (mC x.pg CA PA QA qn cc pc qc s FA3 fc3 OA3 oc3) 70 (0, 0)) :: y3 :: H3) ?_ fun t => ?_
    · by_cases h1 : r = 1
      ·
        have e2 : ((r : Int) == 1) = true := by rw [h1]; rfl
        refine go ?_
        refine WL.p (Gp.convIo rfl (wrap_small (x := b) (by omega) (by omega))) (by kernel_rfl) rfl ?_
        refine go ?_
        exact WK.meetR ⟨b, hb0, hb1⟩ (by exact ⟨rfl, rfl, rfl, rfl, rfl, rfl, trivial⟩) (by repeat (first | exact Pk.nil | exact Pk.all | exact Pk.app | exact Pk.appR | with_reducible apply Pk.na | (apply Pk.cons; (repeat first | exact .here | apply Rem.there | apply Rem.app)) | apply Pk.skip | apply Pk.skipA))
      ·
        have e2 : ((r : Int) == 1) = false := by rw [beq_eq_false_iff_ne]; omega
        refine go ?_
        exact WK.meetR ⟨a, ha0, ha1⟩ (by exact ⟨rfl, rfl, rfl, rfl, rfl, rfl, trivial⟩) (by repeat (first | exact Pk.nil | exact Pk.all | exact Pk.app | exact Pk.appR | with_reducible apply Pk.na | (apply Pk.cons; (repeat first | exact .here | apply Rem.there | apply Rem.app)) | apply Pk.skip | apply Pk.skipA))
    obtain ⟨m, hm0, hm1⟩ := t
    refine go ?_
    refine WL.op (by kernel_rfl) (OW.callK rfl (Step_fn _ x.pg CA1 PA1 cc1 pc1 (hC1.mono hg3') (hP1.mono hg3') hB.codeB mb (.slice none 0 0) s H3 hM3 hI3 hL3 m (by omega) (by omega)) rfl fun v' G' H' h hg => ?_)
    obtain ⟨he, rfl, hM4⟩ := h
    cases he
    generalize H' = H4 at *
    refine WL.pick (.blk b3 (.cells (mC x.pg CA PA QA qn cc pc qc s FA3 fc3 OA3 oc3) 70 (0, 0)) :: y3 :: H4) ?_
    refine go ?_
    refine WL.op (by kernel_rfl) (OW.callK rfl (rsteps_fn x.pg CA PA QA qn cc pc qc hB _ (hC.mono hg3) (hP.mono hg3) s FA3 fc3 OA3 oc3 y3 hR3 hI3 hL3 hE3 m (by omega) (by omega)) rfl fun v' G' H' h hg => ?_)
    obtain ⟨FA4, fc4, OA4, oc4, y4, he, hg4, hR4, rfl⟩ := h
    cases he
    have hI4 := Inv.run m.toNat s hI3 hL3
    have hE4 := hE3.run (pg := x.pg) m.toNat
    have hk1 := runM_steps m.toNat hI3 hL3
    have hk2 := runM_le2 (pg := x.pg) m.toNat s
    generalize runM x.pg m.toNat s = rr at *
    obtain ⟨k, s4⟩ := rr
    dsimp only at hM4 hR4 hI4 hE4 hk1 hk2
    have hmd := hI4.2.made
    have hout := hI4.1.out.1
    have htS := hI4.1.tellS
    have htV := hI4.1.tellV
    have hfr := hI4.1.frames
    refine go ?_
    refine WL.op (by kernel_rfl) (OW.callK rfl (Vars_fn _ CA1 PA1 cc1 pc1 _ _ (.slice none 0 0) mb s4 H4 hM4 (by omega) (by omega)) rfl fun v' G' H' h hg => ?_)
    obtain ⟨A5, cap5, x5, he, rfl, hx5, rfl⟩ := h
    cases he
    refine go ?_
    refine WL.op (by kernel_rfl) (OW.callK rfl (Stack_fn _ CA1 PA1 cc1 pc1 _ _ (.slice none 0 0) mb s4 H4 hM4 (by omega) (by omega)) rfl fun v' G' H' h hg => ?_)
    obtain ⟨A6, cap6, x6, he, rfl, hx6, rfl⟩ := h
    cases he
    refine go ?_
    refine WL.op (by kernel_rfl) (OW.callK rfl (Outcome_fn _ CA1 PA1 cc1 pc1 _ _ (.slice none 0 0) mb s4 H4 hM4 hmd (by omega)) rfl fun v' G' H' h hg => ?_)
    obtain ⟨A7, cap7, x7, he, rfl, hx7, rfl⟩ := h
    cases he
    refine go ?_
    refine WL.op (by kernel_rfl) (OW.alloc rfl fun b4 => ?_)
    refine go ?_
    refine WC.pick (x5 :: x6 :: x7 :: .blk b4 (.cells #[.int .i64 s4.en, .int .i64 s4.val.t, .int .i64 s4.val.i, .bool s4.val.b, .string s4.val.s, .slice A7 s4.out.length cap7, .int .i64 s4.steps] 35 (0, 0)) :: .blk b3 (.cells (mC x.pg CA PA QA qn cc pc qc s4 FA4 fc4 OA4 oc4) 70 (0, 0)) :: y4 :: H4) ?_
    refine WC.loop (X := Nat × List V × Own) (fun t => [(18, .int .i64 t.1), (13, .int .i64 r), (1, .int .u8 a), (2, .int .u8 b), (8, .pointer (some ⟨mb, 0, none⟩)), (10, .pointer (some ⟨b3, 0, none⟩)), (15, .slice A5 (topVars s4).length cap5), (16, .slice A6 (topStack s4).length cap6), (17, .pointer (some ⟨b4, 0, none⟩))]) (fun _ => _) (fun t => t.2.2 :: x6 :: x7 :: .blk b4 (.cells #[.int .i64 s4.en, .int .i64 s4.val.t, .int .i64 s4.val.i, .bool s4.val.b, .string s4.val.s, .slice A7 s4.out.length cap7, .int .i64 s4.steps] 35 (0, 0)) :: .blk b3 (.cells (mC x.pg CA PA QA qn cc pc qc s4 FA4 fc4 OA4 oc4) 70 (0, 0)) :: y4 :: H4) (fun t => (topVars s4).length - t.1)
      (fun t => t.1 ≤ (topVars s4).length ∧ t.2.1.length = (topVars s4).length ∧ VVec A5 cap5 t.2.1 t.2.2) (0, topVars s4, x5) ⟨Nat.zero_le _, by first | rfl | assumption, by assumption⟩ (by exact ⟨rfl, rfl, rfl, rfl, rfl, rfl, rfl, rfl, rfl, trivial⟩) rfl (List.Sublist.refl _) fun t ht => ?_
    obtain ⟨i, l12, o12⟩ := t
    obtain ⟨hi, hl12, hv12⟩ := ht
    dsimp only at hi hl12 hv12
    by_cases hil : i < (topVars s4).length
    ·
      have e1 : decide ((i : Int) < (((topVars s4).length : Nat) : Int)) = true := decide_eq_true (by omega)
      have x1 : (0 : Int) ≤ (i : Int) := by omega
      have x2 : (i : Int) < (((topVars s4).length : Nat) : Int) := by omega
      obtain ⟨hlv, ⟨_, w2, _, _⟩ | ⟨yb, yc, hA, ho, w1, w2, w3⟩⟩ := id hv12
      · omega
      cases ho
      subst hA
      obtain ⟨hfit5, hput⟩ := VVec.set hv12 (by omega : i < l12.length) (⟨3, 0, false, ⟨#[115, 112, 111, 105, 108, 116]⟩⟩)
      have e7 : IntKind.i64.wrap ((i : Int) + 1) = ((i + 1 : Nat) : Int) := by rw [wrap_small (by omega) (by omega)]; omega
      refine go ?_
      refine WL.op (by kernel_rfl) (OW.callK rfl (ltext_fn _ ⟨#[115, 112, 111, 105, 108, 116]⟩) rfl fun v' G' H' h hg => ?_)
      obtain ⟨he, rfl, rfl⟩ := h
      cases he
      refine WL.p (Gp.indexAddr rfl rfl (by first | assumption | omega | decide) (by first | assumption | omega | decide | (simp only [List.length_cons, List.length_nil]; decide))) (by kernel_rfl) rfl ?_
      refine WL.op (by kernel_rfl) (OW.store (n := 4) (c' := splice yc (i * 4) (vcells (⟨3, 0, false, ⟨#[115, 112, 111, 105, 108, 116]⟩⟩))) rfl rfl (by (repeat first | exact .here | apply At.there)) rfl rfl rfl (by have : (vcells (⟨3, 0, false, ⟨#[115, 112, 111, 105, 108, 116]⟩⟩)).length = 4 := rfl; exact Nat.ble_eq_true_of_le (by simp; omega)) (by simp; rfl) ?_ rfl)
      refine go ?_
      exact WK.again (i + 1, l12.set i (⟨3, 0, false, ⟨#[115, 112, 111, 105, 108, 116]⟩⟩), _) (by dsimp only; omega) ⟨by dsimp only; omega, by simpa using hl12, by simpa using hput⟩ (by exact ⟨rfl, rfl, rfl, rfl, rfl, rfl, rfl, rfl, rfl, trivial⟩) rfl (List.Sublist.refl _)
    have e1 : decide ((i : Int) < (((topVars s4).length : Nat) : Int)) = false := decide_eq_false (by omega)
    refine go ?_
    refine WC.pick (x6 :: x7 :: .blk b4 (.cells #[.int .i64 s4.en, .int .i64 s4.val.t, .int .i64 s4.val.i, .bool s4.val.b, .string s4.val.s, .slice A7 s4.out.length cap7, .int .i64 s4.steps] 35 (0, 0)) :: .blk b3 (.cells (mC x.pg CA PA QA qn cc pc qc s4 FA4 fc4 OA4 oc4) 70 (0, 0)) :: y4 :: H4) ?_
    refine WC.loop (X := Nat × List V × Own) (fun t => [(19, .int .i64 t.1), (13, .int .i64 r), (1, .int .u8 a), (2, .int .u8 b), (8, .pointer (some ⟨mb, 0, none⟩)), (10, .pointer (some ⟨b3, 0, none⟩)), (15, .slice A5 (topVars s4).length cap5), (16, .slice A6 (topStack s4).length cap6), (17, .pointer (some ⟨b4, 0, none⟩))]) (fun _ => _) (fun t => t.2.2 :: x7 :: .blk b4 (.cells #[.int .i64 s4.en, .int .i64 s4.val.t, .int .i64 s4.val.i, .bool s4.val.b, .string s4.val.s, .slice A7 s4.out.length cap7, .int .i64 s4.steps] 35 (0, 0)) :: .blk b3 (.cells (mC x.pg CA PA QA qn cc pc qc s4 FA4 fc4 OA4 oc4) 70 (0, 0)) :: y4 :: H4) (fun t => (topStack s4).length - t.1)
      (fun t => t.1 ≤ (topStack s4).length ∧ t.2.1.length = (topStack s4).length ∧ VVec A6 cap6 t.2.1 t.2.2) (0, topStack s4, x6) ⟨Nat.zero_le _, by first | rfl | assumption, by assumption⟩ (by exact ⟨rfl, rfl, rfl, rfl, rfl, rfl, rfl, rfl, rfl, trivial⟩) rfl (List.Sublist.refl _) fun t ht => ?_
    obtain ⟨i, l13, o13⟩ := t
    obtain ⟨hi, hl13, hv13⟩ := ht
    dsimp only at hi hl13 hv13
    by_cases hil : i < (topStack s4).length
    ·
      have e1 : decide ((i : Int) < (((topStack s4).length : Nat) : Int)) = true := decide_eq_true (by omega)
      have x1 : (0 : Int) ≤ (i : Int) := by omega
      have x2 : (i : Int) < (((topStack s4).length : Nat) : Int) := by omega
      obtain ⟨hlv, ⟨_, w2, _, _⟩ | ⟨yb, yc, hA, ho, w1, w2, w3⟩⟩ := id hv13
      · omega
      cases ho
      subst hA
      obtain ⟨hfit5, hput⟩ := VVec.set hv13 (by omega : i < l13.length) (⟨1, 777, false, ⟨#[]⟩⟩)
      have e7 : IntKind.i64.wrap ((i : Int) + 1) = ((i + 1 : Nat) : Int) := by rw [wrap_small (by omega) (by omega)]; omega
      refine go ?_
      refine WL.op (by kernel_rfl) (OW.callK rfl (lnumber_fn _ 777) rfl fun v' G' H' h hg => ?_)
      obtain ⟨he, rfl, rfl⟩ := h
      cases he
      refine WL.p (Gp.indexAddr rfl rfl (by first | assumption | omega | decide) (by first | assumption | omega | decide | (simp only [List.length_cons, List.length_nil]; decide))) (by kernel_rfl) rfl ?_
      refine WL.op (by kernel_rfl) (OW.store (n := 4) (c' := splice yc (i * 4) (vcells (⟨1, 777, false, ⟨#[]⟩⟩))) rfl rfl (by (repeat first | exact .here | apply At.there)) rfl rfl rfl (by have : (vcells (⟨1, 777, false, ⟨#[]⟩⟩)).length = 4 := rfl; exact Nat.ble_eq_true_of_le (by simp; omega)) (by simp; rfl) ?_ rfl)
      refine go ?_
      exact WK.again (i + 1, l13.set i (⟨1, 777, false, ⟨#[]⟩⟩), _) (by dsimp only; omega) ⟨by dsimp only; omega, by simpa using hl13, by simpa using hput⟩ (by exact ⟨rfl, rfl, rfl, rfl, rfl, rfl, rfl, rfl, rfl, trivial⟩) rfl (List.Sublist.refl _)
    have e1 : decide ((i : Int) < (((topStack s4).length : Nat) : Int)) = false := decide_eq_false (by omega)
    refine go ?_
    refine WC.pick (x7 :: o13 :: .blk b4 (.cells #[.int .i64 s4.en, .int .i64 s4.val.t, .int .i64 s4.val.i, .bool s4.val.b, .string s4.val.s, .slice A7 s4.out.length cap7, .int .i64 s4.steps] 35 (0, 0)) :: .blk b3 (.cells (mC x.pg CA PA QA qn cc pc qc s4 FA4 fc4 OA4 oc4) 70 (0, 0)) :: y4 :: H4) ?_
    refine WC.loop (X := Nat × List V × Own) (fun t => [(20, .int .i64 t.1), (13, .int .i64 r), (1, .int .u8 a), (2, .int .u8 b), (8, .pointer (some ⟨mb, 0, none⟩)), (10, .pointer (some ⟨b3, 0, none⟩)), (15, .slice A5 (topVars s4).length cap5), (16, .slice A6 (topStack s4).length cap6), (17, .pointer (some ⟨b4, 0, none⟩))]) (fun _ => _) (fun t => t.2.2 :: o13 :: .blk b4 (.cells #[.int .i64 s4.en, .int .i64 s4.val.t, .int .i64 s4.val.i, .bool s4.val.b, .string s4.val.s, .slice A7 s4.out.length cap7, .int .i64 s4.steps] 35 (0, 0)) :: .blk b3 (.cells (mC x.pg CA PA QA qn cc pc qc s4 FA4 fc4 OA4 oc4) 70 (0, 0)) :: y4 :: H4) (fun t => s4.out.length - t.1)
      (fun t => t.1 ≤ s4.out.length ∧ t.2.1.length = s4.out.length ∧ VVec A7 cap7 t.2.1 t.2.2) (0, s4.out, x7) ⟨Nat.zero_le _, by first | rfl | assumption, by assumption⟩ (by exact ⟨rfl, rfl, rfl, rfl, rfl, rfl, rfl, rfl, rfl, trivial⟩) rfl (List.Sublist.refl _) fun t ht => ?_
    obtain ⟨i, l14, o14⟩ := t
    obtain ⟨hi, hl14, hv14⟩ := ht
    dsimp only at hi hl14 hv14
    by_cases hil : i < s4.out.length
    ·
      have e1 : decide ((i : Int) < ((s4.out.length : Nat) : Int)) = true := decide_eq_true (by omega)
      have x1 : (0 : Int) ≤ (i : Int) := by omega
      have x2 : (i : Int) < ((s4.out.length : Nat) : Int) := by omega
      obtain ⟨hlv, ⟨_, w2, _, _⟩ | ⟨yb, yc, hA, ho, w1, w2, w3⟩⟩ := id hv14
      · omega
      cases ho
      subst hA
      obtain ⟨hfit5, hput⟩ := VVec.set hv14 (by omega : i < l14.length) (⟨1, 778, false, ⟨#[]⟩⟩)
      have e7 : IntKind.i64.wrap ((i : Int) + 1) = ((i + 1 : Nat) : Int) := by rw [wrap_small (by omega) (by omega)]; omega
      refine go ?_
      refine WC.drawS (Hs := [.blk b4 (.cells #[.int .i64 s4.en, .int .i64 s4.val.t, .int .i64 s4.val.i, .bool s4.val.b, .string s4.val.s, .slice (some ⟨yb, 0, none⟩) s4.out.length cap7, .int .i64 s4.steps] 35 (0, 0))]) mixed (by repeat (first | exact Pk.nil | exact Pk.all | exact Pk.app | exact Pk.appR | with_reducible apply Pk.na | (apply Pk.cons; (repeat first | exact .here | apply Rem.there | apply Rem.app)) | apply Pk.skip | apply Pk.skipA)) ?_
      refine WB.tp (i := 0) rfl (by kernel_rfl) (by kernel_rfl) rfl (Gp.fieldAddr rfl) ?_
      (first | (refine WB.tv (i := 1) rfl (by kernel_rfl) (by kernel_rfl) rfl (Gv.load1 rfl (by (repeat first | exact .here | apply At.there)) (by first | rfl | assumption)) ?_) | (refine WB.tv (i := 1) rfl (by kernel_rfl) (by kernel_rfl) rfl (Gv.loadN rfl (by (repeat first | exact .here | apply At.there)) (by rfl) (by rfl)) ?_) | (refine WB.tv (i := 1) rfl (by kernel_rfl) (by kernel_rfl) rfl (Gv.loadG1 rfl (by assumption) rfl) ?_) | (refine WB.tv (i := 1) rfl (by kernel_rfl) (by kernel_rfl) rfl (Gv.loadG0 rfl (by assumption) rfl) ?_) | (refine WB.tv (i := 1) rfl (by kernel_rfl) (by kernel_rfl) rfl (Gv.loadGN rfl (by assumption) rfl) ?_))
      refine WB.tp (i := 2) rfl (by kernel_rfl) (by kernel_rfl) rfl (Gp.move rfl) ?_
      refine WB.one (i := 3) (by kernel_rfl) rfl (by kernel_rfl) (OW.callK rfl (lnumber_fn _ 778) rfl fun v' G' H' h hg => ?_)
      obtain ⟨he, rfl, rfl⟩ := h
      cases he
      refine ⟨fun w hw => hw.pk (by repeat (first | exact Pk.nil | exact Pk.all | exact Pk.app | exact Pk.appR | with_reducible apply Pk.na | (apply Pk.cons; (repeat first | exact .here | apply Rem.there | apply Rem.app)) | apply Pk.skip | apply Pk.skipA)), ?_⟩
      refine WB.tp (i := 4) rfl (by kernel_rfl) (by kernel_rfl) rfl (Gp.indexAddr rfl rfl (by first | assumption | omega | decide) (by first | assumption | omega | decide | (simp only [List.length_cons, List.length_nil]; decide))) ?_
      refine WB.one (i := 5) (by kernel_rfl) rfl (by kernel_rfl) (OW.store (n := 4) (c' := splice yc (i * 4) (vcells (⟨1, 778, false, ⟨#[]⟩⟩))) rfl rfl (by (repeat first | exact .here | apply At.there)) rfl rfl rfl (by have : (vcells (⟨1, 778, false, ⟨#[]⟩⟩)).length = 4 := rfl; exact Nat.ble_eq_true_of_le (by simp; omega)) (by simp; rfl) ?_ rfl)
      refine ⟨fun w hw => hw.pk (by repeat (first | exact Pk.nil | exact Pk.all | exact Pk.app | exact Pk.appR | with_reducible apply Pk.na | (apply Pk.cons; (repeat first | exact .here | apply Rem.there | apply Rem.app)) | apply Pk.skip | apply Pk.skipA)), ?_⟩
      refine WB.done (by kernel_rfl) ?_
      refine WK.un ?_
      refine go ?_
      exact WK.again (i + 1, l14.set i (⟨1, 778, false, ⟨#[]⟩⟩), _) (by dsimp only; omega) ⟨by dsimp only; omega, by simpa using hl14, by simpa using hput⟩ (by exact ⟨rfl, rfl, rfl, rfl, rfl, rfl, rfl, rfl, rfl, trivial⟩) rfl (List.Sublist.refl _)
    have e1 : decide ((i : Int) < ((s4.out.length : Nat) : Int)) = false := decide_eq_false (by omega)
    refine go ?_
    refine WL.op (by kernel_rfl) (OW.callK rfl (lnumber_fn _ 1) rfl fun v' G' H' h hg => ?_)
    obtain ⟨he, rfl, rfl⟩ := h
    cases he
    refine go ?_
    refine WL.op (by kernel_rfl) (OW.callK rfl (lnumber_fn _ 2) rfl fun v' G' H' h hg => ?_)
    obtain ⟨he, rfl, rfl⟩ := h
    cases he
    refine go ?_
    refine WL.op (by kernel_rfl) (OW.buildSlice rfl (by kernel_rfl) (by kernel_rfl) (by rfl) rfl fun b5 => ?_)
    have hv13' : Vec 33 4 A6 (topStack s4).length cap6 (vflat l13) o13 := by have h := hv13; unfold VVec at h; rw [hl13] at h; exact h
    refine WL.op (by kernel_rfl) (OW.append rfl rfl (by kernel_rfl) (by kernel_rfl) hv13' (by (repeat first | exact .here | apply At.there)) (Rds.blk0 (cs := [.int .i64 1, .int .i64 1, .bool false, .string ⟨#[]⟩, .int .i64 1, .int .i64 2, .bool false, .string ⟨#[]⟩]) .here rfl) rfl rfl (by omega) (by omega) rfl fun A8 cap8 o8 hv8 => ?_)
    refine WL.p (Gp.assign rfl) (by kernel_rfl) rfl ?_
    refine WL.nil ?_
    refine WK.un ?_
    have hv14' : Vec 33 4 A7 s4.out.length cap7 (vflat l14) o14 := by have h := hv14; unfold VVec at h; rw [hl14] at h; exact h
    refine WC.seq ?_
    refine WC.joinR (X := Unit) (fun _ => [(13, .int .i64 r), (1, .int .u8 a), (2, .int .u8 b), (8, .pointer (some ⟨mb, 0, none⟩)), (10, .pointer (some ⟨b3, 0, none⟩)), (16, .slice A8 ((topStack s4).length + 2) cap8)])
      (fun _ => .blk b3 (.cells (mC x.pg CA PA QA qn cc pc qc s4 FA4 fc4 OA4 oc4) 70 (0, 0)) :: y4 :: H4) ?_ fun _ => ?_
    ·
      refine WC.draw mixed ?_
      refine WA.tp (i := 0) rfl (by kernel_rfl) (by kernel_rfl) rfl (Gp.fieldAddr rfl) ?_
      refine WA.two (i := 1) (j := 2) (by kernel_rfl) rfl rfl (by kernel_rfl) (by kernel_rfl) (OW.gv (Gv.load1 rfl (by (repeat first | exact .here | apply At.there)) rfl) rfl ?_) (OW.callK rfl (lnumber_fn _ 3) rfl fun v' G' H' h hg => ?_)
      ·
        refine WA.one (i := 2) (by kernel_rfl) rfl (by kernel_rfl) (OW.callK rfl (lnumber_fn _ 3) rfl fun v' G' H' h hg => ?_)
        obtain ⟨he, rfl, rfl⟩ := h
        cases he
        refine WA.one (i := 3) (by kernel_rfl) rfl (by kernel_rfl) (OW.callK rfl (lnumber_fn _ 4) rfl fun v' G' H' h hg => ?_)
        obtain ⟨he, rfl, rfl⟩ := h
        cases he
        refine WA.one (i := 4) (by kernel_rfl) rfl (by kernel_rfl) (OW.buildSlice rfl (by kernel_rfl) (by kernel_rfl) (by rfl) rfl fun b6 => ?_)
        refine WA.one (i := 5) (by kernel_rfl) rfl (by kernel_rfl) (OW.append rfl rfl (by kernel_rfl) (by kernel_rfl) hv14' (by (repeat first | exact .here | apply At.there)) (Rds.blk0 (cs := [.int .i64 1, .int .i64 3, .bool false, .string ⟨#[]⟩, .int .i64 1, .int .i64 4, .bool false, .string ⟨#[]⟩]) .here rfl) rfl rfl (by omega) (by omega) rfl fun A9 cap9 o9 hv9 => ?_)
        refine WA.tp (i := 6) rfl (by kernel_rfl) (by kernel_rfl) rfl (Gp.fieldAddr rfl) ?_
        refine WA.one (i := 7) (by kernel_rfl) rfl (by kernel_rfl) (OW.store rfl rfl (by (repeat first | exact .here | apply At.there)) rfl (by rfl) (by rfl) (by kernel_rfl) (by rfl) ?_ rfl)
        refine WA.done (by kernel_rfl) ?_
        refine WK.un ?_
        exact WK.meetR () (by exact ⟨rfl, rfl, rfl, rfl, rfl, rfl, trivial⟩) (by repeat (first | exact Pk.nil | exact Pk.all | exact Pk.app | exact Pk.appR | with_reducible apply Pk.na | (apply Pk.cons; (repeat first | exact .here | apply Rem.there | apply Rem.app)) | apply Pk.skip | apply Pk.skipA))
      ·
        obtain ⟨he, rfl, rfl⟩ := h
        cases he
        refine WA.two (i := 1) (j := 3) (by kernel_rfl) rfl rfl (by kernel_rfl) (by kernel_rfl) (OW.gv (Gv.load1 rfl (by (repeat first | exact .here | apply At.there)) rfl) rfl ?_) (OW.callK rfl (lnumber_fn _ 4) rfl fun v' G' H' h hg => ?_)
        ·
          refine WA.one (i := 3) (by kernel_rfl) rfl (by kernel_rfl) (OW.callK rfl (lnumber_fn _ 4) rfl fun v' G' H' h hg => ?_)
          obtain ⟨he, rfl, rfl⟩ := h
          cases he
          refine WA.one (i := 4) (by kernel_rfl) rfl (by kernel_rfl) (OW.buildSlice rfl (by kernel_rfl) (by kernel_rfl) (by rfl) rfl fun b6 => ?_)
          refine WA.one (i := 5) (by kernel_rfl) rfl (by kernel_rfl) (OW.append rfl rfl (by kernel_rfl) (by kernel_rfl) hv14' (by (repeat first | exact .here | apply At.there)) (Rds.blk0 (cs := [.int .i64 1, .int .i64 3, .bool false, .string ⟨#[]⟩, .int .i64 1, .int .i64 4, .bool false, .string ⟨#[]⟩]) .here rfl) rfl rfl (by omega) (by omega) rfl fun A9 cap9 o9 hv9 => ?_)
          refine WA.tp (i := 6) rfl (by kernel_rfl) (by kernel_rfl) rfl (Gp.fieldAddr rfl) ?_
          refine WA.one (i := 7) (by kernel_rfl) rfl (by kernel_rfl) (OW.store rfl rfl (by (repeat first | exact .here | apply At.there)) rfl (by rfl) (by rfl) (by kernel_rfl) (by rfl) ?_ rfl)
          refine WA.done (by kernel_rfl) ?_
          refine WK.un ?_
          exact WK.meetR () (by exact ⟨rfl, rfl, rfl, rfl, rfl, rfl, trivial⟩) (by repeat (first | exact Pk.nil | exact Pk.all | exact Pk.app | exact Pk.appR | with_reducible apply Pk.na | (apply Pk.cons; (repeat first | exact .here | apply Rem.there | apply Rem.app)) | apply Pk.skip | apply Pk.skipA))
        ·
          obtain ⟨he, rfl, rfl⟩ := h
          cases he
          refine WA.two (i := 1) (j := 4) (by kernel_rfl) rfl rfl (by kernel_rfl) (by kernel_rfl) (OW.gv (Gv.load1 rfl (by (repeat first | exact .here | apply At.there)) rfl) rfl ?_) (OW.buildSlice rfl (by kernel_rfl) (by kernel_rfl) (by rfl) rfl fun b6 => ?_)
          ·
            refine WA.one (i := 4) (by kernel_rfl) rfl (by kernel_rfl) (OW.buildSlice rfl (by kernel_rfl) (by kernel_rfl) (by rfl) rfl fun b6 => ?_)
            refine WA.one (i := 5) (by kernel_rfl) rfl (by kernel_rfl) (OW.append rfl rfl (by kernel_rfl) (by kernel_rfl) hv14' (by (repeat first | exact .here | apply At.there)) (Rds.blk0 (cs := [.int .i64 1, .int .i64 3, .bool false, .string ⟨#[]⟩, .int .i64 1, .int .i64 4, .bool false, .string ⟨#[]⟩]) .here rfl) rfl rfl (by omega) (by omega) rfl fun A9 cap9 o9 hv9 => ?_)
            refine WA.tp (i := 6) rfl (by kernel_rfl) (by kernel_rfl) rfl (Gp.fieldAddr rfl) ?_
            refine WA.one (i := 7) (by kernel_rfl) rfl (by kernel_rfl) (OW.store rfl rfl (by (repeat first | exact .here | apply At.there)) rfl (by rfl) (by rfl) (by kernel_rfl) (by rfl) ?_ rfl)
            refine WA.done (by kernel_rfl) ?_
            refine WK.un ?_
            exact WK.meetR () (by exact ⟨rfl, rfl, rfl, rfl, rfl, rfl, trivial⟩) (by repeat (first | exact Pk.nil | exact Pk.all | exact Pk.app | exact Pk.appR | with_reducible apply Pk.na | (apply Pk.cons; (repeat first | exact .here | apply Rem.there | apply Rem.app)) | apply Pk.skip | apply Pk.skipA))
          ·
            (first | (refine WA.tv (i := 1) rfl (by kernel_rfl) (by kernel_rfl) rfl (Gv.load1 rfl (by (repeat first | exact .here | apply At.there)) (by first | rfl | assumption)) ?_) | (refine WA.tv (i := 1) rfl (by kernel_rfl) (by kernel_rfl) rfl (Gv.loadN rfl (by (repeat first | exact .here | apply At.there)) (by rfl) (by rfl)) ?_) | (refine WA.tv (i := 1) rfl (by kernel_rfl) (by kernel_rfl) rfl (Gv.loadG1 rfl (by assumption) rfl) ?_) | (refine WA.tv (i := 1) rfl (by kernel_rfl) (by kernel_rfl) rfl (Gv.loadG0 rfl (by assumption) rfl) ?_) | (refine WA.tv (i := 1) rfl (by kernel_rfl) (by kernel_rfl) rfl (Gv.loadGN rfl (by assumption) rfl) ?_))
            refine WA.one (i := 5) (by kernel_rfl) rfl (by kernel_rfl) (OW.append rfl rfl (by kernel_rfl) (by kernel_rfl) hv14' (by (repeat first | exact .here | apply At.there)) (Rds.blk0 (cs := [.int .i64 1, .int .i64 3, .bool false, .string ⟨#[]⟩, .int .i64 1, .int .i64 4, .bool false, .string ⟨#[]⟩]) .here rfl) rfl rfl (by omega) (by omega) rfl fun A9 cap9 o9 hv9 => ?_)
            refine WA.tp (i := 6) rfl (by kernel_rfl) (by kernel_rfl) rfl (Gp.fieldAddr rfl) ?_
            refine WA.one (i := 7) (by kernel_rfl) rfl (by kernel_rfl) (OW.store rfl rfl (by (repeat first | exact .here | apply At.there)) rfl (by rfl) (by rfl) (by kernel_rfl) (by rfl) ?_ rfl)
            refine WA.done (by kernel_rfl) ?_
            refine WK.un ?_
            exact WK.meetR () (by exact ⟨rfl, rfl, rfl, rfl, rfl, rfl, trivial⟩) (by repeat (first | exact Pk.nil | exact Pk.all | exact Pk.app | exact Pk.appR | with_reducible apply Pk.na | (apply Pk.cons; (repeat first | exact .here | apply Rem.there | apply Rem.app)) | apply Pk.skip | apply Pk.skipA))
    have e9 : decide ((((topStack s4).length + 2 : Nat) : Int) < 2) = false := decide_eq_false (by omega)
    refine go ?_
    refine WL.op (by kernel_rfl) (OW.callK rfl (told_fn _ x.pg CA PA QA qn cc pc qc CA1 PA1 cc1 pc1 x.pg.consts.length x.pg.procs.length (.slice none 0 0) mb s4 H4 hM4 hI4.1 hI4.2 hE4 FA4 fc4 OA4 oc4 y4 hR4) rfl fun v' G' H' h hg => ?_)
    obtain ⟨he, rfl, rfl⟩ := h
    cases he
    have e7 : IntKind.i64.wrap ((r : Int) + 1) = ((r + 1 : Nat) : Int) := by rw [wrap_small (by omega) (by omega)]; omega
    refine go ?_
    refine WK.pick (.blk b3 (.cells (mC x.pg CA PA QA qn cc pc qc s4 FA4 fc4 OA4 oc4) 70 (0, 0)) :: y4 :: H4) ?_
    exact WK.again (r + 1, s4, _, H4, FA4, fc4, OA4, oc4, y4) (by dsimp only; omega) ⟨by dsimp only; omega, by dsimp only; omega, Gh.le_trans hg3 hg4, Gh.le_trans hg3' hg4, hM4, hR4, hI4.1, hI4.2, hE4⟩ (by exact ⟨rfl, rfl, rfl, rfl, rfl, trivial⟩) rfl (List.Sublist.refl _)
end Go.Proofs.Ytjgohbepageicaa.Gb
namespace Go.Proofs.Ytjgohbepageicaa.Gb
open Go Go.Proofs Go.RowKit Go.ChangeShapes Go.WideShapes
set_option linter.unusedVariables false
section
variable {H : Type} (enc : TypeId × Value → H) (P : Program) (w : World)
theorem open_sliceK {t e : TypeId} {α : Type} {k : Kd α} {B : α → Prop} (ht : P.underlying t = some (.slice e)) (hc : P.cellsOf e = k.n) (h0 : 0 < k.n) {by_ : Nat} (hby : P.bytesOf e = by_) (h : Opens enc P w e k B)
    {v : Value} {d : DataW H} {ps : List MemPlace} {base : Nat} (hval : Value.okWide P w .any base t v) (hd : DataW.Trod enc P w 0 (fun _ => true) true t v d ps) (hw : ∀ n ∈ d.weights P t, n ≤ reachBytes) :
    ∃ (A : Option Addr) (cap : Nat) (xs : List α), v = .slice A xs.length cap ∧ xs.length ≤ cap ∧ Sl k (Gw w) A xs ∧ xs.length * by_ ≤ 140737488351232 ∧ ∀ x ∈ xs, B x := by
  obtain ⟨A, len, cap, rfl⟩ := okWide_slice ht hval
  obtain ⟨fuel, hd⟩ := hd
  obtain ⟨xs, ⟨A', cap', h1, hle, h2⟩, h3, h4⟩ := Opens.slice enc P w ht hc h0 hby h fuel _ d ps hd hw
  have e1 : [Value.slice A len cap] = [Value.slice A' xs.length cap'] := h1
  cases e1
  exact ⟨_, _, xs, rfl, hle, h2, h3, h4⟩
end
end Go.Proofs.Ytjgohbepageicaa.Gb
namespace Go.Proofs.Ytjgohbepageicaa.vmOwn
open Go.ChangeShapes Go.WideShapes Go.ChangeAt Go.RowKit Go Go.Proofs Go.WideMaps Go.WideElems
open Go.ChangeMaps (open_string shut_string)
set_option linter.unusedVariables false

theorem own : ownKnob Try.prog.godebug = none := by kernel_rfl

theorem walk (w : World) (x : Gb.GivenR) (CA PA QA AA : Option Addr) (cc pc qn qc ac : Nat) (hC : Gb.Sl Gb.Kd.val (Gb.Gw w) CA x.pg.consts) (hP : Gb.Sl Gb.Kd.prc (Gb.Gw w) PA x.pg.procs) (hA : Gb.Sl Gb.Kd.val (Gb.Gw w) AA x.args) (hB : Gb.PgB x.pg) (hal : x.args.length * 40 ≤ 140737488351232) (a1 : Int) (w1 : (Lit.int .u8 a1).wf = true) (a2 : Int) (w2 : (Lit.int .u8 a2).wf = true) :
    Calls Try.prog 10 #[Gb.gvQ CA PA QA AA cc pc qn qc ac x, .int .u8 a1, .int .u8 a2] w fun e w' => e = .returned (.bool true) ∧ Gb.Kept w w' := by
  have hb1 := bounds_u8 w1
  have hb2 := bounds_u8 w2
  exact (Gb.VmOwn_fn (Gb.Gw w) x CA PA QA AA cc pc qn qc ac hC hP hA hB hal a1 a2 hb1.1 hb1.2 hb2.1 hb2.2).keptG (fun e G' H' h => h.1) (Gb.Sat.whole w)

theorem laidOut : laidOutB Try.prog = true := by kernel_rfl
set_option maxRecDepth 100000 in
theorem lifted (os : Os) (started : os.Started) (H : Type) (enc : TypeId × Value → H) :
    ReturnsInHanded {} Try.checked os 10 .any (Rows.vmOwnSpec.pre6 enc Try.prog Try.f10 Rows.vmOwnRow.domain false) (Rows.vmOwnSpec.post enc Try.prog Try.f10 false true false false) := by
  refine returnsInHanded_of_change_sized (C := Try.checked) own started (by kernel_rfl) Try.func10
    (ChangeSpec.witness6 (enc := enc) (C := Try.checked) false ⟨#[], #[.agg #[.slice none 0 0, .slice none 0 0, .slice none 0 0, .int .i64 0, .slice none 0 0], .int .u8 0, .int .u8 0], []⟩ 8 (by kernel_rfl) (by kernel_rfl) (by kernel_rfl) (by kernel_rfl)) ?_
  intro W base args ds gs before hval0 hW hcnd hsz0 _
  have hsz : (DataW.weightsEach Try.prog (Try.f10.params.toList ++ Rows.vmOwnSpec.plain.varTypes Try.prog) (ds ++ gs)).all (· ≤ reachBytes) = true := hsz0
  have hval : ∀ (j : Nat) t v, Try.f10.params[j]? = some t → args[j]? = some v → Value.okWide Try.prog W .any base t v := hval0
  have hW' := hW
  obtain ⟨p, q, hA0, hV, rfl, hfz, hnd⟩ := hW
  have hA : DataW.TrodAll enc Try.prog W 0 (fun _ => true) true Try.f10.params.toList args.toList ds p := hA0
  rw [Try.params10] at hA hval hsz
  obtain ⟨v0, vs0, d0, ds0, p0, q0, hargs, rfl, rfl, h0, r0⟩ := trodAll_cons hA
  obtain ⟨v1, vs1, d1, ds1, p1, q1, rfl, rfl, rfl, h1, r1⟩ := trodAll_cons r0
  obtain ⟨v2, vs2, d2, ds2, p2, q2, rfl, rfl, rfl, h2, r2⟩ := trodAll_cons r1
  obtain ⟨rfl, rfl, rfl⟩ := trodAll_nil r2
  obtain rfl : args = #[v0, v1, v2] := by cases args; simp_all
  obtain ⟨rfl, rfl⟩ := trodVars_none hV
  obtain ⟨x0, CA0, PA0, QA0, AA0, cc0, pc0, qn0, qc0, ac0, rfl, hC0, hP0, hA0, hB0, hal0⟩ := Gb.open_givenQ enc W (hval 0 28 v0 rfl rfl) h0 (Gb.sized_each hsz (j := 0) rfl rfl)
  obtain ⟨a1, rfl, rfl, rfl, w1⟩ := open_int Try.underlying5 (hval 1 5 v1 rfl rfl) h1
  obtain ⟨a2, rfl, rfl, rfl, w2⟩ := open_int Try.underlying5 (hval 2 5 v2 rfl rfl) h2
  clear hA0 hval0 hsz0 hsz
  refine (walk W x0 CA0 PA0 QA0 AA0 cc0 pc0 qn0 qc0 ac0 hC0 hP0 hA0 hB0 hal0 a1 w1 a2 w2).mono fun e W' ⟨he, hg⟩ => ?_
  subst he
  exact ⟨_, rfl, _, _, _, [], _, [], hW', trodAll_mk1 (shut_bool Try.underlying4 _), (trodAll_cons_mk (Gb.Kept.trod laidOut (by kernel_rfl) (of_decide_eq_true (by kernel_rfl)) h0 hg) (trodAll_cons_mk (shut_int Try.underlying5 w1) (trodAll_cons_mk (shut_int Try.underlying5 w2) trodAll_mk0))), rfl, hg.grown.frame _, fun h => by cases h⟩

theorem over : Rows.vmOwnRow.holds Try.pinned (OpenSpec.ofChange Rows.vmOwnSpec) :=
  OpenClaim.holds_of_wide 10 Try.f10 rfl rfl rfl rfl rfl rfl rfl ⟨rfl, rfl, rfl, rfl, rfl⟩ rfl rfl rfl rfl rfl (by kernel_rfl) Try.func10 (by kernel_rfl)
    (of_decide_eq_true (by kernel_rfl)) (by unfold Func.isWrapper; first | (rw [if_pos (by decide +kernel)]; kernel_rfl) | (rw [if_neg (by decide +kernel)]; exact ⟨rfl, rfl⟩))
    (fun os started H enc _ => lifted os started H enc)

/-- the statement -/
theorem proved : Rows.VmOwnSaid :=
  over
#print axioms proved
end Go.Proofs.Ytjgohbepageicaa.vmOwn
