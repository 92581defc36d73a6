/- More fuel never turns what a run came to: walked, and the statement proved. -/
import Derived.Test.YtjgohbepageicaaXp
import Derived.Test.YtjgohbepageicaaXk
import Derived.Test.YtjgohbepageicaaXd
import Derived.Test.YtjgohbepageicaaRows
import Derived.RowKit3
import Derived.WalkKit
import Derived.ProofKit
import Derived.OpenShut
import Derived.ShutString
import Derived.ChangeOld
import Derived.Below
import Derived.Carry
import Derived.SizedLaws
namespace Go.Proofs.Ytjgohbepageicaa.Gb
open Go Go.Proofs
set_option linter.unusedVariables false
set_option linter.unusedSimpArgs false
set_option linter.unusedSectionVars false
section
variable {L : List (Nat × Value)} {d : Option Tmp} {ty : TypeId} {pos : String} {af : Array Edge} {gu : Option (Nat × Bool)}
theorem Gp.remf {P : Program} {t t' : TypeId} {x y : Operand} {k : IntKind} {m n r : Int} (hx : ev L x = some (.int k m)) (hy : ev L y = some (.int k n)) (hn : n ≠ 0) (h : m.tmod n = r) : Gp P L ⟨d, .binOp .rem t x y t', ty, pos, af, gu⟩ (.int k r) := h ▸ Gp.rem hx hy hn
theorem Gp.convIf {P : Program} {s t : TypeId} {x : Operand} {k k' : IntKind} {m r : Int} {ds : TypeDesc} (hx : ev L x = some (.int k m)) [hs : Und P s ds] [ht : Und P t (.int k')] (h : k'.wrap m = r) : Gp P L ⟨d, .convert s t x, ty, pos, af, gu⟩ (.int k' r) := h ▸ Gp.convI hx
theorem Gp.eqVf {x y : Operand} {t' : TypeId} {u v : V} {r : Bool} (hx : ev L x = some (.agg #[.int .i64 u.t, .int .i64 u.i, .bool u.b, .string u.s])) (hy : ev L y = some (.agg #[.int .i64 v.t, .int .i64 v.i, .bool v.b, .string v.s])) (h : decide (u = v) = r) :
    Gp Try.prog L ⟨d, .binOp .eql 33 x y t', ty, pos, af, gu⟩ (.bool r) := h ▸ Gp.eqV hx hy
end
attribute [local irreducible] Try.prog

abbrev givV (CA PA AA : Option Addr) (cc pc ac : Nat) (qv : Value) (x : GivenR) : Value := .agg #[.slice CA x.pg.consts.length cc, .slice PA x.pg.procs.length pc, qv, .int .i64 x.n, .slice AA x.args.length ac]

theorem VmFuel_fn (G : Gh) (x : GivenR) (CA PA AA : Option Addr) (cc pc ac : Nat) (qv : Value) (hC : Sl Kd.val G CA x.pg.consts) (hP : Sl Kd.prc G PA x.pg.procs) (hA : Sl Kd.val G AA x.args) (hB : PgB x.pg) (hal : x.args.length * 40 ≤ 140737488351232)
    (a b : Int) (ha0 : 0 ≤ a) (ha1 : a ≤ 65535) (hb0 : 0 ≤ b) (hb1 : b ≤ 65535) :
    Fn Try.prog 4 #[givV CA PA AA cc pc ac qv x, .int .u16 a, .int .u16 b] G [] fun e G' H' => e = .returned (.bool true) ∧ G.le G' := by
  obtain ⟨N, hN, hN1⟩ : ∃ N : Nat, a.tmod 20000 = N ∧ N < 20000 := ⟨(a.tmod 20000).toNat, by rw [Int.tmod_eq_emod_of_nonneg ha0]; omega, by rw [Int.tmod_eq_emod_of_nonneg ha0]; omega⟩
  obtain ⟨K, hK, hK1⟩ : ∃ K : Nat, b.tmod 20000 = K ∧ K < 20000 := ⟨(b.tmod 20000).toNat, by rw [Int.tmod_eq_emod_of_nonneg hb0]; omega, by rw [Int.tmod_eq_emod_of_nonneg hb0]; omega⟩
  have hr : ∀ {G' : Gh} {H : List Own}, G.le G' → Rds G' H AA (vflat x.args) := fun hg => Sl.vals (hA.mono hg)
  obtain ⟨hlaw1, hlaw2⟩ := fuel_law x.pg x.n x.args N K
  have hol : (runR x.pg x.n N x.args).out.length ≤ 4096 := runR_out
  have hpl : (runR x.pg x.n ((N : Int) + K) x.args).out.length ≤ 4096 := runR_out
  refine Fn.enter Try.func4 rfl rfl fun w0 => ?_
  refine WC.seq ?_
  refine WC.region ?_
  refine WL.op (by kernel_rfl) (OW.box rfl rfl fun b1 => ?_)
  refine WL.p (Gp.assign rfl) (by kernel_rfl) rfl ?_
  refine WL.nil ?_
  refine WK.un ?_
  refine WC.seq ?_
  refine WC.region ?_
  refine WL.p (Gp.move rfl) (by kernel_rfl) rfl ?_
  refine WL.p (Gp.convIf rfl (wrap_small (x := a) (by omega) (by omega))) (by kernel_rfl) rfl ?_
  refine WL.p (Gp.remf rfl rfl (by decide) hN) (by kernel_rfl) rfl ?_
  refine WL.p (Gp.move rfl) (by kernel_rfl) rfl ?_
  refine WL.p (Gp.convIf rfl (wrap_small (x := b) (by omega) (by omega))) (by kernel_rfl) rfl ?_
  refine WL.p (Gp.remf rfl rfl (by decide) hK) (by kernel_rfl) rfl ?_
  refine WL.p (Gp.assign rfl) (by kernel_rfl) rfl ?_
  refine WL.p (Gp.assign rfl) (by kernel_rfl) rfl ?_
  refine WL.nil ?_
  refine WK.un ?_
  refine WC.seq ?_
  refine WC.region ?_
  refine WL.p (Gp.fieldAddr rfl) (by kernel_rfl) rfl ?_
  refine WL.v (Gv.loadN rfl (by (repeat first | exact .here | apply At.there)) rfl rfl) (by kernel_rfl) rfl ?_
  refine WL.p (Gp.fieldAddr rfl) (by kernel_rfl) rfl ?_
  refine WL.v (Gv.load1 rfl (by (repeat first | exact .here | apply At.there)) rfl) (by kernel_rfl) rfl ?_
  refine WL.p (Gp.move rfl) (by kernel_rfl) rfl ?_
  refine WL.p (Gp.fieldAddr rfl) (by kernel_rfl) rfl ?_
  refine WL.v (Gv.load1 rfl (by (repeat first | exact .here | apply At.there)) rfl) (by kernel_rfl) rfl ?_
  refine WL.op (by kernel_rfl) (OW.callK rfl (Run_fn G x.pg CA PA cc pc qv hC hP hB x.n N (by omega) AA ac x.args [] (hr G.le_refl) (by omega)) rfl fun v' G' H' h hg => ?_)
  obtain ⟨A1, cap1, x1, he, hg1, hx1, rfl⟩ := h
  cases he
  refine WL.op (by kernel_rfl) (OW.alloc rfl fun b2 => ?_)
  refine WL.op (by kernel_rfl) (OW.store rfl rfl (by (repeat first | exact .here | apply At.there)) rfl (by rfl) (by rfl) (by kernel_rfl) (by rfl) ?_ rfl)
  refine WL.nil ?_
  refine WK.un ?_
  refine WC.seq ?_
  refine WC.region ?_
  refine WL.p (Gp.fieldAddr rfl) (by kernel_rfl) rfl ?_
  refine WL.v (Gv.loadN rfl (by (repeat first | exact .here | apply At.there)) rfl rfl) (by kernel_rfl) rfl ?_
  refine WL.p (Gp.fieldAddr rfl) (by kernel_rfl) rfl ?_
  refine WL.v (Gv.load1 rfl (by (repeat first | exact .here | apply At.there)) rfl) (by kernel_rfl) rfl ?_
  refine WL.p (Gp.move rfl) (by kernel_rfl) rfl ?_
  refine WL.p (Gp.move rfl) (by kernel_rfl) rfl ?_
  refine WL.p (Gp.add' rfl rfl (wrap_small (x := (N : Int) + K) (by omega) (by omega))) (by kernel_rfl) rfl ?_
  refine WL.p (Gp.fieldAddr rfl) (by kernel_rfl) rfl ?_
  refine WL.v (Gv.load1 rfl (by (repeat first | exact .here | apply At.there)) rfl) (by kernel_rfl) rfl ?_
  refine WL.op (by kernel_rfl) (OW.callK rfl (Run_fn _ x.pg CA PA cc pc qv (hC.mono hg1) (hP.mono hg1) hB x.n ((N : Int) + K) (by omega) AA ac x.args [] (hr hg1) (by omega)) rfl fun v' G' H' h hg => ?_)
  obtain ⟨A2, cap2, x2, he, hg2, hx2, rfl⟩ := h
  cases he
  refine WL.op (by kernel_rfl) (OW.alloc rfl fun b3 => ?_)
  refine WL.op (by kernel_rfl) (OW.store rfl rfl (by (repeat first | exact .here | apply At.there)) rfl (by rfl) (by rfl) (by kernel_rfl) (by rfl) ?_ rfl)
  refine WL.nil ?_
  refine WK.un ?_
  generalize runR x.pg x.n N x.args = o at *
  generalize runR x.pg x.n ((N : Int) + K) x.args = p at *
  refine WC.seq ?_
  refine WC.seq ?_
  refine WC.region ?_
  refine WL.p (Gp.fieldAddr rfl) (by kernel_rfl) rfl ?_
  refine WL.v (Gv.load1 rfl (by (repeat first | exact .here | apply At.there)) rfl) (by kernel_rfl) rfl ?_
  by_cases h5 : o.en = 5
  rotate_left
  · have hpo := hlaw1 h5
    subst hpo
    refine WL.p (Gp.neI' rfl rfl (show (p.en != 5) = true by simpa using h5)) (by kernel_rfl) rfl ?_
    refine WL.nil ?_
    refine WK.un ?_
    refine WC.cond_true rfl ?_
    refine WC.seq ?_
    refine WC.region ?_
    refine WL.v (Gv.loadN rfl (by (repeat first | exact .here | apply At.there)) rfl rfl) (by kernel_rfl) rfl ?_
    refine WL.v (Gv.loadN rfl (by (repeat first | exact .here | apply At.there)) rfl rfl) (by kernel_rfl) rfl ?_
    refine WL.op (by kernel_rfl) (OW.callK rfl (same_fn _ [x1, x2] A1 A2 cap1 cap2 p p (Vec.rds hx1 .here) (Vec.rds hx2 (.there .here)) (by omega)) rfl fun v' G' H' h hg => ?_)
    obtain ⟨he, rfl, rfl⟩ := h
    cases he
    rw [sameO_refl]
    refine WL.p (Gp.move rfl) (by kernel_rfl) rfl ?_
    refine WL.op (by kernel_rfl) (OW.callK rfl (awake_fn _) rfl fun v' G' H' h hg => ?_)
    obtain ⟨he, hg3, rfl⟩ := h
    cases he
    (first | refine WL.p (Gp.pickT rfl rfl) (by kernel_rfl) rfl ?_ | refine WL.p (Gp.pickF rfl rfl) (by kernel_rfl) rfl ?_)
    refine WL.p (Gp.assign rfl) (by kernel_rfl) rfl ?_
    refine WL.nil ?_
    refine WK.un ?_
    refine WC.ret ?_
    refine WK.un ?_
    exact QF.p1 (.inl rfl) rfl (.tmp rfl) (⟨rfl, Gh.le_trans hg1 (Gh.le_trans hg2 hg3)⟩)
  obtain ⟨h1, ⟨l, h2⟩, h3, h4, h6⟩ := hlaw2 h5
  refine WL.p (Gp.neI' rfl rfl (show (o.en != 5) = false by simpa using h5)) (by kernel_rfl) rfl ?_
  refine WL.nil ?_
  refine WK.un ?_
  refine WC.cond_false rfl ?_
  refine WC.skip ?_
  refine WK.un ?_
  refine WC.seq ?_
  refine WC.region ?_
  refine WL.p (Gp.fieldAddr rfl) (by kernel_rfl) rfl ?_
  refine WL.v (Gv.load1 rfl (by (repeat first | exact .here | apply At.there)) rfl) (by kernel_rfl) rfl ?_
  refine WL.p (Gp.move rfl) (by kernel_rfl) rfl ?_
  refine WL.p (Gp.eqI' rfl rfl (show (o.steps == (N : Int)) = true by simpa using h1)) (by kernel_rfl) rfl ?_
  refine WL.p (Gp.move rfl) (by kernel_rfl) rfl ?_
  refine WL.p (Gp.fieldAddr rfl) (by kernel_rfl) rfl ?_
  refine WL.v (Gv.load1 rfl (by (repeat first | exact .here | apply At.there)) rfl) (by kernel_rfl) rfl ?_
  refine WL.p (Gp.fieldAddr rfl) (by kernel_rfl) rfl ?_
  refine WL.v (Gv.load1 rfl (by (repeat first | exact .here | apply At.there)) rfl) (by kernel_rfl) rfl ?_
  refine WL.op (by kernel_rfl) (OW.callK rfl (begins_fn _ [x2, x1] A2 A1 cap2 cap1 p.out o.out (Vec.rds hx2 .here) (Vec.rds hx1 (.there .here)) hx2.le (by omega)) rfl fun v' G' H' h hg => ?_)
  obtain ⟨he, rfl, rfl⟩ := h
  cases he
  rw [show decide (o.out.length ≤ p.out.length ∧ p.out.take o.out.length = o.out) = true from decide_eq_true ⟨by rw [h2]; simp, by rw [h2]; simp⟩]
  (first | refine WL.p (Gp.pickT rfl rfl) (by kernel_rfl) rfl ?_ | refine WL.p (Gp.pickF rfl rfl) (by kernel_rfl) rfl ?_)
  refine WL.p (Gp.move rfl) (by kernel_rfl) rfl ?_
  refine WL.p (Gp.fieldAddr rfl) (by kernel_rfl) rfl ?_
  refine WL.v (Gv.load1 rfl (by (repeat first | exact .here | apply At.there)) rfl) (by kernel_rfl) rfl ?_
  refine WL.p (Gp.move rfl) (by kernel_rfl) rfl ?_
  refine WL.p (Gp.geI' rfl rfl (show decide ((N : Int) ≤ p.steps) = true from decide_eq_true h3)) (by kernel_rfl) rfl ?_
  (first | refine WL.p (Gp.pickT rfl rfl) (by kernel_rfl) rfl ?_ | refine WL.p (Gp.pickF rfl rfl) (by kernel_rfl) rfl ?_)
  refine WL.p (Gp.move rfl) (by kernel_rfl) rfl ?_
  refine WL.p (Gp.fieldAddr rfl) (by kernel_rfl) rfl ?_
  refine WL.v (Gv.load1 rfl (by (repeat first | exact .here | apply At.there)) rfl) (by kernel_rfl) rfl ?_
  refine WL.p (Gp.neI' rfl rfl (show (p.en != 0) = true by simpa using h4)) (by kernel_rfl) rfl ?_
  (first | refine WL.p (Gp.pickT rfl rfl) (by kernel_rfl) rfl ?_ | refine WL.p (Gp.pickF rfl rfl) (by kernel_rfl) rfl ?_)
  refine WL.p (Gp.move rfl) (by kernel_rfl) rfl ?_
  refine WL.p (Gp.fieldAddr rfl) (by kernel_rfl) rfl ?_
  refine WL.v (Gv.loadN rfl (by (repeat first | exact .here | apply At.there)) rfl rfl) (by kernel_rfl) rfl ?_
  refine WL.p (Gp.build rfl rfl) (by kernel_rfl) rfl ?_
  refine WL.p (Gp.eqVf (r := true) (u := o.val) (v := V0) rfl rfl (by simpa using h6)) (by kernel_rfl) rfl ?_
  (first | refine WL.p (Gp.pickT rfl rfl) (by kernel_rfl) rfl ?_ | refine WL.p (Gp.pickF rfl rfl) (by kernel_rfl) rfl ?_)
  refine WL.p (Gp.move rfl) (by kernel_rfl) rfl ?_
  refine WL.op (by kernel_rfl) (OW.callK rfl (awake_fn _) rfl fun v' G' H' h hg => ?_)
  obtain ⟨he, hg3, rfl⟩ := h
  cases he
  (first | refine WL.p (Gp.pickT rfl rfl) (by kernel_rfl) rfl ?_ | refine WL.p (Gp.pickF rfl rfl) (by kernel_rfl) rfl ?_)
  refine WL.p (Gp.assign rfl) (by kernel_rfl) rfl ?_
  refine WL.nil ?_
  refine WK.un ?_
  refine WC.ret ?_
  refine WK.un ?_
  exact QF.p1 (.inl rfl) rfl (.tmp rfl) (⟨rfl, Gh.le_trans hg1 (Gh.le_trans hg2 hg3)⟩)
end Go.Proofs.Ytjgohbepageicaa.Gb
