/- The small programs of the statements. -/
import Derived.Test.YtjgohbepageicaaXb
namespace Go.Proofs.Ytjgohbepageicaa.Gb
open Go Go.Proofs
set_option linter.unusedVariables false
set_option linter.unusedSimpArgs false
set_option linter.unusedSectionVars false
attribute [local irreducible] Try.prog

theorem lnumber_fn (G : Gh) (n : Int) : Fn Try.prog 20 #[.int .i64 n] G [] fun e G' H' => e = .returned (.agg #[.int .i64 1, .int .i64 n, .bool false, .string ⟨#[]⟩]) ∧ G = G' ∧ H' = [] := by
  refine Fn.enter Try.func20 rfl rfl fun w0 => ?_
  refine WC.seq ?_
  refine WC.region ?_
  refine WL.op (by kernel_rfl) (OW.alloc rfl fun b1 => ?_)
  refine WL.nil ?_
  refine WK.un ?_
  refine WC.seq ?_
  refine WC.region ?_
  refine WL.p (Gp.move rfl) (by kernel_rfl) rfl ?_
  refine WL.p (Gp.build rfl rfl) (by kernel_rfl) rfl ?_
  refine WL.op (by kernel_rfl) (OW.store rfl rfl (by (repeat first | exact .here | apply At.there)) rfl (by rfl) (by rfl) (by kernel_rfl) (by rfl) ?_ rfl)
  refine WL.nil ?_
  refine WK.un ?_
  refine WC.ret ?_
  refine WK.un ?_
  exact QF.p1 (.inl rfl) rfl (.cell rfl inferInstance inferInstance (by (repeat first | exact .here | apply At.there)) rfl rfl) (⟨rfl, rfl, rfl⟩)
theorem ltext_fn (G : Gh) (s : ByteArray) : Fn Try.prog 21 #[.string s] G [] fun e G' H' => e = .returned (.agg #[.int .i64 3, .int .i64 0, .bool false, .string s]) ∧ G = G' ∧ H' = [] := by
  refine Fn.enter Try.func21 rfl rfl fun w0 => ?_
  refine WC.seq ?_
  refine WC.region ?_
  refine WL.op (by kernel_rfl) (OW.alloc rfl fun b1 => ?_)
  refine WL.nil ?_
  refine WK.un ?_
  refine WC.seq ?_
  refine WC.region ?_
  refine WL.p (Gp.move rfl) (by kernel_rfl) rfl ?_
  refine WL.p (Gp.build rfl rfl) (by kernel_rfl) rfl ?_
  refine WL.op (by kernel_rfl) (OW.store rfl rfl (by (repeat first | exact .here | apply At.there)) rfl (by rfl) (by rfl) (by kernel_rfl) (by rfl) ?_ rfl)
  refine WL.nil ?_
  refine WK.un ?_
  refine WC.ret ?_
  refine WK.un ?_
  exact QF.p1 (.inl rfl) rfl (.cell rfl inferInstance inferInstance (by (repeat first | exact .here | apply At.there)) rfl rfl) (⟨rfl, rfl, rfl⟩)

def twoP (u v : V) (c r : Int) : Pg := ⟨[u, v], [⟨⟨#[102]⟩, false, [], 0, r, [(1, 0), (1, 1), (c, 0), (10, 0)]⟩]⟩
theorem twoP_B (u v : V) (c r : Int) : PgB (twoP u v c r) := ⟨by simp [twoP], by simp [twoP], fun p hp => by simp [twoP] at hp; subst hp; simp, fun p hp => by simp [twoP] at hp; subst hp; simp⟩

theorem two_fn (G : Gh) (u v : V) (c r : Int) : Fn Try.prog 19 #[.agg #[.int .i64 u.t, .int .i64 u.i, .bool u.b, .string u.s], .agg #[.int .i64 v.t, .int .i64 v.i, .bool v.b, .string v.s], .int .i64 c, .int .i64 r] G []
    fun e G' H' => ∃ CA PA, e = .returned (.agg #[.slice CA (twoP u v c r).consts.length 2, .slice PA (twoP u v c r).procs.length 1, .slice none 0 0]) ∧ G.le G' ∧ Sl Kd.val G' CA (twoP u v c r).consts ∧ Sl Kd.prc G' PA (twoP u v c r).procs ∧ H' = [] := by
  refine Fn.enter Try.func19 rfl rfl fun w0 => ?_
  refine WC.seq ?_
  refine WC.region ?_
  refine WL.op (by kernel_rfl) (OW.box rfl rfl fun b4 => ?_)
  refine WL.op (by kernel_rfl) (OW.box rfl rfl fun b5 => ?_)
  refine WL.op (by kernel_rfl) (OW.alloc rfl fun b8 => ?_)
  refine WL.nil ?_
  refine WK.un ?_
  refine WC.seq ?_
  refine WC.region ?_
  refine WL.p (Gp.build rfl rfl) (by kernel_rfl) rfl ?_
  refine WL.p (Gp.build rfl rfl) (by kernel_rfl) rfl ?_
  refine WL.p (Gp.move rfl) (by kernel_rfl) rfl ?_
  refine WL.p (Gp.build rfl rfl) (by kernel_rfl) rfl ?_
  refine WL.p (Gp.build rfl rfl) (by kernel_rfl) rfl ?_
  refine WL.op (by kernel_rfl) (OW.buildSlice rfl (by kernel_rfl) (by kernel_rfl) (by rfl) rfl fun b15 => ?_)
  refine WL.p (Gp.assign rfl) (by kernel_rfl) rfl ?_
  refine WL.nil ?_
  refine WK.un ?_
  refine WC.seq ?_
  refine WC.region ?_
  refine WL.v (Gv.loadN rfl (by (repeat first | exact .here | apply At.there)) rfl rfl) (by kernel_rfl) rfl ?_
  refine WL.v (Gv.loadN rfl (by (repeat first | exact .here | apply At.there)) rfl rfl) (by kernel_rfl) rfl ?_
  refine WL.op (by kernel_rfl) (OW.buildSlice rfl (by kernel_rfl) (by kernel_rfl) (by rfl) rfl fun b18 => ?_)
  refine WL.p (Gp.move rfl) (by kernel_rfl) rfl ?_
  refine WL.p (Gp.move rfl) (by kernel_rfl) rfl ?_
  refine WL.p (Gp.build rfl rfl) (by kernel_rfl) rfl ?_
  refine WL.op (by kernel_rfl) (OW.buildSlice rfl (by kernel_rfl) (by kernel_rfl) (by rfl) rfl fun b22 => ?_)
  refine WL.p (Gp.build rfl rfl) (by kernel_rfl) rfl ?_
  refine WL.op (by kernel_rfl) (OW.store rfl rfl (by (repeat first | exact .here | apply At.there)) rfl (by rfl) (by rfl) (by kernel_rfl) (by rfl) ?_ rfl)
  refine WL.nil ?_
  refine WK.un ?_
  refine WC.pk (H' := [.blk b15 (.cells #[.int .i64 1, .int .i64 0, .int .i64 1, .int .i64 1, .int .i64 c, .int .i64 0, .int .i64 10, .int .i64 0] 51 (0, 0)),
    .blk b18 (.cells (vflat [u, v]).toArray 33 (0, 0)),
    .blk b22 (.cells #[.string ⟨#[102]⟩, .bool false, .slice none 0 0, .int .i64 0, .int .i64 r, .slice (some ⟨b15, 0, none⟩) 4 4] 55 (0, 0)),
    .blk b8 (.cells #[.slice (some ⟨b18, 0, none⟩) 2 2, .slice (some ⟨b22, 0, none⟩) 1 1, .slice none 0 0] 26 (0, 0))]) (by repeat (first | exact Pk.nil | exact Pk.all | exact Pk.app | exact Pk.appR | with_reducible apply Pk.na | (apply Pk.cons; (repeat first | exact .here | apply Rem.there | apply Rem.app)) | apply Pk.skip | apply Pk.skipA)) ?_
  refine WC.frozenVec (T := 51) (sz := 2) (A := some ⟨b15, 0, none⟩) (n := 4) (cap := 4) (cs := [.int .i64 1, .int .i64 0, .int .i64 1, .int .i64 1, .int .i64 c, .int .i64 0, .int .i64 10, .int .i64 0]) ⟨rfl, .inr ⟨b15, _, rfl, rfl, Nat.le_refl _, rfl, rfl⟩⟩ .here fun G1 h1 z1 => ?_
  refine WC.frozenVec (T := 33) (sz := 4) (A := some ⟨b18, 0, none⟩) (n := 2) (cap := 2) (cs := vflat [u, v]) ⟨rfl, .inr ⟨b18, _, rfl, rfl, Nat.le_refl _, rfl, rfl⟩⟩ .here fun G2 h2 z2 => ?_
  refine WC.frozenVec (T := 55) (sz := 6) (A := some ⟨b22, 0, none⟩) (n := 1) (cap := 1) (cs := [.string ⟨#[102]⟩, .bool false, .slice none 0 0, .int .i64 0, .int .i64 r, .slice (some ⟨b15, 0, none⟩) 4 4]) ⟨rfl, .inr ⟨b22, _, rfl, rfl, Nat.le_refl _, rfl, rfl⟩⟩ .here fun G3 h3 z3 => ?_
  have hI : Sl Kd.ins G3 (some ⟨b15, 0, none⟩) [(1, 0), (1, 1), (c, 0), (10, 0)] := (Sl.ofCs (k := Kd.ins) z1 rfl (by decide) (fun i x hx => by
    match i, hx with
    | 0, hx => cases hx; rfl
    | 1, hx => cases hx; rfl
    | 2, hx => cases hx; rfl
    | 3, hx => cases hx; rfl)).mono (Gh.le_trans h2 h3)
  have hC : Sl Kd.val G3 (some ⟨b18, 0, none⟩) [u, v] := (Sl.ofCs (k := Kd.val) z2 rfl (by decide) (fun i x hx => by
    match i, hx with
    | 0, hx => cases hx; rfl
    | 1, hx => cases hx; rfl)).mono h3
  have hP : Sl Kd.prc G3 (some ⟨b22, 0, none⟩) (twoP u v c r).procs := Sl.ofCs (k := Kd.prc) z3 rfl (by decide) (fun i x hx => by
    match i, hx with
    | 0, hx => cases hx; exact ⟨none, 0, some ⟨b15, 0, none⟩, 4, rfl, Sl.nil _ _ _, hI⟩)
  refine WC.ret ?_
  refine WK.un ?_
  exact QF.p1 (.inl rfl) rfl (.cell rfl inferInstance inferInstance (by (repeat first | exact .here | apply At.there)) rfl rfl) (⟨some ⟨b18, 0, none⟩, some ⟨b22, 0, none⟩, rfl, Gh.le_trans h1 (Gh.le_trans h2 h3), hC, hP, rfl⟩)

theorem run_six : runR (twoP (numV 2) (numV 3) 21 1) 0 9 [] = ⟨1, numV 6, [], 4⟩ := by kernel_rfl
theorem run_zero : runR (twoP (numV 1) (numV 0) 22 1) 0 9 [] = ⟨2, V0, [], 3⟩ := by kernel_rfl
end Go.Proofs.Ytjgohbepageicaa.Gb
