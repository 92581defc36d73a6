/- A run. -/
import Derived.Test.YtjgohbepageicaaXa
namespace Go.Proofs.Ytjgohbepageicaa.Gb
open Go Go.Proofs
set_option linter.unusedVariables false
set_option linter.unusedSimpArgs false
set_option linter.unusedSectionVars false
attribute [local irreducible] Try.prog

/-- what came of a run -/
structure Oc where
  en : Int
  val : V
  out : List V
  steps : Int
def Oc0 : Oc := ⟨0, V0, [], 0⟩
def ocV (o : Oc) (A : Option Addr) (cap : Nat) : Value := .agg #[.int .i64 o.en, .int .i64 o.val.t, .int .i64 o.val.i, .bool o.val.b, .string o.val.s, .slice A o.out.length cap, .int .i64 o.steps]
def Mc.oc (s : Mc) : Oc := ⟨s.en, s.val, s.out, s.steps⟩
/-- what a run comes to -/
def runR (pg : Pg) (n fuel : Int) (args : List V) : Oc := match startR pg n args with
  | none => Oc0
  | some q => let s := (runM pg fuel.toNat (startS q n args)).2
    if s.ended then s.oc else { s.oc with en := 5 }
theorem PgB.codeB {pg : Pg} (h : PgB pg) : ∀ pr ∈ pg.procs, pr.code.length ≤ 90000000000000 := fun pr hp => by have := h.code pr hp; omega

theorem startR_some {pg : Pg} {n : Int} {args : List V} {q : Pr} (h : startR pg n args = some q) : 0 ≤ n ∧ pg.procs[n.toNat]? = some q ∧ sizedP q = true ∧ args.length = q.params.length ∧ AllOK args := by
  unfold startR at h
  split at h
  · cases h
  · rename_i hn
    split at h
    · cases h
    · rename_i q' hq
      split at h
      · cases h
      · rename_i hs
        split at h
        · cases h
        · rename_i hl
          split at h
          · rename_i ha
            cases h
            rw [Bool.and_eq_true, List.all_eq_true] at ha
            exact ⟨by omega, hq, by simpa using hs, Classical.not_not.1 hl, ha.1⟩
          · cases h
theorem startS_inv {pg : Pg} {n : Int} {args : List V} {q : Pr} (h : startR pg n args = some q) : Inv pg (startS q n args) ∧ Live (startS q n args) := by
  obtain ⟨h1, h2, h3, h4, h5⟩ := startR_some h
  have hsz : (q.params.length : Int) ≤ q.locals ∧ q.locals ≤ 64 := by unfold sizedP at h3; simpa using h3
  have hpl : (padded args q.locals).length ≤ 64 := by rw [padded_length (by omega)]; omega
  refine ⟨⟨fun f hf => ?_, by simp [startS], fun f hf => ?_, trivial, by simp [startS], fun v hv => by simp [startS] at hv⟩, fun _ h => by cases h⟩
  · simp only [startS, List.mem_singleton] at hf
    subst hf
    exact ⟨q, h2, by simp⟩
  · simp only [startS, List.mem_singleton] at hf
    subst hf
    refine ⟨by simp, hpl, fun v hv => by simp at hv, fun v hv => ?_⟩
    rcases List.mem_append.1 hv with hv | hv
    · exact .inl (h5 v hv)
    · exact .inr (List.eq_of_mem_replicate hv)
theorem Inv.run {pg : Pg} : ∀ (n : Nat) (s : Mc), Inv pg s → Live s → Inv pg (runM pg n s).2 ∧ Live (runM pg n s).2
  | 0, s, h, hl => ⟨h, hl⟩
  | n + 1, s, h, hl => by
    unfold runM
    split
    · exact ⟨h, hl⟩
    · exact Inv.run n _ h.step hl.step
theorem Live.made {s : Mc} (h : Live s) : madeB s = true := by
  unfold madeB
  cases he : s.ended with
  | true => simp
  | false => have := h he; simp [List.length_pos_iff, this]

theorem Run_fn (G : Gh) (pg : Pg) (CA PA : Option Addr) (cc pc : Nat) (qv : Value) (hC : Sl Kd.val G CA pg.consts) (hP : Sl Kd.prc G PA pg.procs) (hB : PgB pg) (n fuel : Int) (hfu : fuel ≤ 1000000) (AA : Option Addr) (ac : Nat) (args : List V) (Ha : List Own) (hr : Rds G Ha AA (vflat args)) (hal : args.length * 40 ≤ 140737488355328) :
    Fn Try.prog 15 #[.agg #[.slice CA pg.consts.length cc, .slice PA pg.procs.length pc, qv], .int .i64 n, .int .i64 fuel, .slice AA args.length ac] G Ha
      fun e G' H' => ∃ A' cap' x', e = .returned (ocV (runR pg n fuel args) A' cap') ∧ G.le G' ∧ VVec A' cap' (runR pg n fuel args).out x' ∧ H' = x' :: Ha := by
  refine Fn.enter Try.func15 rfl rfl fun w0 => ?_
  refine WC.seq ?_
  refine WC.region ?_
  refine WL.op (by kernel_rfl) (OW.box rfl rfl fun b17 => ?_)
  refine WL.op (by kernel_rfl) (OW.alloc rfl fun b18 => ?_)
  refine WL.nil ?_
  refine WK.un ?_
  refine WC.seq ?_
  refine WC.region ?_
  refine WL.v (Gv.loadN rfl (by (repeat first | exact .here | apply At.there)) rfl rfl) (by kernel_rfl) rfl ?_
  refine WL.p (Gp.move rfl) (by kernel_rfl) rfl ?_
  refine WL.p (Gp.move rfl) (by kernel_rfl) rfl ?_
  cases hs : startR pg n args with
  | none =>
    refine WL.op (by kernel_rfl) (OW.callR rfl (Pk.perm (by repeat (first | exact Pk.nil | exact Pk.all | exact Pk.app | exact Pk.appR | with_reducible apply Pk.na | (apply Pk.cons; (repeat first | exact .here | apply Rem.there | apply Rem.app)) | apply Pk.skip | apply Pk.skipA))) ((Start_fn G pg CA PA cc pc qv hC hP hB n AA ac args Ha hr hal).mono fun e G' H' h => (by rw [hs] at h; exact h)) rfl (by intro e G' H' h; repeat (first | exact ⟨_, h.1⟩ | (obtain ⟨_, h⟩ := h))) fun v' G' H' h hg => ?_)
    obtain ⟨he, rfl, rfl⟩ := h
    cases he
    refine WL.swap ?_
    refine WL.p (Gp.move rfl) (by kernel_rfl) rfl ?_
    refine WL.p (Gp.extract rfl rfl) (by kernel_rfl) rfl ?_
    refine WL.p (Gp.extract rfl rfl) (by kernel_rfl) rfl ?_
    refine WL.p (Gp.assign rfl) (by kernel_rfl) rfl ?_
    refine WL.p (Gp.assign rfl) (by kernel_rfl) rfl ?_
    refine WL.nil ?_
    refine WK.un ?_
    refine WC.seq ?_
    refine WC.seq ?_
    refine WC.region ?_
    refine WL.p (Gp.move rfl) (by kernel_rfl) rfl ?_
    (first | refine WL.p (Gp.neI rfl rfl) (by kernel_rfl) rfl ?_ | refine WL.p (Gp.neS rfl rfl) (by kernel_rfl) rfl ?_ | refine WL.p (Gp.neB rfl rfl) (by kernel_rfl) rfl ?_)
    refine WL.nil ?_
    refine WK.un ?_
    refine WC.cond_true rfl ?_
    refine WC.seq ?_
    refine WC.region ?_
    refine WL.p (Gp.build rfl rfl) (by kernel_rfl) rfl ?_
    refine WL.op (by kernel_rfl) (OW.store rfl rfl (by (repeat first | exact .here | apply At.there)) rfl (by rfl) (by rfl) (by kernel_rfl) (by rfl) ?_ rfl)
    refine WL.nil ?_
    refine WK.un ?_
    refine WC.nothing ?_
    rw [show runR pg n fuel args = Oc0 by rw [runR, hs]]
    refine WC.ret ?_
    refine WK.un ?_
    exact QF.p1 (.inl rfl) rfl (.cell rfl inferInstance inferInstance (by (repeat first | exact .here | apply At.there)) rfl rfl) (⟨none, 0, .spare 0 0 0, rfl, Gh.le_refl _, ⟨by simp [vflat, Oc0], .inl ⟨rfl, rfl, rfl, rfl⟩⟩, rfl⟩)
  | some q =>
    obtain ⟨hI, hL⟩ := startS_inv hs
    have hIr := Inv.run fuel.toNat _ hI hL
    refine WL.op (by kernel_rfl) (OW.callR rfl (Pk.perm (by repeat (first | exact Pk.nil | exact Pk.all | exact Pk.app | exact Pk.appR | with_reducible apply Pk.na | (apply Pk.cons; (repeat first | exact .here | apply Rem.there | apply Rem.app)) | apply Pk.skip | apply Pk.skipA))) ((Start_fn G pg CA PA cc pc qv hC hP hB n AA ac args Ha hr hal).mono fun e G' H' h => (by rw [hs] at h; exact h)) rfl (by rintro e G' H' ⟨_, _, _, _, _, _, h, _⟩; exact ⟨_, h⟩) fun v' G' H' h hg => ?_)
    obtain ⟨mb, CA', PA', cc', pc', H1, he, hg1, hC1, hP1, hR, rfl⟩ := h
    cases he
    refine WL.swap ?_
    refine WL.p (Gp.move rfl) (by kernel_rfl) rfl ?_
    refine WL.p (Gp.extract rfl rfl) (by kernel_rfl) rfl ?_
    refine WL.p (Gp.extract rfl rfl) (by kernel_rfl) rfl ?_
    refine WL.p (Gp.assign rfl) (by kernel_rfl) rfl ?_
    refine WL.p (Gp.assign rfl) (by kernel_rfl) rfl ?_
    refine WL.nil ?_
    refine WK.un ?_
    refine WC.seq ?_
    refine WC.seq ?_
    refine WC.region ?_
    refine WL.p (Gp.move rfl) (by kernel_rfl) rfl ?_
    (first | refine WL.p (Gp.neI rfl rfl) (by kernel_rfl) rfl ?_ | refine WL.p (Gp.neS rfl rfl) (by kernel_rfl) rfl ?_ | refine WL.p (Gp.neB rfl rfl) (by kernel_rfl) rfl ?_)
    refine WL.nil ?_
    refine WK.un ?_
    refine WC.cond_false rfl ?_
    refine WC.skip ?_
    refine WK.un ?_
    refine WC.seq ?_
    refine WC.region ?_
    refine WL.p (Gp.move rfl) (by kernel_rfl) rfl ?_
    refine WL.p (Gp.move rfl) (by kernel_rfl) rfl ?_
    refine WL.op (by kernel_rfl) (OW.callK rfl (Step_fn G' pg CA' PA' cc' pc' hC1 hP1 hB.codeB mb (.slice none 0 0) (startS q n args) H1 hR hI hL fuel hfu (by simp [startS])) rfl fun v' G' H' h hg => ?_)
    obtain ⟨he, rfl, hR2⟩ := h
    cases he
    refine WL.swap ?_
    refine WL.nil ?_
    refine WK.un ?_
    obtain ⟨t, ht⟩ : ∃ t, t = (runM pg fuel.toNat (startS q n args)).2 := ⟨_, rfl⟩
    rw [← ht] at hIr hR2
    have hrun : runR pg n fuel args = if t.ended then t.oc else { t.oc with en := 5 } := by rw [runR, hs, ht]
    have hout : (runR pg n fuel args).out = t.out := by rw [hrun]; split <;> rfl
    rw [hrun]
    obtain ⟨FA, fcap, OA, ocap, ox, fx, bs, Hf, hF, hfv, ho, rfl⟩ := id hR2
    refine WC.seq ?_
    refine WC.region ?_
    refine WL.p (Gp.move rfl) (by kernel_rfl) rfl ?_
    refine WL.op (by kernel_rfl) (OW.callK rfl (Outcome_fn G' CA' PA' cc' pc' pg.consts.length pg.procs.length (.slice none 0 0) mb _ _ hR2 hIr.2.made (by have := hIr.1.out.1; omega)) rfl fun v' G' H' h hg => ?_)
    obtain ⟨A', cap', x', he, rfl, hx', rfl⟩ := h
    cases he
    refine WL.op (by kernel_rfl) (OW.alloc rfl fun b20 => ?_)
    refine WL.op (by kernel_rfl) (OW.store rfl rfl (by (repeat first | exact .here | apply At.there)) rfl (by rfl) (by rfl) (by kernel_rfl) (by rfl) ?_ rfl)
    refine WL.nil ?_
    refine WK.un ?_
    refine WC.front (H' := [.blk b20 (.cells #[.int .i64 t.en, .int .i64 t.val.t, .int .i64 t.val.i, .bool t.val.b, .string t.val.s, .slice A' t.out.length cap', .int .i64 t.steps] 35 (0, 0)), .blk b18 (.cells #[.int .i64 0, .int .i64 0, .int .i64 0, .bool false, .string ⟨#[]⟩, .slice none 0 0, .int .i64 0] 35 (0, 0)), mcB mb (.slice CA' pg.consts.length cc') (.slice PA' pg.procs.length pc') (.slice none 0 0) FA bs.reverse.length fcap t.en t.val OA t.out.length ocap t.steps t.ended, x']) (by repeat (first | exact Pk.nil | exact Pk.all | exact Pk.app | exact Pk.appR | with_reducible apply Pk.na | (apply Pk.cons; (repeat first | exact .here | apply Rem.there | apply Rem.app)) | apply Pk.skip | apply Pk.skipA)) ?_
    refine WC.seq ?_
    refine WC.seq ?_
    refine WC.region ?_
    refine WL.p (Gp.move rfl) (by kernel_rfl) rfl ?_
    refine WL.p (Gp.nilCheck rfl) (by kernel_rfl) rfl ?_
    refine WL.p (Gp.fieldAddr rfl) (by kernel_rfl) rfl ?_
    (first | (refine WL.v (Gv.load1 rfl (by (repeat first | exact .here | apply At.there)) (by first | rfl | assumption)) (by kernel_rfl) rfl ?_) | (refine WL.v (Gv.loadN rfl (by (repeat first | exact .here | apply At.there)) (by rfl) (by rfl)) (by kernel_rfl) rfl ?_) | (refine WL.v (Gv.loadG1 rfl (by assumption) rfl) (by kernel_rfl) rfl ?_) | (refine WL.v (Gv.loadG0 rfl (by assumption) rfl) (by kernel_rfl) rfl ?_) | (refine WL.v (Gv.loadGN rfl (by assumption) rfl) (by kernel_rfl) rfl ?_))
    cases hen : t.ended with
    | true =>
      refine WL.p (Gp.notB rfl) (by kernel_rfl) rfl ?_
      refine WL.nil ?_
      refine WK.un ?_
      refine WC.cond_false rfl ?_
      refine WC.skip ?_
      refine WK.un ?_
      refine WC.seq ?_
      refine WC.region ?_
      refine WL.v (Gv.loadN rfl (by (repeat first | exact .here | apply At.there)) rfl rfl) (by kernel_rfl) rfl ?_
      refine WL.op (by kernel_rfl) (OW.store rfl rfl (by (repeat first | exact .here | apply At.there)) rfl (by rfl) (by rfl) (by kernel_rfl) (by rfl) ?_ rfl)
      refine WL.nil ?_
      refine WK.un ?_
      refine WC.ret ?_
      refine WK.un ?_
      exact QF.p1 (.inl rfl) rfl (.cell rfl inferInstance inferInstance (by (repeat first | exact .here | apply At.there)) rfl rfl) (⟨A', cap', x', rfl, hg1, hx', rfl⟩)
    | false =>
      refine WL.p (Gp.notB rfl) (by kernel_rfl) rfl ?_
      refine WL.nil ?_
      refine WK.un ?_
      refine WC.cond_true rfl ?_
      refine WC.region ?_
      refine WL.p (Gp.fieldAddr rfl) (by kernel_rfl) rfl ?_
      refine WL.op (by kernel_rfl) (OW.store rfl rfl (by (repeat first | exact .here | apply At.there)) rfl (by rfl) (by rfl) (by kernel_rfl) (by rfl) ?_ rfl)
      refine WL.nil ?_
      refine WK.un ?_
      refine WC.seq ?_
      refine WC.region ?_
      refine WL.v (Gv.loadN rfl (by (repeat first | exact .here | apply At.there)) rfl rfl) (by kernel_rfl) rfl ?_
      refine WL.op (by kernel_rfl) (OW.store rfl rfl (by (repeat first | exact .here | apply At.there)) rfl (by rfl) (by rfl) (by kernel_rfl) (by rfl) ?_ rfl)
      refine WL.nil ?_
      refine WK.un ?_
      refine WC.ret ?_
      refine WK.un ?_
      exact QF.p1 (.inl rfl) rfl (.cell rfl inferInstance inferInstance (by (repeat first | exact .here | apply At.there)) rfl rfl) (⟨A', cap', x', rfl, hg1, hx', rfl⟩)
end Go.Proofs.Ytjgohbepageicaa.Gb
