/- A machine is started. -/
import Derived.Test.YtjgohbepageicaaVy
namespace Go.Proofs.Ytjgohbepageicaa.Gb
open Go Go.Proofs
set_option linter.unusedVariables false
set_option linter.unusedSimpArgs false
set_option linter.unusedSectionVars false
attribute [local irreducible] Try.prog

def startR (pg : Pg) (n : Int) (args : List V) : Option Pr := if n < 0 then none else match pg.procs[n.toNat]? with
  | none => none
  | some q => if sizedP q = false then none else if args.length ≠ q.params.length then none else if (args.all vOK && decide (tys args = q.params)) = true then some q else none
def startS (q : Pr) (n : Int) (args : List V) : Mc := ⟨[⟨n.toNat, 0, [], padded args q.locals⟩], [], 0, 0, V0, false⟩
/-- how a start ends -/
def StartP (G : Gh) (pg : Pg) (n : Int) (args : List V) (Ha : List Own) (r : Option Pr) : Ending → Gh → List Own → Prop := fun e G' H' => match r with
  | none => e = .returned (.tuple #[.pointer none, .int .i64 1]) ∧ G = G' ∧ H' = Ha
  | some q => ∃ mb CA' PA' cc' pc' H1, e = .returned (.tuple #[.pointer (some ⟨mb, 0, none⟩), .int .i64 0]) ∧ G.le G' ∧ Sl Kd.val G' CA' pg.consts ∧ Sl Kd.prc G' PA' pg.procs ∧
      MRep CA' PA' cc' pc' pg.consts.length pg.procs.length (.slice none 0 0) mb (startS q n args) H1 ∧ H' = H1 ++ Ha

theorem Start_fn (G : Gh) (pg : Pg) (CA PA : Option Addr) (cc pc : Nat) (qv : Value) (hC : Sl Kd.val G CA pg.consts) (hP : Sl Kd.prc G PA pg.procs) (hB : PgB pg) (n : Int) (AA : Option Addr) (ac : Nat) (args : List V) (Ha : List Own) (hr : Rds G Ha AA (vflat args)) (hal : args.length * 40 ≤ 140737488355328) :
    Fn Try.prog 22 #[.agg #[.slice CA pg.consts.length cc, .slice PA pg.procs.length pc, qv], .int .i64 n, .slice AA args.length ac] G Ha (StartP G pg n args Ha (startR pg n args)) := by
  refine Fn.enter Try.func22 rfl rfl fun w0 => ?_
  refine WC.seq ?_
  refine WC.region ?_
  refine WL.op (by kernel_rfl) (OW.box rfl rfl fun b9 => ?_)
  refine WL.p (Gp.assign rfl) (by kernel_rfl) rfl ?_
  refine WL.p (Gp.assign rfl) (by kernel_rfl) rfl ?_
  refine WL.nil ?_
  refine WK.un ?_
  refine WC.seq ?_
  refine WC.seq ?_
  refine WC.region ?_
  refine WL.p (Gp.move rfl) (by kernel_rfl) rfl ?_
  by_cases hn0 : n < 0
  ·
    refine WL.p (Gp.ltI' rfl rfl (decide_eq_true hn0)) (by kernel_rfl) rfl ?_
    refine WL.p (Gp.move rfl) (by kernel_rfl) rfl ?_
    refine WL.skip (by kernel_rfl) rfl ?_
    refine WL.skip (by kernel_rfl) rfl ?_
    refine WL.skip (by kernel_rfl) rfl ?_
    refine WL.skip (by kernel_rfl) rfl ?_
    refine WL.skip (by kernel_rfl) rfl ?_
    (first | refine WL.p (Gp.pickT rfl rfl) (by kernel_rfl) rfl ?_ | refine WL.p (Gp.pickF rfl rfl) (by kernel_rfl) rfl ?_)
    refine WL.nil ?_
    refine WK.un ?_
    refine WC.cond_true rfl ?_
    refine WC.seq ?_
    refine WC.region ?_
    refine WL.p (Gp.assign rfl) (by kernel_rfl) rfl ?_
    refine WL.p (Gp.assign rfl) (by kernel_rfl) rfl ?_
    refine WL.nil ?_
    refine WK.un ?_
    rw [show startR pg n args = none by rw [startR, if_pos hn0]]
    refine WC.ret ?_
    refine WK.un ?_
    exact QF.p2 (.inl rfl) rfl (.tmp rfl) (.tmp rfl) (⟨rfl, rfl, rfl⟩)
  refine WL.p (Gp.ltI' rfl rfl (decide_eq_false hn0)) (by kernel_rfl) rfl ?_
  obtain ⟨i, rfl⟩ := Int.eq_ofNat_of_zero_le (Int.not_lt.1 hn0)
  refine WL.p (Gp.move rfl) (by kernel_rfl) rfl ?_
  refine WL.p (Gp.move rfl) (by kernel_rfl) rfl ?_
  refine WL.p (Gp.fieldAddr rfl) (by kernel_rfl) rfl ?_
  (first | (refine WL.v (Gv.load1 rfl (by (repeat first | exact .here | apply At.there)) (by first | rfl | assumption)) (by kernel_rfl) rfl ?_) | (refine WL.v (Gv.loadN rfl (by (repeat first | exact .here | apply At.there)) (by rfl) (by rfl)) (by kernel_rfl) rfl ?_) | (refine WL.v (Gv.loadG1 rfl (by assumption) rfl) (by kernel_rfl) rfl ?_) | (refine WL.v (Gv.loadG0 rfl (by assumption) rfl) (by kernel_rfl) rfl ?_) | (refine WL.v (Gv.loadGN rfl (by assumption) rfl) (by kernel_rfl) rfl ?_))
  (first | refine WL.p (Gp.lenSl rfl) (by kernel_rfl) rfl ?_ | refine WL.p (Gp.lenS rfl) (by kernel_rfl) rfl ?_)
  cases hq : pg.procs[i]? with
  | none =>
    refine WL.p (Gp.geI' rfl rfl (decide_eq_true (by have := List.getElem?_eq_none_iff.1 hq; omega))) (by kernel_rfl) rfl ?_
    (first | refine WL.p (Gp.pickT rfl rfl) (by kernel_rfl) rfl ?_ | refine WL.p (Gp.pickF rfl rfl) (by kernel_rfl) rfl ?_)
    refine WL.nil ?_
    refine WK.un ?_
    refine WC.cond_true rfl ?_
    refine WC.seq ?_
    refine WC.region ?_
    refine WL.p (Gp.assign rfl) (by kernel_rfl) rfl ?_
    refine WL.p (Gp.assign rfl) (by kernel_rfl) rfl ?_
    refine WL.nil ?_
    refine WK.un ?_
    rw [show startR pg (i : Int) args = none by rw [startR, if_neg hn0, Int.toNat_natCast, hq]]
    refine WC.ret ?_
    refine WK.un ?_
    exact QF.p2 (.inl rfl) rfl (.tmp rfl) (.tmp rfl) (⟨rfl, rfl, rfl⟩)
  | some q =>
  have hil := (List.getElem?_eq_some_iff.1 hq).1
  refine WL.p (Gp.geI' rfl rfl (decide_eq_false (by omega))) (by kernel_rfl) rfl ?_
  (first | refine WL.p (Gp.pickT rfl rfl) (by kernel_rfl) rfl ?_ | refine WL.p (Gp.pickF rfl rfl) (by kernel_rfl) rfl ?_)
  refine WL.nil ?_
  refine WK.un ?_
  refine WC.cond_false rfl ?_
  refine WC.skip ?_
  refine WK.un ?_
  obtain ⟨pb, po, cs, hPA, ⟨QA, qc, IA, ic, rfl, hQ, hI⟩, hcs⟩ := hP i q hq
  have hP' := hP
  subst hPA
  have hcR : startR pg (i : Int) args = if sizedP q = false then none else if args.length ≠ q.params.length then none else if (args.all vOK && decide (tys args = q.params)) = true then some q else none := by rw [startR, if_neg hn0, Int.toNat_natCast, hq]
  refine WC.seq ?_
  refine WC.region ?_
  refine WL.p (Gp.fieldAddr rfl) (by kernel_rfl) rfl ?_
  (first | (refine WL.v (Gv.load1 rfl (by (repeat first | exact .here | apply At.there)) (by first | rfl | assumption)) (by kernel_rfl) rfl ?_) | (refine WL.v (Gv.loadN rfl (by (repeat first | exact .here | apply At.there)) (by rfl) (by rfl)) (by kernel_rfl) rfl ?_) | (refine WL.v (Gv.loadG1 rfl (by assumption) rfl) (by kernel_rfl) rfl ?_) | (refine WL.v (Gv.loadG0 rfl (by assumption) rfl) (by kernel_rfl) rfl ?_) | (refine WL.v (Gv.loadGN rfl (by assumption) rfl) (by kernel_rfl) rfl ?_))
  refine WL.p (Gp.move rfl) (by kernel_rfl) rfl ?_
  refine WL.p (Gp.indexAddr rfl rfl (by first | assumption | omega | decide) (by first | assumption | omega | decide | (simp only [List.length_cons, List.length_nil]; decide))) (by kernel_rfl) rfl ?_
  refine WL.v (Gv.loadGN rfl hcs rfl) (by kernel_rfl) rfl ?_
  refine WL.op (by kernel_rfl) (OW.alloc rfl fun b11 => ?_)
  refine WL.op (by kernel_rfl) (OW.store rfl rfl (by (repeat first | exact .here | apply At.there)) rfl (by rfl) (by rfl) (by kernel_rfl) (by rfl) ?_ rfl)
  refine WL.nil ?_
  refine WK.un ?_
  refine WC.seq ?_
  refine WC.seq ?_
  refine WC.region ?_
  refine WL.v (Gv.loadN rfl .here rfl rfl) (by kernel_rfl) rfl ?_
  refine WL.op (by kernel_rfl) (OW.callR rfl (Hf := []) (List.Perm.refl _) (sized_fn G q.name q.exp QA q.params.length qc q.locals q.result (.slice IA q.code.length ic)) rfl (by rintro e G' H' ⟨h, _⟩; exact ⟨_, h⟩) fun v' G' H' h hg => ?_)
  obtain ⟨he, rfl, rfl⟩ := h
  cases he
  rw [show (decide ((q.params.length : Int) ≤ q.locals) && decide (q.locals ≤ 64)) = sizedP q from rfl]
  cases hs : sizedP q with
  | false =>
    refine WL.p (Gp.notB rfl) (by kernel_rfl) rfl ?_
    refine WL.p (Gp.move rfl) (by kernel_rfl) rfl ?_
    refine WL.skip (by kernel_rfl) rfl ?_
    refine WL.skip (by kernel_rfl) rfl ?_
    refine WL.skip (by kernel_rfl) rfl ?_
    refine WL.skip (by kernel_rfl) rfl ?_
    refine WL.skip (by kernel_rfl) rfl ?_
    refine WL.skip (by kernel_rfl) rfl ?_
    (first | refine WL.p (Gp.pickT rfl rfl) (by kernel_rfl) rfl ?_ | refine WL.p (Gp.pickF rfl rfl) (by kernel_rfl) rfl ?_)
    refine WL.nil ?_
    refine WK.un ?_
    refine WC.cond_true rfl ?_
    refine WC.seq ?_
    refine WC.region ?_
    refine WL.p (Gp.assign rfl) (by kernel_rfl) rfl ?_
    refine WL.p (Gp.assign rfl) (by kernel_rfl) rfl ?_
    refine WL.nil ?_
    refine WK.un ?_
    rw [hcR, if_pos hs]
    refine WC.ret ?_
    refine WK.un ?_
    exact QF.p2 (.inl rfl) rfl (.tmp rfl) (.tmp rfl) (⟨rfl, rfl, rfl⟩)
  | true =>
  rw [if_neg (by rw [hs]; decide)] at hcR
  have hs' : (q.params.length : Int) ≤ q.locals ∧ q.locals ≤ 64 := by unfold sizedP at hs; simpa using hs
  refine WL.p (Gp.notB rfl) (by kernel_rfl) rfl ?_
  refine WL.p (Gp.move rfl) (by kernel_rfl) rfl ?_
  refine WL.p (Gp.move rfl) (by kernel_rfl) rfl ?_
  (first | refine WL.p (Gp.lenSl rfl) (by kernel_rfl) rfl ?_ | refine WL.p (Gp.lenS rfl) (by kernel_rfl) rfl ?_)
  refine WL.p (Gp.fieldAddr rfl) (by kernel_rfl) rfl ?_
  (first | (refine WL.v (Gv.load1 rfl (by (repeat first | exact .here | apply At.there)) (by first | rfl | assumption)) (by kernel_rfl) rfl ?_) | (refine WL.v (Gv.loadN rfl (by (repeat first | exact .here | apply At.there)) (by rfl) (by rfl)) (by kernel_rfl) rfl ?_) | (refine WL.v (Gv.loadG1 rfl (by assumption) rfl) (by kernel_rfl) rfl ?_) | (refine WL.v (Gv.loadG0 rfl (by assumption) rfl) (by kernel_rfl) rfl ?_) | (refine WL.v (Gv.loadGN rfl (by assumption) rfl) (by kernel_rfl) rfl ?_))
  (first | refine WL.p (Gp.lenSl rfl) (by kernel_rfl) rfl ?_ | refine WL.p (Gp.lenS rfl) (by kernel_rfl) rfl ?_)
  by_cases hal' : args.length ≠ q.params.length
  ·
    refine WL.p (Gp.neI' rfl rfl (show ((args.length : Int) != (q.params.length : Int)) = true by simp; omega)) (by kernel_rfl) rfl ?_
    (first | refine WL.p (Gp.pickT rfl rfl) (by kernel_rfl) rfl ?_ | refine WL.p (Gp.pickF rfl rfl) (by kernel_rfl) rfl ?_)
    refine WL.nil ?_
    refine WK.un ?_
    refine WC.cond_true rfl ?_
    refine WC.seq ?_
    refine WC.region ?_
    refine WL.p (Gp.assign rfl) (by kernel_rfl) rfl ?_
    refine WL.p (Gp.assign rfl) (by kernel_rfl) rfl ?_
    refine WL.nil ?_
    refine WK.un ?_
    rw [hcR, if_pos hal']
    refine WC.ret ?_
    refine WK.un ?_
    exact QF.p2 (.inl rfl) rfl (.tmp rfl) (.tmp rfl) (⟨rfl, rfl, rfl⟩)
  rw [if_neg hal'] at hcR
  have hal2 : args.length = q.params.length := Classical.not_not.1 hal'
  refine WL.p (Gp.neI' rfl rfl (show ((args.length : Int) != (q.params.length : Int)) = false by simp; omega)) (by kernel_rfl) rfl ?_
  (first | refine WL.p (Gp.pickT rfl rfl) (by kernel_rfl) rfl ?_ | refine WL.p (Gp.pickF rfl rfl) (by kernel_rfl) rfl ?_)
  refine WL.nil ?_
  refine WK.un ?_
  refine WC.cond_false rfl ?_
  refine WC.skip ?_
  refine WK.un ?_
  refine WC.seq ?_
  refine WC.seq ?_
  refine WC.region ?_
  refine WL.p (Gp.move rfl) (by kernel_rfl) rfl ?_
  (first | refine WL.p (Gp.lenSl rfl) (by kernel_rfl) rfl ?_ | refine WL.p (Gp.lenS rfl) (by kernel_rfl) rfl ?_)
  refine WL.p (Gp.move rfl) (by kernel_rfl) rfl ?_
  refine WL.nil ?_
  refine WK.un ?_
  refine WC.block ?_  -- 0
  refine WC.pk (H' := .blk b11 (.cells #[.string q.name, .bool q.exp, .slice QA q.params.length qc, .int .i64 q.locals, .int .i64 q.result, .slice IA q.code.length ic] 55 (0, 0)) :: .blk b9 (.cells #[.slice CA pg.consts.length cc, .slice (some ⟨pb, po, none⟩) pg.procs.length pc, qv] 26 (0, 0)) :: Ha) (by repeat (first | exact Pk.nil | exact Pk.all | exact Pk.app | exact Pk.appR | with_reducible apply Pk.na | (apply Pk.cons; (repeat first | exact .here | apply Rem.there | apply Rem.app)) | apply Pk.skip | apply Pk.skipA)) ?_
  refine WC.loop (X := Nat) (fun j => [(39, .int .i64 j), (38, .int .i64 args.length), (37, .slice AA args.length ac), (8, .pointer (some ⟨b11, 0, none⟩)), (3, .pointer (some ⟨b9, 0, none⟩)), (1, .int .i64 i), (2, .slice AA args.length ac)]) (fun j => G)
    (fun j => .blk b11 (.cells #[.string q.name, .bool q.exp, .slice QA q.params.length qc, .int .i64 q.locals, .int .i64 q.result, .slice IA q.code.length ic] 55 (0, 0)) :: .blk b9 (.cells #[.slice CA pg.consts.length cc, .slice (some ⟨pb, po, none⟩) pg.procs.length pc, qv] 26 (0, 0)) :: Ha) (fun j => args.length - j)
    (fun j => j ≤ args.length ∧ ∀ k (u : V) t, k < j → args[k]? = some u → q.params[k]? = some t → vOK u = true ∧ u.t = t) 0 ⟨by omega, fun k u t h => by omega⟩ (by exact ⟨rfl, rfl, rfl, rfl, rfl, rfl, rfl, trivial⟩) rfl (List.Sublist.refl _) fun j hx => ?_
  obtain ⟨hj, hall⟩ := hx
  refine WC.seq ?_
  refine WC.region ?_
  (first | refine WL.p (Gp.ltI rfl rfl) (by kernel_rfl) rfl ?_ | refine WL.p (Gp.ltS rfl rfl) (by kernel_rfl) rfl ?_)
  refine WL.nil ?_
  refine WK.un ?_
  refine WC.seq ?_
  refine WC.cond rfl (fun hc13 => ?_) (fun hc13 => ?_)
  · -- yes
    have hlt : j < args.length := by have h := of_decide_eq_true hc13; omega
    obtain ⟨u, hu⟩ : ∃ u, args[j]? = some u := ⟨_, List.getElem?_eq_getElem hlt⟩
    obtain ⟨t, ht⟩ : ∃ t, q.params[j]? = some t := ⟨_, List.getElem?_eq_getElem (by omega)⟩
    obtain ⟨qb, qo, cs, rfl, hK, hcsq⟩ := hQ j t ht
    obtain rfl : cs = [.int .i64 t] := hK
    rcases hr with h0 | ⟨lb, lo, rfl, hread⟩
    · have h := congrArg List.length h0
      rw [vflat_length] at h; simp only [List.length_nil] at h; omega
    have hbad : ¬ (vOK u = true ∧ u.t = t) → startR pg (i : Int) args = none := fun hno => by
      rw [hcR, if_neg]
      intro h
      rw [Bool.and_eq_true, decide_eq_true_iff, List.all_eq_true] at h
      refine hno ⟨h.1 u (List.mem_of_getElem? hu), ?_⟩
      have h1 := congrArg (fun l => l[j]?) h.2
      simp only [tys, List.getElem?_map, hu, ht, Option.map_some, Option.some.injEq] at h1
      exact h1
    refine WC.skip ?_
    refine WK.un ?_
    refine WC.seq ?_
    refine WC.block ?_  -- 1
    refine WC.seq ?_
    refine WC.region ?_
    refine WL.p (Gp.move rfl) (by kernel_rfl) rfl ?_
    refine WL.p (Gp.indexAddr rfl rfl (by first | assumption | omega | decide) (by first | assumption | omega | decide | (simp only [List.length_cons, List.length_nil]; decide))) (by kernel_rfl) rfl ?_
    refine WL.v (Gv.loadRN rfl hread (by repeat (first | exact List.Sublist.refl _ | exact List.nil_sublist _ | apply List.Sublist.cons)) (vflat_elem args j u hu) rfl) (by kernel_rfl) rfl ?_
    refine WL.op (by kernel_rfl) (OW.alloc rfl fun b14 => ?_)
    refine WL.p (Gp.assign rfl) (by kernel_rfl) rfl ?_
    refine WL.op (by kernel_rfl) (OW.store rfl rfl (by (repeat first | exact .here | apply At.there)) rfl (by rfl) (by rfl) (by kernel_rfl) (by rfl) ?_ rfl)
    refine WL.nil ?_
    refine WK.un ?_
    refine WC.seq ?_
    refine WC.draw mixed ?_
    refine WA.tv (i := 0) rfl (by kernel_rfl) (by kernel_rfl) rfl (Gv.loadN rfl .here rfl rfl) ?_
    refine WA.one (i := 1) (by kernel_rfl) rfl (by kernel_rfl) (OW.callR rfl (Hf := []) (List.Perm.refl _) (value_fn G u) rfl (by rintro e G' H' ⟨h, _⟩; exact ⟨_, h⟩) fun v' G' H' h hg => ?_)
    obtain ⟨he, rfl, rfl⟩ := h
    cases he
    cases hok : vOK u with
    | false =>
      refine WA.tp (i := 2) rfl (by kernel_rfl) (by kernel_rfl) rfl (Gp.notB rfl) ?_
      refine WA.tp (i := 3) rfl (by kernel_rfl) (by kernel_rfl) rfl (Gp.move rfl) ?_
      refine WA.sp (i := 4) rfl (by kernel_rfl) (by kernel_rfl) rfl ?_
      refine WA.sp (i := 5) rfl (by kernel_rfl) (by kernel_rfl) rfl ?_
      refine WA.sp (i := 6) rfl (by kernel_rfl) (by kernel_rfl) rfl ?_
      refine WA.sp (i := 7) rfl (by kernel_rfl) (by kernel_rfl) rfl ?_
      refine WA.sp (i := 8) rfl (by kernel_rfl) (by kernel_rfl) rfl ?_
      refine WA.sp (i := 9) rfl (by kernel_rfl) (by kernel_rfl) rfl ?_
      refine WA.sp (i := 10) rfl (by kernel_rfl) (by kernel_rfl) rfl ?_
      refine WA.sp (i := 11) rfl (by kernel_rfl) (by kernel_rfl) rfl ?_
      (first | refine WA.tp (i := 12) rfl (by kernel_rfl) (by kernel_rfl) rfl (Gp.pickT rfl rfl) ?_ | refine WA.tp (i := 12) rfl (by kernel_rfl) (by kernel_rfl) rfl (Gp.pickF rfl rfl) ?_)
      refine WA.done (by kernel_rfl) ?_
      refine WK.un ?_
      refine WC.cond_true rfl ?_
      refine WC.seq ?_
      refine WC.region ?_
      refine WL.p (Gp.assign rfl) (by kernel_rfl) rfl ?_
      refine WL.p (Gp.assign rfl) (by kernel_rfl) rfl ?_
      refine WL.nil ?_
      refine WK.un ?_
      rw [hbad (fun h => by rw [hok] at h; exact absurd h.1 (by decide))]
      refine WC.ret ?_
      refine WK.un ?_
      exact QF.p2 (.inl rfl) rfl (.tmp rfl) (.tmp rfl) (⟨rfl, rfl, rfl⟩)
    | true =>
    refine WA.tp (i := 2) rfl (by kernel_rfl) (by kernel_rfl) rfl (Gp.notB rfl) ?_
    refine WA.tp (i := 3) rfl (by kernel_rfl) (by kernel_rfl) rfl (Gp.move rfl) ?_
    refine WA.tp (i := 4) rfl (by kernel_rfl) (by kernel_rfl) rfl (Gp.fieldAddr rfl) ?_
    (first | (refine WA.tv (i := 5) rfl (by kernel_rfl) (by kernel_rfl) rfl (Gv.load1 rfl (by (repeat first | exact .here | apply At.there)) (by first | rfl | assumption)) ?_) | (refine WA.tv (i := 5) rfl (by kernel_rfl) (by kernel_rfl) rfl (Gv.loadN rfl (by (repeat first | exact .here | apply At.there)) (by rfl) (by rfl)) ?_) | (refine WA.tv (i := 5) rfl (by kernel_rfl) (by kernel_rfl) rfl (Gv.loadG1 rfl (by assumption) rfl) ?_) | (refine WA.tv (i := 5) rfl (by kernel_rfl) (by kernel_rfl) rfl (Gv.loadG0 rfl (by assumption) rfl) ?_) | (refine WA.tv (i := 5) rfl (by kernel_rfl) (by kernel_rfl) rfl (Gv.loadGN rfl (by assumption) rfl) ?_))
    refine WA.tp (i := 6) rfl (by kernel_rfl) (by kernel_rfl) rfl (Gp.fieldAddr rfl) ?_
    (first | (refine WA.tv (i := 7) rfl (by kernel_rfl) (by kernel_rfl) rfl (Gv.load1 rfl (by (repeat first | exact .here | apply At.there)) (by first | rfl | assumption)) ?_) | (refine WA.tv (i := 7) rfl (by kernel_rfl) (by kernel_rfl) rfl (Gv.loadN rfl (by (repeat first | exact .here | apply At.there)) (by rfl) (by rfl)) ?_) | (refine WA.tv (i := 7) rfl (by kernel_rfl) (by kernel_rfl) rfl (Gv.loadG1 rfl (by assumption) rfl) ?_) | (refine WA.tv (i := 7) rfl (by kernel_rfl) (by kernel_rfl) rfl (Gv.loadG0 rfl (by assumption) rfl) ?_) | (refine WA.tv (i := 7) rfl (by kernel_rfl) (by kernel_rfl) rfl (Gv.loadGN rfl (by assumption) rfl) ?_))
    refine WA.tp (i := 8) rfl (by kernel_rfl) (by kernel_rfl) rfl (Gp.move rfl) ?_
    refine WA.tp (i := 9) rfl (by kernel_rfl) (by kernel_rfl) rfl (Gp.indexAddr rfl rfl (by first | assumption | omega | decide) (by first | assumption | omega | decide | (simp only [List.length_cons, List.length_nil]; decide))) ?_
    refine WA.tv (i := 10) rfl (by kernel_rfl) (by kernel_rfl) rfl (Gv.loadG0 rfl hcsq rfl) ?_
    by_cases htt : u.t = t
    rotate_left
    ·
      refine WA.tp (i := 11) rfl (by kernel_rfl) (by kernel_rfl) rfl (Gp.neI' rfl rfl (show (u.t != t) = true by simpa using htt)) ?_
      (first | refine WA.tp (i := 12) rfl (by kernel_rfl) (by kernel_rfl) rfl (Gp.pickT rfl rfl) ?_ | refine WA.tp (i := 12) rfl (by kernel_rfl) (by kernel_rfl) rfl (Gp.pickF rfl rfl) ?_)
      refine WA.done (by kernel_rfl) ?_
      refine WK.un ?_
      refine WC.cond_true rfl ?_
      refine WC.seq ?_
      refine WC.region ?_
      refine WL.p (Gp.assign rfl) (by kernel_rfl) rfl ?_
      refine WL.p (Gp.assign rfl) (by kernel_rfl) rfl ?_
      refine WL.nil ?_
      refine WK.un ?_
      rw [hbad (fun h => htt h.2)]
      refine WC.ret ?_
      refine WK.un ?_
      exact QF.p2 (.inl rfl) rfl (.tmp rfl) (.tmp rfl) (⟨rfl, rfl, rfl⟩)
    refine WA.tp (i := 11) rfl (by kernel_rfl) (by kernel_rfl) rfl (Gp.neI' rfl rfl (show (u.t != t) = false by simpa using htt)) ?_
    (first | refine WA.tp (i := 12) rfl (by kernel_rfl) (by kernel_rfl) rfl (Gp.pickT rfl rfl) ?_ | refine WA.tp (i := 12) rfl (by kernel_rfl) (by kernel_rfl) rfl (Gp.pickF rfl rfl) ?_)
    refine WA.done (by kernel_rfl) ?_
    refine WK.un ?_
    refine WC.cond_false rfl ?_
    refine WC.skip ?_
    refine WK.un ?_
    refine WC.region ?_
    (first | refine WL.p (Gp.add rfl rfl) (by kernel_rfl) rfl ?_ | refine WL.p (Gp.addS rfl rfl (by first | assumption | omega)) (by kernel_rfl) rfl ?_)
    refine WL.p (Gp.move rfl) (by kernel_rfl) rfl ?_
    refine WL.nil ?_
    refine WK.un ?_
    exact WK.again (j + 1) (by omega) ⟨by omega, fun k u' t' hk hu' ht' => by
      rcases Nat.lt_or_ge k j with h | h
      · exact hall k u' t' h hu' ht'
      · obtain rfl : k = j := by omega
        rw [hu] at hu'; rw [ht] at ht'; cases hu'; cases ht'; exact ⟨hok, htt⟩⟩ (by refine ⟨?_, rfl, rfl, rfl, rfl, rfl, rfl, trivial⟩; show some _ = some _; rw [wrap_small (by omega) (by omega)]; rfl) rfl (by exact .cons _ (List.Sublist.refl _))
  · -- no
    have hge : j = args.length := by have h := of_decide_eq_false hc13; omega
    have hty : tys args = q.params := by
      apply List.ext_getElem?
      intro k
      rcases Nat.lt_or_ge k args.length with hk' | hk'
      · obtain ⟨u, hu⟩ : ∃ u, args[k]? = some u := ⟨_, List.getElem?_eq_getElem hk'⟩
        obtain ⟨t, ht⟩ : ∃ t, q.params[k]? = some t := ⟨_, List.getElem?_eq_getElem (by omega)⟩
        rw [tys, List.getElem?_map, hu, ht, Option.map_some, (hall k u t (by omega) hu ht).2]
      · rw [List.getElem?_eq_none (by simpa [tys] using hk'), List.getElem?_eq_none (by omega)]
    have hok : args.all vOK = true := by
      rw [List.all_eq_true]
      intro u hu
      obtain ⟨k, hk, rfl⟩ := List.getElem_of_mem hu
      obtain ⟨t, ht⟩ : ∃ t, q.params[k]? = some t := ⟨_, List.getElem?_eq_getElem (by omega)⟩
      exact (hall k _ t (by omega) (List.getElem?_eq_getElem hk) ht).1
    rw [hcR, if_pos (by rw [hok, hty]; simp)]
    refine WC.exit ?_
    refine WK.un ?_
    refine WC.seq ?_
    refine WC.region ?_
    refine WL.v (Gv.loadN rfl (by (repeat first | exact .here | apply At.there)) rfl rfl) (by kernel_rfl) rfl ?_
    refine WL.op (by kernel_rfl) (OW.callK rfl (own_fn G pg CA (some ⟨pb, po, none⟩) cc pc qv hC hP hB) rfl fun v' G' H' h hg => ?_)
    obtain ⟨CA', PA', cc', pc', he, hg2, hC2, hP2, rfl⟩ := h
    cases he
    refine WL.p (Gp.build rfl rfl) (by kernel_rfl) rfl ?_
    refine WL.op (by kernel_rfl) (OW.box rfl rfl fun b16 => ?_)
    refine WL.p (Gp.assign rfl) (by kernel_rfl) rfl ?_
    refine WL.nil ?_
    refine WK.un ?_
    refine WC.seq ?_
    refine WC.nothing ?_
    refine WC.nothing ?_
    refine WC.region ?_
    refine WL.p (Gp.move rfl) (by kernel_rfl) rfl ?_
    refine WL.p (Gp.move rfl) (by kernel_rfl) rfl ?_
    refine WL.p (Gp.move rfl) (by kernel_rfl) rfl ?_
    refine WL.op (by kernel_rfl) (OW.callK rfl (enter_fn G' b16 (.slice CA' pg.consts.length cc') (.slice none 0 0) PA' pg.procs.length pc' pg.procs none 0 0 V0 none 0 0 0 false [] (.spare 0 0 0) i q hq rfl hP2 ⟨by simp [ptrs], .inl ⟨rfl, rfl, rfl, rfl⟩⟩ (by simp) AA ac args Ha (hr.le hg2) (by omega) hs'.2) rfl fun v' G' H' h hg => ?_)
    obtain ⟨FA', fcap', b', VA, x', y, he, rfl, rfl, hx', hy'⟩ := h
    cases he
    refine WL.nil ?_
    refine WK.un ?_
    refine WC.seq ?_
    refine WC.region ?_
    refine WL.p (Gp.move rfl) (by kernel_rfl) rfl ?_
    refine WL.p (Gp.assign rfl) (by kernel_rfl) rfl ?_
    refine WL.p (Gp.assign rfl) (by kernel_rfl) rfl ?_
    refine WL.nil ?_
    refine WK.un ?_
    refine WC.ret ?_
    refine WK.un ?_
    refine WK.swap ?_
    exact QF.p2 (.inl rfl) rfl (.tmp rfl) (.tmp rfl) (⟨b16, CA', PA', cc', pc', [mcB b16 (.slice CA' pg.consts.length cc') (.slice PA' pg.procs.length pc') (.slice none 0 0) FA' 1 fcap' 0 V0 none 0 0 0 false, .spare 0 0 0, x', frB b' none 0 0 i 0 VA (padded args q.locals).length (padded args q.locals).length, .spare 0 0 0, y], rfl, hg2, hC2, hP2, ⟨FA', fcap', none, 0, .spare 0 0 0, x', [b'], [frB b' none 0 0 i 0 VA (padded args q.locals).length (padded args q.locals).length, .spare 0 0 0, y], .cons ⟨by simp [vflat], .inl ⟨rfl, rfl, rfl, rfl⟩⟩ hy' .nil, hx', ⟨by simp [startS, vflat], .inl ⟨rfl, rfl, rfl, rfl⟩⟩, rfl⟩, rfl⟩) (by repeat (first | exact Pk.nil | exact Pk.all | exact Pk.app | exact Pk.appR | with_reducible apply Pk.na | (apply Pk.cons; (repeat first | exact .here | apply Rem.there | apply Rem.app)) | apply Pk.skip | apply Pk.skipA))
end Go.Proofs.Ytjgohbepageicaa.Gb
