/- A machine is started. What a machine tells; a run. A run. What a machine tells: its place, its variables, its stack; are values the same. What a machine tells: its place, its variables, its stack; and what one tells that nobody started. VmSafe: verified code does not get stuck on the machine: the law, no program in sight. The small programs of the statements. What must come, whatever else is so; small programs run. VmSafe: walked. VmSafe: the law walked. A list of values that is handed in, of bounded bulk, opened. -/
import Derived.Test.YtbfgljcjblfleaaGreatDoorMl
set_option linter.unusedVariables false
set_option linter.unusedSimpArgs false
set_option linter.unusedSectionVars false
namespace Go.Proofs.YtbfgljcjblfleaaGreatDoor.Gb
open Go Go.Proofs
attribute [local irreducible] Tryz.prog
def startR (pg : Pg) (n : Int) (args : List V) : Option Pr := if n < 0 then none else match pg.procs[n.toNat]? with
  | none => none
  | some q => if sizedP q = false then none else if args.length ≠ q.params.length then none else if (args.all vOK && decide (tys args = q.params)) = true then some q else none
def startS (q : Pr) (n : Int) (args : List V) : Mc := ⟨[⟨n.toNat, 0, [], padded args q.locals⟩], [], 0, 0, V0, false⟩
def StartP (G : Gh) (pg : Pg) (n : Int) (args : List V) (Ha : List Own) (r : Option Pr) : Ending → Gh → List Own → Prop := fun e G' H' => match r with
  | none => e = .returned (.tuple #[.pointer none, .int .i64 1]) ∧ G = G' ∧ H' = Ha
  | some q => ∃ mb CA' PA' cc' pc' H1, e = .returned (.tuple #[.pointer (some ⟨mb, 0, none⟩), .int .i64 0]) ∧ G.le G' ∧ Sl Kd.val G' CA' pg.consts ∧ Sl Kd.prc G' PA' pg.procs ∧
      MRep CA' PA' cc' pc' pg.consts.length pg.procs.length (.slice none 0 0) mb (startS q n args) H1 ∧ H' = H1 ++ Ha
theorem Start_fn (G : Gh) (pg : Pg) (CA PA : Option Addr) (cc pc : Nat) (qv : Value) (hC : Sl Kd.val G CA pg.consts) (hP : Sl Kd.prc G PA pg.procs) (hB : PgB pg) (n : Int) (AA : Option Addr) (ac : Nat) (args : List V) (Ha : List Own) (hr : Rds G Ha AA (vflat args)) (hal : args.length * 40 ≤ 140737488355328) :
    Fn Tryz.prog 6 #[.agg #[.slice CA pg.consts.length cc, .slice PA pg.procs.length pc, qv], .int .i64 n, .slice AA args.length ac] G Ha (StartP G pg n args Ha (startR pg n args)) := by
  refine Fn.enter Tryz.func6 rfl rfl fun w0 => ?_
  refine WC.seq ?_
  refine WC.region ?_
  refine WL.op (by kernel_rfl) (OW.box rfl rfl fun b9 => ?_)
  refine WL.p (Gp.assign rfl) (by kernel_rfl) rfl ?_
  refine WL.p (Gp.assign rfl) (by kernel_rfl) rfl ?_
  refine WL.nil ?_
  refine WK.un ?_
  refine WC.seq ?_
  refine WC.seq ?_
  refine WC.region ?_
  refine WL.p (Gp.move rfl) (by kernel_rfl) rfl ?_
  by_cases hn0 : n < 0
  ·
    refine WL.p (Gp.ltI' rfl rfl (decide_eq_true hn0)) (by kernel_rfl) rfl ?_
    refine WL.p (Gp.move rfl) (by kernel_rfl) rfl ?_
    refine WL.skip (by kernel_rfl) rfl ?_
    refine WL.skip (by kernel_rfl) rfl ?_
    refine WL.skip (by kernel_rfl) rfl ?_
    refine WL.skip (by kernel_rfl) rfl ?_
    refine WL.skip (by kernel_rfl) rfl ?_
    (first | refine WL.p (Gp.pickT rfl rfl) (by kernel_rfl) rfl ?_ | refine WL.p (Gp.pickF rfl rfl) (by kernel_rfl) rfl ?_)
    refine WL.nil ?_
    refine WK.un ?_
    refine WC.cond_true rfl ?_
    refine WC.seq ?_
    refine WC.region ?_
    refine WL.p (Gp.assign rfl) (by kernel_rfl) rfl ?_
    refine WL.p (Gp.assign rfl) (by kernel_rfl) rfl ?_
    refine WL.nil ?_
    refine WK.un ?_
    rw [show startR pg n args = none by rw [startR, if_pos hn0]]
    refine WC.ret ?_
    refine WK.un ?_
    exact QF.p2 (.inl rfl) rfl (.tmp rfl) (.tmp rfl) (⟨rfl, rfl, rfl⟩)
  refine WL.p (Gp.ltI' rfl rfl (decide_eq_false hn0)) (by kernel_rfl) rfl ?_
  obtain ⟨i, rfl⟩ := Int.eq_ofNat_of_zero_le (Int.not_lt.1 hn0)
  refine WL.p (Gp.move rfl) (by kernel_rfl) rfl ?_
  refine WL.p (Gp.move rfl) (by kernel_rfl) rfl ?_
  refine WL.p (Gp.fieldAddr rfl) (by kernel_rfl) rfl ?_
  (first | (refine WL.v (Gv.load1 rfl (by (repeat first | exact .here | apply At.there)) (by first | rfl | assumption)) (by kernel_rfl) rfl ?_) | (refine WL.v (Gv.loadN rfl (by (repeat first | exact .here | apply At.there)) (by rfl) (by rfl)) (by kernel_rfl) rfl ?_) | (refine WL.v (Gv.loadG1 rfl (by assumption) rfl) (by kernel_rfl) rfl ?_) | (refine WL.v (Gv.loadG0 rfl (by assumption) rfl) (by kernel_rfl) rfl ?_) | (refine WL.v (Gv.loadGN rfl (by assumption) rfl) (by kernel_rfl) rfl ?_))
  (first | refine WL.p (Gp.lenSl rfl) (by kernel_rfl) rfl ?_ | refine WL.p (Gp.lenS rfl) (by kernel_rfl) rfl ?_)
  cases hq : pg.procs[i]? with
  | none =>
    refine WL.p (Gp.geI' rfl rfl (decide_eq_true (by have := List.getElem?_eq_none_iff.1 hq; omega))) (by kernel_rfl) rfl ?_
    (first | refine WL.p (Gp.pickT rfl rfl) (by kernel_rfl) rfl ?_ | refine WL.p (Gp.pickF rfl rfl) (by kernel_rfl) rfl ?_)
    refine WL.nil ?_
    refine WK.un ?_
    refine WC.cond_true rfl ?_
    refine WC.seq ?_
    refine WC.region ?_
    refine WL.p (Gp.assign rfl) (by kernel_rfl) rfl ?_
    refine WL.p (Gp.assign rfl) (by kernel_rfl) rfl ?_
    refine WL.nil ?_
    refine WK.un ?_
    rw [show startR pg (i : Int) args = none by rw [startR, if_neg hn0, Int.toNat_natCast, hq]]
    refine WC.ret ?_
    refine WK.un ?_
    exact QF.p2 (.inl rfl) rfl (.tmp rfl) (.tmp rfl) (⟨rfl, rfl, rfl⟩)
  | some q =>
  have hil := (List.getElem?_eq_some_iff.1 hq).1
  refine WL.p (Gp.geI' rfl rfl (decide_eq_false (by omega))) (by kernel_rfl) rfl ?_
  (first | refine WL.p (Gp.pickT rfl rfl) (by kernel_rfl) rfl ?_ | refine WL.p (Gp.pickF rfl rfl) (by kernel_rfl) rfl ?_)
  refine WL.nil ?_
  refine WK.un ?_
  refine WC.cond_false rfl ?_
  refine WC.skip ?_
  refine WK.un ?_
  obtain ⟨pb, po, cs, hPA, ⟨QA, qc, IA, ic, rfl, hQ, hI⟩, hcs⟩ := hP i q hq
  have hP' := hP
  subst hPA
  have hcR : startR pg (i : Int) args = if sizedP q = false then none else if args.length ≠ q.params.length then none else if (args.all vOK && decide (tys args = q.params)) = true then some q else none := by rw [startR, if_neg hn0, Int.toNat_natCast, hq]
  refine WC.seq ?_
  refine WC.region ?_
  refine WL.p (Gp.fieldAddr rfl) (by kernel_rfl) rfl ?_
  (first | (refine WL.v (Gv.load1 rfl (by (repeat first | exact .here | apply At.there)) (by first | rfl | assumption)) (by kernel_rfl) rfl ?_) | (refine WL.v (Gv.loadN rfl (by (repeat first | exact .here | apply At.there)) (by rfl) (by rfl)) (by kernel_rfl) rfl ?_) | (refine WL.v (Gv.loadG1 rfl (by assumption) rfl) (by kernel_rfl) rfl ?_) | (refine WL.v (Gv.loadG0 rfl (by assumption) rfl) (by kernel_rfl) rfl ?_) | (refine WL.v (Gv.loadGN rfl (by assumption) rfl) (by kernel_rfl) rfl ?_))
  refine WL.p (Gp.move rfl) (by kernel_rfl) rfl ?_
  refine WL.p (Gp.indexAddr rfl rfl (by first | assumption | omega | decide) (by first | assumption | omega | decide | (simp only [List.length_cons, List.length_nil]; decide))) (by kernel_rfl) rfl ?_
  refine WL.v (Gv.loadGN rfl hcs rfl) (by kernel_rfl) rfl ?_
  refine WL.op (by kernel_rfl) (OW.alloc rfl fun b11 => ?_)
  refine WL.op (by kernel_rfl) (OW.store rfl rfl (by (repeat first | exact .here | apply At.there)) rfl (by rfl) (by rfl) (by kernel_rfl) (by rfl) ?_ rfl)
  refine WL.nil ?_
  refine WK.un ?_
  refine WC.seq ?_
  refine WC.seq ?_
  refine WC.region ?_
  refine WL.v (Gv.loadN rfl .here rfl rfl) (by kernel_rfl) rfl ?_
  refine WL.op (by kernel_rfl) (OW.callR rfl (Hf := []) (List.Perm.refl _) (sized_fn G q.name q.exp QA q.params.length qc q.locals q.result (.slice IA q.code.length ic)) rfl (by rintro e G' H' ⟨h, _⟩; exact ⟨_, h⟩) fun v' G' H' h hg => ?_)
  obtain ⟨he, rfl, rfl⟩ := h
  cases he
  rw [show (decide ((q.params.length : Int) ≤ q.locals) && decide (q.locals ≤ 64)) = sizedP q from rfl]
  cases hs : sizedP q with
  | false =>
    refine WL.p (Gp.notB rfl) (by kernel_rfl) rfl ?_
    refine WL.p (Gp.move rfl) (by kernel_rfl) rfl ?_
    refine WL.skip (by kernel_rfl) rfl ?_
    refine WL.skip (by kernel_rfl) rfl ?_
    refine WL.skip (by kernel_rfl) rfl ?_
    refine WL.skip (by kernel_rfl) rfl ?_
    refine WL.skip (by kernel_rfl) rfl ?_
    refine WL.skip (by kernel_rfl) rfl ?_
    (first | refine WL.p (Gp.pickT rfl rfl) (by kernel_rfl) rfl ?_ | refine WL.p (Gp.pickF rfl rfl) (by kernel_rfl) rfl ?_)
    refine WL.nil ?_
    refine WK.un ?_
    refine WC.cond_true rfl ?_
    refine WC.seq ?_
    refine WC.region ?_
    refine WL.p (Gp.assign rfl) (by kernel_rfl) rfl ?_
    refine WL.p (Gp.assign rfl) (by kernel_rfl) rfl ?_
    refine WL.nil ?_
    refine WK.un ?_
    rw [hcR, if_pos hs]
    refine WC.ret ?_
    refine WK.un ?_
    exact QF.p2 (.inl rfl) rfl (.tmp rfl) (.tmp rfl) (⟨rfl, rfl, rfl⟩)
  | true =>
  rw [if_neg (by rw [hs]; decide)] at hcR
  have hs' : (q.params.length : Int) ≤ q.locals ∧ q.locals ≤ 64 := by unfold sizedP at hs; simpa using hs
  refine WL.p (Gp.notB rfl) (by kernel_rfl) rfl ?_
  refine WL.p (Gp.move rfl) (by kernel_rfl) rfl ?_
  refine WL.p (Gp.move rfl) (by kernel_rfl) rfl ?_
  (first | refine WL.p (Gp.lenSl rfl) (by kernel_rfl) rfl ?_ | refine WL.p (Gp.lenS rfl) (by kernel_rfl) rfl ?_)
  refine WL.p (Gp.fieldAddr rfl) (by kernel_rfl) rfl ?_
  (first | (refine WL.v (Gv.load1 rfl (by (repeat first | exact .here | apply At.there)) (by first | rfl | assumption)) (by kernel_rfl) rfl ?_) | (refine WL.v (Gv.loadN rfl (by (repeat first | exact .here | apply At.there)) (by rfl) (by rfl)) (by kernel_rfl) rfl ?_) | (refine WL.v (Gv.loadG1 rfl (by assumption) rfl) (by kernel_rfl) rfl ?_) | (refine WL.v (Gv.loadG0 rfl (by assumption) rfl) (by kernel_rfl) rfl ?_) | (refine WL.v (Gv.loadGN rfl (by assumption) rfl) (by kernel_rfl) rfl ?_))
  (first | refine WL.p (Gp.lenSl rfl) (by kernel_rfl) rfl ?_ | refine WL.p (Gp.lenS rfl) (by kernel_rfl) rfl ?_)
  by_cases hal' : args.length ≠ q.params.length
  ·
    refine WL.p (Gp.neI' rfl rfl (show ((args.length : Int) != (q.params.length : Int)) = true by simp; omega)) (by kernel_rfl) rfl ?_
    (first | refine WL.p (Gp.pickT rfl rfl) (by kernel_rfl) rfl ?_ | refine WL.p (Gp.pickF rfl rfl) (by kernel_rfl) rfl ?_)
    refine WL.nil ?_
    refine WK.un ?_
    refine WC.cond_true rfl ?_
    refine WC.seq ?_
    refine WC.region ?_
    refine WL.p (Gp.assign rfl) (by kernel_rfl) rfl ?_
    refine WL.p (Gp.assign rfl) (by kernel_rfl) rfl ?_
    refine WL.nil ?_
    refine WK.un ?_
    rw [hcR, if_pos hal']
    refine WC.ret ?_
    refine WK.un ?_
    exact QF.p2 (.inl rfl) rfl (.tmp rfl) (.tmp rfl) (⟨rfl, rfl, rfl⟩)
  rw [if_neg hal'] at hcR
  have hal2 : args.length = q.params.length := Classical.not_not.1 hal'
  refine WL.p (Gp.neI' rfl rfl (show ((args.length : Int) != (q.params.length : Int)) = false by simp; omega)) (by kernel_rfl) rfl ?_
  (first | refine WL.p (Gp.pickT rfl rfl) (by kernel_rfl) rfl ?_ | refine WL.p (Gp.pickF rfl rfl) (by kernel_rfl) rfl ?_)
  refine WL.nil ?_
  refine WK.un ?_
  refine WC.cond_false rfl ?_
  refine WC.skip ?_
  refine WK.un ?_
  refine WC.seq ?_
  refine WC.seq ?_
  refine WC.region ?_
  refine WL.p (Gp.move rfl) (by kernel_rfl) rfl ?_
  (first | refine WL.p (Gp.lenSl rfl) (by kernel_rfl) rfl ?_ | refine WL.p (Gp.lenS rfl) (by kernel_rfl) rfl ?_)
  refine WL.p (Gp.move rfl) (by kernel_rfl) rfl ?_
  refine WL.nil ?_
  refine WK.un ?_
  refine WC.block ?_  -- 0
  refine WC.pk (H' := .blk b11 (.cells #[.string q.name, .bool q.exp, .slice QA q.params.length qc, .int .i64 q.locals, .int .i64 q.result, .slice IA q.code.length ic] 65 (0, 0)) :: .blk b9 (.cells #[.slice CA pg.consts.length cc, .slice (some ⟨pb, po, none⟩) pg.procs.length pc, qv] 36 (0, 0)) :: Ha) (by repeat (first | exact Pk.nil | exact Pk.all | exact Pk.app | exact Pk.appR | with_reducible apply Pk.na | (apply Pk.cons; (repeat first | exact .here | apply Rem.there | apply Rem.app)) | apply Pk.skip | apply Pk.skipA)) ?_
  refine WC.loop (X := Nat) (fun j => [(39, .int .i64 j), (38, .int .i64 args.length), (37, .slice AA args.length ac), (8, .pointer (some ⟨b11, 0, none⟩)), (3, .pointer (some ⟨b9, 0, none⟩)), (1, .int .i64 i), (2, .slice AA args.length ac)]) (fun j => G)
    (fun j => .blk b11 (.cells #[.string q.name, .bool q.exp, .slice QA q.params.length qc, .int .i64 q.locals, .int .i64 q.result, .slice IA q.code.length ic] 65 (0, 0)) :: .blk b9 (.cells #[.slice CA pg.consts.length cc, .slice (some ⟨pb, po, none⟩) pg.procs.length pc, qv] 36 (0, 0)) :: Ha) (fun j => args.length - j)
    (fun j => j ≤ args.length ∧ ∀ k (u : V) t, k < j → args[k]? = some u → q.params[k]? = some t → vOK u = true ∧ u.t = t) 0 ⟨by omega, fun k u t h => by omega⟩ (by exact ⟨rfl, rfl, rfl, rfl, rfl, rfl, rfl, trivial⟩) rfl (List.Sublist.refl _) fun j hx => ?_
  obtain ⟨hj, hall⟩ := hx
  refine WC.seq ?_
  refine WC.region ?_
  (first | refine WL.p (Gp.ltI rfl rfl) (by kernel_rfl) rfl ?_ | refine WL.p (Gp.ltS rfl rfl) (by kernel_rfl) rfl ?_)
  refine WL.nil ?_
  refine WK.un ?_
  refine WC.seq ?_
  refine WC.cond rfl (fun hc13 => ?_) (fun hc13 => ?_)
  · -- yes
    have hlt : j < args.length := by have h := of_decide_eq_true hc13; omega
    obtain ⟨u, hu⟩ : ∃ u, args[j]? = some u := ⟨_, List.getElem?_eq_getElem hlt⟩
    obtain ⟨t, ht⟩ : ∃ t, q.params[j]? = some t := ⟨_, List.getElem?_eq_getElem (by omega)⟩
    obtain ⟨qb, qo, cs, rfl, hK, hcsq⟩ := hQ j t ht
    obtain rfl : cs = [.int .i64 t] := hK
    rcases hr with h0 | ⟨lb, lo, rfl, hread⟩
    · have h := congrArg List.length h0
      rw [vflat_length] at h; simp only [List.length_nil] at h; omega
    have hbad : ¬ (vOK u = true ∧ u.t = t) → startR pg (i : Int) args = none := fun hno => by
      rw [hcR, if_neg]
      intro h
      rw [Bool.and_eq_true, decide_eq_true_iff, List.all_eq_true] at h
      refine hno ⟨h.1 u (List.mem_of_getElem? hu), ?_⟩
      have h1 := congrArg (fun l => l[j]?) h.2
      simp only [tys, List.getElem?_map, hu, ht, Option.map_some, Option.some.injEq] at h1
      exact h1
    refine WC.skip ?_
    refine WK.un ?_
    refine WC.seq ?_
    refine WC.block ?_  -- 1
    refine WC.seq ?_
    refine WC.region ?_
    refine WL.p (Gp.move rfl) (by kernel_rfl) rfl ?_
    refine WL.p (Gp.indexAddr rfl rfl (by first | assumption | omega | decide) (by first | assumption | omega | decide | (simp only [List.length_cons, List.length_nil]; decide))) (by kernel_rfl) rfl ?_
    refine WL.v (Gv.loadRN rfl hread (by repeat (first | exact List.Sublist.refl _ | exact List.nil_sublist _ | apply List.Sublist.cons)) (vflat_elem args j u hu) rfl) (by kernel_rfl) rfl ?_
    refine WL.op (by kernel_rfl) (OW.alloc rfl fun b14 => ?_)
    refine WL.p (Gp.assign rfl) (by kernel_rfl) rfl ?_
    refine WL.op (by kernel_rfl) (OW.store rfl rfl (by (repeat first | exact .here | apply At.there)) rfl (by rfl) (by rfl) (by kernel_rfl) (by rfl) ?_ rfl)
    refine WL.nil ?_
    refine WK.un ?_
    refine WC.seq ?_
    refine WC.draw mixed ?_
    refine WA.tv (i := 0) rfl (by kernel_rfl) (by kernel_rfl) rfl (Gv.loadN rfl .here rfl rfl) ?_
    refine WA.one (i := 1) (by kernel_rfl) rfl (by kernel_rfl) (OW.callR rfl (Hf := []) (List.Perm.refl _) (value_fnQ G u) rfl (by rintro e G' H' ⟨h, _⟩; exact ⟨_, h⟩) fun v' G' H' h hg => ?_)
    obtain ⟨he, rfl, rfl⟩ := h
    cases he
    cases hok : vOK u with
    | false =>
      refine WA.tp (i := 2) rfl (by kernel_rfl) (by kernel_rfl) rfl (Gp.notB rfl) ?_
      refine WA.tp (i := 3) rfl (by kernel_rfl) (by kernel_rfl) rfl (Gp.move rfl) ?_
      refine WA.sp (i := 4) rfl (by kernel_rfl) (by kernel_rfl) rfl ?_
      refine WA.sp (i := 5) rfl (by kernel_rfl) (by kernel_rfl) rfl ?_
      refine WA.sp (i := 6) rfl (by kernel_rfl) (by kernel_rfl) rfl ?_
      refine WA.sp (i := 7) rfl (by kernel_rfl) (by kernel_rfl) rfl ?_
      refine WA.sp (i := 8) rfl (by kernel_rfl) (by kernel_rfl) rfl ?_
      refine WA.sp (i := 9) rfl (by kernel_rfl) (by kernel_rfl) rfl ?_
      refine WA.sp (i := 10) rfl (by kernel_rfl) (by kernel_rfl) rfl ?_
      refine WA.sp (i := 11) rfl (by kernel_rfl) (by kernel_rfl) rfl ?_
      (first | refine WA.tp (i := 12) rfl (by kernel_rfl) (by kernel_rfl) rfl (Gp.pickT rfl rfl) ?_ | refine WA.tp (i := 12) rfl (by kernel_rfl) (by kernel_rfl) rfl (Gp.pickF rfl rfl) ?_)
      refine WA.done (by kernel_rfl) ?_
      refine WK.un ?_
      refine WC.cond_true rfl ?_
      refine WC.seq ?_
      refine WC.region ?_
      refine WL.p (Gp.assign rfl) (by kernel_rfl) rfl ?_
      refine WL.p (Gp.assign rfl) (by kernel_rfl) rfl ?_
      refine WL.nil ?_
      refine WK.un ?_
      rw [hbad (fun h => by rw [hok] at h; exact absurd h.1 (by decide))]
      refine WC.ret ?_
      refine WK.un ?_
      exact QF.p2 (.inl rfl) rfl (.tmp rfl) (.tmp rfl) (⟨rfl, rfl, rfl⟩)
    | true =>
    refine WA.tp (i := 2) rfl (by kernel_rfl) (by kernel_rfl) rfl (Gp.notB rfl) ?_
    refine WA.tp (i := 3) rfl (by kernel_rfl) (by kernel_rfl) rfl (Gp.move rfl) ?_
    refine WA.tp (i := 4) rfl (by kernel_rfl) (by kernel_rfl) rfl (Gp.fieldAddr rfl) ?_
    (first | (refine WA.tv (i := 5) rfl (by kernel_rfl) (by kernel_rfl) rfl (Gv.load1 rfl (by (repeat first | exact .here | apply At.there)) (by first | rfl | assumption)) ?_) | (refine WA.tv (i := 5) rfl (by kernel_rfl) (by kernel_rfl) rfl (Gv.loadN rfl (by (repeat first | exact .here | apply At.there)) (by rfl) (by rfl)) ?_) | (refine WA.tv (i := 5) rfl (by kernel_rfl) (by kernel_rfl) rfl (Gv.loadG1 rfl (by assumption) rfl) ?_) | (refine WA.tv (i := 5) rfl (by kernel_rfl) (by kernel_rfl) rfl (Gv.loadG0 rfl (by assumption) rfl) ?_) | (refine WA.tv (i := 5) rfl (by kernel_rfl) (by kernel_rfl) rfl (Gv.loadGN rfl (by assumption) rfl) ?_))
    refine WA.tp (i := 6) rfl (by kernel_rfl) (by kernel_rfl) rfl (Gp.fieldAddr rfl) ?_
    (first | (refine WA.tv (i := 7) rfl (by kernel_rfl) (by kernel_rfl) rfl (Gv.load1 rfl (by (repeat first | exact .here | apply At.there)) (by first | rfl | assumption)) ?_) | (refine WA.tv (i := 7) rfl (by kernel_rfl) (by kernel_rfl) rfl (Gv.loadN rfl (by (repeat first | exact .here | apply At.there)) (by rfl) (by rfl)) ?_) | (refine WA.tv (i := 7) rfl (by kernel_rfl) (by kernel_rfl) rfl (Gv.loadG1 rfl (by assumption) rfl) ?_) | (refine WA.tv (i := 7) rfl (by kernel_rfl) (by kernel_rfl) rfl (Gv.loadG0 rfl (by assumption) rfl) ?_) | (refine WA.tv (i := 7) rfl (by kernel_rfl) (by kernel_rfl) rfl (Gv.loadGN rfl (by assumption) rfl) ?_))
    refine WA.tp (i := 8) rfl (by kernel_rfl) (by kernel_rfl) rfl (Gp.move rfl) ?_
    refine WA.tp (i := 9) rfl (by kernel_rfl) (by kernel_rfl) rfl (Gp.indexAddr rfl rfl (by first | assumption | omega | decide) (by first | assumption | omega | decide | (simp only [List.length_cons, List.length_nil]; decide))) ?_
    refine WA.tv (i := 10) rfl (by kernel_rfl) (by kernel_rfl) rfl (Gv.loadG0 rfl hcsq rfl) ?_
    by_cases htt : u.t = t
    rotate_left
    ·
      refine WA.tp (i := 11) rfl (by kernel_rfl) (by kernel_rfl) rfl (Gp.neI' rfl rfl (show (u.t != t) = true by simpa using htt)) ?_
      (first | refine WA.tp (i := 12) rfl (by kernel_rfl) (by kernel_rfl) rfl (Gp.pickT rfl rfl) ?_ | refine WA.tp (i := 12) rfl (by kernel_rfl) (by kernel_rfl) rfl (Gp.pickF rfl rfl) ?_)
      refine WA.done (by kernel_rfl) ?_
      refine WK.un ?_
      refine WC.cond_true rfl ?_
      refine WC.seq ?_
      refine WC.region ?_
      refine WL.p (Gp.assign rfl) (by kernel_rfl) rfl ?_
      refine WL.p (Gp.assign rfl) (by kernel_rfl) rfl ?_
      refine WL.nil ?_
      refine WK.un ?_
      rw [hbad (fun h => htt h.2)]
      refine WC.ret ?_
      refine WK.un ?_
      exact QF.p2 (.inl rfl) rfl (.tmp rfl) (.tmp rfl) (⟨rfl, rfl, rfl⟩)
    refine WA.tp (i := 11) rfl (by kernel_rfl) (by kernel_rfl) rfl (Gp.neI' rfl rfl (show (u.t != t) = false by simpa using htt)) ?_
    (first | refine WA.tp (i := 12) rfl (by kernel_rfl) (by kernel_rfl) rfl (Gp.pickT rfl rfl) ?_ | refine WA.tp (i := 12) rfl (by kernel_rfl) (by kernel_rfl) rfl (Gp.pickF rfl rfl) ?_)
    refine WA.done (by kernel_rfl) ?_
    refine WK.un ?_
    refine WC.cond_false rfl ?_
    refine WC.skip ?_
    refine WK.un ?_
    refine WC.region ?_
    (first | refine WL.p (Gp.add rfl rfl) (by kernel_rfl) rfl ?_ | refine WL.p (Gp.addS rfl rfl (by first | assumption | omega)) (by kernel_rfl) rfl ?_)
    refine WL.p (Gp.move rfl) (by kernel_rfl) rfl ?_
    refine WL.nil ?_
    refine WK.un ?_
    exact WK.again (j + 1) (by omega) ⟨by omega, fun k u' t' hk hu' ht' => by
      rcases Nat.lt_or_ge k j with h | h
      · exact hall k u' t' h hu' ht'
      · obtain rfl : k = j := by omega
        rw [hu] at hu'; rw [ht] at ht'; cases hu'; cases ht'; exact ⟨hok, htt⟩⟩ (by refine ⟨?_, rfl, rfl, rfl, rfl, rfl, rfl, trivial⟩; show some _ = some _; rw [wrap_small (by omega) (by omega)]; rfl) rfl (by exact .cons _ (List.Sublist.refl _))
  · -- no
    have hge : j = args.length := by have h := of_decide_eq_false hc13; omega
    have hty : tys args = q.params := by
      apply List.ext_getElem?
      intro k
      rcases Nat.lt_or_ge k args.length with hk' | hk'
      · obtain ⟨u, hu⟩ : ∃ u, args[k]? = some u := ⟨_, List.getElem?_eq_getElem hk'⟩
        obtain ⟨t, ht⟩ : ∃ t, q.params[k]? = some t := ⟨_, List.getElem?_eq_getElem (by omega)⟩
        rw [tys, List.getElem?_map, hu, ht, Option.map_some, (hall k u t (by omega) hu ht).2]
      · rw [List.getElem?_eq_none (by simpa [tys] using hk'), List.getElem?_eq_none (by omega)]
    have hok : args.all vOK = true := by
      rw [List.all_eq_true]
      intro u hu
      obtain ⟨k, hk, rfl⟩ := List.getElem_of_mem hu
      obtain ⟨t, ht⟩ : ∃ t, q.params[k]? = some t := ⟨_, List.getElem?_eq_getElem (by omega)⟩
      exact (hall k _ t (by omega) (List.getElem?_eq_getElem hk) ht).1
    rw [hcR, if_pos (by rw [hok, hty]; simp)]
    refine WC.exit ?_
    refine WK.un ?_
    refine WC.seq ?_
    refine WC.region ?_
    refine WL.v (Gv.loadN rfl (by (repeat first | exact .here | apply At.there)) rfl rfl) (by kernel_rfl) rfl ?_
    refine WL.op (by kernel_rfl) (OW.callK rfl (own_fn G pg CA (some ⟨pb, po, none⟩) cc pc qv hC hP hB) rfl fun v' G' H' h hg => ?_)
    obtain ⟨CA', PA', cc', pc', he, hg2, hC2, hP2, rfl⟩ := h
    cases he
    refine WL.p (Gp.build rfl rfl) (by kernel_rfl) rfl ?_
    refine WL.op (by kernel_rfl) (OW.box rfl rfl fun b16 => ?_)
    refine WL.p (Gp.assign rfl) (by kernel_rfl) rfl ?_
    refine WL.nil ?_
    refine WK.un ?_
    refine WC.seq ?_
    refine WC.nothing ?_
    refine WC.nothing ?_
    refine WC.region ?_
    refine WL.p (Gp.move rfl) (by kernel_rfl) rfl ?_
    refine WL.p (Gp.move rfl) (by kernel_rfl) rfl ?_
    refine WL.p (Gp.move rfl) (by kernel_rfl) rfl ?_
    refine WL.op (by kernel_rfl) (OW.callK rfl (enter_fn G' b16 (.slice CA' pg.consts.length cc') (.slice none 0 0) PA' pg.procs.length pc' pg.procs none 0 0 V0 none 0 0 0 false [] (.spare 0 0 0) i q hq rfl hP2 ⟨by simp [ptrs], .inl ⟨rfl, rfl, rfl, rfl⟩⟩ (by simp) AA ac args Ha (hr.le hg2) (by omega) hs'.2) rfl fun v' G' H' h hg => ?_)
    obtain ⟨FA', fcap', b', VA, x', y, he, rfl, rfl, hx', hy'⟩ := h
    cases he
    refine WL.nil ?_
    refine WK.un ?_
    refine WC.seq ?_
    refine WC.region ?_
    refine WL.p (Gp.move rfl) (by kernel_rfl) rfl ?_
    refine WL.p (Gp.assign rfl) (by kernel_rfl) rfl ?_
    refine WL.p (Gp.assign rfl) (by kernel_rfl) rfl ?_
    refine WL.nil ?_
    refine WK.un ?_
    refine WC.ret ?_
    refine WK.un ?_
    refine WK.swap ?_
    exact QF.p2 (.inl rfl) rfl (.tmp rfl) (.tmp rfl) (⟨b16, CA', PA', cc', pc', [mcB b16 (.slice CA' pg.consts.length cc') (.slice PA' pg.procs.length pc') (.slice none 0 0) FA' 1 fcap' 0 V0 none 0 0 0 false, .spare 0 0 0, x', frB b' none 0 0 i 0 VA (padded args q.locals).length (padded args q.locals).length, .spare 0 0 0, y], rfl, hg2, hC2, hP2, ⟨FA', fcap', none, 0, .spare 0 0 0, x', [b'], [frB b' none 0 0 i 0 VA (padded args q.locals).length (padded args q.locals).length, .spare 0 0 0, y], .cons ⟨by simp [vflat], .inl ⟨rfl, rfl, rfl, rfl⟩⟩ hy' .nil, hx', ⟨by simp [startS, vflat], .inl ⟨rfl, rfl, rfl, rfl⟩⟩, rfl⟩, rfl⟩) (by repeat (first | exact Pk.nil | exact Pk.all | exact Pk.app | exact Pk.appR | with_reducible apply Pk.na | (apply Pk.cons; (repeat first | exact .here | apply Rem.there | apply Rem.app)) | apply Pk.skip | apply Pk.skipA))
end Go.Proofs.YtbfgljcjblfleaaGreatDoor.Gb
namespace Go.Proofs.YtbfgljcjblfleaaGreatDoor.Gb
open Go Go.Proofs
attribute [local irreducible] Tryz.prog
theorem WL.swap {P : Program} {Q : Exit → Act → World → Prop} {ops : Array Oper} {rest : List Oper} {cx : Cx} {L : List (Nat × Value)} {G : Gh} {H F : List Own} (h : WL P ops Q rest cx L G (F ++ H)) : WL P ops Q rest cx L G (H ++ F) := fun a w st => h a w (st.perm List.perm_append_comm)
theorem WC.swap {P : Program} {Q : Exit → Act → World → Prop} {c : Code} {cx : Cx} {L : List (Nat × Value)} {G : Gh} {H F : List Own} (h : WC P c Q cx L G (F ++ H)) : WC P c Q cx L G (H ++ F) := fun a w st => h a w (st.perm List.perm_append_comm)
theorem VVec.none_zero {A : Option Addr} {cap : Nat} {l : List V} {x : Own} (h : VVec A cap l x) (hA : A = none) : l.length = 0 := by
  rcases h with ⟨_, ⟨_, h, _⟩ | ⟨b, c, h, _⟩⟩
  · exact h
  · rw [h] at hA; cases hA
section
variable (G : Gh) (CA PA : Option Addr) (cc pc cn pn : Nat) (c3 : Value) (mb : Nat)
theorem Outcome_fn (s : Mc) (H : List Own) (hR : MRep CA PA cc pc cn pn c3 mb s H) (hm : madeB s = true) (hb : s.out.length * 40 ≤ 140737488355328) :
    Fn Tryz.prog 14 #[.pointer (some ⟨mb, 0, none⟩)] G H fun e G' H' => ∃ A' cap' x', e = .returned (.agg #[.int .i64 s.en, .int .i64 s.val.t, .int .i64 s.val.i, .bool s.val.b, .string s.val.s, .slice A' s.out.length cap', .int .i64 s.steps]) ∧ G = G' ∧ VVec A' cap' s.out x' ∧ H' = x' :: H := by
  have hR0 := hR
  obtain ⟨FA, fcap, OA, ocap, ox, fx, bs, Hf, hF, hfv, ho, rfl⟩ := hR
  refine Fn.enter Tryz.func14 rfl rfl fun w0 => ?_
  refine WC.seq ?_
  refine WC.region ?_
  refine WL.op (by kernel_rfl) (OW.alloc rfl fun b3 => ?_)
  refine WL.nil ?_
  refine WK.un ?_
  refine WC.seq ?_
  refine WC.seq ?_
  refine WC.region ?_
  refine WL.p (Gp.move rfl) (by kernel_rfl) rfl ?_
  refine WL.op (by kernel_rfl) (OW.callR rfl (perm_at .here |>.trans (List.perm_append_comm (l₁ := [_]))) (made_fn G CA PA cc pc cn pn c3 mb s _ hR0) rfl (by intro e G' H' h; repeat (first | exact ⟨_, h.1⟩ | (obtain ⟨_, h⟩ := h))) fun v' G' H' h hg => ?_)
  obtain ⟨he, rfl, rfl⟩ := h
  cases he
  refine WL.swap ?_
  rw [hm]
  refine WL.p (Gp.notB rfl) (by kernel_rfl) rfl ?_
  refine WL.nil ?_
  refine WK.un ?_
  refine WC.cond_false rfl ?_
  refine WC.skip ?_
  refine WK.un ?_
  refine WC.seq ?_
  refine WC.region ?_
  refine WL.p (Gp.move rfl) (by kernel_rfl) rfl ?_
  refine WL.p (Gp.nilCheck rfl) (by kernel_rfl) rfl ?_
  refine WL.p (Gp.fieldAddr rfl) (by kernel_rfl) rfl ?_
  refine WL.v (Gv.loadN rfl (by (repeat first | exact .here | apply At.there)) rfl rfl) (by kernel_rfl) rfl ?_
  refine WL.op (by kernel_rfl) (OW.alloc rfl fun b5 => ?_)
  refine WL.op (by kernel_rfl) (OW.store rfl rfl (by (repeat first | exact .here | apply At.there)) rfl (by rfl) (by rfl) (by kernel_rfl) (by rfl) ?_ rfl)
  refine WL.nil ?_
  refine WK.un ?_
  refine WC.seq ?_
  refine WC.region ?_
  refine WL.p (Gp.fieldAddr rfl) (by kernel_rfl) rfl ?_
  (first | (refine WL.v (Gv.load1 rfl (by (repeat first | exact .here | apply At.there)) (by first | rfl | assumption)) (by kernel_rfl) rfl ?_) | (refine WL.v (Gv.loadN rfl (by (repeat first | exact .here | apply At.there)) (by rfl) (by rfl)) (by kernel_rfl) rfl ?_) | (refine WL.v (Gv.loadG1 rfl (by assumption) rfl) (by kernel_rfl) rfl ?_) | (refine WL.v (Gv.loadG0 rfl (by assumption) rfl) (by kernel_rfl) rfl ?_) | (refine WL.v (Gv.loadGN rfl (by assumption) rfl) (by kernel_rfl) rfl ?_))
  refine WL.op (by kernel_rfl) (OW.callK rfl (clone_vals G [ox] OA s.out.length ocap (vflat s.out) (ho.rds .here) (vflat_length _) (vflat_one _) ho.none_zero hb) rfl fun v' G' H' h hg => ?_)
  obtain ⟨A', cap', x', he, rfl, rfl, hx'⟩ := h
  cases he
  refine WL.p (Gp.fieldAddr rfl) (by kernel_rfl) rfl ?_
  refine WL.op (by kernel_rfl) (OW.store rfl rfl (by (repeat first | exact .here | apply At.there)) rfl (by rfl) (by rfl) (by kernel_rfl) (by rfl) ?_ rfl)
  refine WL.nil ?_
  refine WK.un ?_
  refine WC.seq ?_
  refine WC.region ?_
  (first | (refine WL.v (Gv.load1 rfl (by (repeat first | exact .here | apply At.there)) (by first | rfl | assumption)) (by kernel_rfl) rfl ?_) | (refine WL.v (Gv.loadN rfl (by (repeat first | exact .here | apply At.there)) (by rfl) (by rfl)) (by kernel_rfl) rfl ?_) | (refine WL.v (Gv.loadG1 rfl (by assumption) rfl) (by kernel_rfl) rfl ?_) | (refine WL.v (Gv.loadG0 rfl (by assumption) rfl) (by kernel_rfl) rfl ?_) | (refine WL.v (Gv.loadGN rfl (by assumption) rfl) (by kernel_rfl) rfl ?_))
  refine WL.op (by kernel_rfl) (OW.store rfl rfl (by (repeat first | exact .here | apply At.there)) rfl (by rfl) (by rfl) (by kernel_rfl) (by rfl) ?_ rfl)
  refine WL.nil ?_
  refine WK.un ?_
  refine WC.ret ?_
  refine WK.un ?_
  exact QF.p1 (.inl rfl) rfl (.cell rfl inferInstance inferInstance (by (repeat first | exact .here | apply At.there)) rfl rfl) (⟨A', cap', x', rfl, rfl, hx', rfl⟩)
theorem Ended_fn (s : Mc) (H : List Own) (hR : MRep CA PA cc pc cn pn c3 mb s H) :
    Fn Tryz.prog 7 #[.pointer (some ⟨mb, 0, none⟩)] G H fun e G' H' => e = .returned (.bool (madeB s && s.ended)) ∧ G = G' ∧ H' = H := by
  have hR0 := hR
  obtain ⟨FA, fcap, OA, ocap, ox, fx, bs, Hf, hF, hfv, ho, rfl⟩ := hR
  refine Fn.enter Tryz.func7 rfl rfl fun w0 => ?_
  refine WC.seq ?_
  refine WC.region ?_
  refine WL.p (Gp.assign rfl) (by kernel_rfl) rfl ?_
  refine WL.nil ?_
  refine WK.un ?_
  refine WC.seq ?_
  refine WC.region ?_
  refine WL.p (Gp.move rfl) (by kernel_rfl) rfl ?_
  refine WL.op (by kernel_rfl) (OW.callK rfl (made_fn G CA PA cc pc cn pn c3 mb s _ hR0) rfl fun v' G' H' h hg => ?_)
  obtain ⟨he, rfl, rfl⟩ := h
  cases he
  refine WL.p (Gp.move rfl) (by kernel_rfl) rfl ?_
  cases hm : madeB s with
  | false =>
    refine WL.skip (by kernel_rfl) rfl ?_
    refine WL.skip (by kernel_rfl) rfl ?_
    refine WL.skip (by kernel_rfl) rfl ?_
    refine WL.skip (by kernel_rfl) rfl ?_
    (first | refine WL.p (Gp.pickT rfl rfl) (by kernel_rfl) rfl ?_ | refine WL.p (Gp.pickF rfl rfl) (by kernel_rfl) rfl ?_)
    refine WL.p (Gp.assign rfl) (by kernel_rfl) rfl ?_
    refine WL.nil ?_
    refine WK.un ?_
    refine WC.ret ?_
    refine WK.un ?_
    exact QF.p1 (.inl rfl) rfl (.tmp rfl) (⟨by simp, rfl, rfl⟩)
  | true =>
    refine WL.p (Gp.move rfl) (by kernel_rfl) rfl ?_
    refine WL.p (Gp.nilCheck rfl) (by kernel_rfl) rfl ?_
    refine WL.p (Gp.fieldAddr rfl) (by kernel_rfl) rfl ?_
    (first | (refine WL.v (Gv.load1 rfl (by (repeat first | exact .here | apply At.there)) (by first | rfl | assumption)) (by kernel_rfl) rfl ?_) | (refine WL.v (Gv.loadN rfl (by (repeat first | exact .here | apply At.there)) (by rfl) (by rfl)) (by kernel_rfl) rfl ?_) | (refine WL.v (Gv.loadG1 rfl (by assumption) rfl) (by kernel_rfl) rfl ?_) | (refine WL.v (Gv.loadG0 rfl (by assumption) rfl) (by kernel_rfl) rfl ?_) | (refine WL.v (Gv.loadGN rfl (by assumption) rfl) (by kernel_rfl) rfl ?_))
    (first | refine WL.p (Gp.pickT rfl rfl) (by kernel_rfl) rfl ?_ | refine WL.p (Gp.pickF rfl rfl) (by kernel_rfl) rfl ?_)
    refine WL.p (Gp.assign rfl) (by kernel_rfl) rfl ?_
    refine WL.nil ?_
    refine WK.un ?_
    refine WC.ret ?_
    refine WK.un ?_
    exact QF.p1 (.inl rfl) rfl (.tmp rfl) (⟨by simp, rfl, rfl⟩)
theorem Depth_fn (s : Mc) (H : List Own) (hR : MRep CA PA cc pc cn pn c3 mb s H) :
    Fn Tryz.prog 28 #[.pointer (some ⟨mb, 0, none⟩)] G H fun e G' H' => e = .returned (.int .i64 s.frames.length) ∧ G = G' ∧ H' = H := by
  have hR0 := hR
  obtain ⟨FA, fcap, OA, ocap, ox, fx, bs, Hf, hF, hfv, ho, rfl⟩ := hR
  have hlen := hF.len
  refine Fn.enter Tryz.func28 rfl rfl fun w0 => ?_
  refine WC.seq ?_
  refine WC.region ?_
  refine WL.p (Gp.assign rfl) (by kernel_rfl) rfl ?_
  refine WL.nil ?_
  refine WK.un ?_
  refine WC.seq ?_
  refine WC.seq ?_
  refine WC.region ?_
  refine WL.p (Gp.move rfl) (by kernel_rfl) rfl ?_
  refine WL.op (by kernel_rfl) (OW.callK rfl (made_fn G CA PA cc pc cn pn c3 mb s _ hR0) rfl fun v' G' H' h hg => ?_)
  obtain ⟨he, rfl, rfl⟩ := h
  cases he
  cases hm : madeB s with
  | false =>
    refine WL.p (Gp.notB rfl) (by kernel_rfl) rfl ?_
    refine WL.nil ?_
    refine WK.un ?_
    refine WC.cond_true rfl ?_
    refine WC.seq ?_
    refine WC.region ?_
    refine WL.p (Gp.assign rfl) (by kernel_rfl) rfl ?_
    refine WL.nil ?_
    refine WK.un ?_
    have h0 : s.frames.length = 0 := by
      unfold madeB at hm
      simp at hm
      rw [hm.1]; rfl
    refine WC.ret ?_
    refine WK.un ?_
    exact QF.p1 (.inl rfl) rfl (.tmp rfl) (⟨by rw [h0]; rfl, rfl, rfl⟩)
  | true =>
    refine WL.p (Gp.notB rfl) (by kernel_rfl) rfl ?_
    refine WL.nil ?_
    refine WK.un ?_
    refine WC.cond_false rfl ?_
    refine WC.skip ?_
    refine WK.un ?_
    refine WC.seq ?_
    refine WC.region ?_
    refine WL.p (Gp.move rfl) (by kernel_rfl) rfl ?_
    refine WL.p (Gp.nilCheck rfl) (by kernel_rfl) rfl ?_
    refine WL.p (Gp.fieldAddr rfl) (by kernel_rfl) rfl ?_
    (first | (refine WL.v (Gv.load1 rfl (by (repeat first | exact .here | apply At.there)) (by first | rfl | assumption)) (by kernel_rfl) rfl ?_) | (refine WL.v (Gv.loadN rfl (by (repeat first | exact .here | apply At.there)) (by rfl) (by rfl)) (by kernel_rfl) rfl ?_) | (refine WL.v (Gv.loadG1 rfl (by assumption) rfl) (by kernel_rfl) rfl ?_) | (refine WL.v (Gv.loadG0 rfl (by assumption) rfl) (by kernel_rfl) rfl ?_) | (refine WL.v (Gv.loadGN rfl (by assumption) rfl) (by kernel_rfl) rfl ?_))
    (first | refine WL.p (Gp.lenSl rfl) (by kernel_rfl) rfl ?_ | refine WL.p (Gp.lenS rfl) (by kernel_rfl) rfl ?_)
    refine WL.p (Gp.assign rfl) (by kernel_rfl) rfl ?_
    refine WL.nil ?_
    refine WK.un ?_
    refine WC.ret ?_
    refine WK.un ?_
    exact QF.p1 (.inl rfl) rfl (.tmp rfl) (⟨by rw [← hlen]; simp, rfl, rfl⟩)
end
end Go.Proofs.YtbfgljcjblfleaaGreatDoor.Gb
namespace Go.Proofs.YtbfgljcjblfleaaGreatDoor.Gb
open Go Go.Proofs
attribute [local irreducible] Tryz.prog
structure Oc where
  en : Int
  val : V
  out : List V
  steps : Int
def Oc0 : Oc := ⟨0, V0, [], 0⟩
def ocV (o : Oc) (A : Option Addr) (cap : Nat) : Value := .agg #[.int .i64 o.en, .int .i64 o.val.t, .int .i64 o.val.i, .bool o.val.b, .string o.val.s, .slice A o.out.length cap, .int .i64 o.steps]
def Mc.oc (s : Mc) : Oc := ⟨s.en, s.val, s.out, s.steps⟩
def runR (pg : Pg) (n fuel : Int) (args : List V) : Oc := match startR pg n args with
  | none => Oc0
  | some q => let s := (runM pg fuel.toNat (startS q n args)).2
    if s.ended then s.oc else { s.oc with en := 5 }
theorem PgB.codeB {pg : Pg} (h : PgB pg) : ∀ pr ∈ pg.procs, pr.code.length ≤ 90000000000000 := fun pr hp => by have := h.code pr hp; omega
theorem startR_some {pg : Pg} {n : Int} {args : List V} {q : Pr} (h : startR pg n args = some q) : 0 ≤ n ∧ pg.procs[n.toNat]? = some q ∧ sizedP q = true ∧ args.length = q.params.length ∧ AllOK args := by
  unfold startR at h
  split at h
  · cases h
  · rename_i hn
    split at h
    · cases h
    · rename_i q' hq
      split at h
      · cases h
      · rename_i hs
        split at h
        · cases h
        · rename_i hl
          split at h
          · rename_i ha
            cases h
            rw [Bool.and_eq_true, List.all_eq_true] at ha
            exact ⟨by omega, hq, by simpa using hs, Classical.not_not.1 hl, ha.1⟩
          · cases h
theorem startS_inv {pg : Pg} {n : Int} {args : List V} {q : Pr} (h : startR pg n args = some q) : Inv pg (startS q n args) ∧ Live (startS q n args) := by
  obtain ⟨h1, h2, h3, h4, h5⟩ := startR_some h
  have hsz : (q.params.length : Int) ≤ q.locals ∧ q.locals ≤ 64 := by unfold sizedP at h3; simpa using h3
  have hpl : (padded args q.locals).length ≤ 64 := by rw [padded_length (by omega)]; omega
  refine ⟨⟨fun f hf => ?_, by simp [startS], fun f hf => ?_, trivial, by simp [startS], fun v hv => by simp [startS] at hv⟩, fun _ h => by cases h⟩
  · simp only [startS, List.mem_singleton] at hf
    subst hf
    exact ⟨q, h2, by simp⟩
  · simp only [startS, List.mem_singleton] at hf
    subst hf
    refine ⟨by simp, hpl, fun v hv => by simp at hv, fun v hv => ?_⟩
    rcases List.mem_append.1 hv with hv | hv
    · exact .inl (h5 v hv)
    · exact .inr (List.eq_of_mem_replicate hv)
theorem Inv.run {pg : Pg} : ∀ (n : Nat) (s : Mc), Inv pg s → Live s → Inv pg (runM pg n s).2 ∧ Live (runM pg n s).2
  | 0, s, h, hl => ⟨h, hl⟩
  | n + 1, s, h, hl => by
    unfold runM
    split
    · exact ⟨h, hl⟩
    · exact Inv.run n _ h.step hl.step
theorem Live.made {s : Mc} (h : Live s) : madeB s = true := by
  unfold madeB
  cases he : s.ended with
  | true => simp
  | false => have := h he; simp [List.length_pos_iff, this]
theorem Run_fn (G : Gh) (pg : Pg) (CA PA : Option Addr) (cc pc : Nat) (qv : Value) (hC : Sl Kd.val G CA pg.consts) (hP : Sl Kd.prc G PA pg.procs) (hB : PgB pg) (n fuel : Int) (hfu : fuel ≤ 1000000) (AA : Option Addr) (ac : Nat) (args : List V) (Ha : List Own) (hr : Rds G Ha AA (vflat args)) (hal : args.length * 40 ≤ 140737488355328) :
    Fn Tryz.prog 15 #[.agg #[.slice CA pg.consts.length cc, .slice PA pg.procs.length pc, qv], .int .i64 n, .int .i64 fuel, .slice AA args.length ac] G Ha
      fun e G' H' => ∃ A' cap' x', e = .returned (ocV (runR pg n fuel args) A' cap') ∧ G.le G' ∧ VVec A' cap' (runR pg n fuel args).out x' ∧ H' = x' :: Ha := by
  refine Fn.enter Tryz.func15 rfl rfl fun w0 => ?_
  refine WC.seq ?_
  refine WC.region ?_
  refine WL.op (by kernel_rfl) (OW.box rfl rfl fun b17 => ?_)
  refine WL.op (by kernel_rfl) (OW.alloc rfl fun b18 => ?_)
  refine WL.nil ?_
  refine WK.un ?_
  refine WC.seq ?_
  refine WC.region ?_
  refine WL.v (Gv.loadN rfl (by (repeat first | exact .here | apply At.there)) rfl rfl) (by kernel_rfl) rfl ?_
  refine WL.p (Gp.move rfl) (by kernel_rfl) rfl ?_
  refine WL.p (Gp.move rfl) (by kernel_rfl) rfl ?_
  cases hs : startR pg n args with
  | none =>
    refine WL.op (by kernel_rfl) (OW.callR rfl (Pk.perm (by repeat (first | exact Pk.nil | exact Pk.all | exact Pk.app | exact Pk.appR | with_reducible apply Pk.na | (apply Pk.cons; (repeat first | exact .here | apply Rem.there | apply Rem.app)) | apply Pk.skip | apply Pk.skipA))) ((Start_fn G pg CA PA cc pc qv hC hP hB n AA ac args Ha hr hal).mono fun e G' H' h => (by rw [hs] at h; exact h)) rfl (by intro e G' H' h; repeat (first | exact ⟨_, h.1⟩ | (obtain ⟨_, h⟩ := h))) fun v' G' H' h hg => ?_)
    obtain ⟨he, rfl, rfl⟩ := h
    cases he
    refine WL.swap ?_
    refine WL.p (Gp.move rfl) (by kernel_rfl) rfl ?_
    refine WL.p (Gp.extract rfl rfl) (by kernel_rfl) rfl ?_
    refine WL.p (Gp.extract rfl rfl) (by kernel_rfl) rfl ?_
    refine WL.p (Gp.assign rfl) (by kernel_rfl) rfl ?_
    refine WL.p (Gp.assign rfl) (by kernel_rfl) rfl ?_
    refine WL.nil ?_
    refine WK.un ?_
    refine WC.seq ?_
    refine WC.seq ?_
    refine WC.region ?_
    refine WL.p (Gp.move rfl) (by kernel_rfl) rfl ?_
    (first | refine WL.p (Gp.neI rfl rfl) (by kernel_rfl) rfl ?_ | refine WL.p (Gp.neS rfl rfl) (by kernel_rfl) rfl ?_ | refine WL.p (Gp.neB rfl rfl) (by kernel_rfl) rfl ?_)
    refine WL.nil ?_
    refine WK.un ?_
    refine WC.cond_true rfl ?_
    refine WC.seq ?_
    refine WC.region ?_
    refine WL.p (Gp.build rfl rfl) (by kernel_rfl) rfl ?_
    refine WL.op (by kernel_rfl) (OW.store rfl rfl (by (repeat first | exact .here | apply At.there)) rfl (by rfl) (by rfl) (by kernel_rfl) (by rfl) ?_ rfl)
    refine WL.nil ?_
    refine WK.un ?_
    refine WC.nothing ?_
    rw [show runR pg n fuel args = Oc0 by rw [runR, hs]]
    refine WC.ret ?_
    refine WK.un ?_
    exact QF.p1 (.inl rfl) rfl (.cell rfl inferInstance inferInstance (by (repeat first | exact .here | apply At.there)) rfl rfl) (⟨none, 0, .spare 0 0 0, rfl, Gh.le_refl _, ⟨by simp [vflat, Oc0], .inl ⟨rfl, rfl, rfl, rfl⟩⟩, rfl⟩)
  | some q =>
    obtain ⟨hI, hL⟩ := startS_inv hs
    have hIr := Inv.run fuel.toNat _ hI hL
    refine WL.op (by kernel_rfl) (OW.callR rfl (Pk.perm (by repeat (first | exact Pk.nil | exact Pk.all | exact Pk.app | exact Pk.appR | with_reducible apply Pk.na | (apply Pk.cons; (repeat first | exact .here | apply Rem.there | apply Rem.app)) | apply Pk.skip | apply Pk.skipA))) ((Start_fn G pg CA PA cc pc qv hC hP hB n AA ac args Ha hr hal).mono fun e G' H' h => (by rw [hs] at h; exact h)) rfl (by rintro e G' H' ⟨_, _, _, _, _, _, h, _⟩; exact ⟨_, h⟩) fun v' G' H' h hg => ?_)
    obtain ⟨mb, CA', PA', cc', pc', H1, he, hg1, hC1, hP1, hR, rfl⟩ := h
    cases he
    refine WL.swap ?_
    refine WL.p (Gp.move rfl) (by kernel_rfl) rfl ?_
    refine WL.p (Gp.extract rfl rfl) (by kernel_rfl) rfl ?_
    refine WL.p (Gp.extract rfl rfl) (by kernel_rfl) rfl ?_
    refine WL.p (Gp.assign rfl) (by kernel_rfl) rfl ?_
    refine WL.p (Gp.assign rfl) (by kernel_rfl) rfl ?_
    refine WL.nil ?_
    refine WK.un ?_
    refine WC.seq ?_
    refine WC.seq ?_
    refine WC.region ?_
    refine WL.p (Gp.move rfl) (by kernel_rfl) rfl ?_
    (first | refine WL.p (Gp.neI rfl rfl) (by kernel_rfl) rfl ?_ | refine WL.p (Gp.neS rfl rfl) (by kernel_rfl) rfl ?_ | refine WL.p (Gp.neB rfl rfl) (by kernel_rfl) rfl ?_)
    refine WL.nil ?_
    refine WK.un ?_
    refine WC.cond_false rfl ?_
    refine WC.skip ?_
    refine WK.un ?_
    refine WC.seq ?_
    refine WC.region ?_
    refine WL.p (Gp.move rfl) (by kernel_rfl) rfl ?_
    refine WL.p (Gp.move rfl) (by kernel_rfl) rfl ?_
    refine WL.op (by kernel_rfl) (OW.callK rfl (Step_fn G' pg CA' PA' cc' pc' hC1 hP1 hB.codeB mb (.slice none 0 0) (startS q n args) H1 hR hI hL fuel hfu (by simp [startS])) rfl fun v' G' H' h hg => ?_)
    obtain ⟨he, rfl, hR2⟩ := h
    cases he
    refine WL.swap ?_
    refine WL.nil ?_
    refine WK.un ?_
    obtain ⟨t, ht⟩ : ∃ t, t = (runM pg fuel.toNat (startS q n args)).2 := ⟨_, rfl⟩
    rw [← ht] at hIr hR2
    have hrun : runR pg n fuel args = if t.ended then t.oc else { t.oc with en := 5 } := by rw [runR, hs, ht]
    have hout : (runR pg n fuel args).out = t.out := by rw [hrun]; split <;> rfl
    rw [hrun]
    obtain ⟨FA, fcap, OA, ocap, ox, fx, bs, Hf, hF, hfv, ho, rfl⟩ := id hR2
    refine WC.seq ?_
    refine WC.region ?_
    refine WL.p (Gp.move rfl) (by kernel_rfl) rfl ?_
    refine WL.op (by kernel_rfl) (OW.callK rfl (Outcome_fn G' CA' PA' cc' pc' pg.consts.length pg.procs.length (.slice none 0 0) mb _ _ hR2 hIr.2.made (by have := hIr.1.out.1; omega)) rfl fun v' G' H' h hg => ?_)
    obtain ⟨A', cap', x', he, rfl, hx', rfl⟩ := h
    cases he
    refine WL.op (by kernel_rfl) (OW.alloc rfl fun b20 => ?_)
    refine WL.op (by kernel_rfl) (OW.store rfl rfl (by (repeat first | exact .here | apply At.there)) rfl (by rfl) (by rfl) (by kernel_rfl) (by rfl) ?_ rfl)
    refine WL.nil ?_
    refine WK.un ?_
    refine WC.front (H' := [.blk b20 (.cells #[.int .i64 t.en, .int .i64 t.val.t, .int .i64 t.val.i, .bool t.val.b, .string t.val.s, .slice A' t.out.length cap', .int .i64 t.steps] 51 (0, 0)), .blk b18 (.cells #[.int .i64 0, .int .i64 0, .int .i64 0, .bool false, .string ⟨#[]⟩, .slice none 0 0, .int .i64 0] 51 (0, 0)), mcB mb (.slice CA' pg.consts.length cc') (.slice PA' pg.procs.length pc') (.slice none 0 0) FA bs.reverse.length fcap t.en t.val OA t.out.length ocap t.steps t.ended, x']) (by repeat (first | exact Pk.nil | exact Pk.all | exact Pk.app | exact Pk.appR | with_reducible apply Pk.na | (apply Pk.cons; (repeat first | exact .here | apply Rem.there | apply Rem.app)) | apply Pk.skip | apply Pk.skipA)) ?_
    refine WC.seq ?_
    refine WC.seq ?_
    refine WC.region ?_
    refine WL.p (Gp.move rfl) (by kernel_rfl) rfl ?_
    refine WL.p (Gp.nilCheck rfl) (by kernel_rfl) rfl ?_
    refine WL.p (Gp.fieldAddr rfl) (by kernel_rfl) rfl ?_
    (first | (refine WL.v (Gv.load1 rfl (by (repeat first | exact .here | apply At.there)) (by first | rfl | assumption)) (by kernel_rfl) rfl ?_) | (refine WL.v (Gv.loadN rfl (by (repeat first | exact .here | apply At.there)) (by rfl) (by rfl)) (by kernel_rfl) rfl ?_) | (refine WL.v (Gv.loadG1 rfl (by assumption) rfl) (by kernel_rfl) rfl ?_) | (refine WL.v (Gv.loadG0 rfl (by assumption) rfl) (by kernel_rfl) rfl ?_) | (refine WL.v (Gv.loadGN rfl (by assumption) rfl) (by kernel_rfl) rfl ?_))
    cases hen : t.ended with
    | true =>
      refine WL.p (Gp.notB rfl) (by kernel_rfl) rfl ?_
      refine WL.nil ?_
      refine WK.un ?_
      refine WC.cond_false rfl ?_
      refine WC.skip ?_
      refine WK.un ?_
      refine WC.seq ?_
      refine WC.region ?_
      refine WL.v (Gv.loadN rfl (by (repeat first | exact .here | apply At.there)) rfl rfl) (by kernel_rfl) rfl ?_
      refine WL.op (by kernel_rfl) (OW.store rfl rfl (by (repeat first | exact .here | apply At.there)) rfl (by rfl) (by rfl) (by kernel_rfl) (by rfl) ?_ rfl)
      refine WL.nil ?_
      refine WK.un ?_
      refine WC.ret ?_
      refine WK.un ?_
      exact QF.p1 (.inl rfl) rfl (.cell rfl inferInstance inferInstance (by (repeat first | exact .here | apply At.there)) rfl rfl) (⟨A', cap', x', rfl, hg1, hx', rfl⟩)
    | false =>
      refine WL.p (Gp.notB rfl) (by kernel_rfl) rfl ?_
      refine WL.nil ?_
      refine WK.un ?_
      refine WC.cond_true rfl ?_
      refine WC.region ?_
      refine WL.p (Gp.fieldAddr rfl) (by kernel_rfl) rfl ?_
      refine WL.op (by kernel_rfl) (OW.store rfl rfl (by (repeat first | exact .here | apply At.there)) rfl (by rfl) (by rfl) (by kernel_rfl) (by rfl) ?_ rfl)
      refine WL.nil ?_
      refine WK.un ?_
      refine WC.seq ?_
      refine WC.region ?_
      refine WL.v (Gv.loadN rfl (by (repeat first | exact .here | apply At.there)) rfl rfl) (by kernel_rfl) rfl ?_
      refine WL.op (by kernel_rfl) (OW.store rfl rfl (by (repeat first | exact .here | apply At.there)) rfl (by rfl) (by rfl) (by kernel_rfl) (by rfl) ?_ rfl)
      refine WL.nil ?_
      refine WK.un ?_
      refine WC.ret ?_
      refine WK.un ?_
      exact QF.p1 (.inl rfl) rfl (.cell rfl inferInstance inferInstance (by (repeat first | exact .here | apply At.there)) rfl rfl) (⟨A', cap', x', rfl, hg1, hx', rfl⟩)
end Go.Proofs.YtbfgljcjblfleaaGreatDoor.Gb
namespace Go.Proofs.YtbfgljcjblfleaaGreatDoor.Gb
open Go Go.Proofs
section
variable {L : List (Nat × Value)} {d : Option Tmp} {ty : TypeId} {pos : String} {af : Array Edge} {gu : Option (Nat × Bool)}
end
attribute [local irreducible] Tryz.prog
def sameO (o p : Oc) : Bool := decide (o.en = p.en ∧ o.val = p.val ∧ o.steps = p.steps ∧ o.out = p.out)
end Go.Proofs.YtbfgljcjblfleaaGreatDoor.Gb
namespace Go.Proofs.YtbfgljcjblfleaaGreatDoor.Gb
open Go Go.Proofs
attribute [local irreducible] Tryz.prog
def topVars (s : Mc) : List V := match s.frames with | [] => [] | f :: _ => f.vars
def topStack (s : Mc) : List V := match s.frames with | [] => [] | f :: _ => f.stack
def spotR (s : Mc) : Int × Int := match s.frames with | [] => (0, 0) | f :: _ => (f.proc, f.pc)
section
variable (G : Gh) (CA PA : Option Addr) (cc pc cn pn : Nat) (c3 : Value) (mb : Nat)
theorem Spot_fn (s : Mc) (H : List Own) (hR : MRep CA PA cc pc cn pn c3 mb s H) (hm : madeB s = true) (hb : s.frames.length ≤ 1000000) :
    Fn Tryz.prog 8 #[.pointer (some ⟨mb, 0, none⟩)] G H fun e G' H' => e = .returned (.agg #[.int .i64 (spotR s).1, .int .i64 (spotR s).2]) ∧ G = G' ∧ H' = H := by
  have hR0 := hR
  obtain ⟨FA, fcap, OA, ocap, ox, fx, bs, Hf, hF, hfv, ho, rfl⟩ := hR
  obtain ⟨rv, hrev⟩ : ∃ rv, bs.reverse = rv := ⟨_, rfl⟩
  rw [hrev] at hfv hR0 ⊢
  refine Fn.enter Tryz.func8 rfl rfl fun w0 => ?_
  refine WC.seq ?_
  refine WC.region ?_
  refine WL.op (by kernel_rfl) (OW.alloc rfl fun b1 => ?_)
  refine WL.nil ?_
  refine WK.un ?_
  refine WC.seq ?_
  refine WC.seq ?_
  refine WC.region ?_
  refine WL.p (Gp.move rfl) (by kernel_rfl) rfl ?_
  refine WL.op (by kernel_rfl) (OW.callR rfl (perm_at .here |>.trans (List.perm_append_comm (l₁ := [_]))) (made_fn G CA PA cc pc cn pn c3 mb s _ hR0) rfl (by intro e G' H' h; repeat (first | exact ⟨_, h.1⟩ | (obtain ⟨_, h⟩ := h))) fun v' G' H' h hg => ?_)
  obtain ⟨he, rfl, rfl⟩ := h
  cases he
  refine WL.swap ?_
  rw [hm]
  refine WL.p (Gp.notB rfl) (by kernel_rfl) rfl ?_
  refine WL.p (Gp.move rfl) (by kernel_rfl) rfl ?_
  refine WL.p (Gp.move rfl) (by kernel_rfl) rfl ?_
  refine WL.p (Gp.nilCheck rfl) (by kernel_rfl) rfl ?_
  refine WL.p (Gp.fieldAddr rfl) (by kernel_rfl) rfl ?_
  (first | (refine WL.v (Gv.load1 rfl (by (repeat first | exact .here | apply At.there)) (by first | rfl | assumption)) (by kernel_rfl) rfl ?_) | (refine WL.v (Gv.loadN rfl (by (repeat first | exact .here | apply At.there)) (by rfl) (by rfl)) (by kernel_rfl) rfl ?_) | (refine WL.v (Gv.loadG1 rfl (by assumption) rfl) (by kernel_rfl) rfl ?_) | (refine WL.v (Gv.loadG0 rfl (by assumption) rfl) (by kernel_rfl) rfl ?_) | (refine WL.v (Gv.loadGN rfl (by assumption) rfl) (by kernel_rfl) rfl ?_))
  (first | refine WL.p (Gp.lenSl rfl) (by kernel_rfl) rfl ?_ | refine WL.p (Gp.lenS rfl) (by kernel_rfl) rfl ?_)
  obtain ⟨frames, out, steps, en, val, ended⟩ := s
  cases hF with
  | nil =>
    obtain rfl : rv = [] := hrev.symm
    refine WL.p (Gp.eqI' rfl rfl (show (((List.reverse ([] : List Nat)).length : Int) == 0) = true by rfl)) (by kernel_rfl) rfl ?_
    (first | refine WL.p (Gp.pickT rfl rfl) (by kernel_rfl) rfl ?_ | refine WL.p (Gp.pickF rfl rfl) (by kernel_rfl) rfl ?_)
    refine WL.nil ?_
    refine WK.un ?_
    refine WC.cond_true rfl ?_
    refine WC.seq ?_
    refine WC.region ?_
    refine WL.p (Gp.build rfl rfl) (by kernel_rfl) rfl ?_
    refine WL.op (by kernel_rfl) (OW.store rfl rfl (by (repeat first | exact .here | apply At.there)) rfl (by rfl) (by rfl) (by kernel_rfl) (by rfl) ?_ rfl)
    refine WL.nil ?_
    refine WK.un ?_
    refine WC.ret ?_
    refine WK.un ?_
    exact QF.p1 (.inl rfl) rfl (.cell rfl inferInstance inferInstance (by (repeat first | exact .here | apply At.there)) rfl rfl) (⟨rfl, rfl, rfl⟩)
  | cons hx hy hF' =>
    rename_i f fs b bs H' A B cap cm x y
    have hlen := hF'.len
    obtain rfl : rv = bs.reverse ++ [b] := by rw [← hrev, List.reverse_cons]
    refine WL.p (Gp.eqI' rfl rfl (show (((bs.reverse ++ [b]).length : Int) == 0) = false by simp; omega)) (by kernel_rfl) rfl ?_
    (first | refine WL.p (Gp.pickT rfl rfl) (by kernel_rfl) rfl ?_ | refine WL.p (Gp.pickF rfl rfl) (by kernel_rfl) rfl ?_)
    refine WL.nil ?_
    refine WK.un ?_
    refine WC.cond_false rfl ?_
    refine WC.skip ?_
    refine WK.un ?_
    have htop := top_fn G mb (.slice CA cn cc) (.slice PA pn pc) c3 FA fcap en val OA out.length ocap steps ended bs.reverse b fx hfv (by simp at hb ⊢; omega)
    refine WC.seq ?_
    refine WC.drawS (Hs := [mcB mb (.slice CA cn cc) (.slice PA pn pc) c3 FA (bs.reverse ++ [b]).length fcap en val OA out.length ocap steps ended, fx, frB b A f.stack.length cap f.proc f.pc B f.vars.length cm]) mixed (by repeat (first | exact Pk.nil | exact Pk.all | exact Pk.app | exact Pk.appR | with_reducible apply Pk.na | (apply Pk.cons; (repeat first | exact .here | apply Rem.there | apply Rem.app)) | apply Pk.skip | apply Pk.skipA)) ?_
    refine WB.tp (i := 0) rfl (by kernel_rfl) (by kernel_rfl) rfl (Gp.move rfl) ?_
    refine WB.tp (i := 5) rfl (by kernel_rfl) (by kernel_rfl) rfl (Gp.move rfl) ?_
    refine WB.one (i := 1) (by kernel_rfl) rfl (by kernel_rfl) (OW.callK rfl (htop) rfl fun v' G' H' h hg => ?_)
    obtain ⟨he, rfl, rfl⟩ := h
    cases he
    refine ⟨fun w hw => hw.pk (by repeat (first | exact Pk.nil | exact Pk.all | exact Pk.app | exact Pk.appR | with_reducible apply Pk.na | (apply Pk.cons; (repeat first | exact .here | apply Rem.there | apply Rem.app)) | apply Pk.skip | apply Pk.skipA)), ?_⟩
    refine WB.tp (i := 2) rfl (by kernel_rfl) (by kernel_rfl) rfl (Gp.nilCheck rfl) ?_
    refine WB.tp (i := 3) rfl (by kernel_rfl) (by kernel_rfl) rfl (Gp.fieldAddr rfl) ?_
    (first | (refine WB.tv (i := 4) rfl (by kernel_rfl) (by kernel_rfl) rfl (Gv.load1 rfl (by (repeat first | exact .here | apply At.there)) (by first | rfl | assumption)) ?_) | (refine WB.tv (i := 4) rfl (by kernel_rfl) (by kernel_rfl) rfl (Gv.loadN rfl (by (repeat first | exact .here | apply At.there)) (by rfl) (by rfl)) ?_) | (refine WB.tv (i := 4) rfl (by kernel_rfl) (by kernel_rfl) rfl (Gv.loadG1 rfl (by assumption) rfl) ?_) | (refine WB.tv (i := 4) rfl (by kernel_rfl) (by kernel_rfl) rfl (Gv.loadG0 rfl (by assumption) rfl) ?_) | (refine WB.tv (i := 4) rfl (by kernel_rfl) (by kernel_rfl) rfl (Gv.loadGN rfl (by assumption) rfl) ?_))
    refine WB.one (i := 6) (by kernel_rfl) rfl (by kernel_rfl) (OW.callK rfl (htop) rfl fun v' G' H' h hg => ?_)
    obtain ⟨he, rfl, rfl⟩ := h
    cases he
    refine ⟨fun w hw => hw.pk (by repeat (first | exact Pk.nil | exact Pk.all | exact Pk.app | exact Pk.appR | with_reducible apply Pk.na | (apply Pk.cons; (repeat first | exact .here | apply Rem.there | apply Rem.app)) | apply Pk.skip | apply Pk.skipA)), ?_⟩
    refine WB.tp (i := 7) rfl (by kernel_rfl) (by kernel_rfl) rfl (Gp.nilCheck rfl) ?_
    refine WB.tp (i := 8) rfl (by kernel_rfl) (by kernel_rfl) rfl (Gp.fieldAddr rfl) ?_
    (first | (refine WB.tv (i := 9) rfl (by kernel_rfl) (by kernel_rfl) rfl (Gv.load1 rfl (by (repeat first | exact .here | apply At.there)) (by first | rfl | assumption)) ?_) | (refine WB.tv (i := 9) rfl (by kernel_rfl) (by kernel_rfl) rfl (Gv.loadN rfl (by (repeat first | exact .here | apply At.there)) (by rfl) (by rfl)) ?_) | (refine WB.tv (i := 9) rfl (by kernel_rfl) (by kernel_rfl) rfl (Gv.loadG1 rfl (by assumption) rfl) ?_) | (refine WB.tv (i := 9) rfl (by kernel_rfl) (by kernel_rfl) rfl (Gv.loadG0 rfl (by assumption) rfl) ?_) | (refine WB.tv (i := 9) rfl (by kernel_rfl) (by kernel_rfl) rfl (Gv.loadGN rfl (by assumption) rfl) ?_))
    refine WB.tp (i := 10) rfl (by kernel_rfl) (by kernel_rfl) rfl (Gp.build rfl rfl) ?_
    refine WB.one (i := 11) (by kernel_rfl) rfl (by kernel_rfl) (OW.store rfl rfl (by (repeat first | exact .here | apply At.there)) rfl (by rfl) (by rfl) (by kernel_rfl) (by rfl) ?_ rfl)
    refine ⟨fun w hw => hw.pk (by repeat (first | exact Pk.nil | exact Pk.all | exact Pk.app | exact Pk.appR | with_reducible apply Pk.na | (apply Pk.cons; (repeat first | exact .here | apply Rem.there | apply Rem.app)) | apply Pk.skip | apply Pk.skipA)), ?_⟩
    refine WB.done (by kernel_rfl) ?_
    refine WK.un ?_
    refine WC.ret ?_
    refine WK.un ?_
    exact QF.p1 (.inl rfl) rfl (.cell rfl inferInstance inferInstance (by (repeat first | exact .here | apply At.there)) rfl rfl) (⟨rfl, rfl, rfl⟩)
theorem Vars_fn (s : Mc) (H : List Own) (hR : MRep CA PA cc pc cn pn c3 mb s H) (hb : s.frames.length ≤ 1000000) (hbv : (topVars s).length * 40 ≤ 140737488355328) :
    Fn Tryz.prog 11 #[.pointer (some ⟨mb, 0, none⟩)] G H fun e G' H' => ∃ A' cap' x', e = .returned (.slice A' (topVars s).length cap') ∧ G = G' ∧ VVec A' cap' (topVars s) x' ∧ H' = x' :: H := by
  have hR0 := hR
  obtain ⟨FA, fcap, OA, ocap, ox, fx, bs, Hf, hF, hfv, ho, rfl⟩ := hR
  obtain ⟨rv, hrev⟩ : ∃ rv, bs.reverse = rv := ⟨_, rfl⟩
  rw [hrev] at hfv hR0 ⊢
  refine Fn.enter Tryz.func11 rfl rfl fun w0 => ?_
  refine WC.seq ?_
  refine WC.region ?_
  refine WL.p (Gp.assign rfl) (by kernel_rfl) rfl ?_
  refine WL.nil ?_
  refine WK.un ?_
  refine WC.seq ?_
  refine WC.seq ?_
  refine WC.region ?_
  refine WL.p (Gp.move rfl) (by kernel_rfl) rfl ?_
  refine WL.op (by kernel_rfl) (OW.callK rfl (Depth_fn G CA PA cc pc cn pn c3 mb s _ hR0) rfl fun v' G' H' h hg => ?_)
  obtain ⟨he, rfl, rfl⟩ := h
  cases he
  obtain ⟨frames, out, steps, en, val, ended⟩ := s
  cases hF with
  | nil =>
    obtain rfl : rv = [] := hrev.symm
    refine WL.p (Gp.eqI' rfl rfl (show (((([] : List Fr)).length : Int) == 0) = true by rfl)) (by kernel_rfl) rfl ?_
    refine WL.nil ?_
    refine WK.un ?_
    refine WC.cond_true rfl ?_
    refine WC.seq ?_
    refine WC.region ?_
    refine WL.p (Gp.assign rfl) (by kernel_rfl) rfl ?_
    refine WL.nil ?_
    refine WK.un ?_
    refine WC.ret ?_
    refine WK.un ?_
    refine WK.nothing ?_
    exact QF.p1 (.inl rfl) rfl (.tmp rfl) (⟨none, 0, .spare 0 0 0, rfl, rfl, ⟨by simp [topVars, vflat], .inl ⟨rfl, rfl, rfl, rfl⟩⟩, rfl⟩) (by repeat (first | exact Pk.nil | exact Pk.all | exact Pk.app | exact Pk.appR | with_reducible apply Pk.na | (apply Pk.cons; (repeat first | exact .here | apply Rem.there | apply Rem.app)) | apply Pk.skip | apply Pk.skipA))
  | cons hx hy hF' =>
    rename_i f fs b bs H' A B cap cm x y
    have hlen := hF'.len
    obtain rfl : rv = bs.reverse ++ [b] := by rw [← hrev, List.reverse_cons]
    refine WL.p (Gp.eqI' rfl rfl (show (((f :: fs).length : Int) == 0) = false by simp; omega)) (by kernel_rfl) rfl ?_
    refine WL.nil ?_
    refine WK.un ?_
    refine WC.cond_false rfl ?_
    refine WC.skip ?_
    refine WK.un ?_
    refine WC.seq ?_
    refine WC.region ?_
    refine WL.p (Gp.move rfl) (by kernel_rfl) rfl ?_
    refine WL.op (by kernel_rfl) (OW.callK rfl (top_fn G mb (.slice CA cn cc) (.slice PA pn pc) c3 FA fcap en val OA out.length ocap steps ended bs.reverse b fx hfv (by simp at hb ⊢; omega)) rfl fun v' G' H' h hg => ?_)
    obtain ⟨he, rfl, rfl⟩ := h
    cases he
    refine WL.p (Gp.nilCheck rfl) (by kernel_rfl) rfl ?_
    refine WL.p (Gp.fieldAddr rfl) (by kernel_rfl) rfl ?_
    (first | (refine WL.v (Gv.load1 rfl (by (repeat first | exact .here | apply At.there)) (by first | rfl | assumption)) (by kernel_rfl) rfl ?_) | (refine WL.v (Gv.loadN rfl (by (repeat first | exact .here | apply At.there)) (by rfl) (by rfl)) (by kernel_rfl) rfl ?_) | (refine WL.v (Gv.loadG1 rfl (by assumption) rfl) (by kernel_rfl) rfl ?_) | (refine WL.v (Gv.loadG0 rfl (by assumption) rfl) (by kernel_rfl) rfl ?_) | (refine WL.v (Gv.loadGN rfl (by assumption) rfl) (by kernel_rfl) rfl ?_))
    refine WL.op (by kernel_rfl) (OW.callK rfl (clone_vals G [y] B f.vars.length cm (vflat f.vars) (Vec.rds hy .here) (vflat_length _) (vflat_one _) hy.none_zero (by simpa [topVars] using hbv)) rfl fun v' G' H' h hg => ?_)
    obtain ⟨A', cap', x', he, rfl, rfl, hx'⟩ := h
    cases he
    refine WL.p (Gp.assign rfl) (by kernel_rfl) rfl ?_
    refine WL.nil ?_
    refine WK.un ?_
    refine WC.ret ?_
    refine WK.un ?_
    exact QF.p1 (.inl rfl) rfl (.tmp rfl) (⟨A', cap', x', rfl, rfl, hx', rfl⟩)
theorem Stack_fn (s : Mc) (H : List Own) (hR : MRep CA PA cc pc cn pn c3 mb s H) (hb : s.frames.length ≤ 1000000) (hbv : (topStack s).length * 40 ≤ 140737488355328) :
    Fn Tryz.prog 12 #[.pointer (some ⟨mb, 0, none⟩)] G H fun e G' H' => ∃ A' cap' x', e = .returned (.slice A' (topStack s).length cap') ∧ G = G' ∧ VVec A' cap' (topStack s) x' ∧ H' = x' :: H := by
  have hR0 := hR
  obtain ⟨FA, fcap, OA, ocap, ox, fx, bs, Hf, hF, hfv, ho, rfl⟩ := hR
  obtain ⟨rv, hrev⟩ : ∃ rv, bs.reverse = rv := ⟨_, rfl⟩
  rw [hrev] at hfv hR0 ⊢
  refine Fn.enter Tryz.func12 rfl rfl fun w0 => ?_
  refine WC.seq ?_
  refine WC.region ?_
  refine WL.p (Gp.assign rfl) (by kernel_rfl) rfl ?_
  refine WL.nil ?_
  refine WK.un ?_
  refine WC.seq ?_
  refine WC.seq ?_
  refine WC.region ?_
  refine WL.p (Gp.move rfl) (by kernel_rfl) rfl ?_
  refine WL.op (by kernel_rfl) (OW.callK rfl (Depth_fn G CA PA cc pc cn pn c3 mb s _ hR0) rfl fun v' G' H' h hg => ?_)
  obtain ⟨he, rfl, rfl⟩ := h
  cases he
  obtain ⟨frames, out, steps, en, val, ended⟩ := s
  cases hF with
  | nil =>
    obtain rfl : rv = [] := hrev.symm
    refine WL.p (Gp.eqI' rfl rfl (show (((([] : List Fr)).length : Int) == 0) = true by rfl)) (by kernel_rfl) rfl ?_
    refine WL.nil ?_
    refine WK.un ?_
    refine WC.cond_true rfl ?_
    refine WC.seq ?_
    refine WC.region ?_
    refine WL.p (Gp.assign rfl) (by kernel_rfl) rfl ?_
    refine WL.nil ?_
    refine WK.un ?_
    refine WC.ret ?_
    refine WK.un ?_
    refine WK.nothing ?_
    exact QF.p1 (.inl rfl) rfl (.tmp rfl) (⟨none, 0, .spare 0 0 0, rfl, rfl, ⟨by simp [topStack, vflat], .inl ⟨rfl, rfl, rfl, rfl⟩⟩, rfl⟩) (by repeat (first | exact Pk.nil | exact Pk.all | exact Pk.app | exact Pk.appR | with_reducible apply Pk.na | (apply Pk.cons; (repeat first | exact .here | apply Rem.there | apply Rem.app)) | apply Pk.skip | apply Pk.skipA))
  | cons hx hy hF' =>
    rename_i f fs b bs H' A B cap cm x y
    have hlen := hF'.len
    obtain rfl : rv = bs.reverse ++ [b] := by rw [← hrev, List.reverse_cons]
    refine WL.p (Gp.eqI' rfl rfl (show (((f :: fs).length : Int) == 0) = false by simp; omega)) (by kernel_rfl) rfl ?_
    refine WL.nil ?_
    refine WK.un ?_
    refine WC.cond_false rfl ?_
    refine WC.skip ?_
    refine WK.un ?_
    refine WC.seq ?_
    refine WC.region ?_
    refine WL.p (Gp.move rfl) (by kernel_rfl) rfl ?_
    refine WL.op (by kernel_rfl) (OW.callK rfl (top_fn G mb (.slice CA cn cc) (.slice PA pn pc) c3 FA fcap en val OA out.length ocap steps ended bs.reverse b fx hfv (by simp at hb ⊢; omega)) rfl fun v' G' H' h hg => ?_)
    obtain ⟨he, rfl, rfl⟩ := h
    cases he
    refine WL.p (Gp.nilCheck rfl) (by kernel_rfl) rfl ?_
    refine WL.p (Gp.fieldAddr rfl) (by kernel_rfl) rfl ?_
    refine WL.p (Gp.fieldAddr rfl) (by kernel_rfl) rfl ?_
    (first | (refine WL.v (Gv.load1 rfl (by (repeat first | exact .here | apply At.there)) (by first | rfl | assumption)) (by kernel_rfl) rfl ?_) | (refine WL.v (Gv.loadN rfl (by (repeat first | exact .here | apply At.there)) (by rfl) (by rfl)) (by kernel_rfl) rfl ?_) | (refine WL.v (Gv.loadG1 rfl (by assumption) rfl) (by kernel_rfl) rfl ?_) | (refine WL.v (Gv.loadG0 rfl (by assumption) rfl) (by kernel_rfl) rfl ?_) | (refine WL.v (Gv.loadGN rfl (by assumption) rfl) (by kernel_rfl) rfl ?_))
    refine WL.op (by kernel_rfl) (OW.callK rfl (clone_vals G [x] A f.stack.length cap (vflat f.stack) (Vec.rds hx .here) (vflat_length _) (vflat_one _) hx.none_zero (by simpa [topStack] using hbv)) rfl fun v' G' H' h hg => ?_)
    obtain ⟨A', cap', x', he, rfl, rfl, hx'⟩ := h
    cases he
    refine WL.p (Gp.assign rfl) (by kernel_rfl) rfl ?_
    refine WL.nil ?_
    refine WK.un ?_
    refine WC.ret ?_
    refine WK.un ?_
    exact QF.p1 (.inl rfl) rfl (.tmp rfl) (⟨A', cap', x', rfl, rfl, hx', rfl⟩)
end
end Go.Proofs.YtbfgljcjblfleaaGreatDoor.Gb
namespace Go.Proofs.YtbfgljcjblfleaaGreatDoor.Gb
open Go Go.Proofs
theorem tys_length (l : List V) : (tys l).length = l.length := by simp [tys]
theorem tys_append (a b : List V) : tys (a ++ b) = tys a ++ tys b := by simp [tys]
theorem tys_at {l : List V} {n : Nat} {v : V} (h : l[n]? = some v) : (tys l)[n]? = some v.t := by simp [tys, h]
theorem tys_set (l : List V) (n : Nat) (v : V) : tys (l.set n v) = (tys l).set n v.t := by simp [tys, List.map_set]
theorem tys_drop (l : List V) (n : Nat) : tys (l.drop n) = (tys l).drop n := by simp [tys, List.map_drop]
theorem tys_take (l : List V) (n : Nat) : tys (l.take n) = (tys l).take n := by simp [tys, List.map_take]
theorem row_in {c : Int} (h : ((rowC c).name != ⟨#[]⟩) = true) : 1 ≤ c ∧ c ≤ 26 := by
  apply Decidable.byContradiction
  intro hc
  have : rowC c = rw0 := by
    unfold rowC
    split
    · rfl
    · rw [List.getElem?_eq_none (by show 27 ≤ c.toNat; omega)]; rfl
  rw [this] at h
  exact absurd h (by decide)
theorem last1 {l : List V} (h : 1 ≤ l.length) : ∃ r v, l = r ++ [v] := ⟨l.dropLast, l.getLast (by intro e; subst e; simp at h), (List.dropLast_concat_getLast _).symm⟩
theorem last2 {l : List V} (h : 2 ≤ l.length) : ∃ r u v, l = r ++ [u, v] := by
  obtain ⟨r, v, rfl⟩ := last1 (l := l) (by omega)
  obtain ⟨r, u, rfl⟩ := last1 (l := r) (by simp at h; omega)
  exact ⟨r, u, v, by simp⟩
theorem pop1_eq (r : List V) (v : V) : pop1 (r ++ [v]) = some (r, v) := by simp [pop1]
theorem pop2_eq (r : List V) (u v : V) : pop2 (r ++ [u, v]) = some (r, u, v) := by simp [pop2]
theorem take_t1 (r : List V) (v : V) : (tys (r ++ [v])).take ((r ++ [v]).length - 1) = tys r := by
  rw [tys_append, List.take_left' (by rw [tys_length]; simp)]
theorem drop_t1 (r : List V) (v : V) : (tys (r ++ [v])).drop ((tys (r ++ [v])).length - 1) = [v.t] := by
  rw [tys_append, List.drop_left' (by rw [List.length_append]; simp [tys])]; rfl
theorem take_t2 (r : List V) (u v : V) : (tys (r ++ [u, v])).take ((r ++ [u, v]).length - 2) = tys r := by
  rw [tys_append, List.take_left' (by rw [tys_length]; simp)]
theorem drop_t2 (r : List V) (u v : V) : (tys (r ++ [u, v])).drop ((tys (r ++ [u, v])).length - 2) = [u.t, v.t] := by
  rw [tys_append, List.drop_left' (by rw [List.length_append]; simp [tys])]; rfl
theorem vOK_of {v : V} (h : valueR v = true) : vOK v = true := by
  obtain ⟨t, i, b, s⟩ := v
  unfold valueR at h
  unfold vOK
  dsimp only at h ⊢
  simp only [Bool.and_eq_true, decide_eq_true_eq] at h
  obtain ⟨h1, h2⟩ := h
  by_cases t1 : t = 1
  · subst t1
    rw [if_pos rfl] at h1 ⊢
    have := of_decide_eq_true h1
    cases this
    rfl
  rw [if_neg t1] at h1 ⊢
  by_cases t2 : t = 2
  · subst t2
    rw [if_pos rfl] at h1 ⊢
    have := of_decide_eq_true h1
    cases this
    rfl
  rw [if_neg t2] at h1 ⊢
  by_cases t3 : t = 3
  · subst t3
    rw [if_pos rfl] at h1 ⊢
    have := of_decide_eq_true h1
    cases this
    simp [h2]
  rw [if_neg t3] at h1; cases h1
def SafeD (o : Ob) (p : Pr) (k : Nat) (l vars : List V) : DR → Prop
  | .halt m => m ≠ 6
  | .go l' k' v' => Way o.wd p (flowOf o.wd p) k' (tys v') (tys l')
  | .print l' v => Way o.wd p (flowOf o.wd p) (k + 1) (tys vars) (tys l')
  | .call q r a n => 0 ≤ n ∧ o.procs[n.toNat]? = some q ∧ tys a = q.params ∧ Way o.wd p (flowOf o.wd p) (k + 1) (tys vars) (tys r ++ if q.result = 0 then [] else [q.result])
  | .leave l' g => tys g = if p.result = 0 then [] else [p.result]
theorem obj_consts {o : Ob} (h : (objAns o).2.2 = 0) : ∀ v ∈ o.consts, valueR v = true := by
  obtain ⟨h1, h2⟩ := objAns_zero h
  unfold objR at h1
  simp only [Bool.and_eq_true] at h1
  exact fun v hv => List.all_eq_true.1 h1.2.1 v hv
set_option maxHeartbeats 4000000 in
theorem safe_do {o : Ob} (h0 : (objAns o).2.2 = 0) (hN : o.needs = []) {pi : Nat} {p : Pr} (hp : o.procs[pi]? = some p) {k : Nat} {l vars : List V} (hw : Way o.wd p (flowOf o.wd p) k (tys vars) (tys l)) (d n : Nat) :
    SafeD o p k l vars (doR ⟨o.consts, o.procs⟩ p l k vars d n) := by
  obtain ⟨hT, hLe⟩ := taken_of h0 hp
  obtain ⟨t, i, hS⟩ := hw.stand hT
  obtain ⟨c, m⟩ := i
  have hi := hS.ins
  have hm := hT.may k _ hi
  unfold mayR at hm
  simp only [Bool.and_eq_true, decide_eq_true_eq, Bool.or_eq_true, beq_iff_eq] at hm
  obtain ⟨hrow, hm0, hm1, hm2⟩ := hm
  obtain ⟨hc1, hc2⟩ := row_in hrow
  have hE := (hT.pok.ins k _ hi).2
  dsimp only at hE hm2 hc1 hc2 hm0
  have hgo : ∀ j : Nat, (j : Int) ∈ nextR (c, m) k → Way o.wd p (flowOf o.wd p) j (varsR (c, m) (wayS (tys vars) (tys l))) ((tys l).take ((tys l).length - (effC o.wd (tys vars) (c, m)).1) ++ (effC o.wd (tys vars) (c, m)).2) := fun j hj => Way.go hT hS hj
  have hbad := hS.bad
  have hk := hS.kinds
  have hvl := hS.vlen
  have hjmp := hS.jumps
  have hret := hS.ret
  have hgive := hS.give
  rw [tys_length] at hvl
  have hsz : ¬ (tys l).length < (effC o.wd (tys vars) (c, m)).1 := fun h => hbad (.inr (.inl h))
  have hhi : ¬ 128 < (tys l).length - (effC o.wd (tys vars) (c, m)).1 + (effC o.wd (tys vars) (c, m)).2.length := fun h => hbad (.inr (.inr h))
  rw [tys_length] at hsz hhi hgo
  clear hS hbad
  obtain ⟨mm, rfl⟩ : ∃ mm : Nat, m = (mm : Int) := ⟨m.toNat, by omega⟩
  have hcc : c = 1 ∨ c = 2 ∨ c = 3 ∨ c = 4 ∨ c = 5 ∨ c = 6 ∨ c = 7 ∨ c = 8 ∨ c = 9 ∨ c = 10 ∨ c = 11 ∨ c = 12 ∨ c = 13 ∨ c = 14 ∨ c = 15 ∨ c = 16 ∨ c = 17 ∨ c = 18 ∨ c = 19 ∨ c = 20 ∨ c = 21 ∨ c = 22 ∨ c = 23 ∨ c = 24 ∨ c = 25 ∨ c = 26 := by omega
  unfold doR
  rw [hi]
  dsimp only
  rcases hcc with rfl | rfl | rfl | rfl | rfl | rfl | rfl | rfl | rfl | rfl | rfl | rfl | rfl | rfl | rfl | rfl | rfl | rfl | rfl | rfl | rfl | rfl | rfl | rfl | rfl | rfl
  · have hlt := hE.const rfl
    rw [Int.toNat_natCast] at hlt
    obtain ⟨v, hv⟩ : ∃ v, o.consts[mm]? = some v := ⟨_, List.getElem?_eq_getElem hlt⟩
    have he : effC o.wd (tys vars) (1, (mm : Int)) = (0, [v.t]) := by
      have hv' : o.wd.consts[mm]? = some v := hv
      unfold effC; simp [hv']
    rw [he] at hsz hhi hgo
    have hok := vOK_of (obj_consts h0 v (List.mem_of_getElem? hv))
    have h1 := hgo (k + 1) (by unfold nextR; simp)
    rw [if_pos rfl]
    unfold constR
    rw [if_neg (by omega), Int.toNat_natCast, hv]
    dsimp only
    rw [if_pos hok]
    unfold layRQ
    rw [if_neg (by simp at hhi; omega)]
    show Way _ _ _ _ _ _
    rw [tys_append]
    have e : l.length - 0 = (tys l).length := by rw [tys_length]; rfl
    dsimp only at h1
    rw [e, List.take_length] at h1
    exact h1
  · have hlt := hE.load rfl
    rw [Int.toNat_natCast] at hlt
    obtain ⟨v, hv⟩ : ∃ v, vars[mm]? = some v := ⟨_, List.getElem?_eq_getElem (by omega)⟩
    have he : effC o.wd (tys vars) (2, (mm : Int)) = (0, [v.t]) := by unfold effC; simp [tys_at hv]
    rw [he] at hsz hhi hgo
    have hnz : v.t ≠ 0 := by
      unfold kindsR at hk
      simpa [wayS, tys_at hv] using hk
    have h1 := hgo (k + 1) (by unfold nextR; simp)
    rw [if_neg (by decide), if_pos rfl]
    unfold loadR
    rw [if_neg (by omega), Int.toNat_natCast, hv]
    dsimp only
    rw [if_neg hnz]
    unfold layRQ
    rw [if_neg (by simp at hhi; omega)]
    show Way _ _ _ _ _ _
    rw [tys_append]
    have e : l.length - 0 = (tys l).length := by rw [tys_length]; rfl
    dsimp only at h1
    rw [e, List.take_length] at h1
    exact h1
  · have hlt := hE.store rfl
    rw [Int.toNat_natCast] at hlt
    have he : effC o.wd (tys vars) (3, (mm : Int)) = (1, []) := rfl
    rw [he] at hsz hhi hgo
    dsimp only at hsz hhi hgo
    obtain ⟨r, v, rfl⟩ := last1 (l := l) (by omega)
    have h1 := hgo (k + 1) (by unfold nextR; simp)
    rw [if_neg (by decide), if_neg (by decide), if_pos rfl]
    unfold storeR
    rw [if_neg (by rw [Int.toNat_natCast]; omega), pop1_eq, Int.toNat_natCast]
    show Way _ _ _ _ _ _
    rw [take_t1, List.append_nil] at h1
    rw [tys_set]
    have ev : varsR (3, (mm : Int)) (wayS (tys vars) (tys (r ++ [v]))) = (tys vars).set mm v.t := by
      unfold varsR
      rw [if_pos rfl]
      have : topS (wayS (tys vars) (tys (r ++ [v]))) = v.t := by
        unfold topS wayS
        simp [tys]
      rw [this]; rfl
    rw [ev] at h1
    exact h1
  · have hmm : mm = 0 := by
      rcases hm2 with h | h
      · exact absurd h (by decide)
      · omega
    subst hmm
    have he : effC o.wd (tys vars) (4, ((0 : Nat) : Int)) = (1, []) := rfl
    rw [he] at hsz hhi hgo hk
    dsimp only at hsz hhi hgo hk
    obtain ⟨r, v, rfl⟩ := last1 (l := l) (by omega)
    rw [drop_t1] at hk
    simp only [Int.reduceEq, ↓reduceIte, Int.natCast_zero, ne_eq, not_true_eq_false]
    unfold plainD plainR
    simp only [Int.reduceEq, ↓reduceIte, or_false, false_or, or_true, true_or]
    have h1 := hgo (k + 1) (by unfold nextR; simp)
    rw [take_t1] at h1
    rw [List.append_nil] at h1
    unfold onA
    rw [pop1_eq]
    exact h1
  · have hlt := hjmp (mm : Int) (by unfold nextR; simp)
    have h1 := hgo mm (by unfold nextR; simp)
    rw [if_neg (by decide), if_neg (by decide), if_neg (by decide), if_pos rfl]
    unfold jumpR
    rw [if_neg (by rw [Int.toNat_natCast]; omega), Int.toNat_natCast]
    show Way _ _ _ _ _ _
    have he : effC o.wd (tys vars) (5, (mm : Int)) = (0, []) := rfl
    rw [he] at h1
    have e : l.length - 0 = (tys l).length := by rw [tys_length]; rfl
    dsimp only at h1
    rw [e, List.take_length, List.append_nil] at h1
    exact h1
  · have hlt := hjmp (mm : Int) (by unfold nextR; simp)
    have he : effC o.wd (tys vars) (6, (mm : Int)) = (1, []) := rfl
    rw [he] at hsz hhi hgo hk
    dsimp only at hsz hhi hgo hk
    obtain ⟨r, v, rfl⟩ := last1 (l := l) (by omega)
    rw [drop_t1] at hk
    have ht : v.t = 2 := by unfold kindsR at hk; simpa [allT] using hk
    have h1 := hgo mm (by unfold nextR; simp)
    have h2 := hgo (k + 1) (by unfold nextR; simp)
    rw [take_t1, List.append_nil] at h1 h2
    rw [if_neg (by decide), if_neg (by decide), if_neg (by decide), if_neg (by decide), if_pos rfl]
    unfold unlessR
    rw [if_neg (by rw [Int.toNat_natCast]; omega)]
    unfold ty1
    rw [pop1_eq]
    dsimp only
    rw [if_pos ht, Int.toNat_natCast]
    show Way _ _ _ _ _ _
    cases v.b with
    | true => exact h2
    | false => exact h1
  · have hlt := hE.call rfl
    rw [Int.toNat_natCast] at hlt
    obtain ⟨q, hq⟩ : ∃ q, o.procs[mm]? = some q := ⟨_, List.getElem?_eq_getElem hlt⟩
    have hq' : o.wd.procs[mm]? = some q := hq
    have he : effC o.wd (tys vars) (7, (mm : Int)) = (q.params.length, if q.result = 0 then [] else [q.result]) := by unfold effC; simp [hq', hdE]
    rw [he] at hsz hhi hgo hk
    dsimp only at hsz hhi hgo hk
    obtain ⟨hTq, _⟩ := taken_of h0 hq
    have hsq : sizedP q = true := by
      unfold sizedP
      have h1 := hTq.pok.par
      have h2 := hTq.pok.loc
      simp [h1, h2]
    have hkt : (tys l).drop (l.length - q.params.length) = q.params := by
      unfold kindsR at hk
      rw [tys_length] at hk
      simpa [hq'] using hk
    have h1 := hgo (k + 1) (by unfold nextR; simp)
    rw [if_neg (by decide), if_neg (by decide), if_neg (by decide), if_neg (by decide), if_neg (by decide), if_pos rfl]
    unfold callD callR
    rw [if_neg (by omega), Int.toNat_natCast, hq]
    dsimp only
    rw [if_neg (by rw [hsq]; simp), if_neg hsz, if_neg (by rw [tys_drop]; exact not_not_intro hkt)]
    by_cases hr : q.result ≠ 0 ∧ 128 ≤ l.length - q.params.length
    · rw [if_neg hr.1] at hhi
      simp at hhi
      omega
    rw [if_neg hr]
    by_cases hd : 64 ≤ d
    · rw [if_pos hd]
      show (4 : Int) ≠ 6
      decide
    rw [if_neg hd]
    refine ⟨by omega, by rw [Int.toNat_natCast]; exact hq, by rw [tys_drop]; exact hkt, ?_⟩
    rw [tys_take]
    exact h1
  · have hlt := hE.outer rfl
    have hn : o.wd.needs = [] := hN
    rw [hn] at hlt
    exact absurd hlt (by simp)
  · have hmm : mm = 0 := by
      rcases hm2 with h | h
      · exact absurd h (by decide)
      · omega
    subst hmm
    have he : effC o.wd (tys vars) (9, ((0 : Nat) : Int)) = (0, []) := rfl
    rw [he] at hsz hhi hgo hk
    dsimp only at hsz hhi hgo hk
    simp only [Int.reduceEq, ↓reduceIte, Int.natCast_zero, ne_eq, not_true_eq_false]
    unfold plainD plainR
    simp only [Int.reduceEq, ↓reduceIte, or_false, false_or, or_true, true_or]
    rw [if_pos (hret rfl)]
    show tys [] = _
    rw [if_pos (hret rfl)]; rfl
  · have hmm : mm = 0 := by
      rcases hm2 with h | h
      · exact absurd h (by decide)
      · omega
    subst hmm
    have he : effC o.wd (tys vars) (10, ((0 : Nat) : Int)) = (1, []) := rfl
    rw [he] at hsz hhi hgo hk
    dsimp only at hsz hhi hgo hk
    obtain ⟨r, v, rfl⟩ := last1 (l := l) (by omega)
    rw [drop_t1] at hk
    simp only [Int.reduceEq, ↓reduceIte, Int.natCast_zero, ne_eq, not_true_eq_false]
    unfold plainD plainR
    simp only [Int.reduceEq, ↓reduceIte, or_false, false_or, or_true, true_or]
    have ht : v.t = p.result := by unfold kindsR at hk; simpa [allT] using hk
    rw [if_neg (hgive rfl)]
    unfold on1 ty1
    rw [pop1_eq]
    dsimp only
    rw [if_pos ht]
    show tys [v] = _
    rw [if_neg (hgive rfl), ← ht]; rfl
  · have hmm : mm = 0 := by
      rcases hm2 with h | h
      · exact absurd h (by decide)
      · omega
    subst hmm
    have he : effC o.wd (tys vars) (11, ((0 : Nat) : Int)) = (1, []) := rfl
    rw [he] at hsz hhi hgo hk
    dsimp only at hsz hhi hgo hk
    obtain ⟨r, v, rfl⟩ := last1 (l := l) (by omega)
    rw [drop_t1] at hk
    simp only [Int.reduceEq, ↓reduceIte, Int.natCast_zero, ne_eq, not_true_eq_false]
    unfold plainD plainR
    simp only [Int.reduceEq, ↓reduceIte, or_false, false_or, or_true, true_or]
    have h1 := hgo (k + 1) (by unfold nextR; simp)
    rw [take_t1] at h1
    rw [List.append_nil] at h1
    unfold onA
    rw [pop1_eq]
    dsimp only
    by_cases hn : 4096 ≤ n
    · rw [if_pos hn]
      show (7 : Int) ≠ 6
      decide
    · rw [if_neg hn]
      exact h1
  · have hmm : mm = 0 := by
      rcases hm2 with h | h
      · exact absurd h (by decide)
      · omega
    subst hmm
    have he : effC o.wd (tys vars) (12, ((0 : Nat) : Int)) = (2, [2]) := rfl
    rw [he] at hsz hhi hgo hk
    dsimp only at hsz hhi hgo hk
    obtain ⟨r, u, v, rfl⟩ := last2 (l := l) (by omega)
    rw [drop_t2] at hk
    simp only [Int.reduceEq, ↓reduceIte, Int.natCast_zero, ne_eq, not_true_eq_false]
    unfold plainD plainR
    simp only [Int.reduceEq, ↓reduceIte, or_false, false_or, or_true, true_or]
    have h1 := hgo (k + 1) (by unfold nextR; simp)
    rw [take_t2] at h1
    have ht : u.t = v.t := by unfold kindsR at hk; simp [allT] at hk; exact hk.1
    unfold onB
    rw [pop2_eq]
    dsimp only
    rw [if_pos ht]
    show Way _ _ _ _ _ _
    rw [tys_append]
    exact h1
  · have hmm : mm = 0 := by
      rcases hm2 with h | h
      · exact absurd h (by decide)
      · omega
    subst hmm
    have he : effC o.wd (tys vars) (13, ((0 : Nat) : Int)) = (2, [2]) := rfl
    rw [he] at hsz hhi hgo hk
    dsimp only at hsz hhi hgo hk
    obtain ⟨r, u, v, rfl⟩ := last2 (l := l) (by omega)
    rw [drop_t2] at hk
    simp only [Int.reduceEq, ↓reduceIte, Int.natCast_zero, ne_eq, not_true_eq_false]
    unfold plainD plainR
    simp only [Int.reduceEq, ↓reduceIte, or_false, false_or, or_true, true_or]
    have h1 := hgo (k + 1) (by unfold nextR; simp)
    rw [take_t2] at h1
    have ht : u.t = v.t := by unfold kindsR at hk; simp [allT] at hk; exact hk.1
    unfold onB
    rw [pop2_eq]
    dsimp only
    rw [if_pos ht]
    show Way _ _ _ _ _ _
    rw [tys_append]
    exact h1
  · have hmm : mm = 0 := by
      rcases hm2 with h | h
      · exact absurd h (by decide)
      · omega
    subst hmm
    have he : effC o.wd (tys vars) (14, ((0 : Nat) : Int)) = (2, [2]) := rfl
    rw [he] at hsz hhi hgo hk
    dsimp only at hsz hhi hgo hk
    obtain ⟨r, u, v, rfl⟩ := last2 (l := l) (by omega)
    rw [drop_t2] at hk
    simp only [Int.reduceEq, ↓reduceIte, Int.natCast_zero, ne_eq, not_true_eq_false]
    unfold plainD plainR
    simp only [Int.reduceEq, ↓reduceIte, or_false, false_or, or_true, true_or]
    have h1 := hgo (k + 1) (by unfold nextR; simp)
    rw [take_t2] at h1
    have ht : ordOK u v := by
      unfold kindsR at hk
      simp [allT] at hk
      unfold ordOK
      omega
    unfold onB
    rw [pop2_eq]
    dsimp only
    rw [if_pos ht]
    show Way _ _ _ _ _ _
    rw [tys_append]
    exact h1
  · have hmm : mm = 0 := by
      rcases hm2 with h | h
      · exact absurd h (by decide)
      · omega
    subst hmm
    have he : effC o.wd (tys vars) (15, ((0 : Nat) : Int)) = (2, [2]) := rfl
    rw [he] at hsz hhi hgo hk
    dsimp only at hsz hhi hgo hk
    obtain ⟨r, u, v, rfl⟩ := last2 (l := l) (by omega)
    rw [drop_t2] at hk
    simp only [Int.reduceEq, ↓reduceIte, Int.natCast_zero, ne_eq, not_true_eq_false]
    unfold plainD plainR
    simp only [Int.reduceEq, ↓reduceIte, or_false, false_or, or_true, true_or]
    have h1 := hgo (k + 1) (by unfold nextR; simp)
    rw [take_t2] at h1
    have ht : ordOK u v := by
      unfold kindsR at hk
      simp [allT] at hk
      unfold ordOK
      omega
    unfold onB
    rw [pop2_eq]
    dsimp only
    rw [if_pos ht]
    show Way _ _ _ _ _ _
    rw [tys_append]
    exact h1
  · have hmm : mm = 0 := by
      rcases hm2 with h | h
      · exact absurd h (by decide)
      · omega
    subst hmm
    have he : effC o.wd (tys vars) (16, ((0 : Nat) : Int)) = (2, [2]) := rfl
    rw [he] at hsz hhi hgo hk
    dsimp only at hsz hhi hgo hk
    obtain ⟨r, u, v, rfl⟩ := last2 (l := l) (by omega)
    rw [drop_t2] at hk
    simp only [Int.reduceEq, ↓reduceIte, Int.natCast_zero, ne_eq, not_true_eq_false]
    unfold plainD plainR
    simp only [Int.reduceEq, ↓reduceIte, or_false, false_or, or_true, true_or]
    have h1 := hgo (k + 1) (by unfold nextR; simp)
    rw [take_t2] at h1
    have ht : ordOK u v := by
      unfold kindsR at hk
      simp [allT] at hk
      unfold ordOK
      omega
    unfold onB
    rw [pop2_eq]
    dsimp only
    rw [if_pos ht]
    show Way _ _ _ _ _ _
    rw [tys_append]
    exact h1
  · have hmm : mm = 0 := by
      rcases hm2 with h | h
      · exact absurd h (by decide)
      · omega
    subst hmm
    have he : effC o.wd (tys vars) (17, ((0 : Nat) : Int)) = (2, [2]) := rfl
    rw [he] at hsz hhi hgo hk
    dsimp only at hsz hhi hgo hk
    obtain ⟨r, u, v, rfl⟩ := last2 (l := l) (by omega)
    rw [drop_t2] at hk
    simp only [Int.reduceEq, ↓reduceIte, Int.natCast_zero, ne_eq, not_true_eq_false]
    unfold plainD plainR
    simp only [Int.reduceEq, ↓reduceIte, or_false, false_or, or_true, true_or]
    have h1 := hgo (k + 1) (by unfold nextR; simp)
    rw [take_t2] at h1
    have ht : ordOK u v := by
      unfold kindsR at hk
      simp [allT] at hk
      unfold ordOK
      omega
    unfold onB
    rw [pop2_eq]
    dsimp only
    rw [if_pos ht]
    show Way _ _ _ _ _ _
    rw [tys_append]
    exact h1
  · have hmm : mm = 0 := by
      rcases hm2 with h | h
      · exact absurd h (by decide)
      · omega
    subst hmm
    have he : effC o.wd (tys vars) (18, ((0 : Nat) : Int)) = (2, [1]) := rfl
    rw [he] at hsz hhi hgo hk
    dsimp only at hsz hhi hgo hk
    obtain ⟨r, u, v, rfl⟩ := last2 (l := l) (by omega)
    rw [drop_t2] at hk
    simp only [Int.reduceEq, ↓reduceIte, Int.natCast_zero, ne_eq, not_true_eq_false]
    unfold plainD plainR
    simp only [Int.reduceEq, ↓reduceIte, or_false, false_or, or_true, true_or]
    have h1 := hgo (k + 1) (by unfold nextR; simp)
    rw [take_t2] at h1
    have ht : u.t = 1 ∧ v.t = 1 := by unfold kindsR at hk; simpa [allT] using hk
    unfold on2 ty2
    rw [pop2_eq]
    dsimp only
    rw [if_pos ht]
    dsimp only
    unfold recR
    split
    · rename_i heq
      split at heq
      · cases heq; show (2 : Int) ≠ 6; decide
      · cases heq
    · rename_i heq
      split at heq
      · cases heq
      · cases heq
        show Way _ _ _ _ _ _
        rw [tys_append]
        exact h1
    · rename_i heq
      split at heq <;> cases heq
    · rename_i heq
      split at heq <;> cases heq
  · have hmm : mm = 0 := by
      rcases hm2 with h | h
      · exact absurd h (by decide)
      · omega
    subst hmm
    have he : effC o.wd (tys vars) (19, ((0 : Nat) : Int)) = (2, [1]) := rfl
    rw [he] at hsz hhi hgo hk
    dsimp only at hsz hhi hgo hk
    obtain ⟨r, u, v, rfl⟩ := last2 (l := l) (by omega)
    rw [drop_t2] at hk
    simp only [Int.reduceEq, ↓reduceIte, Int.natCast_zero, ne_eq, not_true_eq_false]
    unfold plainD plainR
    simp only [Int.reduceEq, ↓reduceIte, or_false, false_or, or_true, true_or]
    have h1 := hgo (k + 1) (by unfold nextR; simp)
    rw [take_t2] at h1
    have ht : u.t = 1 ∧ v.t = 1 := by unfold kindsR at hk; simpa [allT] using hk
    unfold on2 ty2
    rw [pop2_eq]
    dsimp only
    rw [if_pos ht]
    dsimp only
    unfold recR
    split
    · rename_i heq
      split at heq
      · cases heq; show (2 : Int) ≠ 6; decide
      · cases heq
    · rename_i heq
      split at heq
      · cases heq
      · cases heq
        show Way _ _ _ _ _ _
        rw [tys_append]
        exact h1
    · rename_i heq
      split at heq <;> cases heq
    · rename_i heq
      split at heq <;> cases heq
  · have hmm : mm = 0 := by
      rcases hm2 with h | h
      · exact absurd h (by decide)
      · omega
    subst hmm
    have he : effC o.wd (tys vars) (20, ((0 : Nat) : Int)) = (2, [3]) := rfl
    rw [he] at hsz hhi hgo hk
    dsimp only at hsz hhi hgo hk
    obtain ⟨r, u, v, rfl⟩ := last2 (l := l) (by omega)
    rw [drop_t2] at hk
    simp only [Int.reduceEq, ↓reduceIte, Int.natCast_zero, ne_eq, not_true_eq_false]
    unfold plainD plainR
    simp only [Int.reduceEq, ↓reduceIte, or_false, false_or, or_true, true_or]
    have h1 := hgo (k + 1) (by unfold nextR; simp)
    rw [take_t2] at h1
    have ht : u.t = 3 ∧ v.t = 3 := by unfold kindsR at hk; simpa [allT] using hk
    unfold on2 ty2
    rw [pop2_eq]
    dsimp only
    rw [if_pos ht]
    dsimp only
    by_cases hn : 4096 < u.s.size + v.s.size
    · rw [if_pos hn]
      show (3 : Int) ≠ 6
      decide
    · rw [if_neg hn]
      show Way _ _ _ _ _ _
      rw [tys_append]
      exact h1
  · have hmm : mm = 0 := by
      rcases hm2 with h | h
      · exact absurd h (by decide)
      · omega
    subst hmm
    have he : effC o.wd (tys vars) (21, ((0 : Nat) : Int)) = (2, [1]) := rfl
    rw [he] at hsz hhi hgo hk
    dsimp only at hsz hhi hgo hk
    obtain ⟨r, u, v, rfl⟩ := last2 (l := l) (by omega)
    rw [drop_t2] at hk
    simp only [Int.reduceEq, ↓reduceIte, Int.natCast_zero, ne_eq, not_true_eq_false]
    unfold plainD plainR
    simp only [Int.reduceEq, ↓reduceIte, or_false, false_or, or_true, true_or]
    have h1 := hgo (k + 1) (by unfold nextR; simp)
    rw [take_t2] at h1
    have ht : u.t = 1 ∧ v.t = 1 := by unfold kindsR at hk; simpa [allT] using hk
    unfold on2 ty2
    rw [pop2_eq]
    dsimp only
    rw [if_pos ht]
    dsimp only
    unfold recR
    split
    · rename_i heq
      split at heq
      · cases heq; show (2 : Int) ≠ 6; decide
      · cases heq
    · rename_i heq
      split at heq
      · cases heq
      · cases heq
        show Way _ _ _ _ _ _
        rw [tys_append]
        exact h1
    · rename_i heq
      split at heq <;> cases heq
    · rename_i heq
      split at heq <;> cases heq
  · have hmm : mm = 0 := by
      rcases hm2 with h | h
      · exact absurd h (by decide)
      · omega
    subst hmm
    have he : effC o.wd (tys vars) (22, ((0 : Nat) : Int)) = (2, [1]) := rfl
    rw [he] at hsz hhi hgo hk
    dsimp only at hsz hhi hgo hk
    obtain ⟨r, u, v, rfl⟩ := last2 (l := l) (by omega)
    rw [drop_t2] at hk
    simp only [Int.reduceEq, ↓reduceIte, Int.natCast_zero, ne_eq, not_true_eq_false]
    unfold plainD plainR
    simp only [Int.reduceEq, ↓reduceIte, or_false, false_or, or_true, true_or]
    have h1 := hgo (k + 1) (by unfold nextR; simp)
    rw [take_t2] at h1
    have ht : u.t = 1 ∧ v.t = 1 := by unfold kindsR at hk; simpa [allT] using hk
    unfold on2 ty2
    rw [pop2_eq]
    dsimp only
    rw [if_pos ht]
    dsimp only
    unfold recR
    split
    · rename_i heq
      split at heq
      · cases heq; show (2 : Int) ≠ 6; decide
      · cases heq
    · rename_i heq
      split at heq
      · cases heq
      · cases heq
        show Way _ _ _ _ _ _
        rw [tys_append]
        exact h1
    · rename_i heq
      split at heq <;> cases heq
    · rename_i heq
      split at heq <;> cases heq
  · have hmm : mm = 0 := by
      rcases hm2 with h | h
      · exact absurd h (by decide)
      · omega
    subst hmm
    have he : effC o.wd (tys vars) (23, ((0 : Nat) : Int)) = (2, [1]) := rfl
    rw [he] at hsz hhi hgo hk
    dsimp only at hsz hhi hgo hk
    obtain ⟨r, u, v, rfl⟩ := last2 (l := l) (by omega)
    rw [drop_t2] at hk
    simp only [Int.reduceEq, ↓reduceIte, Int.natCast_zero, ne_eq, not_true_eq_false]
    unfold plainD plainR
    simp only [Int.reduceEq, ↓reduceIte, or_false, false_or, or_true, true_or]
    have h1 := hgo (k + 1) (by unfold nextR; simp)
    rw [take_t2] at h1
    have ht : u.t = 1 ∧ v.t = 1 := by unfold kindsR at hk; simpa [allT] using hk
    unfold on2 ty2
    rw [pop2_eq]
    dsimp only
    rw [if_pos ht]
    dsimp only
    unfold recR
    split
    · rename_i heq
      split at heq
      · cases heq; show (2 : Int) ≠ 6; decide
      · cases heq
    · rename_i heq
      split at heq
      · cases heq
      · cases heq
        show Way _ _ _ _ _ _
        rw [tys_append]
        exact h1
    · rename_i heq
      split at heq <;> cases heq
    · rename_i heq
      split at heq <;> cases heq
  · have hmm : mm = 0 := by
      rcases hm2 with h | h
      · exact absurd h (by decide)
      · omega
    subst hmm
    have he : effC o.wd (tys vars) (24, ((0 : Nat) : Int)) = (1, [1]) := rfl
    rw [he] at hsz hhi hgo hk
    dsimp only at hsz hhi hgo hk
    obtain ⟨r, v, rfl⟩ := last1 (l := l) (by omega)
    rw [drop_t1] at hk
    simp only [Int.reduceEq, ↓reduceIte, Int.natCast_zero, ne_eq, not_true_eq_false]
    unfold plainD plainR
    simp only [Int.reduceEq, ↓reduceIte, or_false, false_or, or_true, true_or]
    have h1 := hgo (k + 1) (by unfold nextR; simp)
    rw [take_t1] at h1
    have ht : v.t = 1 := by unfold kindsR at hk; simpa [allT] using hk
    unfold on1 ty1
    rw [pop1_eq]
    dsimp only
    rw [if_pos ht]
    show Way _ _ _ _ _ _
    rw [tys_append]
    exact h1
  · have hmm : mm = 0 := by
      rcases hm2 with h | h
      · exact absurd h (by decide)
      · omega
    subst hmm
    have he : effC o.wd (tys vars) (25, ((0 : Nat) : Int)) = (1, [2]) := rfl
    rw [he] at hsz hhi hgo hk
    dsimp only at hsz hhi hgo hk
    obtain ⟨r, v, rfl⟩ := last1 (l := l) (by omega)
    rw [drop_t1] at hk
    simp only [Int.reduceEq, ↓reduceIte, Int.natCast_zero, ne_eq, not_true_eq_false]
    unfold plainD plainR
    simp only [Int.reduceEq, ↓reduceIte, or_false, false_or, or_true, true_or]
    have h1 := hgo (k + 1) (by unfold nextR; simp)
    rw [take_t1] at h1
    have ht : v.t = 2 := by unfold kindsR at hk; simpa [allT] using hk
    unfold on1 ty1
    rw [pop1_eq]
    dsimp only
    rw [if_pos ht]
    show Way _ _ _ _ _ _
    rw [tys_append]
    exact h1
  · have hmm : mm = 0 := by
      rcases hm2 with h | h
      · exact absurd h (by decide)
      · omega
    subst hmm
    have he : effC o.wd (tys vars) (26, ((0 : Nat) : Int)) = (1, [1]) := rfl
    rw [he] at hsz hhi hgo hk
    dsimp only at hsz hhi hgo hk
    obtain ⟨r, v, rfl⟩ := last1 (l := l) (by omega)
    rw [drop_t1] at hk
    simp only [Int.reduceEq, ↓reduceIte, Int.natCast_zero, ne_eq, not_true_eq_false]
    unfold plainD plainR
    simp only [Int.reduceEq, ↓reduceIte, or_false, false_or, or_true, true_or]
    have h1 := hgo (k + 1) (by unfold nextR; simp)
    rw [take_t1] at h1
    have ht : v.t = 3 := by unfold kindsR at hk; simpa [allT] using hk
    unfold on1 ty1
    rw [pop1_eq]
    dsimp only
    rw [if_pos ht]
    show Way _ _ _ _ _ _
    rw [tys_append]
    exact h1
def Below (o : Ob) : List Int → List Fr → Prop
  | _, [] => True
  | g, f :: fs => ∃ p, o.procs[f.proc]? = some p ∧ Way o.wd p (flowOf o.wd p) f.pc (tys f.vars) (tys f.stack ++ g) ∧ Below o (if p.result = 0 then [] else [p.result]) fs
def Safe (o : Ob) (s : Mc) : Prop := s.ended = false → ∃ f fs, s.frames = f :: fs ∧ Below o [] (f :: fs)
theorem tys_padded {q : Pr} {args : List V} (h : tys args = q.params) : tys (padded args q.locals) = q.params ++ List.replicate (q.locals.toNat - q.params.length) 0 := by
  unfold padded
  rw [tys_append, h]
  have hl : args.length = q.params.length := by rw [← h, tys_length]
  rw [hl]
  congr 1
  unfold tys
  rw [List.map_replicate]; rfl
theorem Safe.step {o : Ob} (h0 : (objAns o).2.2 = 0) (hN : o.needs = []) {s : Mc} (h : Safe o s) (he : s.ended = false) (hE : s.en = 0) :
    Safe o (stepM ⟨o.consts, o.procs⟩ s) ∧ (stepM ⟨o.consts, o.procs⟩ s).en ≠ 6 ∧ ((stepM ⟨o.consts, o.procs⟩ s).ended = false → (stepM ⟨o.consts, o.procs⟩ s).en = 0) := by
  obtain ⟨f, fs, hf, p, hp, hw, hb⟩ := h he
  rw [List.append_nil] at hw
  have hd := safe_do h0 hN hp hw (fs.length + 1) s.out.length
  unfold stepM
  rw [hf]
  dsimp only
  rw [hp]
  dsimp only
  cases hr : doR ⟨o.consts, o.procs⟩ p f.stack f.pc f.vars (fs.length + 1) s.out.length with
  | halt n =>
    rw [hr] at hd
    exact ⟨fun h => (by cases h), hd, fun h => (by cases h)⟩
  | go l k vars =>
    rw [hr] at hd
    refine ⟨fun _ => ⟨_, _, rfl, p, hp, ?_, hb⟩, by dsimp only; rw [hE]; decide, fun _ => hE⟩
    rw [List.append_nil]; exact hd
  | print l v =>
    rw [hr] at hd
    refine ⟨fun _ => ⟨_, _, rfl, p, hp, ?_, hb⟩, by dsimp only; rw [hE]; decide, fun _ => hE⟩
    rw [List.append_nil]; exact hd
  | call q r a n =>
    rw [hr] at hd
    obtain ⟨hn, hq, ha, hgo⟩ := hd
    obtain ⟨hTq, _⟩ := taken_of h0 hq
    refine ⟨fun _ => ⟨_, _, rfl, q, hq, ?_, p, hp, hgo, hb⟩, by dsimp only; rw [hE]; decide, fun _ => hE⟩
    dsimp only
    rw [tys_padded ha, List.append_nil]
    exact Way.begin hTq
  | leave l g =>
    rw [hr] at hd
    cases fs with
    | nil => exact ⟨fun h => (by cases h), by show (1 : Int) ≠ 6; decide, fun h => (by cases h)⟩
    | cons f0 fs' =>
      obtain ⟨p0, hp0, hw0, hb0⟩ := hb
      refine ⟨fun _ => ⟨_, _, rfl, p0, hp0, ?_, hb0⟩, by dsimp only; rw [hE]; decide, fun _ => hE⟩
      dsimp only
      rw [tys_append, List.append_nil]
      rw [show tys g = _ from hd]
      exact hw0
structure SafeI (o : Ob) (s : Mc) : Prop where
  safe : Safe o s
  open_ : s.ended = false → s.en = 0
  en : s.en ≠ 6
theorem SafeI.step {o : Ob} (h0 : (objAns o).2.2 = 0) (hN : o.needs = []) {s : Mc} (h : SafeI o s) (he : s.ended = false) : SafeI o (stepM ⟨o.consts, o.procs⟩ s) :=
  let ⟨h1, h2, h3⟩ := h.safe.step h0 hN he (h.open_ he)
  ⟨h1, h3, h2⟩
theorem SafeI.run {o : Ob} (h0 : (objAns o).2.2 = 0) (hN : o.needs = []) : ∀ (n : Nat) {s : Mc}, SafeI o s → SafeI o (runM ⟨o.consts, o.procs⟩ n s).2
  | 0, s, h => h
  | n + 1, s, h => by
    unfold runM
    cases he : s.ended with
    | true => exact h
    | false => exact SafeI.run h0 hN n (h.step h0 hN he)
theorem SafeI.start {o : Ob} (h0 : (objAns o).2.2 = 0) {n : Int} {args : List V} {q : Pr} (h : startR ⟨o.consts, o.procs⟩ n args = some q) : SafeI o (startS q n args) := by
  unfold startR at h
  split at h
  · cases h
  split at h
  · cases h
  rename_i q' hq
  split at h
  · cases h
  split at h
  · cases h
  split at h
  rotate_left
  · cases h
  rename_i hc
  cases h
  simp only [Bool.and_eq_true, decide_eq_true_eq] at hc
  obtain ⟨hT, _⟩ := taken_of h0 hq
  refine ⟨fun _ => ⟨_, _, rfl, q, hq, ?_, trivial⟩, fun _ => rfl, by show (0 : Int) ≠ 6; decide⟩
  dsimp only
  rw [tys_padded hc.2]
  exact Way.begin hT
theorem SafeI.told {o : Ob} (h0 : (objAns o).2.2 = 0) {s : Mc} (h : SafeI o s) (he : s.ended = false) :
    typesE o (spotR s).1 (spotR s).2 = 0 ∧ LeR (tys (topVars s)) (typesR o (spotR s).1 (spotR s).2).1 ∧ LeR (tys (topStack s)) (typesR o (spotR s).1 (spotR s).2).2 := by
  obtain ⟨f, fs, hf, p, hp, hw, hb⟩ := h.safe he
  rw [List.append_nil] at hw
  obtain ⟨hT, _⟩ := taken_of h0 hp
  obtain ⟨t, i, hS⟩ := hw.stand hT
  obtain ⟨h1, h2⟩ := typesR_of h0 hp hS.told
  unfold spotR topVars topStack
  rw [hf]
  dsimp only
  rw [h1, h2]
  exact ⟨rfl, hS.vars, hS.stack⟩
end Go.Proofs.YtbfgljcjblfleaaGreatDoor.Gb
namespace Go.Proofs.YtbfgljcjblfleaaGreatDoor.Gb
open Go Go.Proofs
attribute [local irreducible] Tryz.prog
theorem lnumber_fn (G : Gh) (n : Int) : Fn Tryz.prog 19 #[.int .i64 n] G [] fun e G' H' => e = .returned (.agg #[.int .i64 1, .int .i64 n, .bool false, .string ⟨#[]⟩]) ∧ G = G' ∧ H' = [] := by
  refine Fn.enter Tryz.func19 rfl rfl fun w0 => ?_
  refine WC.seq ?_
  refine WC.region ?_
  refine WL.op (by kernel_rfl) (OW.alloc rfl fun b1 => ?_)
  refine WL.nil ?_
  refine WK.un ?_
  refine WC.seq ?_
  refine WC.region ?_
  refine WL.p (Gp.move rfl) (by kernel_rfl) rfl ?_
  refine WL.p (Gp.build rfl rfl) (by kernel_rfl) rfl ?_
  refine WL.op (by kernel_rfl) (OW.store rfl rfl (by (repeat first | exact .here | apply At.there)) rfl (by rfl) (by rfl) (by kernel_rfl) (by rfl) ?_ rfl)
  refine WL.nil ?_
  refine WK.un ?_
  refine WC.ret ?_
  refine WK.un ?_
  exact QF.p1 (.inl rfl) rfl (.cell rfl inferInstance inferInstance (by (repeat first | exact .here | apply At.there)) rfl rfl) (⟨rfl, rfl, rfl⟩)
def twoP (u v : V) (c r : Int) : Pg := ⟨[u, v], [⟨⟨#[102]⟩, false, [], 0, r, [(1, 0), (1, 1), (c, 0), (10, 0)]⟩]⟩
theorem twoP_B (u v : V) (c r : Int) : PgB (twoP u v c r) := ⟨by simp [twoP], by simp [twoP], fun p hp => by simp [twoP] at hp; subst hp; simp, fun p hp => by simp [twoP] at hp; subst hp; simp⟩
theorem two_fn (G : Gh) (u v : V) (c r : Int) : Fn Tryz.prog 18 #[.agg #[.int .i64 u.t, .int .i64 u.i, .bool u.b, .string u.s], .agg #[.int .i64 v.t, .int .i64 v.i, .bool v.b, .string v.s], .int .i64 c, .int .i64 r] G []
    fun e G' H' => ∃ CA PA, e = .returned (.agg #[.slice CA (twoP u v c r).consts.length 2, .slice PA (twoP u v c r).procs.length 1, .slice none 0 0]) ∧ G.le G' ∧ Sl Kd.val G' CA (twoP u v c r).consts ∧ Sl Kd.prc G' PA (twoP u v c r).procs ∧ H' = [] := by
  refine Fn.enter Tryz.func18 rfl rfl fun w0 => ?_
  refine WC.seq ?_
  refine WC.region ?_
  refine WL.op (by kernel_rfl) (OW.box rfl rfl fun b4 => ?_)
  refine WL.op (by kernel_rfl) (OW.box rfl rfl fun b5 => ?_)
  refine WL.op (by kernel_rfl) (OW.alloc rfl fun b8 => ?_)
  refine WL.nil ?_
  refine WK.un ?_
  refine WC.seq ?_
  refine WC.region ?_
  refine WL.p (Gp.build rfl rfl) (by kernel_rfl) rfl ?_
  refine WL.p (Gp.build rfl rfl) (by kernel_rfl) rfl ?_
  refine WL.p (Gp.move rfl) (by kernel_rfl) rfl ?_
  refine WL.p (Gp.build rfl rfl) (by kernel_rfl) rfl ?_
  refine WL.p (Gp.build rfl rfl) (by kernel_rfl) rfl ?_
  refine WL.op (by kernel_rfl) (OW.buildSlice rfl (by kernel_rfl) (by kernel_rfl) (by rfl) rfl fun b15 => ?_)
  refine WL.p (Gp.assign rfl) (by kernel_rfl) rfl ?_
  refine WL.nil ?_
  refine WK.un ?_
  refine WC.seq ?_
  refine WC.region ?_
  refine WL.v (Gv.loadN rfl (by (repeat first | exact .here | apply At.there)) rfl rfl) (by kernel_rfl) rfl ?_
  refine WL.v (Gv.loadN rfl (by (repeat first | exact .here | apply At.there)) rfl rfl) (by kernel_rfl) rfl ?_
  refine WL.op (by kernel_rfl) (OW.buildSlice rfl (by kernel_rfl) (by kernel_rfl) (by rfl) rfl fun b18 => ?_)
  refine WL.p (Gp.move rfl) (by kernel_rfl) rfl ?_
  refine WL.p (Gp.move rfl) (by kernel_rfl) rfl ?_
  refine WL.p (Gp.build rfl rfl) (by kernel_rfl) rfl ?_
  refine WL.op (by kernel_rfl) (OW.buildSlice rfl (by kernel_rfl) (by kernel_rfl) (by rfl) rfl fun b22 => ?_)
  refine WL.p (Gp.build rfl rfl) (by kernel_rfl) rfl ?_
  refine WL.op (by kernel_rfl) (OW.store rfl rfl (by (repeat first | exact .here | apply At.there)) rfl (by rfl) (by rfl) (by kernel_rfl) (by rfl) ?_ rfl)
  refine WL.nil ?_
  refine WK.un ?_
  refine WC.pk (H' := [.blk b15 (.cells #[.int .i64 1, .int .i64 0, .int .i64 1, .int .i64 1, .int .i64 c, .int .i64 0, .int .i64 10, .int .i64 0] 97 (0, 0)),
    .blk b18 (.cells (vflat [u, v]).toArray 49 (0, 0)),
    .blk b22 (.cells #[.string ⟨#[102]⟩, .bool false, .slice none 0 0, .int .i64 0, .int .i64 r, .slice (some ⟨b15, 0, none⟩) 4 4] 65 (0, 0)),
    .blk b8 (.cells #[.slice (some ⟨b18, 0, none⟩) 2 2, .slice (some ⟨b22, 0, none⟩) 1 1, .slice none 0 0] 36 (0, 0))]) (by repeat (first | exact Pk.nil | exact Pk.all | exact Pk.app | exact Pk.appR | with_reducible apply Pk.na | (apply Pk.cons; (repeat first | exact .here | apply Rem.there | apply Rem.app)) | apply Pk.skip | apply Pk.skipA)) ?_
  refine WC.frozenVec (T := 97) (sz := 2) (A := some ⟨b15, 0, none⟩) (n := 4) (cap := 4) (cs := [.int .i64 1, .int .i64 0, .int .i64 1, .int .i64 1, .int .i64 c, .int .i64 0, .int .i64 10, .int .i64 0]) ⟨rfl, .inr ⟨b15, _, rfl, rfl, Nat.le_refl _, rfl, rfl⟩⟩ .here fun G1 h1 z1 => ?_
  refine WC.frozenVec (T := 49) (sz := 4) (A := some ⟨b18, 0, none⟩) (n := 2) (cap := 2) (cs := vflat [u, v]) ⟨rfl, .inr ⟨b18, _, rfl, rfl, Nat.le_refl _, rfl, rfl⟩⟩ .here fun G2 h2 z2 => ?_
  refine WC.frozenVec (T := 65) (sz := 6) (A := some ⟨b22, 0, none⟩) (n := 1) (cap := 1) (cs := [.string ⟨#[102]⟩, .bool false, .slice none 0 0, .int .i64 0, .int .i64 r, .slice (some ⟨b15, 0, none⟩) 4 4]) ⟨rfl, .inr ⟨b22, _, rfl, rfl, Nat.le_refl _, rfl, rfl⟩⟩ .here fun G3 h3 z3 => ?_
  have hI : Sl Kd.ins G3 (some ⟨b15, 0, none⟩) [(1, 0), (1, 1), (c, 0), (10, 0)] := (Sl.ofCs (k := Kd.ins) z1 rfl (by decide) (fun i x hx => by
    match i, hx with
    | 0, hx => cases hx; rfl
    | 1, hx => cases hx; rfl
    | 2, hx => cases hx; rfl
    | 3, hx => cases hx; rfl)).mono (Gh.le_trans h2 h3)
  have hC : Sl Kd.val G3 (some ⟨b18, 0, none⟩) [u, v] := (Sl.ofCs (k := Kd.val) z2 rfl (by decide) (fun i x hx => by
    match i, hx with
    | 0, hx => cases hx; rfl
    | 1, hx => cases hx; rfl)).mono h3
  have hP : Sl Kd.prc G3 (some ⟨b22, 0, none⟩) (twoP u v c r).procs := Sl.ofCs (k := Kd.prc) z3 rfl (by decide) (fun i x hx => by
    match i, hx with
    | 0, hx => cases hx; exact ⟨none, 0, some ⟨b15, 0, none⟩, 4, rfl, Sl.nil _ _ _, hI⟩)
  refine WC.ret ?_
  refine WK.un ?_
  exact QF.p1 (.inl rfl) rfl (.cell rfl inferInstance inferInstance (by (repeat first | exact .here | apply At.there)) rfl rfl) (⟨some ⟨b18, 0, none⟩, some ⟨b22, 0, none⟩, rfl, Gh.le_trans h1 (Gh.le_trans h2 h3), hC, hP, rfl⟩)
theorem run_six : runR (twoP (numV 2) (numV 3) 21 1) 0 9 [] = ⟨1, numV 6, [], 4⟩ := by kernel_rfl
theorem run_zero : runR (twoP (numV 1) (numV 0) 22 1) 0 9 [] = ⟨2, V0, [], 3⟩ := by kernel_rfl
end Go.Proofs.YtbfgljcjblfleaaGreatDoor.Gb
namespace Go.Proofs.YtbfgljcjblfleaaGreatDoor.Gb
open Go Go.Proofs
attribute [local irreducible] Tryz.prog
theorem Run_two (G : Gh) (pg : Pg) (CA PA : Option Addr) (cc pc : Nat) (qv : Value) (hC : Sl Kd.val G CA pg.consts) (hP : Sl Kd.prc G PA pg.procs) (hB : PgB pg) (o : Oc) (ho : runR pg 0 9 [] = o) :
    Fn Tryz.prog 15 #[.agg #[.slice CA pg.consts.length cc, .slice PA pg.procs.length pc, qv], .int .i64 0, .int .i64 9, .slice none 0 0] G []
      fun e G' H' => ∃ A' cap' x', e = .returned (ocV o A' cap') ∧ G.le G' ∧ VVec A' cap' o.out x' ∧ H' = [x'] := by
  subst ho
  exact Run_fn G pg CA PA cc pc qv hC hP hB 0 9 (by decide) none 0 [] [] (Rds.nil _ _ _) (by simp)
theorem awake_fnQ (G : Gh) : Fn Tryz.prog 5 #[] G [] fun e G' H' => e = .returned (.bool true) ∧ G.le G' ∧ H' = [] := by
  refine Fn.enter (vs := []) Tryz.func5 rfl rfl fun w0 => ?_
  refine WC.seq ?_
  refine WC.region ?_
  refine WL.p (Gp.assign rfl) (by kernel_rfl) rfl ?_
  refine WL.nil ?_
  refine WK.un ?_
  refine WC.seq ?_
  refine WC.region ?_
  refine WL.op (by kernel_rfl) (OW.callR rfl (Hf := []) (List.Perm.refl _) (lnumber_fn G 2) rfl (by rintro e G' H' ⟨h, _⟩; exact ⟨_, h⟩) fun v' G' H' h hg => ?_)
  obtain ⟨he, rfl, rfl⟩ := h
  cases he
  refine WL.op (by kernel_rfl) (OW.callR rfl (Hf := []) (List.Perm.refl _) (lnumber_fn G 3) rfl (by rintro e G' H' ⟨h, _⟩; exact ⟨_, h⟩) fun v' G' H' h hg => ?_)
  obtain ⟨he, rfl, rfl⟩ := h
  cases he
  refine WL.op (by kernel_rfl) (OW.callK rfl (two_fn G (numV 2) (numV 3) 21 1) rfl fun v' G' H' h hg => ?_)
  obtain ⟨CA, PA, he, hg1, hC, hP, rfl⟩ := h
  cases he
  refine WL.op (by kernel_rfl) (OW.callK rfl (Run_two G' (twoP (numV 2) (numV 3) 21 1) CA PA 2 1 _ hC hP (twoP_B _ _ _ _) _ run_six) rfl fun v' G' H' h hg => ?_)
  obtain ⟨A1, cap1, x1, he, hg2, hx1, rfl⟩ := h
  cases he
  refine WL.op (by kernel_rfl) (OW.alloc rfl fun b1 => ?_)
  refine WL.op (by kernel_rfl) (OW.store rfl rfl (by (repeat first | exact .here | apply At.there)) rfl (by rfl) (by rfl) (by kernel_rfl) (by rfl) ?_ rfl)
  refine WL.nil ?_
  refine WK.un ?_
  refine WC.seq ?_
  refine WC.region ?_
  refine WL.op (by kernel_rfl) (OW.callR rfl (Hf := []) (List.Perm.refl _) (lnumber_fn _ 1) rfl (by rintro e G' H' ⟨h, _⟩; exact ⟨_, h⟩) fun v' G' H' h hg => ?_)
  obtain ⟨he, rfl, rfl⟩ := h
  cases he
  refine WL.op (by kernel_rfl) (OW.callR rfl (Hf := []) (List.Perm.refl _) (lnumber_fn _ 0) rfl (by rintro e G' H' ⟨h, _⟩; exact ⟨_, h⟩) fun v' G' H' h hg => ?_)
  obtain ⟨he, rfl, rfl⟩ := h
  cases he
  refine WL.op (by kernel_rfl) (OW.callK rfl (two_fn _ (numV 1) (numV 0) 22 1) rfl fun v' G' H' h hg => ?_)
  obtain ⟨CB, PB, he, hg3, hC2, hP2, rfl⟩ := h
  cases he
  refine WL.op (by kernel_rfl) (OW.callK rfl (Run_two _ (twoP (numV 1) (numV 0) 22 1) CB PB 2 1 _ hC2 hP2 (twoP_B _ _ _ _) _ run_zero) rfl fun v' G' H' h hg => ?_)
  obtain ⟨A2, cap2, x2, he, hg4, hx2, rfl⟩ := h
  cases he
  refine WL.op (by kernel_rfl) (OW.alloc rfl fun b2 => ?_)
  refine WL.op (by kernel_rfl) (OW.store rfl rfl (by (repeat first | exact .here | apply At.there)) rfl (by rfl) (by rfl) (by kernel_rfl) (by rfl) ?_ rfl)
  refine WL.nil ?_
  refine WK.un ?_
  refine WC.seq ?_
  refine WC.drawB mixed ?_
  refine WB.tp (i := 0) rfl (by kernel_rfl) (by kernel_rfl) rfl (Gp.fieldAddr rfl) ?_
  refine WB.tv (i := 1) rfl (by kernel_rfl) (by kernel_rfl) rfl (Gv.load1 rfl (by (repeat first | exact .here | apply At.there)) rfl) ?_
  (first | refine WB.tp (i := 2) rfl (by kernel_rfl) (by kernel_rfl) rfl (Gp.eqI rfl rfl) ?_ | refine WB.tp (i := 2) rfl (by kernel_rfl) (by kernel_rfl) rfl (Gp.eqS rfl rfl) ?_ | refine WB.tp (i := 2) rfl (by kernel_rfl) (by kernel_rfl) rfl (Gp.nilSl rfl) ?_ | refine WB.tp (i := 2) rfl (by kernel_rfl) (by kernel_rfl) rfl (Gp.eqB rfl rfl) ?_)
  refine WB.tp (i := 3) rfl (by kernel_rfl) (by kernel_rfl) rfl (Gp.move rfl) ?_
  refine WB.tp (i := 4) rfl (by kernel_rfl) (by kernel_rfl) rfl (Gp.fieldAddr rfl) ?_
  refine WB.tv (i := 5) rfl (by kernel_rfl) (by kernel_rfl) rfl (Gv.loadN rfl (by (repeat first | exact .here | apply At.there)) rfl rfl) ?_
  refine WB.one (i := 6) (by kernel_rfl) rfl (by kernel_rfl) (OW.callR rfl (Hf := []) (List.Perm.refl _) (lnumber_fn _ 6) rfl (by rintro e G' H' ⟨h, _⟩; exact ⟨_, h⟩) fun v' G' H' h hg => ?_)
  obtain ⟨he, rfl, rfl⟩ := h
  cases he
  refine ⟨fun w hw => hw.leSub (Gh.le_refl _) (List.Sublist.refl _), ?_⟩
  refine WB.tp (i := 7) rfl (by kernel_rfl) (by kernel_rfl) rfl (Gp.eqV (u := numV 6) (v := numV 6) rfl rfl) ?_
  (first | refine WB.tp (i := 8) rfl (by kernel_rfl) (by kernel_rfl) rfl (Gp.pickT rfl rfl) ?_ | refine WB.tp (i := 8) rfl (by kernel_rfl) (by kernel_rfl) rfl (Gp.pickF rfl rfl) ?_)
  refine WB.tp (i := 9) rfl (by kernel_rfl) (by kernel_rfl) rfl (Gp.move rfl) ?_
  refine WB.tp (i := 10) rfl (by kernel_rfl) (by kernel_rfl) rfl (Gp.fieldAddr rfl) ?_
  refine WB.tv (i := 11) rfl (by kernel_rfl) (by kernel_rfl) rfl (Gv.load1 rfl (by (repeat first | exact .here | apply At.there)) rfl) ?_
  (first | refine WB.tp (i := 12) rfl (by kernel_rfl) (by kernel_rfl) rfl (Gp.eqI rfl rfl) ?_ | refine WB.tp (i := 12) rfl (by kernel_rfl) (by kernel_rfl) rfl (Gp.eqS rfl rfl) ?_ | refine WB.tp (i := 12) rfl (by kernel_rfl) (by kernel_rfl) rfl (Gp.nilSl rfl) ?_ | refine WB.tp (i := 12) rfl (by kernel_rfl) (by kernel_rfl) rfl (Gp.eqB rfl rfl) ?_)
  (first | refine WB.tp (i := 13) rfl (by kernel_rfl) (by kernel_rfl) rfl (Gp.pickT rfl rfl) ?_ | refine WB.tp (i := 13) rfl (by kernel_rfl) (by kernel_rfl) rfl (Gp.pickF rfl rfl) ?_)
  refine WB.tp (i := 14) rfl (by kernel_rfl) (by kernel_rfl) rfl (Gp.move rfl) ?_
  refine WB.tp (i := 15) rfl (by kernel_rfl) (by kernel_rfl) rfl (Gp.fieldAddr rfl) ?_
  refine WB.tv (i := 16) rfl (by kernel_rfl) (by kernel_rfl) rfl (Gv.load1 rfl (by (repeat first | exact .here | apply At.there)) rfl) ?_
  (first | refine WB.tp (i := 17) rfl (by kernel_rfl) (by kernel_rfl) rfl (Gp.eqI rfl rfl) ?_ | refine WB.tp (i := 17) rfl (by kernel_rfl) (by kernel_rfl) rfl (Gp.eqS rfl rfl) ?_ | refine WB.tp (i := 17) rfl (by kernel_rfl) (by kernel_rfl) rfl (Gp.nilSl rfl) ?_ | refine WB.tp (i := 17) rfl (by kernel_rfl) (by kernel_rfl) rfl (Gp.eqB rfl rfl) ?_)
  (first | refine WB.tp (i := 18) rfl (by kernel_rfl) (by kernel_rfl) rfl (Gp.pickT rfl rfl) ?_ | refine WB.tp (i := 18) rfl (by kernel_rfl) (by kernel_rfl) rfl (Gp.pickF rfl rfl) ?_)
  refine WB.tp (i := 19) rfl (by kernel_rfl) (by kernel_rfl) rfl (Gp.move rfl) ?_
  refine WB.tp (i := 20) rfl (by kernel_rfl) (by kernel_rfl) rfl (Gp.fieldAddr rfl) ?_
  refine WB.tv (i := 21) rfl (by kernel_rfl) (by kernel_rfl) rfl (Gv.load1 rfl (by (repeat first | exact .here | apply At.there)) rfl) ?_
  (first | refine WB.tp (i := 22) rfl (by kernel_rfl) (by kernel_rfl) rfl (Gp.eqI rfl rfl) ?_ | refine WB.tp (i := 22) rfl (by kernel_rfl) (by kernel_rfl) rfl (Gp.eqS rfl rfl) ?_ | refine WB.tp (i := 22) rfl (by kernel_rfl) (by kernel_rfl) rfl (Gp.nilSl rfl) ?_ | refine WB.tp (i := 22) rfl (by kernel_rfl) (by kernel_rfl) rfl (Gp.eqB rfl rfl) ?_)
  (first | refine WB.tp (i := 23) rfl (by kernel_rfl) (by kernel_rfl) rfl (Gp.pickT rfl rfl) ?_ | refine WB.tp (i := 23) rfl (by kernel_rfl) (by kernel_rfl) rfl (Gp.pickF rfl rfl) ?_)
  refine WB.tp (i := 24) rfl (by kernel_rfl) (by kernel_rfl) rfl (Gp.assign rfl) ?_
  refine WB.done (by kernel_rfl) ?_
  refine WK.un ?_
  refine WC.ret ?_
  refine WK.un ?_
  exact QF.p1 (.inl rfl) rfl (.tmp rfl) (⟨rfl, Gh.le_trans hg1 (Gh.le_trans hg2 (Gh.le_trans hg3 hg4)), rfl⟩)
def mcTwo (st : List V) (k : Nat) (steps : Nat) : Mc := ⟨[⟨0, k, st, []⟩], [], steps, 0, V0, false⟩
section
variable {u v w : V} {c r : Int} (hu : vOK u = true) (hv : vOK v = true)
include hu in
theorem two1 : stepM (twoP u v c r) (mcTwo [] 0 0) = mcTwo [u] 1 1 := by simp [stepM, mcTwo, twoP, doR, constR, layRQ, hu]
include hv in
theorem two2 : stepM (twoP u v c r) (mcTwo [u] 1 1) = mcTwo [u, v] 2 2 := by simp [stepM, mcTwo, twoP, doR, constR, layRQ, hv]
theorem two3 (hc : ¬ (c = 1 ∨ c = 2 ∨ c = 3 ∨ c = 5 ∨ c = 6 ∨ c = 7)) (hp : plainR r [u, v] c 0 = .set [w]) : stepM (twoP u v c r) (mcTwo [u, v] 2 2) = mcTwo [w] 3 3 := by
  simp only [not_or] at hc
  simp [stepM, mcTwo, twoP, doR, hc, plainD, hp]
theorem two3h {k : Int} (hc : ¬ (c = 1 ∨ c = 2 ∨ c = 3 ∨ c = 5 ∨ c = 6 ∨ c = 7)) (hp : plainR r [u, v] c 0 = .halt k) : stepM (twoP u v c r) (mcTwo [u, v] 2 2) = ⟨[⟨0, 2, [u, v], []⟩], [], 3, k, V0, true⟩ := by
  simp only [not_or] at hc
  simp [stepM, mcTwo, twoP, doR, hc, plainD, hp]
theorem two4 (hr : r ≠ 0) (hw : w.t = r) : stepM (twoP u v c r) (mcTwo [w] 3 3) = ⟨[], [], 4, 1, w, true⟩ := by
  have h : plainR r [w] 10 0 = .leave [] [w] := by simp [plainR, hr, on1, ty1, pop1, hw]
  simp [stepM, mcTwo, twoP, doR, plainD, h, lastV]
include hu hv in
theorem run_two (hc : ¬ (c = 1 ∨ c = 2 ∨ c = 3 ∨ c = 5 ∨ c = 6 ∨ c = 7)) (hp : plainR r [u, v] c 0 = .set [w]) (hr : r ≠ 0) (hw : w.t = r) : runR (twoP u v c r) 0 9 [] = ⟨1, w, [], 4⟩ := by
  have h0 : startR (twoP u v c r) 0 [] = some ⟨⟨#[102]⟩, false, [], 0, r, [(1, 0), (1, 1), (c, 0), (10, 0)]⟩ := by simp [startR, twoP, sizedP, tys]
  have h1 : startS ⟨⟨#[102]⟩, false, [], 0, r, [(1, 0), (1, 1), (c, 0), (10, 0)]⟩ 0 [] = mcTwo [] 0 0 := by simp [startS, mcTwo, padded]
  have hf : ∀ st k n, (mcTwo st k n).ended = false := fun _ _ _ => rfl
  rw [runR, h0]
  simp only [h1, show (9 : Int).toNat = 9 from rfl]
  simp [runM, hf, two1 hu, two2 hv, two3 hc hp, two4 hr hw, Mc.oc]
include hu hv in
theorem run_twoH {k : Int} (hc : ¬ (c = 1 ∨ c = 2 ∨ c = 3 ∨ c = 5 ∨ c = 6 ∨ c = 7)) (hp : plainR r [u, v] c 0 = .halt k) : runR (twoP u v c r) 0 9 [] = ⟨k, V0, [], 3⟩ := by
  have h0 : startR (twoP u v c r) 0 [] = some ⟨⟨#[102]⟩, false, [], 0, r, [(1, 0), (1, 1), (c, 0), (10, 0)]⟩ := by simp [startR, twoP, sizedP, tys]
  have h1 : startS ⟨⟨#[102]⟩, false, [], 0, r, [(1, 0), (1, 1), (c, 0), (10, 0)]⟩ 0 [] = mcTwo [] 0 0 := by simp [startS, mcTwo, padded]
  have hf : ∀ st k n, (mcTwo st k n).ended = false := fun _ _ _ => rfl
  rw [runR, h0]
  simp only [h1, show (9 : Int).toNat = 9 from rfl]
  simp [runM, hf, two1 hu, two2 hv, two3h hc hp, Mc.oc]
end
end Go.Proofs.YtbfgljcjblfleaaGreatDoor.Gb
namespace Go.Proofs.YtbfgljcjblfleaaGreatDoor.Gb
open Go Go.Proofs Go.MapKept
attribute [local irreducible] Tryz.prog
theorem LeR.fit_nz {a b : List Int} (h : LeR a b) {n : Nat} {x y : Int} (hx : a[n]? = some x) (hy : b[n]? = some y) (h0 : y ≠ 0) : x = y := by
  have := h.get n
  rw [hx, hy] at this
  rcases this with h | h
  · exact absurd h h0
  · exact h
theorem vflat_t {l : List V} {i : Nat} {v : V} (h : l[i]? = some v) : (vflat l)[i * 4 + 0]? = some (.int .i64 v.t) := by
  have h1 := vflat_elem l i v h
  have h2 : (((vflat l).drop (i * 4)).take 4)[0]? = some (.int .i64 v.t) := by rw [h1]; rfl
  rw [List.getElem?_take, if_pos (by decide), List.getElem?_drop] at h2
  exact h2
theorem sfits_fn (G : Gh) (A : Option Addr) (l : List Int) (ca : Nat) (hA : Sl (Kd.int .i64) G A l) (B : Option Addr) (m : List V) (cb : Nat) (y : Own) (hB : VVec B cb m y) (hf : LeR (tys m) l) (hl : l.length ≤ 1000000000) :
    Fn Tryz.prog 10 #[.slice A l.length ca, .slice B m.length cb] G [y] fun e G' H' => e = .returned (.bool true) ∧ G = G' ∧ H' = [y] := by
  refine Fn.enter Tryz.func10 rfl rfl fun w0 => ?_
  have hne : m.length = l.length := by rw [← tys_length]; exact hf.length
  have e1 : ((l.length : Int) != (m.length : Int)) = false := by rw [hne]; simp
  refine gom ?_
  refine WC.loop (X := Nat) (fun i => [(5, .int .i64 i), (0, .slice A l.length ca), (1, .slice B m.length cb)]) (fun _ => G) (fun _ => [y]) (fun i => m.length - i) (fun i => i ≤ m.length) 0 (Nat.zero_le _) (by exact ⟨rfl, rfl, rfl, trivial⟩) rfl (List.Sublist.refl _) fun i hi => ?_
  by_cases hlt : i < m.length
  rotate_left
  · have e2 : decide ((i : Int) < (m.length : Int)) = false := decide_eq_false (by omega)
    refine gom ?_
    refine WC.ret ?_
    refine WK.un ?_
    exact QF.p1 (.inl rfl) rfl (.tmp rfl) (⟨rfl, rfl, rfl⟩)
  have e2 : decide ((i : Int) < (m.length : Int)) = true := decide_eq_true (by omega)
  obtain ⟨x, hx⟩ : ∃ x, l[i]? = some x := ⟨_, List.getElem?_eq_getElem (by omega)⟩
  obtain ⟨v, hv⟩ : ∃ v, m[i]? = some v := ⟨_, List.getElem?_eq_getElem hlt⟩
  obtain ⟨ab, ao, rfl, hca⟩ := hA.at hx
  have x0 : (0 : Int) ≤ i := by omega
  have x2 : (i : Int) < (l.length : Int) := by omega
  have x3 : (i : Int) < (m.length : Int) := by omega
  have x4 := wrapS i (by omega)
  by_cases h0 : x = 0
  · have e3 : (x != 0) = false := by simp [h0]
    refine gom ?_
    exact WK.again (i + 1) (by omega) (by omega) (by exact ⟨rfl, rfl, rfl, trivial⟩) rfl (List.Sublist.refl _)
  · have e3 : (x != 0) = true := by rw [bne_iff_ne]; exact h0
    have hyx := hf.fit_nz (tys_at hv) hx h0
    have e4 : (v.t != x) = false := by simp [hyx]
    obtain ⟨rb, ro, hrr, hread⟩ := (Vec.rds hB .here : Rds G [y] B (vflat m)).resolve_left (fun h => by have h1 := vflat_length m; rw [h] at h1; simp at h1; omega)
    subst hrr
    refine gom ?_
    refine WQ.tv (Gv.loadR1 (i := ((i : Nat) : Int).toNat * 4 + 0) rfl hread (List.Sublist.refl _) (vflat_t hv)) (by kernel_rfl) (by kernel_rfl) rfl ?_
    refine gom ?_
    exact WK.again (i + 1) (by omega) (by omega) (by exact ⟨rfl, rfl, rfl, trivial⟩) rfl (List.Sublist.refl _)
end Go.Proofs.YtbfgljcjblfleaaGreatDoor.Gb
namespace Go.Proofs.YtbfgljcjblfleaaGreatDoor.Gb
open Go Go.Proofs Go.MapKept
section
variable {P : Program} {L : List (Nat × Value)} {d : Option Tmp} {ty : TypeId} {pos : String} {af : Array Edge} {gu : Option (Nat × Bool)}
theorem Gp.convToW {s t : TypeId} {x : Operand} {k k' : IntKind} {m r : Int} {ds : TypeDesc} (hx : ev L x = some (.int k m)) [hs : Und P s ds] [ht : Und P t (.int k')] (h : k'.wrap m = r) : Gp P L ⟨d, .convert s t x, ty, pos, af, gu⟩ (.int k' r) := h ▸ Gp.convI hx
theorem Gp.remToW {t t' : TypeId} {x y : Operand} {k : IntKind} {m n r : Int} (hx : ev L x = some (.int k m)) (hy : ev L y = some (.int k n)) (hn : n ≠ 0) (h : m.tmod n = r) : Gp P L ⟨d, .binOp .rem t x y t', ty, pos, af, gu⟩ (.int k r) := h ▸ Gp.rem hx hy hn
end
section
variable {L : List (Nat × Value)} {d : Option Tmp} {ty : TypeId} {pos : String} {af : Array Edge} {gu : Option (Nat × Bool)}
theorem Gp.ocEnd {x : Operand} {o : Oc} {A : Option Addr} {c : Nat} (hx : ev L x = some (ocV o A c)) : Gp Tryz.prog L ⟨d, .field 51 x 0, ty, pos, af, gu⟩ (.int .i64 o.en) := fun a st w => by
  have a0 := fun w => (inferInstance : Agg Tryz.prog 3 false).h w
  simp [execOp, st.eval hx, ocV, Instr.field, part, asAgg, run_underlying Tryz.underlying51, a0, Result.andThen]
end
theorem chunks_vals : ∀ {xs : List V} {cs : List Value}, cs.length = xs.length * 4 → (∀ i x, xs[i]? = some x → (cs.drop (i * 4)).take 4 = vcells x) → cs = vflat xs
  | [], cs, hl, _ => by simpa [vflat] using hl
  | x :: xs, cs, hl, h => by
    have h0 := h 0 x rfl
    simp only [Nat.zero_mul, List.drop_zero] at h0
    have ih := @chunks_vals xs (cs.drop 4) (by simp at hl ⊢; omega) fun i y hy => by
      have := h (i + 1) y (by simpa using hy)
      rw [List.drop_drop, show 4 + i * 4 = (i + 1) * 4 by omega]
      exact this
    rw [← List.take_append_drop 4 cs, h0, ih]
    simp [vflat]
theorem Sl.vals {G : Gh} {H : List Own} {A : Option Addr} {xs : List V} (h : Sl Kd.val G A xs) : Rds G H A (vflat xs) := by
  obtain ⟨cs, h1, h2, _, h3⟩ := Sl.rds (H := H) (by decide) h
  rw [← chunks_vals h2 h3]
  exact h1
theorem Inv.topS {pg : Pg} {s : Mc} (h : Inv pg s) : (topStack s).length ≤ 128 := by
  unfold topStack
  split
  · simp
  · rename_i f fs e; exact (h.stack f (by rw [e]; simp)).1
theorem Inv.topV {pg : Pg} {s : Mc} (h : Inv pg s) : (topVars s).length ≤ 64 := by
  unfold topVars
  split
  · simp
  · rename_i f fs e; exact (h.stack f (by rw [e]; simp)).2.1
attribute [local irreducible] Tryz.prog
theorem runM_one {pg : Pg} {s : Mc} (h : s.ended = false) : runM pg 1 s = (1, stepM pg s) := by
  unfold runM
  rw [h]; simp [runM]
attribute [local irreducible] objAns startR startS runM runR typesR typesE stepM findE
theorem pgB_of {o : Ob} (h : (objAns o).2.2 = 0) : PgB ⟨o.consts, o.procs⟩ := by
  obtain ⟨h1, h2⟩ := objAns_zero h
  unfold objR at h1
  simp only [Bool.and_eq_true, decide_eq_true_eq] at h1
  obtain ⟨_, _, h3, _, h4, _⟩ := h1
  refine ⟨?_, ?_, fun p hp => ?_, fun p hp => ?_⟩
  · show o.consts.length * 40 ≤ _; omega
  · show o.procs.length * 88 ≤ _; omega
  · obtain ⟨k, hk⟩ := List.mem_iff_getElem?.1 hp
    have := (taken_of h hk).1.pok
    have h5 := this.par; have h6 := this.loc
    omega
  · obtain ⟨k, hk⟩ := List.mem_iff_getElem?.1 hp
    have := (taken_of h hk).1.pok.few
    omega
theorem runR_safe {o : Ob} (h0 : (objAns o).2.2 = 0) (hN : o.needs = []) {n : Int} {args : List V} {q : Pr} (h : startR ⟨o.consts, o.procs⟩ n args = some q) : (runR ⟨o.consts, o.procs⟩ n 20000 args).en ≠ 6 := by
  have h1 := (SafeI.start h0 h).run h0 hN (20000 : Int).toNat
  rw [runR, h]
  dsimp only
  split
  · exact h1.en
  · show (5 : Int) ≠ 6; decide
theorem runM_steps1 {pg : Pg} {s : Mc} (hI : Inv pg s) (hL : Live s) (he : s.ended = false) : (stepM pg s).steps ≤ s.steps + 1 := by
  unfold stepM
  split
  · omega
  split
  · omega
  split <;> first | (split <;> exact Nat.le_refl _) | exact Nat.le_refl _
structure SL where
  i : Nat
  s : Mc
  H : List Own
  G : Gh
section
variable (G : Gh) (hE : Env G) (o : Ob) (CA NA PA : Option Addr) (cc nc pc : Nat) (hO : ORep G o CA NA PA) (hL : OLim o) (n : Int) (AA : Option Addr) (ac : Nat) (args : List V) (hA : Sl Kd.val G AA args) (hal : args.length ≤ 1048576) (m : Nat) (hm : m < 65536)
include hE hO hL hA hal hm
set_option maxHeartbeats 2000000 in
theorem vmSafe_fn : Fn Tryz.prog 3 #[.agg (obC o CA NA PA cc nc pc), .int .i64 n, .slice AA args.length ac, .int .u16 (m : Int)] G [] fun e G' H' => e = .returned (.bool true) ∧ G.le G' := by
  refine Fn.enter Tryz.func3 rfl rfl fun w0 => ?_
  refine WC.seq ?_
  refine WC.region ?_
  refine WL.op (by kernel_rfl) (OW.box rfl rfl fun b4 => ?_)
  refine gom ?_
  refine WL.op (by kernel_rfl) (OW.callK rfl (Object_fn G hE o CA NA PA cc nc pc hO hL) rfl fun v' G' H' h hg => ?_)
  obtain ⟨he, hg1, rfl⟩ := h
  cases he
  obtain ⟨G1, rfl⟩ : ∃ G1, G1 = G' := ⟨_, rfl⟩
  refine gom ?_
  refine WL.op (by kernel_rfl) (OW.alloc rfl fun b9 => ?_)
  by_cases h1 : (objAns o).2.2 = 0
  rotate_left
  · have e1 : ((objAns o).2.2 != 0) = true := by simpa using h1
    refine gom ?_
    refine WL.op (by kernel_rfl) (OW.callK rfl (awake_fnQ _) rfl fun v' G' H' h hg => ?_)
    obtain ⟨he, hg2, rfl⟩ := h
    cases he
    refine gom ?_
    refine WC.ret ?_
    refine WK.un ?_
    exact QF.p1 (.inl rfl) rfl (.tmp rfl) (⟨rfl, Gh.le_trans hg1 hg2⟩)
  have e1 : ((objAns o).2.2 != 0) = false := by simpa using h1
  by_cases h2 : o.needs = []
  rotate_left
  · have e2 : decide (0 < (o.needs.length : Int)) = true := decide_eq_true (by have := List.length_pos_iff.2 h2; omega)
    refine gom ?_
    refine WL.op (by kernel_rfl) (OW.callK rfl (awake_fnQ _) rfl fun v' G' H' h hg => ?_)
    obtain ⟨he, hg2, rfl⟩ := h
    cases he
    refine gom ?_
    refine WC.ret ?_
    refine WK.un ?_
    exact QF.p1 (.inl rfl) rfl (.tmp rfl) (⟨rfl, Gh.le_trans hg1 hg2⟩)
  have e2 : decide (0 < (o.needs.length : Int)) = false := decide_eq_false (by rw [h2]; decide)
  refine gom ?_
  refine WL.op (by kernel_rfl) (OW.alloc rfl fun b11 => ?_)
  refine gom ?_
  have hB := pgB_of h1
  have hO1 := hO.mono hg1
  have hA1 := hA.mono hg1
  have hst := Start_fn G1 ⟨o.consts, o.procs⟩ CA PA cc pc (.slice none 0 0) hO1.consts hO1.procs hB n AA ac args [] hA1.vals (by omega)
  cases hs : startR ⟨o.consts, o.procs⟩ n args with
  | none =>
    rw [hs] at hst
    refine WL.op (by kernel_rfl) (OW.callK rfl (hst) rfl fun v' G' H' h hg => ?_)
    obtain ⟨he, rfl, rfl⟩ := h
    cases he
    refine gom ?_
    refine WL.p (Gp.eqPtrNil rfl (Tryz.underlying37.trans (by kernel_rfl))) (by kernel_rfl) rfl ?_
    refine gom ?_
    refine WL.op (by kernel_rfl) (OW.callK rfl (awake_fnQ _) rfl fun v' G' H' h hg => ?_)
    obtain ⟨he, hg2, rfl⟩ := h
    cases he
    refine gom ?_
    refine WC.ret ?_
    refine WK.un ?_
    exact QF.p1 (.inl rfl) rfl (.tmp rfl) (⟨rfl, Gh.le_trans hg1 hg2⟩)
  | some q =>
  rw [hs] at hst
  refine WL.op (by kernel_rfl) (OW.callK rfl (hst) rfl fun v' G' H' h hg => ?_)
  obtain ⟨mb, CA', PA', cc', pc', H1, he, hg2, hC', hP', hR, rfl⟩ := h
  cases he
  refine gom ?_
  have hg12 := Gh.le_trans hg1 hg2
  obtain ⟨hI, hLv⟩ := startS_inv hs
  have hSI := SafeI.start h1 hs
  have hst0 : (startS q n args).steps = 0 := by unfold startS; rfl
  obtain ⟨G2, rfl⟩ : ∃ G2, G2 = G' := ⟨_, rfl⟩
  have xm : ((m : Int)).tmod 600 = ((m % 600 : Nat) : Int) := by rw [Int.tmod_eq_emod_of_nonneg (by omega)]; omega
  refine WC.pick (.blk b4 (.cells (obC o CA NA PA cc nc pc) 26 (0, 0)) :: .blk b11 (.cells #[.slice CA o.consts.length cc, .slice PA o.procs.length pc, .slice none 0 0] 36 (0, 0)) :: H1) ?_
  refine WC.loop (X := SL) (fun x => [(1, .int .i64 n), (2, .slice AA args.length ac), (3, .int .u16 (m : Int)), (4, .pointer (some ⟨b4, 0, none⟩)), (11, .pointer (some ⟨b11, 0, none⟩)), (12, .pointer (some ⟨mb, 0, none⟩)), (14, .int .i64 x.i)]) (fun x => x.G)
    (fun x => .blk b4 (.cells (obC o CA NA PA cc nc pc) 26 (0, 0)) :: .blk b11 (.cells #[.slice CA o.consts.length cc, .slice PA o.procs.length pc, .slice none 0 0] 36 (0, 0)) :: x.H) (fun x => 600 - x.i)
    (fun x => x.i ≤ m % 600 ∧ G2.le x.G ∧ MRep CA' PA' cc' pc' o.consts.length o.procs.length (.slice none 0 0) mb x.s x.H ∧ Inv ⟨o.consts, o.procs⟩ x.s ∧ Live x.s ∧ SafeI o x.s ∧ x.s.steps ≤ x.i) ⟨0, startS q n args, H1, G2⟩
    ⟨Nat.zero_le _, Gh.le_refl _, hR, hI, hLv, hSI, by rw [hst0]; exact Nat.zero_le _⟩ (by exact ⟨rfl, rfl, rfl, rfl, rfl, rfl, rfl, trivial⟩) rfl (List.Sublist.refl _) fun x hx => ?_
  obtain ⟨i, s, H, G3⟩ := x
  obtain ⟨hi, hg3, hR3, hI3, hL3, hS3, hst3⟩ := hx
  dsimp only at hi hg3 hR3 hI3 hL3 hS3 hst3
  refine gom ?_
  refine WL.p (Gp.convToW (r := (m : Int)) rfl (by rw [IntKind.wrap_i64]; omega)) (by kernel_rfl) rfl ?_
  refine WL.p (Gp.remToW (r := ((m % 600 : Nat) : Int)) rfl rfl (by omega) xm) (by kernel_rfl) rfl ?_
  by_cases hlt : i < m % 600
  rotate_left
  · have e3 : decide ((i : Int) < ((m % 600 : Nat) : Int)) = false := decide_eq_false (by omega)
    refine gom ?_
    refine WL.op (by kernel_rfl) (OW.callK rfl (Outcome_fn G3 CA' PA' cc' pc' o.consts.length o.procs.length (.slice none 0 0) mb s H hR3 hL3.made (by have := hI3.out.1; omega)) rfl fun v' G' H' h hg => ?_)
    obtain ⟨OA, oc, ox, he, rfl, hox, hh⟩ := h
    cases hh.symm
    cases he
    refine WL.pick (.blk b4 (.cells (obC o CA NA PA cc nc pc) 26 (0, 0)) :: .blk b11 (.cells #[.slice CA o.consts.length cc, .slice PA o.procs.length pc, .slice none 0 0] 36 (0, 0)) :: H) ?_
    have e7 : (s.en != 6) = true := by simpa using hS3.en
    refine WL.p (Gp.ocEnd (o := s.oc) rfl) (by kernel_rfl) rfl ?_
    refine gom ?_
    refine WL.op (by kernel_rfl) (OW.callK rfl (Run_fn G3 ⟨o.consts, o.procs⟩ CA PA cc pc (.slice none 0 0) (hO1.consts.mono (Gh.le_trans hg2 hg3)) (hO1.procs.mono (Gh.le_trans hg2 hg3)) hB n 20000 (by decide) AA ac args [] (hA1.mono (Gh.le_trans hg2 hg3)).vals (by omega)) rfl fun v' G' H' h hg => ?_)
    obtain ⟨RA, rc, rx, he, hg4, hrx, rfl⟩ := h
    cases he
    have e8 : ((runR ⟨o.consts, o.procs⟩ n 20000 args).en != 6) = true := by simpa using runR_safe h1 h2 hs
    refine WL.p (Gp.ocEnd rfl) (by kernel_rfl) rfl ?_
    refine gom ?_
    refine WL.op (by kernel_rfl) (OW.callK rfl (awake_fnQ _) rfl fun v' G' H' h hg => ?_)
    obtain ⟨he, hg5, rfl⟩ := h
    cases he
    refine gom ?_
    refine WC.ret ?_
    refine WK.un ?_
    exact QF.p1 (.inl rfl) rfl (.tmp rfl) (⟨rfl, Gh.le_trans hg12 (Gh.le_trans hg3 (Gh.le_trans hg4 hg5))⟩)
  have e3 : decide ((i : Int) < ((m % 600 : Nat) : Int)) = true := decide_eq_true (by omega)
  refine gom ?_
  refine WL.op (by kernel_rfl) (OW.callK rfl (Ended_fn G3 CA' PA' cc' pc' o.consts.length o.procs.length (.slice none 0 0) mb s H hR3) rfl fun v' G' H' h hg => ?_)
  obtain ⟨he, rfl, hh⟩ := h
  cases hh.symm
  cases he
  have hmd := hL3.made
  cases hen : s.ended with
  | true =>
    rw [show (madeB s && true) = true by rw [hmd]; rfl]
    refine WL.pick (.blk b4 (.cells (obC o CA NA PA cc nc pc) 26 (0, 0)) :: .blk b11 (.cells #[.slice CA o.consts.length cc, .slice PA o.procs.length pc, .slice none 0 0] 36 (0, 0)) :: H) ?_
    refine gom ?_
    refine WL.op (by kernel_rfl) (OW.callK rfl (Outcome_fn G3 CA' PA' cc' pc' o.consts.length o.procs.length (.slice none 0 0) mb s H hR3 hL3.made (by have := hI3.out.1; omega)) rfl fun v' G' H' h hg => ?_)
    obtain ⟨OA, oc, ox, he, rfl, hox, hh⟩ := h
    cases hh.symm
    cases he
    refine WL.pick (.blk b4 (.cells (obC o CA NA PA cc nc pc) 26 (0, 0)) :: .blk b11 (.cells #[.slice CA o.consts.length cc, .slice PA o.procs.length pc, .slice none 0 0] 36 (0, 0)) :: H) ?_
    have e7 : (s.en != 6) = true := by simpa using hS3.en
    refine WL.p (Gp.ocEnd (o := s.oc) rfl) (by kernel_rfl) rfl ?_
    refine gom ?_
    refine WL.op (by kernel_rfl) (OW.callK rfl (Run_fn G3 ⟨o.consts, o.procs⟩ CA PA cc pc (.slice none 0 0) (hO1.consts.mono (Gh.le_trans hg2 hg3)) (hO1.procs.mono (Gh.le_trans hg2 hg3)) hB n 20000 (by decide) AA ac args [] (hA1.mono (Gh.le_trans hg2 hg3)).vals (by omega)) rfl fun v' G' H' h hg => ?_)
    obtain ⟨RA, rc, rx, he, hg4, hrx, rfl⟩ := h
    cases he
    have e8 : ((runR ⟨o.consts, o.procs⟩ n 20000 args).en != 6) = true := by simpa using runR_safe h1 h2 hs
    refine WL.p (Gp.ocEnd rfl) (by kernel_rfl) rfl ?_
    refine gom ?_
    refine WL.op (by kernel_rfl) (OW.callK rfl (awake_fnQ _) rfl fun v' G' H' h hg => ?_)
    obtain ⟨he, hg5, rfl⟩ := h
    cases he
    refine gom ?_
    refine WC.ret ?_
    refine WK.un ?_
    exact QF.p1 (.inl rfl) rfl (.tmp rfl) (⟨rfl, Gh.le_trans hg12 (Gh.le_trans hg3 (Gh.le_trans hg4 hg5))⟩)
  | false =>
  rw [show (madeB s && false) = false by rw [hmd]; rfl]
  have htold := hS3.told h1 hen
  obtain ⟨ht1, ht2, ht3⟩ := htold
  refine WL.pick (.blk b4 (.cells (obC o CA NA PA cc nc pc) 26 (0, 0)) :: .blk b11 (.cells #[.slice CA o.consts.length cc, .slice PA o.procs.length pc, .slice none 0 0] 36 (0, 0)) :: H) ?_
  refine gom ?_
  refine WL.op (by kernel_rfl) (OW.callK rfl (Spot_fn G3 CA' PA' cc' pc' o.consts.length o.procs.length (.slice none 0 0) mb s H hR3 hmd (by have := hI3.frames; omega)) rfl fun v' G' H' h hg => ?_)
  obtain ⟨he, rfl, hh⟩ := h
  cases hh.symm
  cases he
  refine WL.op (by kernel_rfl) (OW.alloc rfl fun b15 => ?_)
  refine WL.pick (.blk b15 (.cells #[.int .i64 0, .int .i64 0] 29 (0, 0)) :: .blk b4 (.cells (obC o CA NA PA cc nc pc) 26 (0, 0)) :: .blk b11 (.cells #[.slice CA o.consts.length cc, .slice PA o.procs.length pc, .slice none 0 0] 36 (0, 0)) :: H) ?_
  refine gom ?_
  have hg23 := Gh.le_trans hg2 hg3
  refine WL.op (by kernel_rfl) (OW.callK rfl (Types_fn G3 (hE.mono (Gh.le_trans hg12 hg3)) o CA NA PA cc nc pc (hO1.mono hg23) hL (spotR s).1 (spotR s).2) rfl fun v' G' H' h hg => ?_)
  obtain ⟨VA, vc, SA, sc, tx, ty, he, hg4, htx, hty, rfl⟩ := h
  cases he
  rw [ht1]
  have hlv : (typesR o (spotR s).1 (spotR s).2).1.length ≤ 64 := by have := ht2.length; have := hI3.topV; simp [tys] at *; omega
  have hls : (typesR o (spotR s).1 (spotR s).2).2.length ≤ 128 := by have := ht3.length; have := hI3.topS; simp [tys] at *; omega
  refine WL.frozenVec htx (by (repeat first | exact .here | apply At.there)) fun G5 hg5 z5 => ?_
  refine WL.frozenVec hty (by (repeat first | exact .here | apply At.there)) fun G6 hg6 z6 => ?_
  have hV : Sl (Kd.int .i64) G6 VA (typesR o (spotR s).1 (spotR s).2).1 := (IVec.sl z5).mono hg6
  have hS : Sl (Kd.int .i64) G6 SA (typesR o (spotR s).1 (spotR s).2).2 := IVec.sl z6
  refine WL.pick (.blk b4 (.cells (obC o CA NA PA cc nc pc) 26 (0, 0)) :: .blk b11 (.cells #[.slice CA o.consts.length cc, .slice PA o.procs.length pc, .slice none 0 0] 36 (0, 0)) :: H) ?_
  refine gom ?_
  refine WL.op (by kernel_rfl) (OW.callK rfl (Vars_fn G6 CA' PA' cc' pc' o.consts.length o.procs.length (.slice none 0 0) mb s H hR3 (by have := hI3.frames; omega) (by have := hI3.topV; omega)) rfl fun v' G' H' h hg => ?_)
  obtain ⟨XA, xc, xx, he, rfl, hxx, hh⟩ := h
  cases hh.symm
  cases he
  refine WL.op (by kernel_rfl) (OW.callK rfl (sfits_fn G6 VA _ vc hV XA _ xc xx hxx ht2 (by omega)) rfl fun v' G' H' h hg => ?_)
  obtain ⟨he, rfl, hh⟩ := h
  cases hh.symm
  cases he
  refine WL.pick (.blk b4 (.cells (obC o CA NA PA cc nc pc) 26 (0, 0)) :: .blk b11 (.cells #[.slice CA o.consts.length cc, .slice PA o.procs.length pc, .slice none 0 0] 36 (0, 0)) :: H) ?_
  refine gom ?_
  refine WL.op (by kernel_rfl) (OW.callK rfl (Stack_fn G6 CA' PA' cc' pc' o.consts.length o.procs.length (.slice none 0 0) mb s H hR3 (by have := hI3.frames; omega) (by have := hI3.topS; omega)) rfl fun v' G' H' h hg => ?_)
  obtain ⟨YA, yc, yy, he, rfl, hyy, hh⟩ := h
  cases hh.symm
  cases he
  refine WL.op (by kernel_rfl) (OW.callK rfl (sfits_fn G6 SA _ sc hS YA _ yc yy hyy ht3 (by omega)) rfl fun v' G' H' h hg => ?_)
  obtain ⟨he, rfl, hh⟩ := h
  cases hh.symm
  cases he
  refine WL.pick (.blk b4 (.cells (obC o CA NA PA cc nc pc) 26 (0, 0)) :: .blk b11 (.cells #[.slice CA o.consts.length cc, .slice PA o.procs.length pc, .slice none 0 0] 36 (0, 0)) :: H) ?_
  refine gom ?_
  refine WL.op (by kernel_rfl) (OW.callK rfl (Step_fn G6 ⟨o.consts, o.procs⟩ CA' PA' cc' pc' (hC'.mono (Gh.le_trans hg3 (Gh.le_trans hg4 (Gh.le_trans hg5 hg6)))) (hP'.mono (Gh.le_trans hg3 (Gh.le_trans hg4 (Gh.le_trans hg5 hg6)))) (fun pr h => by have := hB.code pr h; omega) mb (.slice none 0 0) s H hR3 hI3 hL3 1 (by decide) (by omega)) rfl fun v' G' H' h hg => ?_)
  obtain ⟨he, rfl, hR7⟩ := h
  have hone : runM ⟨o.consts, o.procs⟩ (1 : Int).toNat s = (1, stepM ⟨o.consts, o.procs⟩ s) := runM_one hen
  rw [hone] at he hR7
  cases he
  have xw := wrapS i (by omega)
  refine gom ?_
  have hI7 := Inv.run 1 s hI3 hL3
  have hs7 := runM_steps1 hI3 hL3 hen
  rw [show runM ⟨o.consts, o.procs⟩ 1 s = (1, stepM ⟨o.consts, o.procs⟩ s) from runM_one hen] at hI7
  refine WK.pick (.blk b4 (.cells (obC o CA NA PA cc nc pc) 26 (0, 0)) :: .blk b11 (.cells #[.slice CA o.consts.length cc, .slice PA o.procs.length pc, .slice none 0 0] 36 (0, 0)) :: H') ?_
  exact WK.again ⟨i + 1, stepM ⟨o.consts, o.procs⟩ s, H', G6⟩ (by dsimp only; omega) ⟨by show i + 1 ≤ _; omega, Gh.le_trans hg3 (Gh.le_trans hg4 (Gh.le_trans hg5 hg6)), hR7, hI7.1, hI7.2, hS3.step h1 h2 hen, by show (stepM _ s).steps ≤ i + 1; omega⟩ (by exact ⟨rfl, rfl, rfl, rfl, rfl, rfl, rfl, trivial⟩) rfl (List.Sublist.refl _)
end
end Go.Proofs.YtbfgljcjblfleaaGreatDoor.Gb
namespace Go.Proofs.YtbfgljcjblfleaaGreatDoor.Gb
open Go Go.Proofs
section
attribute [local irreducible] Tryz.prog
variable {H : Type} (enc : TypeId × Value → H) (w : World)
theorem open_valsU {v : Value} {d : DataW H} {ps : List MemPlace} {base : Nat} (hval : Value.okWide Tryz.prog w .any base 22 v) (hd : DataW.Trod enc Tryz.prog w 0 (fun _ => true) true 22 v d ps) (hw : Rows.uptoBulk d ≤ 1048576) :
    ∃ (x : List V) (A : Option Addr) (c : Nat), v = .slice A x.length c ∧ Sl Kd.val (Gw w) A x ∧ x.length ≤ c ∧ x.length ≤ 1048576 := by
  obtain ⟨A, c, x, h1, h2, h3, h4, _⟩ := open_sliceU enc Tryz.prog w Tryz.underlying22 (k := Kd.val) ecellsV (by decide) (OpensU.value enc w) hval hd hw
  exact ⟨x, A, c, h1, h3, h2, h4⟩
end
end Go.Proofs.YtbfgljcjblfleaaGreatDoor.Gb
