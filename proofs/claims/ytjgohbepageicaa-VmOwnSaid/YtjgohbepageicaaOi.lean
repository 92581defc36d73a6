/- A machine is started. What a machine tells; a run. A run. What a machine tells: its place, its variables, its stack; are values the same. What a machine tells: its place, its variables, its stack; and what one tells that nobody started. Plain laws of the machine: some steps and then some; more fuel. From a contract of the small logic to what a row asks: of what was there nothing turns. What a row tells of its arguments, opened: the data behind slices and structs, with the bounds that their weights give. A program, and arguments, as a row hands them in: opened. More fuel: the plain law; what a statement's program is in memory. -/
import Derived.Test.YtjgohbepageicaaOh
import Derived.RowKit3
import Derived.SizedLaws
import Derived.ChangeSlices
import Derived.Carry
namespace Go.Proofs.Ytjgohbepageicaa.Gb
open Go Go.Proofs
set_option linter.unusedVariables false
set_option linter.unusedSimpArgs false
set_option linter.unusedSectionVars false
attribute [local irreducible] Try.prog

def startR (pg : Pg) (n : Int) (args : List V) : Option Pr := if n < 0 then none else match pg.procs[n.toNat]? with
  | none => none
  | some q => if sizedP q = false then none else if args.length ≠ q.params.length then none else if (args.all vOK && decide (tys args = q.params)) = true then some q else none
def startS (q : Pr) (n : Int) (args : List V) : Mc := ⟨[⟨n.toNat, 0, [], padded args q.locals⟩], [], 0, 0, V0, false⟩
/-- how a start ends -/
def StartP (G : Gh) (pg : Pg) (n : Int) (args : List V) (Ha : List Own) (r : Option Pr) : Ending → Gh → List Own → Prop := fun e G' H' => match r with
  | none => e = .returned (.tuple #[.pointer none, .int .i64 1]) ∧ G = G' ∧ H' = Ha
  | some q => ∃ mb CA' PA' cc' pc' H1, e = .returned (.tuple #[.pointer (some ⟨mb, 0, none⟩), .int .i64 0]) ∧ G.le G' ∧ Sl Kd.val G' CA' pg.consts ∧ Sl Kd.prc G' PA' pg.procs ∧
      MRep CA' PA' cc' pc' pg.consts.length pg.procs.length (.slice none 0 0) mb (startS q n args) H1 ∧ H' = H1 ++ Ha

theorem Start_fn (G : Gh) (pg : Pg) (CA PA : Option Addr) (cc pc : Nat) (qv : Value) (hC : Sl Kd.val G CA pg.consts) (hP : Sl Kd.prc G PA pg.procs) (hB : PgB pg) (n : Int) (AA : Option Addr) (ac : Nat) (args : List V) (Ha : List Own) (hr : Rds G Ha AA (vflat args)) (hal : args.length * 40 ≤ 140737488355328) :
    Fn Try.prog 22 #[.agg #[.slice CA pg.consts.length cc, .slice PA pg.procs.length pc, qv], .int .i64 n, .slice AA args.length ac] G Ha (StartP G pg n args Ha (startR pg n args)) := by
  refine Fn.enter Try.func22 rfl rfl fun w0 => ?_
  refine WC.seq ?_
  refine WC.region ?_
  refine WL.op (by kernel_rfl) (OW.box rfl rfl fun b9 => ?_)
  refine WL.p (Gp.assign rfl) (by kernel_rfl) rfl ?_
  refine WL.p (Gp.assign rfl) (by kernel_rfl) rfl ?_
  refine WL.nil ?_
  refine WK.un ?_
  refine WC.seq ?_
  refine WC.seq ?_
  refine WC.region ?_
  refine WL.p (Gp.move rfl) (by kernel_rfl) rfl ?_
  by_cases hn0 : n < 0
  ·
    refine WL.p (Gp.ltI' rfl rfl (decide_eq_true hn0)) (by kernel_rfl) rfl ?_
    refine WL.p (Gp.move rfl) (by kernel_rfl) rfl ?_
    refine WL.skip (by kernel_rfl) rfl ?_
    refine WL.skip (by kernel_rfl) rfl ?_
    refine WL.skip (by kernel_rfl) rfl ?_
    refine WL.skip (by kernel_rfl) rfl ?_
    refine WL.skip (by kernel_rfl) rfl ?_
    (first | refine WL.p (Gp.pickT rfl rfl) (by kernel_rfl) rfl ?_ | refine WL.p (Gp.pickF rfl rfl) (by kernel_rfl) rfl ?_)
    refine WL.nil ?_
    refine WK.un ?_
    refine WC.cond_true rfl ?_
    refine WC.seq ?_
    refine WC.region ?_
    refine WL.p (Gp.assign rfl) (by kernel_rfl) rfl ?_
    refine WL.p (Gp.assign rfl) (by kernel_rfl) rfl ?_
    refine WL.nil ?_
    refine WK.un ?_
    rw [show startR pg n args = none by rw [startR, if_pos hn0]]
    refine WC.ret ?_
    refine WK.un ?_
    exact QF.p2 (.inl rfl) rfl (.tmp rfl) (.tmp rfl) (⟨rfl, rfl, rfl⟩)
  refine WL.p (Gp.ltI' rfl rfl (decide_eq_false hn0)) (by kernel_rfl) rfl ?_
  obtain ⟨i, rfl⟩ := Int.eq_ofNat_of_zero_le (Int.not_lt.1 hn0)
  refine WL.p (Gp.move rfl) (by kernel_rfl) rfl ?_
  refine WL.p (Gp.move rfl) (by kernel_rfl) rfl ?_
  refine WL.p (Gp.fieldAddr rfl) (by kernel_rfl) rfl ?_
  (first | (refine WL.v (Gv.load1 rfl (by (repeat first | exact .here | apply At.there)) (by first | rfl | assumption)) (by kernel_rfl) rfl ?_) | (refine WL.v (Gv.loadN rfl (by (repeat first | exact .here | apply At.there)) (by rfl) (by rfl)) (by kernel_rfl) rfl ?_) | (refine WL.v (Gv.loadG1 rfl (by assumption) rfl) (by kernel_rfl) rfl ?_) | (refine WL.v (Gv.loadG0 rfl (by assumption) rfl) (by kernel_rfl) rfl ?_) | (refine WL.v (Gv.loadGN rfl (by assumption) rfl) (by kernel_rfl) rfl ?_))
  (first | refine WL.p (Gp.lenSl rfl) (by kernel_rfl) rfl ?_ | refine WL.p (Gp.lenS rfl) (by kernel_rfl) rfl ?_)
  cases hq : pg.procs[i]? with
  | none =>
    refine WL.p (Gp.geI' rfl rfl (decide_eq_true (by have := List.getElem?_eq_none_iff.1 hq; omega))) (by kernel_rfl) rfl ?_
    (first | refine WL.p (Gp.pickT rfl rfl) (by kernel_rfl) rfl ?_ | refine WL.p (Gp.pickF rfl rfl) (by kernel_rfl) rfl ?_)
    refine WL.nil ?_
    refine WK.un ?_
    refine WC.cond_true rfl ?_
    refine WC.seq ?_
    refine WC.region ?_
    refine WL.p (Gp.assign rfl) (by kernel_rfl) rfl ?_
    refine WL.p (Gp.assign rfl) (by kernel_rfl) rfl ?_
    refine WL.nil ?_
    refine WK.un ?_
    rw [show startR pg (i : Int) args = none by rw [startR, if_neg hn0, Int.toNat_natCast, hq]]
    refine WC.ret ?_
    refine WK.un ?_
    exact QF.p2 (.inl rfl) rfl (.tmp rfl) (.tmp rfl) (⟨rfl, rfl, rfl⟩)
  | some q =>
  have hil := (List.getElem?_eq_some_iff.1 hq).1
  refine WL.p (Gp.geI' rfl rfl (decide_eq_false (by omega))) (by kernel_rfl) rfl ?_
  (first | refine WL.p (Gp.pickT rfl rfl) (by kernel_rfl) rfl ?_ | refine WL.p (Gp.pickF rfl rfl) (by kernel_rfl) rfl ?_)
  refine WL.nil ?_
  refine WK.un ?_
  refine WC.cond_false rfl ?_
  refine WC.skip ?_
  refine WK.un ?_
  obtain ⟨pb, po, cs, hPA, ⟨QA, qc, IA, ic, rfl, hQ, hI⟩, hcs⟩ := hP i q hq
  have hP' := hP
  subst hPA
  have hcR : startR pg (i : Int) args = if sizedP q = false then none else if args.length ≠ q.params.length then none else if (args.all vOK && decide (tys args = q.params)) = true then some q else none := by rw [startR, if_neg hn0, Int.toNat_natCast, hq]
  refine WC.seq ?_
  refine WC.region ?_
  refine WL.p (Gp.fieldAddr rfl) (by kernel_rfl) rfl ?_
  (first | (refine WL.v (Gv.load1 rfl (by (repeat first | exact .here | apply At.there)) (by first | rfl | assumption)) (by kernel_rfl) rfl ?_) | (refine WL.v (Gv.loadN rfl (by (repeat first | exact .here | apply At.there)) (by rfl) (by rfl)) (by kernel_rfl) rfl ?_) | (refine WL.v (Gv.loadG1 rfl (by assumption) rfl) (by kernel_rfl) rfl ?_) | (refine WL.v (Gv.loadG0 rfl (by assumption) rfl) (by kernel_rfl) rfl ?_) | (refine WL.v (Gv.loadGN rfl (by assumption) rfl) (by kernel_rfl) rfl ?_))
  refine WL.p (Gp.move rfl) (by kernel_rfl) rfl ?_
  refine WL.p (Gp.indexAddr rfl rfl (by first | assumption | omega | decide) (by first | assumption | omega | decide | (simp only [List.length_cons, List.length_nil]; decide))) (by kernel_rfl) rfl ?_
  refine WL.v (Gv.loadGN rfl hcs rfl) (by kernel_rfl) rfl ?_
  refine WL.op (by kernel_rfl) (OW.alloc rfl fun b11 => ?_)
  refine WL.op (by kernel_rfl) (OW.store rfl rfl (by (repeat first | exact .here | apply At.there)) rfl (by rfl) (by rfl) (by kernel_rfl) (by rfl) ?_ rfl)
  refine WL.nil ?_
  refine WK.un ?_
  refine WC.seq ?_
  refine WC.seq ?_
  refine WC.region ?_
  refine WL.v (Gv.loadN rfl .here rfl rfl) (by kernel_rfl) rfl ?_
  refine WL.op (by kernel_rfl) (OW.callR rfl (Hf := []) (List.Perm.refl _) (sized_fn G q.name q.exp QA q.params.length qc q.locals q.result (.slice IA q.code.length ic)) rfl (by rintro e G' H' ⟨h, _⟩; exact ⟨_, h⟩) fun v' G' H' h hg => ?_)
  obtain ⟨he, rfl, rfl⟩ := h
  cases he
  rw [show (decide ((q.params.length : Int) ≤ q.locals) && decide (q.locals ≤ 64)) = sizedP q from rfl]
  cases hs : sizedP q with
  | false =>
    refine WL.p (Gp.notB rfl) (by kernel_rfl) rfl ?_
    refine WL.p (Gp.move rfl) (by kernel_rfl) rfl ?_
    refine WL.skip (by kernel_rfl) rfl ?_
    refine WL.skip (by kernel_rfl) rfl ?_
    refine WL.skip (by kernel_rfl) rfl ?_
    refine WL.skip (by kernel_rfl) rfl ?_
    refine WL.skip (by kernel_rfl) rfl ?_
    refine WL.skip (by kernel_rfl) rfl ?_
    (first | refine WL.p (Gp.pickT rfl rfl) (by kernel_rfl) rfl ?_ | refine WL.p (Gp.pickF rfl rfl) (by kernel_rfl) rfl ?_)
    refine WL.nil ?_
    refine WK.un ?_
    refine WC.cond_true rfl ?_
    refine WC.seq ?_
    refine WC.region ?_
    refine WL.p (Gp.assign rfl) (by kernel_rfl) rfl ?_
    refine WL.p (Gp.assign rfl) (by kernel_rfl) rfl ?_
    refine WL.nil ?_
    refine WK.un ?_
    rw [hcR, if_pos hs]
    refine WC.ret ?_
    refine WK.un ?_
    exact QF.p2 (.inl rfl) rfl (.tmp rfl) (.tmp rfl) (⟨rfl, rfl, rfl⟩)
  | true =>
  rw [if_neg (by rw [hs]; decide)] at hcR
  have hs' : (q.params.length : Int) ≤ q.locals ∧ q.locals ≤ 64 := by unfold sizedP at hs; simpa using hs
  refine WL.p (Gp.notB rfl) (by kernel_rfl) rfl ?_
  refine WL.p (Gp.move rfl) (by kernel_rfl) rfl ?_
  refine WL.p (Gp.move rfl) (by kernel_rfl) rfl ?_
  (first | refine WL.p (Gp.lenSl rfl) (by kernel_rfl) rfl ?_ | refine WL.p (Gp.lenS rfl) (by kernel_rfl) rfl ?_)
  refine WL.p (Gp.fieldAddr rfl) (by kernel_rfl) rfl ?_
  (first | (refine WL.v (Gv.load1 rfl (by (repeat first | exact .here | apply At.there)) (by first | rfl | assumption)) (by kernel_rfl) rfl ?_) | (refine WL.v (Gv.loadN rfl (by (repeat first | exact .here | apply At.there)) (by rfl) (by rfl)) (by kernel_rfl) rfl ?_) | (refine WL.v (Gv.loadG1 rfl (by assumption) rfl) (by kernel_rfl) rfl ?_) | (refine WL.v (Gv.loadG0 rfl (by assumption) rfl) (by kernel_rfl) rfl ?_) | (refine WL.v (Gv.loadGN rfl (by assumption) rfl) (by kernel_rfl) rfl ?_))
  (first | refine WL.p (Gp.lenSl rfl) (by kernel_rfl) rfl ?_ | refine WL.p (Gp.lenS rfl) (by kernel_rfl) rfl ?_)
  by_cases hal' : args.length ≠ q.params.length
  ·
    refine WL.p (Gp.neI' rfl rfl (show ((args.length : Int) != (q.params.length : Int)) = true by simp; omega)) (by kernel_rfl) rfl ?_
    (first | refine WL.p (Gp.pickT rfl rfl) (by kernel_rfl) rfl ?_ | refine WL.p (Gp.pickF rfl rfl) (by kernel_rfl) rfl ?_)
    refine WL.nil ?_
    refine WK.un ?_
    refine WC.cond_true rfl ?_
    refine WC.seq ?_
    refine WC.region ?_
    refine WL.p (Gp.assign rfl) (by kernel_rfl) rfl ?_
    refine WL.p (Gp.assign rfl) (by kernel_rfl) rfl ?_
    refine WL.nil ?_
    refine WK.un ?_
    rw [hcR, if_pos hal']
    refine WC.ret ?_
    refine WK.un ?_
    exact QF.p2 (.inl rfl) rfl (.tmp rfl) (.tmp rfl) (⟨rfl, rfl, rfl⟩)
  rw [if_neg hal'] at hcR
  have hal2 : args.length = q.params.length := Classical.not_not.1 hal'
  refine WL.p (Gp.neI' rfl rfl (show ((args.length : Int) != (q.params.length : Int)) = false by simp; omega)) (by kernel_rfl) rfl ?_
  (first | refine WL.p (Gp.pickT rfl rfl) (by kernel_rfl) rfl ?_ | refine WL.p (Gp.pickF rfl rfl) (by kernel_rfl) rfl ?_)
  refine WL.nil ?_
  refine WK.un ?_
  refine WC.cond_false rfl ?_
  refine WC.skip ?_
  refine WK.un ?_
  refine WC.seq ?_
  refine WC.seq ?_
  refine WC.region ?_
  refine WL.p (Gp.move rfl) (by kernel_rfl) rfl ?_
  (first | refine WL.p (Gp.lenSl rfl) (by kernel_rfl) rfl ?_ | refine WL.p (Gp.lenS rfl) (by kernel_rfl) rfl ?_)
  refine WL.p (Gp.move rfl) (by kernel_rfl) rfl ?_
  refine WL.nil ?_
  refine WK.un ?_
  refine WC.block ?_  -- 0
  refine WC.pk (H' := .blk b11 (.cells #[.string q.name, .bool q.exp, .slice QA q.params.length qc, .int .i64 q.locals, .int .i64 q.result, .slice IA q.code.length ic] 55 (0, 0)) :: .blk b9 (.cells #[.slice CA pg.consts.length cc, .slice (some ⟨pb, po, none⟩) pg.procs.length pc, qv] 26 (0, 0)) :: Ha) (by repeat (first | exact Pk.nil | exact Pk.all | exact Pk.app | exact Pk.appR | with_reducible apply Pk.na | (apply Pk.cons; (repeat first | exact .here | apply Rem.there | apply Rem.app)) | apply Pk.skip | apply Pk.skipA)) ?_
  refine WC.loop (X := Nat) (fun j => [(39, .int .i64 j), (38, .int .i64 args.length), (37, .slice AA args.length ac), (8, .pointer (some ⟨b11, 0, none⟩)), (3, .pointer (some ⟨b9, 0, none⟩)), (1, .int .i64 i), (2, .slice AA args.length ac)]) (fun j => G)
    (fun j => .blk b11 (.cells #[.string q.name, .bool q.exp, .slice QA q.params.length qc, .int .i64 q.locals, .int .i64 q.result, .slice IA q.code.length ic] 55 (0, 0)) :: .blk b9 (.cells #[.slice CA pg.consts.length cc, .slice (some ⟨pb, po, none⟩) pg.procs.length pc, qv] 26 (0, 0)) :: Ha) (fun j => args.length - j)
    (fun j => j ≤ args.length ∧ ∀ k (u : V) t, k < j → args[k]? = some u → q.params[k]? = some t → vOK u = true ∧ u.t = t) 0 ⟨by omega, fun k u t h => by omega⟩ (by exact ⟨rfl, rfl, rfl, rfl, rfl, rfl, rfl, trivial⟩) rfl (List.Sublist.refl _) fun j hx => ?_
  obtain ⟨hj, hall⟩ := hx
  refine WC.seq ?_
  refine WC.region ?_
  (first | refine WL.p (Gp.ltI rfl rfl) (by kernel_rfl) rfl ?_ | refine WL.p (Gp.ltS rfl rfl) (by kernel_rfl) rfl ?_)
  refine WL.nil ?_
  refine WK.un ?_
  refine WC.seq ?_
  refine WC.cond rfl (fun hc13 => ?_) (fun hc13 => ?_)
  · -- yes
    have hlt : j < args.length := by have h := of_decide_eq_true hc13; omega
    obtain ⟨u, hu⟩ : ∃ u, args[j]? = some u := ⟨_, List.getElem?_eq_getElem hlt⟩
    obtain ⟨t, ht⟩ : ∃ t, q.params[j]? = some t := ⟨_, List.getElem?_eq_getElem (by omega)⟩
    obtain ⟨qb, qo, cs, rfl, hK, hcsq⟩ := hQ j t ht
    obtain rfl : cs = [.int .i64 t] := hK
    rcases hr with h0 | ⟨lb, lo, rfl, hread⟩
    · have h := congrArg List.length h0
      rw [vflat_length] at h; simp only [List.length_nil] at h; omega
    have hbad : ¬ (vOK u = true ∧ u.t = t) → startR pg (i : Int) args = none := fun hno => by
      rw [hcR, if_neg]
      intro h
      rw [Bool.and_eq_true, decide_eq_true_iff, List.all_eq_true] at h
      refine hno ⟨h.1 u (List.mem_of_getElem? hu), ?_⟩
      have h1 := congrArg (fun l => l[j]?) h.2
      simp only [tys, List.getElem?_map, hu, ht, Option.map_some, Option.some.injEq] at h1
      exact h1
    refine WC.skip ?_
    refine WK.un ?_
    refine WC.seq ?_
    refine WC.block ?_  -- 1
    refine WC.seq ?_
    refine WC.region ?_
    refine WL.p (Gp.move rfl) (by kernel_rfl) rfl ?_
    refine WL.p (Gp.indexAddr rfl rfl (by first | assumption | omega | decide) (by first | assumption | omega | decide | (simp only [List.length_cons, List.length_nil]; decide))) (by kernel_rfl) rfl ?_
    refine WL.v (Gv.loadRN rfl hread (by repeat (first | exact List.Sublist.refl _ | exact List.nil_sublist _ | apply List.Sublist.cons)) (vflat_elem args j u hu) rfl) (by kernel_rfl) rfl ?_
    refine WL.op (by kernel_rfl) (OW.alloc rfl fun b14 => ?_)
    refine WL.p (Gp.assign rfl) (by kernel_rfl) rfl ?_
    refine WL.op (by kernel_rfl) (OW.store rfl rfl (by (repeat first | exact .here | apply At.there)) rfl (by rfl) (by rfl) (by kernel_rfl) (by rfl) ?_ rfl)
    refine WL.nil ?_
    refine WK.un ?_
    refine WC.seq ?_
    refine WC.draw mixed ?_
    refine WA.tv (i := 0) rfl (by kernel_rfl) (by kernel_rfl) rfl (Gv.loadN rfl .here rfl rfl) ?_
    refine WA.one (i := 1) (by kernel_rfl) rfl (by kernel_rfl) (OW.callR rfl (Hf := []) (List.Perm.refl _) (value_fn G u) rfl (by rintro e G' H' ⟨h, _⟩; exact ⟨_, h⟩) fun v' G' H' h hg => ?_)
    obtain ⟨he, rfl, rfl⟩ := h
    cases he
    cases hok : vOK u with
    | false =>
      refine WA.tp (i := 2) rfl (by kernel_rfl) (by kernel_rfl) rfl (Gp.notB rfl) ?_
      refine WA.tp (i := 3) rfl (by kernel_rfl) (by kernel_rfl) rfl (Gp.move rfl) ?_
      refine WA.sp (i := 4) rfl (by kernel_rfl) (by kernel_rfl) rfl ?_
      refine WA.sp (i := 5) rfl (by kernel_rfl) (by kernel_rfl) rfl ?_
      refine WA.sp (i := 6) rfl (by kernel_rfl) (by kernel_rfl) rfl ?_
      refine WA.sp (i := 7) rfl (by kernel_rfl) (by kernel_rfl) rfl ?_
      refine WA.sp (i := 8) rfl (by kernel_rfl) (by kernel_rfl) rfl ?_
      refine WA.sp (i := 9) rfl (by kernel_rfl) (by kernel_rfl) rfl ?_
      refine WA.sp (i := 10) rfl (by kernel_rfl) (by kernel_rfl) rfl ?_
      refine WA.sp (i := 11) rfl (by kernel_rfl) (by kernel_rfl) rfl ?_
      (first | refine WA.tp (i := 12) rfl (by kernel_rfl) (by kernel_rfl) rfl (Gp.pickT rfl rfl) ?_ | refine WA.tp (i := 12) rfl (by kernel_rfl) (by kernel_rfl) rfl (Gp.pickF rfl rfl) ?_)
      refine WA.done (by kernel_rfl) ?_
      refine WK.un ?_
      refine WC.cond_true rfl ?_
      refine WC.seq ?_
      refine WC.region ?_
      refine WL.p (Gp.assign rfl) (by kernel_rfl) rfl ?_
      refine WL.p (Gp.assign rfl) (by kernel_rfl) rfl ?_
      refine WL.nil ?_
      refine WK.un ?_
      rw [hbad (fun h => by rw [hok] at h; exact absurd h.1 (by decide))]
      refine WC.ret ?_
      refine WK.un ?_
      exact QF.p2 (.inl rfl) rfl (.tmp rfl) (.tmp rfl) (⟨rfl, rfl, rfl⟩)
    | true =>
    refine WA.tp (i := 2) rfl (by kernel_rfl) (by kernel_rfl) rfl (Gp.notB rfl) ?_
    refine WA.tp (i := 3) rfl (by kernel_rfl) (by kernel_rfl) rfl (Gp.move rfl) ?_
    refine WA.tp (i := 4) rfl (by kernel_rfl) (by kernel_rfl) rfl (Gp.fieldAddr rfl) ?_
    (first | (refine WA.tv (i := 5) rfl (by kernel_rfl) (by kernel_rfl) rfl (Gv.load1 rfl (by (repeat first | exact .here | apply At.there)) (by first | rfl | assumption)) ?_) | (refine WA.tv (i := 5) rfl (by kernel_rfl) (by kernel_rfl) rfl (Gv.loadN rfl (by (repeat first | exact .here | apply At.there)) (by rfl) (by rfl)) ?_) | (refine WA.tv (i := 5) rfl (by kernel_rfl) (by kernel_rfl) rfl (Gv.loadG1 rfl (by assumption) rfl) ?_) | (refine WA.tv (i := 5) rfl (by kernel_rfl) (by kernel_rfl) rfl (Gv.loadG0 rfl (by assumption) rfl) ?_) | (refine WA.tv (i := 5) rfl (by kernel_rfl) (by kernel_rfl) rfl (Gv.loadGN rfl (by assumption) rfl) ?_))
    refine WA.tp (i := 6) rfl (by kernel_rfl) (by kernel_rfl) rfl (Gp.fieldAddr rfl) ?_
    (first | (refine WA.tv (i := 7) rfl (by kernel_rfl) (by kernel_rfl) rfl (Gv.load1 rfl (by (repeat first | exact .here | apply At.there)) (by first | rfl | assumption)) ?_) | (refine WA.tv (i := 7) rfl (by kernel_rfl) (by kernel_rfl) rfl (Gv.loadN rfl (by (repeat first | exact .here | apply At.there)) (by rfl) (by rfl)) ?_) | (refine WA.tv (i := 7) rfl (by kernel_rfl) (by kernel_rfl) rfl (Gv.loadG1 rfl (by assumption) rfl) ?_) | (refine WA.tv (i := 7) rfl (by kernel_rfl) (by kernel_rfl) rfl (Gv.loadG0 rfl (by assumption) rfl) ?_) | (refine WA.tv (i := 7) rfl (by kernel_rfl) (by kernel_rfl) rfl (Gv.loadGN rfl (by assumption) rfl) ?_))
    refine WA.tp (i := 8) rfl (by kernel_rfl) (by kernel_rfl) rfl (Gp.move rfl) ?_
    refine WA.tp (i := 9) rfl (by kernel_rfl) (by kernel_rfl) rfl (Gp.indexAddr rfl rfl (by first | assumption | omega | decide) (by first | assumption | omega | decide | (simp only [List.length_cons, List.length_nil]; decide))) ?_
    refine WA.tv (i := 10) rfl (by kernel_rfl) (by kernel_rfl) rfl (Gv.loadG0 rfl hcsq rfl) ?_
    by_cases htt : u.t = t
    rotate_left
    ·
      refine WA.tp (i := 11) rfl (by kernel_rfl) (by kernel_rfl) rfl (Gp.neI' rfl rfl (show (u.t != t) = true by simpa using htt)) ?_
      (first | refine WA.tp (i := 12) rfl (by kernel_rfl) (by kernel_rfl) rfl (Gp.pickT rfl rfl) ?_ | refine WA.tp (i := 12) rfl (by kernel_rfl) (by kernel_rfl) rfl (Gp.pickF rfl rfl) ?_)
      refine WA.done (by kernel_rfl) ?_
      refine WK.un ?_
      refine WC.cond_true rfl ?_
      refine WC.seq ?_
      refine WC.region ?_
      refine WL.p (Gp.assign rfl) (by kernel_rfl) rfl ?_
      refine WL.p (Gp.assign rfl) (by kernel_rfl) rfl ?_
      refine WL.nil ?_
      refine WK.un ?_
      rw [hbad (fun h => htt h.2)]
      refine WC.ret ?_
      refine WK.un ?_
      exact QF.p2 (.inl rfl) rfl (.tmp rfl) (.tmp rfl) (⟨rfl, rfl, rfl⟩)
    refine WA.tp (i := 11) rfl (by kernel_rfl) (by kernel_rfl) rfl (Gp.neI' rfl rfl (show (u.t != t) = false by simpa using htt)) ?_
    (first | refine WA.tp (i := 12) rfl (by kernel_rfl) (by kernel_rfl) rfl (Gp.pickT rfl rfl) ?_ | refine WA.tp (i := 12) rfl (by kernel_rfl) (by kernel_rfl) rfl (Gp.pickF rfl rfl) ?_)
    refine WA.done (by kernel_rfl) ?_
    refine WK.un ?_
    refine WC.cond_false rfl ?_
    refine WC.skip ?_
    refine WK.un ?_
    refine WC.region ?_
    (first | refine WL.p (Gp.add rfl rfl) (by kernel_rfl) rfl ?_ | refine WL.p (Gp.addS rfl rfl (by first | assumption | omega)) (by kernel_rfl) rfl ?_)
    refine WL.p (Gp.move rfl) (by kernel_rfl) rfl ?_
    refine WL.nil ?_
    refine WK.un ?_
    exact WK.again (j + 1) (by omega) ⟨by omega, fun k u' t' hk hu' ht' => by
      rcases Nat.lt_or_ge k j with h | h
      · exact hall k u' t' h hu' ht'
      · obtain rfl : k = j := by omega
        rw [hu] at hu'; rw [ht] at ht'; cases hu'; cases ht'; exact ⟨hok, htt⟩⟩ (by refine ⟨?_, rfl, rfl, rfl, rfl, rfl, rfl, trivial⟩; show some _ = some _; rw [wrap_small (by omega) (by omega)]; rfl) rfl (by exact .cons _ (List.Sublist.refl _))
  · -- no
    have hge : j = args.length := by have h := of_decide_eq_false hc13; omega
    have hty : tys args = q.params := by
      apply List.ext_getElem?
      intro k
      rcases Nat.lt_or_ge k args.length with hk' | hk'
      · obtain ⟨u, hu⟩ : ∃ u, args[k]? = some u := ⟨_, List.getElem?_eq_getElem hk'⟩
        obtain ⟨t, ht⟩ : ∃ t, q.params[k]? = some t := ⟨_, List.getElem?_eq_getElem (by omega)⟩
        rw [tys, List.getElem?_map, hu, ht, Option.map_some, (hall k u t (by omega) hu ht).2]
      · rw [List.getElem?_eq_none (by simpa [tys] using hk'), List.getElem?_eq_none (by omega)]
    have hok : args.all vOK = true := by
      rw [List.all_eq_true]
      intro u hu
      obtain ⟨k, hk, rfl⟩ := List.getElem_of_mem hu
      obtain ⟨t, ht⟩ : ∃ t, q.params[k]? = some t := ⟨_, List.getElem?_eq_getElem (by omega)⟩
      exact (hall k _ t (by omega) (List.getElem?_eq_getElem hk) ht).1
    rw [hcR, if_pos (by rw [hok, hty]; simp)]
    refine WC.exit ?_
    refine WK.un ?_
    refine WC.seq ?_
    refine WC.region ?_
    refine WL.v (Gv.loadN rfl (by (repeat first | exact .here | apply At.there)) rfl rfl) (by kernel_rfl) rfl ?_
    refine WL.op (by kernel_rfl) (OW.callK rfl (own_fn G pg CA (some ⟨pb, po, none⟩) cc pc qv hC hP hB) rfl fun v' G' H' h hg => ?_)
    obtain ⟨CA', PA', cc', pc', he, hg2, hC2, hP2, rfl⟩ := h
    cases he
    refine WL.p (Gp.build rfl rfl) (by kernel_rfl) rfl ?_
    refine WL.op (by kernel_rfl) (OW.box rfl rfl fun b16 => ?_)
    refine WL.p (Gp.assign rfl) (by kernel_rfl) rfl ?_
    refine WL.nil ?_
    refine WK.un ?_
    refine WC.seq ?_
    refine WC.nothing ?_
    refine WC.nothing ?_
    refine WC.region ?_
    refine WL.p (Gp.move rfl) (by kernel_rfl) rfl ?_
    refine WL.p (Gp.move rfl) (by kernel_rfl) rfl ?_
    refine WL.p (Gp.move rfl) (by kernel_rfl) rfl ?_
    refine WL.op (by kernel_rfl) (OW.callK rfl (enter_fn G' b16 (.slice CA' pg.consts.length cc') (.slice none 0 0) PA' pg.procs.length pc' pg.procs none 0 0 V0 none 0 0 0 false [] (.spare 0 0 0) i q hq rfl hP2 ⟨by simp [ptrs], .inl ⟨rfl, rfl, rfl, rfl⟩⟩ (by simp) AA ac args Ha (hr.le hg2) (by omega) hs'.2) rfl fun v' G' H' h hg => ?_)
    obtain ⟨FA', fcap', b', VA, x', y, he, rfl, rfl, hx', hy'⟩ := h
    cases he
    refine WL.nil ?_
    refine WK.un ?_
    refine WC.seq ?_
    refine WC.region ?_
    refine WL.p (Gp.move rfl) (by kernel_rfl) rfl ?_
    refine WL.p (Gp.assign rfl) (by kernel_rfl) rfl ?_
    refine WL.p (Gp.assign rfl) (by kernel_rfl) rfl ?_
    refine WL.nil ?_
    refine WK.un ?_
    refine WC.ret ?_
    refine WK.un ?_
    refine WK.swap ?_
    exact QF.p2 (.inl rfl) rfl (.tmp rfl) (.tmp rfl) (⟨b16, CA', PA', cc', pc', [mcB b16 (.slice CA' pg.consts.length cc') (.slice PA' pg.procs.length pc') (.slice none 0 0) FA' 1 fcap' 0 V0 none 0 0 0 false, .spare 0 0 0, x', frB b' none 0 0 i 0 VA (padded args q.locals).length (padded args q.locals).length, .spare 0 0 0, y], rfl, hg2, hC2, hP2, ⟨FA', fcap', none, 0, .spare 0 0 0, x', [b'], [frB b' none 0 0 i 0 VA (padded args q.locals).length (padded args q.locals).length, .spare 0 0 0, y], .cons ⟨by simp [vflat], .inl ⟨rfl, rfl, rfl, rfl⟩⟩ hy' .nil, hx', ⟨by simp [startS, vflat], .inl ⟨rfl, rfl, rfl, rfl⟩⟩, rfl⟩, rfl⟩) (by repeat (first | exact Pk.nil | exact Pk.all | exact Pk.app | exact Pk.appR | with_reducible apply Pk.na | (apply Pk.cons; (repeat first | exact .here | apply Rem.there | apply Rem.app)) | apply Pk.skip | apply Pk.skipA))
end Go.Proofs.Ytjgohbepageicaa.Gb
namespace Go.Proofs.Ytjgohbepageicaa.Gb
open Go Go.Proofs
set_option linter.unusedVariables false
set_option linter.unusedSimpArgs false
set_option linter.unusedSectionVars false
attribute [local irreducible] Try.prog

theorem WL.swap {P : Program} {Q : Exit → Act → World → Prop} {ops : Array Oper} {rest : List Oper} {cx : Cx} {L : List (Nat × Value)} {G : Gh} {H F : List Own} (h : WL P ops Q rest cx L G (F ++ H)) : WL P ops Q rest cx L G (H ++ F) := fun a w st => h a w (st.perm List.perm_append_comm)
theorem WC.swap {P : Program} {Q : Exit → Act → World → Prop} {c : Code} {cx : Cx} {L : List (Nat × Value)} {G : Gh} {H F : List Own} (h : WC P c Q cx L G (F ++ H)) : WC P c Q cx L G (H ++ F) := fun a w st => h a w (st.perm List.perm_append_comm)
theorem VVec.none_zero {A : Option Addr} {cap : Nat} {l : List V} {x : Own} (h : VVec A cap l x) (hA : A = none) : l.length = 0 := by
  rcases h with ⟨_, ⟨_, h, _⟩ | ⟨b, c, h, _⟩⟩
  · exact h
  · rw [h] at hA; cases hA

section
variable (G : Gh) (CA PA : Option Addr) (cc pc cn pn : Nat) (c3 : Value) (mb : Nat)

theorem Outcome_fn (s : Mc) (H : List Own) (hR : MRep CA PA cc pc cn pn c3 mb s H) (hm : madeB s = true) (hb : s.out.length * 40 ≤ 140737488355328) :
    Fn Try.prog 24 #[.pointer (some ⟨mb, 0, none⟩)] G H fun e G' H' => ∃ A' cap' x', e = .returned (.agg #[.int .i64 s.en, .int .i64 s.val.t, .int .i64 s.val.i, .bool s.val.b, .string s.val.s, .slice A' s.out.length cap', .int .i64 s.steps]) ∧ G = G' ∧ VVec A' cap' s.out x' ∧ H' = x' :: H := by
  have hR0 := hR
  obtain ⟨FA, fcap, OA, ocap, ox, fx, bs, Hf, hF, hfv, ho, rfl⟩ := hR
  refine Fn.enter Try.func24 rfl rfl fun w0 => ?_
  refine WC.seq ?_
  refine WC.region ?_
  refine WL.op (by kernel_rfl) (OW.alloc rfl fun b3 => ?_)
  refine WL.nil ?_
  refine WK.un ?_
  refine WC.seq ?_
  refine WC.seq ?_
  refine WC.region ?_
  refine WL.p (Gp.move rfl) (by kernel_rfl) rfl ?_
  refine WL.op (by kernel_rfl) (OW.callR rfl (perm_at .here |>.trans (List.perm_append_comm (l₁ := [_]))) (made_fn G CA PA cc pc cn pn c3 mb s _ hR0) rfl (by intro e G' H' h; repeat (first | exact ⟨_, h.1⟩ | (obtain ⟨_, h⟩ := h))) fun v' G' H' h hg => ?_)
  obtain ⟨he, rfl, rfl⟩ := h
  cases he
  refine WL.swap ?_
  rw [hm]
  refine WL.p (Gp.notB rfl) (by kernel_rfl) rfl ?_
  refine WL.nil ?_
  refine WK.un ?_
  refine WC.cond_false rfl ?_
  refine WC.skip ?_
  refine WK.un ?_
  refine WC.seq ?_
  refine WC.region ?_
  refine WL.p (Gp.move rfl) (by kernel_rfl) rfl ?_
  refine WL.p (Gp.nilCheck rfl) (by kernel_rfl) rfl ?_
  refine WL.p (Gp.fieldAddr rfl) (by kernel_rfl) rfl ?_
  refine WL.v (Gv.loadN rfl (by (repeat first | exact .here | apply At.there)) rfl rfl) (by kernel_rfl) rfl ?_
  refine WL.op (by kernel_rfl) (OW.alloc rfl fun b5 => ?_)
  refine WL.op (by kernel_rfl) (OW.store rfl rfl (by (repeat first | exact .here | apply At.there)) rfl (by rfl) (by rfl) (by kernel_rfl) (by rfl) ?_ rfl)
  refine WL.nil ?_
  refine WK.un ?_
  refine WC.seq ?_
  refine WC.region ?_
  refine WL.p (Gp.fieldAddr rfl) (by kernel_rfl) rfl ?_
  (first | (refine WL.v (Gv.load1 rfl (by (repeat first | exact .here | apply At.there)) (by first | rfl | assumption)) (by kernel_rfl) rfl ?_) | (refine WL.v (Gv.loadN rfl (by (repeat first | exact .here | apply At.there)) (by rfl) (by rfl)) (by kernel_rfl) rfl ?_) | (refine WL.v (Gv.loadG1 rfl (by assumption) rfl) (by kernel_rfl) rfl ?_) | (refine WL.v (Gv.loadG0 rfl (by assumption) rfl) (by kernel_rfl) rfl ?_) | (refine WL.v (Gv.loadGN rfl (by assumption) rfl) (by kernel_rfl) rfl ?_))
  refine WL.op (by kernel_rfl) (OW.callK rfl (clone_vals G [ox] OA s.out.length ocap (vflat s.out) (ho.rds .here) (vflat_length _) (vflat_one _) ho.none_zero hb) rfl fun v' G' H' h hg => ?_)
  obtain ⟨A', cap', x', he, rfl, rfl, hx'⟩ := h
  cases he
  refine WL.p (Gp.fieldAddr rfl) (by kernel_rfl) rfl ?_
  refine WL.op (by kernel_rfl) (OW.store rfl rfl (by (repeat first | exact .here | apply At.there)) rfl (by rfl) (by rfl) (by kernel_rfl) (by rfl) ?_ rfl)
  refine WL.nil ?_
  refine WK.un ?_
  refine WC.seq ?_
  refine WC.region ?_
  (first | (refine WL.v (Gv.load1 rfl (by (repeat first | exact .here | apply At.there)) (by first | rfl | assumption)) (by kernel_rfl) rfl ?_) | (refine WL.v (Gv.loadN rfl (by (repeat first | exact .here | apply At.there)) (by rfl) (by rfl)) (by kernel_rfl) rfl ?_) | (refine WL.v (Gv.loadG1 rfl (by assumption) rfl) (by kernel_rfl) rfl ?_) | (refine WL.v (Gv.loadG0 rfl (by assumption) rfl) (by kernel_rfl) rfl ?_) | (refine WL.v (Gv.loadGN rfl (by assumption) rfl) (by kernel_rfl) rfl ?_))
  refine WL.op (by kernel_rfl) (OW.store rfl rfl (by (repeat first | exact .here | apply At.there)) rfl (by rfl) (by rfl) (by kernel_rfl) (by rfl) ?_ rfl)
  refine WL.nil ?_
  refine WK.un ?_
  refine WC.ret ?_
  refine WK.un ?_
  exact QF.p1 (.inl rfl) rfl (.cell rfl inferInstance inferInstance (by (repeat first | exact .here | apply At.there)) rfl rfl) (⟨A', cap', x', rfl, rfl, hx', rfl⟩)

theorem Ended_fn (s : Mc) (H : List Own) (hR : MRep CA PA cc pc cn pn c3 mb s H) :
    Fn Try.prog 34 #[.pointer (some ⟨mb, 0, none⟩)] G H fun e G' H' => e = .returned (.bool (madeB s && s.ended)) ∧ G = G' ∧ H' = H := by
  have hR0 := hR
  obtain ⟨FA, fcap, OA, ocap, ox, fx, bs, Hf, hF, hfv, ho, rfl⟩ := hR
  refine Fn.enter Try.func34 rfl rfl fun w0 => ?_
  refine WC.seq ?_
  refine WC.region ?_
  refine WL.p (Gp.assign rfl) (by kernel_rfl) rfl ?_
  refine WL.nil ?_
  refine WK.un ?_
  refine WC.seq ?_
  refine WC.region ?_
  refine WL.p (Gp.move rfl) (by kernel_rfl) rfl ?_
  refine WL.op (by kernel_rfl) (OW.callK rfl (made_fn G CA PA cc pc cn pn c3 mb s _ hR0) rfl fun v' G' H' h hg => ?_)
  obtain ⟨he, rfl, rfl⟩ := h
  cases he
  refine WL.p (Gp.move rfl) (by kernel_rfl) rfl ?_
  cases hm : madeB s with
  | false =>
    refine WL.skip (by kernel_rfl) rfl ?_
    refine WL.skip (by kernel_rfl) rfl ?_
    refine WL.skip (by kernel_rfl) rfl ?_
    refine WL.skip (by kernel_rfl) rfl ?_
    (first | refine WL.p (Gp.pickT rfl rfl) (by kernel_rfl) rfl ?_ | refine WL.p (Gp.pickF rfl rfl) (by kernel_rfl) rfl ?_)
    refine WL.p (Gp.assign rfl) (by kernel_rfl) rfl ?_
    refine WL.nil ?_
    refine WK.un ?_
    refine WC.ret ?_
    refine WK.un ?_
    exact QF.p1 (.inl rfl) rfl (.tmp rfl) (⟨by simp, rfl, rfl⟩)
  | true =>
    refine WL.p (Gp.move rfl) (by kernel_rfl) rfl ?_
    refine WL.p (Gp.nilCheck rfl) (by kernel_rfl) rfl ?_
    refine WL.p (Gp.fieldAddr rfl) (by kernel_rfl) rfl ?_
    (first | (refine WL.v (Gv.load1 rfl (by (repeat first | exact .here | apply At.there)) (by first | rfl | assumption)) (by kernel_rfl) rfl ?_) | (refine WL.v (Gv.loadN rfl (by (repeat first | exact .here | apply At.there)) (by rfl) (by rfl)) (by kernel_rfl) rfl ?_) | (refine WL.v (Gv.loadG1 rfl (by assumption) rfl) (by kernel_rfl) rfl ?_) | (refine WL.v (Gv.loadG0 rfl (by assumption) rfl) (by kernel_rfl) rfl ?_) | (refine WL.v (Gv.loadGN rfl (by assumption) rfl) (by kernel_rfl) rfl ?_))
    (first | refine WL.p (Gp.pickT rfl rfl) (by kernel_rfl) rfl ?_ | refine WL.p (Gp.pickF rfl rfl) (by kernel_rfl) rfl ?_)
    refine WL.p (Gp.assign rfl) (by kernel_rfl) rfl ?_
    refine WL.nil ?_
    refine WK.un ?_
    refine WC.ret ?_
    refine WK.un ?_
    exact QF.p1 (.inl rfl) rfl (.tmp rfl) (⟨by simp, rfl, rfl⟩)

theorem Depth_fn (s : Mc) (H : List Own) (hR : MRep CA PA cc pc cn pn c3 mb s H) :
    Fn Try.prog 26 #[.pointer (some ⟨mb, 0, none⟩)] G H fun e G' H' => e = .returned (.int .i64 s.frames.length) ∧ G = G' ∧ H' = H := by
  have hR0 := hR
  obtain ⟨FA, fcap, OA, ocap, ox, fx, bs, Hf, hF, hfv, ho, rfl⟩ := hR
  have hlen := hF.len
  refine Fn.enter Try.func26 rfl rfl fun w0 => ?_
  refine WC.seq ?_
  refine WC.region ?_
  refine WL.p (Gp.assign rfl) (by kernel_rfl) rfl ?_
  refine WL.nil ?_
  refine WK.un ?_
  refine WC.seq ?_
  refine WC.seq ?_
  refine WC.region ?_
  refine WL.p (Gp.move rfl) (by kernel_rfl) rfl ?_
  refine WL.op (by kernel_rfl) (OW.callK rfl (made_fn G CA PA cc pc cn pn c3 mb s _ hR0) rfl fun v' G' H' h hg => ?_)
  obtain ⟨he, rfl, rfl⟩ := h
  cases he
  cases hm : madeB s with
  | false =>
    refine WL.p (Gp.notB rfl) (by kernel_rfl) rfl ?_
    refine WL.nil ?_
    refine WK.un ?_
    refine WC.cond_true rfl ?_
    refine WC.seq ?_
    refine WC.region ?_
    refine WL.p (Gp.assign rfl) (by kernel_rfl) rfl ?_
    refine WL.nil ?_
    refine WK.un ?_
    have h0 : s.frames.length = 0 := by
      unfold madeB at hm
      simp at hm
      rw [hm.1]; rfl
    refine WC.ret ?_
    refine WK.un ?_
    exact QF.p1 (.inl rfl) rfl (.tmp rfl) (⟨by rw [h0]; rfl, rfl, rfl⟩)
  | true =>
    refine WL.p (Gp.notB rfl) (by kernel_rfl) rfl ?_
    refine WL.nil ?_
    refine WK.un ?_
    refine WC.cond_false rfl ?_
    refine WC.skip ?_
    refine WK.un ?_
    refine WC.seq ?_
    refine WC.region ?_
    refine WL.p (Gp.move rfl) (by kernel_rfl) rfl ?_
    refine WL.p (Gp.nilCheck rfl) (by kernel_rfl) rfl ?_
    refine WL.p (Gp.fieldAddr rfl) (by kernel_rfl) rfl ?_
    (first | (refine WL.v (Gv.load1 rfl (by (repeat first | exact .here | apply At.there)) (by first | rfl | assumption)) (by kernel_rfl) rfl ?_) | (refine WL.v (Gv.loadN rfl (by (repeat first | exact .here | apply At.there)) (by rfl) (by rfl)) (by kernel_rfl) rfl ?_) | (refine WL.v (Gv.loadG1 rfl (by assumption) rfl) (by kernel_rfl) rfl ?_) | (refine WL.v (Gv.loadG0 rfl (by assumption) rfl) (by kernel_rfl) rfl ?_) | (refine WL.v (Gv.loadGN rfl (by assumption) rfl) (by kernel_rfl) rfl ?_))
    (first | refine WL.p (Gp.lenSl rfl) (by kernel_rfl) rfl ?_ | refine WL.p (Gp.lenS rfl) (by kernel_rfl) rfl ?_)
    refine WL.p (Gp.assign rfl) (by kernel_rfl) rfl ?_
    refine WL.nil ?_
    refine WK.un ?_
    refine WC.ret ?_
    refine WK.un ?_
    exact QF.p1 (.inl rfl) rfl (.tmp rfl) (⟨by rw [← hlen]; simp, rfl, rfl⟩)
end
end Go.Proofs.Ytjgohbepageicaa.Gb
namespace Go.Proofs.Ytjgohbepageicaa.Gb
open Go Go.Proofs
set_option linter.unusedVariables false
set_option linter.unusedSimpArgs false
set_option linter.unusedSectionVars false
attribute [local irreducible] Try.prog

/-- what came of a run -/
structure Oc where
  en : Int
  val : V
  out : List V
  steps : Int
def Oc0 : Oc := ⟨0, V0, [], 0⟩
def ocV (o : Oc) (A : Option Addr) (cap : Nat) : Value := .agg #[.int .i64 o.en, .int .i64 o.val.t, .int .i64 o.val.i, .bool o.val.b, .string o.val.s, .slice A o.out.length cap, .int .i64 o.steps]
def Mc.oc (s : Mc) : Oc := ⟨s.en, s.val, s.out, s.steps⟩
/-- what a run comes to -/
def runR (pg : Pg) (n fuel : Int) (args : List V) : Oc := match startR pg n args with
  | none => Oc0
  | some q => let s := (runM pg fuel.toNat (startS q n args)).2
    if s.ended then s.oc else { s.oc with en := 5 }
theorem PgB.codeB {pg : Pg} (h : PgB pg) : ∀ pr ∈ pg.procs, pr.code.length ≤ 90000000000000 := fun pr hp => by have := h.code pr hp; omega

theorem startR_some {pg : Pg} {n : Int} {args : List V} {q : Pr} (h : startR pg n args = some q) : 0 ≤ n ∧ pg.procs[n.toNat]? = some q ∧ sizedP q = true ∧ args.length = q.params.length ∧ AllOK args := by
  unfold startR at h
  split at h
  · cases h
  · rename_i hn
    split at h
    · cases h
    · rename_i q' hq
      split at h
      · cases h
      · rename_i hs
        split at h
        · cases h
        · rename_i hl
          split at h
          · rename_i ha
            cases h
            rw [Bool.and_eq_true, List.all_eq_true] at ha
            exact ⟨by omega, hq, by simpa using hs, Classical.not_not.1 hl, ha.1⟩
          · cases h
theorem startS_inv {pg : Pg} {n : Int} {args : List V} {q : Pr} (h : startR pg n args = some q) : Inv pg (startS q n args) ∧ Live (startS q n args) := by
  obtain ⟨h1, h2, h3, h4, h5⟩ := startR_some h
  have hsz : (q.params.length : Int) ≤ q.locals ∧ q.locals ≤ 64 := by unfold sizedP at h3; simpa using h3
  have hpl : (padded args q.locals).length ≤ 64 := by rw [padded_length (by omega)]; omega
  refine ⟨⟨fun f hf => ?_, by simp [startS], fun f hf => ?_, trivial, by simp [startS], fun v hv => by simp [startS] at hv⟩, fun _ h => by cases h⟩
  · simp only [startS, List.mem_singleton] at hf
    subst hf
    exact ⟨q, h2, by simp⟩
  · simp only [startS, List.mem_singleton] at hf
    subst hf
    refine ⟨by simp, hpl, fun v hv => by simp at hv, fun v hv => ?_⟩
    rcases List.mem_append.1 hv with hv | hv
    · exact .inl (h5 v hv)
    · exact .inr (List.eq_of_mem_replicate hv)
theorem Inv.run {pg : Pg} : ∀ (n : Nat) (s : Mc), Inv pg s → Live s → Inv pg (runM pg n s).2 ∧ Live (runM pg n s).2
  | 0, s, h, hl => ⟨h, hl⟩
  | n + 1, s, h, hl => by
    unfold runM
    split
    · exact ⟨h, hl⟩
    · exact Inv.run n _ h.step hl.step
theorem Live.made {s : Mc} (h : Live s) : madeB s = true := by
  unfold madeB
  cases he : s.ended with
  | true => simp
  | false => have := h he; simp [List.length_pos_iff, this]

theorem Run_fn (G : Gh) (pg : Pg) (CA PA : Option Addr) (cc pc : Nat) (qv : Value) (hC : Sl Kd.val G CA pg.consts) (hP : Sl Kd.prc G PA pg.procs) (hB : PgB pg) (n fuel : Int) (hfu : fuel ≤ 1000000) (AA : Option Addr) (ac : Nat) (args : List V) (Ha : List Own) (hr : Rds G Ha AA (vflat args)) (hal : args.length * 40 ≤ 140737488355328) :
    Fn Try.prog 15 #[.agg #[.slice CA pg.consts.length cc, .slice PA pg.procs.length pc, qv], .int .i64 n, .int .i64 fuel, .slice AA args.length ac] G Ha
      fun e G' H' => ∃ A' cap' x', e = .returned (ocV (runR pg n fuel args) A' cap') ∧ G.le G' ∧ VVec A' cap' (runR pg n fuel args).out x' ∧ H' = x' :: Ha := by
  refine Fn.enter Try.func15 rfl rfl fun w0 => ?_
  refine WC.seq ?_
  refine WC.region ?_
  refine WL.op (by kernel_rfl) (OW.box rfl rfl fun b17 => ?_)
  refine WL.op (by kernel_rfl) (OW.alloc rfl fun b18 => ?_)
  refine WL.nil ?_
  refine WK.un ?_
  refine WC.seq ?_
  refine WC.region ?_
  refine WL.v (Gv.loadN rfl (by (repeat first | exact .here | apply At.there)) rfl rfl) (by kernel_rfl) rfl ?_
  refine WL.p (Gp.move rfl) (by kernel_rfl) rfl ?_
  refine WL.p (Gp.move rfl) (by kernel_rfl) rfl ?_
  cases hs : startR pg n args with
  | none =>
    refine WL.op (by kernel_rfl) (OW.callR rfl (Pk.perm (by repeat (first | exact Pk.nil | exact Pk.all | exact Pk.app | exact Pk.appR | with_reducible apply Pk.na | (apply Pk.cons; (repeat first | exact .here | apply Rem.there | apply Rem.app)) | apply Pk.skip | apply Pk.skipA))) ((Start_fn G pg CA PA cc pc qv hC hP hB n AA ac args Ha hr hal).mono fun e G' H' h => (by rw [hs] at h; exact h)) rfl (by intro e G' H' h; repeat (first | exact ⟨_, h.1⟩ | (obtain ⟨_, h⟩ := h))) fun v' G' H' h hg => ?_)
    obtain ⟨he, rfl, rfl⟩ := h
    cases he
    refine WL.swap ?_
    refine WL.p (Gp.move rfl) (by kernel_rfl) rfl ?_
    refine WL.p (Gp.extract rfl rfl) (by kernel_rfl) rfl ?_
    refine WL.p (Gp.extract rfl rfl) (by kernel_rfl) rfl ?_
    refine WL.p (Gp.assign rfl) (by kernel_rfl) rfl ?_
    refine WL.p (Gp.assign rfl) (by kernel_rfl) rfl ?_
    refine WL.nil ?_
    refine WK.un ?_
    refine WC.seq ?_
    refine WC.seq ?_
    refine WC.region ?_
    refine WL.p (Gp.move rfl) (by kernel_rfl) rfl ?_
    (first | refine WL.p (Gp.neI rfl rfl) (by kernel_rfl) rfl ?_ | refine WL.p (Gp.neS rfl rfl) (by kernel_rfl) rfl ?_ | refine WL.p (Gp.neB rfl rfl) (by kernel_rfl) rfl ?_)
    refine WL.nil ?_
    refine WK.un ?_
    refine WC.cond_true rfl ?_
    refine WC.seq ?_
    refine WC.region ?_
    refine WL.p (Gp.build rfl rfl) (by kernel_rfl) rfl ?_
    refine WL.op (by kernel_rfl) (OW.store rfl rfl (by (repeat first | exact .here | apply At.there)) rfl (by rfl) (by rfl) (by kernel_rfl) (by rfl) ?_ rfl)
    refine WL.nil ?_
    refine WK.un ?_
    refine WC.nothing ?_
    rw [show runR pg n fuel args = Oc0 by rw [runR, hs]]
    refine WC.ret ?_
    refine WK.un ?_
    exact QF.p1 (.inl rfl) rfl (.cell rfl inferInstance inferInstance (by (repeat first | exact .here | apply At.there)) rfl rfl) (⟨none, 0, .spare 0 0 0, rfl, Gh.le_refl _, ⟨by simp [vflat, Oc0], .inl ⟨rfl, rfl, rfl, rfl⟩⟩, rfl⟩)
  | some q =>
    obtain ⟨hI, hL⟩ := startS_inv hs
    have hIr := Inv.run fuel.toNat _ hI hL
    refine WL.op (by kernel_rfl) (OW.callR rfl (Pk.perm (by repeat (first | exact Pk.nil | exact Pk.all | exact Pk.app | exact Pk.appR | with_reducible apply Pk.na | (apply Pk.cons; (repeat first | exact .here | apply Rem.there | apply Rem.app)) | apply Pk.skip | apply Pk.skipA))) ((Start_fn G pg CA PA cc pc qv hC hP hB n AA ac args Ha hr hal).mono fun e G' H' h => (by rw [hs] at h; exact h)) rfl (by rintro e G' H' ⟨_, _, _, _, _, _, h, _⟩; exact ⟨_, h⟩) fun v' G' H' h hg => ?_)
    obtain ⟨mb, CA', PA', cc', pc', H1, he, hg1, hC1, hP1, hR, rfl⟩ := h
    cases he
    refine WL.swap ?_
    refine WL.p (Gp.move rfl) (by kernel_rfl) rfl ?_
    refine WL.p (Gp.extract rfl rfl) (by kernel_rfl) rfl ?_
    refine WL.p (Gp.extract rfl rfl) (by kernel_rfl) rfl ?_
    refine WL.p (Gp.assign rfl) (by kernel_rfl) rfl ?_
    refine WL.p (Gp.assign rfl) (by kernel_rfl) rfl ?_
    refine WL.nil ?_
    refine WK.un ?_
    refine WC.seq ?_
    refine WC.seq ?_
    refine WC.region ?_
    refine WL.p (Gp.move rfl) (by kernel_rfl) rfl ?_
    (first | refine WL.p (Gp.neI rfl rfl) (by kernel_rfl) rfl ?_ | refine WL.p (Gp.neS rfl rfl) (by kernel_rfl) rfl ?_ | refine WL.p (Gp.neB rfl rfl) (by kernel_rfl) rfl ?_)
    refine WL.nil ?_
    refine WK.un ?_
    refine WC.cond_false rfl ?_
    refine WC.skip ?_
    refine WK.un ?_
    refine WC.seq ?_
    refine WC.region ?_
    refine WL.p (Gp.move rfl) (by kernel_rfl) rfl ?_
    refine WL.p (Gp.move rfl) (by kernel_rfl) rfl ?_
    refine WL.op (by kernel_rfl) (OW.callK rfl (Step_fn G' pg CA' PA' cc' pc' hC1 hP1 hB.codeB mb (.slice none 0 0) (startS q n args) H1 hR hI hL fuel hfu (by simp [startS])) rfl fun v' G' H' h hg => ?_)
    obtain ⟨he, rfl, hR2⟩ := h
    cases he
    refine WL.swap ?_
    refine WL.nil ?_
    refine WK.un ?_
    obtain ⟨t, ht⟩ : ∃ t, t = (runM pg fuel.toNat (startS q n args)).2 := ⟨_, rfl⟩
    rw [← ht] at hIr hR2
    have hrun : runR pg n fuel args = if t.ended then t.oc else { t.oc with en := 5 } := by rw [runR, hs, ht]
    have hout : (runR pg n fuel args).out = t.out := by rw [hrun]; split <;> rfl
    rw [hrun]
    obtain ⟨FA, fcap, OA, ocap, ox, fx, bs, Hf, hF, hfv, ho, rfl⟩ := id hR2
    refine WC.seq ?_
    refine WC.region ?_
    refine WL.p (Gp.move rfl) (by kernel_rfl) rfl ?_
    refine WL.op (by kernel_rfl) (OW.callK rfl (Outcome_fn G' CA' PA' cc' pc' pg.consts.length pg.procs.length (.slice none 0 0) mb _ _ hR2 hIr.2.made (by have := hIr.1.out.1; omega)) rfl fun v' G' H' h hg => ?_)
    obtain ⟨A', cap', x', he, rfl, hx', rfl⟩ := h
    cases he
    refine WL.op (by kernel_rfl) (OW.alloc rfl fun b20 => ?_)
    refine WL.op (by kernel_rfl) (OW.store rfl rfl (by (repeat first | exact .here | apply At.there)) rfl (by rfl) (by rfl) (by kernel_rfl) (by rfl) ?_ rfl)
    refine WL.nil ?_
    refine WK.un ?_
    refine WC.front (H' := [.blk b20 (.cells #[.int .i64 t.en, .int .i64 t.val.t, .int .i64 t.val.i, .bool t.val.b, .string t.val.s, .slice A' t.out.length cap', .int .i64 t.steps] 35 (0, 0)), .blk b18 (.cells #[.int .i64 0, .int .i64 0, .int .i64 0, .bool false, .string ⟨#[]⟩, .slice none 0 0, .int .i64 0] 35 (0, 0)), mcB mb (.slice CA' pg.consts.length cc') (.slice PA' pg.procs.length pc') (.slice none 0 0) FA bs.reverse.length fcap t.en t.val OA t.out.length ocap t.steps t.ended, x']) (by repeat (first | exact Pk.nil | exact Pk.all | exact Pk.app | exact Pk.appR | with_reducible apply Pk.na | (apply Pk.cons; (repeat first | exact .here | apply Rem.there | apply Rem.app)) | apply Pk.skip | apply Pk.skipA)) ?_
    refine WC.seq ?_
    refine WC.seq ?_
    refine WC.region ?_
    refine WL.p (Gp.move rfl) (by kernel_rfl) rfl ?_
    refine WL.p (Gp.nilCheck rfl) (by kernel_rfl) rfl ?_
    refine WL.p (Gp.fieldAddr rfl) (by kernel_rfl) rfl ?_
    (first | (refine WL.v (Gv.load1 rfl (by (repeat first | exact .here | apply At.there)) (by first | rfl | assumption)) (by kernel_rfl) rfl ?_) | (refine WL.v (Gv.loadN rfl (by (repeat first | exact .here | apply At.there)) (by rfl) (by rfl)) (by kernel_rfl) rfl ?_) | (refine WL.v (Gv.loadG1 rfl (by assumption) rfl) (by kernel_rfl) rfl ?_) | (refine WL.v (Gv.loadG0 rfl (by assumption) rfl) (by kernel_rfl) rfl ?_) | (refine WL.v (Gv.loadGN rfl (by assumption) rfl) (by kernel_rfl) rfl ?_))
    cases hen : t.ended with
    | true =>
      refine WL.p (Gp.notB rfl) (by kernel_rfl) rfl ?_
      refine WL.nil ?_
      refine WK.un ?_
      refine WC.cond_false rfl ?_
      refine WC.skip ?_
      refine WK.un ?_
      refine WC.seq ?_
      refine WC.region ?_
      refine WL.v (Gv.loadN rfl (by (repeat first | exact .here | apply At.there)) rfl rfl) (by kernel_rfl) rfl ?_
      refine WL.op (by kernel_rfl) (OW.store rfl rfl (by (repeat first | exact .here | apply At.there)) rfl (by rfl) (by rfl) (by kernel_rfl) (by rfl) ?_ rfl)
      refine WL.nil ?_
      refine WK.un ?_
      refine WC.ret ?_
      refine WK.un ?_
      exact QF.p1 (.inl rfl) rfl (.cell rfl inferInstance inferInstance (by (repeat first | exact .here | apply At.there)) rfl rfl) (⟨A', cap', x', rfl, hg1, hx', rfl⟩)
    | false =>
      refine WL.p (Gp.notB rfl) (by kernel_rfl) rfl ?_
      refine WL.nil ?_
      refine WK.un ?_
      refine WC.cond_true rfl ?_
      refine WC.region ?_
      refine WL.p (Gp.fieldAddr rfl) (by kernel_rfl) rfl ?_
      refine WL.op (by kernel_rfl) (OW.store rfl rfl (by (repeat first | exact .here | apply At.there)) rfl (by rfl) (by rfl) (by kernel_rfl) (by rfl) ?_ rfl)
      refine WL.nil ?_
      refine WK.un ?_
      refine WC.seq ?_
      refine WC.region ?_
      refine WL.v (Gv.loadN rfl (by (repeat first | exact .here | apply At.there)) rfl rfl) (by kernel_rfl) rfl ?_
      refine WL.op (by kernel_rfl) (OW.store rfl rfl (by (repeat first | exact .here | apply At.there)) rfl (by rfl) (by rfl) (by kernel_rfl) (by rfl) ?_ rfl)
      refine WL.nil ?_
      refine WK.un ?_
      refine WC.ret ?_
      refine WK.un ?_
      exact QF.p1 (.inl rfl) rfl (.cell rfl inferInstance inferInstance (by (repeat first | exact .here | apply At.there)) rfl rfl) (⟨A', cap', x', rfl, hg1, hx', rfl⟩)
end Go.Proofs.Ytjgohbepageicaa.Gb
namespace Go.Proofs.Ytjgohbepageicaa.Gb
open Go Go.Proofs
set_option linter.unusedVariables false
set_option linter.unusedSimpArgs false
set_option linter.unusedSectionVars false

section
variable {L : List (Nat × Value)} {d : Option Tmp} {ty : TypeId} {pos : String} {af : Array Edge} {gu : Option (Nat × Bool)}
theorem Gp.neV {x y : Operand} {t' : TypeId} {u v : V} (hx : ev L x = some (.agg #[.int .i64 u.t, .int .i64 u.i, .bool u.b, .string u.s])) (hy : ev L y = some (.agg #[.int .i64 v.t, .int .i64 v.i, .bool v.b, .string v.s])) :
    Gp Try.prog L ⟨d, .binOp .neq 33 x y t', ty, pos, af, gu⟩ (.bool (!decide (u = v))) := fun a st w => by
  have h1 : Try.prog.eqGuardType Try.prog.depth 33 = false := by kernel_rfl
  have h2 : Try.prog.underlying 33 = some (.struct (Try.prog.fieldsOf 33)) := by kernel_rfl
  have h3 : Try.prog.stoodInHeld 33 = false := by kernel_rfl
  have key : (Op.eqFields 9999 #[.int .i64 u.t, .int .i64 u.i, .bool u.b, .string u.s] #[.int .i64 v.t, .int .i64 v.i, .bool v.b, .string v.s] (Try.prog.fieldsOf 33).toList).run Try.prog w = .ok (decide (u = v)) w := by
    have a0 := fun w => (inferInstance : Agg Try.prog 31 false).h w
    have a1 := fun w => (inferInstance : Agg Try.prog 2 false).h w
    have a2 := fun w => (inferInstance : Agg Try.prog 4 false).h w
    have a3 := fun w => (inferInstance : Agg Try.prog 9 false).h w
    have u0 : Try.prog.underlying 31 = some (.int .i64) := Und.h
    have u1 : Try.prog.underlying 2 = some (.int .i64) := Und.h
    have u2 : Try.prog.underlying 4 = some .bool := Und.h
    have u3 : Try.prog.underlying 9 = some .string := Und.h
    have e : decide (u = v) = (u.t == v.t && (u.i == v.i && (u.b == v.b && (u.s.toList == v.s.toList)))) := by
      rw [← beq_toListBytes, bytes_beq]
      obtain ⟨t, i, b, s⟩ := u
      obtain ⟨t', i', b', s'⟩ := v
      rw [Bool.eq_iff_iff]
      simp
    rw [e]
    simp only [Program.fieldsOf, Try.underlying33]
    simp only [Op.eqFields, part, Sem.run_bind, a0, a1, a2, a3, Result.andThen_ok, Sem.run_ite]
    simp [run_equalIn_int _ _ _ _ _ _ _ u0, run_equalIn_int _ _ _ _ _ _ _ u1, run_equalIn_bool' _ _ _ _ _ u2, run_equalIn_string _ _ _ _ _ u3]
    by_cases q0 : u.t = v.t <;> by_cases q1 : u.i = v.i <;> by_cases q2 : u.b = v.b <;> by_cases q3 : u.s.toList = v.s.toList <;> simp [q0, q1, q2, q3]
  simp only [execOp, Sem.run_bind, st.eval hx, st.eval hy, run_eqGuard_agg w .neq _ x y _ _ h1, Result.andThen_ok, run_neq_struct, run_equalIn_agg w 9999 _ _ _ h2 h3, key]
  rfl
theorem Gp.neSpot {x y : Operand} {t' : TypeId} {a b c f : Int} (hx : ev L x = some (.agg #[.int .i64 a, .int .i64 b])) (hy : ev L y = some (.agg #[.int .i64 c, .int .i64 f])) :
    Gp Try.prog L ⟨d, .binOp .neq 63 x y t', ty, pos, af, gu⟩ (.bool (!decide ((a, b) = (c, f)))) := fun ac st w => by
  have h1 : Try.prog.eqGuardType Try.prog.depth 63 = false := by kernel_rfl
  have h2 : Try.prog.underlying 63 = some (.struct (Try.prog.fieldsOf 63)) := by kernel_rfl
  have h3 : Try.prog.stoodInHeld 63 = false := by kernel_rfl
  have key : (Op.eqFields 9999 #[.int .i64 a, .int .i64 b] #[.int .i64 c, .int .i64 f] (Try.prog.fieldsOf 63).toList).run Try.prog w = .ok (decide ((a, b) = (c, f))) w := by
    have a0 := fun w => (inferInstance : Agg Try.prog 3 false).h w
    have u0 : Try.prog.underlying 3 = some (.int .i64) := Und.h
    have e : decide ((a, b) = (c, f)) = (a == c && (b == f)) := by
      rw [Bool.eq_iff_iff]
      simp
    rw [e]
    simp only [Program.fieldsOf, Try.underlying63]
    simp only [Op.eqFields, part, Sem.run_bind, a0, Result.andThen_ok, Sem.run_ite]
    simp [run_equalIn_int _ _ _ _ _ _ _ u0]
    by_cases q0 : a = c <;> by_cases q1 : b = f <;> simp [q0, q1]
  simp only [execOp, Sem.run_bind, st.eval hx, st.eval hy, run_eqGuard_agg w .neq _ x y _ _ h1, Result.andThen_ok, run_neq_struct, run_equalIn_agg w 9999 _ _ _ h2 h3, key]
  rfl
end
attribute [local irreducible] Try.prog

theorem samevals_fn (G : Gh) (H : List Own) (A B : Option Addr) (ca cb : Nat) (la lb : List V) (ha : Rds G H A (vflat la)) (hb : Rds G H B (vflat lb)) (hal : la.length ≤ 1000000000000) :
    Fn Try.prog 27 #[.slice A la.length ca, .slice B lb.length cb] G H fun e G' H' => e = .returned (.bool (decide (la = lb))) ∧ G = G' ∧ H' = H := by
  refine Fn.enter Try.func27 rfl rfl fun w0 => ?_
  refine WC.seq ?_
  refine WC.region ?_
  refine WL.p (Gp.assign rfl) (by kernel_rfl) rfl ?_
  refine WL.nil ?_
  refine WK.un ?_
  refine WC.seq ?_
  refine WC.seq ?_
  refine WC.region ?_
  refine WL.p (Gp.move rfl) (by kernel_rfl) rfl ?_
  (first | refine WL.p (Gp.lenSl rfl) (by kernel_rfl) rfl ?_ | refine WL.p (Gp.lenS rfl) (by kernel_rfl) rfl ?_)
  refine WL.p (Gp.move rfl) (by kernel_rfl) rfl ?_
  (first | refine WL.p (Gp.lenSl rfl) (by kernel_rfl) rfl ?_ | refine WL.p (Gp.lenS rfl) (by kernel_rfl) rfl ?_)
  (first | refine WL.p (Gp.neI rfl rfl) (by kernel_rfl) rfl ?_ | refine WL.p (Gp.neS rfl rfl) (by kernel_rfl) rfl ?_ | refine WL.p (Gp.neB rfl rfl) (by kernel_rfl) rfl ?_)
  refine WL.nil ?_
  refine WK.un ?_
  refine WC.cond rfl (fun hc1 => ?_) (fun hc1 => ?_)
  · -- yes
    have hne : la ≠ lb := by rintro rfl; simp at hc1
    refine WC.seq ?_
    refine WC.region ?_
    refine WL.p (Gp.assign rfl) (by kernel_rfl) rfl ?_
    refine WL.nil ?_
    refine WK.un ?_
    refine WC.ret ?_
    refine WK.un ?_
    exact QF.p1 (.inl rfl) rfl (.tmp rfl) (⟨by rw [decide_eq_false hne], rfl, rfl⟩)
  · -- no
    have hlen : la.length = lb.length := by simp at hc1; omega
    refine WC.skip ?_
    refine WK.un ?_
    refine WC.seq ?_
    refine WC.seq ?_
    refine WC.region ?_
    refine WL.p (Gp.assign rfl) (by kernel_rfl) rfl ?_
    refine WL.nil ?_
    refine WK.un ?_
    refine WC.block ?_  -- 0
    refine WC.loop (X := Nat) (fun i => [(5, .int .i64 i), (0, .slice A la.length ca), (1, .slice B lb.length cb)]) (fun _ => G) (fun _ => H) (fun i => la.length - i) (fun i => i ≤ la.length ∧ ∀ j, j < i → la[j]? = lb[j]?) 0 ⟨Nat.zero_le _, fun j h => by omega⟩ (by exact ⟨rfl, rfl, rfl, trivial⟩) rfl (List.Sublist.refl _) fun i hx => ?_
    obtain ⟨hi, hall⟩ := hx
    refine WC.seq ?_
    refine WC.seq ?_
    refine WC.region ?_
    refine WL.p (Gp.move rfl) (by kernel_rfl) rfl ?_
    refine WL.p (Gp.move rfl) (by kernel_rfl) rfl ?_
    (first | refine WL.p (Gp.lenSl rfl) (by kernel_rfl) rfl ?_ | refine WL.p (Gp.lenS rfl) (by kernel_rfl) rfl ?_)
    (first | refine WL.p (Gp.ltI rfl rfl) (by kernel_rfl) rfl ?_ | refine WL.p (Gp.ltS rfl rfl) (by kernel_rfl) rfl ?_)
    refine WL.nil ?_
    refine WK.un ?_
    refine WC.cond rfl (fun hc2 => ?_) (fun hc2 => ?_)
    · -- yes
      have hlt : i < la.length := by have h := of_decide_eq_true hc2; omega
      obtain ⟨u, hu⟩ : ∃ u, la[i]? = some u := ⟨_, List.getElem?_eq_getElem hlt⟩
      obtain ⟨v, hv⟩ : ∃ v, lb[i]? = some v := ⟨_, List.getElem?_eq_getElem (by omega)⟩
      have none0 : ∀ {l : List V}, i < l.length → vflat l = [] → False := fun {l} h h0 => by
        have h := congrArg List.length h0
        rw [vflat_length] at h; simp only [List.length_nil] at h; omega
      rcases ha with h0 | ⟨b1, o1, rfl, hread1⟩
      · exact (none0 hlt h0).elim
      rcases hb with h0 | ⟨b2, o2, rfl, hread2⟩
      · exact (none0 (by omega) h0).elim
      refine WC.skip ?_
      refine WK.un ?_
      refine WC.seq ?_
      refine WC.block ?_  -- 1
      refine WC.seq ?_
      refine WC.draw mixed ?_
      refine WA.tp (i := 0) rfl (by kernel_rfl) (by kernel_rfl) rfl (Gp.move rfl) ?_
      refine WA.tp (i := 1) rfl (by kernel_rfl) (by kernel_rfl) rfl (Gp.move rfl) ?_
      refine WA.tp (i := 2) rfl (by kernel_rfl) (by kernel_rfl) rfl (Gp.indexAddr rfl rfl (by first | assumption | omega | decide) (by first | assumption | omega | decide | (simp only [List.length_cons, List.length_nil]; decide))) ?_
      refine WA.tv (i := 3) rfl (by kernel_rfl) (by kernel_rfl) rfl (Gv.loadRN rfl hread1 (by repeat (first | exact List.Sublist.refl _ | exact List.nil_sublist _ | apply List.Sublist.cons)) (vflat_elem la i u hu) rfl) ?_
      refine WA.tp (i := 4) rfl (by kernel_rfl) (by kernel_rfl) rfl (Gp.move rfl) ?_
      refine WA.tp (i := 5) rfl (by kernel_rfl) (by kernel_rfl) rfl (Gp.move rfl) ?_
      refine WA.tp (i := 6) rfl (by kernel_rfl) (by kernel_rfl) rfl (Gp.indexAddr rfl rfl (by first | assumption | omega | decide) (by first | assumption | omega | decide | (simp only [List.length_cons, List.length_nil]; decide))) ?_
      refine WA.tv (i := 7) rfl (by kernel_rfl) (by kernel_rfl) rfl (Gv.loadRN rfl hread2 (by repeat (first | exact List.Sublist.refl _ | exact List.nil_sublist _ | apply List.Sublist.cons)) (vflat_elem lb i v hv) rfl) ?_
      refine WA.tp (i := 8) rfl (by kernel_rfl) (by kernel_rfl) rfl (Gp.neV (u := u) (v := v) rfl rfl) ?_
      refine WA.done (by kernel_rfl) ?_
      refine WK.un ?_
      refine WC.cond rfl (fun hc3 => ?_) (fun hc3 => ?_)
      · -- yes
        have hne : la ≠ lb := by
          rintro rfl
          rw [hu] at hv; cases hv; simp at hc3
        refine WC.seq ?_
        refine WC.region ?_
        refine WL.p (Gp.assign rfl) (by kernel_rfl) rfl ?_
        refine WL.nil ?_
        refine WK.un ?_
        refine WC.ret ?_
        refine WK.un ?_
        exact QF.p1 (.inl rfl) rfl (.tmp rfl) (⟨by rw [decide_eq_false hne], rfl, rfl⟩)
      · -- no
        have huv : u = v := by simpa using hc3
        refine WC.skip ?_
        refine WK.un ?_
        refine WC.region ?_
        refine WL.p (Gp.move rfl) (by kernel_rfl) rfl ?_
        refine WL.p (Gp.add' rfl rfl (show IntKind.i64.wrap ((i : Int) + 1) = ((i + 1 : Nat) : Int) by rw [wrap_small (by omega) (by omega)]; omega)) (by kernel_rfl) rfl ?_
        refine WL.p (Gp.assign rfl) (by kernel_rfl) rfl ?_
        refine WL.nil ?_
        refine WK.un ?_
        exact WK.again (i + 1) (by omega) ⟨by omega, fun j hj => by
          rcases Nat.lt_or_ge j i with h | h
          · exact hall j h
          · obtain rfl : j = i := by omega
            rw [hu, hv, huv]⟩ (by exact ⟨rfl, rfl, rfl, trivial⟩) rfl (List.Sublist.refl _)
    · -- no
      have hge : la.length ≤ i := by have h := of_decide_eq_false hc2; omega
      have heq : la = lb := List.ext_getElem? fun j => by
        rcases Nat.lt_or_ge j i with h | h
        · exact hall j h
        · rw [List.getElem?_eq_none (by omega), List.getElem?_eq_none (by omega)]
      refine WC.exit ?_
      refine WK.un ?_
      refine WC.seq ?_
      refine WC.region ?_
      refine WL.p (Gp.assign rfl) (by kernel_rfl) rfl ?_
      refine WL.nil ?_
      refine WK.un ?_
      refine WC.ret ?_
      refine WK.un ?_
      exact QF.p1 (.inl rfl) rfl (.tmp rfl) (⟨by rw [decide_eq_true heq], rfl, rfl⟩)

def sameO (o p : Oc) : Bool := decide (o.en = p.en ∧ o.val = p.val ∧ o.steps = p.steps ∧ o.out = p.out)
theorem sameO_refl (o : Oc) : sameO o o = true := by simp [sameO]
theorem same_fn (G : Gh) (H : List Own) (A B : Option Addr) (ca cb : Nat) (o p : Oc) (ha : Rds G H A (vflat o.out)) (hb : Rds G H B (vflat p.out)) (hal : o.out.length ≤ 1000000000000) :
    Fn Try.prog 14 #[ocV o A ca, ocV p B cb] G H fun e G' H' => e = .returned (.bool (sameO o p)) ∧ G = G' ∧ H' = H := by
  refine Fn.enter Try.func14 rfl rfl fun w0 => ?_
  refine WC.seq ?_
  refine WC.region ?_
  refine WL.op (by kernel_rfl) (OW.box rfl rfl fun b1 => ?_)
  refine WL.op (by kernel_rfl) (OW.box rfl rfl fun b2 => ?_)
  refine WL.p (Gp.assign rfl) (by kernel_rfl) rfl ?_
  refine WL.nil ?_
  refine WK.un ?_
  refine WC.seq ?_
  refine WC.region ?_
  refine WL.p (Gp.fieldAddr rfl) (by kernel_rfl) rfl ?_
  (first | (refine WL.v (Gv.load1 rfl (by (repeat first | exact .here | apply At.there)) (by first | rfl | assumption)) (by kernel_rfl) rfl ?_) | (refine WL.v (Gv.loadN rfl (by (repeat first | exact .here | apply At.there)) (by rfl) (by rfl)) (by kernel_rfl) rfl ?_) | (refine WL.v (Gv.loadG1 rfl (by assumption) rfl) (by kernel_rfl) rfl ?_) | (refine WL.v (Gv.loadG0 rfl (by assumption) rfl) (by kernel_rfl) rfl ?_) | (refine WL.v (Gv.loadGN rfl (by assumption) rfl) (by kernel_rfl) rfl ?_))
  refine WL.p (Gp.fieldAddr rfl) (by kernel_rfl) rfl ?_
  (first | (refine WL.v (Gv.load1 rfl (by (repeat first | exact .here | apply At.there)) (by first | rfl | assumption)) (by kernel_rfl) rfl ?_) | (refine WL.v (Gv.loadN rfl (by (repeat first | exact .here | apply At.there)) (by rfl) (by rfl)) (by kernel_rfl) rfl ?_) | (refine WL.v (Gv.loadG1 rfl (by assumption) rfl) (by kernel_rfl) rfl ?_) | (refine WL.v (Gv.loadG0 rfl (by assumption) rfl) (by kernel_rfl) rfl ?_) | (refine WL.v (Gv.loadGN rfl (by assumption) rfl) (by kernel_rfl) rfl ?_))
  by_cases h1 : o.en = p.en
  rotate_left
  ·
    refine WL.p (Gp.eqI' rfl rfl (show (o.en == p.en) = false by simpa using h1)) (by kernel_rfl) rfl ?_
    refine WL.p (Gp.move rfl) (by kernel_rfl) rfl ?_
    refine WL.skip (by kernel_rfl) rfl ?_
    refine WL.skip (by kernel_rfl) rfl ?_
    refine WL.skip (by kernel_rfl) rfl ?_
    refine WL.skip (by kernel_rfl) rfl ?_
    refine WL.skip (by kernel_rfl) rfl ?_
    (first | refine WL.p (Gp.pickT rfl rfl) (by kernel_rfl) rfl ?_ | refine WL.p (Gp.pickF rfl rfl) (by kernel_rfl) rfl ?_)
    refine WL.p (Gp.move rfl) (by kernel_rfl) rfl ?_
    refine WL.skip (by kernel_rfl) rfl ?_
    refine WL.skip (by kernel_rfl) rfl ?_
    refine WL.skip (by kernel_rfl) rfl ?_
    refine WL.skip (by kernel_rfl) rfl ?_
    refine WL.skip (by kernel_rfl) rfl ?_
    (first | refine WL.p (Gp.pickT rfl rfl) (by kernel_rfl) rfl ?_ | refine WL.p (Gp.pickF rfl rfl) (by kernel_rfl) rfl ?_)
    refine WL.p (Gp.move rfl) (by kernel_rfl) rfl ?_
    refine WL.skip (by kernel_rfl) rfl ?_
    refine WL.skip (by kernel_rfl) rfl ?_
    refine WL.skip (by kernel_rfl) rfl ?_
    refine WL.skip (by kernel_rfl) rfl ?_
    refine WL.skip (by kernel_rfl) rfl ?_
    (first | refine WL.p (Gp.pickT rfl rfl) (by kernel_rfl) rfl ?_ | refine WL.p (Gp.pickF rfl rfl) (by kernel_rfl) rfl ?_)
    refine WL.p (Gp.assign rfl) (by kernel_rfl) rfl ?_
    refine WL.nil ?_
    refine WK.un ?_
    refine WC.ret ?_
    refine WK.un ?_
    exact QF.p1 (.inl rfl) rfl (.tmp rfl) (⟨by rw [sameO, decide_eq_false (fun h => h1 h.1)], rfl, rfl⟩)
  refine WL.p (Gp.eqI' rfl rfl (show (o.en == p.en) = true by simpa using h1)) (by kernel_rfl) rfl ?_
  refine WL.p (Gp.move rfl) (by kernel_rfl) rfl ?_
  refine WL.p (Gp.fieldAddr rfl) (by kernel_rfl) rfl ?_
  refine WL.v (Gv.loadN rfl (by (repeat first | exact .here | apply At.there)) rfl rfl) (by kernel_rfl) rfl ?_
  refine WL.p (Gp.fieldAddr rfl) (by kernel_rfl) rfl ?_
  refine WL.v (Gv.loadN rfl (by (repeat first | exact .here | apply At.there)) rfl rfl) (by kernel_rfl) rfl ?_
  refine WL.p (Gp.eqV (u := o.val) (v := p.val) rfl rfl) (by kernel_rfl) rfl ?_
  by_cases h2 : o.val = p.val
  rotate_left
  ·
    rw [decide_eq_false h2]
    (first | refine WL.p (Gp.pickT rfl rfl) (by kernel_rfl) rfl ?_ | refine WL.p (Gp.pickF rfl rfl) (by kernel_rfl) rfl ?_)
    refine WL.p (Gp.move rfl) (by kernel_rfl) rfl ?_
    refine WL.skip (by kernel_rfl) rfl ?_
    refine WL.skip (by kernel_rfl) rfl ?_
    refine WL.skip (by kernel_rfl) rfl ?_
    refine WL.skip (by kernel_rfl) rfl ?_
    refine WL.skip (by kernel_rfl) rfl ?_
    (first | refine WL.p (Gp.pickT rfl rfl) (by kernel_rfl) rfl ?_ | refine WL.p (Gp.pickF rfl rfl) (by kernel_rfl) rfl ?_)
    refine WL.p (Gp.move rfl) (by kernel_rfl) rfl ?_
    refine WL.skip (by kernel_rfl) rfl ?_
    refine WL.skip (by kernel_rfl) rfl ?_
    refine WL.skip (by kernel_rfl) rfl ?_
    refine WL.skip (by kernel_rfl) rfl ?_
    refine WL.skip (by kernel_rfl) rfl ?_
    (first | refine WL.p (Gp.pickT rfl rfl) (by kernel_rfl) rfl ?_ | refine WL.p (Gp.pickF rfl rfl) (by kernel_rfl) rfl ?_)
    refine WL.p (Gp.assign rfl) (by kernel_rfl) rfl ?_
    refine WL.nil ?_
    refine WK.un ?_
    refine WC.ret ?_
    refine WK.un ?_
    exact QF.p1 (.inl rfl) rfl (.tmp rfl) (⟨by rw [sameO, decide_eq_false (fun h => h2 h.2.1)], rfl, rfl⟩)
  rw [decide_eq_true h2]
  (first | refine WL.p (Gp.pickT rfl rfl) (by kernel_rfl) rfl ?_ | refine WL.p (Gp.pickF rfl rfl) (by kernel_rfl) rfl ?_)
  refine WL.p (Gp.move rfl) (by kernel_rfl) rfl ?_
  refine WL.p (Gp.fieldAddr rfl) (by kernel_rfl) rfl ?_
  (first | (refine WL.v (Gv.load1 rfl (by (repeat first | exact .here | apply At.there)) (by first | rfl | assumption)) (by kernel_rfl) rfl ?_) | (refine WL.v (Gv.loadN rfl (by (repeat first | exact .here | apply At.there)) (by rfl) (by rfl)) (by kernel_rfl) rfl ?_) | (refine WL.v (Gv.loadG1 rfl (by assumption) rfl) (by kernel_rfl) rfl ?_) | (refine WL.v (Gv.loadG0 rfl (by assumption) rfl) (by kernel_rfl) rfl ?_) | (refine WL.v (Gv.loadGN rfl (by assumption) rfl) (by kernel_rfl) rfl ?_))
  refine WL.p (Gp.fieldAddr rfl) (by kernel_rfl) rfl ?_
  (first | (refine WL.v (Gv.load1 rfl (by (repeat first | exact .here | apply At.there)) (by first | rfl | assumption)) (by kernel_rfl) rfl ?_) | (refine WL.v (Gv.loadN rfl (by (repeat first | exact .here | apply At.there)) (by rfl) (by rfl)) (by kernel_rfl) rfl ?_) | (refine WL.v (Gv.loadG1 rfl (by assumption) rfl) (by kernel_rfl) rfl ?_) | (refine WL.v (Gv.loadG0 rfl (by assumption) rfl) (by kernel_rfl) rfl ?_) | (refine WL.v (Gv.loadGN rfl (by assumption) rfl) (by kernel_rfl) rfl ?_))
  by_cases h3 : o.steps = p.steps
  rotate_left
  ·
    refine WL.p (Gp.eqI' rfl rfl (show (o.steps == p.steps) = false by simpa using h3)) (by kernel_rfl) rfl ?_
    (first | refine WL.p (Gp.pickT rfl rfl) (by kernel_rfl) rfl ?_ | refine WL.p (Gp.pickF rfl rfl) (by kernel_rfl) rfl ?_)
    refine WL.p (Gp.move rfl) (by kernel_rfl) rfl ?_
    refine WL.skip (by kernel_rfl) rfl ?_
    refine WL.skip (by kernel_rfl) rfl ?_
    refine WL.skip (by kernel_rfl) rfl ?_
    refine WL.skip (by kernel_rfl) rfl ?_
    refine WL.skip (by kernel_rfl) rfl ?_
    (first | refine WL.p (Gp.pickT rfl rfl) (by kernel_rfl) rfl ?_ | refine WL.p (Gp.pickF rfl rfl) (by kernel_rfl) rfl ?_)
    refine WL.p (Gp.assign rfl) (by kernel_rfl) rfl ?_
    refine WL.nil ?_
    refine WK.un ?_
    refine WC.ret ?_
    refine WK.un ?_
    exact QF.p1 (.inl rfl) rfl (.tmp rfl) (⟨by rw [sameO, decide_eq_false (fun h => h3 h.2.2.1)], rfl, rfl⟩)
  refine WL.p (Gp.eqI' rfl rfl (show (o.steps == p.steps) = true by simpa using h3)) (by kernel_rfl) rfl ?_
  (first | refine WL.p (Gp.pickT rfl rfl) (by kernel_rfl) rfl ?_ | refine WL.p (Gp.pickF rfl rfl) (by kernel_rfl) rfl ?_)
  refine WL.p (Gp.move rfl) (by kernel_rfl) rfl ?_
  refine WL.p (Gp.fieldAddr rfl) (by kernel_rfl) rfl ?_
  (first | (refine WL.v (Gv.load1 rfl (by (repeat first | exact .here | apply At.there)) (by first | rfl | assumption)) (by kernel_rfl) rfl ?_) | (refine WL.v (Gv.loadN rfl (by (repeat first | exact .here | apply At.there)) (by rfl) (by rfl)) (by kernel_rfl) rfl ?_) | (refine WL.v (Gv.loadG1 rfl (by assumption) rfl) (by kernel_rfl) rfl ?_) | (refine WL.v (Gv.loadG0 rfl (by assumption) rfl) (by kernel_rfl) rfl ?_) | (refine WL.v (Gv.loadGN rfl (by assumption) rfl) (by kernel_rfl) rfl ?_))
  refine WL.p (Gp.fieldAddr rfl) (by kernel_rfl) rfl ?_
  (first | (refine WL.v (Gv.load1 rfl (by (repeat first | exact .here | apply At.there)) (by first | rfl | assumption)) (by kernel_rfl) rfl ?_) | (refine WL.v (Gv.loadN rfl (by (repeat first | exact .here | apply At.there)) (by rfl) (by rfl)) (by kernel_rfl) rfl ?_) | (refine WL.v (Gv.loadG1 rfl (by assumption) rfl) (by kernel_rfl) rfl ?_) | (refine WL.v (Gv.loadG0 rfl (by assumption) rfl) (by kernel_rfl) rfl ?_) | (refine WL.v (Gv.loadGN rfl (by assumption) rfl) (by kernel_rfl) rfl ?_))
  refine WL.op (by kernel_rfl) (OW.callK rfl (samevals_fn G H A B ca cb o.out p.out ha hb hal) rfl fun v' G' H' h hg => ?_)
  obtain ⟨he, rfl, rfl⟩ := h
  cases he
  (first | refine WL.p (Gp.pickT rfl rfl) (by kernel_rfl) rfl ?_ | refine WL.p (Gp.pickF rfl rfl) (by kernel_rfl) rfl ?_)
  refine WL.p (Gp.assign rfl) (by kernel_rfl) rfl ?_
  refine WL.nil ?_
  refine WK.un ?_
  refine WC.ret ?_
  refine WK.un ?_
  exact QF.p1 (.inl rfl) rfl (.tmp rfl) (⟨by simp [sameO, h1, h2, h3], rfl, rfl⟩)

theorem begins_fn (G : Gh) (H : List Own) (A B : Option Addr) (ca cb : Nat) (la lb : List V) (ha : Rds G H A (vflat la)) (hb : Rds G H B (vflat lb)) (hca : la.length ≤ ca) (hal : la.length ≤ 1000000000000) :
    Fn Try.prog 18 #[.slice A la.length ca, .slice B lb.length cb] G H fun e G' H' => e = .returned (.bool (decide (lb.length ≤ la.length ∧ la.take lb.length = lb))) ∧ G = G' ∧ H' = H := by
  refine Fn.enter Try.func18 rfl rfl fun w0 => ?_
  refine WC.seq ?_
  refine WC.region ?_
  refine WL.p (Gp.assign rfl) (by kernel_rfl) rfl ?_
  refine WL.nil ?_
  refine WK.un ?_
  refine WC.seq ?_
  refine WC.region ?_
  refine WL.p (Gp.move rfl) (by kernel_rfl) rfl ?_
  (first | refine WL.p (Gp.lenSl rfl) (by kernel_rfl) rfl ?_ | refine WL.p (Gp.lenS rfl) (by kernel_rfl) rfl ?_)
  refine WL.p (Gp.move rfl) (by kernel_rfl) rfl ?_
  (first | refine WL.p (Gp.lenSl rfl) (by kernel_rfl) rfl ?_ | refine WL.p (Gp.lenS rfl) (by kernel_rfl) rfl ?_)
  by_cases h1 : lb.length ≤ la.length
  rotate_left
  ·
    refine WL.p (Gp.geI' rfl rfl (show decide ((lb.length : Int) ≤ (la.length : Int)) = false from decide_eq_false (by omega))) (by kernel_rfl) rfl ?_
    refine WL.p (Gp.move rfl) (by kernel_rfl) rfl ?_
    refine WL.skip (by kernel_rfl) rfl ?_
    refine WL.skip (by kernel_rfl) rfl ?_
    refine WL.skip (by kernel_rfl) rfl ?_
    refine WL.skip (by kernel_rfl) rfl ?_
    refine WL.skip (by kernel_rfl) rfl ?_
    refine WL.skip (by kernel_rfl) rfl ?_
    (first | refine WL.p (Gp.pickT rfl rfl) (by kernel_rfl) rfl ?_ | refine WL.p (Gp.pickF rfl rfl) (by kernel_rfl) rfl ?_)
    refine WL.p (Gp.assign rfl) (by kernel_rfl) rfl ?_
    refine WL.nil ?_
    refine WK.un ?_
    refine WC.ret ?_
    refine WK.un ?_
    exact QF.p1 (.inl rfl) rfl (.tmp rfl) (⟨by rw [decide_eq_false (fun h => h1 h.1)], rfl, rfl⟩)
  refine WL.p (Gp.geI' rfl rfl (show decide ((lb.length : Int) ≤ (la.length : Int)) = true from decide_eq_true (by omega))) (by kernel_rfl) rfl ?_
  refine WL.p (Gp.move rfl) (by kernel_rfl) rfl ?_
  refine WL.p (Gp.move rfl) (by kernel_rfl) rfl ?_
  refine WL.p (Gp.move rfl) (by kernel_rfl) rfl ?_
  (first | refine WL.p (Gp.lenSl rfl) (by kernel_rfl) rfl ?_ | refine WL.p (Gp.lenS rfl) (by kernel_rfl) rfl ?_)
  refine WL.p (Gp.sliceTo rfl rfl (by omega) (by omega)) (by kernel_rfl) rfl ?_
  refine WL.p (Gp.move rfl) (by kernel_rfl) rfl ?_
  have hr : Rds G H A (vflat (la.take lb.length)) := by
    rcases ha with h0 | ⟨b1, o1, rfl, hread⟩
    · refine .inl ?_
      have h := congrArg List.length h0
      rw [vflat_length] at h; simp only [List.length_nil] at h
      rw [show la = [] from List.eq_nil_of_length_eq_zero (by omega)]; simp [vflat]
    · refine .inr ⟨b1, o1, rfl, fun w hw j v e => hread w hw j v ?_⟩
      rw [← List.take_append_drop lb.length la, vflat_append]
      rw [List.getElem?_append_left (List.getElem?_eq_some_iff.1 e).1]
      exact e
  have hlt : (la.take lb.length).length = lb.length := by simp; omega
  have hsv := samevals_fn G H A B ca cb (la.take lb.length) lb hr hb (by omega)
  rw [hlt] at hsv
  refine WL.op (by kernel_rfl) (OW.callK rfl (hsv) rfl fun v' G' H' h hg => ?_)
  obtain ⟨he, rfl, rfl⟩ := h
  cases he
  (first | refine WL.p (Gp.pickT rfl rfl) (by kernel_rfl) rfl ?_ | refine WL.p (Gp.pickF rfl rfl) (by kernel_rfl) rfl ?_)
  refine WL.p (Gp.assign rfl) (by kernel_rfl) rfl ?_
  refine WL.nil ?_
  refine WK.un ?_
  refine WC.ret ?_
  refine WK.un ?_
  exact QF.p1 (.inl rfl) rfl (.tmp rfl) (⟨by simp [h1], rfl, rfl⟩)

theorem capped_fn (G : Gh) (n : Int) : Fn Try.prog 13 #[.int .i64 n] G [] fun e G' H' => e = .returned (.int .i64 (if 20000 < n then 20000 else n)) ∧ G = G' ∧ H' = [] := by
  refine Fn.enter Try.func13 rfl rfl fun w0 => ?_
  refine WC.seq ?_
  refine WC.region ?_
  refine WL.p (Gp.assign rfl) (by kernel_rfl) rfl ?_
  refine WL.nil ?_
  refine WK.un ?_
  refine WC.seq ?_
  refine WC.seq ?_
  refine WC.region ?_
  refine WL.p (Gp.move rfl) (by kernel_rfl) rfl ?_
  (first | refine WL.p (Gp.gtI rfl rfl) (by kernel_rfl) rfl ?_ | refine WL.p (Gp.gtS rfl rfl) (by kernel_rfl) rfl ?_)
  refine WL.nil ?_
  refine WK.un ?_
  refine WC.cond rfl (fun hc1 => ?_) (fun hc1 => ?_)
  · -- yes
    refine WC.seq ?_
    refine WC.region ?_
    refine WL.p (Gp.assign rfl) (by kernel_rfl) rfl ?_
    refine WL.nil ?_
    refine WK.un ?_
    refine WC.ret ?_
    refine WK.un ?_
    exact QF.p1 (.inl rfl) rfl (.tmp rfl) (⟨by rw [if_pos (of_decide_eq_true hc1)], rfl, rfl⟩)
  · -- no
    refine WC.skip ?_
    refine WK.un ?_
    refine WC.seq ?_
    refine WC.region ?_
    refine WL.p (Gp.move rfl) (by kernel_rfl) rfl ?_
    refine WL.p (Gp.assign rfl) (by kernel_rfl) rfl ?_
    refine WL.nil ?_
    refine WK.un ?_
    refine WC.ret ?_
    refine WK.un ?_
    exact QF.p1 (.inl rfl) rfl (.tmp rfl) (⟨by rw [if_neg (of_decide_eq_false hc1)], rfl, rfl⟩)
end Go.Proofs.Ytjgohbepageicaa.Gb
namespace Go.Proofs.Ytjgohbepageicaa.Gb
open Go Go.Proofs
set_option linter.unusedVariables false
set_option linter.unusedSimpArgs false
set_option linter.unusedSectionVars false
attribute [local irreducible] Try.prog

def topVars (s : Mc) : List V := match s.frames with | [] => [] | f :: _ => f.vars
def topStack (s : Mc) : List V := match s.frames with | [] => [] | f :: _ => f.stack
def spotR (s : Mc) : Int × Int := match s.frames with | [] => (0, 0) | f :: _ => (f.proc, f.pc)
theorem unmade_frames {s : Mc} (h : madeB s = false) : s.frames = [] := by
  unfold madeB at h
  simp at h
  exact h.1

section
variable (G : Gh) (CA PA : Option Addr) (cc pc cn pn : Nat) (c3 : Value) (mb : Nat)

theorem Outcome_nil : Fn Try.prog 24 #[.pointer none] G [] fun e G' H' => e = .returned (ocV Oc0 none 0) ∧ G = G' ∧ H' = [] := by
  refine Fn.enter Try.func24 rfl rfl fun w0 => ?_
  refine WC.seq ?_
  refine WC.region ?_
  refine WL.op (by kernel_rfl) (OW.alloc rfl fun b1 => ?_)
  refine WL.nil ?_
  refine WK.un ?_
  refine WC.seq ?_
  refine WC.seq ?_
  refine WC.region ?_
  refine WL.p (Gp.move rfl) (by kernel_rfl) rfl ?_
  refine WL.op (by kernel_rfl) (OW.callK rfl (made_nil G) rfl fun v' G' H' h hg => ?_)
  obtain ⟨he, rfl, rfl⟩ := h
  cases he
  refine WL.p (Gp.notB rfl) (by kernel_rfl) rfl ?_
  refine WL.nil ?_
  refine WK.un ?_
  refine WC.cond_true rfl ?_
  refine WC.seq ?_
  refine WC.region ?_
  refine WL.p (Gp.build rfl rfl) (by kernel_rfl) rfl ?_
  refine WL.op (by kernel_rfl) (OW.store rfl rfl (by (repeat first | exact .here | apply At.there)) rfl (by rfl) (by rfl) (by kernel_rfl) (by rfl) ?_ rfl)
  refine WL.nil ?_
  refine WK.un ?_
  refine WC.ret ?_
  refine WK.un ?_
  exact QF.p1 (.inl rfl) rfl (.cell rfl inferInstance inferInstance (by (repeat first | exact .here | apply At.there)) rfl rfl) (⟨rfl, rfl, rfl⟩)

theorem Outcome_un (s : Mc) (H : List Own) (hR : MRep CA PA cc pc cn pn c3 mb s H) (hm : madeB s = false) : Fn Try.prog 24 #[.pointer (some ⟨mb, 0, none⟩)] G H fun e G' H' => e = .returned (ocV Oc0 none 0) ∧ G = G' ∧ H' = H := by
  refine Fn.enter Try.func24 rfl rfl fun w0 => ?_
  refine WC.seq ?_
  refine WC.region ?_
  refine WL.op (by kernel_rfl) (OW.alloc rfl fun b1 => ?_)
  refine WL.nil ?_
  refine WK.un ?_
  refine WC.seq ?_
  refine WC.seq ?_
  refine WC.region ?_
  refine WL.p (Gp.move rfl) (by kernel_rfl) rfl ?_
  refine WL.op (by kernel_rfl) (OW.callR rfl (perm_at .here |>.trans (List.perm_append_comm (l₁ := [_]))) (made_fn G CA PA cc pc cn pn c3 mb s H hR) rfl (by intro e G' H' h; repeat (first | exact ⟨_, h.1⟩ | (obtain ⟨_, h⟩ := h))) fun v' G' H' h hg => ?_)
  obtain ⟨he, rfl, rfl⟩ := h
  cases he
  refine WL.swap ?_
  rw [hm]
  refine WL.p (Gp.notB rfl) (by kernel_rfl) rfl ?_
  refine WL.nil ?_
  refine WK.un ?_
  refine WC.cond_true rfl ?_
  refine WC.seq ?_
  refine WC.region ?_
  refine WL.p (Gp.build rfl rfl) (by kernel_rfl) rfl ?_
  refine WL.op (by kernel_rfl) (OW.store rfl rfl (by (repeat first | exact .here | apply At.there)) rfl (by rfl) (by rfl) (by kernel_rfl) (by rfl) ?_ rfl)
  refine WL.nil ?_
  refine WK.un ?_
  refine WC.ret ?_
  refine WK.un ?_
  exact QF.p1 (.inl rfl) rfl (.cell rfl inferInstance inferInstance (by (repeat first | exact .here | apply At.there)) rfl rfl) (⟨rfl, rfl, rfl⟩)

theorem Spot_nil : Fn Try.prog 25 #[.pointer none] G [] fun e G' H' => e = .returned (.agg #[.int .i64 0, .int .i64 0]) ∧ G = G' ∧ H' = [] := by
  refine Fn.enter Try.func25 rfl rfl fun w0 => ?_
  refine WC.seq ?_
  refine WC.region ?_
  refine WL.op (by kernel_rfl) (OW.alloc rfl fun b1 => ?_)
  refine WL.nil ?_
  refine WK.un ?_
  refine WC.seq ?_
  refine WC.seq ?_
  refine WC.region ?_
  refine WL.p (Gp.move rfl) (by kernel_rfl) rfl ?_
  refine WL.op (by kernel_rfl) (OW.callK rfl (made_nil G) rfl fun v' G' H' h hg => ?_)
  obtain ⟨he, rfl, rfl⟩ := h
  cases he
  refine WL.p (Gp.notB rfl) (by kernel_rfl) rfl ?_
  refine WL.p (Gp.move rfl) (by kernel_rfl) rfl ?_
  refine WL.skip (by kernel_rfl) rfl ?_
  refine WL.skip (by kernel_rfl) rfl ?_
  refine WL.skip (by kernel_rfl) rfl ?_
  refine WL.skip (by kernel_rfl) rfl ?_
  refine WL.skip (by kernel_rfl) rfl ?_
  refine WL.skip (by kernel_rfl) rfl ?_
  (first | refine WL.p (Gp.pickT rfl rfl) (by kernel_rfl) rfl ?_ | refine WL.p (Gp.pickF rfl rfl) (by kernel_rfl) rfl ?_)
  refine WL.nil ?_
  refine WK.un ?_
  refine WC.cond_true rfl ?_
  refine WC.seq ?_
  refine WC.region ?_
  refine WL.p (Gp.build rfl rfl) (by kernel_rfl) rfl ?_
  refine WL.op (by kernel_rfl) (OW.store rfl rfl (by (repeat first | exact .here | apply At.there)) rfl (by rfl) (by rfl) (by kernel_rfl) (by rfl) ?_ rfl)
  refine WL.nil ?_
  refine WK.un ?_
  refine WC.ret ?_
  refine WK.un ?_
  exact QF.p1 (.inl rfl) rfl (.cell rfl inferInstance inferInstance (by (repeat first | exact .here | apply At.there)) rfl rfl) (⟨rfl, rfl, rfl⟩)

theorem Spot_un (s : Mc) (H : List Own) (hR : MRep CA PA cc pc cn pn c3 mb s H) (hm : madeB s = false) : Fn Try.prog 25 #[.pointer (some ⟨mb, 0, none⟩)] G H fun e G' H' => e = .returned (.agg #[.int .i64 0, .int .i64 0]) ∧ G = G' ∧ H' = H := by
  refine Fn.enter Try.func25 rfl rfl fun w0 => ?_
  refine WC.seq ?_
  refine WC.region ?_
  refine WL.op (by kernel_rfl) (OW.alloc rfl fun b1 => ?_)
  refine WL.nil ?_
  refine WK.un ?_
  refine WC.seq ?_
  refine WC.seq ?_
  refine WC.region ?_
  refine WL.p (Gp.move rfl) (by kernel_rfl) rfl ?_
  refine WL.op (by kernel_rfl) (OW.callR rfl (perm_at .here |>.trans (List.perm_append_comm (l₁ := [_]))) (made_fn G CA PA cc pc cn pn c3 mb s H hR) rfl (by intro e G' H' h; repeat (first | exact ⟨_, h.1⟩ | (obtain ⟨_, h⟩ := h))) fun v' G' H' h hg => ?_)
  obtain ⟨he, rfl, rfl⟩ := h
  cases he
  refine WL.swap ?_
  rw [hm]
  refine WL.p (Gp.notB rfl) (by kernel_rfl) rfl ?_
  refine WL.p (Gp.move rfl) (by kernel_rfl) rfl ?_
  refine WL.skip (by kernel_rfl) rfl ?_
  refine WL.skip (by kernel_rfl) rfl ?_
  refine WL.skip (by kernel_rfl) rfl ?_
  refine WL.skip (by kernel_rfl) rfl ?_
  refine WL.skip (by kernel_rfl) rfl ?_
  refine WL.skip (by kernel_rfl) rfl ?_
  (first | refine WL.p (Gp.pickT rfl rfl) (by kernel_rfl) rfl ?_ | refine WL.p (Gp.pickF rfl rfl) (by kernel_rfl) rfl ?_)
  refine WL.nil ?_
  refine WK.un ?_
  refine WC.cond_true rfl ?_
  refine WC.seq ?_
  refine WC.region ?_
  refine WL.p (Gp.build rfl rfl) (by kernel_rfl) rfl ?_
  refine WL.op (by kernel_rfl) (OW.store rfl rfl (by (repeat first | exact .here | apply At.there)) rfl (by rfl) (by rfl) (by kernel_rfl) (by rfl) ?_ rfl)
  refine WL.nil ?_
  refine WK.un ?_
  refine WC.ret ?_
  refine WK.un ?_
  exact QF.p1 (.inl rfl) rfl (.cell rfl inferInstance inferInstance (by (repeat first | exact .here | apply At.there)) rfl rfl) (⟨rfl, rfl, rfl⟩)

theorem Depth_nil : Fn Try.prog 26 #[.pointer none] G [] fun e G' H' => e = .returned (.int .i64 0) ∧ G = G' ∧ H' = [] := by
  refine Fn.enter Try.func26 rfl rfl fun w0 => ?_
  refine WC.seq ?_
  refine WC.region ?_
  refine WL.p (Gp.assign rfl) (by kernel_rfl) rfl ?_
  refine WL.nil ?_
  refine WK.un ?_
  refine WC.seq ?_
  refine WC.seq ?_
  refine WC.region ?_
  refine WL.p (Gp.move rfl) (by kernel_rfl) rfl ?_
  refine WL.op (by kernel_rfl) (OW.callK rfl (made_nil G) rfl fun v' G' H' h hg => ?_)
  obtain ⟨he, rfl, rfl⟩ := h
  cases he
  refine WL.p (Gp.notB rfl) (by kernel_rfl) rfl ?_
  refine WL.nil ?_
  refine WK.un ?_
  refine WC.cond_true rfl ?_
  refine WC.seq ?_
  refine WC.region ?_
  refine WL.p (Gp.assign rfl) (by kernel_rfl) rfl ?_
  refine WL.nil ?_
  refine WK.un ?_
  refine WC.ret ?_
  refine WK.un ?_
  exact QF.p1 (.inl rfl) rfl (.tmp rfl) (⟨rfl, rfl, rfl⟩)

theorem Depth_un (s : Mc) (H : List Own) (hR : MRep CA PA cc pc cn pn c3 mb s H) (hm : madeB s = false) : Fn Try.prog 26 #[.pointer (some ⟨mb, 0, none⟩)] G H fun e G' H' => e = .returned (.int .i64 0) ∧ G = G' ∧ H' = H := by
  refine Fn.enter Try.func26 rfl rfl fun w0 => ?_
  refine WC.seq ?_
  refine WC.region ?_
  refine WL.p (Gp.assign rfl) (by kernel_rfl) rfl ?_
  refine WL.nil ?_
  refine WK.un ?_
  refine WC.seq ?_
  refine WC.seq ?_
  refine WC.region ?_
  refine WL.p (Gp.move rfl) (by kernel_rfl) rfl ?_
  refine WL.op (by kernel_rfl) (OW.callK rfl (made_fn G CA PA cc pc cn pn c3 mb s H hR) rfl fun v' G' H' h hg => ?_)
  obtain ⟨he, rfl, rfl⟩ := h
  cases he
  rw [hm]
  refine WL.p (Gp.notB rfl) (by kernel_rfl) rfl ?_
  refine WL.nil ?_
  refine WK.un ?_
  refine WC.cond_true rfl ?_
  refine WC.seq ?_
  refine WC.region ?_
  refine WL.p (Gp.assign rfl) (by kernel_rfl) rfl ?_
  refine WL.nil ?_
  refine WK.un ?_
  refine WC.ret ?_
  refine WK.un ?_
  exact QF.p1 (.inl rfl) rfl (.tmp rfl) (⟨rfl, rfl, rfl⟩)

theorem Clone_nil : Fn Try.prog 33 #[.pointer none] G [] fun e G' H' => e = .returned (.pointer none) ∧ G = G' ∧ H' = [] := by
  refine Fn.enter Try.func33 rfl rfl fun w0 => ?_
  refine WC.seq ?_
  refine WC.region ?_
  refine WL.p (Gp.assign rfl) (by kernel_rfl) rfl ?_
  refine WL.nil ?_
  refine WK.un ?_
  refine WC.seq ?_
  refine WC.seq ?_
  refine WC.region ?_
  refine WL.p (Gp.move rfl) (by kernel_rfl) rfl ?_
  refine WL.op (by kernel_rfl) (OW.callK rfl (made_nil G) rfl fun v' G' H' h hg => ?_)
  obtain ⟨he, rfl, rfl⟩ := h
  cases he
  refine WL.p (Gp.notB rfl) (by kernel_rfl) rfl ?_
  refine WL.nil ?_
  refine WK.un ?_
  refine WC.cond_true rfl ?_
  refine WC.seq ?_
  refine WC.region ?_
  refine WL.p (Gp.assign rfl) (by kernel_rfl) rfl ?_
  refine WL.nil ?_
  refine WK.un ?_
  refine WC.ret ?_
  refine WK.un ?_
  exact QF.p1 (.inl rfl) rfl (.tmp rfl) (⟨rfl, rfl, rfl⟩)

theorem Clone_un (s : Mc) (H : List Own) (hR : MRep CA PA cc pc cn pn c3 mb s H) (hm : madeB s = false) : Fn Try.prog 33 #[.pointer (some ⟨mb, 0, none⟩)] G H fun e G' H' => e = .returned (.pointer none) ∧ G = G' ∧ H' = H := by
  refine Fn.enter Try.func33 rfl rfl fun w0 => ?_
  refine WC.seq ?_
  refine WC.region ?_
  refine WL.p (Gp.assign rfl) (by kernel_rfl) rfl ?_
  refine WL.nil ?_
  refine WK.un ?_
  refine WC.seq ?_
  refine WC.seq ?_
  refine WC.region ?_
  refine WL.p (Gp.move rfl) (by kernel_rfl) rfl ?_
  refine WL.op (by kernel_rfl) (OW.callK rfl (made_fn G CA PA cc pc cn pn c3 mb s H hR) rfl fun v' G' H' h hg => ?_)
  obtain ⟨he, rfl, rfl⟩ := h
  cases he
  rw [hm]
  refine WL.p (Gp.notB rfl) (by kernel_rfl) rfl ?_
  refine WL.nil ?_
  refine WK.un ?_
  refine WC.cond_true rfl ?_
  refine WC.seq ?_
  refine WC.region ?_
  refine WL.p (Gp.assign rfl) (by kernel_rfl) rfl ?_
  refine WL.nil ?_
  refine WK.un ?_
  refine WC.ret ?_
  refine WK.un ?_
  exact QF.p1 (.inl rfl) rfl (.tmp rfl) (⟨rfl, rfl, rfl⟩)

theorem Ended_nil : Fn Try.prog 34 #[.pointer none] G [] fun e G' H' => e = .returned (.bool false) ∧ G = G' ∧ H' = [] := by
  refine Fn.enter Try.func34 rfl rfl fun w0 => ?_
  refine WC.seq ?_
  refine WC.region ?_
  refine WL.p (Gp.assign rfl) (by kernel_rfl) rfl ?_
  refine WL.nil ?_
  refine WK.un ?_
  refine WC.seq ?_
  refine WC.region ?_
  refine WL.p (Gp.move rfl) (by kernel_rfl) rfl ?_
  refine WL.op (by kernel_rfl) (OW.callK rfl (made_nil G) rfl fun v' G' H' h hg => ?_)
  obtain ⟨he, rfl, rfl⟩ := h
  cases he
  refine WL.p (Gp.move rfl) (by kernel_rfl) rfl ?_
  refine WL.skip (by kernel_rfl) rfl ?_
  refine WL.skip (by kernel_rfl) rfl ?_
  refine WL.skip (by kernel_rfl) rfl ?_
  refine WL.skip (by kernel_rfl) rfl ?_
  (first | refine WL.p (Gp.pickT rfl rfl) (by kernel_rfl) rfl ?_ | refine WL.p (Gp.pickF rfl rfl) (by kernel_rfl) rfl ?_)
  refine WL.p (Gp.assign rfl) (by kernel_rfl) rfl ?_
  refine WL.nil ?_
  refine WK.un ?_
  refine WC.ret ?_
  refine WK.un ?_
  exact QF.p1 (.inl rfl) rfl (.tmp rfl) (⟨rfl, rfl, rfl⟩)

theorem Ended_un (s : Mc) (H : List Own) (hR : MRep CA PA cc pc cn pn c3 mb s H) (hm : madeB s = false) : Fn Try.prog 34 #[.pointer (some ⟨mb, 0, none⟩)] G H fun e G' H' => e = .returned (.bool false) ∧ G = G' ∧ H' = H := by
  refine Fn.enter Try.func34 rfl rfl fun w0 => ?_
  refine WC.seq ?_
  refine WC.region ?_
  refine WL.p (Gp.assign rfl) (by kernel_rfl) rfl ?_
  refine WL.nil ?_
  refine WK.un ?_
  refine WC.seq ?_
  refine WC.region ?_
  refine WL.p (Gp.move rfl) (by kernel_rfl) rfl ?_
  refine WL.op (by kernel_rfl) (OW.callK rfl (made_fn G CA PA cc pc cn pn c3 mb s H hR) rfl fun v' G' H' h hg => ?_)
  obtain ⟨he, rfl, rfl⟩ := h
  cases he
  rw [hm]
  refine WL.p (Gp.move rfl) (by kernel_rfl) rfl ?_
  refine WL.skip (by kernel_rfl) rfl ?_
  refine WL.skip (by kernel_rfl) rfl ?_
  refine WL.skip (by kernel_rfl) rfl ?_
  refine WL.skip (by kernel_rfl) rfl ?_
  (first | refine WL.p (Gp.pickT rfl rfl) (by kernel_rfl) rfl ?_ | refine WL.p (Gp.pickF rfl rfl) (by kernel_rfl) rfl ?_)
  refine WL.p (Gp.assign rfl) (by kernel_rfl) rfl ?_
  refine WL.nil ?_
  refine WK.un ?_
  refine WC.ret ?_
  refine WK.un ?_
  exact QF.p1 (.inl rfl) rfl (.tmp rfl) (⟨rfl, rfl, rfl⟩)

theorem Vars_nil : Fn Try.prog 28 #[.pointer none] G [] fun e G' H' => e = .returned (.slice none 0 0) ∧ G = G' ∧ H' = [] := by
  refine Fn.enter Try.func28 rfl rfl fun w0 => ?_
  refine WC.seq ?_
  refine WC.region ?_
  refine WL.p (Gp.assign rfl) (by kernel_rfl) rfl ?_
  refine WL.nil ?_
  refine WK.un ?_
  refine WC.seq ?_
  refine WC.seq ?_
  refine WC.region ?_
  refine WL.p (Gp.move rfl) (by kernel_rfl) rfl ?_
  refine WL.op (by kernel_rfl) (OW.callK rfl (Depth_nil G) rfl fun v' G' H' h hg => ?_)
  obtain ⟨he, rfl, rfl⟩ := h
  cases he
  (first | refine WL.p (Gp.eqI rfl rfl) (by kernel_rfl) rfl ?_ | refine WL.p (Gp.eqS rfl rfl) (by kernel_rfl) rfl ?_ | refine WL.p (Gp.nilSl rfl) (by kernel_rfl) rfl ?_ | refine WL.p (Gp.eqB rfl rfl) (by kernel_rfl) rfl ?_)
  refine WL.nil ?_
  refine WK.un ?_
  refine WC.cond_true rfl ?_
  refine WC.seq ?_
  refine WC.region ?_
  refine WL.p (Gp.assign rfl) (by kernel_rfl) rfl ?_
  refine WL.nil ?_
  refine WK.un ?_
  refine WC.ret ?_
  refine WK.un ?_
  exact QF.p1 (.inl rfl) rfl (.tmp rfl) (⟨rfl, rfl, rfl⟩)

theorem Vars_un (s : Mc) (H : List Own) (hR : MRep CA PA cc pc cn pn c3 mb s H) (hm : madeB s = false) : Fn Try.prog 28 #[.pointer (some ⟨mb, 0, none⟩)] G H fun e G' H' => e = .returned (.slice none 0 0) ∧ G = G' ∧ H' = H := by
  refine Fn.enter Try.func28 rfl rfl fun w0 => ?_
  refine WC.seq ?_
  refine WC.region ?_
  refine WL.p (Gp.assign rfl) (by kernel_rfl) rfl ?_
  refine WL.nil ?_
  refine WK.un ?_
  refine WC.seq ?_
  refine WC.seq ?_
  refine WC.region ?_
  refine WL.p (Gp.move rfl) (by kernel_rfl) rfl ?_
  refine WL.op (by kernel_rfl) (OW.callK rfl (Depth_un G CA PA cc pc cn pn c3 mb s H hR hm) rfl fun v' G' H' h hg => ?_)
  obtain ⟨he, rfl, rfl⟩ := h
  cases he
  (first | refine WL.p (Gp.eqI rfl rfl) (by kernel_rfl) rfl ?_ | refine WL.p (Gp.eqS rfl rfl) (by kernel_rfl) rfl ?_ | refine WL.p (Gp.nilSl rfl) (by kernel_rfl) rfl ?_ | refine WL.p (Gp.eqB rfl rfl) (by kernel_rfl) rfl ?_)
  refine WL.nil ?_
  refine WK.un ?_
  refine WC.cond_true rfl ?_
  refine WC.seq ?_
  refine WC.region ?_
  refine WL.p (Gp.assign rfl) (by kernel_rfl) rfl ?_
  refine WL.nil ?_
  refine WK.un ?_
  refine WC.ret ?_
  refine WK.un ?_
  exact QF.p1 (.inl rfl) rfl (.tmp rfl) (⟨rfl, rfl, rfl⟩)

theorem Stack_nil : Fn Try.prog 29 #[.pointer none] G [] fun e G' H' => e = .returned (.slice none 0 0) ∧ G = G' ∧ H' = [] := by
  refine Fn.enter Try.func29 rfl rfl fun w0 => ?_
  refine WC.seq ?_
  refine WC.region ?_
  refine WL.p (Gp.assign rfl) (by kernel_rfl) rfl ?_
  refine WL.nil ?_
  refine WK.un ?_
  refine WC.seq ?_
  refine WC.seq ?_
  refine WC.region ?_
  refine WL.p (Gp.move rfl) (by kernel_rfl) rfl ?_
  refine WL.op (by kernel_rfl) (OW.callK rfl (Depth_nil G) rfl fun v' G' H' h hg => ?_)
  obtain ⟨he, rfl, rfl⟩ := h
  cases he
  (first | refine WL.p (Gp.eqI rfl rfl) (by kernel_rfl) rfl ?_ | refine WL.p (Gp.eqS rfl rfl) (by kernel_rfl) rfl ?_ | refine WL.p (Gp.nilSl rfl) (by kernel_rfl) rfl ?_ | refine WL.p (Gp.eqB rfl rfl) (by kernel_rfl) rfl ?_)
  refine WL.nil ?_
  refine WK.un ?_
  refine WC.cond_true rfl ?_
  refine WC.seq ?_
  refine WC.region ?_
  refine WL.p (Gp.assign rfl) (by kernel_rfl) rfl ?_
  refine WL.nil ?_
  refine WK.un ?_
  refine WC.ret ?_
  refine WK.un ?_
  exact QF.p1 (.inl rfl) rfl (.tmp rfl) (⟨rfl, rfl, rfl⟩)

theorem Stack_un (s : Mc) (H : List Own) (hR : MRep CA PA cc pc cn pn c3 mb s H) (hm : madeB s = false) : Fn Try.prog 29 #[.pointer (some ⟨mb, 0, none⟩)] G H fun e G' H' => e = .returned (.slice none 0 0) ∧ G = G' ∧ H' = H := by
  refine Fn.enter Try.func29 rfl rfl fun w0 => ?_
  refine WC.seq ?_
  refine WC.region ?_
  refine WL.p (Gp.assign rfl) (by kernel_rfl) rfl ?_
  refine WL.nil ?_
  refine WK.un ?_
  refine WC.seq ?_
  refine WC.seq ?_
  refine WC.region ?_
  refine WL.p (Gp.move rfl) (by kernel_rfl) rfl ?_
  refine WL.op (by kernel_rfl) (OW.callK rfl (Depth_un G CA PA cc pc cn pn c3 mb s H hR hm) rfl fun v' G' H' h hg => ?_)
  obtain ⟨he, rfl, rfl⟩ := h
  cases he
  (first | refine WL.p (Gp.eqI rfl rfl) (by kernel_rfl) rfl ?_ | refine WL.p (Gp.eqS rfl rfl) (by kernel_rfl) rfl ?_ | refine WL.p (Gp.nilSl rfl) (by kernel_rfl) rfl ?_ | refine WL.p (Gp.eqB rfl rfl) (by kernel_rfl) rfl ?_)
  refine WL.nil ?_
  refine WK.un ?_
  refine WC.cond_true rfl ?_
  refine WC.seq ?_
  refine WC.region ?_
  refine WL.p (Gp.assign rfl) (by kernel_rfl) rfl ?_
  refine WL.nil ?_
  refine WK.un ?_
  refine WC.ret ?_
  refine WK.un ?_
  exact QF.p1 (.inl rfl) rfl (.tmp rfl) (⟨rfl, rfl, rfl⟩)

theorem Spot_fn (s : Mc) (H : List Own) (hR : MRep CA PA cc pc cn pn c3 mb s H) (hm : madeB s = true) (hb : s.frames.length ≤ 1000000) :
    Fn Try.prog 25 #[.pointer (some ⟨mb, 0, none⟩)] G H fun e G' H' => e = .returned (.agg #[.int .i64 (spotR s).1, .int .i64 (spotR s).2]) ∧ G = G' ∧ H' = H := by
  have hR0 := hR
  obtain ⟨FA, fcap, OA, ocap, ox, fx, bs, Hf, hF, hfv, ho, rfl⟩ := hR
  refine Fn.enter Try.func25 rfl rfl fun w0 => ?_
  refine WC.seq ?_
  refine WC.region ?_
  refine WL.op (by kernel_rfl) (OW.alloc rfl fun b1 => ?_)
  refine WL.nil ?_
  refine WK.un ?_
  refine WC.seq ?_
  refine WC.seq ?_
  refine WC.region ?_
  refine WL.p (Gp.move rfl) (by kernel_rfl) rfl ?_
  refine WL.op (by kernel_rfl) (OW.callR rfl (perm_at .here |>.trans (List.perm_append_comm (l₁ := [_]))) (made_fn G CA PA cc pc cn pn c3 mb s _ hR0) rfl (by intro e G' H' h; repeat (first | exact ⟨_, h.1⟩ | (obtain ⟨_, h⟩ := h))) fun v' G' H' h hg => ?_)
  obtain ⟨he, rfl, rfl⟩ := h
  cases he
  refine WL.swap ?_
  rw [hm]
  refine WL.p (Gp.notB rfl) (by kernel_rfl) rfl ?_
  refine WL.p (Gp.move rfl) (by kernel_rfl) rfl ?_
  refine WL.p (Gp.move rfl) (by kernel_rfl) rfl ?_
  refine WL.p (Gp.nilCheck rfl) (by kernel_rfl) rfl ?_
  refine WL.p (Gp.fieldAddr rfl) (by kernel_rfl) rfl ?_
  (first | (refine WL.v (Gv.load1 rfl (by (repeat first | exact .here | apply At.there)) (by first | rfl | assumption)) (by kernel_rfl) rfl ?_) | (refine WL.v (Gv.loadN rfl (by (repeat first | exact .here | apply At.there)) (by rfl) (by rfl)) (by kernel_rfl) rfl ?_) | (refine WL.v (Gv.loadG1 rfl (by assumption) rfl) (by kernel_rfl) rfl ?_) | (refine WL.v (Gv.loadG0 rfl (by assumption) rfl) (by kernel_rfl) rfl ?_) | (refine WL.v (Gv.loadGN rfl (by assumption) rfl) (by kernel_rfl) rfl ?_))
  (first | refine WL.p (Gp.lenSl rfl) (by kernel_rfl) rfl ?_ | refine WL.p (Gp.lenS rfl) (by kernel_rfl) rfl ?_)
  obtain ⟨frames, out, steps, en, val, ended⟩ := s
  cases hF with
  | nil =>
    refine WL.p (Gp.eqI' rfl rfl (show (((List.reverse ([] : List Nat)).length : Int) == 0) = true by rfl)) (by kernel_rfl) rfl ?_
    (first | refine WL.p (Gp.pickT rfl rfl) (by kernel_rfl) rfl ?_ | refine WL.p (Gp.pickF rfl rfl) (by kernel_rfl) rfl ?_)
    refine WL.nil ?_
    refine WK.un ?_
    refine WC.cond_true rfl ?_
    refine WC.seq ?_
    refine WC.region ?_
    refine WL.p (Gp.build rfl rfl) (by kernel_rfl) rfl ?_
    refine WL.op (by kernel_rfl) (OW.store rfl rfl (by (repeat first | exact .here | apply At.there)) rfl (by rfl) (by rfl) (by kernel_rfl) (by rfl) ?_ rfl)
    refine WL.nil ?_
    refine WK.un ?_
    refine WC.ret ?_
    refine WK.un ?_
    exact QF.p1 (.inl rfl) rfl (.cell rfl inferInstance inferInstance (by (repeat first | exact .here | apply At.there)) rfl rfl) (⟨rfl, rfl, rfl⟩)
  | cons hx hy hF' =>
    rename_i f fs b bs H' A B cap cm x y
    have hlen := hF'.len
    rw [List.reverse_cons] at hfv ⊢
    refine WL.p (Gp.eqI' rfl rfl (show (((bs.reverse ++ [b]).length : Int) == 0) = false by simp; omega)) (by kernel_rfl) rfl ?_
    (first | refine WL.p (Gp.pickT rfl rfl) (by kernel_rfl) rfl ?_ | refine WL.p (Gp.pickF rfl rfl) (by kernel_rfl) rfl ?_)
    refine WL.nil ?_
    refine WK.un ?_
    refine WC.cond_false rfl ?_
    refine WC.skip ?_
    refine WK.un ?_
    have htop := top_fn G mb (.slice CA cn cc) (.slice PA pn pc) c3 FA fcap en val OA out.length ocap steps ended bs.reverse b fx hfv (by simp at hb ⊢; omega)
    refine WC.seq ?_
    refine WC.drawS (Hs := [mcB mb (.slice CA cn cc) (.slice PA pn pc) c3 FA (bs.reverse ++ [b]).length fcap en val OA out.length ocap steps ended, fx, frB b A f.stack.length cap f.proc f.pc B f.vars.length cm]) mixed (by repeat (first | exact Pk.nil | exact Pk.all | exact Pk.app | exact Pk.appR | with_reducible apply Pk.na | (apply Pk.cons; (repeat first | exact .here | apply Rem.there | apply Rem.app)) | apply Pk.skip | apply Pk.skipA)) ?_
    refine WB.tp (i := 0) rfl (by kernel_rfl) (by kernel_rfl) rfl (Gp.move rfl) ?_
    refine WB.tp (i := 5) rfl (by kernel_rfl) (by kernel_rfl) rfl (Gp.move rfl) ?_
    refine WB.one (i := 1) (by kernel_rfl) rfl (by kernel_rfl) (OW.callK rfl (htop) rfl fun v' G' H' h hg => ?_)
    obtain ⟨he, rfl, rfl⟩ := h
    cases he
    refine ⟨fun w hw => hw.pk (by repeat (first | exact Pk.nil | exact Pk.all | exact Pk.app | exact Pk.appR | with_reducible apply Pk.na | (apply Pk.cons; (repeat first | exact .here | apply Rem.there | apply Rem.app)) | apply Pk.skip | apply Pk.skipA)), ?_⟩
    refine WB.tp (i := 2) rfl (by kernel_rfl) (by kernel_rfl) rfl (Gp.nilCheck rfl) ?_
    refine WB.tp (i := 3) rfl (by kernel_rfl) (by kernel_rfl) rfl (Gp.fieldAddr rfl) ?_
    (first | (refine WB.tv (i := 4) rfl (by kernel_rfl) (by kernel_rfl) rfl (Gv.load1 rfl (by (repeat first | exact .here | apply At.there)) (by first | rfl | assumption)) ?_) | (refine WB.tv (i := 4) rfl (by kernel_rfl) (by kernel_rfl) rfl (Gv.loadN rfl (by (repeat first | exact .here | apply At.there)) (by rfl) (by rfl)) ?_) | (refine WB.tv (i := 4) rfl (by kernel_rfl) (by kernel_rfl) rfl (Gv.loadG1 rfl (by assumption) rfl) ?_) | (refine WB.tv (i := 4) rfl (by kernel_rfl) (by kernel_rfl) rfl (Gv.loadG0 rfl (by assumption) rfl) ?_) | (refine WB.tv (i := 4) rfl (by kernel_rfl) (by kernel_rfl) rfl (Gv.loadGN rfl (by assumption) rfl) ?_))
    refine WB.one (i := 6) (by kernel_rfl) rfl (by kernel_rfl) (OW.callK rfl (htop) rfl fun v' G' H' h hg => ?_)
    obtain ⟨he, rfl, rfl⟩ := h
    cases he
    refine ⟨fun w hw => hw.pk (by repeat (first | exact Pk.nil | exact Pk.all | exact Pk.app | exact Pk.appR | with_reducible apply Pk.na | (apply Pk.cons; (repeat first | exact .here | apply Rem.there | apply Rem.app)) | apply Pk.skip | apply Pk.skipA)), ?_⟩
    refine WB.tp (i := 7) rfl (by kernel_rfl) (by kernel_rfl) rfl (Gp.nilCheck rfl) ?_
    refine WB.tp (i := 8) rfl (by kernel_rfl) (by kernel_rfl) rfl (Gp.fieldAddr rfl) ?_
    (first | (refine WB.tv (i := 9) rfl (by kernel_rfl) (by kernel_rfl) rfl (Gv.load1 rfl (by (repeat first | exact .here | apply At.there)) (by first | rfl | assumption)) ?_) | (refine WB.tv (i := 9) rfl (by kernel_rfl) (by kernel_rfl) rfl (Gv.loadN rfl (by (repeat first | exact .here | apply At.there)) (by rfl) (by rfl)) ?_) | (refine WB.tv (i := 9) rfl (by kernel_rfl) (by kernel_rfl) rfl (Gv.loadG1 rfl (by assumption) rfl) ?_) | (refine WB.tv (i := 9) rfl (by kernel_rfl) (by kernel_rfl) rfl (Gv.loadG0 rfl (by assumption) rfl) ?_) | (refine WB.tv (i := 9) rfl (by kernel_rfl) (by kernel_rfl) rfl (Gv.loadGN rfl (by assumption) rfl) ?_))
    refine WB.tp (i := 10) rfl (by kernel_rfl) (by kernel_rfl) rfl (Gp.build rfl rfl) ?_
    refine WB.one (i := 11) (by kernel_rfl) rfl (by kernel_rfl) (OW.store rfl rfl (by (repeat first | exact .here | apply At.there)) rfl (by rfl) (by rfl) (by kernel_rfl) (by rfl) ?_ rfl)
    refine ⟨fun w hw => hw.pk (by repeat (first | exact Pk.nil | exact Pk.all | exact Pk.app | exact Pk.appR | with_reducible apply Pk.na | (apply Pk.cons; (repeat first | exact .here | apply Rem.there | apply Rem.app)) | apply Pk.skip | apply Pk.skipA)), ?_⟩
    refine WB.done (by kernel_rfl) ?_
    refine WK.un ?_
    refine WC.ret ?_
    refine WK.un ?_
    exact QF.p1 (.inl rfl) rfl (.cell rfl inferInstance inferInstance (by (repeat first | exact .here | apply At.there)) rfl rfl) (⟨rfl, rfl, rfl⟩)

theorem Vars_fn (s : Mc) (H : List Own) (hR : MRep CA PA cc pc cn pn c3 mb s H) (hb : s.frames.length ≤ 1000000) (hbv : (topVars s).length * 40 ≤ 140737488355328) :
    Fn Try.prog 28 #[.pointer (some ⟨mb, 0, none⟩)] G H fun e G' H' => ∃ A' cap' x', e = .returned (.slice A' (topVars s).length cap') ∧ G = G' ∧ VVec A' cap' (topVars s) x' ∧ H' = x' :: H := by
  have hR0 := hR
  obtain ⟨FA, fcap, OA, ocap, ox, fx, bs, Hf, hF, hfv, ho, rfl⟩ := hR
  refine Fn.enter Try.func28 rfl rfl fun w0 => ?_
  refine WC.seq ?_
  refine WC.region ?_
  refine WL.p (Gp.assign rfl) (by kernel_rfl) rfl ?_
  refine WL.nil ?_
  refine WK.un ?_
  refine WC.seq ?_
  refine WC.seq ?_
  refine WC.region ?_
  refine WL.p (Gp.move rfl) (by kernel_rfl) rfl ?_
  refine WL.op (by kernel_rfl) (OW.callK rfl (Depth_fn G CA PA cc pc cn pn c3 mb s _ hR0) rfl fun v' G' H' h hg => ?_)
  obtain ⟨he, rfl, rfl⟩ := h
  cases he
  obtain ⟨frames, out, steps, en, val, ended⟩ := s
  cases hF with
  | nil =>
    refine WL.p (Gp.eqI' rfl rfl (show (((([] : List Fr)).length : Int) == 0) = true by rfl)) (by kernel_rfl) rfl ?_
    refine WL.nil ?_
    refine WK.un ?_
    refine WC.cond_true rfl ?_
    refine WC.seq ?_
    refine WC.region ?_
    refine WL.p (Gp.assign rfl) (by kernel_rfl) rfl ?_
    refine WL.nil ?_
    refine WK.un ?_
    refine WC.ret ?_
    refine WK.un ?_
    refine WK.nothing ?_
    exact QF.p1 (.inl rfl) rfl (.tmp rfl) (⟨none, 0, .spare 0 0 0, rfl, rfl, ⟨by simp [topVars, vflat], .inl ⟨rfl, rfl, rfl, rfl⟩⟩, rfl⟩) (by repeat (first | exact Pk.nil | exact Pk.all | exact Pk.app | exact Pk.appR | with_reducible apply Pk.na | (apply Pk.cons; (repeat first | exact .here | apply Rem.there | apply Rem.app)) | apply Pk.skip | apply Pk.skipA))
  | cons hx hy hF' =>
    rename_i f fs b bs H' A B cap cm x y
    have hlen := hF'.len
    rw [List.reverse_cons] at hfv ⊢
    refine WL.p (Gp.eqI' rfl rfl (show (((f :: fs).length : Int) == 0) = false by simp; omega)) (by kernel_rfl) rfl ?_
    refine WL.nil ?_
    refine WK.un ?_
    refine WC.cond_false rfl ?_
    refine WC.skip ?_
    refine WK.un ?_
    refine WC.seq ?_
    refine WC.region ?_
    refine WL.p (Gp.move rfl) (by kernel_rfl) rfl ?_
    refine WL.op (by kernel_rfl) (OW.callK rfl (top_fn G mb (.slice CA cn cc) (.slice PA pn pc) c3 FA fcap en val OA out.length ocap steps ended bs.reverse b fx hfv (by simp at hb ⊢; omega)) rfl fun v' G' H' h hg => ?_)
    obtain ⟨he, rfl, rfl⟩ := h
    cases he
    refine WL.p (Gp.nilCheck rfl) (by kernel_rfl) rfl ?_
    refine WL.p (Gp.fieldAddr rfl) (by kernel_rfl) rfl ?_
    (first | (refine WL.v (Gv.load1 rfl (by (repeat first | exact .here | apply At.there)) (by first | rfl | assumption)) (by kernel_rfl) rfl ?_) | (refine WL.v (Gv.loadN rfl (by (repeat first | exact .here | apply At.there)) (by rfl) (by rfl)) (by kernel_rfl) rfl ?_) | (refine WL.v (Gv.loadG1 rfl (by assumption) rfl) (by kernel_rfl) rfl ?_) | (refine WL.v (Gv.loadG0 rfl (by assumption) rfl) (by kernel_rfl) rfl ?_) | (refine WL.v (Gv.loadGN rfl (by assumption) rfl) (by kernel_rfl) rfl ?_))
    refine WL.op (by kernel_rfl) (OW.callK rfl (clone_vals G [y] B f.vars.length cm (vflat f.vars) (Vec.rds hy .here) (vflat_length _) (vflat_one _) hy.none_zero (by simpa [topVars] using hbv)) rfl fun v' G' H' h hg => ?_)
    obtain ⟨A', cap', x', he, rfl, rfl, hx'⟩ := h
    cases he
    refine WL.p (Gp.assign rfl) (by kernel_rfl) rfl ?_
    refine WL.nil ?_
    refine WK.un ?_
    refine WC.ret ?_
    refine WK.un ?_
    exact QF.p1 (.inl rfl) rfl (.tmp rfl) (⟨A', cap', x', rfl, rfl, hx', rfl⟩)

theorem Stack_fn (s : Mc) (H : List Own) (hR : MRep CA PA cc pc cn pn c3 mb s H) (hb : s.frames.length ≤ 1000000) (hbv : (topStack s).length * 40 ≤ 140737488355328) :
    Fn Try.prog 29 #[.pointer (some ⟨mb, 0, none⟩)] G H fun e G' H' => ∃ A' cap' x', e = .returned (.slice A' (topStack s).length cap') ∧ G = G' ∧ VVec A' cap' (topStack s) x' ∧ H' = x' :: H := by
  have hR0 := hR
  obtain ⟨FA, fcap, OA, ocap, ox, fx, bs, Hf, hF, hfv, ho, rfl⟩ := hR
  refine Fn.enter Try.func29 rfl rfl fun w0 => ?_
  refine WC.seq ?_
  refine WC.region ?_
  refine WL.p (Gp.assign rfl) (by kernel_rfl) rfl ?_
  refine WL.nil ?_
  refine WK.un ?_
  refine WC.seq ?_
  refine WC.seq ?_
  refine WC.region ?_
  refine WL.p (Gp.move rfl) (by kernel_rfl) rfl ?_
  refine WL.op (by kernel_rfl) (OW.callK rfl (Depth_fn G CA PA cc pc cn pn c3 mb s _ hR0) rfl fun v' G' H' h hg => ?_)
  obtain ⟨he, rfl, rfl⟩ := h
  cases he
  obtain ⟨frames, out, steps, en, val, ended⟩ := s
  cases hF with
  | nil =>
    refine WL.p (Gp.eqI' rfl rfl (show (((([] : List Fr)).length : Int) == 0) = true by rfl)) (by kernel_rfl) rfl ?_
    refine WL.nil ?_
    refine WK.un ?_
    refine WC.cond_true rfl ?_
    refine WC.seq ?_
    refine WC.region ?_
    refine WL.p (Gp.assign rfl) (by kernel_rfl) rfl ?_
    refine WL.nil ?_
    refine WK.un ?_
    refine WC.ret ?_
    refine WK.un ?_
    refine WK.nothing ?_
    exact QF.p1 (.inl rfl) rfl (.tmp rfl) (⟨none, 0, .spare 0 0 0, rfl, rfl, ⟨by simp [topStack, vflat], .inl ⟨rfl, rfl, rfl, rfl⟩⟩, rfl⟩) (by repeat (first | exact Pk.nil | exact Pk.all | exact Pk.app | exact Pk.appR | with_reducible apply Pk.na | (apply Pk.cons; (repeat first | exact .here | apply Rem.there | apply Rem.app)) | apply Pk.skip | apply Pk.skipA))
  | cons hx hy hF' =>
    rename_i f fs b bs H' A B cap cm x y
    have hlen := hF'.len
    rw [List.reverse_cons] at hfv ⊢
    refine WL.p (Gp.eqI' rfl rfl (show (((f :: fs).length : Int) == 0) = false by simp; omega)) (by kernel_rfl) rfl ?_
    refine WL.nil ?_
    refine WK.un ?_
    refine WC.cond_false rfl ?_
    refine WC.skip ?_
    refine WK.un ?_
    refine WC.seq ?_
    refine WC.region ?_
    refine WL.p (Gp.move rfl) (by kernel_rfl) rfl ?_
    refine WL.op (by kernel_rfl) (OW.callK rfl (top_fn G mb (.slice CA cn cc) (.slice PA pn pc) c3 FA fcap en val OA out.length ocap steps ended bs.reverse b fx hfv (by simp at hb ⊢; omega)) rfl fun v' G' H' h hg => ?_)
    obtain ⟨he, rfl, rfl⟩ := h
    cases he
    refine WL.p (Gp.nilCheck rfl) (by kernel_rfl) rfl ?_
    refine WL.p (Gp.fieldAddr rfl) (by kernel_rfl) rfl ?_
    refine WL.p (Gp.fieldAddr rfl) (by kernel_rfl) rfl ?_
    (first | (refine WL.v (Gv.load1 rfl (by (repeat first | exact .here | apply At.there)) (by first | rfl | assumption)) (by kernel_rfl) rfl ?_) | (refine WL.v (Gv.loadN rfl (by (repeat first | exact .here | apply At.there)) (by rfl) (by rfl)) (by kernel_rfl) rfl ?_) | (refine WL.v (Gv.loadG1 rfl (by assumption) rfl) (by kernel_rfl) rfl ?_) | (refine WL.v (Gv.loadG0 rfl (by assumption) rfl) (by kernel_rfl) rfl ?_) | (refine WL.v (Gv.loadGN rfl (by assumption) rfl) (by kernel_rfl) rfl ?_))
    refine WL.op (by kernel_rfl) (OW.callK rfl (clone_vals G [x] A f.stack.length cap (vflat f.stack) (Vec.rds hx .here) (vflat_length _) (vflat_one _) hx.none_zero (by simpa [topStack] using hbv)) rfl fun v' G' H' h hg => ?_)
    obtain ⟨A', cap', x', he, rfl, rfl, hx'⟩ := h
    cases he
    refine WL.p (Gp.assign rfl) (by kernel_rfl) rfl ?_
    refine WL.nil ?_
    refine WK.un ?_
    refine WC.ret ?_
    refine WK.un ?_
    exact QF.p1 (.inl rfl) rfl (.tmp rfl) (⟨A', cap', x', rfl, rfl, hx', rfl⟩)
end
end Go.Proofs.Ytjgohbepageicaa.Gb
namespace Go.Proofs.Ytjgohbepageicaa.Gb
open Go Go.Proofs
set_option linter.unusedVariables false
set_option linter.unusedSimpArgs false

def badE (n : Int) : Prop := n = 2 ∨ n = 3 ∨ n = 4 ∨ n = 6 ∨ n = 7
theorem bad6 : badE 6 := .inr (.inr (.inr (.inl rfl)))
theorem onA_halt {l : List V} {f : List V → V → PR} {m : Int} (hf : ∀ r v, f r v = .halt m → badE m) (h : onA l f = .halt m) : badE m := by
  unfold onA at h; split at h
  · cases h; exact bad6
  · exact hf _ _ h
theorem onB_halt {l : List V} {f : List V → V → V → PR} {m : Int} (hf : ∀ r u v, f r u v = .halt m → badE m) (h : onB l f = .halt m) : badE m := by
  unfold onB at h; split at h
  · cases h; exact bad6
  · exact hf _ _ _ h
theorem on1_halt {l : List V} {t : Int} {f : List V → V → PR} {m : Int} (hf : ∀ r v, f r v = .halt m → badE m) (h : on1 l t f = .halt m) : badE m := by
  unfold on1 at h; split at h
  · cases h; exact bad6
  · exact hf _ _ h
theorem on2_halt {l : List V} {t : Int} {f : List V → V → V → PR} {m : Int} (hf : ∀ r u v, f r u v = .halt m → badE m) (h : on2 l t f = .halt m) : badE m := by
  unfold on2 at h; split at h
  · cases h; exact bad6
  · exact hf _ _ _ h
theorem if_halt {c : Prop} [Decidable c] {a b : PR} {m : Int} (h : (if c then a else b) = .halt m) (ha : a = .halt m → badE m) (hb : b = .halt m → badE m) : badE m := by
  split at h
  · exact ha h
  · exact hb h
theorem halt_mk {n m : Int} (hn : badE n) (h : PR.halt n = .halt m) : badE m := by cases h; exact hn
theorem set_mk {l : List V} {m : Int} (h : PR.set l = .halt m) : badE m := by cases h
theorem print_mk {l : List V} {v : V} {m : Int} (h : PR.print l v = .halt m) : badE m := by cases h
theorem leave_mk {l g : List V} {m : Int} (h : PR.leave l g = .halt m) : badE m := by cases h
theorem recR_halt {c : Int} {r : List V} {u v : V} {m : Int} (h : recR c r u v = .halt m) : badE m := by
  unfold recR at h; split at h
  · exact halt_mk (.inl rfl) h
  · exact set_mk h
theorem plainR_halt {res : Int} {l : List V} {c : Int} {o : Nat} {m : Int} (h : plainR res l c o = .halt m) : badE m := by
  unfold plainR at h
  refine if_halt h (onA_halt fun _ _ => set_mk) fun h => ?_
  refine if_halt h (fun h => if_halt h leave_mk (halt_mk bad6)) fun h => ?_
  refine if_halt h (fun h => if_halt h (halt_mk bad6) (on1_halt fun _ _ => leave_mk)) fun h => ?_
  refine if_halt h (onA_halt fun _ _ h => if_halt h (halt_mk (.inr (.inr (.inr (.inr rfl))))) print_mk) fun h => ?_
  refine if_halt h (onB_halt fun _ _ _ h => if_halt h set_mk (halt_mk bad6)) fun h => ?_
  refine if_halt h (onB_halt fun _ _ _ h => if_halt h set_mk (halt_mk bad6)) fun h => ?_
  refine if_halt h (on1_halt fun _ _ => set_mk) fun h => ?_
  refine if_halt h (on1_halt fun _ _ => set_mk) fun h => ?_
  refine if_halt h (on2_halt fun _ _ _ h => if_halt h (halt_mk (.inr (.inl rfl))) set_mk) fun h => ?_
  refine if_halt h (onB_halt fun _ _ _ h => if_halt h set_mk (halt_mk bad6)) fun h => ?_
  refine if_halt h (on1_halt fun _ _ => set_mk) fun h => ?_
  refine if_halt h (on2_halt fun _ _ _ => recR_halt) (halt_mk bad6)
theorem doR_halt {pg : Pg} {pr : Pr} {l : List V} {k : Nat} {vars : List V} {d o : Nat} {m : Int} (h : doR pg pr l k vars d o = .halt m) : badE m := by
  have hlay : ∀ v, layR l k vars v = .halt m → badE m := by
    intro v h; unfold layR at h; split at h
    · cases h; exact bad6
    · cases h
  unfold doR at h
  split at h
  · cases h; exact bad6
  split at h
  · unfold constR at h; split at h
    · cases h; exact bad6
    split at h
    · cases h; exact bad6
    split at h
    · exact hlay _ h
    · cases h; exact bad6
  split at h
  · unfold loadR at h; split at h
    · cases h; exact bad6
    split at h
    · cases h; exact bad6
    split at h
    · cases h; exact bad6
    · exact hlay _ h
  split at h
  · unfold storeR at h; split at h
    · cases h; exact bad6
    split at h
    · cases h; exact bad6
    · cases h
  split at h
  · unfold jumpR at h; split at h
    · cases h; exact bad6
    · cases h
  split at h
  · unfold unlessR at h; split at h
    · cases h; exact bad6
    split at h
    · cases h; exact bad6
    · cases h
  split at h
  · unfold callD at h; split at h
    · rename_i e he
      cases h
      unfold callR at he
      split at he
      · cases he; exact bad6
      split at he
      · cases he; exact bad6
      split at he
      · cases he; exact bad6
      split at he
      · cases he; exact bad6
      split at he
      · cases he; exact bad6
      split at he
      · cases he; exact bad6
      split at he
      · cases he; exact .inr (.inr (.inl rfl))
      · cases he
    · cases h
  split at h
  · cases h; exact bad6
  · unfold plainD at h
    split at h
    · rename_i m' hm; cases h; exact plainR_halt hm
    · cases h
    · cases h
    · cases h

/-- a machine's end, and what goes with it -/
structure EInv (s : Mc) : Prop where
  open_ : s.ended = false → s.val = V0 ∧ s.en = 0
  shut : s.ended = true → s.en = 1 ∨ badE s.en
theorem EInv.step {pg : Pg} {s : Mc} (h : EInv s) (he : s.ended = false) : EInv (stepM pg s) := by
  obtain ⟨hv, hn⟩ := h.open_ he
  unfold stepM
  split
  · exact h
  split
  · exact h
  split
  · rename_i n hd; exact ⟨fun h => (by cases h), fun _ => .inr (doR_halt hd)⟩
  · exact ⟨fun _ => ⟨hv, hn⟩, fun h => by rw [he] at h; cases h⟩
  · exact ⟨fun _ => ⟨hv, hn⟩, fun h => by rw [he] at h; cases h⟩
  · exact ⟨fun _ => ⟨hv, hn⟩, fun h => by rw [he] at h; cases h⟩
  · split
    · exact ⟨fun h => (by cases h), fun _ => .inl rfl⟩
    · exact ⟨fun _ => ⟨hv, hn⟩, fun h => by rw [he] at h; cases h⟩
theorem EInv.run {pg : Pg} : ∀ (n : Nat) {s : Mc}, EInv s → EInv (runM pg n s).2
  | 0, s, h => h
  | n + 1, s, h => by
    unfold runM
    split
    · exact h
    · rename_i he
      exact EInv.run n (h.step (by simpa using he))

theorem runM_add (pg : Pg) : ∀ (n k : Nat) (s : Mc), runM pg (n + k) s = ((runM pg n s).1 + (runM pg k (runM pg n s).2).1, (runM pg k (runM pg n s).2).2)
  | 0, k, s => by simp [runM]
  | n + 1, k, s => by
    cases he : s.ended with
    | true => rw [runM_ended he, runM_ended he]; simp [runM_ended he]
    | false =>
      rw [show n + 1 + k = (n + k) + 1 by omega]
      simp only [runM, he, Bool.false_eq_true, if_false]
      rw [runM_add pg n k (stepM pg s)]
      simp only [Prod.mk.injEq, and_true]
      omega

/-- what is printed stays printed -/
theorem stepM_out {pg : Pg} {s : Mc} : ∃ l, (stepM pg s).out = s.out ++ l := by
  unfold stepM
  split
  · exact ⟨[], by simp⟩
  split
  · exact ⟨[], by simp⟩
  split
  · exact ⟨[], by simp⟩
  · exact ⟨[], by simp⟩
  · exact ⟨_, rfl⟩
  · exact ⟨[], by simp⟩
  · split
    · exact ⟨[], by simp⟩
    · exact ⟨[], by simp⟩
theorem runM_out {pg : Pg} : ∀ (n : Nat) (s : Mc), ∃ l, (runM pg n s).2.out = s.out ++ l
  | 0, s => ⟨[], by simp [runM]⟩
  | n + 1, s => by
    unfold runM
    split
    · exact ⟨[], by simp⟩
    · obtain ⟨l, h⟩ := @stepM_out pg s
      obtain ⟨l', h'⟩ := runM_out n (stepM pg s)
      exact ⟨l ++ l', by rw [h', h]; simp⟩
/-- as many steps as are taken are counted -/
theorem runM_steps {pg : Pg} : ∀ (n : Nat) {s : Mc}, Inv pg s → Live s → (runM pg n s).2.steps = s.steps + (runM pg n s).1
  | 0, s, _, _ => rfl
  | n + 1, s, hI, hL => by
    unfold runM
    split
    · rfl
    · rename_i he
      have h1 := stepM_steps1 (hL (by simpa using he)) hI.procs
      rw [runM_steps n hI.step hL.step, h1]
      simp; omega
theorem runM_all {pg : Pg} : ∀ (n : Nat) {s : Mc}, (runM pg n s).2.ended = false → (runM pg n s).1 = n
  | 0, s, _ => rfl
  | n + 1, s, h => by
    unfold runM at h ⊢
    split at h
    · rename_i he; rw [he] at h; cases h
    · rename_i he
      rw [if_neg he]
      have := runM_all n h
      simp [this]
end Go.Proofs.Ytjgohbepageicaa.Gb
namespace Go.Proofs.Ytjgohbepageicaa.Gb
open Go Go.RowKit

theorem Sat.bare (w : World) : Sat (fun _ _ => Option.none) [] w where
  agr b o v h := by cases h
  hold x h := by cases h
  apart := List.Pairwise.nil
  ghost x h := by cases h

theorem Stp.grown {G0 G : Gh} {w0 w : World} {H : List Own} (h : Stp (covs []) G0 w0 G H w) : Grown w0 w := by
  refine ⟨⟨h.weq.1, h.weq.2.1, fun i hi => ?_⟩, h.weq.2.2, h.size⟩
  have e : w.heap[i]? = w0.heap[i]? := (h.keep i hi).1 fun o ⟨x, hx, _⟩ => by cases hx
  rw [e]
  cases hb : w0.heap[i]? with
  | none => rfl
  | some ob => cases ob <;> simp_all

/-- a call that begins with G and nothing of ours -/
theorem Fn.grownG {P : Program} {f : FuncId} {vs : Array Value} {G : Gh} {R : Ending → Gh → List Own → Prop} (h : Fn P f vs G [] R) {R' : Ending → Prop} (hr : ∀ e G' H', R e G' H' → R' e) {w : World} (hs : Sat G [] w) :
    Calls P f vs w fun e w' => R' e ∧ Grown w w' :=
  (h w hs).mono fun e _ ⟨G', H', r, _, s⟩ => ⟨hr e G' H' r, s.grown⟩

theorem Fn.grown {P : Program} {f : FuncId} {vs : Array Value} {R : Ending → Gh → List Own → Prop} (h : Fn P f vs (fun _ _ => Option.none) [] R) {R' : Ending → Prop} (hr : ∀ e G' H', R e G' H' → R' e) {w : World} :
    Calls P f vs w fun e w' => R' e ∧ Grown w w' := h.grownG hr (Sat.bare w)
/-- all blocks that were there are as they were -/
structure Kept (W w' : World) : Prop where
  grown : Grown W w'
  heap : ∀ i, i < W.heap.size → w'.heap[i]? = W.heap[i]?
theorem Stp.kept {G0 G : Gh} {w0 w : World} {H : List Own} (h : Stp (covs []) G0 w0 G H w) : Kept w0 w :=
  ⟨h.grown, fun i hi => (h.keep i hi).1 fun o ⟨x, hx, _⟩ => by cases hx⟩
theorem Fn.keptG {P : Program} {f : FuncId} {vs : Array Value} {G : Gh} {R : Ending → Gh → List Own → Prop} (h : Fn P f vs G [] R) {R' : Ending → Prop} (hr : ∀ e G' H', R e G' H' → R' e) {w : World} (hs : Sat G [] w) :
    Calls P f vs w fun e w' => R' e ∧ Kept w w' :=
  (h w hs).mono fun e _ ⟨G', H', r, _, s⟩ => ⟨hr e G' H' r, s.kept⟩

/-- all that a world holds, known -/
def Gw (w : World) : Gh := fun b o => w.cell? ⟨b, o, none⟩
theorem Sat.whole (w : World) : Sat (Gw w) [] w where
  agr b o v h := h
  hold x h := by cases h
  apart := List.Pairwise.nil
  ghost x h := by cases h
end Go.Proofs.Ytjgohbepageicaa.Gb
namespace Go.Proofs.Ytjgohbepageicaa.Gb
open Go Go.RowKit Go.ChangeShapes Go.WideShapes

section
variable {H : Type} (enc : TypeId × Value → H) (P : Program) (w : World)

/-- values of a type are known, with what their weights say -/
def Opens (t : TypeId) {α : Type} (k : Kd α) (B : α → Prop) : Prop :=
  ∀ fuel cs d ps, DataW.trod enc P w 0 (fun _ => true) true fuel t cs = some (d, ps) → (∀ n ∈ d.weights P t, n ≤ reachBytes) → ∃ a, k.K (Gw w) a cs ∧ B a

theorem Opens.mono {t : TypeId} {α : Type} {k : Kd α} {B B' : α → Prop} (h : Opens enc P w t k B) (hb : ∀ a, B a → B' a) : Opens enc P w t k B' :=
  fun fuel cs d ps e hw => let ⟨a, h1, h2⟩ := h fuel cs d ps e hw; ⟨a, h1, hb a h2⟩
theorem Opens.int {t : TypeId} {i : IntKind} (ht : P.underlying t = some (.int i)) : Opens enc P w t (Kd.int i) (fun n => (Lit.int i n).wf = true) :=
  fun fuel cs d ps e _ => let ⟨n, h1, _, h3⟩ := DataW.trod_int ht e; ⟨n, h1, h3⟩
theorem Opens.bool {t : TypeId} (ht : P.underlying t = some .bool) : Opens enc P w t Kd.bool (fun _ => True) :=
  fun fuel cs d ps e _ => let ⟨n, h1, _⟩ := DataW.trod_bool ht e; ⟨n, h1, trivial⟩
theorem Opens.str {t : TypeId} (ht : P.underlying t = some .string) : Opens enc P w t Kd.str (fun s => s.size ≤ 140737488351232) :=
  fun fuel cs d ps e hw => by
    obtain ⟨s, h1, h2, h3⟩ := DataW.trod_string ht e
    obtain ⟨rfl, rfl⟩ := Prod.mk.inj h2
    refine ⟨s, h1, ?_⟩
    have := hw s.data.toList.length (by simp [DataW.weights])
    rw [Array.length_toList] at this
    exact this

theorem weightsAll_mem {e : TypeId} : ∀ {ds : List (DataW H)} {j : Nat} {d : DataW H}, ds[j]? = some d → ∀ n ∈ d.weights P e, n ∈ DataW.weightsAll P e ds
  | d0 :: ds, 0, d, hd, n, hn => by
    simp only [List.getElem?_cons_zero, Option.some.injEq] at hd
    subst hd
    simp only [DataW.weightsAll, List.mem_append]
    exact .inl hn
  | d0 :: ds, j + 1, d, hd, n, hn => by
    simp only [List.getElem?_cons_succ] at hd
    simp only [DataW.weightsAll, List.mem_append]
    exact .inr (weightsAll_mem hd n hn)
  | [], _, _, hd, _, _ => by simp at hd

theorem mapM_cells {a : Addr} : ∀ {l : List Nat} {cs : List Value}, (l.mapM fun i => w.cell? (a.add i)) = some cs → cs.length = l.length ∧ ∀ (j i : Nat) (v : Value), l[j]? = some i → cs[j]? = some v → w.cell? (a.add i) = some v
  | [], cs, h => by
    simp at h; subst h
    exact ⟨rfl, fun j i v e => by simp at e⟩
  | i0 :: l, cs, h => by
    rw [List.mapM_cons] at h
    cases h0 : w.cell? (a.add i0) with
    | none => rw [h0] at h; simp at h
    | some v0 =>
      rw [h0] at h
      cases h1 : l.mapM (fun i => w.cell? (a.add i)) with
      | none => rw [h1] at h; simp at h
      | some cs' =>
        rw [h1] at h
        simp at h
        subst h
        obtain ⟨h2, h3⟩ := mapM_cells h1
        refine ⟨by simp [h2], fun j i v ej ev => ?_⟩
        cases j with
        | zero => simp at ej ev; subst ej ev; exact h0
        | succ j => simp at ej ev; exact h3 j i v ej ev

theorem cells_get {b : Nat} {a : Addr} {n : Nat} {cs : List Value} (h : w.cells? b a n = some cs) : cs.length = n ∧ ∀ (j : Nat) (v : Value), cs[j]? = some v → w.cell? (a.add j) = some v := by
  unfold World.cells? at h
  split at h
  · obtain ⟨h1, h2⟩ := mapM_cells w h
    rw [List.length_range] at h1
    refine ⟨h1, fun j v e => h2 j j v ?_ e⟩
    have hj := (List.getElem?_eq_some_iff.1 e).1
    rw [List.getElem?_range (by omega)]
  · cases h

theorem cell_plain {a : Addr} {v : Value} (h : w.cell? a = some v) : a.spot = none := by
  unfold World.cell? at h
  split at h
  · split at h
    · cases h
    · rename_i hs; simpa using hs
  · cases h

theorem Opens.slice {t e : TypeId} {α : Type} {k : Kd α} {B : α → Prop} (ht : P.underlying t = some (.slice e)) (hc : P.cellsOf e = k.n) (h0 : 0 < k.n) {by_ : Nat} (hby : P.bytesOf e = by_) (h : Opens enc P w e k B) :
    Opens enc P w t (Kd.slice k) (fun xs => xs.length * by_ ≤ 140737488351232 ∧ ∀ x ∈ xs, B x) := by
  subst hby
  intro fuel cs d ps hd hw
  rcases DataW.trod_slice ht hd with ⟨rfl, _⟩ | ⟨a, len, cap, elems, rest, n, _, rfl, hx, _, hl, _, hlen, hel, _, _⟩
  · exact ⟨[], ⟨none, 0, rfl, Nat.le_refl _, Sl.nil _ _ _⟩, by simp, by simp⟩
  · obtain ⟨rfl, rfl⟩ := Prod.mk.inj hx
    have hw1 : (elems.length + rest.length) * P.bytesOf e ≤ reachBytes := by
      have := hw ((elems.map (·.1)).length + (rest.map (·.1)).length |> (· * P.bytesOf e)) (by simp [DataW.weights, ht])
      simpa using this
    have hwe : ∀ (j : Nat) (d' : DataW H), (elems.map (·.1))[j]? = some d' → ∀ n ∈ d'.weights P e, n ≤ reachBytes := fun j d' hj n hn =>
      hw n (by simp only [DataW.weights, ht, List.mem_cons, List.mem_append]; exact .inr (.inl (weightsAll_mem P hj n hn)))
    have one : ∀ i, i < len → ∃ y cs', w.cells? 0 (a.add (i * P.cellsOf e)) (P.cellsOf e) = some cs' ∧ k.K (Gw w) y cs' ∧ B y := by
      intro i hi
      have hi' := hel i hi
      cases hcs : w.cells? 0 (a.add (i * P.cellsOf e)) (P.cellsOf e) with
      | none =>
        rw [hcs, List.getElem?_eq_getElem (by omega)] at hi'
        cases hi'
      | some cs' =>
        rw [hcs, List.getElem?_eq_getElem (by omega : i < elems.length)] at hi'
        simp only [Option.bind_some] at hi'
        obtain ⟨y, h1, h2⟩ := h n cs' _ _ hi' (hwe i _ (by rw [List.getElem?_map, List.getElem?_eq_getElem (by omega : i < elems.length)]; rfl))
        exact ⟨y, cs', rfl, h1, h2⟩
    have all : ∀ m, m ≤ len → ∃ xs : List α, xs.length = m ∧ (∀ x ∈ xs, B x) ∧ ∀ i x, xs[i]? = some x → ∃ cs', w.cells? 0 (a.add (i * P.cellsOf e)) (P.cellsOf e) = some cs' ∧ k.K (Gw w) x cs' := by
      intro m
      induction m with
      | zero => exact fun _ => ⟨[], rfl, by simp, by simp⟩
      | succ m ih =>
        intro hm
        obtain ⟨xs, e1, e2, e3⟩ := ih (by omega)
        obtain ⟨y, cs', h1, h2, h3⟩ := one m (by omega)
        refine ⟨xs ++ [y], by simp [e1], fun x hx => ?_, fun i x hx => ?_⟩
        · rcases List.mem_append.1 hx with hx | hx
          · exact e2 x hx
          · simp at hx; subst hx; exact h3
        · rcases Nat.lt_or_ge i xs.length with hi | hi
          · rw [List.getElem?_append_left hi] at hx; exact e3 i x hx
          · have : i = m := by have := (List.getElem?_eq_some_iff.1 hx).1; simp at this; omega
            subst this
            rw [List.getElem?_append_right hi] at hx
            simp [e1] at hx
            subst hx
            exact ⟨cs', h1, h2⟩
    obtain ⟨xs, e1, e2, e3⟩ := all len (Nat.le_refl _)
    refine ⟨xs, ⟨some a, cap, by rw [e1], by omega, fun i x hx => ?_⟩, ?_, e2⟩
    · have hi := (List.getElem?_eq_some_iff.1 hx).1
      obtain ⟨cs0, h10, h20⟩ := e3 0 _ (List.getElem?_eq_getElem (by omega : 0 < xs.length))
      obtain ⟨h30, h40⟩ := cells_get w h10
      have hsp := cell_plain w (h40 0 _ (List.getElem?_eq_getElem (by rw [h30, hc]; exact h0)))
      obtain ⟨cs', h1, h2⟩ := e3 i x hx
      obtain ⟨h3, h4⟩ := cells_get w h1
      obtain ⟨ab, ao, asp⟩ := a
      obtain rfl : asp = none := by simpa [Addr.add] using hsp
      refine ⟨ab, ao, cs', rfl, h2, fun j v e => ?_⟩
      have h5 := h4 j v e
      rw [hc] at h5
      have e5 : ((⟨ab, ao, none⟩ : Addr).add (i * k.n)).add j = ⟨ab, ao + i * k.n + j, none⟩ := by
        unfold Addr.add
        split <;> split <;> simp_all
      rw [e5] at h5
      exact h5
    · rw [e1, ← hlen]
      exact Nat.le_trans (Nat.mul_le_mul_right _ (Nat.le_add_right _ _)) hw1

/-- a struct's field -/
theorem field_raw {t : TypeId} {fs : Array Field} {fuel : Nat} {cs : List Value} {d : DataW H} {ps : List MemPlace} (ht : P.underlying t = some (.struct fs)) (hd : DataW.trod enc P w 0 (fun _ => true) true fuel t cs = some (d, ps)) (hw : ∀ n ∈ d.weights P t, n ≤ reachBytes) :
    cs.length = P.cellsOf t ∧ ∀ (i : Nat) (f : Field), fs[i]? = some f → ∀ {t' o n : Nat}, f.type = t' → f.offset = o → P.cellsOf t' = n → ∃ fuel' d' ps', DataW.trod enc P w 0 (fun _ => true) true fuel' t' ((cs.drop o).take n) = some (d', ps') ∧ ∀ n ∈ d'.weights P t', n ≤ reachBytes := by
  obtain ⟨xs, n, _, hx, hl, hn, hf⟩ := DataW.trod_struct ht hd
  obtain ⟨rfl, rfl⟩ := Prod.mk.inj hx
  refine ⟨hl, fun i f hi t' o n' e1 e2 e3 => ?_⟩
  subst e1 e2 e3
  have h1 := hf i f hi
  have hilt : i < xs.length := by rw [hn]; exact (Array.getElem?_eq_some_iff.1 hi).1
  rw [List.getElem?_eq_getElem hilt] at h1
  refine ⟨n, _, _, h1, fun m hm => hw m ?_⟩
  simp only [DataW.weights, ht]
  exact DataW.weights_mem_each (j := i) (t := f.type) (d := (xs[i]).1) (by simp [hi]) (by simp [hilt]) m hm
theorem field_open {t : TypeId} {fs : Array Field} {fuel : Nat} {cs : List Value} {d : DataW H} {ps : List MemPlace} (ht : P.underlying t = some (.struct fs)) (hd : DataW.trod enc P w 0 (fun _ => true) true fuel t cs = some (d, ps)) (hw : ∀ n ∈ d.weights P t, n ≤ reachBytes) :
    cs.length = P.cellsOf t ∧ ∀ (i : Nat) (f : Field), fs[i]? = some f → ∀ {t' o n : Nat}, f.type = t' → f.offset = o → P.cellsOf t' = n → ∀ {α : Type} {k : Kd α} {B : α → Prop}, Opens enc P w t' k B → ∃ a, k.K (Gw w) a ((cs.drop o).take n) ∧ B a := by
  obtain ⟨hl, hf⟩ := field_raw enc P w ht hd hw
  refine ⟨hl, fun i f hi t' o n e1 e2 e3 α k B hO => ?_⟩
  obtain ⟨fuel', d', ps', h1, h2⟩ := hf i f hi e1 e2 e3
  exact hO fuel' _ d' ps' h1 h2
end
theorem Kept.same {W W' : World} (h : Kept W W') {p : MemPlace} (hp : p.block < W.heap.size) : W.sameAt W' p := by
  cases p with
  | cell b o => exact World.cell?_of_block (w := W) (h.heap b hp)
  | map b => exact h.heap b hp
/-- an argument reads as it did -/
theorem Kept.trod {H : Type} {enc : TypeId × Value → H} {P : Program} {t : TypeId} (hl : laidOutB P = true) (hr : P.readableRec t = true) (hrow : t < P.types.size) {W W' : World} {v : Value} {d : DataW H} {ps : List MemPlace}
    (h : DataW.Trod enc P W 0 (fun _ => true) true t v d ps) (hb : Kept W W') :
    DataW.Trod enc P W' 0 (fun b => decide (b < W.heap.size)) true t v d ps := by
  have hlt : ∀ x ∈ ps, x.block < W.heap.size := by obtain ⟨m, hm⟩ := h; exact DataW.trod_lt m _ _ _ hm
  exact WideElems.Trod_stays hl hr hrow h (fun x hx => hb.same (hlt x hx)) (fun x hx => by simpa using hlt x hx)
theorem sized_each {H : Type} {P : Program} {ts : List TypeId} {ds : List (DataW H)} (h : (DataW.weightsEach P ts ds).all (· ≤ reachBytes) = true) {j : Nat} {t : TypeId} {d : DataW H} (ht : ts[j]? = some t) (hd : ds[j]? = some d) : ∀ n ∈ d.weights P t, n ≤ reachBytes :=
  fun n hn => by simpa using List.all_eq_true.1 h _ (DataW.weights_mem_each ht hd n hn)
end Go.Proofs.Ytjgohbepageicaa.Gb
namespace Go.Proofs.Ytjgohbepageicaa.Gb
open Go Go.Proofs Go.RowKit Go.ChangeShapes Go.WideShapes

theorem list2 {α : Type} {l : List α} (h : l.length = 2) : ∃ a b, l = [a, b] := match l, h with | [a, b], _ => ⟨a, b, rfl⟩
theorem list3 {α : Type} {l : List α} (h : l.length = 3) : ∃ a b c, l = [a, b, c] := match l, h with | [a, b, c], _ => ⟨a, b, c, rfl⟩
theorem list4 {α : Type} {l : List α} (h : l.length = 4) : ∃ a b c d, l = [a, b, c, d] := match l, h with | [a, b, c, d], _ => ⟨a, b, c, d, rfl⟩
theorem list5 {α : Type} {l : List α} (h : l.length = 5) : ∃ a b c d e, l = [a, b, c, d, e] := match l, h with | [a, b, c, d, e], _ => ⟨a, b, c, d, e, rfl⟩
theorem list6 {α : Type} {l : List α} (h : l.length = 6) : ∃ a b c d e f, l = [a, b, c, d, e, f] := match l, h with | [a, b, c, d, e, f], _ => ⟨a, b, c, d, e, f, rfl⟩

theorem cellsV : Try.prog.cellsOf 33 = 4 := by kernel_rfl
theorem cellsI : Try.prog.cellsOf 51 = 2 := by kernel_rfl
theorem cellsP : Try.prog.cellsOf 55 = 6 := by kernel_rfl
theorem cellsG : Try.prog.cellsOf 26 = 3 := by kernel_rfl
theorem cellsN : Try.prog.cellsOf 28 = 5 := by kernel_rfl
theorem cells_int : Try.prog.cellsOf 3 = 1 := by kernel_rfl
theorem cells_typ : Try.prog.cellsOf 31 = 1 := by kernel_rfl
theorem cells_cod : Try.prog.cellsOf 43 = 1 := by kernel_rfl
theorem cells_i64 : Try.prog.cellsOf 2 = 1 := by kernel_rfl
theorem cells_bool : Try.prog.cellsOf 4 = 1 := by kernel_rfl
theorem cells_str : Try.prog.cellsOf 9 = 1 := by kernel_rfl
theorem cells_lv : Try.prog.cellsOf 22 = 1 := by kernel_rfl
theorem cells_lp : Try.prog.cellsOf 23 = 1 := by kernel_rfl
theorem cells_li : Try.prog.cellsOf 52 = 1 := by kernel_rfl
theorem cells_lt : Try.prog.cellsOf 53 = 1 := by kernel_rfl
theorem bytes_typ : Try.prog.bytesOf 31 = 8 := by kernel_rfl
theorem bytesI : Try.prog.bytesOf 51 = 16 := by kernel_rfl
theorem bytesV : Try.prog.bytesOf 33 = 40 := by kernel_rfl
theorem bytesP : Try.prog.bytesOf 55 = 88 := by kernel_rfl
theorem cells_lo : Try.prog.cellsOf 24 = 1 := by kernel_rfl

section
attribute [local irreducible] Try.prog
variable {H : Type} (enc : TypeId × Value → H) (w : World)

theorem Opens.value : Opens enc Try.prog w 33 Kd.val (fun v => v.s.size ≤ 140737488351232) := by
  intro fuel cs d ps hd hw
  obtain ⟨hl, hf⟩ := field_open enc Try.prog w Try.underlying33 hd hw
  obtain ⟨c0, c1, c2, c3, rfl⟩ := list4 (hl.trans cellsV)
  obtain ⟨t, h0, _⟩ := hf 0 _ rfl rfl rfl cells_typ (Opens.int enc Try.prog w Try.underlying31)
  obtain ⟨i, h1, _⟩ := hf 1 _ rfl rfl rfl cells_i64 (Opens.int enc Try.prog w Try.underlying2)
  obtain ⟨b, h2, _⟩ := hf 2 _ rfl rfl rfl cells_bool (Opens.bool enc Try.prog w Try.underlying4)
  obtain ⟨s, h3, hs⟩ := hf 3 _ rfl rfl rfl cells_str (Opens.str enc Try.prog w Try.underlying9)
  have e0 : [c0] = [Value.int .i64 t] := h0
  have e1 : [c1] = [Value.int .i64 i] := h1
  have e2 : [c2] = [Value.bool b] := h2
  have e3 : [c3] = [Value.string s] := h3
  cases e0; cases e1; cases e2; cases e3
  exact ⟨⟨t, i, b, s⟩, rfl, hs⟩

theorem Opens.instr : Opens enc Try.prog w 51 Kd.ins (fun _ => True) := by
  intro fuel cs d ps hd hw
  obtain ⟨hl, hf⟩ := field_open enc Try.prog w Try.underlying51 hd hw
  obtain ⟨c0, c1, rfl⟩ := list2 (hl.trans cellsI)
  obtain ⟨c, h0, _⟩ := hf 0 _ rfl rfl rfl cells_cod (Opens.int enc Try.prog w Try.underlying43)
  obtain ⟨n, h1, _⟩ := hf 1 _ rfl rfl rfl cells_int (Opens.int enc Try.prog w Try.underlying3)
  have e0 : [c0] = [Value.int .i64 c] := h0
  have e1 : [c1] = [Value.int .i64 n] := h1
  cases e0; cases e1
  exact ⟨(c, n), rfl, trivial⟩

theorem Opens.proc : Opens enc Try.prog w 55 Kd.prc (fun p => p.params.length * 8 ≤ 140737488351232 ∧ p.code.length * 16 ≤ 140737488351232) := by
  intro fuel cs d ps hd hw
  obtain ⟨hl, hf⟩ := field_open enc Try.prog w Try.underlying55 hd hw
  obtain ⟨c0, c1, c2, c3, c4, c5, rfl⟩ := list6 (hl.trans cellsP)
  obtain ⟨nm, h0, _⟩ := hf 0 _ rfl rfl rfl cells_str (Opens.str enc Try.prog w Try.underlying9)
  obtain ⟨ex, h1, _⟩ := hf 1 _ rfl rfl rfl cells_bool (Opens.bool enc Try.prog w Try.underlying4)
  obtain ⟨pr, h2, hp⟩ := hf 2 _ rfl rfl rfl cells_lt (Opens.slice enc Try.prog w Try.underlying53 (k := Kd.int .i64) cells_typ (by decide) bytes_typ (Opens.int enc Try.prog w Try.underlying31))
  obtain ⟨lo, h3, _⟩ := hf 3 _ rfl rfl rfl cells_int (Opens.int enc Try.prog w Try.underlying3)
  obtain ⟨re, h4, _⟩ := hf 4 _ rfl rfl rfl cells_typ (Opens.int enc Try.prog w Try.underlying31)
  obtain ⟨co, h5, hc⟩ := hf 5 _ rfl rfl rfl cells_li (Opens.slice enc Try.prog w Try.underlying52 (k := Kd.ins) cellsI (by decide) bytesI (Opens.instr enc w))
  obtain ⟨PA, pc, h2', _, hPA⟩ := h2
  obtain ⟨CA, cc, h5', _, hCA⟩ := h5
  have e0 : [c0] = [Value.string nm] := h0
  have e1 : [c1] = [Value.bool ex] := h1
  have e2 : [c2] = [Value.slice PA pr.length pc] := h2'
  have e3 : [c3] = [Value.int .i64 lo] := h3
  have e4 : [c4] = [Value.int .i64 re] := h4
  have e5 : [c5] = [Value.slice CA co.length cc] := h5'
  cases e0; cases e1; cases e2; cases e3; cases e4; cases e5
  exact ⟨⟨nm, ex, pr, lo, re, co⟩, ⟨PA, pc, CA, cc, rfl, hPA, hCA⟩, hp.1, hc.1⟩

/-- a statement's program, procedure and arguments -/
structure GivenR where
  pg : Pg
  n : Int
  args : List V

theorem open_given {v : Value} {d : DataW H} {ps : List MemPlace} {base : Nat} (hval : Value.okWide Try.prog w .any base 28 v) (hd : DataW.Trod enc Try.prog w 0 (fun _ => true) true 28 v d ps) (hw : ∀ n ∈ d.weights Try.prog 28, n ≤ reachBytes) :
    ∃ (x : GivenR) (CA PA AA : Option Addr) (cc pc ac : Nat) (qv : Value), v = .agg #[.slice CA x.pg.consts.length cc, .slice PA x.pg.procs.length pc, qv, .int .i64 x.n, .slice AA x.args.length ac] ∧
      Sl Kd.val (Gw w) CA x.pg.consts ∧ Sl Kd.prc (Gw w) PA x.pg.procs ∧ Sl Kd.val (Gw w) AA x.args ∧ PgB x.pg ∧ x.args.length * 40 ≤ 140737488351232 := by
  obtain ⟨cells, rfl, _⟩ := okWide_struct Try.underlying28 hval
  obtain ⟨fuel, hd⟩ := hd
  obtain ⟨hl, hr⟩ := field_raw enc Try.prog w Try.underlying28 hd hw
  obtain ⟨_, hf⟩ := field_open enc Try.prog w Try.underlying28 hd hw
  have hcl : (Value.agg cells).cells.toList = cells.toList := rfl
  rw [hcl] at hl hr hf
  obtain ⟨c0, c1, c2, c3, c4, hcs⟩ := list5 (hl.trans cellsN)
  rw [hcs] at hr hf
  obtain ⟨n, h3, _⟩ := hf 1 _ rfl rfl rfl cells_int (Opens.int enc Try.prog w Try.underlying3)
  obtain ⟨args, h4, ha⟩ := hf 2 _ rfl rfl rfl cells_lv (Opens.slice enc Try.prog w Try.underlying22 (k := Kd.val) cellsV (by decide) bytesV (Opens.value enc w))
  obtain ⟨fuel', d', ps', hp, hpw⟩ := hr 0 _ rfl rfl rfl cellsG
  obtain ⟨_, hg⟩ := field_open enc Try.prog w Try.underlying26 hp hpw
  obtain ⟨co, h0, hc⟩ := hg 0 _ rfl rfl rfl cells_lv (Opens.slice enc Try.prog w Try.underlying22 (k := Kd.val) cellsV (by decide) bytesV (Opens.value enc w))
  obtain ⟨prs, h1, hpr⟩ := hg 1 _ rfl rfl rfl cells_lp (Opens.slice enc Try.prog w Try.underlying23 (k := Kd.prc) cellsP (by decide) bytesP (Opens.proc enc w))
  obtain ⟨CA, cc, h0', _, hCA⟩ := h0
  obtain ⟨PA, pc, h1', _, hPA⟩ := h1
  obtain ⟨AA, ac, h4', _, hAA⟩ := h4
  have e0 : [c0] = [Value.slice CA co.length cc] := h0'
  have e1 : [c1] = [Value.slice PA prs.length pc] := h1'
  have e3 : [c3] = [Value.int .i64 n] := h3
  have e4 : [c4] = [Value.slice AA args.length ac] := h4'
  cases e0; cases e1; cases e3; cases e4
  refine ⟨⟨⟨co, prs⟩, n, args⟩, CA, PA, AA, cc, pc, ac, c2, ?_, hCA, hPA, hAA, ⟨?_, ?_, fun p hp => ?_, fun p hp => ?_⟩, ha.1⟩
  · congr 1
    cases cells
    simp at hcs
    rw [hcs]
  · have := hc.1; dsimp only; omega
  · have := hpr.1; dsimp only; omega
  · have := (hpr.2 p hp).1; omega
  · have := (hpr.2 p hp).2; omega
end
end Go.Proofs.Ytjgohbepageicaa.Gb
namespace Go.Proofs.Ytjgohbepageicaa.Gb
open Go Go.Proofs
set_option linter.unusedVariables false
set_option linter.unusedSimpArgs false

theorem chunks_vals : ∀ {xs : List V} {cs : List Value}, cs.length = xs.length * 4 → (∀ i x, xs[i]? = some x → (cs.drop (i * 4)).take 4 = vcells x) → cs = vflat xs
  | [], cs, hl, _ => by simpa [vflat] using hl
  | x :: xs, cs, hl, h => by
    have h0 := h 0 x rfl
    simp only [Nat.zero_mul, List.drop_zero] at h0
    have ih := @chunks_vals xs (cs.drop 4) (by simp at hl ⊢; omega) fun i y hy => by
      have := h (i + 1) y (by simpa using hy)
      rw [List.drop_drop, show 4 + i * 4 = (i + 1) * 4 by omega]
      exact this
    rw [← List.take_append_drop 4 cs, h0, ih]
    simp [vflat]
theorem Sl.vals {G : Gh} {H : List Own} {A : Option Addr} {xs : List V} (h : Sl Kd.val G A xs) : Rds G H A (vflat xs) := by
  obtain ⟨cs, h1, h2, _, h3⟩ := Sl.rds (H := H) (by decide) h
  rw [← chunks_vals h2 h3]
  exact h1

theorem startS_E (q : Pr) (n : Int) (args : List V) : EInv (startS q n args) := ⟨fun _ => ⟨rfl, rfl⟩, fun h => by cases h⟩

theorem runR_out {pg : Pg} {n fuel : Int} {args : List V} : (runR pg n fuel args).out.length ≤ 4096 := by
  unfold runR
  split
  · simp [Oc0]
  · rename_i q hq
    obtain ⟨hI, hL⟩ := startS_inv hq
    have := (Inv.run fuel.toNat _ hI hL).1.out.1
    dsimp only
    split <;> exact this

theorem fuel_law (pg : Pg) (n : Int) (args : List V) (N K : Nat) :
    ((runR pg n N args).en ≠ 5 → runR pg n ((N : Int) + K) args = runR pg n N args) ∧
    ((runR pg n N args).en = 5 → (runR pg n N args).steps = N ∧ (∃ l, (runR pg n ((N : Int) + K) args).out = (runR pg n N args).out ++ l) ∧ (N : Int) ≤ (runR pg n ((N : Int) + K) args).steps ∧ (runR pg n ((N : Int) + K) args).en ≠ 0 ∧ (runR pg n N args).val = V0) := by
  unfold runR
  cases hs : startR pg n args with
  | none => exact ⟨fun _ => rfl, fun h => by cases h⟩
  | some q =>
    dsimp only
    obtain ⟨hI, hL⟩ := startS_inv hs
    have hE := startS_E q n args
    have e1 : (N : Int).toNat = N := by omega
    have e2 : ((N : Int) + K).toNat = N + K := by omega
    rw [e1, e2, runM_add pg N K]
    dsimp only
    have hI2 := Inv.run N _ hI hL
    have hE2 := hE.run (pg := pg) N
    have hst := runM_steps N hI hL
    have hall := @runM_all pg N (startS q n args)
    generalize runM pg N (startS q n args) = r at *
    obtain ⟨r1, s⟩ := r
    simp only at hI2 hE2 hst hall ⊢
    have hst0 : (startS q n args).steps = 0 := rfl
    rw [hst0, Nat.zero_add] at hst
    cases he : s.ended with
    | true =>
      rw [runM_ended he]
      refine ⟨fun _ => by simp [he], fun h => ?_⟩
      rw [if_pos rfl] at h
      have h5 : s.en = 5 := h
      rcases hE2.shut he with h | h
      · omega
      · unfold badE at h; omega
    | false =>
      refine ⟨fun h => absurd rfl h, fun _ => ?_⟩
      have hE3 := hE2.run (pg := pg) K
      have hst3 := runM_steps K hI2.1 hI2.2
      obtain ⟨l, hl⟩ := runM_out (pg := pg) K s
      rw [hall he] at hst
      refine ⟨by simp [Mc.oc, hst], ⟨l, ?_⟩, ?_, ?_, (hE2.open_ he).1⟩
      · split <;> exact hl
      · split
        · show (N : Int) ≤ _; simp only [Mc.oc]; omega
        · show (N : Int) ≤ _; simp only [Mc.oc]; omega
      · split
        · rename_i h3
          rcases hE3.shut h3 with h | h
          · show (runM pg K s).2.en ≠ 0; omega
          · show (runM pg K s).2.en ≠ 0; unfold badE at h; omega
        · show (5 : Int) ≠ 0; decide
end Go.Proofs.Ytjgohbepageicaa.Gb
