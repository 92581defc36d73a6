/- A machine is started. What a machine tells; a run. A run. Layer 22: the same objects, linked in another order and with others beside them, run the same (no program in sight). Layer 22: what the small objects come to (no program in sight). Layer 22: what must come, whatever else is so: walked. Layer 22: Point, in the program's way and in the document's; ObjectPoints walked. All procedures of a world, where names may be alike: walked. What is linked is a program that may be; its points are all exported procedures (no program in sight). ObjectOrder: what is linked in another order, and with one more, is a program that runs the same (no program in sight). What a machine tells: its place, its variables, its stack; are values the same. ObjectOrder: a point's run, walked. Layer 22: a point as a key (of its path and name). A program, verified: walked. A program, verified; ObjectVerified: walked. What a call answers comes to stay; a linked program that stays. Arguments of a bounded bulk, opened with the sum of all that they hold: lists of objects. ObjectOrder: one more object; bounds. -/
import Derived.Test.YtcnlkfocbbkdhaaGreatDoorSi
set_option linter.unusedVariables false
set_option linter.unusedSimpArgs false
set_option linter.unusedSectionVars false
namespace Go.Proofs.YtcnlkfocbbkdhaaGreatDoor.Gb
open Go Go.Proofs
section
attribute [local irreducible] Tryz.prog
def startR (pg : Pg) (n : Int) (args : List V) : Option Pr := if n < 0 then none else match pg.procs[n.toNat]? with
 | none => none
 | some q => if sizedP q = false then none else if args.length ≠ q.params.length then none else if (args.all vOK && decide (tys args = q.params)) = true then some q else none
def startS (q : Pr) (n : Int) (args : List V) : Mc := ⟨[⟨n.toNat, 0, [], padded args q.locals⟩], [], 0, 0, V0, false⟩
def StartP (G : Gh) (pg : Pg) (n : Int) (args : List V) (Ha : List Own) (r : Option Pr) : Ending → Gh → List Own → Prop := fun e G' H' => match r with
 | none => e = .returned (.tuple #[.pointer none, .int .i64 1]) ∧ G = G' ∧ H' = Ha
 | some q => ∃ mb CA' PA' cc' pc' H1, e = .returned (.tuple #[.pointer (some ⟨mb, 0, none⟩), .int .i64 0]) ∧ G.le G' ∧ Sl Kd.val G' CA' pg.consts ∧ Sl Kd.prc G' PA' pg.procs ∧
   MRep CA' PA' cc' pc' pg.consts.length pg.procs.length (.slice none 0 0) mb (startS q n args) H1 ∧ H' = H1 ++ Ha
theorem Start_fn (G : Gh) (pg : Pg) (CA PA : Option Addr) (cc pc : Nat) (qv : Value) (hC : Sl Kd.val G CA pg.consts) (hP : Sl Kd.prc G PA pg.procs) (hB : PgB pg) (n : Int) (AA : Option Addr) (ac : Nat) (args : List V) (Ha : List Own) (hr : Rds G Ha AA (vflat args)) (hal : args.length * 40 ≤ 140737488355328) :
  Fn Tryz.prog 93 #[.agg #[.slice CA pg.consts.length cc, .slice PA pg.procs.length pc, qv], .int .i64 n, .slice AA args.length ac] G Ha (StartP G pg n args Ha (startR pg n args)) := by
 refine Fn.enter Tryz.func93 rfl rfl fun w0 => ?_
 refine WC.seq ?_
 refine WC.region ?_
 refine WL.oo (OW.box rfl rfl fun b9 => ?_)
 refine zw.assign ?_
 refine zw.assign ?_
 refine WL.nil ?_
 refine WK.un ?_
 refine WC.seq ?_
 refine WC.seq ?_
 refine WC.region ?_
 refine zw.move ?_
 by_cases hn0 : n < 0
 ·
  refine WL.pp (Gp.ltI' rfl rfl (decide_eq_true hn0)) ?_
  refine zw.move ?_
  refine zw.skip ?_
  refine zw.skip ?_
  refine zw.skip ?_
  refine zw.skip ?_
  refine zw.skip ?_
  refine zw.pick ?_
  refine WL.nil ?_
  refine WK.un ?_
  refine WC.cond_true rfl ?_
  refine WC.seq ?_
  refine WC.region ?_
  refine zw.assign ?_
  refine zw.assign ?_
  refine WL.nil ?_
  refine WK.un ?_
  rw [show startR pg n args = none by rw [startR, if_pos hn0]]
  refine WC.rt ?_
  exact QF.p2 (.inl rfl) rfl (.tmp rfl) (.tmp rfl) (⟨rfl, rfl, rfl⟩)
 refine WL.pp (Gp.ltI' rfl rfl (decide_eq_false hn0)) ?_
 obtain ⟨i, rfl⟩ := Int.eq_ofNat_of_zero_le (Int.not_lt.1 hn0)
 refine zw.move ?_
 refine zw.move ?_
 refine zw.fa ?_
 refine zw.ld ?_
 refine zw.len ?_
 cases hq : pg.procs[i]? with
 | none =>
  refine WL.pp (Gp.geI' rfl rfl (decide_eq_true (by have := List.getElem?_eq_none_iff.1 hq; omega))) ?_
  refine zw.pick ?_
  refine WL.nil ?_
  refine WK.un ?_
  refine WC.cond_true rfl ?_
  refine WC.seq ?_
  refine WC.region ?_
  refine zw.assign ?_
  refine zw.assign ?_
  refine WL.nil ?_
  refine WK.un ?_
  rw [show startR pg (i : Int) args = none by rw [startR, if_neg hn0, Int.toNat_natCast, hq]]
  refine WC.rt ?_
  exact QF.p2 (.inl rfl) rfl (.tmp rfl) (.tmp rfl) (⟨rfl, rfl, rfl⟩)
 | some q =>
 have hil := (List.getElem?_eq_some_iff.1 hq).1
 refine WL.pp (Gp.geI' rfl rfl (decide_eq_false (by omega))) ?_
 refine zw.pick ?_
 refine WL.nil ?_
 refine WK.un ?_
 refine WC.cond_false rfl ?_
 refine WC.skip ?_
 refine WK.un ?_
 obtain ⟨pb, po, cs, hPA, ⟨QA, qc, IA, ic, rfl, hQ, hI⟩, hcs⟩ := hP i q hq
 have hP' := hP
 subst hPA
 have hcR : startR pg (i : Int) args = if sizedP q = false then none else if args.length ≠ q.params.length then none else if (args.all vOK && decide (tys args = q.params)) = true then some q else none := by rw [startR, if_neg hn0, Int.toNat_natCast, hq]
 refine WC.seq ?_
 refine WC.region ?_
 refine zw.fa ?_
 refine zw.ld ?_
 refine zw.move ?_
 refine zw.ix ?_
 refine WL.vv (Gv.loadGN rfl hcs rfl) ?_
 refine WL.oo (OW.alloc rfl fun b11 => ?_)
 refine zw.st ?_
 refine WL.nil ?_
 refine WK.un ?_
 refine WC.seq ?_
 refine WC.seq ?_
 refine WC.region ?_
 refine WL.vv (Gv.loadN rfl .here rfl rfl) ?_
 refine WL.oo (OW.callR rfl (Hf := []) (List.Perm.refl _) (sized_fn G q.name q.exp QA q.params.length qc q.locals q.result (.slice IA q.code.length ic)) rfl (by rintro e G' H' ⟨h, _⟩; exact ⟨_, h⟩) fun v' G' H' h hg => ?_)
 obtain ⟨he, rfl, rfl⟩ := h
 cases he
 rw [show (decide ((q.params.length : Int) ≤ q.locals) && decide (q.locals ≤ 64)) = sizedP q from rfl]
 cases hs : sizedP q with
 | false =>
  refine zw.not ?_
  refine zw.move ?_
  refine zw.skip ?_
  refine zw.skip ?_
  refine zw.skip ?_
  refine zw.skip ?_
  refine zw.skip ?_
  refine zw.skip ?_
  refine zw.pick ?_
  refine WL.nil ?_
  refine WK.un ?_
  refine WC.cond_true rfl ?_
  refine WC.seq ?_
  refine WC.region ?_
  refine zw.assign ?_
  refine zw.assign ?_
  refine WL.nil ?_
  refine WK.un ?_
  rw [hcR, if_pos hs]
  refine WC.rt ?_
  exact QF.p2 (.inl rfl) rfl (.tmp rfl) (.tmp rfl) (⟨rfl, rfl, rfl⟩)
 | true =>
 rw [if_neg (by rw [hs]; decide)] at hcR
 have hs' : (q.params.length : Int) ≤ q.locals ∧ q.locals ≤ 64 := by unfold sizedP at hs; simpa using hs
 refine zw.not ?_
 refine zw.move ?_
 refine zw.move ?_
 refine zw.len ?_
 refine zw.fa ?_
 refine zw.ld ?_
 refine zw.len ?_
 by_cases hal' : args.length ≠ q.params.length
 ·
  refine WL.pp (Gp.neI' rfl rfl (show ((args.length : Int) != (q.params.length : Int)) = true by simp; omega)) ?_
  refine zw.pick ?_
  refine WL.nil ?_
  refine WK.un ?_
  refine WC.cond_true rfl ?_
  refine WC.seq ?_
  refine WC.region ?_
  refine zw.assign ?_
  refine zw.assign ?_
  refine WL.nil ?_
  refine WK.un ?_
  rw [hcR, if_pos hal']
  refine WC.rt ?_
  exact QF.p2 (.inl rfl) rfl (.tmp rfl) (.tmp rfl) (⟨rfl, rfl, rfl⟩)
 rw [if_neg hal'] at hcR
 have hal2 : args.length = q.params.length := Classical.not_not.1 hal'
 refine WL.pp (Gp.neI' rfl rfl (show ((args.length : Int) != (q.params.length : Int)) = false by simp; omega)) ?_
 refine zw.pick ?_
 refine WL.nil ?_
 refine WK.un ?_
 refine WC.cond_false rfl ?_
 refine WC.skip ?_
 refine WK.un ?_
 refine WC.seq ?_
 refine WC.seq ?_
 refine WC.region ?_
 refine zw.move ?_
 refine zw.len ?_
 refine zw.move ?_
 refine WL.nil ?_
 refine WK.un ?_
 refine WC.block ?_  -- 0
 refine WC.pk (H' := .blk b11 (.cells #[.string q.name, .bool q.exp, .slice QA q.params.length qc, .int .i64 q.locals, .int .i64 q.result, .slice IA q.code.length ic] 47 (0, 0)) :: .blk b9 (.cells #[.slice CA pg.consts.length cc, .slice (some ⟨pb, po, none⟩) pg.procs.length pc, qv] 27 (0, 0)) :: Ha) pkA ?_
 refine WC.loop (X := Nat) (fun j => [(39, .int .i64 j), (38, .int .i64 args.length), (37, .slice AA args.length ac), (8, .pointer (some ⟨b11, 0, none⟩)), (3, .pointer (some ⟨b9, 0, none⟩)), (1, .int .i64 i), (2, .slice AA args.length ac)]) (fun j => G)
  (fun j => .blk b11 (.cells #[.string q.name, .bool q.exp, .slice QA q.params.length qc, .int .i64 q.locals, .int .i64 q.result, .slice IA q.code.length ic] 47 (0, 0)) :: .blk b9 (.cells #[.slice CA pg.consts.length cc, .slice (some ⟨pb, po, none⟩) pg.procs.length pc, qv] 27 (0, 0)) :: Ha) (fun j => args.length - j)
  (fun j => j ≤ args.length ∧ ∀ k (u : V) t, k < j → args[k]? = some u → q.params[k]? = some t → vOK u = true ∧ u.t = t) 0 ⟨by omega, fun k u t h => by omega⟩ (by exact ⟨rfl, rfl, rfl, rfl, rfl, rfl, rfl, trivial⟩) rfl (List.Sublist.refl _) fun j hx => ?_
 obtain ⟨hj, hall⟩ := hx
 refine WC.seq ?_
 refine WC.region ?_
 refine zw.lt ?_
 refine WL.nil ?_
 refine WK.un ?_
 refine WC.seq ?_
 refine WC.cond rfl (fun hc13 => ?_) (fun hc13 => ?_)
 ·-- yes
  have hlt : j < args.length := by have h := of_decide_eq_true hc13; omega
  obtain ⟨u, hu⟩ : ∃ u, args[j]? = some u := ⟨_, List.getElem?_eq_getElem hlt⟩
  obtain ⟨t, ht⟩ : ∃ t, q.params[j]? = some t := ⟨_, List.getElem?_eq_getElem (by omega)⟩
  obtain ⟨qb, qo, cs, rfl, hK, hcsq⟩ := hQ j t ht
  obtain rfl : cs = [.int .i64 t] := hK
  rcases hr with h0 | ⟨lb, lo, rfl, hread⟩
  ·have h := congrArg List.length h0
   rw [vflat_length] at h; simp only [List.length_nil] at h; omega
  have hbad : ¬ (vOK u = true ∧ u.t = t) → startR pg (i : Int) args = none := fun hno => by
   rw [hcR, if_neg]
   intro h
   rw [Bool.and_eq_true, decide_eq_true_iff, List.all_eq_true] at h
   refine hno ⟨h.1 u (List.mem_of_getElem? hu), ?_⟩
   have h1 := congrArg (fun l => l[j]?) h.2
   simp only [tys, List.getElem?_map, hu, ht, Option.map_some, Option.some.injEq] at h1
   exact h1
  refine WC.skip ?_
  refine WK.un ?_
  refine WC.seq ?_
  refine WC.block ?_  -- 1
  refine WC.seq ?_
  refine WC.region ?_
  refine zw.move ?_
  refine zw.ix ?_
  refine WL.vv (Gv.loadRN rfl hread (by repeat (first | exact List.Sublist.refl _ | exact List.nil_sublist _ | apply List.Sublist.cons)) (vflat_elem args j u hu) rfl) ?_
  refine WL.oo (OW.alloc rfl fun b14 => ?_)
  refine zw.assign ?_
  refine zw.st ?_
  refine WL.nil ?_
  refine WK.un ?_
  refine WC.seq ?_
  refine WC.draw mixed ?_
  refine WA.vv 0 rfl (Gv.loadN rfl .here rfl rfl) ?_
  refine WA.oo 1 rfl (OW.callR rfl (Hf := []) (List.Perm.refl _) (value_fnQ G u) rfl (by rintro e G' H' ⟨h, _⟩; exact ⟨_, h⟩) fun v' G' H' h hg => ?_)
  obtain ⟨he, rfl, rfl⟩ := h
  cases he
  cases hok : vOK u with
  | false =>
   refine za.not 2 ?_
   refine za.move 3 ?_
   refine za.skip 4 ?_
   refine za.skip 5 ?_
   refine za.skip 6 ?_
   refine za.skip 7 ?_
   refine za.skip 8 ?_
   refine za.skip 9 ?_
   refine za.skip 10 ?_
   refine za.skip 11 ?_
   refine za.pick 12 ?_
   refine WA.done kr ?_
   refine WK.un ?_
   refine WC.cond_true rfl ?_
   refine WC.seq ?_
   refine WC.region ?_
   refine zw.assign ?_
   refine zw.assign ?_
   refine WL.nil ?_
   refine WK.un ?_
   rw [hbad (fun h => by rw [hok] at h; exact absurd h.1 (by decide))]
   refine WC.rt ?_
   exact QF.p2 (.inl rfl) rfl (.tmp rfl) (.tmp rfl) (⟨rfl, rfl, rfl⟩)
  | true =>
  refine za.not 2 ?_
  refine za.move 3 ?_
  refine za.fa 4 ?_
  refine za.ld 5 ?_
  refine za.fa 6 ?_
  refine za.ld 7 ?_
  refine za.move 8 ?_
  refine za.ix 9 ?_
  refine WA.vv 10 rfl (Gv.loadG0 rfl hcsq rfl) ?_
  by_cases htt : u.t = t
  rotate_left
  ·
   refine WA.pp 11 rfl (Gp.neI' rfl rfl (show (u.t != t) = true by simpa using htt)) ?_
   refine za.pick 12 ?_
   refine WA.done kr ?_
   refine WK.un ?_
   refine WC.cond_true rfl ?_
   refine WC.seq ?_
   refine WC.region ?_
   refine zw.assign ?_
   refine zw.assign ?_
   refine WL.nil ?_
   refine WK.un ?_
   rw [hbad (fun h => htt h.2)]
   refine WC.rt ?_
   exact QF.p2 (.inl rfl) rfl (.tmp rfl) (.tmp rfl) (⟨rfl, rfl, rfl⟩)
  refine WA.pp 11 rfl (Gp.neI' rfl rfl (show (u.t != t) = false by simpa using htt)) ?_
  refine za.pick 12 ?_
  refine WA.done kr ?_
  refine WK.un ?_
  refine WC.cond_false rfl ?_
  refine WC.skip ?_
  refine WK.un ?_
  refine WC.region ?_
  refine zw.add ?_
  refine zw.move ?_
  refine WL.nil ?_
  refine WK.un ?_
  exact WK.again (j + 1) (by omega) ⟨by omega, fun k u' t' hk hu' ht' => by
   rcases Nat.lt_or_ge k j with h | h
   ·exact hall k u' t' h hu' ht'
   ·obtain rfl : k = j := by omega
    rw [hu] at hu'; rw [ht] at ht'; cases hu'; cases ht'; exact ⟨hok, htt⟩⟩ (by refine ⟨?_, rfl, rfl, rfl, rfl, rfl, rfl, trivial⟩; show some _ = some _; rw [wrap_small (by omega) (by omega)]; rfl) rfl (by exact .cons _ (List.Sublist.refl _))
 ·-- no
  have hge : j = args.length := by have h := of_decide_eq_false hc13; omega
  have hty : tys args = q.params := by
   apply List.ext_getElem?
   intro k
   rcases Nat.lt_or_ge k args.length with hk' | hk'
   ·obtain ⟨u, hu⟩ : ∃ u, args[k]? = some u := ⟨_, List.getElem?_eq_getElem hk'⟩
    obtain ⟨t, ht⟩ : ∃ t, q.params[k]? = some t := ⟨_, List.getElem?_eq_getElem (by omega)⟩
    rw [tys, List.getElem?_map, hu, ht, Option.map_some, (hall k u t (by omega) hu ht).2]
   ·rw [List.getElem?_eq_none (by simpa [tys] using hk'), List.getElem?_eq_none (by omega)]
  have hok : args.all vOK = true := by
   rw [List.all_eq_true]
   intro u hu
   obtain ⟨k, hk, rfl⟩ := List.getElem_of_mem hu
   obtain ⟨t, ht⟩ : ∃ t, q.params[k]? = some t := ⟨_, List.getElem?_eq_getElem (by omega)⟩
   exact (hall k _ t (by omega) (List.getElem?_eq_getElem hk) ht).1
  rw [hcR, if_pos (by rw [hok, hty]; simp)]
  refine WC.exit ?_
  refine WK.un ?_
  refine WC.seq ?_
  refine WC.region ?_
  refine WL.vv (Gv.loadN rfl atA rfl rfl) ?_
  refine WL.oo (OW.callK rfl (own_fn G pg CA (some ⟨pb, po, none⟩) cc pc qv hC hP hB) rfl fun v' G' H' h hg => ?_)
  obtain ⟨CA', PA', cc', pc', he, hg2, hC2, hP2, rfl⟩ := h
  cases he
  refine zw.build ?_
  refine WL.oo (OW.box rfl rfl fun b16 => ?_)
  refine zw.assign ?_
  refine WL.nil ?_
  refine WK.un ?_
  refine WC.seq ?_
  refine WC.nothing ?_
  refine WC.nothing ?_
  refine WC.region ?_
  refine zw.move ?_
  refine zw.move ?_
  refine zw.move ?_
  refine WL.oo (OW.callK rfl (enter_fn G' b16 (.slice CA' pg.consts.length cc') (.slice none 0 0) PA' pg.procs.length pc' pg.procs none 0 0 V0 none 0 0 0 false [] (.spare 0 0 0) i q hq rfl hP2 ⟨by simp [ptrs], .inl ⟨rfl, rfl, rfl, rfl⟩⟩ (by simp) AA ac args Ha (hr.le hg2) (by omega) hs'.2) rfl fun v' G' H' h hg => ?_)
  obtain ⟨FA', fcap', b', VA, x', y, he, rfl, rfl, hx', hy'⟩ := h
  cases he
  refine WL.nil ?_
  refine WK.un ?_
  refine WC.seq ?_
  refine WC.region ?_
  refine zw.move ?_
  refine zw.assign ?_
  refine zw.assign ?_
  refine WL.nil ?_
  refine WK.un ?_
  refine WC.ret ?_
  refine WK.un ?_
  refine WK.swap ?_
  exact QF.p2 (.inl rfl) rfl (.tmp rfl) (.tmp rfl) (⟨b16, CA', PA', cc', pc', [mcB b16 (.slice CA' pg.consts.length cc') (.slice PA' pg.procs.length pc') (.slice none 0 0) FA' 1 fcap' 0 V0 none 0 0 0 false, .spare 0 0 0, x', frB b' none 0 0 i 0 VA (padded args q.locals).length (padded args q.locals).length, .spare 0 0 0, y], rfl, hg2, hC2, hP2, ⟨FA', fcap', none, 0, .spare 0 0 0, x', [b'], [frB b' none 0 0 i 0 VA (padded args q.locals).length (padded args q.locals).length, .spare 0 0 0, y], .cons ⟨by simp [vflat], .inl ⟨rfl, rfl, rfl, rfl⟩⟩ hy' .nil, hx', ⟨by simp [startS, vflat], .inl ⟨rfl, rfl, rfl, rfl⟩⟩, rfl⟩, rfl⟩) pkA
end
section
attribute [local irreducible] Tryz.prog
theorem WL.swap {P : Program} {Q : Exit → Act → World → Prop} {ops : Array Oper} {rest : List Oper} {cx : Cx} {L : List (Nat × Value)} {G : Gh} {H F : List Own} (h : WL P ops Q rest cx L G (F ++ H)) : WL P ops Q rest cx L G (H ++ F) := fun a w st => h a w (st.perm List.perm_append_comm)
theorem VVec.none_zero {A : Option Addr} {cap : Nat} {l : List V} {x : Own} (h : VVec A cap l x) (hA : A = none) : l.length = 0 := by
 rcases h with ⟨_, ⟨_, h, _⟩ | ⟨b, c, h, _⟩⟩
 ·exact h
 ·rw [h] at hA; cases hA
section
variable (G : Gh) (CA PA : Option Addr) (cc pc cn pn : Nat) (c3 : Value) (mb : Nat)
theorem Outcome_fn (s : Mc) (H : List Own) (hR : MRep CA PA cc pc cn pn c3 mb s H) (hm : madeB s = true) (hb : s.out.length * 40 ≤ 140737488355328) :
  Fn Tryz.prog 95 #[.pointer (some ⟨mb, 0, none⟩)] G H fun e G' H' => ∃ A' cap' x', e = .returned (.agg #[.int .i64 s.en, .int .i64 s.val.t, .int .i64 s.val.i, .bool s.val.b, .string s.val.s, .slice A' s.out.length cap', .int .i64 s.steps]) ∧ G = G' ∧ VVec A' cap' s.out x' ∧ H' = x' :: H := by
 have hR0 := hR
 obtain ⟨FA, fcap, OA, ocap, ox, fx, bs, Hf, hF, hfv, ho, rfl⟩ := hR
 refine Fn.enter Tryz.func95 rfl rfl fun w0 => ?_
 refine WC.seq ?_
 refine WC.region ?_
 refine WL.oo (OW.alloc rfl fun b3 => ?_)
 refine WL.nil ?_
 refine WK.un ?_
 refine WC.seq ?_
 refine WC.seq ?_
 refine WC.region ?_
 refine zw.move ?_
 refine WL.oo (OW.callR rfl (perm_at .here |>.trans (List.perm_append_comm (l₁ := [_]))) (made_fn G CA PA cc pc cn pn c3 mb s _ hR0) rfl (by intro e G' H' h; repeat (first | exact ⟨_, h.1⟩ | (obtain ⟨_, h⟩ := h))) fun v' G' H' h hg => ?_)
 obtain ⟨he, rfl, rfl⟩ := h
 cases he
 refine WL.swap ?_
 rw [hm]
 refine zw.not ?_
 refine WL.nil ?_
 refine WK.un ?_
 refine WC.cond_false rfl ?_
 refine WC.skip ?_
 refine WK.un ?_
 refine WC.seq ?_
 refine WC.region ?_
 refine zw.move ?_
 refine zw.nil ?_
 refine zw.fa ?_
 refine WL.vv (Gv.loadN rfl atA rfl rfl) ?_
 refine WL.oo (OW.alloc rfl fun b5 => ?_)
 refine zw.st ?_
 refine WL.nil ?_
 refine WK.un ?_
 refine WC.seq ?_
 refine WC.region ?_
 refine zw.fa ?_
 refine zw.ld ?_
 refine WL.oo (OW.callK rfl (clone_vals G [ox] OA s.out.length ocap (vflat s.out) (ho.rds .here) (vflat_length _) (vflat_one _) ho.none_zero hb) rfl fun v' G' H' h hg => ?_)
 obtain ⟨A', cap', x', he, rfl, rfl, hx'⟩ := h
 cases he
 refine zw.fa ?_
 refine zw.st ?_
 refine WL.nil ?_
 refine WK.un ?_
 refine WC.seq ?_
 refine WC.region ?_
 refine zw.ld ?_
 refine zw.st ?_
 refine WL.nil ?_
 refine WK.un ?_
 refine WC.rt ?_
 exact QF.p1 (.inl rfl) rfl (.cell rfl inferInstance inferInstance atA rfl rfl) (⟨A', cap', x', rfl, rfl, hx', rfl⟩)
end
end
section
attribute [local irreducible] Tryz.prog
structure Oc where
 en : Int
 val : V
 out : List V
 steps : Int
def Oc0 : Oc := ⟨0, V0, [], 0⟩
def ocV (o : Oc) (A : Option Addr) (cap : Nat) : Value := .agg #[.int .i64 o.en, .int .i64 o.val.t, .int .i64 o.val.i, .bool o.val.b, .string o.val.s, .slice A o.out.length cap, .int .i64 o.steps]
def Mc.oc (s : Mc) : Oc := ⟨s.en, s.val, s.out, s.steps⟩
def runR (pg : Pg) (n fuel : Int) (args : List V) : Oc := match startR pg n args with
 | none => Oc0
 | some q => let s := (runM pg fuel.toNat (startS q n args)).2
  if s.ended then s.oc else { s.oc with en := 5 }
theorem PgB.codeB {pg : Pg} (h : PgB pg) : ∀ pr ∈ pg.procs, pr.code.length ≤ 90000000000000 := fun pr hp => by have := h.code pr hp; omega
theorem startR_some {pg : Pg} {n : Int} {args : List V} {q : Pr} (h : startR pg n args = some q) : 0 ≤ n ∧ pg.procs[n.toNat]? = some q ∧ sizedP q = true ∧ args.length = q.params.length ∧ AllOK args := by
 unfold startR at h
 split at h
 ·cases h
 ·rename_i hn
  split at h
  ·cases h
  ·rename_i q' hq
   split at h
   ·cases h
   ·rename_i hs
    split at h
    ·cases h
    ·rename_i hl
     split at h
     ·rename_i ha
      cases h
      rw [Bool.and_eq_true, List.all_eq_true] at ha
      exact ⟨by omega, hq, by simpa using hs, Classical.not_not.1 hl, ha.1⟩
     ·cases h
theorem startS_inv {pg : Pg} {n : Int} {args : List V} {q : Pr} (h : startR pg n args = some q) : Inv pg (startS q n args) ∧ Live (startS q n args) := by
 obtain ⟨h1, h2, h3, h4, h5⟩ := startR_some h
 have hsz : (q.params.length : Int) ≤ q.locals ∧ q.locals ≤ 64 := by unfold sizedP at h3; simpa using h3
 have hpl : (padded args q.locals).length ≤ 64 := by rw [padded_length (by omega)]; omega
 refine ⟨⟨fun f hf => ?_, by simp [startS], fun f hf => ?_, trivial, by simp [startS], fun v hv => by simp [startS] at hv⟩, fun _ h => by cases h⟩
 ·simp only [startS, List.mem_singleton] at hf
  subst hf
  exact ⟨q, h2, by simp⟩
 ·simp only [startS, List.mem_singleton] at hf
  subst hf
  refine ⟨by simp, hpl, fun v hv => by simp at hv, fun v hv => ?_⟩
  rcases List.mem_append.1 hv with hv | hv
  ·exact .inl (h5 v hv)
  ·exact .inr (List.eq_of_mem_replicate hv)
theorem Inv.run {pg : Pg} : ∀ (n : Nat) (s : Mc), Inv pg s → Live s → Inv pg (runM pg n s).2 ∧ Live (runM pg n s).2
 | 0, s, h, hl => ⟨h, hl⟩
 | n + 1, s, h, hl => by
  unfold runM
  split
  ·exact ⟨h, hl⟩
  ·exact Inv.run n _ h.step hl.step
theorem Live.made {s : Mc} (h : Live s) : madeB s = true := by
 unfold madeB
 cases he : s.ended with
 | true => simp
 | false => have := h he; simp [List.length_pos_iff, this]
theorem Run_fn (G : Gh) (pg : Pg) (CA PA : Option Addr) (cc pc : Nat) (qv : Value) (hC : Sl Kd.val G CA pg.consts) (hP : Sl Kd.prc G PA pg.procs) (hB : PgB pg) (n fuel : Int) (hfu : fuel ≤ 1000000) (AA : Option Addr) (ac : Nat) (args : List V) (Ha : List Own) (hr : Rds G Ha AA (vflat args)) (hal : args.length * 40 ≤ 140737488355328) :
  Fn Tryz.prog 44 #[.agg #[.slice CA pg.consts.length cc, .slice PA pg.procs.length pc, qv], .int .i64 n, .int .i64 fuel, .slice AA args.length ac] G Ha
   fun e G' H' => ∃ A' cap' x', e = .returned (ocV (runR pg n fuel args) A' cap') ∧ G.le G' ∧ VVec A' cap' (runR pg n fuel args).out x' ∧ H' = x' :: Ha := by
 refine Fn.enter Tryz.func44 rfl rfl fun w0 => ?_
 refine WC.seq ?_
 refine WC.region ?_
 refine WL.oo (OW.box rfl rfl fun b17 => ?_)
 refine WL.oo (OW.alloc rfl fun b18 => ?_)
 refine WL.nil ?_
 refine WK.un ?_
 refine WC.seq ?_
 refine WC.region ?_
 refine WL.vv (Gv.loadN rfl atA rfl rfl) ?_
 refine zw.move ?_
 refine zw.move ?_
 cases hs : startR pg n args with
 | none =>
  refine WL.oo (OW.callR rfl (Pk.perm pkA) ((Start_fn G pg CA PA cc pc qv hC hP hB n AA ac args Ha hr hal).mono fun e G' H' h => (by rw [hs] at h; exact h)) rfl (by intro e G' H' h; repeat (first | exact ⟨_, h.1⟩ | (obtain ⟨_, h⟩ := h))) fun v' G' H' h hg => ?_)
  obtain ⟨he, rfl, rfl⟩ := h
  cases he
  refine WL.swap ?_
  refine zw.move ?_
  refine zw.ext ?_
  refine zw.ext ?_
  refine zw.assign ?_
  refine zw.assign ?_
  refine WL.nil ?_
  refine WK.un ?_
  refine WC.seq ?_
  refine WC.seq ?_
  refine WC.region ?_
  refine zw.move ?_
  refine zw.ne ?_
  refine WL.nil ?_
  refine WK.un ?_
  refine WC.cond_true rfl ?_
  refine WC.seq ?_
  refine WC.region ?_
  refine zw.build ?_
  refine zw.st ?_
  refine WL.nil ?_
  refine WK.un ?_
  refine WC.nothing ?_
  rw [show runR pg n fuel args = Oc0 by rw [runR, hs]]
  refine WC.rt ?_
  exact QF.p1 (.inl rfl) rfl (.cell rfl inferInstance inferInstance atA rfl rfl) (⟨none, 0, .spare 0 0 0, rfl, Gh.le_refl _, ⟨by simp [vflat, Oc0], .inl ⟨rfl, rfl, rfl, rfl⟩⟩, rfl⟩)
 | some q =>
  obtain ⟨hI, hL⟩ := startS_inv hs
  have hIr := Inv.run fuel.toNat _ hI hL
  refine WL.oo (OW.callR rfl (Pk.perm pkA) ((Start_fn G pg CA PA cc pc qv hC hP hB n AA ac args Ha hr hal).mono fun e G' H' h => (by rw [hs] at h; exact h)) rfl (by rintro e G' H' ⟨_, _, _, _, _, _, h, _⟩; exact ⟨_, h⟩) fun v' G' H' h hg => ?_)
  obtain ⟨mb, CA', PA', cc', pc', H1, he, hg1, hC1, hP1, hR, rfl⟩ := h
  cases he
  refine WL.swap ?_
  refine zw.move ?_
  refine zw.ext ?_
  refine zw.ext ?_
  refine zw.assign ?_
  refine zw.assign ?_
  refine WL.nil ?_
  refine WK.un ?_
  refine WC.seq ?_
  refine WC.seq ?_
  refine WC.region ?_
  refine zw.move ?_
  refine zw.ne ?_
  refine WL.nil ?_
  refine WK.un ?_
  refine WC.cond_false rfl ?_
  refine WC.skip ?_
  refine WK.un ?_
  refine WC.seq ?_
  refine WC.region ?_
  refine zw.move ?_
  refine zw.move ?_
  refine WL.oo (OW.callK rfl (Step_fn G' pg CA' PA' cc' pc' hC1 hP1 hB.codeB mb (.slice none 0 0) (startS q n args) H1 hR hI hL fuel hfu (by simp [startS])) rfl fun v' G' H' h hg => ?_)
  obtain ⟨he, rfl, hR2⟩ := h
  cases he
  refine WL.swap ?_
  refine WL.nil ?_
  refine WK.un ?_
  obtain ⟨t, ht⟩ : ∃ t, t = (runM pg fuel.toNat (startS q n args)).2 := ⟨_, rfl⟩
  rw [← ht] at hIr hR2
  have hrun : runR pg n fuel args = if t.ended then t.oc else { t.oc with en := 5 } := by rw [runR, hs, ht]
  have hout : (runR pg n fuel args).out = t.out := by rw [hrun]; split <;> rfl
  rw [hrun]
  obtain ⟨FA, fcap, OA, ocap, ox, fx, bs, Hf, hF, hfv, ho, rfl⟩ := id hR2
  refine WC.seq ?_
  refine WC.region ?_
  refine zw.move ?_
  refine WL.oo (OW.callK rfl (Outcome_fn G' CA' PA' cc' pc' pg.consts.length pg.procs.length (.slice none 0 0) mb _ _ hR2 hIr.2.made (by have := hIr.1.out.1; omega)) rfl fun v' G' H' h hg => ?_)
  obtain ⟨A', cap', x', he, rfl, hx', rfl⟩ := h
  cases he
  refine WL.oo (OW.alloc rfl fun b20 => ?_)
  refine zw.st ?_
  refine WL.nil ?_
  refine WK.un ?_
  refine WC.front (H' := [.blk b20 (.cells #[.int .i64 t.en, .int .i64 t.val.t, .int .i64 t.val.i, .bool t.val.b, .string t.val.s, .slice A' t.out.length cap', .int .i64 t.steps] 65 (0, 0)), .blk b18 (.cells #[.int .i64 0, .int .i64 0, .int .i64 0, .bool false, .string ⟨#[]⟩, .slice none 0 0, .int .i64 0] 65 (0, 0)), mcB mb (.slice CA' pg.consts.length cc') (.slice PA' pg.procs.length pc') (.slice none 0 0) FA bs.reverse.length fcap t.en t.val OA t.out.length ocap t.steps t.ended, x']) pkA ?_
  refine WC.seq ?_
  refine WC.seq ?_
  refine WC.region ?_
  refine zw.move ?_
  refine zw.nil ?_
  refine zw.fa ?_
  refine zw.ld ?_
  cases hen : t.ended with
  | true =>
   refine zw.not ?_
   refine WL.nil ?_
   refine WK.un ?_
   refine WC.cond_false rfl ?_
   refine WC.skip ?_
   refine WK.un ?_
   refine WC.seq ?_
   refine WC.region ?_
   refine WL.vv (Gv.loadN rfl atA rfl rfl) ?_
   refine zw.st ?_
   refine WL.nil ?_
   refine WK.un ?_
   refine WC.rt ?_
   exact QF.p1 (.inl rfl) rfl (.cell rfl inferInstance inferInstance atA rfl rfl) (⟨A', cap', x', rfl, hg1, hx', rfl⟩)
  | false =>
   refine zw.not ?_
   refine WL.nil ?_
   refine WK.un ?_
   refine WC.cond_true rfl ?_
   refine WC.region ?_
   refine zw.fa ?_
   refine zw.st ?_
   refine WL.nil ?_
   refine WK.un ?_
   refine WC.seq ?_
   refine WC.region ?_
   refine WL.vv (Gv.loadN rfl atA rfl rfl) ?_
   refine zw.st ?_
   refine WL.nil ?_
   refine WK.un ?_
   refine WC.rt ?_
   exact QF.p1 (.inl rfl) rfl (.cell rfl inferInstance inferInstance atA rfl rfl) (⟨A', cap', x', rfl, hg1, hx', rfl⟩)
end
section
structure Good (l : List Ob) : Prop where
 hv : ∀ o ∈ l, (objAns o).2.2 = 0
 hp : (l.map (·.path)).Nodup
 hm : missL l = []
def pgL (l : List Ob) : Pg := ⟨l.flatMap (·.consts), joinP (allPr l) l 0 0⟩
def relN (l l' : List Ob) (n n' : Nat) : Prop := ∃ (k j : Nat) (o : Ob) (p : Pr) (k' : Nat), l[k]? = some o ∧ o.procs[j]? = some p ∧ l'[k']? = some o ∧ n = sumP (l.take k) + j ∧ n' = sumP (l'.take k') + j
def relDR (l l' : List Ob) : DR → DR → Prop
 | .call q r a n, .call q' r' a' n' => q.locals = q'.locals ∧ r = r' ∧ a = a' ∧ relN l l' n.toNat n'.toNat
 | d, d' => d = d'
def relF (l l' : List Ob) (f f' : Fr) : Prop := f.pc = f'.pc ∧ f.stack = f'.stack ∧ f.vars = f'.vars ∧ relN l l' f.proc f'.proc
inductive relFs (l l' : List Ob) : List Fr → List Fr → Prop where
 | nil : relFs l l' [] []
 | cons {f f' : Fr} {fs fs' : List Fr} (h : relF l l' f f') (t : relFs l l' fs fs') : relFs l l' (f :: fs) (f' :: fs')
theorem relFs.len {l l' : List Ob} {a b : List Fr} (h : relFs l l' a b) : a.length = b.length := by
 induction h with
 | nil => rfl
 | cons _ _ ih => simp [ih]
structure relM (l l' : List Ob) (s s' : Mc) : Prop where
 frames : relFs l l' s.frames s'.frames
 out : s.out = s'.out
 steps : s.steps = s'.steps
 en : s.en = s'.en
 val : s.val = s'.val
 ended : s.ended = s'.ended
theorem path_one {l : List Ob} (hp : (l.map (·.path)).Nodup) {a b : Ob} (ha : a ∈ l) (hb : b ∈ l) (h : a.path = b.path) : a = b := by
 obtain ⟨i, hi⟩ := List.mem_iff_getElem?.1 ha
 obtain ⟨j, hj⟩ := List.mem_iff_getElem?.1 hb
 have h1 : (l.map (·.path))[i]? = some a.path := by rw [List.getElem?_map, hi]; rfl
 have h2 : (l.map (·.path))[j]? = some a.path := by rw [List.getElem?_map, hj, h]; rfl
 have := (List.getElem?_inj (List.getElem?_eq_some_iff.1 h1).1 hp).1 (h1.trans h2.symm)
 subst this
 exact Option.some.inj (hi.symm.trans hj)
theorem name_one {o : Ob} (h : (objAns o).2.2 = 0) {i j : Nat} {p q : Pr} (hi : o.procs[i]? = some p) (hj : o.procs[j]? = some q) (hn : p.name = q.name) : i = j := by
 have h1 : (o.procs.map (·.name))[i]? = some p.name := by rw [List.getElem?_map, hi]; rfl
 have h2 : (o.procs.map (·.name))[j]? = some p.name := by rw [List.getElem?_map, hj, hn]; rfl
 exact (List.getElem?_inj (List.getElem?_eq_some_iff.1 h1).1 (names_nodup h)).1 (h1.trans h2.symm)
section
variable {l l' : List Ob} (g : Good l) (g' : Good l') (inc : ∀ o ∈ l, o ∈ l')
include g g' inc
theorem rel_need {o : Ob} (ho : o ∈ l) {n : Nd} (hn : n ∈ o.needs) : relN l l' (atL (allPr l) (n.path, n.name)).toNat (atL (allPr l') (n.path, n.name)).toNat := by
 obtain ⟨k, j, o1, q, a1, a2, a3, a4, a5, a6, a7, a8⟩ := need_at g.hv g.hp g.hm ho hn
 obtain ⟨k', j', o2, q', b1, b2, b3, b4, b5, b6, b7, b8⟩ := need_at g'.hv g'.hp g'.hm (inc o ho) hn
 have h1 : o1 = o2 := path_one g'.hp (inc o1 (List.mem_of_getElem? a1)) (List.mem_of_getElem? b1) (a6.trans b6.symm)
 subst h1
 have h2 : j = j' := name_one (g.hv o1 (List.mem_of_getElem? a1)) a2 b2 (a5.trans b5.symm)
 subst h2
 rw [a8, b8]
 exact ⟨k, j, o1, q, k', a1, a2, b1, rfl, rfl⟩
theorem doR_rel {n n' : Nat} (h : relN l l' n n') {pr pr' : Pr} (hq : (pgL l).procs[n]? = some pr) (hq' : (pgL l').procs[n']? = some pr') (st : List V) (pc : Nat) (vars : List V) (d outn : Nat) :
  relDR l l' (doR (pgL l) pr st pc vars d outn) (doR (pgL l') pr' st pc vars d outn) := by
 obtain ⟨k, j, o, p, k', hk, hj, hk', rfl, rfl⟩ := h
 have e1 := join_at (allPr l) l 0 0 hk hj
 have e2 := join_at (allPr l') l' 0 0 hk' hj
 rw [Nat.zero_add, Nat.zero_add] at e1 e2
 obtain rfl := Option.some.inj (e1.symm.trans hq)
 obtain rfl := Option.some.inj (e2.symm.trans hq')
 have ho := List.mem_of_getElem? hk
 have h0 := g.hv o ho
 have hlen : (moveP (allPr l) o (sumC (l.take k)) (sumP (l.take k)) p).code.length = (moveP (allPr l') o (sumC (l'.take k')) (sumP (l'.take k')) p).code.length := by simp [moveP]
 unfold doR
 cases hi : p.code[pc]? with
 | none =>
  have n1 : (moveP (allPr l) o (sumC (l.take k)) (sumP (l.take k)) p).code[pc]? = none := by simp only [moveP, List.getElem?_map, hi]; rfl
  have n2 : (moveP (allPr l') o (sumC (l'.take k')) (sumP (l'.take k')) p).code[pc]? = none := by simp only [moveP, List.getElem?_map, hi]; rfl
  rw [n1, n2]; exact rfl
 | some i =>
 have n1 : (moveP (allPr l) o (sumC (l.take k)) (sumP (l.take k)) p).code[pc]? = some (moveI (allPr l) o (sumC (l.take k)) (sumP (l.take k)) i) := by simp only [moveP, List.getElem?_map, hi]; rfl
 have n2 : (moveP (allPr l') o (sumC (l'.take k')) (sumP (l'.take k')) p).code[pc]? = some (moveI (allPr l') o (sumC (l'.take k')) (sumP (l'.take k')) i) := by simp only [moveP, List.getElem?_map, hi]; rfl
 rw [n1, n2]
 have hz := (outAt_zero (w := o.wd) hj (allR_zero (objAns_zero h0).2 j (List.getElem?_eq_some_iff.1 hj).1)).2.2.1 pc i hi
 obtain ⟨a1, a2, a3⟩ := aloneR_zero hz
 obtain ⟨m1, m2, m3⟩ := mayR_le a1
 have hcall : ∀ (x x' : Int), relN l l' x.toNat x'.toNat → 0 ≤ x → 0 ≤ x' → relDR l l' (callD (pgL l).procs st x d) (callD (pgL l').procs st x' d) := by
  intro x x' hr hx hx'
  obtain ⟨k1, j1, o1, p1, k1', c1, c2, c3, c4, c5⟩ := id hr
  have f1 := join_at (allPr l) l 0 0 c1 c2
  have f2 := join_at (allPr l') l' 0 0 c3 c2
  rw [Nat.zero_add, Nat.zero_add] at f1 f2
  generalize hq1 : moveP (allPr l) o1 (sumC (l.take k1)) (sumP (l.take k1)) p1 = q1 at f1
  generalize hq2 : moveP (allPr l') o1 (sumC (l'.take k1')) (sumP (l'.take k1')) p1 = q2 at f2
  have e1 : q1.params = q2.params := by rw [← hq1, ← hq2]; rfl
  have e2 : q1.result = q2.result := by rw [← hq1, ← hq2]; rfl
  have e3 : q1.locals = q2.locals := by rw [← hq1, ← hq2]; rfl
  have e4 : sizedP q1 = sizedP q2 := by unfold sizedP; rw [e1, e3]
  have f1' : (pgL l).procs[x.toNat]? = some q1 := by rw [c4]; exact f1
  have f2' : (pgL l').procs[x'.toNat]? = some q2 := by rw [c5]; exact f2
  unfold callD callR
  rw [if_neg (by omega), if_neg (by omega), f1', f2']
  dsimp only
  rw [e4, e1, e2]
  by_cases b1 : sizedP q2 = false
  ·rw [if_pos b1, if_pos b1]; exact rfl
  rw [if_neg b1, if_neg b1]
  by_cases b2 : st.length < q2.params.length
  ·rw [if_pos b2, if_pos b2]; exact rfl
  rw [if_neg b2, if_neg b2]
  by_cases b3 : tys (st.drop (st.length - q2.params.length)) ≠ q2.params
  ·rw [if_pos b3, if_pos b3]; exact rfl
  rw [if_neg b3, if_neg b3]
  by_cases b4 : q2.result ≠ 0 ∧ 128 ≤ st.length - q2.params.length
  ·rw [if_pos b4, if_pos b4]; exact rfl
  rw [if_neg b4, if_neg b4]
  by_cases b5 : 64 ≤ d
  ·rw [if_pos b5, if_pos b5]; exact rfl
  rw [if_neg b5, if_neg b5]
  exact ⟨e3, rfl, rfl, hr⟩
 by_cases c1 : i.1 = 1
 ·rw [if_pos c1] at a3
  have hlt : i.2.toNat < o.consts.length := by have : i.2 < (o.consts.length : Int) := a3; omega
  have h4 := consts_at l hk (List.getElem?_eq_getElem hlt)
  have h5 := consts_at l' hk' (List.getElem?_eq_getElem hlt)
  unfold moveI
  rw [if_pos c1, if_pos c1]
  dsimp only
  rw [if_pos rfl, if_pos rfl]
  unfold constR
  rw [if_neg (by omega), if_neg (by omega), show (i.2 + (sumC (l.take k) : Int)).toNat = sumC (l.take k) + i.2.toNat by omega, show (i.2 + (sumC (l'.take k') : Int)).toNat = sumC (l'.take k') + i.2.toNat by omega]
  rw [show (pgL l).consts = l.flatMap (·.consts) from rfl, show (pgL l').consts = l'.flatMap (·.consts) from rfl, h4, h5]
  dsimp only
  split
  ·unfold layRQ; split <;> exact rfl
  ·exact rfl
 by_cases c7 : i.1 = 7
 ·rw [if_neg c1, if_neg (by rw [c7]; decide), if_pos c7] at a3
  have hlt : i.2.toNat < o.procs.length := by have : i.2 < (o.procs.length : Int) := a3; omega
  unfold moveI
  rw [if_neg c1, if_pos c7, if_neg c1, if_pos c7]
  dsimp only
  rw [if_neg (by decide), if_neg (by decide), if_neg (by decide), if_neg (by decide), if_neg (by decide), if_pos rfl, if_neg (by decide), if_neg (by decide), if_neg (by decide), if_neg (by decide), if_neg (by decide), if_pos rfl]
  refine hcall _ _ ⟨k, i.2.toNat, o, _, k', hk, List.getElem?_eq_getElem hlt, hk', by omega, by omega⟩ (by omega) (by omega)
 by_cases c8 : i.1 = 8
 ·rw [if_neg c1, if_neg (by rw [c8]; decide), if_neg c7, if_pos c8] at a3
  have hlt : i.2.toNat < o.needs.length := by have : i.2 < (o.needs.length : Int) := a3; omega
  obtain ⟨n, hn⟩ : ∃ n, o.needs[i.2.toNat]? = some n := ⟨_, List.getElem?_eq_getElem hlt⟩
  have hr := rel_need g g' inc ho (List.mem_of_getElem? hn)
  obtain ⟨_, _, _, _, _, _, _, _, _, _, _, z1⟩ := need_at g.hv g.hp g.hm ho (List.mem_of_getElem? hn)
  obtain ⟨_, _, _, _, _, _, _, _, _, _, _, z2⟩ := need_at g'.hv g'.hp g'.hm (inc o ho) (List.mem_of_getElem? hn)
  unfold moveI
  rw [if_neg c1, if_neg c7, if_pos c8, if_neg c1, if_neg c7, if_pos c8, hn]
  dsimp only
  rw [if_neg (by decide), if_neg (by decide), if_neg (by decide), if_neg (by decide), if_neg (by decide), if_pos rfl, if_neg (by decide), if_neg (by decide), if_neg (by decide), if_neg (by decide), if_neg (by decide), if_pos rfl]
  exact hcall _ _ hr (by rw [z1]; omega) (by rw [z2]; omega)
 unfold moveI
 rw [if_neg c1, if_neg c7, if_neg c8, if_neg c1, if_neg c7, if_neg c8, hlen]
 obtain ⟨c, x⟩ := i
 dsimp only at c1 c7 ⊢
 rw [if_neg c1, if_neg c1]
 show relDR l l' (if c = 2 then _ else if c = 3 then _ else if c = 5 then _ else if c = 6 then _ else if c = 7 then _ else if x ≠ 0 then _ else _) (if c = 2 then _ else if c = 3 then _ else if c = 5 then _ else if c = 6 then _ else if c = 7 then _ else if x ≠ 0 then _ else _)
 have fin : ∀ (D : DR), (∀ q r a n, D ≠ .call q r a n) → relDR l l' D D := by
  intro D hD
  cases D with
  | call q r a n => exact absurd rfl (hD q r a n)
  | halt n => exact rfl
  | go a b c => exact rfl
  | print a b => exact rfl
  | leave a b => exact rfl
 have hlay : ∀ v q r a n, layRQ st pc vars v ≠ .call q r a n := by intro v q r a n; unfold layRQ; split <;> simp
 by_cases d2 : c = 2
 ·rw [if_pos d2, if_pos d2]
  refine fin _ fun q r a n => ?_
  unfold loadR
  split
  ·simp
  ·split
   ·simp
   ·split
    ·simp
    ·exact hlay _ _ _ _ _
 rw [if_neg d2, if_neg d2]
 by_cases d3 : c = 3
 ·rw [if_pos d3, if_pos d3]
  refine fin _ fun q r a n => ?_
  unfold storeR
  split
  ·simp
  ·split <;> simp
 rw [if_neg d3, if_neg d3]
 by_cases d5 : c = 5
 ·rw [if_pos d5, if_pos d5]
  refine fin _ fun q r a n => ?_
  unfold jumpR
  split <;> simp
 rw [if_neg d5, if_neg d5]
 by_cases d6 : c = 6
 ·rw [if_pos d6, if_pos d6]
  refine fin _ fun q r a n => ?_
  unfold unlessR
  split
  ·simp
  ·split <;> simp
 rw [if_neg d6, if_neg d6, if_neg c7, if_neg c7]
 by_cases d0 : x ≠ 0
 ·rw [if_pos d0, if_pos d0]; exact rfl
 rw [if_neg d0, if_neg d0]
 refine fin _ fun q r a n => ?_
 unfold plainD
 split <;> simp
theorem stepM_rel {s s' : Mc} (h : relM l l' s s') : relM l l' (stepM (pgL l) s) (stepM (pgL l') s') := by
 obtain ⟨fr, out, steps, en, val, ended⟩ := s
 obtain ⟨fr', out', steps', en', val', ended'⟩ := s'
 obtain ⟨hf, h1, h2, h3, h4, h5⟩ := h
 dsimp only at hf h1 h2 h3 h4 h5
 subst h1 h2 h3 h4 h5
 cases hf with
 | nil => exact ⟨.nil, rfl, rfl, rfl, rfl, rfl⟩
 | @cons f f' fs fs' hx ht =>
  obtain ⟨a1, a2, a3, hr⟩ := id hx
  obtain ⟨k, j, o, p, k', b1, b2, b3, b4, b5⟩ := id hr
  have e1 := join_at (allPr l) l 0 0 b1 b2
  have e2 := join_at (allPr l') l' 0 0 b3 b2
  rw [Nat.zero_add, Nat.zero_add] at e1 e2
  rw [← b4] at e1
  rw [← b5] at e2
  have hd := doR_rel g g' inc hr e1 e2 f.stack f.pc f.vars (fs.length + 1) out.length
  unfold stepM
  dsimp only
  rw [show (pgL l).procs[f.proc]? = _ from e1, show (pgL l').procs[f'.proc]? = _ from e2]
  dsimp only
  rw [← a1, ← a2, ← a3, ← ht.len]
  generalize doR (pgL l) _ f.stack f.pc f.vars (fs.length + 1) out.length = D at hd
  generalize doR (pgL l') _ f.stack f.pc f.vars (fs.length + 1) out.length = D' at hd
  cases D with
  | halt n =>
   cases D' <;> first | (cases hd; done) | skip
   cases hd
   exact ⟨.cons hx ht, rfl, rfl, rfl, rfl, rfl⟩
  | go st kk vs =>
   cases D' <;> first | (cases hd; done) | skip
   cases hd
   exact ⟨.cons ⟨rfl, rfl, rfl, hr⟩ ht, rfl, rfl, rfl, rfl, rfl⟩
  | print st v =>
   cases D' <;> first | (cases hd; done) | skip
   cases hd
   exact ⟨.cons ⟨rfl, rfl, rfl, hr⟩ ht, rfl, rfl, rfl, rfl, rfl⟩
  | call q r args n =>
   cases D' <;> first | (cases hd; done) | skip
   obtain ⟨q1, q2, q3, q4⟩ := hd
   subst q2 q3
   exact ⟨.cons ⟨rfl, rfl, by dsimp only; rw [q1], q4⟩ (.cons ⟨rfl, rfl, rfl, hr⟩ ht), rfl, rfl, rfl, rfl, rfl⟩
  | leave r gv =>
   cases D' <;> first | (cases hd; done) | skip
   cases hd
   cases ht with
   | nil => exact ⟨.nil, rfl, rfl, rfl, rfl, rfl⟩
   | @cons f0 f0' gs gs' hy ht2 =>
    obtain ⟨c1, c2, c3, c4⟩ := hy
    exact ⟨.cons ⟨c1, by dsimp only; rw [c2], c3, c4⟩ ht2, rfl, rfl, rfl, rfl, rfl⟩
theorem runM_rel : ∀ (n : Nat) {s s' : Mc}, relM l l' s s' → relM l l' (runM (pgL l) n s).2 (runM (pgL l') n s').2
 | 0, s, s', h => h
 | n + 1, s, s', h => by
  unfold runM
  rw [h.ended]
  split
  ·exact h
  ·exact runM_rel n (stepM_rel g g' inc h)
theorem runR_rel {n n' : Int} (hn : 0 ≤ n) (hn' : 0 ≤ n') (h : relN l l' n.toNat n'.toNat) (fuel : Int) (args : List V) : runR (pgL l) n fuel args = runR (pgL l') n' fuel args := by
 obtain ⟨k, j, o, p, k', b1, b2, b3, b4, b5⟩ := id h
 have e1 := join_at (allPr l) l 0 0 b1 b2
 have e2 := join_at (allPr l') l' 0 0 b3 b2
 rw [Nat.zero_add, Nat.zero_add, ← b4] at e1
 rw [Nat.zero_add, Nat.zero_add, ← b5] at e2
 generalize hq1 : moveP (allPr l) o (sumC (l.take k)) (sumP (l.take k)) p = q1 at e1
 generalize hq2 : moveP (allPr l') o (sumC (l'.take k')) (sumP (l'.take k')) p = q2 at e2
 have f1 : q1.params = q2.params := by rw [← hq1, ← hq2]; rfl
 have f3 : q1.locals = q2.locals := by rw [← hq1, ← hq2]; rfl
 have f4 : sizedP q1 = sizedP q2 := by unfold sizedP; rw [f1, f3]
 have hst : startR (pgL l) n args = none ∧ startR (pgL l') n' args = none ∨ startR (pgL l) n args = some q1 ∧ startR (pgL l') n' args = some q2 := by
  unfold startR
  rw [if_neg (by omega), if_neg (by omega), show (pgL l).procs[n.toNat]? = _ from e1, show (pgL l').procs[n'.toNat]? = _ from e2]
  dsimp only
  rw [f4, f1]
  split
  ·exact .inl ⟨rfl, rfl⟩
  split
  ·exact .inl ⟨rfl, rfl⟩
  split
  ·exact .inr ⟨rfl, rfl⟩
  ·exact .inl ⟨rfl, rfl⟩
 unfold runR
 rcases hst with ⟨h1, h2⟩ | ⟨h1, h2⟩
 ·rw [h1, h2]
 ·rw [h1, h2]
  dsimp only
  have hr : relM l l' (startS q1 n args) (startS q2 n' args) := ⟨.cons ⟨rfl, rfl, by show padded args q1.locals = padded args q2.locals; rw [f3], h⟩ .nil, rfl, rfl, rfl, rfl, rfl⟩
  have hf := runM_rel g g' inc fuel.toNat hr
  have hoc : (runM (pgL l) fuel.toNat (startS q1 n args)).2.oc = (runM (pgL l') fuel.toNat (startS q2 n' args)).2.oc := by unfold Mc.oc; rw [hf.en, hf.val, hf.out, hf.steps]
  rw [hf.ended, hoc]
end
end
section
open Go.MapKept
def p2L : Pr := ⟨⟨#[109, 97, 105, 110]⟩, true, [], 0, 1, [(7, 0), (10, 0)]⟩
theorem miss_12 : missL [o1, o2] = [] := by decide +kernel
theorem miss_2 : missL [o2] = [n2] := by kernel_rfl
theorem join_12 : joinP (allPr [o1, o2]) [o1, o2] 0 0 = [p1, p2L] := by kernel_rfl
theorem pts_12 : (joinT' [o1, o2] 0).length = 2 := by decide +kernel
theorem link_12 : linkE [o1, o2] = 0 := by
 unfold linkE
 have h1 : errL [o1, o2] = 0 := errL_zero.2 fun o ho => by
  rcases List.mem_cons.1 ho with rfl | ho
  ·rw [ans_1]
  ·obtain rfl := List.mem_singleton.1 ho
   rw [ans_2]
 rw [h1, if_neg (by decide), if_neg (by decide +kernel), miss_12, if_neg (by simp), if_neg (by decide +kernel)]
theorem link_2 : linkE [o2] = 221 := by
 unfold linkE
 have h1 : errL [o2] = 0 := errL_zero.2 fun o ho => by
  obtain rfl := List.mem_singleton.1 ho
  rw [ans_2]
 rw [h1, if_neg (by decide), if_neg (by decide +kernel), miss_2, if_pos (by simp)]
theorem run_12 : (runR ⟨[⟨1, 7, false, ⟨#[]⟩⟩], [p1, p2L]⟩ 1 9 []).val.i = 7 := by kernel_rfl
theorem lim_1 : OLim o1 := ⟨by decide, by decide, by decide, by decide, fun q h => (by cases h), fun q h => by obtain rfl := List.mem_singleton.1 h; decide⟩
theorem lim_2 : OLim o2 := ⟨by decide, by decide, by decide, by decide, fun q h => by (obtain rfl := List.mem_singleton.1 h; decide), fun q h => by obtain rfl := List.mem_singleton.1 h; decide⟩
theorem llim_2 : LLim [o2] where
 len := by decide
 sumP := by decide
 sumN := by decide
 sumC := by decide
 lim o ho := by obtain rfl := List.mem_singleton.1 ho; exact lim_2
 pp o ho p hp := by obtain rfl := List.mem_singleton.1 ho; obtain rfl := List.mem_singleton.1 hp; decide
 np o ho p hp := by obtain rfl := List.mem_singleton.1 ho; obtain rfl := List.mem_singleton.1 hp; decide
theorem llim_12 : LLim [o1, o2] where
 len := by decide
 sumP := by decide
 sumN := by decide
 sumC := by decide
 lim o ho := by
  rcases List.mem_cons.1 ho with rfl | ho
  ·exact lim_1
  ·obtain rfl := List.mem_singleton.1 ho; exact lim_2
 pp o ho p hp := by
  rcases List.mem_cons.1 ho with rfl | ho
  ·obtain rfl := List.mem_singleton.1 hp; decide
  ·exact llim_2.pp o ho p hp
 np o ho p hp := by
  rcases List.mem_cons.1 ho with rfl | ho
  ·cases hp
  ·exact llim_2.np o ho p hp
theorem uintL_pos (n : Nat) : 1 ≤ (uintL n).length := by
 rw [uintL]; split <;> simp
theorem bytes_1 : bytesO o1 = objI o1 := by rw [bytesO, ans_1]; rfl
theorem objI_1 : 3 < (objI o1).length ∧ (objI o1).length ≤ 1000 := by
 have h10 : ∀ n : Nat, n < 18446744073709551616 → (uintL n).length ≤ 10 := fun n h => uintL_len10 h
 have hc : ∀ l : List Int, l = (bytesR p1.code).1 → l.length ≤ 100 := fun l e => by
  subst e
  unfold bytesR
  split
  ·unfold encP
   rw [List.length_append]
   have := h10 p1.code.length (by decide)
   have h2 := flat_le (l := p1.code) (k := p1.code.length) fun j i hj hi => by
    have : ∀ i ∈ p1.code, mayI i = true := by decide +kernel
    exact this i (List.mem_of_getElem? hi)
   have h3 : p1.code.length = 2 := rfl
   omega
  ·simp
 have hcc := hc _ rfl
 have hu := uI_len
 have hz := h10 (zzN 7) (by decide)
 have h1 := uintL_pos o1.path.size
 have h2 := h10 o1.path.size (by decide)
 have h3 := h10 p1.name.size (by decide)
 have a1 := hu o1.consts.length
 have a2 := hu o1.needs.length
 have a3 := hu o1.procs.length
 have a4 := hu p1.params.length
 have a5 := hu p1.locals
 have e1 : (objI o1).length = 3 + ((uintL o1.path.size).length + 1) + ((uI o1.consts.length).length + (1 + (uintL (zzN 7)).length)) + (uI o1.needs.length).length + ((uI o1.procs.length).length + ((uintL p1.name.size).length + 1 + (uI p1.params.length).length + 0 + 1 + 1 + (uI p1.locals).length + (bytesR p1.code).1.length)) := by
  have v1 : o1.consts.flatMap valI = kindI 1 ++ uintL (zzN 7) := by simp [o1, valI]
  have v2 : o1.procs.flatMap procI = procI p1 := by simp [o1]
  have v3 : p1.params = [] := rfl
  simp only [objI, valsI, procsI, v1, v2, procI, headI, txtI, List.length_append, strI_length]
  simp only [v3]
  rfl
 omega
end
section
open Go.MapKept
attribute [local irreducible] Tryz.prog joinP joinT' allPr objI bytesO runR linkE
section
variable {L : List (Nat × Value)} {d : Option Tmp} {ty : TypeId} {pos : String} {af : Array Edge} {gu : Option (Nat × Bool)}
theorem Gp.ocVal {x : Operand} {o : Oc} {A : Option Addr} {c : Nat} (hx : ev L x = some (ocV o A c)) : Gp Tryz.prog L ⟨d, .field 65 x 1, ty, pos, af, gu⟩ (.agg #[.int .i64 o.val.t, .int .i64 o.val.i, .bool o.val.b, .string o.val.s]) := fun a st w => by
 have a0 := fun w => (inferInstance : Agg Tryz.prog 52 true).h w
 have i0 := fun w => (inferInstance : Inf Tryz.prog 3 1 8 (.int .i64 0)).sizeOf (w := w)
 have i1 := fun w => (inferInstance : Inf Tryz.prog 52 4 _ _).sizeOf (w := w)
 simp [execOp, st.eval hx, ocV, Instr.field, part, asAgg, run_underlying Tryz.underlying65, a0, i0, i1, Result.andThen]
theorem Gp.valI {x : Operand} {v : V} (hx : ev L x = some (.agg #[.int .i64 v.t, .int .i64 v.i, .bool v.b, .string v.s])) : Gp Tryz.prog L ⟨d, .field 52 x 1, ty, pos, af, gu⟩ (.int .i64 v.i) := fun a st w => by
 have a0 := fun w => (inferInstance : Agg Tryz.prog 2 false).h w
 simp [execOp, st.eval hx, Instr.field, part, asAgg, run_underlying Tryz.underlying52, a0, Result.andThen]
end
theorem Run_12 (G : Gh) (CA PA : Option Addr) (cc pc : Nat) (qv : Value) (hC : Sl Kd.val G CA (pgL [o1, o2]).consts) (hP : Sl Kd.prc G PA [p1, p2L]) :
  Fn Tryz.prog 44 #[.agg #[.slice CA 1 cc, .slice PA 2 pc, qv], .int .i64 1, .int .i64 9, .slice none 0 0] G []
   fun e G' H' => ∃ o A' cap' x', o.val.i = 7 ∧ e = .returned (ocV o A' cap') ∧ G.le G' ∧ VVec A' cap' o.out x' ∧ H' = [x'] := by
 have hB : PgB ⟨[⟨1, 7, false, ⟨#[]⟩⟩], [p1, p2L]⟩ := ⟨by decide, by decide, by decide, by decide⟩
 refine Fn.mono (Run_fn G ⟨[⟨1, 7, false, ⟨#[]⟩⟩], [p1, p2L]⟩ CA PA cc pc qv hC hP hB 1 9 (by decide) none 0 [] [] (Rds.nil _ _ _) (by simp)) fun e G' H' h => ?_
 obtain ⟨A', cap', x', h1, h2, h3, h4⟩ := h
 exact ⟨_, A', cap', x', run_12, h1, h2, h3, h4⟩
theorem link12_fn (G : Gh) (hE : Env G) (A : Option Addr) (cap : Nat) (hS : Sl Kd.ob G A [o1, o2]) :
  Fn Tryz.prog 12 #[.slice A 2 cap] G [] fun e G' H' => ∃ LA lc MA mc QA qc y1 y2 y3, e = .returned (.tuple #[.agg #[.slice LA 1 lc, .slice MA 2 mc, .slice QA 2 qc], .int .i64 0]) ∧ G.le G' ∧
   KVec Kd.val 52 G' LA lc (pgL [o1, o2]).consts y1 ∧ KVec Kd.prc 47 G' MA mc [p1, p2L] y2 ∧ H' = [y1, y2, y3] := by
 refine Fn.mono (Link_fn G hE A cap [o1, o2] hS llim_12) fun e G' H' h => ?_
 obtain ⟨hg, ⟨hne, _⟩ | ⟨_, LA, lc, MA, mc, QA, qc, y1, y2, y3, he, hk1, hk2, hk3, rfl⟩⟩ := h
 ·exact absurd link_12 hne
 rw [join_12] at he hk2
 rw [pts_12] at he
 exact ⟨LA, lc, MA, mc, QA, qc, y1, y2, y3, he, hg, hk1, hk2, rfl⟩
theorem link2_fn (G : Gh) (hE : Env G) (A : Option Addr) (cap : Nat) (hS : Sl Kd.ob G A [o2]) :
  Fn Tryz.prog 12 #[.slice A 1 cap] G [] fun e G' H' => e = .returned (.tuple #[.agg #[.slice none 0 0, .slice none 0 0, .slice none 0 0], .int .i64 221]) ∧ G.le G' ∧ H' = [] := by
 refine Fn.mono (Link_fn G hE A cap [o2] hS llim_2) fun e G' H' h => ?_
 obtain ⟨hg, ⟨_, he, rfl⟩ | ⟨hz, _⟩⟩ := h
 ·rw [link_2] at he
  exact ⟨he, hg, rfl⟩
 ·rw [link_2] at hz; exact absurd hz (by decide)
theorem bytes1_fn (G : Gh) (hE : Env G) (CA PA : Option Addr) (cc nc pc : Nat) (hO : ORep G o1 CA none PA) :
  Fn Tryz.prog 27 #[.agg (obC o1 CA none PA cc nc pc)] G [] fun e G' H' => ∃ A' n cap' x', (3 < n ∧ n ≤ 1000) ∧ e = .returned (.tuple #[.slice A' n cap', .int .i64 0]) ∧ G.le G' ∧ H' = [x'] := by
 refine Fn.mono (objBytes_fn G hE o1 CA none PA cc nc pc hO lim_1 (fun v hv => by obtain rfl := List.mem_singleton.1 hv; decide) (by decide) (by decide) (by decide) (fun p hp => by obtain rfl := List.mem_singleton.1 hp; decide) (by have := objI_1.2; omega)) fun e G' H' h => ?_
 obtain ⟨A', cap', x', he, hg, _, rfl⟩ := h
 rw [ans_1, bytes_1] at he
 exact ⟨A', _, cap', x', objI_1, he, hg, rfl⟩
set_option maxRecDepth 20000 in
set_option maxHeartbeats 4000000 in
theorem awakeL (G : Gh) (hE : Env G) : Fn Tryz.prog 15 #[] G [] fun e G' H' => e = .returned (.bool true) ∧ G.le G' ∧ H' = [] := by
 refine Fn.enter Tryz.func15 rfl rfl fun w0 => ?_
 refine gom ?_
 refine WL.oo (OW.callK rfl (lawOne_fn G) rfl fun v' G' H' h hg => ?_)
 obtain ⟨CA, PA, he, hg1, hO1, rfl⟩ := h
 cases he
 obtain ⟨G1, rfl⟩ : ∃ G1, G1 = G' := ⟨_, rfl⟩
 refine WL.oo (OW.callK rfl (lawTwo_fn G1) rfl fun v' G' H' h hg => ?_)
 obtain ⟨NA, PB, he, hg2, hO2, rfl⟩ := h
 cases he
 obtain ⟨G2, rfl⟩ : ∃ G2, G2 = G' := ⟨_, rfl⟩
 refine WL.op kr (OW.buildSlice rfl kr kr (by rfl) rfl fun b10 => ?_)
 refine WL.freezeC (cs := [.string o1.path, .slice CA 1 1, .slice none 0 0, .slice PA 1 1] ++ [.string o2.path, .slice none 0 0, .slice NA 1 1, .slice PB 1 1]) .here rfl fun G3 hg3 h3 => ?_
 have hS : Sl Kd.ob G3 (some ⟨b10, 0, none⟩) [o1, o2] := KFl.sl (k := Kd.ob) (l := [o1] ++ [o2]) (by decide)
  ((KFl.one (k := Kd.ob) (x := o1) ⟨CA, 1, none, 0, PA, 1, rfl, hO1.mono (Gh.le_trans hg2 hg3)⟩).append (KFl.one (k := Kd.ob) (x := o2) ⟨none, 0, NA, 1, PB, 1, rfl, hO2.mono hg3⟩)) (.inr ⟨b10, rfl, h3⟩)
 have hg13 := Gh.le_trans hg1 (Gh.le_trans hg2 hg3)
 refine WL.oo (OW.callK rfl (link12_fn G3 (hE.mono hg13) (some ⟨b10, 0, none⟩) 2 hS) rfl fun v' G' H' h hg => ?_)
 obtain ⟨G4, rfl⟩ : ∃ G4, G4 = G' := ⟨_, rfl⟩
 obtain ⟨LA, lc, MA, mc, QA, qc, y1, y2, y3, he, hg4, hk1, hk2, rfl⟩ := h
 cases he
 refine WL.freezeK (by decide) hk1 .here fun G5 hg5 hC => ?_
 refine WL.freezeK (by decide) (hk2.mono hg5) .here fun G6 hg6 hP => ?_
 have hC6 := hC.mono hg6
 have hg16 := Gh.le_trans hg13 (Gh.le_trans hg4 (Gh.le_trans hg5 hg6))
 refine gom ?_
 refine WL.oo (OW.alloc rfl fun b1 => ?_)
 refine gom ?_
 refine WL.oo (OW.callK rfl (lawTwo_fn G6) rfl fun v' G' H' h hg => ?_)
 obtain ⟨ND, PD, he, hg7, hO3, rfl⟩ := h
 cases he
 obtain ⟨G7, rfl⟩ : ∃ G7, G7 = G' := ⟨_, rfl⟩
 refine WL.op kr (OW.buildSlice rfl kr kr (by rfl) rfl fun b16 => ?_)
 refine WL.freezeC (cs := [.string o2.path, .slice none 0 0, .slice ND 1 1, .slice PD 1 1]) .here rfl fun G8 hg8 h8 => ?_
 have hS2 : Sl Kd.ob G8 (some ⟨b16, 0, none⟩) [o2] := KFl.sl (k := Kd.ob) (l := [o2]) (by decide) (KFl.one (k := Kd.ob) (x := o2) ⟨none, 0, ND, 1, PD, 1, rfl, hO3.mono hg8⟩) (.inr ⟨b16, rfl, h8⟩)
 have hg18 := Gh.le_trans hg16 (Gh.le_trans hg7 hg8)
 refine WL.oo (OW.callK rfl (link2_fn G8 (hE.mono hg18) (some ⟨b16, 0, none⟩) 1 hS2) rfl fun v' G' H' h hg => ?_)
 obtain ⟨he, hg9, rfl⟩ := h
 cases he
 obtain ⟨G9, rfl⟩ : ∃ G9, G9 = G' := ⟨_, rfl⟩
 have hg19 := Gh.le_trans hg18 hg9
 refine gom ?_
 refine WL.oo (OW.alloc rfl fun b3 => ?_)
 refine gom ?_
 refine WL.oo (OW.callK rfl (lawOne_fn _) rfl fun v' G' H' h hg => ?_)
 obtain ⟨CE, PE, he, hg10, hO4, rfl⟩ := h
 cases he
 obtain ⟨G10, rfl⟩ : ∃ G10, G10 = G' := ⟨_, rfl⟩
 have hg20 := Gh.le_trans hg19 hg10
 refine WL.oo (OW.callK rfl (bytes1_fn _ (hE.mono hg20) CE PE 1 0 1 hO4) rfl fun v' G' H' h hg => ?_)
 obtain ⟨BA, bn, bc, z1, hbn, he, hg11, rfl⟩ := h
 cases he
 obtain ⟨G11, rfl⟩ : ∃ G11, G11 = G' := ⟨_, rfl⟩
 have hg21 := Gh.le_trans hg20 hg11
 have hg611 : G6.le G11 := Gh.le_trans hg7 (Gh.le_trans hg8 (Gh.le_trans hg9 (Gh.le_trans hg10 hg11)))
 have hC11 := hC6.mono hg611
 have hP11 := hP.mono hg611
 have hPP := hP11
 obtain ⟨mb, mo, pcs, rfl, hpk, hpc⟩ := hP11 1 p2L rfl
 obtain ⟨PX, px, CX, cx', rfl, _, hcode⟩ := hpk
 obtain ⟨ib, io, ics, rfl, hik, hic⟩ := hcode 0 (7, 0) rfl
 obtain rfl : ics = [.int .i64 7, .int .i64 0] := hik
 have e3 : decide ((3 : Int) < (bn : Int)) = true := decide_eq_true (by omega)
 have x0 : (0 : Int) ≤ 1 := by decide
 have x1 : (1 : Int) < ((2 : Nat) : Int) := by decide
 have x2 : (0 : Int) ≤ 0 := by decide
 have x3 : (0 : Int) < ((p2L.code.length : Nat) : Int) := by decide
 refine gom ?_
 refine WL.pp (Gp.eqIns rfl rfl) ?_
 refine gom ?_
 refine WL.oo (OW.callK rfl (Run_12 G11 LA (some ⟨mb, mo, none⟩) lc mc _ hC11 hPP) rfl fun v' G' H' h hg => ?_)
 obtain ⟨o, RA, rc, z2, ho, he, hg12, hv, rfl⟩ := h
 cases he
 refine gom ?_
 refine WL.pp (Gp.ocVal rfl) ?_
 refine WL.pp (Gp.valI rfl) ?_
 rw [ho]
 refine gom ?_
 refine WC.rt ?_
 exact QF.p1 (.inl rfl) rfl (.tmp rfl) (⟨rfl, Gh.le_trans hg21 hg12, rfl⟩)
end
section
open Go.MapKept
attribute [local irreducible] Tryz.prog
def ptR (l : List Pt) (a b : ByteArray) : Int × Int := match l.find? (fun p => p.path == a && p.name == b) with
 | some p => (p.proc, 0)
 | none => (0, 8)
theorem ptR_at {l : List Pt} {a b : ByteArray} {i : Nat} {p : Pt} (h : ∀ j y, j < i → l[j]? = some y → (y.path == a && y.name == b) = false) (hp : l[i]? = some p) (ht : (p.path == a && p.name == b) = true) : ptR l a b = (p.proc, 0) := by
 have : l.find? (fun p => p.path == a && p.name == b) = some p := by
  rw [List.find?_eq_some_iff_getElem]
  obtain ⟨hi, rfl⟩ := List.getElem?_eq_some_iff.1 hp
  refine ⟨ht, i, hi, rfl, fun j hj => ?_⟩
  have := h j l[j] hj (List.getElem?_eq_getElem (by omega))
  rw [this]; rfl
 unfold ptR; rw [this]
theorem ptR_none {l : List Pt} {a b : ByteArray} (h : ∀ j y, j < l.length → l[j]? = some y → (y.path == a && y.name == b) = false) : ptR l a b = (0, 8) := by
 have : l.find? (fun p => p.path == a && p.name == b) = none := by
  rw [List.find?_eq_none]
  intro p hp
  obtain ⟨j, hj, rfl⟩ := List.getElem_of_mem hp
  rw [h j l[j] hj (List.getElem?_eq_getElem hj)]; decide
 unfold ptR; rw [this]
theorem all_step_f {l : List Pt} {f : Pt → Bool} {i : Nat} {p : Pt} (h : ∀ j y, j < i → l[j]? = some y → f y = false) (hp : l[i]? = some p) (hf : f p = false) : ∀ j y, j < i + 1 → l[j]? = some y → f y = false := fun j y hj hy => by
 rcases Nat.lt_or_ge j i with h1 | h1
 ·exact h j y h1 hy
 ·obtain rfl : j = i := by omega
  rw [hp] at hy; cases hy; exact hf
section
variable (G : Gh) (A : Option Addr) (l : List Pt) (cap : Nat) (hl : Sl Kd.pnt G A l) (hn : l.length ≤ 100000000000000) (a b : ByteArray)
include hl hn
set_option maxHeartbeats 1000000 in
theorem Point_fn (CA PA : Option Addr) (cn cc pn pc : Nat) : Fn Tryz.prog 18 #[.agg #[.slice CA cn cc, .slice PA pn pc, .slice A l.length cap], .string a, .string b] G [] fun e G' H' => e = .returned (.tuple #[.int .i64 (ptR l a b).1, .int .i64 (ptR l a b).2]) ∧ G = G' ∧ H' = [] := by
 refine Fn.enter Tryz.func18 rfl rfl fun w0 => ?_
 refine WC.seq ?_
 refine WC.region ?_
 refine WL.oo (OW.box rfl rfl fun b3 => ?_)
 refine gom ?_
 refine WC.pick [] ?_
 refine WC.loop (X := Nat) (fun i => [(1, .string a), (2, .string b), (11, .slice A l.length cap), (12, .int .i64 l.length), (13, .int .i64 i)]) (fun _ => G) (fun _ => []) (fun i => l.length - i) (fun i => i ≤ l.length ∧ ∀ j y, j < i → l[j]? = some y → (y.path == a && y.name == b) = false) 0 ⟨Nat.zero_le _, fun j y hj => by omega⟩ (by exact ⟨rfl, rfl, rfl, rfl, rfl, trivial⟩) rfl (List.nil_sublist _) (fun i hx => ?_)
 obtain ⟨hi, hall⟩ := hx
 by_cases hlt : i < l.length
 rotate_left
 ·have e2 : decide ((i : Int) < (l.length : Int)) = false := decide_eq_false (by omega)
  rw [ptR_none fun j y hj hy => hall j y (by omega) hy]
  refine gom ?_
  refine WC.rt ?_
  exact QF.p2 (.inl rfl) rfl (.tmp rfl) (.tmp rfl) (⟨rfl, rfl, rfl⟩)
 have e2 : decide ((i : Int) < (l.length : Int)) = true := decide_eq_true (by omega)
 obtain ⟨p, hp⟩ : ∃ p, l[i]? = some p := ⟨_, List.getElem?_eq_getElem hlt⟩
 obtain ⟨pb, po, cs, rfl, hk, hcs⟩ := hl i p hp
 obtain rfl : cs = [.string p.path, .string p.name, .int .i64 p.proc] := hk
 have x0 : (0 : Int) ≤ (i : Int) := by omega
 have x1 : (i : Int) < (l.length : Int) := by omega
 have x2 := wrapS i (by omega)
 refine gom ?_
 refine WL.oo (OW.alloc rfl fun b9 => ?_)
 refine gom ?_
 cases h1 : (p.path == a) with
 | false =>
  have hf : (p.path == a && p.name == b) = false := by rw [h1]; rfl
  try rw [h1]
  refine gom ?_
  exact WK.again (i + 1) (by omega) ⟨by omega, all_step_f hall hp hf⟩ (by exact ⟨rfl, rfl, rfl, rfl, rfl, trivial⟩) rfl (List.nil_sublist _)
 | true =>
 try rw [h1]
 refine gom ?_
 cases h2 : (p.name == b) with
 | false =>
  have hf : (p.path == a && p.name == b) = false := by rw [h1, h2]; rfl
  try rw [h2]
  refine gom ?_
  exact WK.again (i + 1) (by omega) ⟨by omega, all_step_f hall hp hf⟩ (by exact ⟨rfl, rfl, rfl, rfl, rfl, trivial⟩) rfl (List.nil_sublist _)
 | true =>
 have ht : (p.path == a && p.name == b) = true := by rw [h1, h2]; rfl
 try rw [h2]
 rw [ptR_at hall hp ht]
 refine gom ?_
 refine WC.rt ?_
 exact QF.p2 (.inl rfl) rfl (.tmp rfl) (.tmp rfl) (⟨rfl, rfl, rfl⟩)
end
end
section
open Go.MapKept
attribute [local irreducible] Tryz.prog
noncomputable def outA (w : Wd) (k : Nat) : Int × Int := match w.procs[k]? with | some p => procOut w [] p | none => (0, 0)
noncomputable def allA (w : Wd) : Int × Int × Int :=
 match (List.range w.procs.length).find? (fun k => (outA w k).2 != 0) with
 | some k => ((k : Int), (outA w k).1, (outA w k).2)
 | none => (0, 0, 0)
structure AK where
 k : Nat
 G : Gh
 es : Array MapEntry
 ck : Nat
 pm : List (ByteArray × Value)
def okA (w : Wd) (k : Nat) : Prop := ∀ j, j < k → (outA w j).2 = 0
end
section
def keyT (x : Pt) : Ky := (x.path, x.name)
def ptOk (prs : List Pr) (seen : List Ky) (x : Pt) : Bool :=
 decide (0 ≤ x.proc) && (decide (x.proc < (prs.length : Int)) && (fileR x.path && (!decide (keyT x ∈ seen) && (match prs[x.proc.toNat]? with | some q => q.exp && (q.name == x.name) | none => false))))
def ptsOkR (prs : List Pr) (pts : List Pt) : Bool := (List.range pts.length).all fun i => match pts[i]? with
 | some x => ptOk prs ((pts.take i).map keyT) x
 | none => true
def progR (cs : List V) (prs : List Pr) (pts : List Pt) : Bool := cs.all valueR && (decide ((cs.length : Int) ≤ 65536) && (decide ((prs.length : Int) ≤ 4096) && ptsOkR prs pts))
theorem ptsO_in : ∀ (ps : List Pr) (n : Nat) {path : ByteArray} {x : Pt}, x ∈ ptsO path ps n → ∃ j p, ps[j]? = some p ∧ p.exp = true ∧ x = ⟨path, p.name, ((n + j : Nat) : Int)⟩
 | [], n, path, x, h => by simp [ptsO] at h
 | a :: r, n, path, x, h => by
  unfold ptsO at h
  have ih : x ∈ ptsO path r (n + 1) → ∃ j p, (a :: r)[j]? = some p ∧ p.exp = true ∧ x = ⟨path, p.name, ((n + j : Nat) : Int)⟩ := fun h => by
   obtain ⟨j, p, h1, h2, h3⟩ := ptsO_in r (n + 1) h
   exact ⟨j + 1, p, by simpa using h1, h2, by rw [h3, show n + 1 + j = n + (j + 1) by omega]⟩
  split at h
  ·rename_i he
   rcases List.mem_cons.1 h with rfl | h
   ·exact ⟨0, a, rfl, he, rfl⟩
   ·exact ih h
  ·exact ih h
theorem ptsO_mem : ∀ (ps : List Pr) (n : Nat) {path : ByteArray} {j : Nat} {p : Pr}, ps[j]? = some p → p.exp = true → (⟨path, p.name, ((n + j : Nat) : Int)⟩ : Pt) ∈ ptsO path ps n
 | [], n, path, j, p, h, _ => by simp at h
 | a :: r, n, path, 0, p, h, he => by
  simp at h; subst h
  unfold ptsO
  rw [if_pos he]
  exact List.mem_cons_self
 | a :: r, n, path, j + 1, p, h, he => by
  have ih := ptsO_mem r (n + 1) (path := path) (j := j) (by simpa using h) he
  rw [show n + 1 + j = n + (j + 1) by omega] at ih
  unfold ptsO
  split
  ·exact List.mem_cons_of_mem _ ih
  ·exact ih
theorem ptsO_keys (path : ByteArray) : ∀ (ps : List Pr) (n : Nat), ((ptsO path ps n).map keyT).Sublist (ps.map fun p => (path, p.name))
 | [], n => by simp [ptsO]
 | a :: r, n => by
  unfold ptsO
  split
  ·exact (ptsO_keys path r (n + 1)).cons_cons _
  ·exact (ptsO_keys path r (n + 1)).cons _
theorem joinT_in : ∀ (l : List Ob) (n : Nat) {x : Pt}, x ∈ joinT' l n → ∃ k j o p, l[k]? = some o ∧ o.procs[j]? = some p ∧ p.exp = true ∧ x = ⟨o.path, p.name, ((n + (sumP (l.take k) + j) : Nat) : Int)⟩
 | [], n, x, h => by simp [joinT'] at h
 | a :: r, n, x, h => by
  unfold joinT' at h
  rcases List.mem_append.1 h with h | h
  ·obtain ⟨j, p, h1, h2, h3⟩ := ptsO_in _ _ h
   exact ⟨0, j, a, p, rfl, h1, h2, by rw [h3, List.take_zero, show sumP [] = 0 from rfl, Nat.zero_add]⟩
  ·obtain ⟨k, j, o, p, h1, h2, h3, h4⟩ := joinT_in r _ h
   exact ⟨k + 1, j, o, p, by simpa using h1, h2, h3, by rw [h4, List.take_succ_cons, sumP_cons]; congr 2; omega⟩
theorem joinT_mem : ∀ (l : List Ob) (n : Nat) {k j : Nat} {o : Ob} {p : Pr}, l[k]? = some o → o.procs[j]? = some p → p.exp = true → (⟨o.path, p.name, ((n + (sumP (l.take k) + j) : Nat) : Int)⟩ : Pt) ∈ joinT' l n
 | [], n, k, j, o, p, h, _, _ => by simp at h
 | a :: r, n, 0, j, o, p, h, hj, he => by
  simp at h; subst h
  have := ptsO_mem a.procs n (path := a.path) hj he
  unfold joinT'
  rw [List.take_zero, show sumP [] = 0 from rfl, Nat.zero_add]
  exact List.mem_append_left _ this
 | a :: r, n, k + 1, j, o, p, h, hj, he => by
  have ih := joinT_mem r (n + a.procs.length) (k := k) (by simpa using h) hj he
  unfold joinT'
  rw [List.take_succ_cons, sumP_cons, show n + (a.procs.length + sumP (r.take k) + j) = n + a.procs.length + (sumP (r.take k) + j) by omega]
  exact List.mem_append_right _ ih
theorem joinT_keys : ∀ (l : List Ob) (n : Nat), ((joinT' l n).map keyT).Sublist ((allPr l).map keyP)
 | [], n => by simp [joinT', allPr]
 | a :: r, n => by
  unfold joinT' allPr
  rw [List.map_append, List.flatMap_cons, List.map_append, List.map_map]
  exact (ptsO_keys a.path a.procs n).append (joinT_keys r _)
section
variable {l : List Ob} (hv : ∀ o ∈ l, (objAns o).2.2 = 0) (hp : (l.map (·.path)).Nodup)
include hv hp
end
end
theorem metL_of {l : List Ob} (hp : (l.map (·.path)).Nodup) {o : Ob} {p : Pr} {n : Nd} (ho : o ∈ l) (hpp : p ∈ o.procs) (e1 : o.path = n.path) (e2 : p.name = n.name) (e3 : p.exp = true) (e4 : p.result = n.result) (e5 : p.params = n.params) : metL l n = true := by
 have hf : l.find? (fun x => x.path == n.path) = some o := by
  cases hf : l.find? (fun x => x.path == n.path) with
  | none =>
   have := List.find?_eq_none.1 hf o ho
   rw [e1, bb_refl] at this
   exact absurd rfl this
  | some x =>
   have h0 := List.find?_some hf
   have h1 := bb_iff.1 h0
   exact congrArg some (path_one hp (List.mem_of_find?_eq_some hf) ho (h1.trans e1.symm))
 unfold metL expL
 dsimp only
 rw [hf]
 exact List.any_eq_true.2 ⟨p, List.mem_filter.2 ⟨hpp, by rw [e3, e2, bb_refl]; rfl⟩, by unfold fitN; rw [e4, e5]; simp⟩
theorem metL_inc {l l' : List Ob} (hp' : (l'.map (·.path)).Nodup) (inc : ∀ o ∈ l, o ∈ l') {n : Nd} (h : metL l n = true) : metL l' n = true := by
 obtain ⟨k, j, o, p, hk, hj, h1, h2, h3, h4, h5⟩ := met_at h
 exact metL_of hp' (inc o (List.mem_of_getElem? hk)) (List.mem_of_getElem? hj) h1 h2 h3 h4 h5
theorem missL_nil {l : List Ob} (h : ∀ n ∈ l.flatMap (·.needs), metL l n = true) : missL l = [] := by
 have key : ∀ (ns : List Nd) acc, (∀ n ∈ ns, metL l n = true) → ns.foldl (missStep l) acc = acc := by
  intro ns
  induction ns with
  | nil => intro acc _; rfl
  | cons a r ih =>
   intro acc h
   rw [List.foldl_cons, show missStep l acc a = acc by unfold missStep; rw [h a List.mem_cons_self]; rfl]
   exact ih acc fun n hn => h n (List.mem_cons_of_mem _ hn)
 exact key _ _ h
theorem good_more {l l' : List Ob} (g : Good l) (only : ∀ o ∈ l', o ∈ l ∨ ((objAns o).2.2 = 0 ∧ o.needs = [])) (inc : ∀ o ∈ l, o ∈ l') (hp' : (l'.map (·.path)).Nodup) : Good l' :=
 ⟨fun o ho => (only o ho).elim (g.hv o) (·.1), hp', missL_nil fun n hn => by
  obtain ⟨o, ho, hno⟩ := List.mem_flatMap.1 hn
  rcases only o ho with h | h
  ·exact metL_inc hp' inc (foldl_met _ g.hm n (List.mem_flatMap.2 ⟨o, h, hno⟩))
  ·rw [h.2] at hno; cases hno⟩
theorem sumP_app (a b : List Ob) : sumP (a ++ b) = sumP a + sumP b := by unfold sumP; rw [List.map_append, List.sum_append]
theorem sumC_app (a b : List Ob) : sumC (a ++ b) = sumC a + sumC b := by unfold sumC; rw [List.map_append, List.sum_append]
theorem linkE_good {l : List Ob} (g : Good l) : linkE l = if 4096 < sumP l ∨ 65536 < sumC l then 53 else 0 := by
 unfold linkE
 rw [if_neg (by simpa using errL_zero.2 g.hv), if_neg (by simpa using g.hp), if_neg (by simpa using g.hm)]
def turned (l : List Ob) (k : Nat) : List Ob := l.drop k ++ l.take k
theorem turned_mem {l : List Ob} {k : Nat} {o : Ob} : o ∈ turned l k ↔ o ∈ l := by
 unfold turned
 rw [List.mem_append, or_comm, ← List.mem_append, List.take_append_drop]
theorem turned_perm (l : List Ob) (k : Nat) : (turned l k).Perm l := by
 have h : (turned l k).Perm (l.take k ++ l.drop k) := List.perm_append_comm
 rwa [List.take_append_drop] at h
theorem turned_good {l : List Ob} (g : Good l) (k : Nat) : Good (turned l k) :=
 good_more g (fun o ho => .inl (turned_mem.1 ho)) (fun o ho => turned_mem.2 ho) (((turned_perm l k).map _).nodup_iff.2 g.hp)
theorem turned_sumP (l : List Ob) (k : Nat) : sumP (turned l k) = sumP l := by
 have h : sumP l = sumP (l.take k ++ l.drop k) := by rw [List.take_append_drop]
 rw [h]
 unfold turned
 rw [sumP_app, sumP_app]; omega
theorem turned_sumC (l : List Ob) (k : Nat) : sumC (turned l k) = sumC l := by
 have h : sumC l = sumC (l.take k ++ l.drop k) := by rw [List.take_append_drop]
 rw [h]
 unfold turned
 rw [sumC_app, sumC_app]; omega
theorem turned_link {l : List Ob} (h : linkE l = 0) (k : Nat) : linkE (turned l k) = 0 := by
 obtain ⟨hv, hp, hm, h1, h2⟩ := linkE_zero h
 rw [linkE_good (turned_good ⟨hv, hp, hm⟩ k), turned_sumP, turned_sumC, if_neg (by omega)]
theorem more_good {l : List Ob} (g : Good l) {x : Ob} (hx : (objAns x).2.2 = 0) (hn : x.needs = []) (hp : ∀ o ∈ l, o.path ≠ x.path) : Good (l ++ [x]) := by
 refine good_more g (fun o ho => ?_) (fun o ho => List.mem_append_left _ ho) ?_
 ·rcases List.mem_append.1 ho with h | h
  ·exact .inl h
  ·obtain rfl := List.mem_singleton.1 h; exact .inr ⟨hx, hn⟩
 ·rw [List.map_append, List.nodup_append]
  refine ⟨g.hp, by simp, fun a ha b hb e => ?_⟩
  obtain ⟨o, ho, rfl⟩ := List.mem_map.1 ha
  obtain rfl : b = x.path := by simpa using hb
  exact hp o ho e
theorem point_rel {l l' : List Ob} (g : Good l) (g' : Good l') (inc : ∀ o ∈ l, o ∈ l') {x : Pt} (hx : x ∈ joinT' l 0) : ∃ n n' : Nat, ptR (joinT' l 0) x.path x.name = ((n : Int), 0) ∧ ptR (joinT' l' 0) x.path x.name = ((n' : Int), 0) ∧ relN l l' n n' := by
 obtain ⟨k, j, o, p, hk, hj, he, rfl⟩ := joinT_in l 0 hx
 dsimp only
 obtain ⟨k2, hk2⟩ := List.mem_iff_getElem?.1 (inc o (List.mem_of_getElem? hk))
 have hx2 := joinT_mem l' 0 hk2 hj he
 cases hf : (joinT' l 0).find? (fun y => y.path == o.path && y.name == p.name) with
 | none => have := List.find?_eq_none.1 hf _ hx; simp [bb_refl] at this
 | some y =>
 cases hf' : (joinT' l' 0).find? (fun y => y.path == o.path && y.name == p.name) with
 | none => have := List.find?_eq_none.1 hf' _ hx2; simp [bb_refl] at this
 | some z =>
 obtain ⟨k3, j3, o3, p3, a1, a2, a3, rfl⟩ := joinT_in l 0 (List.mem_of_find?_eq_some hf)
 obtain ⟨k4, j4, o4, p4, b1, b2, b3, rfl⟩ := joinT_in l' 0 (List.mem_of_find?_eq_some hf')
 have h3 := List.find?_some hf
 have h4 := List.find?_some hf'
 rw [Bool.and_eq_true] at h3 h4
 have e3 := bb_iff.1 h3.1
 have e4 := bb_iff.1 h4.1
 have n3 := bb_iff.1 h3.2
 have n4 := bb_iff.1 h4.2
 dsimp only at e3 e4 n3 n4
 obtain rfl : o3 = o4 := path_one g'.hp (inc o3 (List.mem_of_getElem? a1)) (List.mem_of_getElem? b1) (e3.trans e4.symm)
 obtain rfl : j3 = j4 := name_one (g'.hv o3 (List.mem_of_getElem? b1)) a2 b2 (n3.trans n4.symm)
 refine ⟨_, _, by unfold ptR; rw [hf], by unfold ptR; rw [hf'], k3, j3, o3, p3, k4, a1, a2, b1, by omega, by omega⟩
theorem run_same {l l' : List Ob} (g : Good l) (g' : Good l') (inc : ∀ o ∈ l, o ∈ l') {x : Pt} (hx : x ∈ joinT' l 0) : ∃ n n' : Nat, ptR (joinT' l 0) x.path x.name = ((n : Int), 0) ∧ ptR (joinT' l' 0) x.path x.name = ((n' : Int), 0) ∧ ∀ fuel args, runR (pgL l) n fuel args = runR (pgL l') n' fuel args := by
 obtain ⟨n, n', h1, h2, h3⟩ := point_rel g g' inc hx
 exact ⟨n, n', h1, h2, fun fuel args => runR_rel g g' inc (Int.natCast_nonneg n) (Int.natCast_nonneg n') (by rw [Int.toNat_natCast, Int.toNat_natCast]; exact h3) fuel args⟩
theorem runR_steps {pg : Pg} {n fuel : Int} {args : List V} : 0 ≤ (runR pg n fuel args).steps := by
 unfold runR
 split
 ·simp [Oc0]
 ·dsimp only
  split <;> exact Int.natCast_nonneg _
section
section
variable {L : List (Nat × Value)} {d : Option Tmp} {ty : TypeId} {pos : String} {af : Array Edge} {gu : Option (Nat × Bool)}
theorem Gp.neV {x y : Operand} {t' : TypeId} {u v : V} (hx : ev L x = some (.agg #[.int .i64 u.t, .int .i64 u.i, .bool u.b, .string u.s])) (hy : ev L y = some (.agg #[.int .i64 v.t, .int .i64 v.i, .bool v.b, .string v.s])) :
  Gp Tryz.prog L ⟨d, .binOp .neq 52 x y t', ty, pos, af, gu⟩ (.bool (!decide (u = v))) := fun a st w => by
 have h1 : Tryz.prog.eqGuardType Tryz.prog.depth 52 = false := by kernel_rfl
 have h2 : Tryz.prog.underlying 52 = some (.struct (Tryz.prog.fieldsOf 52)) := by kernel_rfl
 have h3 : Tryz.prog.stoodInHeld 52 = false := by kernel_rfl
 have key : (Op.eqFields 9999 #[.int .i64 u.t, .int .i64 u.i, .bool u.b, .string u.s] #[.int .i64 v.t, .int .i64 v.i, .bool v.b, .string v.s] (Tryz.prog.fieldsOf 52).toList).run Tryz.prog w = .ok (decide (u = v)) w := by
  have a0 := fun w => (inferInstance : Agg Tryz.prog 44 false).h w
  have a1 := fun w => (inferInstance : Agg Tryz.prog 2 false).h w
  have a2 := fun w => (inferInstance : Agg Tryz.prog 4 false).h w
  have a3 := fun w => (inferInstance : Agg Tryz.prog 9 false).h w
  have u0 : Tryz.prog.underlying 44 = some (.int .i64) := Und.h
  have u1 : Tryz.prog.underlying 2 = some (.int .i64) := Und.h
  have u2 : Tryz.prog.underlying 4 = some .bool := Und.h
  have u3 : Tryz.prog.underlying 9 = some .string := Und.h
  have e : decide (u = v) = (u.t == v.t && (u.i == v.i && (u.b == v.b && (u.s.toList == v.s.toList)))) := by
   rw [← beq_toListBytes, bytes_beq]
   obtain ⟨t, i, b, s⟩ := u
   obtain ⟨t', i', b', s'⟩ := v
   rw [Bool.eq_iff_iff]
   simp
  rw [e]
  simp only [Program.fieldsOf, Tryz.underlying52]
  simp only [Op.eqFields, part, Sem.run_bind, a0, a1, a2, a3, Result.andThen_ok, Sem.run_ite]
  simp [run_equalIn_int _ _ _ _ _ _ _ u0, run_equalIn_int _ _ _ _ _ _ _ u1, run_equalIn_bool' _ _ _ _ _ u2, run_equalIn_string _ _ _ _ _ u3]
  by_cases q0 : u.t = v.t <;> by_cases q1 : u.i = v.i <;> by_cases q2 : u.b = v.b <;> by_cases q3 : u.s.toList = v.s.toList <;> simp [q0, q1, q2, q3]
 simp only [execOp, Sem.run_bind, st.eval hx, st.eval hy, run_eqGuard_agg w .neq _ x y _ _ h1, Result.andThen_ok, run_neq_struct, run_equalIn_agg w 9999 _ _ _ h2 h3, key]
 rfl
end
attribute [local irreducible] Tryz.prog
theorem samevals_fn (G : Gh) (H : List Own) (A B : Option Addr) (ca cb : Nat) (la lb : List V) (ha : Rds G H A (vflat la)) (hb : Rds G H B (vflat lb)) (hal : la.length ≤ 1000000000000) :
  Fn Tryz.prog 51 #[.slice A la.length ca, .slice B lb.length cb] G H fun e G' H' => e = .returned (.bool (decide (la = lb))) ∧ G = G' ∧ H' = H := by
 refine Fn.enter Tryz.func51 rfl rfl fun w0 => ?_
 refine WC.seq ?_
 refine WC.region ?_
 refine zw.assign ?_
 refine WL.nil ?_
 refine WK.un ?_
 refine WC.seq ?_
 refine WC.seq ?_
 refine WC.region ?_
 refine zw.move ?_
 refine zw.len ?_
 refine zw.move ?_
 refine zw.len ?_
 refine zw.ne ?_
 refine WL.nil ?_
 refine WK.un ?_
 refine WC.cond rfl (fun hc1 => ?_) (fun hc1 => ?_)
 ·-- yes
  have hne : la ≠ lb := by rintro rfl; simp at hc1
  refine WC.seq ?_
  refine WC.region ?_
  refine zw.assign ?_
  refine WL.nil ?_
  refine WK.un ?_
  refine WC.rt ?_
  exact QF.p1 (.inl rfl) rfl (.tmp rfl) (⟨by rw [decide_eq_false hne], rfl, rfl⟩)
 ·-- no
  have hlen : la.length = lb.length := by simp at hc1; omega
  refine WC.skip ?_
  refine WK.un ?_
  refine WC.seq ?_
  refine WC.seq ?_
  refine WC.region ?_
  refine zw.assign ?_
  refine WL.nil ?_
  refine WK.un ?_
  refine WC.block ?_  -- 0
  refine WC.loop (X := Nat) (fun i => [(5, .int .i64 i), (0, .slice A la.length ca), (1, .slice B lb.length cb)]) (fun _ => G) (fun _ => H) (fun i => la.length - i) (fun i => i ≤ la.length ∧ ∀ j, j < i → la[j]? = lb[j]?) 0 ⟨Nat.zero_le _, fun j h => by omega⟩ (by exact ⟨rfl, rfl, rfl, trivial⟩) rfl (List.Sublist.refl _) fun i hx => ?_
  obtain ⟨hi, hall⟩ := hx
  refine WC.seq ?_
  refine WC.seq ?_
  refine WC.region ?_
  refine zw.move ?_
  refine zw.move ?_
  refine zw.len ?_
  refine zw.lt ?_
  refine WL.nil ?_
  refine WK.un ?_
  refine WC.cond rfl (fun hc2 => ?_) (fun hc2 => ?_)
  ·-- yes
   have hlt : i < la.length := by have h := of_decide_eq_true hc2; omega
   obtain ⟨u, hu⟩ : ∃ u, la[i]? = some u := ⟨_, List.getElem?_eq_getElem hlt⟩
   obtain ⟨v, hv⟩ : ∃ v, lb[i]? = some v := ⟨_, List.getElem?_eq_getElem (by omega)⟩
   have none0 : ∀ {l : List V}, i < l.length → vflat l = [] → False := fun {l} h h0 => by
    have h := congrArg List.length h0
    rw [vflat_length] at h; simp only [List.length_nil] at h; omega
   rcases ha with h0 | ⟨b1, o1, rfl, hread1⟩
   ·exact (none0 hlt h0).elim
   rcases hb with h0 | ⟨b2, o2, rfl, hread2⟩
   ·exact (none0 (by omega) h0).elim
   refine WC.skip ?_
   refine WK.un ?_
   refine WC.seq ?_
   refine WC.block ?_  -- 1
   refine WC.seq ?_
   refine WC.draw mixed ?_
   refine za.move 0 ?_
   refine za.move 1 ?_
   refine za.ix 2 ?_
   refine WA.vv 3 rfl (Gv.loadRN rfl hread1 (by repeat (first | exact List.Sublist.refl _ | exact List.nil_sublist _ | apply List.Sublist.cons)) (vflat_elem la i u hu) rfl) ?_
   refine za.move 4 ?_
   refine za.move 5 ?_
   refine za.ix 6 ?_
   refine WA.vv 7 rfl (Gv.loadRN rfl hread2 (by repeat (first | exact List.Sublist.refl _ | exact List.nil_sublist _ | apply List.Sublist.cons)) (vflat_elem lb i v hv) rfl) ?_
   refine WA.pp 8 rfl (Gp.neV (u := u) (v := v) rfl rfl) ?_
   refine WA.done kr ?_
   refine WK.un ?_
   refine WC.cond rfl (fun hc3 => ?_) (fun hc3 => ?_)
   ·-- yes
    have hne : la ≠ lb := by
     rintro rfl
     rw [hu] at hv; cases hv; simp at hc3
    refine WC.seq ?_
    refine WC.region ?_
    refine zw.assign ?_
    refine WL.nil ?_
    refine WK.un ?_
    refine WC.rt ?_
    exact QF.p1 (.inl rfl) rfl (.tmp rfl) (⟨by rw [decide_eq_false hne], rfl, rfl⟩)
   ·-- no
    have huv : u = v := by simpa using hc3
    refine WC.skip ?_
    refine WK.un ?_
    refine WC.region ?_
    refine zw.move ?_
    refine WL.pp (Gp.add' rfl rfl (show IntKind.i64.wrap ((i : Int) + 1) = ((i + 1 : Nat) : Int) by rw [wrap_small (by omega) (by omega)]; omega)) ?_
    refine zw.assign ?_
    refine WL.nil ?_
    refine WK.un ?_
    exact WK.again (i + 1) (by omega) ⟨by omega, fun j hj => by
     rcases Nat.lt_or_ge j i with h | h
     ·exact hall j h
     ·obtain rfl : j = i := by omega
      rw [hu, hv, huv]⟩ (by exact ⟨rfl, rfl, rfl, trivial⟩) rfl (List.Sublist.refl _)
  ·-- no
   have hge : la.length ≤ i := by have h := of_decide_eq_false hc2; omega
   have heq : la = lb := List.ext_getElem? fun j => by
    rcases Nat.lt_or_ge j i with h | h
    ·exact hall j h
    ·rw [List.getElem?_eq_none (by omega), List.getElem?_eq_none (by omega)]
   refine WC.exit ?_
   refine WK.un ?_
   refine WC.seq ?_
   refine WC.region ?_
   refine zw.assign ?_
   refine WL.nil ?_
   refine WK.un ?_
   refine WC.rt ?_
   exact QF.p1 (.inl rfl) rfl (.tmp rfl) (⟨by rw [decide_eq_true heq], rfl, rfl⟩)
def sameO (o p : Oc) : Bool := decide (o.en = p.en ∧ o.val = p.val ∧ o.steps = p.steps ∧ o.out = p.out)
theorem sameO_refl (o : Oc) : sameO o o = true := by simp [sameO]
theorem same_fnQ (G : Gh) (H : List Own) (A B : Option Addr) (ca cb : Nat) (o p : Oc) (ha : Rds G H A (vflat o.out)) (hb : Rds G H B (vflat p.out)) (hal : o.out.length ≤ 1000000000000) :
  Fn Tryz.prog 22 #[ocV o A ca, ocV p B cb] G H fun e G' H' => e = .returned (.bool (sameO o p)) ∧ G = G' ∧ H' = H := by
 refine Fn.enter Tryz.func22 rfl rfl fun w0 => ?_
 refine WC.seq ?_
 refine WC.region ?_
 refine WL.oo (OW.box rfl rfl fun b1 => ?_)
 refine WL.oo (OW.box rfl rfl fun b2 => ?_)
 refine zw.assign ?_
 refine WL.nil ?_
 refine WK.un ?_
 refine WC.seq ?_
 refine WC.region ?_
 refine zw.fa ?_
 refine zw.ld ?_
 refine zw.fa ?_
 refine zw.ld ?_
 by_cases h1 : o.en = p.en
 rotate_left
 ·
  refine WL.pp (Gp.eqI' rfl rfl (show (o.en == p.en) = false by simpa using h1)) ?_
  refine zw.move ?_
  refine zw.skip ?_
  refine zw.skip ?_
  refine zw.skip ?_
  refine zw.skip ?_
  refine zw.skip ?_
  refine zw.pick ?_
  refine zw.move ?_
  refine zw.skip ?_
  refine zw.skip ?_
  refine zw.skip ?_
  refine zw.skip ?_
  refine zw.skip ?_
  refine zw.pick ?_
  refine zw.move ?_
  refine zw.skip ?_
  refine zw.skip ?_
  refine zw.skip ?_
  refine zw.skip ?_
  refine zw.skip ?_
  refine zw.pick ?_
  refine zw.assign ?_
  refine WL.nil ?_
  refine WK.un ?_
  refine WC.rt ?_
  exact QF.p1 (.inl rfl) rfl (.tmp rfl) (⟨by rw [sameO, decide_eq_false (fun h => h1 h.1)], rfl, rfl⟩)
 refine WL.pp (Gp.eqI' rfl rfl (show (o.en == p.en) = true by simpa using h1)) ?_
 refine zw.move ?_
 refine zw.fa ?_
 refine WL.vv (Gv.loadN rfl atA rfl rfl) ?_
 refine zw.fa ?_
 refine WL.vv (Gv.loadN rfl atA rfl rfl) ?_
 refine WL.pp (Gp.eqV (u := o.val) (v := p.val) rfl rfl) ?_
 by_cases h2 : o.val = p.val
 rotate_left
 ·
  rw [decide_eq_false h2]
  refine zw.pick ?_
  refine zw.move ?_
  refine zw.skip ?_
  refine zw.skip ?_
  refine zw.skip ?_
  refine zw.skip ?_
  refine zw.skip ?_
  refine zw.pick ?_
  refine zw.move ?_
  refine zw.skip ?_
  refine zw.skip ?_
  refine zw.skip ?_
  refine zw.skip ?_
  refine zw.skip ?_
  refine zw.pick ?_
  refine zw.assign ?_
  refine WL.nil ?_
  refine WK.un ?_
  refine WC.rt ?_
  exact QF.p1 (.inl rfl) rfl (.tmp rfl) (⟨by rw [sameO, decide_eq_false (fun h => h2 h.2.1)], rfl, rfl⟩)
 rw [decide_eq_true h2]
 refine zw.pick ?_
 refine zw.move ?_
 refine zw.fa ?_
 refine zw.ld ?_
 refine zw.fa ?_
 refine zw.ld ?_
 by_cases h3 : o.steps = p.steps
 rotate_left
 ·
  refine WL.pp (Gp.eqI' rfl rfl (show (o.steps == p.steps) = false by simpa using h3)) ?_
  refine zw.pick ?_
  refine zw.move ?_
  refine zw.skip ?_
  refine zw.skip ?_
  refine zw.skip ?_
  refine zw.skip ?_
  refine zw.skip ?_
  refine zw.pick ?_
  refine zw.assign ?_
  refine WL.nil ?_
  refine WK.un ?_
  refine WC.rt ?_
  exact QF.p1 (.inl rfl) rfl (.tmp rfl) (⟨by rw [sameO, decide_eq_false (fun h => h3 h.2.2.1)], rfl, rfl⟩)
 refine WL.pp (Gp.eqI' rfl rfl (show (o.steps == p.steps) = true by simpa using h3)) ?_
 refine zw.pick ?_
 refine zw.move ?_
 refine zw.fa ?_
 refine zw.ld ?_
 refine zw.fa ?_
 refine zw.ld ?_
 refine WL.oo (OW.callK rfl (samevals_fn G H A B ca cb o.out p.out ha hb hal) rfl fun v' G' H' h hg => ?_)
 obtain ⟨he, rfl, rfl⟩ := h
 cases he
 refine zw.pick ?_
 refine zw.assign ?_
 refine WL.nil ?_
 refine WK.un ?_
 refine WC.rt ?_
 exact QF.p1 (.inl rfl) rfl (.tmp rfl) (⟨by simp [sameO, h1, h2, h3], rfl, rfl⟩)
end
section
open Go.MapKept
theorem chunks_valsR : ∀ {xs : List V} {cs : List Value}, cs.length = xs.length * 4 → (∀ i x, xs[i]? = some x → (cs.drop (i * 4)).take 4 = vcells x) → cs = vflat xs
 | [], cs, hl, _ => by simpa [vflat] using hl
 | x :: xs, cs, hl, h => by
  have h0 := h 0 x rfl
  simp only [Nat.zero_mul, List.drop_zero] at h0
  have ih := @chunks_valsR xs (cs.drop 4) (by simp at hl ⊢; omega) fun i y hy => by
   have := h (i + 1) y (by simpa using hy)
   rw [List.drop_drop, show 4 + i * 4 = (i + 1) * 4 by omega]
   exact this
  rw [← List.take_append_drop 4 cs, h0, ih]
  simp [vflat]
theorem Sl.valsR {G : Gh} {H : List Own} {A : Option Addr} {xs : List V} (h : Sl Kd.val G A xs) : Rds G H A (vflat xs) := by
 obtain ⟨cs, h1, h2, _, h3⟩ := Sl.rds (H := H) (by decide) h
 rw [← chunks_valsR h2 h3]
 exact h1
theorem runR_outR {pg : Pg} {n fuel : Int} {args : List V} : (runR pg n fuel args).out.length ≤ 4096 := by
 unfold runR
 split
 ·simp [Oc0]
 ·rename_i q hq
  obtain ⟨hI, hL⟩ := startS_inv hq
  have := (Inv.run fuel.toNat _ hI hL).1.out.1
  dsimp only
  split <;> exact this
attribute [local irreducible] Tryz.prog runR ptR
abbrev ocC (o : Oc) (A : Option Addr) (cap : Nat) : Array Value := #[.int .i64 o.en, .int .i64 o.val.t, .int .i64 o.val.i, .bool o.val.b, .string o.val.s, .slice A o.out.length cap, .int .i64 o.steps]
theorem RunF_fn (G : Gh) (pg : Pg) (CA PA : Option Addr) (cc pc : Nat) (qv : Value) (hC : Sl Kd.val G CA pg.consts) (hP : Sl Kd.prc G PA pg.procs) (hB : PgB pg) (n fuel : Int) (hfu : fuel ≤ 1000000) (AA : Option Addr) (ac : Nat) (args : List V) (hr : Sl Kd.val G AA args) (hal : args.length ≤ 1048576) :
  Fn Tryz.prog 44 #[.agg #[.slice CA pg.consts.length cc, .slice PA pg.procs.length pc, qv], .int .i64 n, .int .i64 fuel, .slice AA args.length ac] G []
   fun e G' H' => ∃ A' cap' x', e = .returned (.agg (ocC (runR pg n fuel args) A' cap')) ∧ G.le G' ∧ VVec A' cap' (runR pg n fuel args).out x' ∧ H' = [x'] :=
 Fn.mono (Run_fn G pg CA PA cc pc qv hC hP hB n fuel hfu AA ac args [] hr.valsR (by omega)) fun e G' H' h => h
set_option maxHeartbeats 1000000 in
theorem runs_fn (G : Gh) (cs : List V) (prs : List Pr) (pts : List Pt) (CA PA QA : Option Addr) (cc pc qc : Nat) (hC : Sl Kd.val G CA cs) (hP : Sl Kd.prc G PA prs) (hQ : Sl Kd.pnt G QA pts) (hB : PgB ⟨cs, prs⟩) (htl : pts.length ≤ 100000000000000)
  (a b : ByteArray) (n : Nat) (hpt : ptR pts a b = ((n : Int), 0)) (xp : Int) (f : Nat) (hf : f < 65536) (AA : Option Addr) (ac : Nat) (args : List V) (hr : Sl Kd.val G AA args) (hal : args.length ≤ 1048576) :
  Fn Tryz.prog 21 #[.agg #[.slice CA cs.length cc, .slice PA prs.length pc, .slice QA pts.length qc], .string a, .string b, .agg #[.int .u8 xp, .slice AA args.length ac, .int .u16 (f : Int)]] G []
   fun e G' H' => ∃ A' cap', e = .returned (.agg (ocC (runR ⟨cs, prs⟩ n ((f % 3000 : Nat) : Int) args) A' cap')) ∧ G.le G' ∧ Rds G' [] A' (vflat (runR ⟨cs, prs⟩ n ((f % 3000 : Nat) : Int) args).out) ∧ H' = [] := by
 refine Fn.enter Tryz.func21 rfl rfl fun w0 => ?_
 refine WC.seq ?_
 refine WC.region ?_
 refine WL.oo (OW.box rfl rfl fun b4 => ?_)
 refine WL.oo (OW.box rfl rfl fun b7 => ?_)
 refine WL.oo (OW.alloc rfl fun b8 => ?_)
 refine gom ?_
 refine WL.oo (OW.callK rfl (Point_fn G QA pts qc hQ htl a b CA PA cs.length cc prs.length pc) rfl fun v' G' H' h hg => ?_)
 obtain ⟨he, rfl, rfl⟩ := h
 cases he
 rw [hpt]
 have e1 : ((0 : Int) != 0) = false := rfl
 refine gom ?_
 refine WL.pp (Gp.convTo (r := (f : Int)) rfl (wrapI (by omega) (by omega))) ?_
 refine WL.pp (Gp.remTo (r := ((f % 3000 : Nat) : Int)) rfl rfl (by decide) (by rw [Int.tmod_eq_emod_of_nonneg (by omega)]; omega)) ?_
 refine gom ?_
 refine WL.oo (OW.callK rfl (RunF_fn G ⟨cs, prs⟩ CA PA cc pc (.slice QA pts.length qc) hC hP hB n ((f % 3000 : Nat) : Int) (by omega) AA ac args hr hal) rfl fun v' G' H' h hg => ?_)
 obtain ⟨A', cap', x', he, hg1, hv, rfl⟩ := h
 cases he
 refine WL.frozenVec hv .here fun G2 hg2 hz => ?_
 have hrd : Rds G2 [] A' (vflat (runR ⟨cs, prs⟩ n ((f % 3000 : Nat) : Int) args).out) := by
  rcases hz with h | ⟨b, rfl, hc⟩
  ·exact .inl h
  ·exact Rds.cs hc
 refine gom ?_
 refine WC.rt ?_
 exact QF.p1 (.inl rfl) rfl (.cell rfl inferInstance inferInstance atA rfl rfl) (⟨A', cap', rfl, Gh.le_trans hg1 hg2, hrd, rfl⟩)
end
section
open Go.MapKept
def kpV (k : Ky) : Value := .agg #[.string k.1, .string k.2, .int .i64 0]
def OneM (m : List (Ky × Value)) (seen : List Ky) : Prop := ∀ k, (getA m k).getD (.int .i64 0) = .int .i64 (if k ∈ seen then 1 else 0)
end
section
open Go.MapKept
attribute [local irreducible] Tryz.prog ptsOkR fileR valueR
structure PK where
 i : Nat
 G : Gh
 es : Array MapEntry
 ck : Nat
 m : List (Ky × Value)
abbrev pgB (b : Nat) (CA PA QA : Option Addr) (c cc p pc q qc : Nat) : Own := .blk b (.cells #[.slice CA c cc, .slice PA p pc, .slice QA q qc] 27 (0, 0))
end
section
open Go.MapKept
attribute [local irreducible] Tryz.prog progR allA linkE allPr joinP joinT' sumP sumC objAns ptR
noncomputable def progAns (cs : List V) (prs : List Pr) (pts : List Pt) : Int × Int × Int := if progR cs prs pts then allA ⟨cs, [], prs⟩ else (0, 0, 185)
structure GLim (cs : List V) (prs : List Pr) (pts : List Pt) : Prop where
 cl : cs.length ≤ 100000000000000
 pl : prs.length ≤ 100000000000000
 tl : pts.length ≤ 100000000000000
 ts : ∀ x ∈ pts, x.path.size ≤ 4000000000
 pr : ∀ q ∈ prs, q.params.length ≤ 100000000000000 ∧ q.code.length ≤ 100000000000000 ∧ q.name.size ≤ 100000000000000
theorem linkBad_fn (G : Gh) (hE : Env G) (A : Option Addr) (cap : Nat) (l : List Ob) (hl : Sl Kd.ob G A l) (hL : LLim l) (hz : linkE l ≠ 0) :
  Fn Tryz.prog 12 #[.slice A l.length cap] G [] fun e G' H' => e = .returned (.tuple #[.agg #[.slice none 0 0, .slice none 0 0, .slice none 0 0], .int .i64 (linkE l)]) ∧ G.le G' ∧ H' = [] := by
 refine Fn.mono (Link_fn G hE A cap l hl hL) fun e G' H' h => ?_
 obtain ⟨hg, ⟨_, he, rfl⟩ | ⟨hz', _⟩⟩ := h
 ·exact ⟨he, hg, rfl⟩
 ·exact absurd hz' hz
theorem linkGood_fn (G : Gh) (hE : Env G) (A : Option Addr) (cap : Nat) (l : List Ob) (hl : Sl Kd.ob G A l) (hL : LLim l) (hz : linkE l = 0) :
  Fn Tryz.prog 12 #[.slice A l.length cap] G [] fun e G' H' => ∃ CA cc PA pc QA qc x1 x2 x3, e = .returned (.tuple #[.agg #[.slice CA (l.flatMap (·.consts)).length cc, .slice PA (joinP (allPr l) l 0 0).length pc, .slice QA (joinT' l 0).length qc], .int .i64 0]) ∧ G.le G' ∧
   KVec Kd.val 52 G' CA cc (l.flatMap (·.consts)) x1 ∧ KVec Kd.prc 47 G' PA pc (joinP (allPr l) l 0 0) x2 ∧ KVec Kd.pnt 54 G' QA qc (joinT' l 0) x3 ∧ H' = [x1, x2, x3] := by
 refine Fn.mono (Link_fn G hE A cap l hl hL) fun e G' H' h => ?_
 obtain ⟨hg, ⟨hz', _⟩ | ⟨_, LA, lc, MA, mc, QA, qc, y1, y2, y3, he, hk1, hk2, hk3, rfl⟩⟩ := h
 ·exact absurd hz hz'
 ·exact ⟨LA, lc, MA, mc, QA, qc, y1, y2, y3, he, hg, hk1, hk2, hk3, rfl⟩
section
attribute [local semireducible] joinP joinT' sumP allPr
theorem joinP_in (L : List (ByteArray × Pr)) : ∀ (l : List Ob) (cs ps : Nat) {q : Pr}, q ∈ joinP L l cs ps → ∃ o ∈ l, ∃ p ∈ o.procs, q.params = p.params ∧ q.code.length = p.code.length ∧ q.name = p.name
 | [], cs, ps, q, h => by simp [joinP] at h
 | a :: r, cs, ps, q, h => by
  unfold joinP at h
  rcases List.mem_append.1 h with h | h
  ·obtain ⟨p, hp, rfl⟩ := List.mem_map.1 h
   exact ⟨a, List.mem_cons_self, p, hp, rfl, by simp [moveP], rfl⟩
  ·obtain ⟨o, ho, p, hp, h1⟩ := joinP_in L r _ _ h
   exact ⟨o, List.mem_cons_of_mem _ ho, p, hp, h1⟩
end
end
section
open Go.MapKept
theorem Stp.freeze {S : Nat → Nat → Prop} {G0 G : Gh} {w0 w : World} {H : List Own} (hs : Sat G H w) (stp : Stp S G0 w0 G H w) {j b : Nat} {c : Array Value} {T : TypeId} (hj : At H j (.blk b (.cells c T (0, 0)))) : Stp S G0 w0 (G.add b c) (H.eraseIdx j) w := by
 refine ⟨stp.size, stp.keep, Gh.le_trans stp.gle (hs.frozen hj).1, fun b' o v e => ?_, fun x hx => stp.own x (List.mem_of_mem_eraseIdx hx), stp.weq⟩
 unfold Gh.add at e
 split at e
 ·rename_i hb
  subst hb
  exact .inr (stp.own _ (List.mem_of_getElem? hj.get) b' o rfl)
 ·exact stp.gnew b' o v e
theorem Stp.less {S : Nat → Nat → Prop} {G0 G : Gh} {w0 w : World} {H H' : List Own} (stp : Stp S G0 w0 G H w) (h : H'.Sublist H) : Stp S G0 w0 G H' w :=
 ⟨stp.size, stp.keep, stp.gle, stp.gnew, fun x hx => stp.own x (h.subset hx), stp.weq⟩
theorem Fn.freezeK {α : Type} {k : Kd α} (hn : 0 < k.n) {P : Program} {f : FuncId} {vs : Array Value} {G : Gh} {H : List Own} {R R' : Ending → Gh → List Own → Prop} (h : Fn P f vs G H R)
  (hr : ∀ e G' H', R e G' H' → ∃ T A cap l x j, KVec k T G' A cap l x ∧ At H' j x ∧ ∀ G'', G'.le G'' → Sl k G'' A l → R' e G'' (H'.eraseIdx j)) : Fn P f vs G H R' :=
 fun w hs hx => (h w hs hx).mono fun e w' ⟨G', H', r, s, st⟩ => by
  obtain ⟨T, A, cap, l, x, j, ⟨cs, ⟨hl, hv⟩, hK⟩, hj, hk⟩ := hr _ _ _ r
  rcases hv with ⟨h1, h2, h3, h4⟩ | ⟨b, c, rfl, rfl, h1, h2, rfl⟩
  ·refine ⟨G', _, hk G' (Gh.le_refl _) (hK.sl hn (.inl ?_)), s.sub (List.eraseIdx_sublist ..), st.less (List.eraseIdx_sublist ..)⟩
   rw [h2] at hl
   exact List.eq_nil_of_length_eq_zero (by simpa using hl)
  ·have hg := (s.frozen hj).1
   refine ⟨_, _, hk _ hg ((hK.mono hg).sl hn (.inr ⟨b, rfl, fun i v e => ?_⟩)), (s.frozen hj).2, Stp.freeze s st hj⟩
   rw [Nat.zero_add, Gh.add_at]
   rw [List.getElem?_take] at e
   split at e
   ·simpa using e
   ·cases e
noncomputable def csZ (l : List Ob) : List V := if linkE l = 0 then l.flatMap (·.consts) else []
noncomputable def prZ (l : List Ob) : List Pr := if linkE l = 0 then joinP (allPr l) l 0 0 else []
noncomputable def ptZ (l : List Ob) : List Pt := if linkE l = 0 then joinT' l 0 else []
attribute [local irreducible] Tryz.prog linkE allPr joinP joinT'
theorem linkZ_fn (G : Gh) (hE : Env G) (A : Option Addr) (cap : Nat) (l : List Ob) (hl : Sl Kd.ob G A l) (hL : LLim l) :
  Fn Tryz.prog 12 #[.slice A l.length cap] G [] fun e G' H' => ∃ CA cc PA pc QA qc, e = .returned (.tuple #[.agg #[.slice CA (csZ l).length cc, .slice PA (prZ l).length pc, .slice QA (ptZ l).length qc], .int .i64 (linkE l)]) ∧ G.le G' ∧
   Sl Kd.val G' CA (csZ l) ∧ Sl Kd.prc G' PA (prZ l) ∧ Sl Kd.pnt G' QA (ptZ l) ∧ H' = [] := by
 by_cases hz : linkE l = 0
 rotate_left
 ·refine Fn.mono (linkBad_fn G hE A cap l hl hL hz) fun e G' H' h => ?_
  obtain ⟨he, hg, hh⟩ := h
  rw [csZ, prZ, ptZ, if_neg hz, if_neg hz, if_neg hz]
  exact ⟨none, 0, none, 0, none, 0, he, hg, Sl.nil _ _ _, Sl.nil _ _ _, Sl.nil _ _ _, hh⟩
 rw [csZ, prZ, ptZ, if_pos hz, if_pos hz, if_pos hz, hz]
 refine Fn.freezeK (k := Kd.pnt) (R := fun e G' H' => ∃ CA cc PA pc QA qc x3, e = .returned (.tuple #[.agg #[.slice CA (l.flatMap (·.consts)).length cc, .slice PA (joinP (allPr l) l 0 0).length pc, .slice QA (joinT' l 0).length qc], .int .i64 0]) ∧ G.le G' ∧
   Sl Kd.val G' CA (l.flatMap (·.consts)) ∧ Sl Kd.prc G' PA (joinP (allPr l) l 0 0) ∧ KVec Kd.pnt 54 G' QA qc (joinT' l 0) x3 ∧ H' = [x3]) (by decide) ?_ fun e G' H' h => ?_
 rotate_left
 ·obtain ⟨CA, cc, PA, pc, QA, qc, x3, he, hg, h1, h2, h3, rfl⟩ := h
  exact ⟨_, _, _, _, x3, 0, h3, .here, fun G'' hg' h3' => ⟨CA, cc, PA, pc, QA, qc, he, Gh.le_trans hg hg', h1.mono hg', h2.mono hg', h3', rfl⟩⟩
 refine Fn.freezeK (k := Kd.prc) (R := fun e G' H' => ∃ CA cc PA pc QA qc x2 x3, e = .returned (.tuple #[.agg #[.slice CA (l.flatMap (·.consts)).length cc, .slice PA (joinP (allPr l) l 0 0).length pc, .slice QA (joinT' l 0).length qc], .int .i64 0]) ∧ G.le G' ∧
   Sl Kd.val G' CA (l.flatMap (·.consts)) ∧ KVec Kd.prc 47 G' PA pc (joinP (allPr l) l 0 0) x2 ∧ KVec Kd.pnt 54 G' QA qc (joinT' l 0) x3 ∧ H' = [x2, x3]) (by decide) ?_ fun e G' H' h => ?_
 rotate_left
 ·obtain ⟨CA, cc, PA, pc, QA, qc, x2, x3, he, hg, h1, h2, h3, rfl⟩ := h
  exact ⟨_, _, _, _, x2, 0, h2, .here, fun G'' hg' h2' => ⟨CA, cc, PA, pc, QA, qc, x3, he, Gh.le_trans hg hg', h1.mono hg', h2', h3.mono hg', rfl⟩⟩
 refine Fn.freezeK (k := Kd.val) (by decide) (linkGood_fn G hE A cap l hl hL hz) fun e G' H' h => ?_
 obtain ⟨CA, cc, PA, pc, QA, qc, x1, x2, x3, he, hg, h1, h2, h3, rfl⟩ := h
 exact ⟨_, _, _, _, x1, 0, h1, .here, fun G'' hg' h1' => ⟨CA, cc, PA, pc, QA, qc, x2, x3, he, Gh.le_trans hg hg', h1', h2.mono hg', h3.mono hg', rfl⟩⟩
end
section
open Go.RowKit Go.ChangeShapes Go.WideShapes Go.MapKept
theorem bulk_app {H : Type} (a b : List (DataW H)) : Rows.uptoBulkAll (a ++ b) = Rows.uptoBulkAll a + Rows.uptoBulkAll b := by
 induction a with
 | nil => simp [Rows.uptoBulkAll]
 | cons x r ih => simp only [List.cons_append, Rows.uptoBulkAll]; omega
theorem bulk_take {H : Type} {l : List (DataW H)} {i : Nat} {d : DataW H} (h : l[i]? = some d) : Rows.uptoBulkAll (l.take (i + 1)) = Rows.uptoBulkAll (l.take i) + Rows.uptoBulk d := by
 rw [take_snoc' h, bulk_app]; simp [Rows.uptoBulkAll]
theorem bulk_take_le {H : Type} (l : List (DataW H)) (i : Nat) : Rows.uptoBulkAll (l.take i) ≤ Rows.uptoBulkAll l := by
 have h := bulk_app (l.take i) (l.drop i)
 rw [List.take_append_drop] at h
 omega
theorem sum_mem {α : Type} {m : α → Nat} {l : List α} {x : α} (h : x ∈ l) : m x ≤ (l.map m).sum := by
 induction l with
 | nil => cases h
 | cons y r ih =>
  simp only [List.map_cons, List.sum_cons]
  rcases List.mem_cons.1 h with rfl | h
  ·omega
  ·have := ih h; omega
theorem sum_len {α : Type} {m : α → Nat} (l : List α) (h : ∀ x ∈ l, 1 ≤ m x) : l.length ≤ (l.map m).sum := by
 induction l with
 | nil => simp
 | cons y r ih =>
  have h1 := h y List.mem_cons_self
  have h2 := ih fun x hx => h x (List.mem_cons_of_mem _ hx)
  simp only [List.map_cons, List.sum_cons, List.length_cons]
  omega
theorem sum_le {α : Type} {f m : α → Nat} (l : List α) (h : ∀ x ∈ l, f x ≤ m x) : (l.map f).sum ≤ (l.map m).sum := by
 induction l with
 | nil => simp
 | cons y r ih =>
  have h1 := h y List.mem_cons_self
  have h2 := ih fun x hx => h x (List.mem_cons_of_mem _ hx)
  simp only [List.map_cons, List.sum_cons]
  omega
section
variable {H : Type} (enc : TypeId × Value → H) (P : Program) (w : World)
def OpensW (t : TypeId) {α : Type} (k : Kd α) (m : α → Nat) (B : α → Prop) : Prop :=
 ∀ fuel cs d ps, DataW.trod enc P w 0 (fun _ => true) true fuel t cs = some (d, ps) → Rows.uptoBulk d ≤ 1048576 → ∃ a, k.K (Gw w) a cs ∧ m a ≤ Rows.uptoBulk d ∧ B a
theorem OpensW.int {t : TypeId} {i : IntKind} (ht : P.underlying t = some (.int i)) : OpensW enc P w t (Kd.int i) (fun _ => 1) (fun n => (Lit.int i n).wf = true) :=
 fun fuel cs d ps e _ => let ⟨n, h1, _, h3⟩ := DataW.trod_int ht e; ⟨n, h1, bulk_one d, h3⟩
theorem OpensW.bool {t : TypeId} (ht : P.underlying t = some .bool) : OpensW enc P w t Kd.bool (fun _ => 1) (fun _ => True) :=
 fun fuel cs d ps e _ => let ⟨n, h1, _⟩ := DataW.trod_bool ht e; ⟨n, h1, bulk_one d, trivial⟩
theorem OpensW.str {t : TypeId} (ht : P.underlying t = some .string) : OpensW enc P w t Kd.str (fun s => s.size + 1) (fun _ => True) :=
 fun fuel cs d ps e hw => by
  obtain ⟨s, h1, h2, h3⟩ := DataW.trod_string ht e
  obtain ⟨rfl, rfl⟩ := Prod.mk.inj h2
  refine ⟨s, h1, ?_, trivial⟩
  simp only [Rows.uptoBulk, Array.length_toList]
  exact Nat.le_refl _
theorem OpensW.slice {t e : TypeId} {α : Type} {k : Kd α} {m : α → Nat} {B : α → Prop} (ht : P.underlying t = some (.slice e)) (hc : P.cellsOf e = k.n) (h0 : 0 < k.n) (h : OpensW enc P w e k m B) :
  OpensW enc P w t (Kd.slice k) (fun xs => (xs.map m).sum + 1) (fun xs => ∀ x ∈ xs, B x) := by
 intro fuel cs d ps hd hw
 rcases DataW.trod_slice ht hd with ⟨rfl, _⟩ | ⟨a, len, cap, elems, rest, n, _, rfl, hx, _, hl, _, hlen, hel, _, _⟩
 ·exact ⟨[], ⟨none, 0, rfl, Nat.le_refl _, Sl.nil _ _ _⟩, by simpa using bulk_one d, by simp⟩
 ·obtain ⟨rfl, rfl⟩ := Prod.mk.inj hx
  simp only [Rows.uptoBulk] at hw
  have hwe : ∀ (j : Nat) (d' : DataW H), (elems.map (·.1))[j]? = some d' → Rows.uptoBulk d' ≤ 1048576 := fun j d' hj => by
   have := bulk_part (List.mem_of_getElem? hj); omega
  have one : ∀ i, i < len → ∃ y cs' d', w.cells? 0 (a.add (i * P.cellsOf e)) (P.cellsOf e) = some cs' ∧ k.K (Gw w) y cs' ∧ (elems.map (·.1))[i]? = some d' ∧ m y ≤ Rows.uptoBulk d' ∧ B y := by
   intro i hi
   have hi' := hel i hi
   have he : i < elems.length := by omega
   cases hcs : w.cells? 0 (a.add (i * P.cellsOf e)) (P.cellsOf e) with
   | none =>
    rw [hcs, List.getElem?_eq_getElem he] at hi'
    cases hi'
   | some cs' =>
    rw [hcs, List.getElem?_eq_getElem he] at hi'
    simp only [Option.bind_some] at hi'
    have hd' : (elems.map (·.1))[i]? = some (elems[i]).1 := by rw [List.getElem?_map, List.getElem?_eq_getElem he]; rfl
    obtain ⟨y, h1, h2, h3⟩ := h n cs' _ _ hi' (hwe i _ hd')
    exact ⟨y, cs', _, rfl, h1, hd', h2, h3⟩
  have all : ∀ q, q ≤ len → ∃ xs : List α, xs.length = q ∧ (∀ x ∈ xs, B x) ∧ (xs.map m).sum ≤ Rows.uptoBulkAll ((elems.map (·.1)).take q) ∧ ∀ i x, xs[i]? = some x → ∃ cs', w.cells? 0 (a.add (i * P.cellsOf e)) (P.cellsOf e) = some cs' ∧ k.K (Gw w) x cs' := by
   intro q
   induction q with
   | zero => exact fun _ => ⟨[], rfl, by simp, by simp, by simp⟩
   | succ q ih =>
    intro hm
    obtain ⟨xs, e1, e2, e4, e3⟩ := ih (by omega)
    obtain ⟨y, cs', d', h1, h2, h3, h4, h5⟩ := one q (by omega)
    refine ⟨xs ++ [y], by simp [e1], fun x hx => ?_, ?_, fun i x hx => ?_⟩
    ·rcases List.mem_append.1 hx with hx | hx
     ·exact e2 x hx
     ·simp at hx; subst hx; exact h5
    ·rw [bulk_take h3, List.map_append, List.sum_append]
     simp only [List.map_cons, List.map_nil, List.sum_cons, List.sum_nil]
     omega
    ·rcases Nat.lt_or_ge i xs.length with hi | hi
     ·rw [List.getElem?_append_left hi] at hx; exact e3 i x hx
     ·have : i = q := by have := (List.getElem?_eq_some_iff.1 hx).1; simp at this; omega
      subst this
      rw [List.getElem?_append_right hi] at hx
      simp [e1] at hx
      subst hx
      exact ⟨cs', h1, h2⟩
  obtain ⟨xs, e1, e2, e4, e3⟩ := all len (Nat.le_refl _)
  have h5 := bulk_take_le (elems.map (·.1)) len
  refine ⟨xs, ⟨some a, cap, by rw [e1], by omega, fun i x hx => ?_⟩, by simp only [Rows.uptoBulk]; omega, e2⟩
  have hi := (List.getElem?_eq_some_iff.1 hx).1
  obtain ⟨cs0, h10, h20⟩ := e3 0 _ (List.getElem?_eq_getElem (by omega : 0 < xs.length))
  obtain ⟨h30, h40⟩ := cells_get w h10
  have hsp := cell_plain w (h40 0 _ (List.getElem?_eq_getElem (by rw [h30, hc]; exact h0)))
  obtain ⟨cs', h1, h2⟩ := e3 i x hx
  obtain ⟨h3, h4⟩ := cells_get w h1
  obtain ⟨ab, ao, asp⟩ := a
  obtain rfl : asp = none := by simpa [Addr.add] using hsp
  refine ⟨ab, ao, cs', rfl, h2, fun j v e => ?_⟩
  have h5 := h4 j v e
  rw [hc] at h5
  have e5 : ((⟨ab, ao, none⟩ : Addr).add (i * k.n)).add j = ⟨ab, ao + i * k.n + j, none⟩ := by
   unfold Addr.add
   split <;> split <;> simp_all
  rw [e5] at h5
  exact h5
theorem field_openW {t : TypeId} {fs : Array Field} {fuel : Nat} {cs : List Value} {d : DataW H} {ps : List MemPlace} (ht : P.underlying t = some (.struct fs)) (hd : DataW.trod enc P w 0 (fun _ => true) true fuel t cs = some (d, ps)) (hw : Rows.uptoBulk d ≤ 1048576) :
  cs.length = P.cellsOf t ∧ ∃ ds : List (DataW H), ds.length = fs.size ∧ Rows.uptoBulk d = Rows.uptoBulkAll ds + 1 ∧ ∀ (i : Nat) (f : Field), fs[i]? = some f → ∀ {t' o n : Nat}, f.type = t' → f.offset = o → P.cellsOf t' = n → ∀ {α : Type} {k : Kd α} {m : α → Nat} {B : α → Prop}, OpensW enc P w t' k m B → ∃ a, k.K (Gw w) a ((cs.drop o).take n) ∧ (∀ x, ds[i]? = some x → m a ≤ Rows.uptoBulk x) ∧ B a := by
 obtain ⟨xs, n, _, hx, hl, hn, hf⟩ := DataW.trod_struct ht hd
 obtain ⟨rfl, rfl⟩ := Prod.mk.inj hx
 refine ⟨hl, xs.map (·.1), by rw [List.length_map, hn], by simp only [Rows.uptoBulk], fun i f hi t' o n' e1 e2 e3 α k m B hO => ?_⟩
 subst e1 e2 e3
 have h1 := hf i f hi
 have hilt : i < xs.length := by rw [hn]; exact (Array.getElem?_eq_some_iff.1 hi).1
 rw [List.getElem?_eq_getElem hilt] at h1
 have hd' : (xs.map (·.1))[i]? = some (xs[i]).1 := by rw [List.getElem?_map, List.getElem?_eq_getElem hilt]; rfl
 simp only [Rows.uptoBulk] at hw
 obtain ⟨y, h2, h3, h4⟩ := hO n _ _ _ h1 (Nat.le_trans (bulk_part (List.mem_of_getElem? hd')) (by omega))
 exact ⟨y, h2, fun x hx => by rw [hd'] at hx; cases hx; exact h3, h4⟩
theorem open_sliceW {t e : TypeId} {α : Type} {k : Kd α} {m : α → Nat} {B : α → Prop} (ht : P.underlying t = some (.slice e)) (hc : P.cellsOf e = k.n) (h0 : 0 < k.n) (h : OpensW enc P w e k m B)
  {v : Value} {d : DataW H} {ps : List MemPlace} {base : Nat} (hval : Value.okWide P w .any base t v) (hd : DataW.Trod enc P w 0 (fun _ => true) true t v d ps) (hw : Rows.uptoBulk d ≤ 1048576) :
  ∃ (A : Option Addr) (cap : Nat) (xs : List α), v = .slice A xs.length cap ∧ xs.length ≤ cap ∧ Sl k (Gw w) A xs ∧ (xs.map m).sum ≤ 1048576 ∧ ∀ x ∈ xs, B x := by
 obtain ⟨A, len, cap, rfl⟩ := okWide_slice ht hval
 obtain ⟨fuel, hd⟩ := hd
 obtain ⟨xs, ⟨A', cap', h1, hle, h2⟩, h3, h4⟩ := OpensW.slice enc P w ht hc h0 h fuel _ d ps hd hw
 have e1 : [Value.slice A len cap] = [Value.slice A' xs.length cap'] := h1
 cases e1
 have h5 : (xs.map m).sum + 1 ≤ Rows.uptoBulk d := h3
 exact ⟨_, _, xs, rfl, hle, h2, by omega, h4⟩
end
def mV (v : V) : Nat := v.s.size + 1
def mNd (n : Nd) : Nat := n.path.size + n.name.size + n.params.length + 1
def mPr (p : Pr) : Nat := p.name.size + p.params.length + p.code.length + 1
def mOb (o : Ob) : Nat := o.path.size + (o.consts.map mV).sum + (o.needs.map mNd).sum + (o.procs.map mPr).sum + 1
def i64 (z : Int) : Prop := (Lit.int .i64 z).wf = true
structure OInt (o : Ob) : Prop where
 cs : ∀ v ∈ o.consts, i64 v.t ∧ i64 v.i
 nd : ∀ n ∈ o.needs, i64 n.result ∧ ∀ t ∈ n.params, i64 t
 pr : ∀ p ∈ o.procs, i64 p.locals ∧ i64 p.result ∧ (∀ t ∈ p.params, i64 t) ∧ ∀ i ∈ p.code, i64 i.1 ∧ i64 i.2
theorem olim_of {o : Ob} (h : mOb o ≤ 1048576) : OLim o := by
 have h' := h
 unfold mOb at h'
 have a1 := sum_len (m := mV) o.consts fun x _ => by unfold mV; omega
 have a2 := sum_len (m := mNd) o.needs fun x _ => by unfold mNd; omega
 have a3 := sum_len (m := mPr) o.procs fun x _ => by unfold mPr; omega
 refine ⟨by omega, by omega, by omega, by omega, fun q hq => ?_, fun q hq => ?_⟩
 ·have : q.path.size + q.name.size + q.params.length + 1 ≤ (o.needs.map mNd).sum := sum_mem (m := mNd) hq
  omega
 ·have : q.name.size + q.params.length + q.code.length + 1 ≤ (o.procs.map mPr).sum := sum_mem (m := mPr) hq
  omega
theorem llim_of {l : List Ob} (h : (l.map mOb).sum ≤ 1048576) : LLim l := by
 have hm : ∀ o ∈ l, mOb o ≤ 1048576 := fun o ho => Nat.le_trans (sum_mem (m := mOb) ho) h
 have a0 := sum_len (m := mOb) l fun x _ => by unfold mOb; omega
 have b1 : sumC l = (l.map fun o => o.consts.length).sum := rfl
 have a1 : (l.map fun o => o.consts.length).sum ≤ (l.map mOb).sum := sum_le l fun o _ => by
  have a1 := sum_len (m := mV) o.consts fun x _ => by unfold mV; omega
  unfold mOb; omega
 have a2 : (l.map (·.needs.length)).sum ≤ (l.map mOb).sum := sum_le l fun o _ => by
  have a2 := sum_len (m := mNd) o.needs fun x _ => by unfold mNd; omega
  unfold mOb; omega
 have b3 : sumP l = (l.map fun o => o.procs.length).sum := rfl
 have a3 : (l.map fun o => o.procs.length).sum ≤ (l.map mOb).sum := sum_le l fun o _ => by
  have a3 := sum_len (m := mPr) o.procs fun x _ => by unfold mPr; omega
  unfold mOb; omega
 refine ⟨by omega, by omega, by omega, by omega, fun o ho => olim_of (hm o ho), fun o ho p hp => ?_, fun o ho n hn => ?_⟩
 ·have h1 := hm o ho
  have h2 : p.name.size + p.params.length + p.code.length + 1 ≤ (o.procs.map mPr).sum := sum_mem (m := mPr) hp
  unfold mOb at h1
  omega
 ·have h1 := hm o ho
  have h2 : n.path.size + n.name.size + n.params.length + 1 ≤ (o.needs.map mNd).sum := sum_mem (m := mNd) hn
  unfold mOb at h1
  omega
section
attribute [local irreducible] Tryz.prog
variable {H : Type} (enc : TypeId × Value → H) (w : World)
theorem sum_ones {α : Type} (l : List α) : (l.map fun _ => 1).sum = l.length := by
 induction l with
 | nil => rfl
 | cons x r ih => simp only [List.map_cons, List.sum_cons, List.length_cons, ih]; omega
theorem OpensW.value : OpensW enc Tryz.prog w 52 Kd.val mV (fun v => i64 v.t ∧ i64 v.i) := by
 intro fuel cs d ps hd hw
 obtain ⟨hl, ds, hds, hb, hf⟩ := field_openW enc Tryz.prog w Tryz.underlying52 hd hw
 obtain ⟨c0, c1, c2, c3, rfl⟩ := elist4 (hl.trans ecellsV)
 obtain ⟨d0, d1, d2, d3, rfl⟩ := elist4 hds
 obtain ⟨t, h0, _, b0⟩ := hf 0 _ rfl rfl rfl ecells_typ (OpensW.int enc Tryz.prog w Tryz.underlying44)
 obtain ⟨i, h1, _, b1⟩ := hf 1 _ rfl rfl rfl ecells_i64 (OpensW.int enc Tryz.prog w Tryz.underlying2)
 obtain ⟨b, h2, _⟩ := hf 2 _ rfl rfl rfl ecells_bool (OpensW.bool enc Tryz.prog w Tryz.underlying4)
 obtain ⟨s, h3, m3, _⟩ := hf 3 _ rfl rfl rfl ecells_str (OpensW.str enc Tryz.prog w Tryz.underlying9)
 have m3 := m3 _ rfl
 have e0 : [c0] = [Value.int .i64 t] := h0
 have e1 : [c1] = [Value.int .i64 i] := h1
 have e2 : [c2] = [Value.bool b] := h2
 have e3 : [c3] = [Value.string s] := h3
 cases e0; cases e1; cases e2; cases e3
 simp only [Rows.uptoBulkAll] at hb
 exact ⟨⟨t, i, b, s⟩, rfl, by unfold mV; dsimp only; omega, b0, b1⟩
theorem OpensW.instr : OpensW enc Tryz.prog w 50 Kd.ins (fun _ => 1) (fun i => i64 i.1 ∧ i64 i.2) := by
 intro fuel cs d ps hd hw
 obtain ⟨hl, ds, hds, hb, hf⟩ := field_openW enc Tryz.prog w Tryz.underlying50 hd hw
 obtain ⟨c0, c1, rfl⟩ := elist2 (hl.trans ecellsI)
 obtain ⟨c, h0, _, b0⟩ := hf 0 _ rfl rfl rfl ecells_cod (OpensW.int enc Tryz.prog w Tryz.underlying48)
 obtain ⟨n, h1, _, b1⟩ := hf 1 _ rfl rfl rfl ecells_int (OpensW.int enc Tryz.prog w Tryz.underlying3)
 have e0 : [c0] = [Value.int .i64 c] := h0
 have e1 : [c1] = [Value.int .i64 n] := h1
 cases e0; cases e1
 exact ⟨(c, n), rfl, bulk_one d, b0, b1⟩
theorem OpensW.types : OpensW enc Tryz.prog w 43 (Kd.slice (Kd.int .i64)) (fun xs => (xs.map fun _ => 1).sum + 1) (fun xs => ∀ t ∈ xs, i64 t) :=
 OpensW.slice enc Tryz.prog w Tryz.underlying43 (k := Kd.int .i64) ecells_typ (by decide) (OpensW.int enc Tryz.prog w Tryz.underlying44)
theorem OpensW.proc : OpensW enc Tryz.prog w 47 Kd.prc mPr (fun p => i64 p.locals ∧ i64 p.result ∧ (∀ t ∈ p.params, i64 t) ∧ ∀ i ∈ p.code, i64 i.1 ∧ i64 i.2) := by
 intro fuel cs d ps hd hw
 obtain ⟨hl, ds, hds, hb, hf⟩ := field_openW enc Tryz.prog w Tryz.underlying47 hd hw
 obtain ⟨c0, c1, c2, c3, c4, c5, rfl⟩ := elist6 (hl.trans ecellsP)
 obtain ⟨d0, d1, d2, d3, d4, d5, rfl⟩ := elist6 hds
 obtain ⟨nm, h0, m0, _⟩ := hf 0 _ rfl rfl rfl ecells_str (OpensW.str enc Tryz.prog w Tryz.underlying9)
 obtain ⟨ex, h1, _⟩ := hf 1 _ rfl rfl rfl ecells_bool (OpensW.bool enc Tryz.prog w Tryz.underlying4)
 obtain ⟨pr, h2, m2, bp⟩ := hf 2 _ rfl rfl rfl ecells_lt (OpensW.types enc w)
 obtain ⟨lo, h3, _, bl⟩ := hf 3 _ rfl rfl rfl ecells_int (OpensW.int enc Tryz.prog w Tryz.underlying3)
 obtain ⟨re, h4, _, br⟩ := hf 4 _ rfl rfl rfl ecells_typ (OpensW.int enc Tryz.prog w Tryz.underlying44)
 obtain ⟨co, h5, m5, bc⟩ := hf 5 _ rfl rfl rfl ecells_li (OpensW.slice enc Tryz.prog w Tryz.underlying45 (k := Kd.ins) ecellsI (by decide) (OpensW.instr enc w))
 have m0 := m0 _ rfl
 have m2 := m2 _ rfl
 have m5 := m5 _ rfl
 rw [sum_ones] at m2 m5
 obtain ⟨PA, pc, h2', _, hPA⟩ := h2
 obtain ⟨CA, cc, h5', _, hCA⟩ := h5
 have e0 : [c0] = [Value.string nm] := h0
 have e1 : [c1] = [Value.bool ex] := h1
 have e2 : [c2] = [Value.slice PA pr.length pc] := h2'
 have e3 : [c3] = [Value.int .i64 lo] := h3
 have e4 : [c4] = [Value.int .i64 re] := h4
 have e5 : [c5] = [Value.slice CA co.length cc] := h5'
 cases e0; cases e1; cases e2; cases e3; cases e4; cases e5
 simp only [Rows.uptoBulkAll] at hb
 exact ⟨⟨nm, ex, pr, lo, re, co⟩, ⟨PA, pc, CA, cc, rfl, hPA, hCA⟩, by unfold mPr; dsimp only; omega, bl, br, bp, bc⟩
theorem OpensW.need : OpensW enc Tryz.prog w 56 Kd.ned mNd (fun n => i64 n.result ∧ ∀ t ∈ n.params, i64 t) := by
 intro fuel cs d ps hd hw
 obtain ⟨hl, ds, hds, hb, hf⟩ := field_openW enc Tryz.prog w Tryz.underlying56 hd hw
 obtain ⟨c0, c1, c2, c3, rfl⟩ := elist4 (hl.trans ecellsN)
 obtain ⟨d0, d1, d2, d3, rfl⟩ := elist4 hds
 obtain ⟨pt, h0, m0, _⟩ := hf 0 _ rfl rfl rfl ecells_str (OpensW.str enc Tryz.prog w Tryz.underlying9)
 obtain ⟨nm, h1, m1, _⟩ := hf 1 _ rfl rfl rfl ecells_str (OpensW.str enc Tryz.prog w Tryz.underlying9)
 obtain ⟨pr, h2, m2, bp⟩ := hf 2 _ rfl rfl rfl ecells_lt (OpensW.types enc w)
 obtain ⟨re, h3, _, br⟩ := hf 3 _ rfl rfl rfl ecells_typ (OpensW.int enc Tryz.prog w Tryz.underlying44)
 have m0 := m0 _ rfl
 have m1 := m1 _ rfl
 have m2 := m2 _ rfl
 rw [sum_ones] at m2
 obtain ⟨PA, pc, h2', _, hPA⟩ := h2
 have e0 : [c0] = [Value.string pt] := h0
 have e1 : [c1] = [Value.string nm] := h1
 have e2 : [c2] = [Value.slice PA pr.length pc] := h2'
 have e3 : [c3] = [Value.int .i64 re] := h3
 cases e0; cases e1; cases e2; cases e3
 simp only [Rows.uptoBulkAll] at hb
 exact ⟨⟨pt, nm, pr, re⟩, ⟨PA, pc, rfl, hPA⟩, by unfold mNd; dsimp only; omega, br, bp⟩
theorem OpensW.object : OpensW enc Tryz.prog w 38 Kd.ob mOb OInt := by
 intro fuel cs d ps hd hw
 obtain ⟨hl, ds, hds, hb, hf⟩ := field_openW enc Tryz.prog w Tryz.underlying38 hd hw
 obtain ⟨c0, c1, c2, c3, rfl⟩ := elist4 (hl.trans ecellsO)
 obtain ⟨d0, d1, d2, d3, rfl⟩ := elist4 hds
 obtain ⟨pt, h0, m0, _⟩ := hf 0 _ rfl rfl rfl ecells_str (OpensW.str enc Tryz.prog w Tryz.underlying9)
 obtain ⟨co, h1, m1, bc⟩ := hf 1 _ rfl rfl rfl ecells_lv (OpensW.slice enc Tryz.prog w Tryz.underlying23 (k := Kd.val) ecellsV (by decide) (OpensW.value enc w))
 obtain ⟨ne, h2, m2, bn⟩ := hf 2 _ rfl rfl rfl ecells_ln (OpensW.slice enc Tryz.prog w Tryz.underlying31 (k := Kd.ned) ecellsN (by decide) (OpensW.need enc w))
 obtain ⟨pr, h3, m3, bp⟩ := hf 3 _ rfl rfl rfl ecells_lp (OpensW.slice enc Tryz.prog w Tryz.underlying24 (k := Kd.prc) ecellsP (by decide) (OpensW.proc enc w))
 have m0 := m0 _ rfl
 have m1 := m1 _ rfl
 have m2 := m2 _ rfl
 have m3 := m3 _ rfl
 obtain ⟨CA, cc, h1', _, hCA⟩ := h1
 obtain ⟨NA, nc, h2', _, hNA⟩ := h2
 obtain ⟨PA, pc, h3', _, hPA⟩ := h3
 have e0 : [c0] = [Value.string pt] := h0
 have e1 : [c1] = [Value.slice CA co.length cc] := h1'
 have e2 : [c2] = [Value.slice NA ne.length nc] := h2'
 have e3 : [c3] = [Value.slice PA pr.length pc] := h3'
 cases e0; cases e1; cases e2; cases e3
 simp only [Rows.uptoBulkAll] at hb
 exact ⟨⟨pt, co, ne, pr⟩, ⟨CA, cc, NA, nc, PA, pc, rfl, hCA, hNA, hPA⟩, by unfold mOb; dsimp only; omega, bc, bn, bp⟩
end
end
section
open Go.MapKept
def zz : ByteArray := ⟨#[122, 122, 47, 122, 122]⟩
def oz : Ob := ⟨zz, o1.consts, [], [p1]⟩
theorem Sl.takeO {α : Type} {k : Kd α} {G : Gh} {A : Option Addr} {xs : List α} (h : Sl k G A xs) (n : Nat) : Sl k G A (xs.take n) := fun i x hx => h i x (by
 rw [List.getElem?_take] at hx
 split at hx
 ·exact hx
 ·cases hx)
theorem file_z : fileR zz = true := by decide +kernel
theorem objR_z : objR oz = true := by rw [objR, show oz.path = zz from rfl, file_z]; decide +kernel
theorem ans_z : (objAns oz).2.2 = 0 := by
 rw [objAns, objR_z, if_pos rfl]
 have := ans_1
 rw [objAns, objR_1, if_pos rfl] at this
 rw [show oz.wd = o1.wd from rfl, this]
theorem map_turned (l : List Ob) (k : Nat) (f : Ob → Nat) : ((turned l k).map f).sum = (l.map f).sum := by
 have h : (l.map f).sum = ((l.take k ++ l.drop k).map f).sum := by rw [List.take_append_drop]
 rw [h]
 unfold turned
 simp only [List.map_append, List.sum_append]
 omega
theorem llim_turned {l : List Ob} (hL : LLim l) (k : Nat) : LLim (turned l k) :=
 ⟨by rw [(turned_perm l k).length_eq]; exact hL.len, by rw [turned_sumP]; exact hL.sumP, by rw [map_turned]; exact hL.sumN, by rw [turned_sumC]; exact hL.sumC, fun o ho => hL.lim o (turned_mem.1 ho), fun o ho => hL.pp o (turned_mem.1 ho), fun o ho => hL.np o (turned_mem.1 ho)⟩
theorem olim_z : OLim oz := ⟨by decide +kernel, by decide, by decide, by decide, (fun q hq => by cases hq), (fun q hq => by obtain rfl : q = p1 := List.mem_singleton.1 hq; decide)⟩
theorem llim_snoc {l : List Ob} (hL : LLim l) (h1 : l.length + 1 ≤ 1048576) (h2 : sumP l + 1 ≤ 1048576) (h3 : sumC l + 1 ≤ 1048576) : LLim (l ++ [oz]) := by
 have e2 : sumP [oz] = 1 := rfl
 have e3 : sumC [oz] = 1 := rfl
 refine ⟨by simp; omega, by rw [sumP_app, e2]; exact h2, ?_, by rw [sumC_app, e3]; exact h3, fun o ho => ?_, fun o ho => ?_, fun o ho => ?_⟩
 ·rw [List.map_append, List.sum_append]
  have := hL.sumN
  show _ + 0 ≤ _
  omega
 ·rcases List.mem_append.1 ho with h | h
  ·exact hL.lim o h
  ·obtain rfl := List.mem_singleton.1 h; exact olim_z
 ·rcases List.mem_append.1 ho with h | h
  ·exact hL.pp o h
  ·obtain rfl := List.mem_singleton.1 h
   exact fun p hp => by obtain rfl := List.mem_singleton.1 hp; decide
 ·rcases List.mem_append.1 ho with h | h
  ·exact hL.np o h
  ·obtain rfl := List.mem_singleton.1 h
   exact fun n hn => by cases hn
theorem len2 : ∀ {l : List Ob}, (∀ o ∈ l, (objAns o).2.2 = 0) → l.length * 2 ≤ (l.map mOb).sum
 | [], _ => by simp
 | o :: r, h => by
  have ih := len2 (l := r) fun x hx => h x (List.mem_cons_of_mem _ hx)
  have h1 := (objAns_zero (h o List.mem_cons_self)).1
  have h2 : 2 ≤ mOb o := by
   unfold objR fileR at h1
   simp only [Bool.and_eq_true] at h1
   have h3 : o.path.size ≠ 0 := fun e => by
    have h4 : o.path = ⟨#[]⟩ := by
     cases hp : o.path with
     | mk a =>
      rw [hp] at e
      have : a = #[] := Array.size_eq_zero_iff.1 e
      rw [this]
    have h5 := h1.1.1
    rw [h4, bb_refl] at h5
    cases h5
   unfold mOb
   omega
  simp only [List.map_cons, List.sum_cons, List.length_cons]
  omega
theorem pgb_link {l : List Ob} (hL : LLim l) : PgB (pgL l) := by
 have h1 := hL.sumC
 have h2 := hL.sumP
 have h3 : (joinP (allPr l) l 0 0).length = sumP l := join_len _ _ _ _
 have h4 : (l.flatMap (·.consts)).length = sumC l := consts_len l
 refine ⟨by show (l.flatMap (·.consts)).length * 40 ≤ _; omega, by show (joinP (allPr l) l 0 0).length * 88 ≤ _; omega, fun q hq => ?_, fun q hq => ?_⟩ <;> obtain ⟨o, ho, p, hp, e1, e2, _⟩ := joinP_in _ l 0 0 hq <;> have := hL.pp o ho p hp
 ·rw [e1]; omega
 ·rw [e2]; omega
theorem csZ_ok {l : List Ob} (h : linkE l = 0) : csZ l = (pgL l).consts := by unfold csZ; rw [if_pos h]; rfl
theorem prZ_ok {l : List Ob} (h : linkE l = 0) : prZ l = (pgL l).procs := by unfold prZ; rw [if_pos h]; rfl
theorem ptZ_ok {l : List Ob} (h : linkE l = 0) : ptZ l = joinT' l 0 := by unfold ptZ; rw [if_pos h]
theorem ptZ_len {l : List Ob} (hL : LLim l) : (ptZ l).length ≤ 1048576 := by
 unfold ptZ
 split
 ·have h4 := (joinT_keys l 0).length_le
  rw [List.length_map, List.length_map, all_len] at h4
  have := hL.sumP
  omega
 ·simp
section
variable {P : Program} {L : List (Nat × Value)} {d : Option Tmp} {ty : TypeId} {pos : String} {af : Array Edge} {gu : Option (Nat × Bool)}
theorem Gp.sliceFromR {t e n by_ : Nat} {z : Value} {x y : Operand} {A : Option Addr} {len cap : Nat} {k : IntKind} {i : Int} {v : Value} (hx : ev L x = some (.slice A len cap)) (hy : ev L y = some (.int k i)) [hu : Und P t (.slice e)] [hi : Inf P e n by_ z] (h0 : 0 ≤ i) (h1 : i ≤ len)
  (h : (.slice (if cap = i.toNat then A else A.map (·.add (i.toNat * n))) (len - i.toNat) (cap - i.toNat) : Value) = v) : Gp P L ⟨d, .slice t x (some y) none none, ty, pos, af, gu⟩ v := h ▸ Gp.sliceFrom hx hy h0 h1
theorem Gp.sliceToR {t e n by_ : Nat} {z : Value} {x y : Operand} {A : Option Addr} {len cap : Nat} {k : IntKind} {i : Int} {v : Value} (hx : ev L x = some (.slice A len cap)) (hy : ev L y = some (.int k i)) [hu : Und P t (.slice e)] [hi : Inf P e n by_ z] (h0 : 0 ≤ i) (h1 : i ≤ cap)
  (h : (.slice A i.toNat cap : Value) = v) : Gp P L ⟨d, .slice t x none (some y) none, ty, pos, af, gu⟩ v := h ▸ Gp.sliceTo hx hy h0 h1
end
section
variable {P : Program} {Q : Exit → Act → World → Prop} {cx : Cx} {L : List (Nat × Value)} {G Gs : Gh} {H Hs : List Own} {l : List Oper}
theorem WB.three {fuel i j k : Nat} {listed : Array Bool} {o o' o'' : Oper} (hr : Region.ready .any l.toArray listed = [i, j, k]) (hi : l[i]? = some o) (hj : l[j]? = some o') (hk : l[k]? = some o'') (hw : wantB l.toArray L o = some true) (hw' : wantB l.toArray L o' = some true) (hw'' : wantB l.toArray L o'' = some true)
  (h : OW P Q o cx L G H fun L' G' H' => (∀ w, Sat G' H' w → Sat Gs Hs w) ∧ WB P l Q Gs Hs fuel (listed.setIfInBounds i true) cx L' G' H') (h' : OW P Q o' cx L G H fun L' G' H' => (∀ w, Sat G' H' w → Sat Gs Hs w) ∧ WB P l Q Gs Hs fuel (listed.setIfInBounds j true) cx L' G' H') (h'' : OW P Q o'' cx L G H fun L' G' H' => (∀ w, Sat G' H' w → Sat Gs Hs w) ∧ WB P l Q Gs Hs fuel (listed.setIfInBounds k true) cx L' G' H') : WB P l Q Gs Hs (fuel + 1) listed cx L G H :=
 WB.all hr (by simp) fun q hq => by
  simp only [List.mem_cons, List.not_mem_nil, or_false] at hq
  rcases hq with rfl | rfl | rfl
  ·exact ⟨o, hi, hw, h⟩
  ·exact ⟨o', hj, hw', h'⟩
  ·exact ⟨o'', hk, hw'', h''⟩
theorem WB.freezeK {α : Type} {k : Kd α} {T cap j : Nat} {A : Option Addr} {xs : List α} {x : Own} {fuel : Nat} {listed : Array Bool} (hn : 0 < k.n) (hv : KVec k T G A cap xs x) (hj : At H j x) (h : ∀ G', G.le G' → Sl k G' A xs → WB P l Q Gs Hs fuel listed cx L G' (H.eraseIdx j)) : WB P l Q Gs Hs fuel listed cx L G H :=
 WK.freezeK (K := fun a w => Sat Gs Hs w → wpAnyH P .any l.toArray Q (Sat Gs Hs) fuel listed a w) hn hv hj h
end
end
end Go.Proofs.YtcnlkfocbbkdhaaGreatDoor.Gb
