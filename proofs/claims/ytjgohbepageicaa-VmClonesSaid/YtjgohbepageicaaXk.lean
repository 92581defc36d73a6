/- What a machine tells: its place, its variables, its stack; are values the same. -/
import Derived.Test.YtjgohbepageicaaXb
namespace Go.Proofs.Ytjgohbepageicaa.Gb
open Go Go.Proofs
set_option linter.unusedVariables false
set_option linter.unusedSimpArgs false
set_option linter.unusedSectionVars false

section
variable {L : List (Nat × Value)} {d : Option Tmp} {ty : TypeId} {pos : String} {af : Array Edge} {gu : Option (Nat × Bool)}
theorem Gp.neV {x y : Operand} {t' : TypeId} {u v : V} (hx : ev L x = some (.agg #[.int .i64 u.t, .int .i64 u.i, .bool u.b, .string u.s])) (hy : ev L y = some (.agg #[.int .i64 v.t, .int .i64 v.i, .bool v.b, .string v.s])) :
    Gp Try.prog L ⟨d, .binOp .neq 33 x y t', ty, pos, af, gu⟩ (.bool (!decide (u = v))) := fun a st w => by
  have h1 : Try.prog.eqGuardType Try.prog.depth 33 = false := by kernel_rfl
  have h2 : Try.prog.underlying 33 = some (.struct (Try.prog.fieldsOf 33)) := by kernel_rfl
  have h3 : Try.prog.stoodInHeld 33 = false := by kernel_rfl
  have key : (Op.eqFields 9999 #[.int .i64 u.t, .int .i64 u.i, .bool u.b, .string u.s] #[.int .i64 v.t, .int .i64 v.i, .bool v.b, .string v.s] (Try.prog.fieldsOf 33).toList).run Try.prog w = .ok (decide (u = v)) w := by
    have a0 := fun w => (inferInstance : Agg Try.prog 31 false).h w
    have a1 := fun w => (inferInstance : Agg Try.prog 2 false).h w
    have a2 := fun w => (inferInstance : Agg Try.prog 4 false).h w
    have a3 := fun w => (inferInstance : Agg Try.prog 9 false).h w
    have u0 : Try.prog.underlying 31 = some (.int .i64) := Und.h
    have u1 : Try.prog.underlying 2 = some (.int .i64) := Und.h
    have u2 : Try.prog.underlying 4 = some .bool := Und.h
    have u3 : Try.prog.underlying 9 = some .string := Und.h
    have e : decide (u = v) = (u.t == v.t && (u.i == v.i && (u.b == v.b && (u.s.toList == v.s.toList)))) := by
      rw [← beq_toListBytes, bytes_beq]
      obtain ⟨t, i, b, s⟩ := u
      obtain ⟨t', i', b', s'⟩ := v
      rw [Bool.eq_iff_iff]
      simp
    rw [e]
    simp only [Program.fieldsOf, Try.underlying33]
    simp only [Op.eqFields, part, Sem.run_bind, a0, a1, a2, a3, Result.andThen_ok, Sem.run_ite]
    simp [run_equalIn_int _ _ _ _ _ _ _ u0, run_equalIn_int _ _ _ _ _ _ _ u1, run_equalIn_bool' _ _ _ _ _ u2, run_equalIn_string _ _ _ _ _ u3]
    by_cases q0 : u.t = v.t <;> by_cases q1 : u.i = v.i <;> by_cases q2 : u.b = v.b <;> by_cases q3 : u.s.toList = v.s.toList <;> simp [q0, q1, q2, q3]
  simp only [execOp, Sem.run_bind, st.eval hx, st.eval hy, run_eqGuard_agg w .neq _ x y _ _ h1, Result.andThen_ok, run_neq_struct, run_equalIn_agg w 9999 _ _ _ h2 h3, key]
  rfl
theorem Gp.neSpot {x y : Operand} {t' : TypeId} {a b c f : Int} (hx : ev L x = some (.agg #[.int .i64 a, .int .i64 b])) (hy : ev L y = some (.agg #[.int .i64 c, .int .i64 f])) :
    Gp Try.prog L ⟨d, .binOp .neq 63 x y t', ty, pos, af, gu⟩ (.bool (!decide ((a, b) = (c, f)))) := fun ac st w => by
  have h1 : Try.prog.eqGuardType Try.prog.depth 63 = false := by kernel_rfl
  have h2 : Try.prog.underlying 63 = some (.struct (Try.prog.fieldsOf 63)) := by kernel_rfl
  have h3 : Try.prog.stoodInHeld 63 = false := by kernel_rfl
  have key : (Op.eqFields 9999 #[.int .i64 a, .int .i64 b] #[.int .i64 c, .int .i64 f] (Try.prog.fieldsOf 63).toList).run Try.prog w = .ok (decide ((a, b) = (c, f))) w := by
    have a0 := fun w => (inferInstance : Agg Try.prog 3 false).h w
    have u0 : Try.prog.underlying 3 = some (.int .i64) := Und.h
    have e : decide ((a, b) = (c, f)) = (a == c && (b == f)) := by
      rw [Bool.eq_iff_iff]
      simp
    rw [e]
    simp only [Program.fieldsOf, Try.underlying63]
    simp only [Op.eqFields, part, Sem.run_bind, a0, Result.andThen_ok, Sem.run_ite]
    simp [run_equalIn_int _ _ _ _ _ _ _ u0]
    by_cases q0 : a = c <;> by_cases q1 : b = f <;> simp [q0, q1]
  simp only [execOp, Sem.run_bind, st.eval hx, st.eval hy, run_eqGuard_agg w .neq _ x y _ _ h1, Result.andThen_ok, run_neq_struct, run_equalIn_agg w 9999 _ _ _ h2 h3, key]
  rfl
end
attribute [local irreducible] Try.prog

theorem samevals_fn (G : Gh) (H : List Own) (A B : Option Addr) (ca cb : Nat) (la lb : List V) (ha : Rds G H A (vflat la)) (hb : Rds G H B (vflat lb)) (hal : la.length ≤ 1000000000000) :
    Fn Try.prog 27 #[.slice A la.length ca, .slice B lb.length cb] G H fun e G' H' => e = .returned (.bool (decide (la = lb))) ∧ G = G' ∧ H' = H := by
  refine Fn.enter Try.func27 rfl rfl fun w0 => ?_
  refine WC.seq ?_
  refine WC.region ?_
  refine WL.p (Gp.assign rfl) (by kernel_rfl) rfl ?_
  refine WL.nil ?_
  refine WK.un ?_
  refine WC.seq ?_
  refine WC.seq ?_
  refine WC.region ?_
  refine WL.p (Gp.move rfl) (by kernel_rfl) rfl ?_
  (first | refine WL.p (Gp.lenSl rfl) (by kernel_rfl) rfl ?_ | refine WL.p (Gp.lenS rfl) (by kernel_rfl) rfl ?_)
  refine WL.p (Gp.move rfl) (by kernel_rfl) rfl ?_
  (first | refine WL.p (Gp.lenSl rfl) (by kernel_rfl) rfl ?_ | refine WL.p (Gp.lenS rfl) (by kernel_rfl) rfl ?_)
  (first | refine WL.p (Gp.neI rfl rfl) (by kernel_rfl) rfl ?_ | refine WL.p (Gp.neS rfl rfl) (by kernel_rfl) rfl ?_ | refine WL.p (Gp.neB rfl rfl) (by kernel_rfl) rfl ?_)
  refine WL.nil ?_
  refine WK.un ?_
  refine WC.cond rfl (fun hc1 => ?_) (fun hc1 => ?_)
  · -- yes
    have hne : la ≠ lb := by rintro rfl; simp at hc1
    refine WC.seq ?_
    refine WC.region ?_
    refine WL.p (Gp.assign rfl) (by kernel_rfl) rfl ?_
    refine WL.nil ?_
    refine WK.un ?_
    refine WC.ret ?_
    refine WK.un ?_
    exact QF.p1 (.inl rfl) rfl (.tmp rfl) (⟨by rw [decide_eq_false hne], rfl, rfl⟩)
  · -- no
    have hlen : la.length = lb.length := by simp at hc1; omega
    refine WC.skip ?_
    refine WK.un ?_
    refine WC.seq ?_
    refine WC.seq ?_
    refine WC.region ?_
    refine WL.p (Gp.assign rfl) (by kernel_rfl) rfl ?_
    refine WL.nil ?_
    refine WK.un ?_
    refine WC.block ?_  -- 0
    refine WC.loop (X := Nat) (fun i => [(5, .int .i64 i), (0, .slice A la.length ca), (1, .slice B lb.length cb)]) (fun _ => G) (fun _ => H) (fun i => la.length - i) (fun i => i ≤ la.length ∧ ∀ j, j < i → la[j]? = lb[j]?) 0 ⟨Nat.zero_le _, fun j h => by omega⟩ (by exact ⟨rfl, rfl, rfl, trivial⟩) rfl (List.Sublist.refl _) fun i hx => ?_
    obtain ⟨hi, hall⟩ := hx
    refine WC.seq ?_
    refine WC.seq ?_
    refine WC.region ?_
    refine WL.p (Gp.move rfl) (by kernel_rfl) rfl ?_
    refine WL.p (Gp.move rfl) (by kernel_rfl) rfl ?_
    (first | refine WL.p (Gp.lenSl rfl) (by kernel_rfl) rfl ?_ | refine WL.p (Gp.lenS rfl) (by kernel_rfl) rfl ?_)
    (first | refine WL.p (Gp.ltI rfl rfl) (by kernel_rfl) rfl ?_ | refine WL.p (Gp.ltS rfl rfl) (by kernel_rfl) rfl ?_)
    refine WL.nil ?_
    refine WK.un ?_
    refine WC.cond rfl (fun hc2 => ?_) (fun hc2 => ?_)
    · -- yes
      have hlt : i < la.length := by have h := of_decide_eq_true hc2; omega
      obtain ⟨u, hu⟩ : ∃ u, la[i]? = some u := ⟨_, List.getElem?_eq_getElem hlt⟩
      obtain ⟨v, hv⟩ : ∃ v, lb[i]? = some v := ⟨_, List.getElem?_eq_getElem (by omega)⟩
      have none0 : ∀ {l : List V}, i < l.length → vflat l = [] → False := fun {l} h h0 => by
        have h := congrArg List.length h0
        rw [vflat_length] at h; simp only [List.length_nil] at h; omega
      rcases ha with h0 | ⟨b1, o1, rfl, hread1⟩
      · exact (none0 hlt h0).elim
      rcases hb with h0 | ⟨b2, o2, rfl, hread2⟩
      · exact (none0 (by omega) h0).elim
      refine WC.skip ?_
      refine WK.un ?_
      refine WC.seq ?_
      refine WC.block ?_  -- 1
      refine WC.seq ?_
      refine WC.draw mixed ?_
      refine WA.tp (i := 0) rfl (by kernel_rfl) (by kernel_rfl) rfl (Gp.move rfl) ?_
      refine WA.tp (i := 1) rfl (by kernel_rfl) (by kernel_rfl) rfl (Gp.move rfl) ?_
      refine WA.tp (i := 2) rfl (by kernel_rfl) (by kernel_rfl) rfl (Gp.indexAddr rfl rfl (by first | assumption | omega | decide) (by first | assumption | omega | decide | (simp only [List.length_cons, List.length_nil]; decide))) ?_
      refine WA.tv (i := 3) rfl (by kernel_rfl) (by kernel_rfl) rfl (Gv.loadRN rfl hread1 (by repeat (first | exact List.Sublist.refl _ | exact List.nil_sublist _ | apply List.Sublist.cons)) (vflat_elem la i u hu) rfl) ?_
      refine WA.tp (i := 4) rfl (by kernel_rfl) (by kernel_rfl) rfl (Gp.move rfl) ?_
      refine WA.tp (i := 5) rfl (by kernel_rfl) (by kernel_rfl) rfl (Gp.move rfl) ?_
      refine WA.tp (i := 6) rfl (by kernel_rfl) (by kernel_rfl) rfl (Gp.indexAddr rfl rfl (by first | assumption | omega | decide) (by first | assumption | omega | decide | (simp only [List.length_cons, List.length_nil]; decide))) ?_
      refine WA.tv (i := 7) rfl (by kernel_rfl) (by kernel_rfl) rfl (Gv.loadRN rfl hread2 (by repeat (first | exact List.Sublist.refl _ | exact List.nil_sublist _ | apply List.Sublist.cons)) (vflat_elem lb i v hv) rfl) ?_
      refine WA.tp (i := 8) rfl (by kernel_rfl) (by kernel_rfl) rfl (Gp.neV (u := u) (v := v) rfl rfl) ?_
      refine WA.done (by kernel_rfl) ?_
      refine WK.un ?_
      refine WC.cond rfl (fun hc3 => ?_) (fun hc3 => ?_)
      · -- yes
        have hne : la ≠ lb := by
          rintro rfl
          rw [hu] at hv; cases hv; simp at hc3
        refine WC.seq ?_
        refine WC.region ?_
        refine WL.p (Gp.assign rfl) (by kernel_rfl) rfl ?_
        refine WL.nil ?_
        refine WK.un ?_
        refine WC.ret ?_
        refine WK.un ?_
        exact QF.p1 (.inl rfl) rfl (.tmp rfl) (⟨by rw [decide_eq_false hne], rfl, rfl⟩)
      · -- no
        have huv : u = v := by simpa using hc3
        refine WC.skip ?_
        refine WK.un ?_
        refine WC.region ?_
        refine WL.p (Gp.move rfl) (by kernel_rfl) rfl ?_
        refine WL.p (Gp.add' rfl rfl (show IntKind.i64.wrap ((i : Int) + 1) = ((i + 1 : Nat) : Int) by rw [wrap_small (by omega) (by omega)]; omega)) (by kernel_rfl) rfl ?_
        refine WL.p (Gp.assign rfl) (by kernel_rfl) rfl ?_
        refine WL.nil ?_
        refine WK.un ?_
        exact WK.again (i + 1) (by omega) ⟨by omega, fun j hj => by
          rcases Nat.lt_or_ge j i with h | h
          · exact hall j h
          · obtain rfl : j = i := by omega
            rw [hu, hv, huv]⟩ (by exact ⟨rfl, rfl, rfl, trivial⟩) rfl (List.Sublist.refl _)
    · -- no
      have hge : la.length ≤ i := by have h := of_decide_eq_false hc2; omega
      have heq : la = lb := List.ext_getElem? fun j => by
        rcases Nat.lt_or_ge j i with h | h
        · exact hall j h
        · rw [List.getElem?_eq_none (by omega), List.getElem?_eq_none (by omega)]
      refine WC.exit ?_
      refine WK.un ?_
      refine WC.seq ?_
      refine WC.region ?_
      refine WL.p (Gp.assign rfl) (by kernel_rfl) rfl ?_
      refine WL.nil ?_
      refine WK.un ?_
      refine WC.ret ?_
      refine WK.un ?_
      exact QF.p1 (.inl rfl) rfl (.tmp rfl) (⟨by rw [decide_eq_true heq], rfl, rfl⟩)

def sameO (o p : Oc) : Bool := decide (o.en = p.en ∧ o.val = p.val ∧ o.steps = p.steps ∧ o.out = p.out)
theorem sameO_refl (o : Oc) : sameO o o = true := by simp [sameO]
theorem same_fn (G : Gh) (H : List Own) (A B : Option Addr) (ca cb : Nat) (o p : Oc) (ha : Rds G H A (vflat o.out)) (hb : Rds G H B (vflat p.out)) (hal : o.out.length ≤ 1000000000000) :
    Fn Try.prog 14 #[ocV o A ca, ocV p B cb] G H fun e G' H' => e = .returned (.bool (sameO o p)) ∧ G = G' ∧ H' = H := by
  refine Fn.enter Try.func14 rfl rfl fun w0 => ?_
  refine WC.seq ?_
  refine WC.region ?_
  refine WL.op (by kernel_rfl) (OW.box rfl rfl fun b1 => ?_)
  refine WL.op (by kernel_rfl) (OW.box rfl rfl fun b2 => ?_)
  refine WL.p (Gp.assign rfl) (by kernel_rfl) rfl ?_
  refine WL.nil ?_
  refine WK.un ?_
  refine WC.seq ?_
  refine WC.region ?_
  refine WL.p (Gp.fieldAddr rfl) (by kernel_rfl) rfl ?_
  (first | (refine WL.v (Gv.load1 rfl (by (repeat first | exact .here | apply At.there)) (by first | rfl | assumption)) (by kernel_rfl) rfl ?_) | (refine WL.v (Gv.loadN rfl (by (repeat first | exact .here | apply At.there)) (by rfl) (by rfl)) (by kernel_rfl) rfl ?_) | (refine WL.v (Gv.loadG1 rfl (by assumption) rfl) (by kernel_rfl) rfl ?_) | (refine WL.v (Gv.loadG0 rfl (by assumption) rfl) (by kernel_rfl) rfl ?_) | (refine WL.v (Gv.loadGN rfl (by assumption) rfl) (by kernel_rfl) rfl ?_))
  refine WL.p (Gp.fieldAddr rfl) (by kernel_rfl) rfl ?_
  (first | (refine WL.v (Gv.load1 rfl (by (repeat first | exact .here | apply At.there)) (by first | rfl | assumption)) (by kernel_rfl) rfl ?_) | (refine WL.v (Gv.loadN rfl (by (repeat first | exact .here | apply At.there)) (by rfl) (by rfl)) (by kernel_rfl) rfl ?_) | (refine WL.v (Gv.loadG1 rfl (by assumption) rfl) (by kernel_rfl) rfl ?_) | (refine WL.v (Gv.loadG0 rfl (by assumption) rfl) (by kernel_rfl) rfl ?_) | (refine WL.v (Gv.loadGN rfl (by assumption) rfl) (by kernel_rfl) rfl ?_))
  by_cases h1 : o.en = p.en
  rotate_left
  ·
    refine WL.p (Gp.eqI' rfl rfl (show (o.en == p.en) = false by simpa using h1)) (by kernel_rfl) rfl ?_
    refine WL.p (Gp.move rfl) (by kernel_rfl) rfl ?_
    refine WL.skip (by kernel_rfl) rfl ?_
    refine WL.skip (by kernel_rfl) rfl ?_
    refine WL.skip (by kernel_rfl) rfl ?_
    refine WL.skip (by kernel_rfl) rfl ?_
    refine WL.skip (by kernel_rfl) rfl ?_
    (first | refine WL.p (Gp.pickT rfl rfl) (by kernel_rfl) rfl ?_ | refine WL.p (Gp.pickF rfl rfl) (by kernel_rfl) rfl ?_)
    refine WL.p (Gp.move rfl) (by kernel_rfl) rfl ?_
    refine WL.skip (by kernel_rfl) rfl ?_
    refine WL.skip (by kernel_rfl) rfl ?_
    refine WL.skip (by kernel_rfl) rfl ?_
    refine WL.skip (by kernel_rfl) rfl ?_
    refine WL.skip (by kernel_rfl) rfl ?_
    (first | refine WL.p (Gp.pickT rfl rfl) (by kernel_rfl) rfl ?_ | refine WL.p (Gp.pickF rfl rfl) (by kernel_rfl) rfl ?_)
    refine WL.p (Gp.move rfl) (by kernel_rfl) rfl ?_
    refine WL.skip (by kernel_rfl) rfl ?_
    refine WL.skip (by kernel_rfl) rfl ?_
    refine WL.skip (by kernel_rfl) rfl ?_
    refine WL.skip (by kernel_rfl) rfl ?_
    refine WL.skip (by kernel_rfl) rfl ?_
    (first | refine WL.p (Gp.pickT rfl rfl) (by kernel_rfl) rfl ?_ | refine WL.p (Gp.pickF rfl rfl) (by kernel_rfl) rfl ?_)
    refine WL.p (Gp.assign rfl) (by kernel_rfl) rfl ?_
    refine WL.nil ?_
    refine WK.un ?_
    refine WC.ret ?_
    refine WK.un ?_
    exact QF.p1 (.inl rfl) rfl (.tmp rfl) (⟨by rw [sameO, decide_eq_false (fun h => h1 h.1)], rfl, rfl⟩)
  refine WL.p (Gp.eqI' rfl rfl (show (o.en == p.en) = true by simpa using h1)) (by kernel_rfl) rfl ?_
  refine WL.p (Gp.move rfl) (by kernel_rfl) rfl ?_
  refine WL.p (Gp.fieldAddr rfl) (by kernel_rfl) rfl ?_
  refine WL.v (Gv.loadN rfl (by (repeat first | exact .here | apply At.there)) rfl rfl) (by kernel_rfl) rfl ?_
  refine WL.p (Gp.fieldAddr rfl) (by kernel_rfl) rfl ?_
  refine WL.v (Gv.loadN rfl (by (repeat first | exact .here | apply At.there)) rfl rfl) (by kernel_rfl) rfl ?_
  refine WL.p (Gp.eqV (u := o.val) (v := p.val) rfl rfl) (by kernel_rfl) rfl ?_
  by_cases h2 : o.val = p.val
  rotate_left
  ·
    rw [decide_eq_false h2]
    (first | refine WL.p (Gp.pickT rfl rfl) (by kernel_rfl) rfl ?_ | refine WL.p (Gp.pickF rfl rfl) (by kernel_rfl) rfl ?_)
    refine WL.p (Gp.move rfl) (by kernel_rfl) rfl ?_
    refine WL.skip (by kernel_rfl) rfl ?_
    refine WL.skip (by kernel_rfl) rfl ?_
    refine WL.skip (by kernel_rfl) rfl ?_
    refine WL.skip (by kernel_rfl) rfl ?_
    refine WL.skip (by kernel_rfl) rfl ?_
    (first | refine WL.p (Gp.pickT rfl rfl) (by kernel_rfl) rfl ?_ | refine WL.p (Gp.pickF rfl rfl) (by kernel_rfl) rfl ?_)
    refine WL.p (Gp.move rfl) (by kernel_rfl) rfl ?_
    refine WL.skip (by kernel_rfl) rfl ?_
    refine WL.skip (by kernel_rfl) rfl ?_
    refine WL.skip (by kernel_rfl) rfl ?_
    refine WL.skip (by kernel_rfl) rfl ?_
    refine WL.skip (by kernel_rfl) rfl ?_
    (first | refine WL.p (Gp.pickT rfl rfl) (by kernel_rfl) rfl ?_ | refine WL.p (Gp.pickF rfl rfl) (by kernel_rfl) rfl ?_)
    refine WL.p (Gp.assign rfl) (by kernel_rfl) rfl ?_
    refine WL.nil ?_
    refine WK.un ?_
    refine WC.ret ?_
    refine WK.un ?_
    exact QF.p1 (.inl rfl) rfl (.tmp rfl) (⟨by rw [sameO, decide_eq_false (fun h => h2 h.2.1)], rfl, rfl⟩)
  rw [decide_eq_true h2]
  (first | refine WL.p (Gp.pickT rfl rfl) (by kernel_rfl) rfl ?_ | refine WL.p (Gp.pickF rfl rfl) (by kernel_rfl) rfl ?_)
  refine WL.p (Gp.move rfl) (by kernel_rfl) rfl ?_
  refine WL.p (Gp.fieldAddr rfl) (by kernel_rfl) rfl ?_
  (first | (refine WL.v (Gv.load1 rfl (by (repeat first | exact .here | apply At.there)) (by first | rfl | assumption)) (by kernel_rfl) rfl ?_) | (refine WL.v (Gv.loadN rfl (by (repeat first | exact .here | apply At.there)) (by rfl) (by rfl)) (by kernel_rfl) rfl ?_) | (refine WL.v (Gv.loadG1 rfl (by assumption) rfl) (by kernel_rfl) rfl ?_) | (refine WL.v (Gv.loadG0 rfl (by assumption) rfl) (by kernel_rfl) rfl ?_) | (refine WL.v (Gv.loadGN rfl (by assumption) rfl) (by kernel_rfl) rfl ?_))
  refine WL.p (Gp.fieldAddr rfl) (by kernel_rfl) rfl ?_
  (first | (refine WL.v (Gv.load1 rfl (by (repeat first | exact .here | apply At.there)) (by first | rfl | assumption)) (by kernel_rfl) rfl ?_) | (refine WL.v (Gv.loadN rfl (by (repeat first | exact .here | apply At.there)) (by rfl) (by rfl)) (by kernel_rfl) rfl ?_) | (refine WL.v (Gv.loadG1 rfl (by assumption) rfl) (by kernel_rfl) rfl ?_) | (refine WL.v (Gv.loadG0 rfl (by assumption) rfl) (by kernel_rfl) rfl ?_) | (refine WL.v (Gv.loadGN rfl (by assumption) rfl) (by kernel_rfl) rfl ?_))
  by_cases h3 : o.steps = p.steps
  rotate_left
  ·
    refine WL.p (Gp.eqI' rfl rfl (show (o.steps == p.steps) = false by simpa using h3)) (by kernel_rfl) rfl ?_
    (first | refine WL.p (Gp.pickT rfl rfl) (by kernel_rfl) rfl ?_ | refine WL.p (Gp.pickF rfl rfl) (by kernel_rfl) rfl ?_)
    refine WL.p (Gp.move rfl) (by kernel_rfl) rfl ?_
    refine WL.skip (by kernel_rfl) rfl ?_
    refine WL.skip (by kernel_rfl) rfl ?_
    refine WL.skip (by kernel_rfl) rfl ?_
    refine WL.skip (by kernel_rfl) rfl ?_
    refine WL.skip (by kernel_rfl) rfl ?_
    (first | refine WL.p (Gp.pickT rfl rfl) (by kernel_rfl) rfl ?_ | refine WL.p (Gp.pickF rfl rfl) (by kernel_rfl) rfl ?_)
    refine WL.p (Gp.assign rfl) (by kernel_rfl) rfl ?_
    refine WL.nil ?_
    refine WK.un ?_
    refine WC.ret ?_
    refine WK.un ?_
    exact QF.p1 (.inl rfl) rfl (.tmp rfl) (⟨by rw [sameO, decide_eq_false (fun h => h3 h.2.2.1)], rfl, rfl⟩)
  refine WL.p (Gp.eqI' rfl rfl (show (o.steps == p.steps) = true by simpa using h3)) (by kernel_rfl) rfl ?_
  (first | refine WL.p (Gp.pickT rfl rfl) (by kernel_rfl) rfl ?_ | refine WL.p (Gp.pickF rfl rfl) (by kernel_rfl) rfl ?_)
  refine WL.p (Gp.move rfl) (by kernel_rfl) rfl ?_
  refine WL.p (Gp.fieldAddr rfl) (by kernel_rfl) rfl ?_
  (first | (refine WL.v (Gv.load1 rfl (by (repeat first | exact .here | apply At.there)) (by first | rfl | assumption)) (by kernel_rfl) rfl ?_) | (refine WL.v (Gv.loadN rfl (by (repeat first | exact .here | apply At.there)) (by rfl) (by rfl)) (by kernel_rfl) rfl ?_) | (refine WL.v (Gv.loadG1 rfl (by assumption) rfl) (by kernel_rfl) rfl ?_) | (refine WL.v (Gv.loadG0 rfl (by assumption) rfl) (by kernel_rfl) rfl ?_) | (refine WL.v (Gv.loadGN rfl (by assumption) rfl) (by kernel_rfl) rfl ?_))
  refine WL.p (Gp.fieldAddr rfl) (by kernel_rfl) rfl ?_
  (first | (refine WL.v (Gv.load1 rfl (by (repeat first | exact .here | apply At.there)) (by first | rfl | assumption)) (by kernel_rfl) rfl ?_) | (refine WL.v (Gv.loadN rfl (by (repeat first | exact .here | apply At.there)) (by rfl) (by rfl)) (by kernel_rfl) rfl ?_) | (refine WL.v (Gv.loadG1 rfl (by assumption) rfl) (by kernel_rfl) rfl ?_) | (refine WL.v (Gv.loadG0 rfl (by assumption) rfl) (by kernel_rfl) rfl ?_) | (refine WL.v (Gv.loadGN rfl (by assumption) rfl) (by kernel_rfl) rfl ?_))
  refine WL.op (by kernel_rfl) (OW.callK rfl (samevals_fn G H A B ca cb o.out p.out ha hb hal) rfl fun v' G' H' h hg => ?_)
  obtain ⟨he, rfl, rfl⟩ := h
  cases he
  (first | refine WL.p (Gp.pickT rfl rfl) (by kernel_rfl) rfl ?_ | refine WL.p (Gp.pickF rfl rfl) (by kernel_rfl) rfl ?_)
  refine WL.p (Gp.assign rfl) (by kernel_rfl) rfl ?_
  refine WL.nil ?_
  refine WK.un ?_
  refine WC.ret ?_
  refine WK.un ?_
  exact QF.p1 (.inl rfl) rfl (.tmp rfl) (⟨by simp [sameO, h1, h2, h3], rfl, rfl⟩)

theorem begins_fn (G : Gh) (H : List Own) (A B : Option Addr) (ca cb : Nat) (la lb : List V) (ha : Rds G H A (vflat la)) (hb : Rds G H B (vflat lb)) (hca : la.length ≤ ca) (hal : la.length ≤ 1000000000000) :
    Fn Try.prog 18 #[.slice A la.length ca, .slice B lb.length cb] G H fun e G' H' => e = .returned (.bool (decide (lb.length ≤ la.length ∧ la.take lb.length = lb))) ∧ G = G' ∧ H' = H := by
  refine Fn.enter Try.func18 rfl rfl fun w0 => ?_
  refine WC.seq ?_
  refine WC.region ?_
  refine WL.p (Gp.assign rfl) (by kernel_rfl) rfl ?_
  refine WL.nil ?_
  refine WK.un ?_
  refine WC.seq ?_
  refine WC.region ?_
  refine WL.p (Gp.move rfl) (by kernel_rfl) rfl ?_
  (first | refine WL.p (Gp.lenSl rfl) (by kernel_rfl) rfl ?_ | refine WL.p (Gp.lenS rfl) (by kernel_rfl) rfl ?_)
  refine WL.p (Gp.move rfl) (by kernel_rfl) rfl ?_
  (first | refine WL.p (Gp.lenSl rfl) (by kernel_rfl) rfl ?_ | refine WL.p (Gp.lenS rfl) (by kernel_rfl) rfl ?_)
  by_cases h1 : lb.length ≤ la.length
  rotate_left
  ·
    refine WL.p (Gp.geI' rfl rfl (show decide ((lb.length : Int) ≤ (la.length : Int)) = false from decide_eq_false (by omega))) (by kernel_rfl) rfl ?_
    refine WL.p (Gp.move rfl) (by kernel_rfl) rfl ?_
    refine WL.skip (by kernel_rfl) rfl ?_
    refine WL.skip (by kernel_rfl) rfl ?_
    refine WL.skip (by kernel_rfl) rfl ?_
    refine WL.skip (by kernel_rfl) rfl ?_
    refine WL.skip (by kernel_rfl) rfl ?_
    refine WL.skip (by kernel_rfl) rfl ?_
    (first | refine WL.p (Gp.pickT rfl rfl) (by kernel_rfl) rfl ?_ | refine WL.p (Gp.pickF rfl rfl) (by kernel_rfl) rfl ?_)
    refine WL.p (Gp.assign rfl) (by kernel_rfl) rfl ?_
    refine WL.nil ?_
    refine WK.un ?_
    refine WC.ret ?_
    refine WK.un ?_
    exact QF.p1 (.inl rfl) rfl (.tmp rfl) (⟨by rw [decide_eq_false (fun h => h1 h.1)], rfl, rfl⟩)
  refine WL.p (Gp.geI' rfl rfl (show decide ((lb.length : Int) ≤ (la.length : Int)) = true from decide_eq_true (by omega))) (by kernel_rfl) rfl ?_
  refine WL.p (Gp.move rfl) (by kernel_rfl) rfl ?_
  refine WL.p (Gp.move rfl) (by kernel_rfl) rfl ?_
  refine WL.p (Gp.move rfl) (by kernel_rfl) rfl ?_
  (first | refine WL.p (Gp.lenSl rfl) (by kernel_rfl) rfl ?_ | refine WL.p (Gp.lenS rfl) (by kernel_rfl) rfl ?_)
  refine WL.p (Gp.sliceTo rfl rfl (by omega) (by omega)) (by kernel_rfl) rfl ?_
  refine WL.p (Gp.move rfl) (by kernel_rfl) rfl ?_
  have hr : Rds G H A (vflat (la.take lb.length)) := by
    rcases ha with h0 | ⟨b1, o1, rfl, hread⟩
    · refine .inl ?_
      have h := congrArg List.length h0
      rw [vflat_length] at h; simp only [List.length_nil] at h
      rw [show la = [] from List.eq_nil_of_length_eq_zero (by omega)]; simp [vflat]
    · refine .inr ⟨b1, o1, rfl, fun w hw j v e => hread w hw j v ?_⟩
      rw [← List.take_append_drop lb.length la, vflat_append]
      rw [List.getElem?_append_left (List.getElem?_eq_some_iff.1 e).1]
      exact e
  have hlt : (la.take lb.length).length = lb.length := by simp; omega
  have hsv := samevals_fn G H A B ca cb (la.take lb.length) lb hr hb (by omega)
  rw [hlt] at hsv
  refine WL.op (by kernel_rfl) (OW.callK rfl (hsv) rfl fun v' G' H' h hg => ?_)
  obtain ⟨he, rfl, rfl⟩ := h
  cases he
  (first | refine WL.p (Gp.pickT rfl rfl) (by kernel_rfl) rfl ?_ | refine WL.p (Gp.pickF rfl rfl) (by kernel_rfl) rfl ?_)
  refine WL.p (Gp.assign rfl) (by kernel_rfl) rfl ?_
  refine WL.nil ?_
  refine WK.un ?_
  refine WC.ret ?_
  refine WK.un ?_
  exact QF.p1 (.inl rfl) rfl (.tmp rfl) (⟨by simp [h1], rfl, rfl⟩)

theorem capped_fn (G : Gh) (n : Int) : Fn Try.prog 13 #[.int .i64 n] G [] fun e G' H' => e = .returned (.int .i64 (if 20000 < n then 20000 else n)) ∧ G = G' ∧ H' = [] := by
  refine Fn.enter Try.func13 rfl rfl fun w0 => ?_
  refine WC.seq ?_
  refine WC.region ?_
  refine WL.p (Gp.assign rfl) (by kernel_rfl) rfl ?_
  refine WL.nil ?_
  refine WK.un ?_
  refine WC.seq ?_
  refine WC.seq ?_
  refine WC.region ?_
  refine WL.p (Gp.move rfl) (by kernel_rfl) rfl ?_
  (first | refine WL.p (Gp.gtI rfl rfl) (by kernel_rfl) rfl ?_ | refine WL.p (Gp.gtS rfl rfl) (by kernel_rfl) rfl ?_)
  refine WL.nil ?_
  refine WK.un ?_
  refine WC.cond rfl (fun hc1 => ?_) (fun hc1 => ?_)
  · -- yes
    refine WC.seq ?_
    refine WC.region ?_
    refine WL.p (Gp.assign rfl) (by kernel_rfl) rfl ?_
    refine WL.nil ?_
    refine WK.un ?_
    refine WC.ret ?_
    refine WK.un ?_
    exact QF.p1 (.inl rfl) rfl (.tmp rfl) (⟨by rw [if_pos (of_decide_eq_true hc1)], rfl, rfl⟩)
  · -- no
    refine WC.skip ?_
    refine WK.un ?_
    refine WC.seq ?_
    refine WC.region ?_
    refine WL.p (Gp.move rfl) (by kernel_rfl) rfl ?_
    refine WL.p (Gp.assign rfl) (by kernel_rfl) rfl ?_
    refine WL.nil ?_
    refine WK.un ?_
    refine WC.ret ?_
    refine WK.un ?_
    exact QF.p1 (.inl rfl) rfl (.tmp rfl) (⟨by rw [if_neg (of_decide_eq_false hc1)], rfl, rfl⟩)
end Go.Proofs.Ytjgohbepageicaa.Gb
