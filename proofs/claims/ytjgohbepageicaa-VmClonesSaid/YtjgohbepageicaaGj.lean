/- Calls that are put off, what recovers, function values, interfaces. -/
import Derived.Test.YtjgohbepageicaaGi
namespace Go.Proofs.Ytjgohbepageicaa.Gb
open Go
set_option linter.unusedVariables false
set_option linter.unusedSimpArgs false

section
variable {P : Program} {Q : Exit → Act → World → Prop} {cx : Cx} {L : List (Nat × Value)} {G : Gh} {H : List Own} {K : List (Nat × Value) → Gh → List Own → Prop} {ops : Array Oper} {rest : List Oper}
  {d : Option Tmp} {ty : TypeId} {pos : String} {af : Array Edge} {gu : Option (Nat × Bool)}

theorem Sk.evs {a : Act} (st : Sk L a) {xs : Array Operand} {vs : List Value} (h : Gb.evs L xs = some vs) : xs.map a.eval = vs.toArray := by
  have key : ∀ (l : List Operand) (vs : List Value), evl L l = some vs → l.map a.eval = vs := by
    intro l
    induction l with
    | nil => intro vs h; simp only [evl, Option.some.injEq] at h; subst h; rfl
    | cons x l ih =>
      intro vs h
      simp only [evl] at h
      cases hx : ev L x with
      | none => simp [hx] at h
      | some v =>
        cases hl : evl L l with
        | none => simp [hx, hl] at h
        | some us =>
          simp only [hx, hl, Option.some.injEq] at h
          subst h
          simp [st.eval hx, ih us hl]
  apply Array.ext'
  simp [key xs.toList vs h]

theorem Gp.makeFunc {fn : Go.Fn} {xs ys : Array Operand} {us vs : List Value} (hx : evs L xs = some us) (hy : evs L ys = some vs) : Gp P L ⟨d, .makeFunc fn xs ys, ty, pos, af, gu⟩ (.func fn us.toArray vs.toArray) :=
  fun a st w => by
    have e1 := Sk.evs st hx
    have e2 := Sk.evs st hy
    simp only [execOp, e1, e2]
    rfl

/-- a call of a function value -/
theorem OW.callV {g : Operand} {f : Nat} {cap : Array Value} {xs : Array Operand} {ats : Array TypeId} {vs : List Value} {Hf F : List Own} {R : Ending → Gh → List Own → Prop} (hg : ev L g = some (.func (.func f) #[] cap)) (hx : Gb.evs L xs = some vs) [hb : Body P f] (hp : H.Perm (Hf ++ F))
    (hf : Fn P f (vs.toArray ++ cap) G Hf R) (hd : dOk d cx.N = true)
    (k : ∀ v G' H', R (.returned v) G' H' → G.le G' → K (putL d v L) G' (H' ++ F))
    (kp : ∀ ch G' H', R (.panicked ch) G' H' → G.le G' → WK (Q (.panic ch)) cx L G' (H' ++ F))
    (ko : ∀ G' H', ¬ R .outgrown G' H') : OW P Q ⟨d, .call { callee := .value g, args := xs, argTypes := ats }, ty, pos, af, gu⟩ cx L G H K := by
  intro next hn a w st
  have st' := st.perm hp
  have hrun : (execOp a.eval ⟨d, .call { callee := .value g, args := xs, argTypes := ats }, ty, pos, af, gu⟩).run P w = .ok (.enter f (vs.toArray ++ cap)) w := by
    have e := st.evs hx
    have eg := st.eval hg
    simp [execOp, resolve, Deferred.ofValue, eg, invoke, e, hb.h]
  unfold Oper.wp
  rw [hrun]
  simp only [Oper.upon]
  refine (hf w (st'.sat.sub (List.sublist_append_left Hf F))).mono fun e w' ⟨G', H', r, hs, hp'⟩ => ?_
  have hs' := st'.sat.frame hs hp'
  have hst := st'.stp.then (hp'.frame (F := F))
  cases e with
  | returned v => exact hn _ _ _ (k v G' H' r hp'.gle) _ _ (st.put d v hd hs' hst)
  | panicked ch => exact kp ch G' H' r hp'.gle a w' ⟨st.size, st.defs, st.slot, hs', hst⟩
  | outgrown => exact (ko G' H' r).elim

/-- a call is put off -/
theorem WL.defer {g : Operand} {fv : Go.Fn} {cap : Array Value} (hg : ev L g = some (.func fv #[] cap))
    (hw : wantB ops L ⟨d, .defer { callee := .value g, args := #[], argTypes := #[] }, ty, pos, af, gu⟩ = some true) (hd : dOk d cx.N = true)
    (k : WL P ops Q rest ⟨cx.w0, cx.G0, cx.S, cx.N, { target := .fn fv cap, args := #[] } :: cx.D⟩ (putL d undef L) G H) :
    WL P ops Q (⟨d, .defer { callee := .value g, args := #[], argTypes := #[] }, ty, pos, af, gu⟩ :: rest) cx L G H := by
  intro a w st
  unfold wpList
  rw [if_pos (st.wanted hw)]
  refine .inl ?_
  have hrun : (execOp a.eval ⟨d, .defer { callee := .value g, args := #[], argTypes := #[] }, ty, pos, af, gu⟩).run P w = .ok (.defer { target := .fn fv cap, args := #[] }) w := by
    have eg := st.eval hg
    simp [execOp, resolve, Deferred.ofValue, eg]
  unfold Oper.wp
  rw [hrun]
  simp only [Oper.upon]
  refine k _ _ ⟨(size_put _ d undef).trans st.size, ?_, slot_put (a := { a with defers := { target := .fn fv cap, args := #[] } :: a.defers }) st.size st.slot d undef hd, st.sat, st.stp⟩
  rw [defers_put]
  show _ :: a.defers = _
  rw [st.defs]

theorem Gp.assertNil {x : Operand} {s t n by_ : Nat} {z : Value} {fs : Array Field} (hx : ev L x = some .nilIface) (hu : P.underlying t = some (.struct fs)) [hi : Inf P t n by_ z] : Gp P L ⟨d, .typeAssert x s t true, ty, pos, af, gu⟩ (.tuple #[z, .bool false]) :=
  fun a st w => by simp [execOp, st.eval hx, Instr.typeAssert, run_underlying hu, hi.zeroValue]
theorem Gp.assertIs {x : Operand} {s t : Nat} {v : Value} {fs : Array Field} (hx : ev L x = some (.iface t v)) (hu : P.underlying t = some (.struct fs)) : Gp P L ⟨d, .typeAssert x s t true, ty, pos, af, gu⟩ (.tuple #[v, .bool true]) :=
  fun a st w => by simp [execOp, st.eval hx, Instr.typeAssert, run_underlying hu]
theorem Gp.neNilNil {x : Operand} {t t' : Nat} (hx : ev L x = some .nilIface) (hu : P.underlying t = some (.interface (P.methodsAt t))) : Gp P L ⟨d, .binOp .neq t x (.const .nilIface) t', ty, pos, af, gu⟩ (.bool false) :=
  fun a st w => by
    have hc : a.eval (.const .nilIface) = .nilIface := rfl
    simp [execOp, st.eval hx, hc, eqGuard, run_neq_nil_nil w t hu]
theorem Gp.neHeldNil {x : Operand} {t t' u : Nat} {v : Value} (hx : ev L x = some (.iface u v)) (hu : P.underlying t = some (.interface (P.methodsAt t))) : Gp P L ⟨d, .binOp .neq t x (.const .nilIface) t', ty, pos, af, gu⟩ (.bool true) :=
  fun a st w => by
    have hc : a.eval (.const .nilIface) = .nilIface := rfl
    simp [execOp, st.eval hx, hc, eqGuard, run_neq_held_nil w t u v hu]
theorem Gp.nePtrNil {x : Operand} {t t' : Nat} {p : Option Addr} (hx : ev L x = some (.pointer p)) (hu : P.underlying t = some (.pointer (P.pointee t))) : Gp P L ⟨d, .binOp .neq t x (.const (.pointer none)) t', ty, pos, af, gu⟩ (.bool (!p.isNone)) :=
  fun a st w => by
    have hc : a.eval (.const (.pointer none)) = .pointer none := rfl
    have he : ∀ op, eqGuard op t x (.const (.pointer none)) (.pointer p) (.pointer none) = pure () := fun op => by cases op <;> rfl
    simp [execOp, st.eval hx, hc, he, run_neq_pointer_nil w t p hu]
theorem Gp.eqPtrNil {x : Operand} {t t' : Nat} {p : Option Addr} (hx : ev L x = some (.pointer p)) (hu : P.underlying t = some (.pointer (P.pointee t))) : Gp P L ⟨d, .binOp .eql t x (.const (.pointer none)) t', ty, pos, af, gu⟩ (.bool p.isNone) :=
  fun a st w => by
    have hc : a.eval (.const (.pointer none)) = .pointer none := rfl
    have he : ∀ op, eqGuard op t x (.const (.pointer none)) (.pointer p) (.pointer none) = pure () := fun op => by cases op <;> rfl
    simp [execOp, st.eval hx, hc, he, run_eql_pointer_nil w t p hu]
end

/-! #### functions that put calls off -/
/-- what a call does that was put off: from the mode that its caller is in, to an end and a mode -/
def FnD (P : Program) (f : FuncId) (vs : Array Value) (u : FrameMode) (G : Gh) (H : List Own) (u' : FrameMode) (R : Ending → Gh → List Own → Prop) : Prop :=
  ∀ w, Sat G H w → CallsD P f vs u w fun e u'' w' => u'' = u' ∧ ∃ G' H', R e G' H' ∧ Sat G' H' w' ∧ Stp (covs H) G w G' H' w'

theorem FnD.recover {P : Program} {f : FuncId} {fn : Func} {i d1 d2 : Nat} {ty1 ty2 : TypeId} {p1 p2 : String} {af1 af2 : Array Edge} {rest : Code} {vs : List Value} {G : Gh} {H : List Own} {R : Ending → Gh → List Own → Prop} {u u' : FrameMode} {v : Value}
    (hf : P.funcs[f]? = some fn) (hb : fn.body = some (.seq (.region i #[⟨some d1, .call { callee := .builtin .recover, args := #[], argTypes := #[] }, ty1, p1, af1, none⟩, ⟨some d2, .assign (.tmp d1), ty2, p2, af2, none⟩] false) rest))
    (hn' : Nat.ble vs.length fn.ntmps = true) (hd1 : Nat.blt d1 fn.ntmps = true) (hd2 : Nat.blt d2 fn.ntmps = true)
    (hu : (u = .returning ∧ v = .nilIface ∧ u' = .returning) ∨ (∃ older, u = .panicking ({ v := v, recovered := false } :: older) ∧ u' = .panicking ({ v := v, recovered := true } :: older)))
    (h : ∀ w0, WC P rest (QF P fn G w0 H R) ⟨w0, G, covs H, fn.ntmps, []⟩ ((d2, v) :: (d1, v) :: argL 0 vs) G H) : FnD P f vs.toArray u G H u' R := by
  have hn := Nat.le_of_ble_eq_true hn'
  intro w hs
  refine callsD_of_wpS hf hb fun c₀ cs hc => ?_
  refine wpS_seq (wpS_region ?_)
  have hrange : List.range (#[(⟨some d1, .call { callee := .builtin .recover, args := #[], argTypes := #[] }, ty1, p1, af1, none⟩ : Oper), ⟨some d2, .assign (.tmp d1), ty2, p2, af2, none⟩] : Array Oper).size = [0, 1] := rfl
  rw [hrange]
  have hwant : ∀ (o : Oper) x, o.guard = none → Region.wanted o x = true := fun o x ho => by simp [Region.wanted, ho]
  have hexec : ∀ ρ (w : World), (execOp ρ ⟨some d1, .call { callee := .builtin .recover, args := #[], argTypes := #[] }, ty1, p1, af1, none⟩).run P w = .ok .recover w := fun ρ w => by
    simp [execOp, resolve, invoke, builtin]
  have hrec : (recoverD (c₀ :: cs) = none ∧ v = .nilIface ∧ u' = u) ∨ recoverD (c₀ :: cs) = some (v, { c₀ with mode := u' } :: cs) := by
    rcases hu with ⟨rfl, rfl, rfl⟩ | ⟨older, rfl, rfl⟩
    · exact .inl ⟨by simp [recoverD, hc], rfl, rfl⟩
    · exact .inr (by simp [recoverD, hc])
  have key : ∀ cs', cs' = { c₀ with mode := u' } :: cs → wpOpsS P #[⟨some d1, .call { callee := .builtin .recover, args := #[], argTypes := #[] }, ty1, p1, af1, none⟩, ⟨some d2, .assign (.tmp d1), ty2, p2, af2, none⟩]
      (Exit.thenS (rest.wpS P (bodyPostS P fn c₀ cs fun e u'' w' => u'' = u' ∧ ∃ G' H', R e G' H' ∧ Sat G' H' w' ∧ Stp (covs H) G w G' H' w')) (bodyPostS P fn c₀ cs fun e u'' w' => u'' = u' ∧ ∃ G' H', R e G' H' ∧ Sat G' H' w' ∧ Stp (covs H) G w G' H' w'))
      [1] (Act.put { tmps := vs.toArray ++ Array.replicate (fn.ntmps - vs.toArray.size) undef, defers := [] } (some d1) v) cs' w := by
    intro cs' hcs
    subst hcs
    simp only [wpOpsS, List.getElem?_toArray, List.getElem?_cons_succ, List.getElem?_cons_zero]
    rw [if_pos (hwant _ _ rfl)]
    have h0 : St ⟨w, G, covs H, fn.ntmps, []⟩ (argL 0 vs) G H { tmps := vs.toArray ++ Array.replicate (fn.ntmps - vs.toArray.size) undef, defers := [] } w :=
      ⟨by simp; omega, rfl, fun t v ht => by have := argL_slot (N := fn.ntmps - vs.length) vs [] t v ht; simpa using this, hs, Stp.refl G H w⟩
    have h1 := h0.put (some d1) v hd1 hs (Stp.refl G H w)
    have hev : (Act.put { tmps := vs.toArray ++ Array.replicate (fn.ntmps - vs.toArray.size) undef, defers := [] } (some d1) v).eval (.tmp d1) = v := h1.eval (x := .tmp d1) (by simp [ev, putL, lk])
    simp only [execOp, hev, Sem.run_pure, Oper.upon]
    refine wpS_of_wp ?_
    refine Code.wp_mono (fun e a' w' q => ?_) (h w _ w (h1.put (some d2) v hd2 hs (Stp.refl G H w)))
    cases e with
    | normal => obtain ⟨q1, v', q2, q3⟩ := q; exact ⟨q1, u', rfl, v', q2, rfl, q3⟩
    | ret => obtain ⟨q1, v', q2, q3⟩ := q; exact ⟨q1, u', rfl, v', q2, rfl, q3⟩
    | panic ch => exact ⟨q.1, u', rfl, rfl, q.2⟩
    | outgrown => exact ⟨u', rfl, q⟩
    | exit id => exact q
    | goto l => exact q
  simp only [wpOpsS, List.getElem?_toArray, List.getElem?_cons_zero]
  rw [if_pos (hwant _ _ rfl)]
  simp only [hexec]
  rcases hrec with ⟨hr, hv, huu⟩ | hr
  · rw [hr, ← hv]
    exact key _ (by rw [huu, ← hc])
  · rw [hr]
    exact key _ rfl

/-- where a function ends that has put calls off -/
def QD (P : Program) (fn : Func) (G0 : Gh) (w0 : World) (H0 : List Own) (R : Ending → Gh → List Own → Prop) : Exit → Act → World → Prop :=
  bodyPostD P fn fun e w' => ∃ G' H', R e G' H' ∧ Sat G' H' w' ∧ Stp (covs H0) G0 w0 G' H' w'

theorem Fn.enterD {P : Program} {f : FuncId} {fn : Func} {c : Code} {vs : List Value} {G : Gh} {H : List Own} {R : Ending → Gh → List Own → Prop} (hf : P.funcs[f]? = some fn) (hb : fn.body = some c) (hn' : Nat.ble vs.length fn.ntmps = true)
    (h : ∀ w0, WC P c (QD P fn G w0 H R) ⟨w0, G, covs H, fn.ntmps, []⟩ (argL 0 vs) G H) : Fn P f vs.toArray G H R := by
  have hn := Nat.le_of_ble_eq_true hn'
  intro w hs
  refine calls_of_wp_defers hf hb (h w _ w ⟨by simp; omega, rfl, fun t v ht => ?_, hs, Stp.refl G H w⟩)
  have := argL_slot (N := fn.ntmps - vs.length) vs [] t v ht
  simpa using this

/-- what a function's results are, by the slots and what is ours -/
def ResRun (P : Program) (fn : Func) (L : List (Nat × Value)) (G : Gh) (H : List Own) (v : Value) : Prop := ∀ a w, Sk L a → Sat G H w → (results fn a.tmps).run P w = .ok v w
theorem ResRun.zero {P : Program} {fn : Func} {L : List (Nat × Value)} {G : Gh} {H : List Own} (h : fn.results = #[]) : ResRun P fn L G H (.tuple #[]) := fun a w _ _ => by simp [results, h]

section
variable {P : Program} {fn : Func} {G0 G : Gh} {w0 : World} {H0 H : List Own} {R : Ending → Gh → List Own → Prop} {L : List (Nat × Value)} {N : Nat}

theorem QD.once {u u' : FrameMode} {g : Nat} {cap : Array Value} {Hf F : List Own} {R1 : Ending → Gh → List Own → Prop} (hur : u ≠ .run) [hb : Body P g] (hp : H.Perm (Hf ++ F)) (hf : FnD P g cap u G Hf u' R1) (hset : settle u' = .returning)
    (k : ∀ v G' H', R1 (.returned v) G' H' → G.le G' → ∃ v, ResRun P fn L G' (H' ++ F) v ∧ R (.returned v) G' (H' ++ F))
    (kp : ∀ ch G' H', ¬ R1 (.panicked ch) G' H') (ko : ∀ G' H', ¬ R1 .outgrown G' H') {a : Act} {w : World} (st : St ⟨w0, G0, covs H0, N, [{ target := .fn (.func g) cap, args := #[] }]⟩ L G H a w) :
    Leaves P fn a.tmps (fun e w' => ∃ G' H', R e G' H' ∧ Sat G' H' w' ∧ Stp (covs H0) G0 w0 G' H' w') [{ target := .fn (.func g) cap, args := #[] }] u w := by
  have st' := st.perm hp
  refine leaves_cons (f := g) (args := cap) hur (by simp [invoke, hb.h]) ?_
  refine (hf w (st'.sat.sub (List.sublist_append_left Hf F))).mono fun e u'' w' ⟨hu, G', H', r, hs, hp'⟩ => ?_
  subst hu
  have hs' := st'.sat.frame hs hp'
  have hst := st'.stp.then (hp'.frame (F := F))
  cases e with
  | returned v =>
    obtain ⟨v', h1, h2⟩ := k v G' H' r hp'.gle
    show Leaves _ _ _ _ [] (settle _) _
    rw [hset]
    exact ⟨v', h1 a w' st.slot hs', G', _, h2, hs', hst⟩
  | panicked ch => exact (kp ch G' H' r).elim
  | outgrown => exact (ko G' H' r).elim

theorem QD.leave {e : Exit} (he : e = .ret ∨ e = .normal) {g : Nat} {cap : Array Value} {Hf F : List Own} {R1 : Ending → Gh → List Own → Prop} [hb : Body P g] (hp : H.Perm (Hf ++ F)) (hf : FnD P g cap .returning G Hf .returning R1)
    (k : ∀ v G' H', R1 (.returned v) G' H' → G.le G' → ∃ v, ResRun P fn L G' (H' ++ F) v ∧ R (.returned v) G' (H' ++ F))
    (kp : ∀ ch G' H', ¬ R1 (.panicked ch) G' H') (ko : ∀ G' H', ¬ R1 .outgrown G' H') :
    WK (QD P fn G0 w0 H0 R e) ⟨w0, G0, covs H0, N, [{ target := .fn (.func g) cap, args := #[] }]⟩ L G H := fun a w st => by
  have := QD.once (fn := fn) (R := R) (by simp) hp hf rfl k kp ko st
  rcases he with rfl | rfl
  · show Leaves _ _ _ _ a.defers _ _; rw [st.defs]; exact this
  · show Leaves _ _ _ _ a.defers _ _; rw [st.defs]; exact this
theorem QD.caught {v : Value} {g : Nat} {cap : Array Value} {Hf F : List Own} {R1 : Ending → Gh → List Own → Prop} [hb : Body P g] (hp : H.Perm (Hf ++ F)) (hf : FnD P g cap (.panicking [{ v := v, recovered := false }]) G Hf (.panicking [{ v := v, recovered := true }]) R1)
    (k : ∀ v G' H', R1 (.returned v) G' H' → G.le G' → ∃ v, ResRun P fn L G' (H' ++ F) v ∧ R (.returned v) G' (H' ++ F))
    (kp : ∀ ch G' H', ¬ R1 (.panicked ch) G' H') (ko : ∀ G' H', ¬ R1 .outgrown G' H') :
    WK (QD P fn G0 w0 H0 R (.panic [{ v := v, recovered := false }])) ⟨w0, G0, covs H0, N, [{ target := .fn (.func g) cap, args := #[] }]⟩ L G H := fun a w st => by
  have := QD.once (fn := fn) (R := R) (by simp) hp hf rfl k kp ko st
  show Leaves _ _ _ _ a.defers _ _; rw [st.defs]; exact this
end
end Go.Proofs.Ytjgohbepageicaa.Gb
