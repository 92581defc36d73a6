/- Taking things of ours out of a list, in any order. Two that may come in either order; single cells of what is ours. Steps of a walk taken one behind the other, as far as they are plain. Maps: laws for those that are ours; ranges over them. Operations on maps that are ours; make, copy, min and max. The plain law of the verifier's states: the least ones that go with all instructions. Values, instructions, procedures, needs, states of the verifier: how they lie in memory; its small helpers. The rows of the instructions; may an instruction be written? The walk goes on as far as it is plain, through statements whose order is open too. -/
import Derived.Test.YtbfgljcjblfleaaGreatDoorMb
import Derived.MapKept
import Derived.Maps.RangeRun
import Derived.Carry
import Derived.Laws.Small
import Derived.Laws.MakeOwn
import Derived.Laws.CopyRow
set_option linter.unusedVariables false
set_option linter.unusedSimpArgs false
set_option linter.unusedSectionVars false
namespace Go.Proofs.YtbfgljcjblfleaaGreatDoor.Gb
open Go
inductive Rem : List Own → Own → List Own → Prop where
  | here {x : Own} {l : List Own} : Rem (x :: l) x l
  | there {x y : Own} {l l' : List Own} (h : Rem l x l') : Rem (y :: l) x (y :: l')
theorem Rem.perm {l l' : List Own} {x : Own} (h : Rem l x l') : l.Perm (x :: l') := by
  induction h with
  | here => exact List.Perm.refl _
  | there _ ih => exact (List.Perm.cons _ ih).trans (List.Perm.swap _ _ _)
inductive Pk : List Own → List Own → List Own → Prop where
  | nil {H : List Own} : Pk H [] H
  | all {H : List Own} : Pk H H []
  | cons {H H' xs F : List Own} {x : Own} (h : Rem H x H') (k : Pk H' xs F) : Pk H (x :: xs) F
  | skip {H xs F : List Own} {y : Own} (k : Pk H xs F) : Pk (y :: H) xs (y :: F)
theorem Pk.perm {H xs F : List Own} (h : Pk H xs F) : H.Perm (xs ++ F) := by
  induction h with
  | nil => exact List.Perm.refl _
  | all => rw [List.append_nil]
  | cons h _ ih => exact h.perm.trans (List.Perm.cons _ ih)
  | skip _ ih => exact (List.Perm.cons _ ih).trans List.perm_middle.symm
theorem Pk.app : ∀ {H F : List Own}, Pk (H ++ F) H F
  | [], _ => .nil
  | _ :: _, _ => .cons .here Pk.app
theorem Pk.appR : ∀ {F H : List Own}, Pk (F ++ H) H F
  | [], _ => .all
  | _ :: _, _ => .skip Pk.appR
theorem Pk.skipA {l xs F : List Own} (h : Pk l xs F) : ∀ {H : List Own}, Pk (H ++ l) xs (H ++ F)
  | [] => h
  | _ :: _ => .skip (Pk.skipA h)
theorem Pk.na {H xs F : List Own} (h : Pk H xs F) : Pk (List.append [] H) xs F := h
theorem Rem.app {x : Own} {l l' : List Own} (h : Rem l x l') : ∀ {H : List Own}, Rem (H ++ l) x (H ++ l')
  | [] => h
  | _ :: _ => .there (Rem.app h)
theorem Pk.assoc {A B C xs F : List Own} (h : Pk (A ++ (B ++ C)) xs F) : Pk ((A ++ B) ++ C) xs F := by rw [List.append_assoc]; exact h
section
variable {P : Program} {Q : Exit → Act → World → Prop} {cx : Cx} {L : List (Nat × Value)} {G : Gh} {H H' F : List Own}
theorem WC.front {c : Code} (h : Pk H H' F) (k : WC P c Q cx L G (H' ++ F)) : WC P c Q cx L G H := fun a w st => k a w (st.perm h.perm)
theorem WL.front {ops : Array Oper} {rest : List Oper} (h : Pk H H' F) (k : WL P ops Q rest cx L G (H' ++ F)) : WL P ops Q rest cx L G H := fun a w st => k a w (st.perm h.perm)
theorem WK.front {K : Act → World → Prop} (h : Pk H H' F) (k : WK K cx L G (H' ++ F)) : WK K cx L G H := fun a w st => k a w (st.perm h.perm)
theorem St.pk {a : Act} {w : World} (st : St cx L G H a w) (h : Pk H H' F) : St cx L G H' a w := (st.perm h.perm).weaken (fun _ _ e => e) (List.sublist_append_left _ _)
theorem WK.pk {K : Act → World → Prop} (h : Pk H H' F) (k : WK K cx L G H') : WK K cx L G H := fun a w st => k a w (st.pk h)
theorem WC.pk {c : Code} (h : Pk H H' F) (k : WC P c Q cx L G H') : WC P c Q cx L G H := fun a w st => k a w (st.pk h)
theorem WC.pick {c : Code} (H' : List Own) (k : WC P c Q cx L G H') (h : Pk H H' F := by repeat (first | exact Pk.nil | exact Pk.all | exact Pk.app | exact Pk.appR | with_reducible apply Pk.na | (apply Pk.cons; (repeat first | exact .here | apply Rem.there | apply Rem.app)) | apply Pk.assoc | apply Pk.skip | apply Pk.skipA)) : WC P c Q cx L G H := WC.pk h k
theorem WK.pick {K : Act → World → Prop} (H' : List Own) (k : WK K cx L G H') (h : Pk H H' F := by repeat (first | exact Pk.nil | exact Pk.all | exact Pk.app | exact Pk.appR | with_reducible apply Pk.na | (apply Pk.cons; (repeat first | exact .here | apply Rem.there | apply Rem.app)) | apply Pk.assoc | apply Pk.skip | apply Pk.skipA)) : WK K cx L G H := WK.pk h k
theorem WL.pick {ops : Array Oper} {rest : List Oper} (H' : List Own) (k : WL P ops Q rest cx L G H') (h : Pk H H' F := by repeat (first | exact Pk.nil | exact Pk.all | exact Pk.app | exact Pk.appR | with_reducible apply Pk.na | (apply Pk.cons; (repeat first | exact .here | apply Rem.there | apply Rem.app)) | apply Pk.assoc | apply Pk.skip | apply Pk.skipA)) : WL P ops Q rest cx L G H := fun a w st => k a w (st.pk h)
theorem OW.callK {K : List (Nat × Value) → Gh → List Own → Prop} {d : Option Tmp} {ty : TypeId} {pos : String} {af : Array Edge} {gu : Option (Nat × Bool)} {f : Nat} {xs : Array Operand} {ats : Array TypeId} {vs : List Value} {Hf F : List Own} {R : Ending → Gh → List Own → Prop} (hx : Gb.evs L xs = some vs) [hb : Body P f]
    (hf : Fn P f vs.toArray G Hf R) (hd : dOk d cx.N = true)
    (k : ∀ v G' H', R (.returned v) G' H' → G.le G' → K (putL d v L) G' (H' ++ F)) (hp : Pk H Hf F := by repeat (first | exact Pk.nil | exact Pk.all | exact Pk.app | exact Pk.appR | with_reducible apply Pk.na | (apply Pk.cons; (repeat first | exact .here | apply Rem.there | apply Rem.app)) | apply Pk.assoc | apply Pk.skip | apply Pk.skipA)) (hno : ∀ e G' H', R e G' H' → ∃ v, e = .returned v := by intro e G' H' h; repeat (first | exact ⟨_, h.1⟩ | (obtain ⟨_, h⟩ := h))) : OW P Q ⟨d, .call { callee := .value (.func f), args := xs, argTypes := ats }, ty, pos, af, gu⟩ cx L G H K :=
  OW.callR hx hp.perm hf hd hno k
theorem Sat.pk {w : World} (h : Sat G H w) (p : Pk H H' F) : Sat G H' w := (h.perm p.perm).sub (List.sublist_append_left _ _)
theorem WC.drawS {id : Nat} {l : List Oper} {Hs : List Own} (hm : P.follows .mixedOrders = true) (hs : Pk H Hs F) (h : WB P l Q G Hs l.length (Array.replicate l.length false) cx L G H) : WC P (.region id l.toArray true) Q cx L G H := by
  intro a w st
  refine wp_region_held (S := Sat G Hs) hm ?_
  have := h a { w with drawn := w.drawn + 1 } (st.drew rfl) ((st.drew (w' := { w with drawn := w.drawn + 1 }) rfl).sat.pk hs)
  simpa using this
theorem Gv.loadRN {d : Option Tmp} {ty : TypeId} {pos : String} {af : Array Edge} {gu : Option (Nat × Bool)} {t n by_ : Nat} {z : Value} {x : Operand} {b o i : Nat} {Ha : List Own} {cs es : List Value} (hx : ev L x = some (.pointer (some ⟨b, o + i, none⟩))) [ha : Agg P t true] [hi : Inf P t n by_ z]
    (hr : ∀ w, Sat G Ha w → ∀ j v, cs[j]? = some v → w.cell? ⟨b, o + j, none⟩ = some v) (hs : Ha.Sublist H) (hc : (cs.drop i).take n = es) (hl : es.length = n) : Gv P L G H ⟨d, .load t x, ty, pos, af, gu⟩ (.agg es.toArray) :=
  fun a w sk st0 => by
    have := run_loadVarN (P := P) (w := w) (b := b) (o := o + i) ha hi hl (fun j v hv => by
      rw [← hc, List.getElem?_take] at hv
      split at hv
      · rw [List.getElem?_drop] at hv
        rw [Nat.add_assoc]; exact hr w (st0.sub hs) _ v hv
      · cases hv)
    simp [execOp, sk.eval hx, Instr.loadAt, Instr.sureAddr, this]
theorem Gv.loadR1 {d : Option Tmp} {ty : TypeId} {pos : String} {af : Array Edge} {gu : Option (Nat × Bool)} {t : Nat} {x : Operand} {b o i : Nat} {Ha : List Own} {cs : List Value} {v : Value} (hx : ev L x = some (.pointer (some ⟨b, o + i, none⟩))) [ha : Agg P t false]
    (hr : ∀ w, Sat G Ha w → ∀ j v, cs[j]? = some v → w.cell? ⟨b, o + j, none⟩ = some v) (hs : Ha.Sublist H) (hc : cs[i]? = some v) : Gv P L G H ⟨d, .load t x, ty, pos, af, gu⟩ v :=
  fun a w sk st0 => by
    have := run_loadVar1 (P := P) (w := w) (v := v) (p := ⟨b, o + i, none⟩) ha (hr w (st0.sub hs) _ v hc)
    simp [execOp, sk.eval hx, Instr.loadAt, Instr.sureAddr, this]
def WS (P : Program) (l : List Oper) (Q : Exit → Act → World → Prop) (S : World → Prop) (fuel : Nat) (listed : Array Bool) (cx : Cx) (L : List (Nat × Value)) (G : Gh) (H : List Own) : Prop :=
  ∀ a w, St cx L G H a w → S w → wpAnyH P .any l.toArray Q S fuel listed a w
theorem WC.drawW {id : Nat} {l : List Oper} {S : World → Prop} (hm : P.follows .mixedOrders = true) (hS : ∀ w, Sat G H w → S w) (h : WS P l Q S l.length (Array.replicate l.length false) cx L G H) : WC P (.region id l.toArray true) Q cx L G H := by
  intro a w st
  refine wp_region_held (S := S) hm ?_
  have := h a { w with drawn := w.drawn + 1 } (st.drew rfl) (hS _ (st.drew (w' := { w with drawn := w.drawn + 1 }) rfl).sat)
  simpa using this
theorem WS.done {l : List Oper} {S : World → Prop} {fuel : Nat} {listed : Array Bool} (hr : Region.ready .any l.toArray listed = []) (h : WK (Q .normal) cx L G H) : WS P l Q S fuel listed cx L G H :=
  fun a w st _ => wpAnyH_done hr (h a w st) fuel
theorem WS.tv {l : List Oper} {S : World → Prop} {fuel i : Nat} {listed : Array Bool} {o : Oper} {v : Value} (hi : l[i]? = some o) (hk : okP l listed i = true) (hw : wantB l.toArray L o = some true) (hd : dOk o.dst cx.N = true) [hQ : QPan Q] (hv : ∀ a w, Sk L a → S w → (execOp a.eval o).run P w = .ok (.value v) w)
    (h : WS P l Q S fuel (listed.setIfInBounds i true) cx (putL o.dst v L) G H) : WS P l Q S (fuel + 1) listed cx L G H := by
  intro a w st ss
  simp only [okP, Bool.and_eq_true] at hk
  exact wpAnyH_take (by simpa using hi) hk.1.1 hk.1.2 hk.2 (fun c a' w' => hQ.h c _ _ w' (defers_put _ _ _)) (.inl ⟨st.wanted hw, fun w' s => hv a w' st.slot s⟩) ss (h _ _ (st.put o.dst v hd st.sat st.stp) ss)
theorem WS.tp {l : List Oper} {S : World → Prop} {fuel i : Nat} {listed : Array Bool} {o : Oper} {v : Value} (hi : l[i]? = some o) (hk : okP l listed i = true) (hw : wantB l.toArray L o = some true) (hd : dOk o.dst cx.N = true) [hQ : QPan Q] (hv : Gp P L o v)
    (h : WS P l Q S fuel (listed.setIfInBounds i true) cx (putL o.dst v L) G H) : WS P l Q S (fuel + 1) listed cx L G H := WS.tv hi hk hw hd (fun a w sk _ => hv a sk w) h
theorem WS.sp {l : List Oper} {S : World → Prop} {fuel i : Nat} {listed : Array Bool} {o : Oper} (hi : l[i]? = some o) (hk : okP l listed i = true) (hw : wantB l.toArray L o = some false) (hd : dOk o.dst cx.N = true) [hQ : QPan Q]
    (h : WS P l Q S fuel (listed.setIfInBounds i true) cx (putL o.dst undef L) G H) : WS P l Q S (fuel + 1) listed cx L G H := by
  intro a w st ss
  simp only [okP, Bool.and_eq_true] at hk
  exact wpAnyH_take (by simpa using hi) hk.1.1 hk.1.2 hk.2 (fun c a' w' => hQ.h c _ _ w' (defers_put _ _ _)) (.inr ⟨st.wanted hw, rfl⟩) ss (h _ _ (st.put o.dst undef hd st.sat st.stp) ss)
theorem WS.one {l : List Oper} {S : World → Prop} {fuel i : Nat} {listed : Array Bool} {o : Oper} (hr : Region.ready .any l.toArray listed = [i]) (hi : l[i]? = some o) (hw : wantB l.toArray L o = some true)
    (h : OW P Q o cx L G H fun L' G' H' => (∀ w, Sat G' H' w → S w) ∧ WS P l Q S fuel (listed.setIfInBounds i true) cx L' G' H') : WS P l Q S (fuel + 1) listed cx L G H := by
  intro a w st _
  refine wpAnyH_all hr (by simp) fun j hj => ?_
  rw [List.mem_singleton] at hj
  subst hj
  unfold wpOp
  have ho' : l.toArray[j]? = some o := by simpa using hi
  simp only [ho', st.wanted hw, if_true]
  exact .inl (h _ (fun L' G' H' k a w st' => ⟨k.1 w st'.sat, k.2 a w st' (k.1 w st'.sat)⟩) a w st)
theorem load1_cell {d : Option Tmp} {ty : TypeId} {pos : String} {af : Array Edge} {gu : Option (Nat × Bool)} {t : Nat} {x : Operand} {p : Addr} {v : Value} (hx : ev L x = some (.pointer (some p))) [ha : Agg P t false] {a : Act} {w : World} (sk : Sk L a) (hc : w.cell? p = some v) : (execOp a.eval ⟨d, .load t x, ty, pos, af, gu⟩).run P w = .ok (.value v) w := by
  have := run_loadVar1 (P := P) (w := w) (v := v) (p := p) ha hc
  simp [execOp, sk.eval hx, Instr.loadAt, Instr.sureAddr, this]
theorem Sat.cell {w : World} {b o j : Nat} {c : Array Value} {t : TypeId} {fr : Nat × Nat} (h : Sat G H w) (hj : At H j (.blk b (.cells c t fr))) : w.cell? ⟨b, o, none⟩ = c[o]? := Own.cell (h.hold _ (List.mem_of_getElem? hj.get))
theorem OW.gv {o : Oper} {v : Value} {K : List (Nat × Value) → Gh → List Own → Prop} (g : Gv P L G H o v) (hd : dOk o.dst cx.N = true) (hk : K (putL o.dst v L) G H) : OW P Q o cx L G H K := OW.val hd (fun a w st => g a w st.slot st.sat) hk
theorem WK.reorder {K : Act → World → Prop} (h : Pk H H' []) (k : WK K cx L G H') : WK K cx L G H := WK.pk h k
end
section
variable {P : Program} {fn : Func} {G0 G : Gh} {H0 H H' F : List Own} {w0 : W0 H0} {R : Ending → Gh → List Own → Prop} {L : List (Nat × Value)} {N : Nat}
theorem QF.ofP {e : Exit} (he : e = .ret ∨ e = .normal) (v : Value) (hr : ∀ a w, St ⟨w0.w, G0, covs H0, N, [], w0.ex⟩ L G H a w → (results fn a.tmps).run P w = .ok v w) (h : R (.returned v) G H') (hs : Pk H H' F) : WK (QF P fn G0 w0.w H0 R e) ⟨w0.w, G0, covs H0, N, [], w0.ex⟩ L G H := by
  intro a w st
  have st' := st.pk hs
  have : a.defers = [] ∧ ∃ v, (results fn a.tmps).run P w = .ok v w ∧ ∃ G' H', R (.returned v) G' H' ∧ Sat G' H' w ∧ Stp (covs H0) G0 w0.w G' H' w := ⟨st.defs, v, hr a w st, G, H', h, st'.sat, st'.stp⟩
  rcases he with rfl | rfl
  · exact this
  · exact this
theorem QF.panicP {ch : List PanicEntry} (h : R (.panicked ch) G H') (hs : Pk H H' F := by repeat (first | exact Pk.nil | exact Pk.all | exact Pk.app | exact Pk.appR | with_reducible apply Pk.na | (apply Pk.cons; (repeat first | exact .here | apply Rem.there | apply Rem.app)) | apply Pk.assoc | apply Pk.skip | apply Pk.skipA)) : WK (QF P fn G0 w0.w H0 R (.panic ch)) ⟨w0.w, G0, covs H0, N, [], w0.ex⟩ L G H := by
  intro a w st
  have st' := st.pk hs
  exact ⟨st.defs, G, H', h, st'.sat, st'.stp⟩
theorem QF.p0 {e : Exit} (he : e = .ret ∨ e = .normal) (hres : fn.results = #[]) (h : R (.returned (.tuple #[])) G H') (hs : Pk H H' F := by repeat (first | exact Pk.nil | exact Pk.all | exact Pk.app | exact Pk.appR | with_reducible apply Pk.na | (apply Pk.cons; (repeat first | exact .here | apply Rem.there | apply Rem.app)) | apply Pk.assoc | apply Pk.skip | apply Pk.skipA)) : WK (QF P fn G0 w0.w H0 R e) ⟨w0.w, G0, covs H0, N, [], w0.ex⟩ L G H :=
  QF.ofP he (.tuple #[]) (fun a w st => by simp [results, hres]) h hs
theorem QF.p1 {e : Exit} (he : e = .ret ∨ e = .normal) {r : ResultVar} {v : Value} (hres : fn.results = #[r]) (hv : RV P L H r v) (h : R (.returned v) G H') (hs : Pk H H' F := by repeat (first | exact Pk.nil | exact Pk.all | exact Pk.app | exact Pk.appR | with_reducible apply Pk.na | (apply Pk.cons; (repeat first | exact .here | apply Rem.there | apply Rem.app)) | apply Pk.assoc | apply Pk.skip | apply Pk.skipA)) : WK (QF P fn G0 w0.w H0 R e) ⟨w0.w, G0, covs H0, N, [], w0.ex⟩ L G H :=
  QF.ofP he v (fun a w st => by simp [results_rvS, hres, hv.run st]) h hs
theorem QF.p2 {e : Exit} (he : e = .ret ∨ e = .normal) {r s : ResultVar} {v u : Value} (hres : fn.results = #[r, s]) (hv : RV P L H r v) (hu : RV P L H s u) (h : R (.returned (.tuple #[v, u])) G H') (hs : Pk H H' F := by repeat (first | exact Pk.nil | exact Pk.all | exact Pk.app | exact Pk.appR | with_reducible apply Pk.na | (apply Pk.cons; (repeat first | exact .here | apply Rem.there | apply Rem.app)) | apply Pk.assoc | apply Pk.skip | apply Pk.skipA)) : WK (QF P fn G0 w0.w H0 R e) ⟨w0.w, G0, covs H0, N, [], w0.ex⟩ L G H :=
  QF.ofP he (.tuple #[v, u]) (fun a w st => by simp [results_rvS, hres, hv.run st, hu.run st]) h hs
end
theorem Fn.unpk {P : Program} {f : FuncId} {vs : Array Value} {G : Gh} {H : List Own} {R : Ending → Gh → List Own → Prop} (h : Fn P f vs G H fun e G' H' => ∃ H2 F, Pk H' H2 F ∧ R e G' H2) : Fn P f vs G H R :=
  fun w hs hx => (h w hs hx).mono fun e w' ⟨G', H', ⟨H2, F, p, r⟩, s, st⟩ => ⟨G', H2, r, s.pk p, st.size, st.keep, st.gle, st.gnew, fun x hx => st.own x (p.perm.mem_iff.2 (List.mem_append_left _ hx)), st.weq⟩
section
variable {P : Program} {L : List (Nat × Value)} {d : Option Tmp} {ty : TypeId} {pos : String} {af : Array Edge} {gu : Option (Nat × Bool)}
theorem Gp.geI' {t t' : TypeId} {x y : Operand} {k : IntKind} {m n : Int} {r : Bool} (hx : ev L x = some (.int k m)) (hy : ev L y = some (.int k n)) (h : decide (n ≤ m) = r) : Gp P L ⟨d, .binOp .geq t x y t', ty, pos, af, gu⟩ (.bool r) := h ▸ Gp.geI hx hy
theorem Gp.leI' {t t' : TypeId} {x y : Operand} {k : IntKind} {m n : Int} {r : Bool} (hx : ev L x = some (.int k m)) (hy : ev L y = some (.int k n)) (h : decide (m ≤ n) = r) : Gp P L ⟨d, .binOp .leq t x y t', ty, pos, af, gu⟩ (.bool r) := h ▸ Gp.leI hx hy
theorem Gp.ltI' {t t' : TypeId} {x y : Operand} {k : IntKind} {m n : Int} {r : Bool} (hx : ev L x = some (.int k m)) (hy : ev L y = some (.int k n)) (h : decide (m < n) = r) : Gp P L ⟨d, .binOp .lss t x y t', ty, pos, af, gu⟩ (.bool r) := h ▸ Gp.ltI hx hy
theorem Gp.gtI' {t t' : TypeId} {x y : Operand} {k : IntKind} {m n : Int} {r : Bool} (hx : ev L x = some (.int k m)) (hy : ev L y = some (.int k n)) (h : decide (n < m) = r) : Gp P L ⟨d, .binOp .gtr t x y t', ty, pos, af, gu⟩ (.bool r) := h ▸ Gp.gtI hx hy
theorem Gp.eqI' {t t' : TypeId} {x y : Operand} {k : IntKind} {m n : Int} {r : Bool} (hx : ev L x = some (.int k m)) (hy : ev L y = some (.int k n)) (h : (m == n) = r) : Gp P L ⟨d, .binOp .eql t x y t', ty, pos, af, gu⟩ (.bool r) := h ▸ Gp.eqI hx hy
theorem Gp.neI' {t t' : TypeId} {x y : Operand} {k : IntKind} {m n : Int} {r : Bool} (hx : ev L x = some (.int k m)) (hy : ev L y = some (.int k n)) (h : (m != n) = r) : Gp P L ⟨d, .binOp .neq t x y t', ty, pos, af, gu⟩ (.bool r) := h ▸ Gp.neI hx hy
theorem Gp.add' {t t' : TypeId} {x y : Operand} {k : IntKind} {m n r : Int} (hx : ev L x = some (.int k m)) (hy : ev L y = some (.int k n)) (h : k.wrap (m + n) = r) : Gp P L ⟨d, .binOp .add t x y t', ty, pos, af, gu⟩ (.int k r) := h ▸ Gp.add hx hy
theorem Gp.sub' {t t' : TypeId} {x y : Operand} {k : IntKind} {m n r : Int} (hx : ev L x = some (.int k m)) (hy : ev L y = some (.int k n)) (h : k.wrap (m - n) = r) : Gp P L ⟨d, .binOp .sub t x y t', ty, pos, af, gu⟩ (.int k r) := h ▸ Gp.sub hx hy
end
end Go.Proofs.YtbfgljcjblfleaaGreatDoor.Gb
namespace Go.Proofs.YtbfgljcjblfleaaGreatDoor.Gb
open Go
section
variable {P : Program} {Q : Exit → Act → World → Prop} {cx : Cx} {L : List (Nat × Value)} {G : Gh} {H : List Own} {l : List Oper}
theorem WA.two {fuel i j : Nat} {listed : Array Bool} {o o' : Oper} (hr : Region.ready .any l.toArray listed = [i, j]) (hi : l[i]? = some o) (hj : l[j]? = some o') (hw : wantB l.toArray L o = some true) (hw' : wantB l.toArray L o' = some true)
    (h : OW P Q o cx L G H fun L' G' H' => WA P l Q fuel (listed.setIfInBounds i true) cx L' G' H') (h' : OW P Q o' cx L G H fun L' G' H' => WA P l Q fuel (listed.setIfInBounds j true) cx L' G' H') : WA P l Q (fuel + 1) listed cx L G H :=
  WA.all hr (by simp) fun k hk => by
    simp only [List.mem_cons, List.not_mem_nil, or_false] at hk
    rcases hk with rfl | rfl
    · exact ⟨o, hi, hw, h⟩
    · exact ⟨o', hj, hw', h'⟩
theorem WB.two {Gs : Gh} {Hs : List Own} {fuel i j : Nat} {listed : Array Bool} {o o' : Oper} (hr : Region.ready .any l.toArray listed = [i, j]) (hi : l[i]? = some o) (hj : l[j]? = some o') (hw : wantB l.toArray L o = some true) (hw' : wantB l.toArray L o' = some true)
    (h : OW P Q o cx L G H fun L' G' H' => (∀ w, Sat G' H' w → Sat Gs Hs w) ∧ WB P l Q Gs Hs fuel (listed.setIfInBounds i true) cx L' G' H') (h' : OW P Q o' cx L G H fun L' G' H' => (∀ w, Sat G' H' w → Sat Gs Hs w) ∧ WB P l Q Gs Hs fuel (listed.setIfInBounds j true) cx L' G' H') : WB P l Q Gs Hs (fuel + 1) listed cx L G H :=
  WB.all hr (by simp) fun k hk => by
    simp only [List.mem_cons, List.not_mem_nil, or_false] at hk
    rcases hk with rfl | rfl
    · exact ⟨o, hi, hw, h⟩
    · exact ⟨o', hj, hw', h'⟩
end
theorem splice_one {c : Array Value} {o : Nat} {v : Value} (h : o < c.size) : (splice c o [v]).toList = c.toList.set o v := by
  simp only [splice, List.length_singleton]
  apply List.ext_getElem?
  intro j
  simp only [List.getElem?_append, List.length_append, List.length_take, Array.length_toList, List.length_singleton, List.getElem?_take, List.getElem?_drop, List.getElem?_set]
  have m1 : min o c.size = o := by omega
  rw [m1]
  by_cases h1 : j < o
  · simp [h1, show j < o + 1 by omega, show o ≠ j by omega]
  · by_cases h2 : o = j
    · subst h2; simp [h]
    · simp [h1, h2, show ¬ j < o + 1 by omega, show o + 1 + (j - (o + 1)) = j by omega]
theorem Vec.put1 {T sz n cap b o : Nat} {A : Option Addr} {cs : List Value} {c : Array Value} (h : Vec T sz A n cap cs (.blk b (.cells c T (0, 0)))) (ho : o < n * sz) (v : Value) :
    A = some ⟨b, 0, none⟩ ∧ o + 1 ≤ c.size ∧ Vec T sz A n cap (cs.set o v) (.blk b (.cells (splice c o [v]) T (0, 0))) := by
  obtain ⟨hl, ⟨h1, h2, h3, h4⟩ | ⟨b', c', rfl, hx, h1, h2, rfl⟩⟩ := h
  · subst h2; simp at ho
  · cases hx
    have e2 : n * sz ≤ cap * sz := Nat.mul_le_mul_right _ h1
    refine ⟨rfl, by omega, by simpa using hl, .inr ⟨b, _, rfl, rfl, h1, by rw [size_splice (by simp; omega), h2], ?_⟩⟩
    rw [splice_one (by omega), List.take_set]
theorem set_elem {l : List Value} {k i j s : Nat} {v : Value} (hj : j < s) : (((l.set (i * s + j) v).drop (k * s)).take s) = if k = i then ((l.drop (k * s)).take s).set j v else (l.drop (k * s)).take s := by
  have hs : 0 < s := by omega
  apply List.ext_getElem?
  intro m
  by_cases hk : k = i
  · subst hk
    simp only [if_true, List.getElem?_take, List.getElem?_drop, List.getElem?_set, List.length_take, List.length_drop]
    by_cases hm : m < s
    · simp only [hm, if_true]
      by_cases hjm : j = m
      · subst hjm
        by_cases hq : k * s + j < l.length
        · simp [hq, show j < min s (l.length - k * s) by omega]
        · simp [hq, show ¬ j < min s (l.length - k * s) by omega]
      · simp [hjm]
    · simp only [hm, if_false]
      by_cases hjm : j = m
      · omega
      · simp [hjm]
  · simp only [if_neg hk, List.getElem?_take, List.getElem?_drop, List.getElem?_set]
    by_cases hm : m < s
    · simp only [hm, if_true]
      rw [if_neg]
      intro e
      rcases Nat.lt_or_gt_of_ne hk with h | h
      · have : (k + 1) * s ≤ i * s := Nat.mul_le_mul_right _ h
        rw [Nat.add_mul] at this; omega
      · have : (i + 1) * s ≤ k * s := Nat.mul_le_mul_right _ h
        rw [Nat.add_mul] at this; omega
    · simp [hm]
theorem elem_cell {c : Array Value} {cs es : List Value} {n i s k : Nat} {w : Value} (h : c.toList.take n = cs) (he : (cs.drop (i * s)).take s = es) (hw : es[k]? = some w) : c[0 + ((i : Nat) : Int).toNat * s + k]? = some w := by
  subst he
  rw [List.getElem?_take] at hw
  split at hw
  · rw [List.getElem?_drop, ← h, List.getElem?_take] at hw
    split at hw
    · simpa using hw
    · cases hw
  · cases hw
theorem Sl.none_zero {α : Type} {k : Kd α} {G : Gh} {A : Option Addr} {xs : List α} (h : Sl k G A xs) (hA : A = none) : xs.length = 0 := by
  cases xs with
  | nil => rfl
  | cons x r => obtain ⟨b, o, cs, e, _⟩ := h 0 x rfl; rw [hA] at e; cases e
theorem Sl.ofCs {α : Type} {k : Kd α} {G : Gh} {A : Option Addr} {xs : List α} {cs : List Value} (hz : cs = [] ∨ ∃ b, A = some ⟨b, 0, none⟩ ∧ Cs G b 0 cs) (hl : cs.length = xs.length * k.n) (hn : 0 < k.n) (hk : ∀ i x, xs[i]? = some x → k.K G x ((cs.drop (i * k.n)).take k.n)) : Sl k G A xs := by
  intro i x hx
  have hi := (List.getElem?_eq_some_iff.1 hx).1
  have hle : (i + 1) * k.n ≤ xs.length * k.n := Nat.mul_le_mul_right _ hi
  rw [Nat.add_mul] at hle
  rcases hz with rfl | ⟨b, rfl, hc⟩
  · simp at hl; omega
  · refine ⟨b, 0, _, rfl, hk i x hx, fun j v e => ?_⟩
    rw [List.getElem?_take] at e
    split at e
    · rw [List.getElem?_drop] at e
      have := hc _ v e
      rw [Nat.zero_add] at this ⊢; exact this
    · cases e
end Go.Proofs.YtbfgljcjblfleaaGreatDoor.Gb
namespace Go.Proofs.YtbfgljcjblfleaaGreatDoor.Gb
open Go
section
variable {P : Program} {L : List (Nat × Value)} {d : Option Tmp} {ty : TypeId} {pos : String} {af : Array Edge} {gu : Option (Nat × Bool)}
end
structure Bx (p : Prop) : Prop where
  out : p
section
variable {P : Program} {Q : Exit → Act → World → Prop} {cx : Cx} {L : List (Nat × Value)} {G : Gh} {H : List Own} {ops : Array Oper} {rest : List Oper} {d : Option Tmp} {ty : TypeId} {pos : String} {af : Array Edge} {gu : Option (Nat × Bool)} {gd : Nat × Bool} {g : Prop}
theorem Un.kL (h : WL P ops Q rest cx L G H) : WL P ops Q rest cx L G H := h
theorem Un.kC {c : Code} (h : WC P c Q cx L G H) : WC P c Q cx L G H := h
theorem Un.kG {o : Op} (h : WL P ops Q (⟨d, o, ty, pos, af, some gd⟩ :: rest) cx L G H) : WL P ops Q (⟨d, o, ty, pos, af, some gd⟩ :: rest) cx L G H := h
theorem Un.kN {o : Op} (h : WL P ops Q (⟨d, o, ty, pos, af, none⟩ :: rest) cx L G H) : WL P ops Q (⟨d, o, ty, pos, af, none⟩ :: rest) cx L G H := h
theorem Un.k_move {x : Operand} (h : WL P ops Q (⟨d, .move x, ty, pos, af, gu⟩ :: rest) cx L G H) : WL P ops Q (⟨d, .move x, ty, pos, af, gu⟩ :: rest) cx L G H := h
theorem Un.k_assign {x : Operand} (h : WL P ops Q (⟨d, .assign x, ty, pos, af, gu⟩ :: rest) cx L G H) : WL P ops Q (⟨d, .assign x, ty, pos, af, gu⟩ :: rest) cx L G H := h
theorem Un.k_fieldAddr {s : TypeId} {n : Nat} {x : Operand} (h : WL P ops Q (⟨d, .fieldAddr s x n, ty, pos, af, gu⟩ :: rest) cx L G H) : WL P ops Q (⟨d, .fieldAddr s x n, ty, pos, af, gu⟩ :: rest) cx L G H := h
theorem Un.k_nilCheck {x : Operand} (h : WL P ops Q (⟨d, .nilCheck x, ty, pos, af, gu⟩ :: rest) cx L G H) : WL P ops Q (⟨d, .nilCheck x, ty, pos, af, gu⟩ :: rest) cx L G H := h
theorem Un.k_extract {x : Operand} {n : Nat} (h : WL P ops Q (⟨d, .extract x n, ty, pos, af, gu⟩ :: rest) cx L G H) : WL P ops Q (⟨d, .extract x n, ty, pos, af, gu⟩ :: rest) cx L G H := h
theorem Un.k_load {s : TypeId} {x : Operand} (h : WL P ops Q (⟨d, .load s x, ty, pos, af, gu⟩ :: rest) cx L G H) : WL P ops Q (⟨d, .load s x, ty, pos, af, gu⟩ :: rest) cx L G H := h
theorem Un.k_unOp {u : UnOp} {s : TypeId} {x : Operand} (h : WL P ops Q (⟨d, .unOp u s x, ty, pos, af, gu⟩ :: rest) cx L G H) : WL P ops Q (⟨d, .unOp u s x, ty, pos, af, gu⟩ :: rest) cx L G H := h
theorem Un.k_pick {x y z : Operand} (h : WL P ops Q (⟨d, .pick x y z, ty, pos, af, gu⟩ :: rest) cx L G H) : WL P ops Q (⟨d, .pick x y z, ty, pos, af, gu⟩ :: rest) cx L G H := h
theorem Un.k_build {s : TypeId} {ps : Array (Nat × Operand)} (h : WL P ops Q (⟨d, .build s ps, ty, pos, af, gu⟩ :: rest) cx L G H) : WL P ops Q (⟨d, .build s ps, ty, pos, af, gu⟩ :: rest) cx L G H := h
theorem Un.k_indexAddr {s : TypeId} {x y : Operand} (h : WL P ops Q (⟨d, .indexAddr s x y, ty, pos, af, gu⟩ :: rest) cx L G H) : WL P ops Q (⟨d, .indexAddr s x y, ty, pos, af, gu⟩ :: rest) cx L G H := h
theorem Un.k_store {s : TypeId} {x y : Operand} (h : WL P ops Q (⟨d, .store s x y, ty, pos, af, gu⟩ :: rest) cx L G H) : WL P ops Q (⟨d, .store s x y, ty, pos, af, gu⟩ :: rest) cx L G H := h
theorem Un.k_len {xs : Array Operand} {ts : Array TypeId} (h : WL P ops Q (⟨d, .call { callee := .builtin .len, args := xs, argTypes := ts }, ty, pos, af, gu⟩ :: rest) cx L G H) : WL P ops Q (⟨d, .call { callee := .builtin .len, args := xs, argTypes := ts }, ty, pos, af, gu⟩ :: rest) cx L G H := h
theorem Un.k_eql {s u : TypeId} {x y : Operand} (h : WL P ops Q (⟨d, .binOp .eql s x y u, ty, pos, af, gu⟩ :: rest) cx L G H) : WL P ops Q (⟨d, .binOp .eql s x y u, ty, pos, af, gu⟩ :: rest) cx L G H := h
theorem Un.k_neq {s u : TypeId} {x y : Operand} (h : WL P ops Q (⟨d, .binOp .neq s x y u, ty, pos, af, gu⟩ :: rest) cx L G H) : WL P ops Q (⟨d, .binOp .neq s x y u, ty, pos, af, gu⟩ :: rest) cx L G H := h
theorem Un.k_lss {s u : TypeId} {x y : Operand} (h : WL P ops Q (⟨d, .binOp .lss s x y u, ty, pos, af, gu⟩ :: rest) cx L G H) : WL P ops Q (⟨d, .binOp .lss s x y u, ty, pos, af, gu⟩ :: rest) cx L G H := h
theorem Un.k_gtr {s u : TypeId} {x y : Operand} (h : WL P ops Q (⟨d, .binOp .gtr s x y u, ty, pos, af, gu⟩ :: rest) cx L G H) : WL P ops Q (⟨d, .binOp .gtr s x y u, ty, pos, af, gu⟩ :: rest) cx L G H := h
theorem Un.k_geq {s u : TypeId} {x y : Operand} (h : WL P ops Q (⟨d, .binOp .geq s x y u, ty, pos, af, gu⟩ :: rest) cx L G H) : WL P ops Q (⟨d, .binOp .geq s x y u, ty, pos, af, gu⟩ :: rest) cx L G H := h
theorem Un.k_leq {s u : TypeId} {x y : Operand} (h : WL P ops Q (⟨d, .binOp .leq s x y u, ty, pos, af, gu⟩ :: rest) cx L G H) : WL P ops Q (⟨d, .binOp .leq s x y u, ty, pos, af, gu⟩ :: rest) cx L G H := h
theorem Un.k_add {s u : TypeId} {x y : Operand} (h : WL P ops Q (⟨d, .binOp .add s x y u, ty, pos, af, gu⟩ :: rest) cx L G H) : WL P ops Q (⟨d, .binOp .add s x y u, ty, pos, af, gu⟩ :: rest) cx L G H := h
theorem Un.k_sub {s u : TypeId} {x y : Operand} (h : WL P ops Q (⟨d, .binOp .sub s x y u, ty, pos, af, gu⟩ :: rest) cx L G H) : WL P ops Q (⟨d, .binOp .sub s x y u, ty, pos, af, gu⟩ :: rest) cx L G H := h
end
def listedF (n k : Nat) : Array Bool := (List.replicate k true ++ List.replicate (n - k) false).toArray
theorem listedF_zero (n : Nat) : Array.replicate n false = listedF n 0 := by simp [listedF]
theorem listedF_succ {n k : Nat} (h : k < n) : (listedF n k).setIfInBounds k true = listedF n (k + 1) := by
  unfold listedF
  have e : n - k = (n - (k + 1)) + 1 := by omega
  rw [List.setIfInBounds_toArray, e, List.replicate_succ, List.set_append_right _ _ (by simp), List.length_replicate, Nat.sub_self, List.set_cons_zero, List.replicate_succ', List.append_assoc]
  rfl
def WQ (P : Program) (l : List Oper) (Q : Exit → Act → World → Prop) (k : Nat) (rest : List Oper) (cx : Cx) (L : List (Nat × Value)) (G : Gh) (H : List Own) : Prop :=
  l.drop k = rest → WA P l Q rest.length (listedF l.length k) cx L G H
section
variable {P : Program} {Q : Exit → Act → World → Prop} {cx : Cx} {L : List (Nat × Value)} {G : Gh} {H : List Own} {l rest : List Oper} {k : Nat} {o : Oper}
theorem WQ.start {id : Nat} (hm : P.follows .mixedOrders = true) (h : WQ P l Q 0 l cx L G H) : WC P (.region id l.toArray true) Q cx L G H :=
  WC.draw hm (by rw [listedF_zero]; exact h rfl)
theorem WQ.get (h : l.drop k = o :: rest) : l[k]? = some o ∧ k < l.length ∧ l.drop (k + 1) = rest := by
  have h1 : l[k]? = some o := by have := congrArg (fun x => x[0]?) h; simpa [List.getElem?_drop] using this
  exact ⟨h1, (List.getElem?_eq_some_iff.1 h1).1, by rw [← List.tail_drop, h]; rfl⟩
theorem WQ.tv {v : Value} (hv : Gv P L G H o v) (hk : okV l (listedF l.length k) k o = true) (hw : wantB l.toArray L o = some true) (hd : dOk o.dst cx.N = true) [hQ : QPan Q] (h : WQ P l Q (k + 1) rest cx (putL o.dst v L) G H) : WQ P l Q k (o :: rest) cx L G H := fun e => by
  obtain ⟨h1, h2, h3⟩ := WQ.get e
  refine WA.tv h1 hk hw hd hv ?_
  rw [listedF_succ h2]
  exact h h3
theorem WQ.tp {v : Value} (hv : Gp P L o v) (hk : okP l (listedF l.length k) k = true) (hw : wantB l.toArray L o = some true) (hd : dOk o.dst cx.N = true) [hQ : QPan Q] (h : WQ P l Q (k + 1) rest cx (putL o.dst v L) G H) : WQ P l Q k (o :: rest) cx L G H := fun e => by
  obtain ⟨h1, h2, h3⟩ := WQ.get e
  refine WA.tp h1 hk hw hd hv ?_
  rw [listedF_succ h2]
  exact h h3
theorem WQ.sp (hk : okP l (listedF l.length k) k = true) (hw : wantB l.toArray L o = some false) (hd : dOk o.dst cx.N = true) [hQ : QPan Q] (h : WQ P l Q (k + 1) rest cx (putL o.dst undef L) G H) : WQ P l Q k (o :: rest) cx L G H := fun e => by
  obtain ⟨h1, h2, h3⟩ := WQ.get e
  refine WA.sp h1 hk hw hd ?_
  rw [listedF_succ h2]
  exact h h3
theorem WQ.one (hr : Region.ready .any l.toArray (listedF l.length k) = [k]) (hw : wantB l.toArray L o = some true) (h : OW P Q o cx L G H fun L' G' H' => WQ P l Q (k + 1) rest cx L' G' H') : WQ P l Q k (o :: rest) cx L G H := fun e => by
  obtain ⟨h1, h2, h3⟩ := WQ.get e
  refine WA.one hr h1 hw ?_
  rw [listedF_succ h2]
  exact fun next hn => h next fun L' G' H' k' => hn L' G' H' (k' h3)
theorem WQ.done (hr : Region.ready .any l.toArray (listedF l.length k) = []) (h : WK (Q .normal) cx L G H) : WQ P l Q k [] cx L G H := fun e => WA.done hr h
end
section
variable {P : Program} {Q : Exit → Act → World → Prop} {cx : Cx} {L : List (Nat × Value)} {G : Gh} {H : List Own} {l : List Oper} {k : Nat} {rest : List Oper} {d : Option Tmp} {ty : TypeId} {pos : String} {af : Array Edge} {gu : Option (Nat × Bool)} {gd : Nat × Bool} {g : Prop}
theorem Uq.kL (h : WQ P l Q k rest cx L G H) : WQ P l Q k rest cx L G H := h
theorem Uq.kG {o : Op} (h : WQ P l Q k (⟨d, o, ty, pos, af, some gd⟩ :: rest) cx L G H) : WQ P l Q k (⟨d, o, ty, pos, af, some gd⟩ :: rest) cx L G H := h
theorem Uq.kN {o : Op} (h : WQ P l Q k (⟨d, o, ty, pos, af, none⟩ :: rest) cx L G H) : WQ P l Q k (⟨d, o, ty, pos, af, none⟩ :: rest) cx L G H := h
theorem Uq.k_move {x : Operand} (h : WQ P l Q k (⟨d, .move x, ty, pos, af, gu⟩ :: rest) cx L G H) : WQ P l Q k (⟨d, .move x, ty, pos, af, gu⟩ :: rest) cx L G H := h
theorem Uq.k_assign {x : Operand} (h : WQ P l Q k (⟨d, .assign x, ty, pos, af, gu⟩ :: rest) cx L G H) : WQ P l Q k (⟨d, .assign x, ty, pos, af, gu⟩ :: rest) cx L G H := h
theorem Uq.k_fieldAddr {s : TypeId} {n : Nat} {x : Operand} (h : WQ P l Q k (⟨d, .fieldAddr s x n, ty, pos, af, gu⟩ :: rest) cx L G H) : WQ P l Q k (⟨d, .fieldAddr s x n, ty, pos, af, gu⟩ :: rest) cx L G H := h
theorem Uq.k_nilCheck {x : Operand} (h : WQ P l Q k (⟨d, .nilCheck x, ty, pos, af, gu⟩ :: rest) cx L G H) : WQ P l Q k (⟨d, .nilCheck x, ty, pos, af, gu⟩ :: rest) cx L G H := h
theorem Uq.k_extract {x : Operand} {n : Nat} (h : WQ P l Q k (⟨d, .extract x n, ty, pos, af, gu⟩ :: rest) cx L G H) : WQ P l Q k (⟨d, .extract x n, ty, pos, af, gu⟩ :: rest) cx L G H := h
theorem Uq.k_load {s : TypeId} {x : Operand} (h : WQ P l Q k (⟨d, .load s x, ty, pos, af, gu⟩ :: rest) cx L G H) : WQ P l Q k (⟨d, .load s x, ty, pos, af, gu⟩ :: rest) cx L G H := h
theorem Uq.k_unOp {u : UnOp} {s : TypeId} {x : Operand} (h : WQ P l Q k (⟨d, .unOp u s x, ty, pos, af, gu⟩ :: rest) cx L G H) : WQ P l Q k (⟨d, .unOp u s x, ty, pos, af, gu⟩ :: rest) cx L G H := h
theorem Uq.k_pick {x y z : Operand} (h : WQ P l Q k (⟨d, .pick x y z, ty, pos, af, gu⟩ :: rest) cx L G H) : WQ P l Q k (⟨d, .pick x y z, ty, pos, af, gu⟩ :: rest) cx L G H := h
theorem Uq.k_build {s : TypeId} {ps : Array (Nat × Operand)} (h : WQ P l Q k (⟨d, .build s ps, ty, pos, af, gu⟩ :: rest) cx L G H) : WQ P l Q k (⟨d, .build s ps, ty, pos, af, gu⟩ :: rest) cx L G H := h
theorem Uq.k_indexAddr {s : TypeId} {x y : Operand} (h : WQ P l Q k (⟨d, .indexAddr s x y, ty, pos, af, gu⟩ :: rest) cx L G H) : WQ P l Q k (⟨d, .indexAddr s x y, ty, pos, af, gu⟩ :: rest) cx L G H := h
theorem Uq.k_len {xs : Array Operand} {ts : Array TypeId} (h : WQ P l Q k (⟨d, .call { callee := .builtin .len, args := xs, argTypes := ts }, ty, pos, af, gu⟩ :: rest) cx L G H) : WQ P l Q k (⟨d, .call { callee := .builtin .len, args := xs, argTypes := ts }, ty, pos, af, gu⟩ :: rest) cx L G H := h
theorem Uq.k_eql {s u : TypeId} {x y : Operand} (h : WQ P l Q k (⟨d, .binOp .eql s x y u, ty, pos, af, gu⟩ :: rest) cx L G H) : WQ P l Q k (⟨d, .binOp .eql s x y u, ty, pos, af, gu⟩ :: rest) cx L G H := h
theorem Uq.k_neq {s u : TypeId} {x y : Operand} (h : WQ P l Q k (⟨d, .binOp .neq s x y u, ty, pos, af, gu⟩ :: rest) cx L G H) : WQ P l Q k (⟨d, .binOp .neq s x y u, ty, pos, af, gu⟩ :: rest) cx L G H := h
theorem Uq.k_lss {s u : TypeId} {x y : Operand} (h : WQ P l Q k (⟨d, .binOp .lss s x y u, ty, pos, af, gu⟩ :: rest) cx L G H) : WQ P l Q k (⟨d, .binOp .lss s x y u, ty, pos, af, gu⟩ :: rest) cx L G H := h
theorem Uq.k_gtr {s u : TypeId} {x y : Operand} (h : WQ P l Q k (⟨d, .binOp .gtr s x y u, ty, pos, af, gu⟩ :: rest) cx L G H) : WQ P l Q k (⟨d, .binOp .gtr s x y u, ty, pos, af, gu⟩ :: rest) cx L G H := h
theorem Uq.k_geq {s u : TypeId} {x y : Operand} (h : WQ P l Q k (⟨d, .binOp .geq s x y u, ty, pos, af, gu⟩ :: rest) cx L G H) : WQ P l Q k (⟨d, .binOp .geq s x y u, ty, pos, af, gu⟩ :: rest) cx L G H := h
theorem Uq.k_leq {s u : TypeId} {x y : Operand} (h : WQ P l Q k (⟨d, .binOp .leq s x y u, ty, pos, af, gu⟩ :: rest) cx L G H) : WQ P l Q k (⟨d, .binOp .leq s x y u, ty, pos, af, gu⟩ :: rest) cx L G H := h
theorem Uq.k_add {s u : TypeId} {x y : Operand} (h : WQ P l Q k (⟨d, .binOp .add s x y u, ty, pos, af, gu⟩ :: rest) cx L G H) : WQ P l Q k (⟨d, .binOp .add s x y u, ty, pos, af, gu⟩ :: rest) cx L G H := h
theorem Uq.k_sub {s u : TypeId} {x y : Operand} (h : WQ P l Q k (⟨d, .binOp .sub s x y u, ty, pos, af, gu⟩ :: rest) cx L G H) : WQ P l Q k (⟨d, .binOp .sub s x y u, ty, pos, af, gu⟩ :: rest) cx L G H := h
end
theorem go {g g' : Prop} (h : g') (e : Bx g' → g := by
  intro hgo
  repeat (first
    | ((with_reducible refine Un.kL ?_); first
      | (refine Un.kN ?_; first
        | (refine Un.k_move ?_; first | refine WL.p (Gp.move rfl) (by kernel_rfl) rfl ?_)
        | (refine Un.k_assign ?_; first | refine WL.p (Gp.assign rfl) (by kernel_rfl) rfl ?_)
        | (refine Un.k_fieldAddr ?_; first | refine WL.p (Gp.fieldAddr rfl) (by kernel_rfl) rfl ?_)
        | (refine Un.k_nilCheck ?_; first | refine WL.p (Gp.nilCheck rfl) (by kernel_rfl) rfl ?_)
        | (refine Un.k_extract ?_; first | refine WL.p (Gp.extract rfl rfl) (by kernel_rfl) rfl ?_)
        | (refine Un.k_load ?_; first | refine WL.v (Gv.load1 rfl (by (repeat first | exact .here | apply At.there)) (by first | rfl | assumption)) (by kernel_rfl) rfl ?_ | refine WL.v (Gv.loadN rfl (by (repeat first | exact .here | apply At.there)) (by rfl) (by rfl)) (by kernel_rfl) rfl ?_ | refine WL.v (Gv.loadG1 rfl (by assumption) (by rfl)) (by kernel_rfl) rfl ?_ | refine WL.v (Gv.loadG0 rfl (by assumption) (by rfl)) (by kernel_rfl) rfl ?_ | refine WL.v (Gv.loadGN rfl (by assumption) (by rfl)) (by kernel_rfl) rfl ?_)
        | (refine Un.k_unOp ?_; first | refine WL.p (Gp.notB rfl) (by kernel_rfl) rfl ?_ | refine WL.p (Gp.negI rfl) (by kernel_rfl) rfl ?_)
        | (refine Un.k_pick ?_; first | refine WL.p (Gp.pickT rfl rfl) (by kernel_rfl) rfl ?_ | refine WL.p (Gp.pickF rfl rfl) (by kernel_rfl) rfl ?_)
        | (refine Un.k_build ?_; first | refine WL.p (Gp.build rfl rfl) (by kernel_rfl) rfl ?_)
        | (refine Un.k_indexAddr ?_; first | refine WL.p (Gp.indexAddr rfl rfl (by first | assumption | omega | decide) (by first | assumption | omega | decide)) (by kernel_rfl) rfl ?_)
        | (refine Un.k_store ?_; first | refine WL.op (by kernel_rfl) (OW.store rfl rfl (by (repeat first | exact .here | apply At.there)) rfl (by rfl) (by rfl) (by first | rfl | assumption) (by rfl) ?_ rfl))
        | (refine Un.k_len ?_; first | refine WL.p (Gp.lenSl rfl) (by kernel_rfl) rfl ?_ | refine WL.p (Gp.lenS rfl) (by kernel_rfl) rfl ?_)
        | (refine Un.k_eql ?_; first | refine WL.p (Gp.eqI' rfl rfl (by assumption)) (by kernel_rfl) rfl ?_ | refine WL.p (Gp.eqI rfl rfl) (by kernel_rfl) rfl ?_ | refine WL.p (Gp.eqS rfl rfl) (by kernel_rfl) rfl ?_ | refine WL.p (Gp.eqB rfl rfl) (by kernel_rfl) rfl ?_ | refine WL.p (Gp.nilSl rfl) (by kernel_rfl) rfl ?_)
        | (refine Un.k_neq ?_; first | refine WL.p (Gp.neI' rfl rfl (by assumption)) (by kernel_rfl) rfl ?_ | refine WL.p (Gp.neI rfl rfl) (by kernel_rfl) rfl ?_ | refine WL.p (Gp.neS rfl rfl) (by kernel_rfl) rfl ?_ | refine WL.p (Gp.neB rfl rfl) (by kernel_rfl) rfl ?_)
        | (refine Un.k_lss ?_; first | refine WL.p (Gp.ltI' rfl rfl (by assumption)) (by kernel_rfl) rfl ?_ | refine WL.p (Gp.ltI rfl rfl) (by kernel_rfl) rfl ?_ | refine WL.p (Gp.ltS rfl rfl) (by kernel_rfl) rfl ?_)
        | (refine Un.k_gtr ?_; first | refine WL.p (Gp.gtI' rfl rfl (by assumption)) (by kernel_rfl) rfl ?_ | refine WL.p (Gp.gtI rfl rfl) (by kernel_rfl) rfl ?_)
        | (refine Un.k_geq ?_; first | refine WL.p (Gp.geI' rfl rfl (by assumption)) (by kernel_rfl) rfl ?_ | refine WL.p (Gp.geI rfl rfl) (by kernel_rfl) rfl ?_ | refine WL.p (Gp.geS rfl rfl) (by kernel_rfl) rfl ?_)
        | (refine Un.k_leq ?_; first | refine WL.p (Gp.leI' rfl rfl (by assumption)) (by kernel_rfl) rfl ?_ | refine WL.p (Gp.leI rfl rfl) (by kernel_rfl) rfl ?_)
        | (refine Un.k_add ?_; first | refine WL.p (Gp.add' rfl rfl (by assumption)) (by kernel_rfl) rfl ?_)
        | (refine Un.k_sub ?_; first | refine WL.p (Gp.sub' rfl rfl (by assumption)) (by kernel_rfl) rfl ?_))
      | (refine Un.kG ?_; first
        | refine WL.skip (by rfl) rfl ?_
        | (refine Un.k_move ?_; first | refine WL.p (Gp.move rfl) (by rfl) rfl ?_)
        | (refine Un.k_assign ?_; first | refine WL.p (Gp.assign rfl) (by rfl) rfl ?_)
        | (refine Un.k_fieldAddr ?_; first | refine WL.p (Gp.fieldAddr rfl) (by rfl) rfl ?_)
        | (refine Un.k_nilCheck ?_; first | refine WL.p (Gp.nilCheck rfl) (by rfl) rfl ?_)
        | (refine Un.k_extract ?_; first | refine WL.p (Gp.extract rfl rfl) (by rfl) rfl ?_)
        | (refine Un.k_load ?_; first | refine WL.v (Gv.load1 rfl (by (repeat first | exact .here | apply At.there)) (by first | rfl | assumption)) (by rfl) rfl ?_ | refine WL.v (Gv.loadN rfl (by (repeat first | exact .here | apply At.there)) (by rfl) (by rfl)) (by rfl) rfl ?_ | refine WL.v (Gv.loadG1 rfl (by assumption) (by rfl)) (by rfl) rfl ?_ | refine WL.v (Gv.loadG0 rfl (by assumption) (by rfl)) (by rfl) rfl ?_ | refine WL.v (Gv.loadGN rfl (by assumption) (by rfl)) (by rfl) rfl ?_)
        | (refine Un.k_unOp ?_; first | refine WL.p (Gp.notB rfl) (by rfl) rfl ?_ | refine WL.p (Gp.negI rfl) (by rfl) rfl ?_)
        | (refine Un.k_pick ?_; first | refine WL.p (Gp.pickT rfl rfl) (by rfl) rfl ?_ | refine WL.p (Gp.pickF rfl rfl) (by rfl) rfl ?_)
        | (refine Un.k_build ?_; first | refine WL.p (Gp.build rfl rfl) (by rfl) rfl ?_)
        | (refine Un.k_indexAddr ?_; first | refine WL.p (Gp.indexAddr rfl rfl (by first | assumption | omega | decide) (by first | assumption | omega | decide)) (by rfl) rfl ?_)
        | (refine Un.k_store ?_; first | refine WL.op (by rfl) (OW.store rfl rfl (by (repeat first | exact .here | apply At.there)) rfl (by rfl) (by rfl) (by first | rfl | assumption) (by rfl) ?_ rfl))
        | (refine Un.k_len ?_; first | refine WL.p (Gp.lenSl rfl) (by rfl) rfl ?_ | refine WL.p (Gp.lenS rfl) (by rfl) rfl ?_)
        | (refine Un.k_eql ?_; first | refine WL.p (Gp.eqI' rfl rfl (by assumption)) (by rfl) rfl ?_ | refine WL.p (Gp.eqI rfl rfl) (by rfl) rfl ?_ | refine WL.p (Gp.eqS rfl rfl) (by rfl) rfl ?_ | refine WL.p (Gp.eqB rfl rfl) (by rfl) rfl ?_ | refine WL.p (Gp.nilSl rfl) (by rfl) rfl ?_)
        | (refine Un.k_neq ?_; first | refine WL.p (Gp.neI' rfl rfl (by assumption)) (by rfl) rfl ?_ | refine WL.p (Gp.neI rfl rfl) (by rfl) rfl ?_ | refine WL.p (Gp.neS rfl rfl) (by rfl) rfl ?_ | refine WL.p (Gp.neB rfl rfl) (by rfl) rfl ?_)
        | (refine Un.k_lss ?_; first | refine WL.p (Gp.ltI' rfl rfl (by assumption)) (by rfl) rfl ?_ | refine WL.p (Gp.ltI rfl rfl) (by rfl) rfl ?_ | refine WL.p (Gp.ltS rfl rfl) (by rfl) rfl ?_)
        | (refine Un.k_gtr ?_; first | refine WL.p (Gp.gtI' rfl rfl (by assumption)) (by rfl) rfl ?_ | refine WL.p (Gp.gtI rfl rfl) (by rfl) rfl ?_)
        | (refine Un.k_geq ?_; first | refine WL.p (Gp.geI' rfl rfl (by assumption)) (by rfl) rfl ?_ | refine WL.p (Gp.geI rfl rfl) (by rfl) rfl ?_ | refine WL.p (Gp.geS rfl rfl) (by rfl) rfl ?_)
        | (refine Un.k_leq ?_; first | refine WL.p (Gp.leI' rfl rfl (by assumption)) (by rfl) rfl ?_ | refine WL.p (Gp.leI rfl rfl) (by rfl) rfl ?_)
        | (refine Un.k_add ?_; first | refine WL.p (Gp.add' rfl rfl (by assumption)) (by rfl) rfl ?_)
        | (refine Un.k_sub ?_; first | refine WL.p (Gp.sub' rfl rfl (by assumption)) (by rfl) rfl ?_))
      | with_reducible refine WL.nil ?_)
    | ((with_reducible refine Un.kC ?_); first
      | with_reducible refine WC.seq ?_
      | with_reducible refine WC.region ?_
      | with_reducible refine WC.block ?_
      | with_reducible refine WC.skip ?_
      | with_reducible refine WC.exit ?_
      | refine WC.cond_true rfl ?_
      | refine WC.cond_false rfl ?_)
    | with_reducible refine WK.thN ?_
    | with_reducible refine WK.thR ?_
    | with_reducible refine WK.thE ?_
    | with_reducible refine WK.thP ?_
    | with_reducible refine WK.blN ?_
    | with_reducible refine WK.blR ?_
    | with_reducible refine WK.blP ?_
    | with_reducible refine WK.blE ?_
    | with_reducible refine WK.blO rfl ?_
    | with_reducible refine WK.thJ ?_)
  exact hgo.out) : g := e ⟨h⟩
end Go.Proofs.YtbfgljcjblfleaaGreatDoor.Gb
namespace Go.Proofs.YtbfgljcjblfleaaGreatDoor.Gb
open Go Go.MapKept
theorem map_eraseIdx' {α β : Type} (f : α → β) : ∀ (l : List α) (j : Nat), (l.eraseIdx j).map f = (l.map f).eraseIdx j
  | [], _ => rfl
  | _ :: _, 0 => rfl
  | a :: l, j + 1 => by simp [map_eraseIdx' f l j]
structure MRel {κ : Type} (emb : κ → Value) (d : TypeDesc) (es : Array MapEntry) (clock : Nat) (m : List (κ × Value)) : Prop where
  ents : es.toList.map (fun e => (e.key, e.val)) = m.map (fun p => (emb p.1, p.2))
  keys : (m.map (·.1)).Nodup
  borns : (es.toList.map (·.born)).Nodup
  old : ∀ e ∈ es.toList, e.born < clock
section
variable {κ : Type} [DecidableEq κ] {emb : κ → Value} {d : TypeDesc} {es : Array MapEntry} {clock : Nat} {m : List (κ × Value)}
def getA (m : List (κ × Value)) (k : κ) : Option Value := (m.find? (fun p => decide (p.1 = k))).map (·.2)
def setA (m : List (κ × Value)) (k : κ) (v : Value) : List (κ × Value) := if k ∈ m.map (·.1) then m.map (fun p => if p.1 = k then (k, v) else p) else m ++ [(k, v)]
def delA (m : List (κ × Value)) (k : κ) : List (κ × Value) := m.filter (fun p => decide (p.1 ≠ k))
class Emb (emb : κ → Value) (d : TypeDesc) : Prop where
  inj : ∀ {a b : κ}, emb a = emb b → a = b
  key : ∀ a : κ, IsKey d (emb a)
theorem MRel.empty : MRel emb d #[] 0 [] := ⟨rfl, by simp, by simp, by simp⟩
variable [he : Emb emb d]
theorem MRel.isKey (h : MRel emb d es clock m) : ∀ e ∈ es.toList, IsKey d e.key := fun e hm => by
  have h1 : (e.key, e.val) ∈ es.toList.map (fun e => (e.key, e.val)) := List.mem_map_of_mem hm
  rw [h.ents] at h1
  obtain ⟨p, _, hp⟩ := List.mem_map.1 h1
  have : emb p.1 = e.key := congrArg Prod.fst hp
  rw [← this]; exact he.key _
theorem MRel.at (h : MRel emb d es clock m) {j : Nat} {e : MapEntry} (hj : es.toList[j]? = some e) : ∃ p, m[j]? = some p ∧ e.key = emb p.1 ∧ e.val = p.2 := by
  have h1 := congrArg (fun l => l[j]?) h.ents
  simp only [List.getElem?_map, hj, Option.map_some] at h1
  cases hp : m[j]? with
  | none => rw [hp] at h1; cases h1
  | some p =>
    rw [hp] at h1
    simp only [Option.map_some, Option.some.injEq, Prod.mk.injEq] at h1
    exact ⟨p, rfl, h1⟩
theorem MRel.len (h : MRel emb d es clock m) : es.size = m.length := by
  have := congrArg List.length h.ents
  simpa using this
theorem MRel.absent (h : MRel emb d es clock m) {k : κ} (hk : ∀ x ∈ es.toList, x.key ≠ emb k) : k ∉ m.map (·.1) := fun hm => by
  obtain ⟨p, hp, rfl⟩ := List.mem_map.1 hm
  have h1 : (emb p.1, p.2) ∈ m.map (fun p => (emb p.1, p.2)) := List.mem_map.2 ⟨p, hp, rfl⟩
  rw [← h.ents] at h1
  obtain ⟨e, hm, hx⟩ := List.mem_map.1 h1
  exact hk e hm (congrArg Prod.fst hx)
theorem getA_absent {k : κ} (h : k ∉ m.map (·.1)) : getA m k = none := by
  unfold getA
  rw [List.find?_eq_none.2 fun p hp => by simp; exact fun e => h (List.mem_map.2 ⟨p, hp, e⟩)]
  rfl
theorem getA_at {j : Nat} {p : κ × Value} (hn : (m.map (·.1)).Nodup) (hj : m[j]? = some p) : getA m p.1 = some p.2 := by
  unfold getA
  induction m generalizing j with
  | nil => simp at hj
  | cons q m ih =>
    cases j with
    | zero => simp at hj; subst hj; simp
    | succ j =>
      simp only [List.getElem?_cons_succ] at hj
      simp only [List.map_cons, List.nodup_cons] at hn
      have hne : q.1 ≠ p.1 := fun e => hn.1 (e ▸ List.mem_map_of_mem (List.mem_of_getElem? hj))
      rw [List.find?_cons_of_neg (by simpa using hne)]
      exact ih hn.2 hj
theorem MRel.setNew (h : MRel emb d es clock m) {k : κ} {v : Value} (hk : k ∉ m.map (·.1)) : MRel emb d (es.push ⟨emb k, v, clock⟩) (clock + 1) (setA m k v) := by
  rw [setA, if_neg hk]
  refine ⟨by simp [h.ents], ?_, ?_, ?_⟩
  · rw [List.map_append, List.nodup_append]
    refine ⟨h.keys, by simp, fun a ha b hb => ?_⟩
    simp at hb; subst hb; exact fun e => hk (e ▸ ha)
  · rw [Array.toList_push, List.map_append, List.nodup_append]
    refine ⟨h.borns, by simp, fun a ha b hb => ?_⟩
    simp at hb; subst hb
    obtain ⟨e, he, rfl⟩ := List.mem_map.1 ha
    have := h.old e he; omega
  · intro e hm
    simp at hm
    rcases hm with hm | rfl
    · have := h.old e (by simpa using hm); omega
    · show clock < clock + 1; omega
theorem keys_set {k : κ} {v : Value} : (m.map (fun p => if p.1 = k then (k, v) else p)).map (·.1) = m.map (·.1) := by
  rw [List.map_map]
  apply List.map_congr_left
  intro p _
  simp only [Function.comp]
  split
  · rename_i e; exact e.symm
  · rfl
theorem MRel.setOld (h : MRel emb d es clock m) {k : κ} {v : Value} {j : Nat} {e : MapEntry} (hj : es.toList[j]? = some e) (hk : e.key = emb k) : MRel emb d (es.modify j fun e => { e with key := emb k, val := v }) clock (setA m k v) := by
  obtain ⟨p, hp, h1, h2⟩ := h.at hj
  have hpk : p.1 = k := he.inj (h1.symm.trans hk)
  have hmem : k ∈ m.map (·.1) := List.mem_map.2 ⟨p, List.mem_of_getElem? hp, hpk⟩
  rw [setA, if_pos hmem]
  have hjl : j < es.size := by simpa using (List.getElem?_eq_some_iff.1 hj).1
  refine ⟨?_, by rw [keys_set]; exact h.keys, ?_, ?_⟩
  · apply List.ext_getElem?
    intro i
    simp only [List.getElem?_map, Array.getElem?_toList, Array.getElem?_modify]
    by_cases hij : j = i
    · subst hij
      have : es[j]? = some e := by simpa using hj
      simp only [if_true, this, hp, Option.map_some, if_pos hpk]
    · rw [if_neg hij]
      have h3 := congrArg (fun l => l[i]?) h.ents
      simp only [List.getElem?_map, Array.getElem?_toList] at h3
      rw [h3]
      cases hq : m[i]? with
      | none => rfl
      | some q =>
        have hne : q.1 ≠ k := fun e' => by
          have hn := h.keys
          have h4 : (m.map (·.1))[i]? = some k := by rw [List.getElem?_map, hq]; simp [e']
          have h5 : (m.map (·.1))[j]? = some k := by rw [List.getElem?_map, hp]; simp [hpk]
          have hi1 := (List.getElem?_eq_some_iff.1 h4).1
          have := (List.getElem?_inj hi1 hn).1 (h4.trans h5.symm)
          exact hij this.symm
        simp only [Option.map_some, if_neg hne]
  · have : (es.modify j fun e => { e with key := emb k, val := v }).toList.map (·.born) = es.toList.map (·.born) := by
      apply List.ext_getElem?
      intro i
      simp only [List.getElem?_map, Array.getElem?_toList, Array.getElem?_modify]
      by_cases hij : j = i
      · subst hij; simp
        cases es[j]? <;> rfl
      · rw [if_neg hij]
    rw [this]; exact h.borns
  · intro x hx
    obtain ⟨i, hi⟩ := List.getElem?_of_mem hx
    rw [Array.getElem?_toList, Array.getElem?_modify] at hi
    by_cases hij : j = i
    · subst hij
      rw [if_pos rfl] at hi
      have hj' : es[j]? = some e := by simpa using hj
      rw [hj'] at hi
      simp at hi
      subst hi
      exact h.old e (List.mem_of_getElem? hj)
    · rw [if_neg hij] at hi
      exact h.old x (by rw [Array.mem_toList_iff]; exact Array.mem_of_getElem? hi)
theorem MRel.delOld (h : MRel emb d es clock m) {k : κ} {j : Nat} {e : MapEntry} (hj : es.toList[j]? = some e) (hk : e.key = emb k) : MRel emb d (es.eraseIdxIfInBounds j) clock (delA m k) := by
  obtain ⟨p, hp, h1, h2⟩ := h.at hj
  have hpk : p.1 = k := he.inj (h1.symm.trans hk)
  have hjl : j < es.size := by simpa using (List.getElem?_eq_some_iff.1 hj).1
  have hto : (es.eraseIdxIfInBounds j).toList = es.toList.eraseIdx j := by simp
  have hgo : ∀ (m : List (κ × Value)) (j : Nat), m[j]? = some p → (m.map (·.1)).Nodup → m.filter (fun p => decide (p.1 ≠ k)) = m.eraseIdx j := by
    intro m
    induction m with
    | nil => intro j hp _; simp at hp
    | cons q m ih =>
      intro j hp hn
      simp only [List.map_cons, List.nodup_cons] at hn
      cases j with
      | zero =>
        simp at hp; subst hp
        rw [List.filter_cons_of_neg (by simp [hpk]), List.eraseIdx_cons_zero, List.filter_eq_self]
        intro x hx
        have : x.1 ≠ k := fun e' => hn.1 (by rw [hpk, ← e']; exact List.mem_map_of_mem hx)
        simpa using this
      | succ j =>
        simp only [List.getElem?_cons_succ] at hp
        have hne : q.1 ≠ k := fun e' => hn.1 (by rw [e', ← hpk]; exact List.mem_map_of_mem (List.mem_of_getElem? hp))
        rw [List.filter_cons_of_pos (by simpa using hne), List.eraseIdx_cons_succ, ih j hp hn.2]
  have hdel : delA m k = m.eraseIdx j := hgo m j hp h.keys
  refine ⟨?_, ?_, ?_, ?_⟩
  · rw [hto, hdel, map_eraseIdx', h.ents, map_eraseIdx']
  · rw [hdel, map_eraseIdx']; exact h.keys.sublist (List.eraseIdx_sublist ..)
  · rw [hto, map_eraseIdx']; exact h.borns.sublist (List.eraseIdx_sublist ..)
  · intro x hx
    rw [hto] at hx
    exact h.old x ((List.eraseIdx_sublist ..).subset hx)
theorem delA_absent {k : κ} (h : k ∉ m.map (·.1)) : delA m k = m := by
  unfold delA
  rw [List.filter_eq_self]
  intro p hp
  have : p.1 ≠ k := fun e => h (List.mem_map.2 ⟨p, hp, e⟩)
  simpa using this
end
end Go.Proofs.YtbfgljcjblfleaaGreatDoor.Gb
namespace Go.Proofs.YtbfgljcjblfleaaGreatDoor.Gb
open Go Go.MapKept Go.Proofs
def isCells : Obj → Bool
  | .cells .. => true
  | _ => false
section
variable {P : Program} {Q : Exit → Act → World → Prop} {cx : Cx} {L : List (Nat × Value)} {G : Gh} {H : List Own} {K : List (Nat × Value) → Gh → List Own → Prop}
  {d : Option Tmp} {ty : TypeId} {pos : String} {af : Array Edge} {gu : Option (Nat × Bool)}
theorem St.swapObj {a : Act} {w : World} (st : St cx L G H a w) {j b : Nat} {o o' : Obj} (hj : At H j (.blk b o)) (h1 : isCells o = false) (h2 : isCells o' = false) :
    Sat G (H.set j (.blk b o')) { w with heap := w.heap.setIfInBounds b o' } ∧ Stp (covs H) G w G (H.set j (.blk b o')) { w with heap := w.heap.setIfInBounds b o' } := by
  have hb : w.heap[b]? = some o := st.sat.hold _ (List.mem_of_getElem? hj.get)
  have hs := heap_set (o' := o') hb
  exact ⟨st.sat.upd hj.get hs.1 hs.2, Stp.upd hj.get hb hs.1 hs.2 (by simp) ⟨rfl, rfl⟩ fun c T fr e => by subst e; cases h1⟩
theorem OW.makeMap {t : TypeId} (hd : dOk d cx.N = true) (k : ∀ b, K (putL d (.map (some b)) L) G (.blk b (.map #[] 0) :: H)) : OW P Q ⟨d, .makeMap t none, ty, pos, af, gu⟩ cx L G H K :=
  OW.gives hd fun a w st => ⟨.map (some w.heap.size), w.alloc (.map #[] 0), G, _, .inl (by simp [execOp, Instr.makeMap, newObj, Sem.run]), st.sat.alloc _, Stp.alloc _, k _⟩
section
variable {κ : Type} [DecidableEq κ] {emb : κ → Value} {ds : TypeDesc} [he : Emb emb ds] {t kt et : TypeId}
theorem run_mapSet {w : World} {b : Nat} {es : Array MapEntry} {clock : Nat} {l : List (κ × Value)} (hu : P.underlying t = some (.map kt et)) (hk : P.underlying kt = some ds) (hb : w.heap[b]? = some (.map es clock)) (hr : MRel emb ds es clock l) (key : κ) (v : Value) :
    ∃ es' clock', MRel emb ds es' clock' (setA l key v) ∧ (Instr.mapUpdate t (.map (some b)) (emb key) v).run P w = .ok () { w with heap := w.heap.setIfInBounds b (.map es' clock') } := by
  have hkey := he.key key
  rcases findNow_spec hkey es.toList 0 hr.isKey with ⟨h1, h2⟩ | ⟨j, e, h1, h2, h3⟩
  · exact ⟨_, _, hr.setNew (v := v) (hr.absent h2), by simp [Instr.mapUpdate, run_underlying hu, Go.MapKept.run_getObj_map hb, run_checkKey hk hkey, run_findKey hk h1, run_setObj_map _ hb, Result.andThen]⟩
  · have hj : es[j]? = some e := by simpa using h2
    exact ⟨_, _, hr.setOld (v := v) h2 h3, by simp [Instr.mapUpdate, run_underlying hu, Go.MapKept.run_getObj_map hb, run_checkKey hk hkey, run_findKey hk h1, hj, h3, run_keyThatStays hkey, run_setObj_map _ hb, Result.andThen]⟩
theorem OW.mapSet {m x y : Operand} {b j : Nat} {key : κ} {v : Value} {es : Array MapEntry} {clock : Nat} {l : List (κ × Value)} (hm : ev L m = some (.map (some b))) (hx : ev L x = some (emb key)) (hy : ev L y = some v) [hu : Und P t (.map kt et)] [hk : Und P kt ds]
    (hj : At H j (.blk b (.map es clock))) (hr : MRel emb ds es clock l) (hd : dOk d cx.N = true) (k : ∀ es' clock', MRel emb ds es' clock' (setA l key v) → K (putL d undef L) G (H.set j (.blk b (.map es' clock')))) :
    OW P Q ⟨d, .mapUpdate t m x y, ty, pos, af, gu⟩ cx L G H K :=
  OW.gives hd fun a w st => by
    obtain ⟨es', clock', h1, h2⟩ := run_mapSet (v := v) hu.h hk.h (st.sat.hold _ (List.mem_of_getElem? hj.get)) hr key
    have hs := st.swapObj (o' := .map es' clock') hj rfl rfl
    exact ⟨undef, _, G, _, .inr ⟨rfl, by simp [execOp, st.eval hm, st.eval hx, st.eval hy, h2]⟩, hs.1, hs.2, k _ _ h1⟩
theorem OW.insert {m x y : Operand} {b j : Nat} {key : κ} {v : Value} {es : Array MapEntry} {clock : Nat} {l : List (κ × Value)} (hm : ev L m = some (.map (some b))) (hx : ev L x = some (emb key)) (hy : ev L y = some v) [hu : Und P t (.map kt et)] [hk : Und P kt ds]
    (hj : At H j (.blk b (.map es clock))) (hr : MRel emb ds es clock l) (hd : dOk d cx.N = true) (k : ∀ es' clock', MRel emb ds es' clock' (setA l key v) → K (putL d undef L) G (H.set j (.blk b (.map es' clock')))) :
    OW P Q ⟨d, .insert t m x y, ty, pos, af, gu⟩ cx L G H K :=
  OW.gives hd fun a w st => by
    obtain ⟨es', clock', h1, h2⟩ := run_mapSet (v := v) hu.h hk.h (st.sat.hold _ (List.mem_of_getElem? hj.get)) hr key
    have hs := st.swapObj (o' := .map es' clock') hj rfl rfl
    exact ⟨undef, _, G, _, .inr ⟨rfl, by simp [execOp, st.eval hm, st.eval hx, st.eval hy, h2]⟩, hs.1, hs.2, k _ _ h1⟩
theorem Gv.lookup {m x : Operand} {b j n by_ : Nat} {z : Value} {key : κ} {v : Value} {es : Array MapEntry} {clock : Nat} {l : List (κ × Value)} (hm : ev L m = some (.map (some b))) (hx : ev L x = some (emb key)) [hu : Und P t (.map kt et)] [hk : Und P kt ds] [hi : Inf P et n by_ z]
    (hj : At H j (.blk b (.map es clock))) (hr : MRel emb ds es clock l) (hv : (getA l key).getD z = v) : Gv P L G H ⟨d, .lookup t m x false, ty, pos, af, gu⟩ v := fun a w sk s => by
  have hb : w.heap[b]? = some (.map es clock) := s.hold _ (List.mem_of_getElem? hj.get)
  have hkey := he.key key
  subst hv
  rcases findNow_spec hkey es.toList 0 hr.isKey with ⟨h1, h2⟩ | ⟨i, e, h1, h2, h3⟩
  · rw [getA_absent (hr.absent h2)]
    simp [execOp, sk.eval hm, sk.eval hx, Instr.lookup, run_underlying hu.h, Go.MapKept.run_getObj_map hb, run_checkKey hk.h hkey, run_findKey hk.h h1, Result.andThen, hi.zeroValue]
  · obtain ⟨p, hp, hp1, hp2⟩ := hr.at h2
    have hpk : p.1 = key := he.inj (hp1.symm.trans h3)
    have hg := getA_at hr.keys hp
    rw [hpk] at hg
    rw [hg]
    simp [execOp, sk.eval hm, sk.eval hx, Instr.lookup, run_underlying hu.h, Go.MapKept.run_getObj_map hb, run_checkKey hk.h hkey, run_findKey hk.h h1, Result.andThen, hp2]
theorem Gv.lenMap {x : Operand} {b j : Nat} {es : Array MapEntry} {clock : Nat} {l : List (κ × Value)} (hx : ev L x = some (.map (some b))) [hu : Und P t (.map kt et)]
    (hj : At H j (.blk b (.map es clock))) (hr : MRel emb ds es clock l) : Gv P L G H ⟨d, .call { callee := .builtin .len, args := #[x], argTypes := #[t] }, ty, pos, af, gu⟩ (.int .i64 l.length) := fun a w sk s => by
  have hb : w.heap[b]? = some (.map es clock) := s.hold _ (List.mem_of_getElem? hj.get)
  have := hr.len
  simp [execOp, resolve, invoke, builtin, sk.eval hx, Builtin.len_, run_underlying hu.h, Go.MapKept.run_getObj_map hb, goInt, Result.andThen, this]
theorem OW.mapDel {m x : Operand} {b j : Nat} {key : κ} {es : Array MapEntry} {clock : Nat} {l : List (κ × Value)} (hm : ev L m = some (.map (some b))) (hx : ev L x = some (emb key)) [hu : Und P t (.map kt et)] [hk : Und P kt ds]
    (hj : At H j (.blk b (.map es clock))) (hr : MRel emb ds es clock l) (hd : dOk d cx.N = true) (k : ∀ es' clock', MRel emb ds es' clock' (delA l key) → K (putL d (.tuple #[]) L) G (H.set j (.blk b (.map es' clock')))) {t2 : TypeId} :
    OW P Q ⟨d, .call { callee := .builtin .delete, args := #[m, x], argTypes := #[t, t2] }, ty, pos, af, gu⟩ cx L G H K :=
  OW.gives hd fun a w st => by
    have hb : w.heap[b]? = some (.map es clock) := st.sat.hold _ (List.mem_of_getElem? hj.get)
    have hkey := he.key key
    rcases findNow_spec hkey es.toList 0 hr.isKey with ⟨h1, h2⟩ | ⟨i, e, h1, h2, h3⟩
    · have hs := st.swapObj (o' := .map es clock) hj rfl rfl
      exact ⟨.tuple #[], _, G, _, .inl (by simp [execOp, resolve, invoke, builtin, st.eval hm, st.eval hx, Builtin.delete_, run_underlying hu.h, Go.MapKept.run_getObj_map hb, run_checkKey hk.h hkey, run_findKey hk.h h1, run_setObj_map _ hb, Result.andThen]), hs.1, hs.2, k _ _ (by rw [delA_absent (hr.absent h2)]; exact hr)⟩
    · have hs := st.swapObj (o' := .map (es.eraseIdxIfInBounds i) clock) hj rfl rfl
      exact ⟨.tuple #[], _, G, _, .inl (by simp [execOp, resolve, invoke, builtin, st.eval hm, st.eval hx, Builtin.delete_, run_underlying hu.h, Go.MapKept.run_getObj_map hb, run_checkKey hk.h hkey, run_findKey hk.h h1, run_setObj_map _ hb, Result.andThen]), hs.1, hs.2, k _ _ (hr.delOld h2 h3)⟩
def IRel (emb : κ → Value) (es : Array MapEntry) (seen : Array Nat) (rem : List (κ × Value)) : Prop := ∀ p : κ × Value, p ∈ rem ↔ ∃ e ∈ (leftOf es seen).toList, e.key = emb p.1 ∧ e.val = p.2
theorem OW.rangeMap {x : Operand} {b j : Nat} {es : Array MapEntry} {clock : Nat} {l : List (κ × Value)} (hx : ev L x = some (.map (some b))) [hu : Und P t (.map kt et)] (hj : At H j (.blk b (.map es clock))) (hr : MRel emb ds es clock l) (hd : dOk d cx.N = true)
    (k : ∀ it, IRel emb es #[] l → K (putL d (.pointer (some ⟨it, 0, none⟩)) L) G (.blk it (.mapIter (some b) clock #[] clock) :: H)) : OW P Q ⟨d, .range t x, ty, pos, af, gu⟩ cx L G H K :=
  OW.gives hd fun a w st => ⟨.pointer (some ⟨w.heap.size, 0, none⟩), w.alloc (.mapIter (some b) clock #[] clock), G, _,
    .inl (by simp [execOp, st.eval hx, run_range_map w t kt et b es clock hu.h (st.sat.hold _ (List.mem_of_getElem? hj.get)), Result.andThen]), st.sat.alloc _, Stp.alloc _, k _ fun p => by
      have e1 : (leftOf es #[]).toList = es.toList := by simp [leftOf]
      rw [e1]
      constructor
      · intro hp
        have h1 : (emb p.1, p.2) ∈ l.map (fun p => (emb p.1, p.2)) := List.mem_map.2 ⟨p, hp, rfl⟩
        rw [← hr.ents] at h1
        obtain ⟨e, hm, hx⟩ := List.mem_map.1 h1
        exact ⟨e, hm, congrArg Prod.fst hx, congrArg Prod.snd hx⟩
      · rintro ⟨e, hm, h1, h2⟩
        obtain ⟨i, hi⟩ := List.getElem?_of_mem hm
        obtain ⟨q, hq, h3, h4⟩ := hr.at hi
        have h5 : q.1 = p.1 := he.inj (h3.symm.trans h1)
        have : q = p := Prod.ext h5 (h4.symm.trans h2)
        rw [← this]; exact List.mem_of_getElem? hq⟩
theorem born_inj {es : Array MapEntry} (hn : (es.toList.map (·.born)).Nodup) {e e' : MapEntry} (h : e ∈ es.toList) (h' : e' ∈ es.toList) (hb : e.born = e'.born) : e = e' := by
  obtain ⟨i, hi⟩ := List.getElem?_of_mem h
  obtain ⟨j, hj⟩ := List.getElem?_of_mem h'
  have h1 : (es.toList.map (·.born))[i]? = some e.born := by rw [List.getElem?_map, hi]; rfl
  have h2 : (es.toList.map (·.born))[j]? = some e.born := by rw [List.getElem?_map, hj, hb]; rfl
  have := (List.getElem?_inj (List.getElem?_eq_some_iff.1 h1).1 hn).1 (h1.trans h2.symm)
  subst this
  rw [hi] at hj; exact Option.some.inj hj
theorem OW.next {x : Operand} {r b i j : Nat} {es : Array MapEntry} {clock : Nat} {seen : Array Nat} {l rem : List (κ × Value)} (hx : ev L x = some (.pointer (some ⟨r, 0, none⟩))) (hi : At H i (.blk r (.mapIter (some b) clock seen clock))) (hj : At H j (.blk b (.map es clock))) (hr : MRel emb ds es clock l) (hrem : IRel emb es seen rem) (hd : dOk d cx.N = true)
    (k0 : rem = [] → K (putL d (.tuple #[.bool false]) L) G H)
    (k1 : ∀ p ∈ rem, ∀ e ∈ es.toList, e.key = emb p.1 → e.val = p.2 → IRel emb es (seen.push e.born) (delA rem p.1) → K (putL d (.tuple #[.bool true, emb p.1, p.2]) L) G (H.set i (.blk r (.mapIter (some b) clock (seen.push e.born) clock)))) :
    OW P Q ⟨d, .next x false, ty, pos, af, gu⟩ cx L G H K :=
  OW.gives hd fun a w st => by
    have hb : w.heap[b]? = some (.map es clock) := st.sat.hold _ (List.mem_of_getElem? hj.get)
    have hrr : w.heap[r]? = some (.mapIter (some b) clock seen clock) := st.sat.hold _ (List.mem_of_getElem? hi.get)
    rcases run_next_at (P := P) w ty r b clock clock seen es clock hrr hb hr.old (Nat.le_refl _) with ⟨h0, hrun⟩ | ⟨e, hm, w1, hw1, hrun⟩
    · refine ⟨.tuple #[.bool false], w, G, H, .inl (by simp [execOp, st.eval hx, hrun, Result.andThen]), st.sat, Stp.drew rfl, k0 ?_⟩
      refine List.eq_nil_iff_forall_not_mem.2 fun p hp => ?_
      obtain ⟨e, hm, _⟩ := (hrem p).1 hp
      have : (leftOf es seen).toList = [] := List.eq_nil_of_length_eq_zero (by simpa using h0)
      rw [this] at hm; cases hm
    · have hmem : e ∈ es.toList := by simp [leftOf] at hm ⊢; exact hm.1
      obtain ⟨n, hn⟩ := List.getElem?_of_mem hmem
      obtain ⟨p, hp, h1, h2⟩ := hr.at hn
      have hprem : p ∈ rem := (hrem p).2 ⟨e, hm, h1, h2⟩
      have hs := st.swapObj (o' := .mapIter (some b) clock (seen.push e.born) clock) hi rfl rfl
      have hirel : IRel emb es (seen.push e.born) (delA rem p.1) := fun q => by
        unfold delA
        rw [List.mem_filter, hrem q]
        constructor
        · rintro ⟨⟨e', hm', h3, h4⟩, hne⟩
          refine ⟨e', ?_, h3, h4⟩
          simp only [leftOf, Array.toList_filter, List.mem_filter] at hm' ⊢
          refine ⟨hm'.1, ?_⟩
          have hne' : e'.born ≠ e.born := fun hbn => by
            have := born_inj hr.borns hm'.1 hmem hbn
            subst this
            have : q.1 = p.1 := he.inj (h3.symm.trans h1)
            simp [this] at hne
          have h5 := hm'.2
          simp at h5 ⊢
          exact ⟨h5, hne'⟩
        · rintro ⟨e', hm', h3, h4⟩
          simp only [leftOf, Array.toList_filter, List.mem_filter] at hm'
          have h5 := hm'.2
          simp at h5
          refine ⟨⟨e', by simp only [leftOf, Array.toList_filter, List.mem_filter]; exact ⟨hm'.1, by simpa using h5.1⟩, h3, h4⟩, ?_⟩
          have hne : q.1 ≠ p.1 := fun hq => by
            obtain ⟨m, hm2⟩ := List.getElem?_of_mem hm'.1
            obtain ⟨q', hq', h6, h7⟩ := hr.at hm2
            have e1 : q'.1 = p.1 := (he.inj (h6.symm.trans h3)).trans hq
            have hk := hr.keys
            have e2 : (l.map (·.1))[m]? = some p.1 := by rw [List.getElem?_map, hq']; simp [e1]
            have e3 : (l.map (·.1))[n]? = some p.1 := by rw [List.getElem?_map, hp]; rfl
            have := (List.getElem?_inj (List.getElem?_eq_some_iff.1 e2).1 hk).1 (e2.trans e3.symm)
            subst this
            rw [hn] at hm2
            have := Option.some.inj hm2
            exact h5.2 (by rw [← this])
          simpa using hne
      have hK := k1 p hprem e hmem h1 h2 hirel
      rw [h1, h2] at hrun
      rcases hw1 with rfl | rfl
      · exact ⟨_, _, G, _, .inl (by simp [execOp, st.eval hx, hrun, Result.andThen]; rfl), hs.1, hs.2, hK⟩
      · have hs' := (st.drew (w' := w.drew) rfl).swapObj (o' := .mapIter (some b) clock (seen.push e.born) clock) hi rfl rfl
        refine ⟨_, _, G, _, .inl (by simp [execOp, st.eval hx, hrun, Result.andThen]; rfl), hs'.1, ?_, hK⟩
        exact (Stp.drew (w := w) (w' := w.drew) rfl).then hs'.2
theorem Gv.entry {x : Operand} {r b i j : Nat} {es : Array MapEntry} {clock : Nat} {seen : Array Nat} {l : List (κ × Value)} {e : MapEntry} {u v : Value} (hx : ev L x = some (.pointer (some ⟨r, 0, none⟩))) (hi : At H i (.blk r (.mapIter (some b) clock (seen.push e.born) clock))) (hj : At H j (.blk b (.map es clock))) (hr : MRel emb ds es clock l) (hm : e ∈ es.toList) (h1 : e.key = u) (h2 : e.val = v) :
    Gv P L G H ⟨d, .entry x, ty, pos, af, gu⟩ (.tuple #[u, v]) := fun a w sk s => by
  have hb : w.heap[b]? = some (.map es clock) := s.hold _ (List.mem_of_getElem? hj.get)
  have hrr : w.heap[r]? = some (.mapIter (some b) clock (seen.push e.born) clock) := s.hold _ (List.mem_of_getElem? hi.get)
  subst h1 h2
  simp [execOp, sk.eval hx, run_entry_at w r b clock seen es clock e hrr hb hm hr.borns, Result.andThen]
end
theorem Gp.minI {x y : Operand} {ts : Array TypeId} {m n r : Int} (hx : ev L x = some (.int .i64 m)) (hy : ev L y = some (.int .i64 n)) (h : (if n < m then n else m) = r) : Gp P L ⟨d, .call { callee := .builtin .min, args := #[x, y], argTypes := ts }, ty, pos, af, gu⟩ (.int .i64 r) :=
  fun a st w => by subst h; simp [execOp, resolve, invoke, builtin, st.eval hx, st.eval hy, Builtin.min_, Builtin.min2]
theorem Gp.buildArr {t n by_ m e en eb : Nat} {z ze : Value} {ps : Array (Nat × Operand)} {vs : List (Nat × Value)} {cells : List Value} (hu : P.underlying t = some (.array m e)) (hp : evP L ps = some vs) [hi : Inf P t n by_ z] [hi2 : Inf P e en eb ze]
    (hf' : fillS (fun i => some (i * en, en)) z.cells.toList vs = some cells) : Gp P L ⟨d, .build t ps, ty, pos, af, gu⟩ (.agg cells.toArray) := fun a st w => by
  have he := Sk.evP st hp
  have hf := fill_of_fillS _ _ _ _ hf'
  have hrun : ∀ PS : Array (Nat × Value), PS.toList = vs → (Instr.build t PS).run P w = .ok (.agg cells.toArray) w := by
    intro PS he
    simp [Instr.build, hi.zeroValue, run_underlying hu, he, hi2.sizeOf, hf]
  simp only [execOp, Sem.run_bind, hrun _ he, Result.andThen_ok]
  rfl
theorem Gp.indexArr {t m e en eb b o : Nat} {ze : Value} {x y : Operand} {k : IntKind} {i : Int} (hu : P.underlying t = some (.array m e)) (hx : ev L x = some (.pointer (some ⟨b, o, none⟩))) (hy : ev L y = some (.int k i)) [hi2 : Inf P e en eb ze] (h0 : 0 ≤ i) (h1 : i < m) :
    Gp P L ⟨d, .indexAddr t x y, ty, pos, af, gu⟩ (.pointer (some ⟨b, o + i.toNat * en, none⟩)) := fun a st w => by
  have hadd : (⟨b, o, none⟩ : Addr).add (i.toNat * en) = ⟨b, o + i.toNat * en, none⟩ := by unfold Addr.add; split <;> simp_all
  simp [execOp, st.eval hx, st.eval hy, Instr.indexAt, Instr.sureAddr, run_underlying hu, hi2.sizeOf, asIntOf, h0, h1, hadd]
end
end Go.Proofs.YtbfgljcjblfleaaGreatDoor.Gb
namespace Go.Proofs.YtbfgljcjblfleaaGreatDoor.Gb
structure V where
  t : Int
  i : Int
  b : Bool
  s : ByteArray
deriving instance DecidableEq for V
structure Pr where
  name : ByteArray
  exp : Bool
  params : List Int
  locals : Int
  result : Int
  code : List (Int × Int)
structure Nd where
  path : ByteArray
  name : ByteArray
  params : List Int
  result : Int
structure Wd where
  consts : List V
  needs : List Nd
  procs : List Pr
structure SS where
  reached : Bool
  unlike : Bool
  vars : List Int
  stack : List Int
deriving DecidableEq
structure Rw where
  name : ByteArray
  n : Bool
  takes : Int
  lays : Int
def rw0 : Rw := ⟨⟨#[]⟩, false, 0, 0⟩
def rowsC : List Rw := [rw0, ⟨⟨#[99, 111, 110, 115, 116]⟩, true, 0, 1⟩, ⟨⟨#[108, 111, 97, 100]⟩, true, 0, 1⟩, ⟨⟨#[115, 116, 111, 114, 101]⟩, true, 1, 0⟩, ⟨⟨#[100, 114, 111, 112]⟩, false, 1, 0⟩, ⟨⟨#[106, 117, 109, 112]⟩, true, 0, 0⟩, ⟨⟨#[117, 110, 108, 101, 115, 115]⟩, true, 1, 0⟩, ⟨⟨#[99, 97, 108, 108]⟩, true, 0, 0⟩, ⟨⟨#[111, 117, 116, 101, 114]⟩, true, 0, 0⟩, ⟨⟨#[114, 101, 116, 117, 114, 110]⟩, false, 0, 0⟩, ⟨⟨#[103, 105, 118, 101]⟩, false, 1, 0⟩, ⟨⟨#[112, 114, 105, 110, 116]⟩, false, 1, 0⟩, ⟨⟨#[101, 113]⟩, false, 2, 1⟩, ⟨⟨#[110, 101]⟩, false, 2, 1⟩, ⟨⟨#[108, 116]⟩, false, 2, 1⟩, ⟨⟨#[108, 101]⟩, false, 2, 1⟩, ⟨⟨#[103, 116]⟩, false, 2, 1⟩, ⟨⟨#[103, 101]⟩, false, 2, 1⟩, ⟨⟨#[97, 100, 100]⟩, false, 2, 1⟩, ⟨⟨#[115, 117, 98]⟩, false, 2, 1⟩, ⟨⟨#[106, 111, 105, 110]⟩, false, 2, 1⟩, ⟨⟨#[109, 117, 108]⟩, false, 2, 1⟩, ⟨⟨#[100, 105, 118]⟩, false, 2, 1⟩, ⟨⟨#[114, 101, 109]⟩, false, 2, 1⟩, ⟨⟨#[110, 101, 103]⟩, false, 1, 1⟩, ⟨⟨#[110, 111, 116]⟩, false, 1, 1⟩, ⟨⟨#[108, 101, 110]⟩, false, 1, 1⟩]
def rowC (c : Int) : Rw := if c < 1 then rw0 else (rowsC[c.toNat]?).getD rw0
def mayR (c n : Int) : Bool := ((rowC c).name != ⟨#[]⟩) && (decide (0 ≤ n) && (decide (n ≤ 2147483647) && ((rowC c).n || (n == 0))))
def leT (a b : Int) : Prop := b = 0 ∨ a = b
theorem leT.refl (a : Int) : leT a a := .inr rfl
theorem leT.trans {a b c : Int} (h : leT a b) (h' : leT b c) : leT a c := by
  rcases h' with h' | rfl
  · exact .inl h'
  · exact h
theorem leT.anti {a b : Int} (h : leT a b) (h' : leT b a) : a = b := by unfold leT at *; omega
inductive LeR : List Int → List Int → Prop where
  | nil : LeR [] []
  | cons {a b : Int} {aas bs : List Int} (h : leT a b) (t : LeR aas bs) : LeR (a :: aas) (b :: bs)
theorem LeR.refl : ∀ a, LeR a a
  | [] => .nil
  | a :: l => .cons (leT.refl a) (LeR.refl l)
theorem LeR.trans {a b c : List Int} (h : LeR a b) (h' : LeR b c) : LeR a c := by
  induction h generalizing c with
  | nil => exact h'
  | cons h t ih => cases h' with | cons h2 t2 => exact .cons (h.trans h2) (ih t2)
theorem LeR.anti {a b : List Int} (h : LeR a b) (h' : LeR b a) : a = b := by
  induction h with
  | nil => rfl
  | cons h t ih => cases h' with | cons h2 t2 => rw [h.anti h2, ih t2]
theorem LeR.length {a b : List Int} (h : LeR a b) : a.length = b.length := by
  induction h with
  | nil => rfl
  | cons _ _ ih => simp [ih]
theorem LeR.get {a b : List Int} (h : LeR a b) (n : Nat) : leT ((a[n]?).getD 0) ((b[n]?).getD 0) := by
  induction h generalizing n with
  | nil => exact leT.refl _
  | cons h t ih => cases n with | zero => exact h | succ n => exact ih n
theorem LeR.set {a b : List Int} (h : LeR a b) (n : Nat) {x y : Int} (hx : leT x y) : LeR (a.set n x) (b.set n y) := by
  induction h generalizing n with
  | nil => exact .nil
  | cons h t ih => cases n with | zero => exact .cons hx t | succ n => exact .cons h (ih n)
theorem LeR.take {a b : List Int} (h : LeR a b) (n : Nat) : LeR (a.take n) (b.take n) := by
  induction h generalizing n with
  | nil => simp; exact .nil
  | cons h t ih => cases n with | zero => exact .nil | succ n => exact .cons h (ih n)
theorem LeR.append {a b c d : List Int} (h : LeR a b) (h' : LeR c d) : LeR (a ++ c) (b ++ d) := by
  induction h with
  | nil => exact h'
  | cons h t ih => exact .cons h ih
def joinT (x y : Int) : Int := if x = y then x else 0
theorem joinT_le {x y m : Int} : leT (joinT x y) m ↔ leT x m ∧ leT y m := by
  unfold joinT leT
  split <;> omega
def joinRow : List Int → List Int → List Int
  | a :: aas, b :: bs => joinT a b :: joinRow aas bs
  | _, _ => []
theorem joinRow_length : ∀ {a b : List Int}, a.length = b.length → (joinRow a b).length = a.length
  | [], [], _ => rfl
  | a :: aas, b :: bs, h => by simp only [joinRow, List.length_cons]; rw [joinRow_length (by simpa using h)]
theorem joinRow_le : ∀ {a b m : List Int}, a.length = b.length → (LeR (joinRow a b) m ↔ LeR a m ∧ LeR b m)
  | [], [], m, _ => by simp [joinRow]
  | a :: aas, b :: bs, m, h => by
    have ih := fun m => joinRow_le (a := aas) (b := bs) (m := m) (by simpa using h)
    constructor
    · intro h1
      cases h1 with
      | cons h1 t1 => exact ⟨.cons (joinT_le.1 h1).1 ((ih _).1 t1).1, .cons (joinT_le.1 h1).2 ((ih _).1 t1).2⟩
    · rintro ⟨h1, h2⟩
      cases h1 with
      | cons h1 t1 => cases h2 with | cons h2 t2 => exact .cons (joinT_le.2 ⟨h1, h2⟩) ((ih _).2 ⟨t1, t2⟩)
def nz : List Int → Nat
  | [] => 0
  | a :: l => (if a = 0 then 0 else 1) + nz l
theorem nz_le : ∀ l, nz l ≤ l.length
  | [] => Nat.le_refl _
  | a :: l => by have := nz_le l; simp only [nz, List.length_cons]; split <;> omega
theorem nz_join : ∀ {a b : List Int}, a.length = b.length → joinRow a b = a ∨ nz (joinRow a b) < nz a
  | [], [], _ => .inl rfl
  | a :: aas, b :: bs, h => by
    have hl : aas.length = bs.length := by simpa using h
    simp only [joinRow, nz, joinT]
    rcases nz_join hl with ih | ih
    · by_cases e : a = b
      · left; rw [if_pos e, ih]
      · by_cases e0 : a = 0
        · left; rw [if_neg e, ih, e0]
        · right; rw [if_neg e, ih, if_pos rfl, if_neg e0]; omega
    · right
      by_cases e : a = b
      · rw [if_pos e]; omega
      · rw [if_neg e, if_pos rfl]; split <;> omega
theorem nz_join_le {a b : List Int} (h : a.length = b.length) : nz (joinRow a b) ≤ nz a := by
  rcases nz_join h with e | e
  · rw [e]; exact Nat.le_refl _
  · omega
structure SS.wf (n : Nat) (s : SS) : Prop where
  bare : s.reached = false → s = ⟨false, false, [], []⟩
  vars : s.reached = true → s.vars.length = n
  unl : s.unlike = true → s.stack = []
  high : s.stack.length ≤ 128
def SS.le (a b : SS) : Prop := a.reached = true → b.reached = true ∧ LeR a.vars b.vars ∧ (b.unlike = true ∨ (a.unlike = false ∧ b.unlike = false ∧ LeR a.stack b.stack))
def ss0 : SS := ⟨false, false, [], []⟩
theorem ss0_wf (n : Nat) : ss0.wf n := ⟨fun _ => rfl, fun h => (by cases h), fun h => (by cases h), by decide⟩
theorem SS.le_refl (a : SS) : a.le a := fun h => ⟨h, LeR.refl _, by cases hu : a.unlike with | true => exact .inl rfl | false => exact .inr ⟨rfl, rfl, LeR.refl _⟩⟩
theorem SS.le_trans {a b c : SS} (h : a.le b) (h' : b.le c) : a.le c := fun ha => by
  obtain ⟨h1, h2, h3⟩ := h ha
  obtain ⟨h4, h5, h6⟩ := h' h1
  refine ⟨h4, h2.trans h5, ?_⟩
  rcases h6 with h6 | ⟨h6, h7, h8⟩
  · exact .inl h6
  · rcases h3 with h3 | ⟨h3, _, h10⟩
    · rw [h6] at h3; cases h3
    · exact .inr ⟨h3, h7, h10.trans h8⟩
theorem SS.le_anti {n : Nat} {a b : SS} (wa : a.wf n) (wb : b.wf n) (h : a.le b) (h' : b.le a) : a = b := by
  cases ha : a.reached with
  | false =>
    cases hb : b.reached with
    | false => rw [wa.bare ha, wb.bare hb]
    | true => have := (h' hb).1; rw [ha] at this; cases this
  | true =>
    obtain ⟨h1, h2, h3⟩ := h ha
    obtain ⟨_, h5, h6⟩ := h' h1
    have hv := h2.anti h5
    cases hu : a.unlike with
    | true =>
      rcases h3 with h3 | ⟨h3, _⟩
      · have e1 := wa.unl hu; have e2 := wb.unl h3
        cases a; cases b; simp_all
      · rw [hu] at h3; cases h3
    | false =>
      rcases h6 with h6 | ⟨h6, _, h8⟩
      · rw [hu] at h6; cases h6
      · rcases h3 with h3 | ⟨_, _, h9⟩
        · rw [h6] at h3; cases h3
        · have e := h9.anti h8
          cases a; cases b; simp_all
def joinS (a b : SS) : SS :=
  if a.reached = false then b else if b.reached = false then a
  else if a.unlike = true ∨ b.unlike = true ∨ a.stack.length ≠ b.stack.length then ⟨true, true, joinRow a.vars b.vars, []⟩
  else ⟨true, false, joinRow a.vars b.vars, joinRow a.stack b.stack⟩
theorem joinS_wf {n : Nat} {a b : SS} (wa : a.wf n) (wb : b.wf n) : (joinS a b).wf n := by
  unfold joinS
  split
  · exact wb
  · rename_i ha
    split
    · exact wa
    · rename_i hb
      have ha' : a.reached = true := by simpa using ha
      have hb' : b.reached = true := by simpa using hb
      have hl : a.vars.length = b.vars.length := by rw [wa.vars ha', wb.vars hb']
      split
      · exact ⟨fun h => by simp at h, fun _ => by simp [joinRow_length hl, wa.vars ha'], fun _ => rfl, by simp⟩
      · rename_i hc
        have hs : a.stack.length = b.stack.length := by
          apply Decidable.byContradiction; intro h; exact hc (.inr (.inr h))
        exact ⟨fun h => by simp at h, fun _ => by simp [joinRow_length hl, wa.vars ha'], fun h => by simp at h, by simp only [joinRow_length hs]; exact wa.high⟩
theorem joinS_le {n : Nat} {a b m : SS} (wa : a.wf n) (wb : b.wf n) : (joinS a b).le m ↔ a.le m ∧ b.le m := by
  unfold joinS
  split
  · rename_i ha
    exact ⟨fun h => ⟨fun h' => (by rw [ha] at h'; cases h'), h⟩, fun h => h.2⟩
  · rename_i ha
    split
    · rename_i hb
      exact ⟨fun h => ⟨h, fun h' => (by rw [hb] at h'; cases h')⟩, fun h => h.1⟩
    · rename_i hb
      have ha' : a.reached = true := by simpa using ha
      have hb' : b.reached = true := by simpa using hb
      have hl : a.vars.length = b.vars.length := by rw [wa.vars ha', wb.vars hb']
      split
      · rename_i hc
        constructor
        · intro h
          obtain ⟨h1, h2, h3⟩ := h rfl
          have h3' : m.unlike = true := by
            rcases h3 with h3 | ⟨h3, _⟩
            · exact h3
            · cases h3
          have h2' := (joinRow_le hl).1 h2
          exact ⟨fun _ => ⟨h1, h2'.1, .inl h3'⟩, fun _ => ⟨h1, h2'.2, .inl h3'⟩⟩
        · rintro ⟨h, h'⟩ _
          obtain ⟨h1, h2, h3⟩ := h ha'
          obtain ⟨_, h5, h6⟩ := h' hb'
          refine ⟨h1, (joinRow_le hl).2 ⟨h2, h5⟩, .inl ?_⟩
          rcases h3 with h3 | ⟨h3, _, h3l⟩
          · exact h3
          · rcases h6 with h6 | ⟨h6, _, h6l⟩
            · exact h6
            · rcases hc with hc | hc | hc
              · rw [hc] at h3; cases h3
              · rw [hc] at h6; cases h6
              · exact absurd (h3l.length.trans h6l.length.symm) hc
      · rename_i hc
        have hs : a.stack.length = b.stack.length := by
          apply Decidable.byContradiction; intro h; exact hc (.inr (.inr h))
        have hua : a.unlike = false := by
          cases h : a.unlike with | false => rfl | true => exact absurd (.inl h) hc
        have hub : b.unlike = false := by
          cases h : b.unlike with | false => rfl | true => exact absurd (.inr (.inl h)) hc
        constructor
        · intro h
          obtain ⟨h1, h2, h3⟩ := h rfl
          have h2' := (joinRow_le hl).1 h2
          rcases h3 with h3 | ⟨_, h3, h4⟩
          · exact ⟨fun _ => ⟨h1, h2'.1, .inl h3⟩, fun _ => ⟨h1, h2'.2, .inl h3⟩⟩
          · have h4' := (joinRow_le hs).1 h4
            exact ⟨fun _ => ⟨h1, h2'.1, .inr ⟨hua, h3, h4'.1⟩⟩, fun _ => ⟨h1, h2'.2, .inr ⟨hub, h3, h4'.2⟩⟩⟩
        · rintro ⟨h, h'⟩ _
          obtain ⟨h1, h2, h3⟩ := h ha'
          obtain ⟨_, h5, h6⟩ := h' hb'
          refine ⟨h1, (joinRow_le hl).2 ⟨h2, h5⟩, ?_⟩
          rcases h3 with h3 | ⟨_, h3, h3l⟩
          · exact .inl h3
          · rcases h6 with h6 | ⟨_, _, h6l⟩
            · exact .inl h6
            · exact .inr ⟨rfl, h3, (joinRow_le hs).2 ⟨h3l, h6l⟩⟩
theorem joinS_left {n : Nat} {a b : SS} (wa : a.wf n) (wb : b.wf n) : a.le (joinS a b) := ((joinS_le wa wb).1 (SS.le_refl _)).1
theorem joinS_right {n : Nat} {a b : SS} (wa : a.wf n) (wb : b.wf n) : b.le (joinS a b) := ((joinS_le wa wb).1 (SS.le_refl _)).2
def wt (n : Nat) (s : SS) : Nat := if s.reached = false then n + 130 else if s.unlike = true then nz s.vars else nz s.vars + nz s.stack + 1
theorem joinS_wt {n : Nat} {a b : SS} (wa : a.wf n) (wb : b.wf n) : joinS a b = a ∨ wt n (joinS a b) < wt n a := by
  unfold joinS
  by_cases ha : a.reached = false
  · rw [if_pos ha]
    by_cases hb : b.reached = false
    · left; rw [wa.bare ha, wb.bare hb]
    · right
      have hb' : b.reached = true := by simpa using hb
      have h1 := nz_le b.vars
      have h2 := nz_le b.stack
      have h3 := wb.vars hb'
      have h4 := wb.high
      unfold wt
      rw [if_pos ha, if_neg hb]
      split <;> omega
  · rw [if_neg ha]
    by_cases hb : b.reached = false
    · left; rw [if_pos hb]
    · rw [if_neg hb]
      have ha' : a.reached = true := by simpa using ha
      have hb' : b.reached = true := by simpa using hb
      have hl : a.vars.length = b.vars.length := by rw [wa.vars ha', wb.vars hb']
      by_cases hc : a.unlike = true ∨ b.unlike = true ∨ a.stack.length ≠ b.stack.length
      · rw [if_pos hc]
        cases hu : a.unlike with
        | true =>
          rcases nz_join hl with e | e
          · left; have e2 := wa.unl hu; rw [e]; cases a; simp_all
          · right; unfold wt; simp [ha', hu, e]
        | false =>
          right
          have := nz_join_le hl
          unfold wt; simp [ha', hu]; omega
      · rw [if_neg hc]
        have hs : a.stack.length = b.stack.length := by
          apply Decidable.byContradiction; intro h; exact hc (.inr (.inr h))
        have hua : a.unlike = false := by
          cases h : a.unlike with | false => rfl | true => exact absurd (.inl h) hc
        have n1 := nz_join_le hl
        have n2 := nz_join_le hs
        rcases nz_join hl with e | e
        · rcases nz_join hs with e' | e'
          · left; rw [e, e']; cases a; simp_all
          · right; unfold wt; simp [ha', hua]; omega
        · right; unfold wt; simp [ha', hua]; omega
def hdE (params : List Int) (result : Int) : Nat × List Int := (params.length, if result = 0 then [] else [result])
def effC (w : Wd) (vars : List Int) (i : Int × Int) : Nat × List Int :=
  if i.1 = 1 then (0, [((w.consts[i.2.toNat]?).map (·.t)).getD 0])
  else if i.1 = 2 then (0, [(vars[i.2.toNat]?).getD 0])
  else if i.1 = 7 then ((w.procs[i.2.toNat]?).map fun p => hdE p.params p.result).getD (0, [])
  else if i.1 = 8 then ((w.needs[i.2.toNat]?).map fun p => hdE p.params p.result).getD (0, [])
  else if i.1 = 20 then (2, [3])
  else if 12 ≤ i.1 ∧ i.1 ≤ 17 then (2, [2])
  else if i.1 = 25 then (1, [2])
  else if (rowC i.1).lays = 1 then ((rowC i.1).takes.toNat, [1]) else ((rowC i.1).takes.toNat, [])
theorem effC_mono {w : Wd} {a b : List Int} (h : LeR a b) (i : Int × Int) : (effC w a i).1 = (effC w b i).1 ∧ LeR (effC w a i).2 (effC w b i).2 := by
  unfold effC
  split
  · exact ⟨rfl, LeR.refl _⟩
  · split
    · exact ⟨rfl, .cons (h.get _) .nil⟩
    · exact ⟨rfl, LeR.refl _⟩
def topS (s : SS) : Int := if s.unlike = true then 0 else (s.stack[s.stack.length - 1]?).getD 0
def varsR (i : Int × Int) (s : SS) : List Int := if i.1 = 3 then s.vars.set i.2.toNat (topS s) else s.vars
def badS (w : Wd) (i : Int × Int) (s : SS) : Prop := s.unlike = true ∨ s.stack.length < (effC w s.vars i).1 ∨ 128 < s.stack.length - (effC w s.vars i).1 + (effC w s.vars i).2.length
instance (w : Wd) (i : Int × Int) (s : SS) : Decidable (badS w i s) := by unfold badS; infer_instance
def behR (w : Wd) (i : Int × Int) (s : SS) : SS :=
  if badS w i s then ⟨s.reached, true, varsR i s, []⟩ else ⟨s.reached, false, varsR i s, s.stack.take (s.stack.length - (effC w s.vars i).1) ++ (effC w s.vars i).2⟩
theorem behR_reached (w : Wd) (i : Int × Int) (s : SS) : (behR w i s).reached = s.reached := by unfold behR; split <;> rfl
theorem varsR_length (i : Int × Int) (s : SS) : (varsR i s).length = s.vars.length := by unfold varsR; split <;> simp
theorem behR_wf {n : Nat} {w : Wd} {i : Int × Int} {s : SS} (h : s.wf n) (hr : s.reached = true) : (behR w i s).wf n := by
  unfold behR
  split
  · exact ⟨fun h' => by simp [hr] at h', fun _ => by rw [← h.vars hr]; exact varsR_length i s, fun _ => rfl, by simp⟩
  · rename_i hb
    refine ⟨fun h' => by simp [hr] at h', fun _ => by rw [← h.vars hr]; exact varsR_length i s, fun h' => by simp at h', ?_⟩
    simp only [List.length_append, List.length_take]
    unfold badS at hb
    omega
theorem topS_mono {n : Nat} {a b : SS} (h : a.le b) (hr : a.reached = true) : leT (topS a) (topS b) := by
  obtain ⟨_, _, h3⟩ := h hr
  unfold topS
  rcases h3 with h3 | ⟨h3, h4, h5⟩
  · rw [if_pos h3]; exact .inl rfl
  · rw [if_neg (by simp [h3]), if_neg (by simp [h4]), h5.length]; exact h5.get _
theorem behR_mono {n : Nat} {w : Wd} {i : Int × Int} {a b : SS} (wa : a.wf n) (wb : b.wf n) (h : a.le b) : (behR w i a).le (behR w i b) := by
  intro hr
  rw [behR_reached] at hr
  obtain ⟨h1, h2, h3⟩ := h hr
  obtain ⟨e1, e2⟩ := effC_mono (w := w) h2 i
  have hv : LeR (varsR i a) (varsR i b) := by
    unfold varsR
    split
    · exact h2.set _ (topS_mono (n := n) h hr)
    · exact h2
  have e3 := e2.length
  rw [behR_reached]
  refine ⟨h1, ?_, ?_⟩
  · unfold behR; split <;> split <;> exact hv
  · by_cases hb : badS w i b
    · left; unfold behR; rw [if_pos hb]
    · right
      have hub : b.unlike = false := by
        cases h : b.unlike with | false => rfl | true => exact absurd (.inl h) hb
      rcases h3 with h3 | ⟨h3, _, h5⟩
      · rw [hub] at h3; cases h3
      · have ha : ¬ badS w i a := by
          intro h'
          apply hb
          rcases h' with h' | h' | h'
          · rw [h3] at h'; cases h'
          · right; left; rw [← h5.length, ← e1]; exact h'
          · right; right; rw [← h5.length, ← e1, ← e3]; exact h'
        unfold behR
        rw [if_neg hb, if_neg ha]
        refine ⟨rfl, rfl, ?_⟩
        show LeR (a.stack.take _ ++ _) (b.stack.take _ ++ _)
        rw [h5.length, e1]
        exact (h5.take _).append e2
def nextR (i : Int × Int) (k : Nat) : List Int :=
  if i.1 = 9 ∨ i.1 = 10 then [] else if i.1 = 5 then [i.2] else if i.1 = 6 then [i.2, (k : Int) + 1] else [(k : Int) + 1]
def beginS (p : Pr) : SS := ⟨true, false, p.params ++ List.replicate (p.locals.toNat - p.params.length) 0, []⟩
structure Closed (w : Wd) (p : Pr) (l : List SS) : Prop where
  len : l.length = p.code.length
  wf : ∀ s ∈ l, s.wf p.locals.toNat
  zero : ∀ s, l[0]? = some s → (beginS p).le s
  step : ∀ k i s, p.code[k]? = some i → l[k]? = some s → s.reached = true → ∀ x ∈ nextR i k, ∀ (j : Nat) t, x = j → l[j]? = some t → (behR w i s).le t
def BelowL (l m : List SS) : Prop := ∀ (k : Nat) s t, l[k]? = some s → m[k]? = some t → s.le t
structure Least (w : Wd) (p : Pr) (l : List SS) : Prop where
  closed : Closed w p l
  low : ∀ m, Closed w p m → BelowL l m
theorem Least.unique {w : Wd} {p : Pr} {l m : List SS} (h : Least w p l) (h' : Least w p m) : l = m := by
  apply List.ext_getElem?
  intro k
  cases hl : l[k]? with
  | none =>
    rw [List.getElem?_eq_none_iff, h.closed.len, ← h'.closed.len] at hl
    rw [List.getElem?_eq_none hl]
  | some s =>
    have hk := (List.getElem?_eq_some_iff.1 hl).1
    rw [h.closed.len, ← h'.closed.len] at hk
    have hm : m[k]? = some m[k] := List.getElem?_eq_getElem hk
    rw [hm]
    congr 1
    exact SS.le_anti (h.closed.wf _ (List.mem_of_getElem? hl)) (h'.closed.wf _ (List.mem_of_getElem? hm)) (h.low _ h'.closed k _ _ hl hm) (h'.low _ h.closed k _ _ hm hl)
structure FInv (w : Wd) (p : Pr) (l : List SS) (T : List Int) : Prop where
  len : l.length = p.code.length
  wf : ∀ s ∈ l, s.wf p.locals.toNat
  zero : ∀ s, l[0]? = some s → (beginS p).le s
  low : ∀ m, Closed w p m → BelowL l m
  todo : ∀ x ∈ T, ∃ (k : Nat) (s : SS), x = k ∧ l[k]? = some s ∧ s.reached = true
  opn : ∀ (k : Nat) i s, (k : Int) ∉ T → p.code[k]? = some i → l[k]? = some s → s.reached = true → ∀ x ∈ nextR i k, ∀ (j : Nat) t, x = j → l[j]? = some t → (behR w i s).le t
theorem FInv.least {w : Wd} {p : Pr} {l : List SS} (h : FInv w p l []) : Least w p l :=
  ⟨⟨h.len, h.wf, h.zero, fun k i s hi hs hr => h.opn k i s (by simp) hi hs hr⟩, h.low⟩
structure FIn (w : Wd) (p : Pr) (l : List SS) (T : List Int) (q : Nat) (i : Int × Int) (s0 : SS) (ds : List Int) : Prop where
  len : l.length = p.code.length
  wf : ∀ s ∈ l, s.wf p.locals.toNat
  zero : ∀ s, l[0]? = some s → (beginS p).le s
  low : ∀ m, Closed w p m → BelowL l m
  todo : ∀ x ∈ T, ∃ (k : Nat) (s : SS), x = k ∧ l[k]? = some s ∧ s.reached = true
  ins : p.code[q]? = some i
  wf0 : s0.wf p.locals.toNat
  r0 : s0.reached = true
  out : ∀ m, Closed w p m → ∀ x ∈ nextR i q, ∀ (j : Nat) t, x = j → m[j]? = some t → (behR w i s0).le t
  opn : ∀ (k : Nat) i s, (k : Int) ∉ T → k ≠ q → p.code[k]? = some i → l[k]? = some s → s.reached = true → ∀ x ∈ nextR i k, ∀ (j : Nat) t, x = j → l[j]? = some t → (behR w i s).le t
  cur : (q : Int) ∈ T ∨ (l[q]? = some s0 ∧ ∀ x ∈ ds, ∀ (j : Nat) t, x = j → l[j]? = some t → (behR w i s0).le t)
theorem FInv.into {w : Wd} {p : Pr} {l : List SS} {T T' : List Int} (h : FInv w p l T) {q : Nat} {i : Int × Int} {s : SS} (hq : (q : Int) ∈ T) (hi : p.code[q]? = some i) (hs : l[q]? = some s) (h1 : ∀ x ∈ T', x ∈ T) (h2 : ∀ x ∈ T, x ≠ q → x ∈ T') : FIn w p l T' q i s [] := by
  have hr : s.reached = true := by
    obtain ⟨k, s', e, h3, h4⟩ := h.todo _ hq
    have : q = k := by omega
    subst this
    rw [hs] at h3; cases h3; exact h4
  have hw := h.wf s (List.mem_of_getElem? hs)
  refine ⟨h.len, h.wf, h.zero, h.low, fun x hx => h.todo x (h1 x hx), hi, hw, hr, fun m hm x hx j t e ht => ?_, fun k i' s' hk hne => h.opn k i' s' fun hk' => hk (h2 _ hk' (by omega)), .inr ⟨hs, by simp⟩⟩
  have hq' : q < m.length := by rw [hm.len]; exact (List.getElem?_eq_some_iff.1 hi).1
  have hmq : m[q]? = some m[q] := List.getElem?_eq_getElem hq'
  have hle := h.low m hm q _ _ hs hmq
  exact SS.le_trans (behR_mono hw (hm.wf _ (List.mem_of_getElem? hmq)) hle) (hm.step q i _ hi hmq (hle hr).1 x hx j t e ht)
theorem FIn.done {w : Wd} {p : Pr} {l : List SS} {T : List Int} {q : Nat} {i : Int × Int} {s0 : SS} {ds : List Int} (h : FIn w p l T q i s0 ds) (hd : ∀ x ∈ nextR i q, x ∈ ds ∨ (p.code.length : Int) ≤ x) : FInv w p l T := by
  refine ⟨h.len, h.wf, h.zero, h.low, h.todo, fun k i' s hk hi hs hr x hx j t e ht => ?_⟩
  by_cases hkq : k = q
  · subst hkq
    rw [h.ins] at hi; cases hi
    rcases h.cur with hc | ⟨hc, hc'⟩
    · exact absurd hc hk
    · rw [hc] at hs; cases hs
      rcases hd x hx with hd | hd
      · exact hc' x hd j t e ht
      · have := (List.getElem?_eq_some_iff.1 ht).1
        rw [h.len] at this; omega
  · exact h.opn k i' s hk hkq hi hs hr x hx j t e ht
theorem FIn.pass {w : Wd} {p : Pr} {l : List SS} {T : List Int} {q : Nat} {i : Int × Int} {s0 : SS} {ds : List Int} (h : FIn w p l T q i s0 ds) {x : Int} (hx : (p.code.length : Int) ≤ x) : FIn w p l T q i s0 (x :: ds) :=
  ⟨h.len, h.wf, h.zero, h.low, h.todo, h.ins, h.wf0, h.r0, h.out, h.opn, h.cur.imp id fun ⟨h1, h2⟩ => ⟨h1, fun y hy j t e ht => by
    rcases List.mem_cons.1 hy with rfl | hy
    · have := (List.getElem?_eq_some_iff.1 ht).1
      rw [h.len] at this; omega
    · exact h2 y hy j t e ht⟩⟩
theorem FIn.same {w : Wd} {p : Pr} {l : List SS} {T : List Int} {q : Nat} {i : Int × Int} {s0 : SS} {ds : List Int} (h : FIn w p l T q i s0 ds) {k : Nat} {s : SS} (hs : l[k]? = some s) (hj : joinS s (behR w i s0) = s) : FIn w p l T q i s0 ((k : Int) :: ds) :=
  ⟨h.len, h.wf, h.zero, h.low, h.todo, h.ins, h.wf0, h.r0, h.out, h.opn, h.cur.imp id fun ⟨h1, h2⟩ => ⟨h1, fun y hy j t e ht => by
    rcases List.mem_cons.1 hy with rfl | hy
    · have : j = k := by omega
      subst this
      rw [hs] at ht; cases ht
      rw [← hj]
      exact joinS_right (h.wf _ (List.mem_of_getElem? hs)) (behR_wf h.wf0 h.r0)
    · exact h2 y hy j t e ht⟩⟩
theorem FIn.turn {w : Wd} {p : Pr} {l : List SS} {T T' : List Int} {q : Nat} {i : Int × Int} {s0 : SS} {ds : List Int} (h : FIn w p l T q i s0 ds) {k : Nat} {s : SS} (hk : (k : Int) ∈ nextR i q) (hs : l[k]? = some s) (hT : ∀ x, x ∈ T' ↔ x ∈ T ∨ x = k) :
    FIn w p (l.set k (joinS s (behR w i s0))) T' q i s0 ((k : Int) :: ds) := by
  have wo := behR_wf (w := w) (i := i) h.wf0 h.r0
  have ws := h.wf _ (List.mem_of_getElem? hs)
  have hkl := (List.getElem?_eq_some_iff.1 hs).1
  have hget : ∀ (j : Nat) t, (l.set k (joinS s (behR w i s0)))[j]? = some t → (j = k ∧ t = joinS s (behR w i s0)) ∨ (j ≠ k ∧ l[j]? = some t) := fun j t e => by
    rw [List.getElem?_set] at e
    by_cases hjk : k = j
    · subst hjk; rw [if_pos rfl, if_pos hkl] at e; exact .inl ⟨rfl, (Option.some.inj e).symm⟩
    · rw [if_neg hjk] at e; exact .inr ⟨fun e => hjk e.symm, e⟩
  have hup : ∀ {a : SS} (j : Nat) t, (∀ t, l[j]? = some t → a.le t) → (l.set k (joinS s (behR w i s0)))[j]? = some t → a.le t := fun j t ha e => by
    rcases hget j t e with ⟨rfl, rfl⟩ | ⟨_, e⟩
    · exact SS.le_trans (ha s hs) (joinS_left ws wo)
    · exact ha t e
  refine ⟨by simp [h.len], fun t ht => ?_, fun t e => hup 0 t h.zero e, fun m hm j t u ht hu => ?_, fun x hx => ?_, h.ins, h.wf0, h.r0, h.out, fun j i' t hj hne hi' ht hr x hx j' u e hu => ?_, ?_⟩
  · obtain ⟨j, hj⟩ := List.getElem?_of_mem ht
    rcases hget j t hj with ⟨_, rfl⟩ | ⟨_, e⟩
    · exact joinS_wf ws wo
    · exact h.wf t (List.mem_of_getElem? e)
  · rcases hget j t ht with ⟨rfl, rfl⟩ | ⟨_, e⟩
    · exact (joinS_le ws wo).2 ⟨h.low m hm j s u hs hu, h.out m hm _ hk j u rfl hu⟩
    · exact h.low m hm j t u e hu
  · rcases (hT x).1 hx with hx | rfl
    · obtain ⟨j, t, e, h1, h2⟩ := h.todo x hx
      by_cases hjk : j = k
      · subst hjk
        rw [hs] at h1; cases h1
        exact ⟨j, _, e, by rw [List.getElem?_set, if_pos rfl, if_pos hkl], ((joinS_left ws wo) h2).1⟩
      · exact ⟨j, t, e, by rw [List.getElem?_set, if_neg (fun e => hjk e.symm)]; exact h1, h2⟩
    · exact ⟨k, _, rfl, by rw [List.getElem?_set, if_pos rfl, if_pos hkl], ((joinS_right ws wo) (by rw [behR_reached]; exact h.r0)).1⟩
  · have hjT : (j : Int) ∉ T := fun h' => hj ((hT _).2 (.inl h'))
    have hjk : j ≠ k := fun e => hj ((hT _).2 (.inr (by rw [e])))
    rcases hget j t ht with ⟨e', _⟩ | ⟨_, e'⟩
    · exact absurd e' hjk
    · exact hup j' u (fun u hu => h.opn j i' t hjT hne hi' e' hr x hx j' u e hu) hu
  · by_cases hqk : q = k
    · left; exact (hT _).2 (.inr (by rw [hqk]))
    · rcases h.cur with hc | ⟨hc, hc'⟩
      · left; exact (hT _).2 (.inl hc)
      · right
        refine ⟨by rw [List.getElem?_set, if_neg (fun e => hqk e.symm)]; exact hc, fun x hx j t e ht => ?_⟩
        rcases List.mem_cons.1 hx with rfl | hx
        · have : j = k := by omega
          subst this
          rcases hget j t ht with ⟨_, rfl⟩ | ⟨e', _⟩
          · exact joinS_right ws wo
          · exact absurd rfl e'
        · exact hup j t (fun t ht => hc' x hx j t e ht) ht
def sumW (n : Nat) (l : List SS) : Nat := (l.map (wt n)).sum
theorem sumW_set {n : Nat} : ∀ {l : List SS} {k : Nat} {s t : SS}, l[k]? = some s → wt n t < wt n s → sumW n (l.set k t) < sumW n l
  | [], k, s, t, h, _ => by simp at h
  | a :: l, 0, s, t, h, hw => by simp at h; subst h; simp [sumW]; omega
  | a :: l, k + 1, s, t, h, hw => by
    have := sumW_set (n := n) (l := l) (k := k) (by simpa using h) hw
    simp [sumW] at this ⊢; omega
theorem FIn.rises {w : Wd} {p : Pr} {l : List SS} {T : List Int} {q : Nat} {i : Int × Int} {s0 : SS} {ds : List Int} (h : FIn w p l T q i s0 ds) {k : Nat} {s : SS} (hs : l[k]? = some s) (hne : joinS s (behR w i s0) ≠ s) :
    sumW p.locals.toNat (l.set k (joinS s (behR w i s0))) < sumW p.locals.toNat l :=
  sumW_set hs ((joinS_wt (h.wf _ (List.mem_of_getElem? hs)) (behR_wf h.wf0 h.r0)).resolve_left hne)
theorem FInv.first {w : Wd} {p : Pr} (hp : (p.params.length : Int) ≤ p.locals) (hc : 0 < p.code.length) : FInv w p ((List.replicate p.code.length ss0).set 0 (beginS p)) [0] := by
  have hget : ∀ (j : Nat) t, ((List.replicate p.code.length ss0).set 0 (beginS p))[j]? = some t → (j = 0 ∧ t = beginS p) ∨ (j ≠ 0 ∧ t = ss0) := fun j t e => by
    rw [List.getElem?_set] at e
    by_cases hj : 0 = j
    · subst hj; rw [if_pos rfl, if_pos (by simpa using hc)] at e; exact .inl ⟨rfl, (Option.some.inj e).symm⟩
    · rw [if_neg hj, List.getElem?_replicate] at e
      split at e
      · exact .inr ⟨fun e => hj e.symm, (Option.some.inj e).symm⟩
      · cases e
  have hb : (beginS p).wf p.locals.toNat := ⟨fun h => (by cases h), fun _ => by simp [beginS]; omega, fun h => (by cases h), by simp [beginS]⟩
  refine ⟨by simp, fun s hs => ?_, fun s e => ?_, fun m hm k s t hs ht => ?_, fun x hx => ?_, fun k i s hk hi hs hr => ?_⟩
  · obtain ⟨j, hj⟩ := List.getElem?_of_mem hs
    rcases hget j s hj with ⟨_, rfl⟩ | ⟨_, rfl⟩
    · exact hb
    · exact ss0_wf _
  · rcases hget 0 s e with ⟨_, rfl⟩ | ⟨h, _⟩
    · exact SS.le_refl _
    · exact absurd rfl h
  · rcases hget k s hs with ⟨rfl, rfl⟩ | ⟨_, rfl⟩
    · exact hm.zero t ht
    · intro h; cases h
  · simp at hx; subst hx
    exact ⟨0, beginS p, rfl, by rw [List.getElem?_set, if_pos rfl, if_pos (by simpa using hc)], rfl⟩
  · rcases hget k s hs with ⟨rfl, rfl⟩ | ⟨_, rfl⟩
    · simp at hk
    · cases hr
def aloneR (w : Wd) (p : Pr) (i : Int × Int) : Int :=
  if mayR i.1 i.2 = false then 180
  else if (i.1 = 5 ∨ i.1 = 6) ∧ (p.code.length : Int) ≤ i.2 then 182
  else if (if i.1 = 1 then (w.consts.length : Int) else if i.1 = 2 ∨ i.1 = 3 then p.locals else if i.1 = 7 then (w.procs.length : Int) else if i.1 = 8 then (w.needs.length : Int) else 2147483647) ≤ i.2 then 180 else 0
def allT (t : Int) (l : List Int) : Bool := l.all (· == t)
def kindsR (w : Wd) (p : Pr) (i : Int × Int) (s : SS) (top : List Int) : Bool :=
  if i.1 = 2 then (s.vars[i.2.toNat]?).getD 0 != 0
  else if i.1 = 3 ∨ i.1 = 11 then (top[0]?).getD 0 != 0
  else if i.1 = 6 ∨ i.1 = 25 then allT 2 top
  else if i.1 = 7 then top == ((w.procs[i.2.toNat]?).map (·.params)).getD []
  else if i.1 = 8 then top == ((w.needs[i.2.toNat]?).map (·.params)).getD []
  else if i.1 = 10 then allT p.result top
  else if i.1 = 12 ∨ i.1 = 13 then (top[0]?).getD 0 == (top[1]?).getD 0 && (top[0]?).getD 0 != 0
  else if 14 ≤ i.1 ∧ i.1 ≤ 17 then allT 1 top || allT 3 top
  else if i.1 = 20 ∨ i.1 = 26 then allT 3 top
  else if 18 ≤ i.1 ∧ i.1 ≤ 24 then allT 1 top
  else true
def metR (w : Wd) (p : Pr) (k : Nat) (i : Int × Int) (s : SS) : Int :=
  if (nextR i k).any (fun x => decide ((p.code.length : Int) ≤ x)) then 183
  else if badS w i s then 181
  else if (i.1 = 9 ∧ p.result ≠ 0) ∨ (i.1 = 10 ∧ p.result = 0) then 181
  else if kindsR w p i s (s.stack.drop (s.stack.length - (effC w s.vars i).1)) = false then 184
  else 0
def typedR (t : Int) : Bool := decide (1 ≤ t) && decide (t ≤ 3)
def valueR (v : V) : Bool := (if v.t = 1 then decide (v = ⟨1, v.i, false, ⟨#[]⟩⟩) else if v.t = 2 then decide (v = ⟨2, 0, v.b, ⟨#[]⟩⟩) else if v.t = 3 then decide (v = ⟨3, 0, false, v.s⟩) else false) && decide ((v.s.size : Int) ≤ 4096)
def headR (ps : List Int) (r : Int) : Bool := ps.all typedR && (decide ((ps.length : Int) ≤ 64) && (r == 0 || typedR r))
def badAt (w : Wd) (p : Pr) (l : List SS) (k : Nat) : Int :=
  match l[k]?, p.code[k]? with
  | some s, some i => if s.reached = true then metR w p k i s else 0
  | _, _ => 0
def firstR (n : Nat) (f : Nat → Int) : Int × Int :=
  match (List.range n).find? (fun k => f k != 0) with
  | some k => ((k : Int), f k)
  | none => (0, 0)
theorem find_range {n : Nat} {f : Nat → Bool} {k : Nat} (hk : k < n) (h0 : ∀ j, j < k → f j = false) (h1 : f k = true) : (List.range n).find? f = some k := by
  rw [List.find?_eq_some_iff_append]
  refine ⟨h1, List.range k, (List.range (n - k - 1)).map (fun j => k + 1 + j), ?_, fun j hj => by simpa using h0 j (by simpa using hj)⟩
  apply List.ext_getElem?
  intro j
  rcases Nat.lt_trichotomy j k with h | h | h
  · rw [List.getElem?_append_left (by simpa using h), List.getElem?_range (by omega), List.getElem?_range h]
  · subst h
    rw [List.getElem?_append_right (by simp), List.getElem?_range hk]; simp
  · rw [List.getElem?_append_right (by simp; omega)]
    obtain ⟨d, hd⟩ : ∃ d, j = k + 1 + d := ⟨j - k - 1, by omega⟩
    subst hd
    rw [List.length_range, show k + 1 + d - k = d + 1 by omega, List.getElem?_cons_succ, List.getElem?_map]
    by_cases hn : k + 1 + d < n
    · rw [List.getElem?_range hn, List.getElem?_range (by omega)]; rfl
    · rw [List.getElem?_eq_none (by simpa using hn), List.getElem?_eq_none (by simp; omega)]; rfl
theorem firstR_at {n : Nat} {f : Nat → Int} {k : Nat} (hk : k < n) (h0 : ∀ j, j < k → f j = 0) (h1 : f k ≠ 0) : firstR n f = ((k : Int), f k) := by
  unfold firstR
  rw [find_range hk (fun j hj => by simp [h0 j hj]) (by simpa using h1)]
theorem firstR_none {n : Nat} {f : Nat → Int} (h0 : ∀ j, j < n → f j = 0) : firstR n f = (0, 0) := by
  unfold firstR
  rw [List.find?_eq_none.2 (fun j hj => by simp [h0 j (by simpa using hj)])]
def wrongR (w : Wd) (p : Pr) (l : List SS) : Int × Int := firstR l.length (badAt w p l)
end Go.Proofs.YtbfgljcjblfleaaGreatDoor.Gb
namespace Go.Proofs.YtbfgljcjblfleaaGreatDoor.Gb
open Go Go.Proofs
attribute [local irreducible] Tryz.prog
def vcells (v : V) : List Value := [.int .i64 v.t, .int .i64 v.i, .bool v.b, .string v.s]
def vflat (l : List V) : List Value := l.flatMap vcells
theorem vflat_length (l : List V) : (vflat l).length = l.length * 4 := by
  induction l with
  | nil => rfl
  | cons v l ih => simp only [vflat, List.flatMap_cons, List.length_append, List.length_cons] at ih ⊢; rw [ih]; simp [vcells]; omega
theorem vflat_one (l : List V) : (vflat l).all (·.oneCell') = true := by
  induction l with
  | nil => rfl
  | cons v l ih => simp only [vflat, List.flatMap_cons, List.all_append] at ih ⊢; rw [ih]; rfl
theorem vflat_append (a b : List V) : vflat (a ++ b) = vflat a ++ vflat b := by simp [vflat]
theorem Vec.empty {T sz b : Nat} {c : Array Value} (h : c.size = 0) : Vec T sz (some ⟨b, 0, none⟩) 0 0 [] (.blk b (.cells c T (0, 0))) := ⟨by simp, .inr ⟨b, c, rfl, rfl, Nat.le_refl _, by simpa using h, by simp⟩⟩
def Kd.val : Kd V where
  n := 4
  K _ x cs := cs = vcells x
  mono _ h := h
  len h := by rw [h]; rfl
  one h := by rw [h]; rfl
def Kd.ins : Kd (Int × Int) where
  n := 2
  K _ x cs := cs = [.int .i64 x.1, .int .i64 x.2]
  mono _ h := h
  len h := by rw [h]; rfl
  one h := by rw [h]; rfl
def Kd.prc : Kd Pr where
  n := 6
  K G p cs := ∃ PA pc CA cc, cs = [.string p.name, .bool p.exp, .slice PA p.params.length pc, .int .i64 p.locals, .int .i64 p.result, .slice CA p.code.length cc] ∧ Sl (Kd.int .i64) G PA p.params ∧ Sl Kd.ins G CA p.code
  mono hg h := let ⟨PA, pc, CA, cc, h1, h2, h3⟩ := h; ⟨PA, pc, CA, cc, h1, h2.mono hg, h3.mono hg⟩
  len h := by obtain ⟨PA, pc, CA, cc, h1, _⟩ := h; rw [h1]; rfl
  one h := by obtain ⟨PA, pc, CA, cc, h1, _⟩ := h; rw [h1]; rfl
def Kd.ned : Kd Nd where
  n := 4
  K G p cs := ∃ PA pc, cs = [.string p.path, .string p.name, .slice PA p.params.length pc, .int .i64 p.result] ∧ Sl (Kd.int .i64) G PA p.params
  mono hg h := let ⟨PA, pc, h1, h2⟩ := h; ⟨PA, pc, h1, h2.mono hg⟩
  len h := by obtain ⟨PA, pc, h1, _⟩ := h; rw [h1]; rfl
  one h := by obtain ⟨PA, pc, h1, _⟩ := h; rw [h1]; rfl
def Kd.ss : Kd SS where
  n := 4
  K G s cs := ∃ VA vc SA sc, cs = [.bool s.reached, .bool s.unlike, .slice VA s.vars.length vc, .slice SA s.stack.length sc] ∧ (s.vars.length ≤ vc ∧ s.stack.length ≤ sc) ∧ Sl (Kd.int .i64) G VA s.vars ∧ Sl (Kd.int .i64) G SA s.stack
  mono hg h := let ⟨VA, vc, SA, sc, h1, h0, h2, h3⟩ := h; ⟨VA, vc, SA, sc, h1, h0, h2.mono hg, h3.mono hg⟩
  len h := by obtain ⟨VA, vc, SA, sc, h1, _⟩ := h; rw [h1]; rfl
  one h := by obtain ⟨VA, vc, SA, sc, h1, _⟩ := h; rw [h1]; rfl
def ints (l : List Int) : List Value := l.map (.int .i64)
theorem ints_length (l : List Int) : (ints l).length = l.length * 1 := by simp [ints]
theorem ints_one (l : List Int) : (ints l).all (·.oneCell') = true := by induction l with | nil => rfl | cons b l ih => simp [ints, Value.oneCell']
theorem ints_at {l : List Int} {i : Nat} {z : Int} (h : l[i]? = some z) : (ints l)[i]? = some (.int .i64 z) := by rw [ints, List.getElem?_map, h]; rfl
theorem Sl.ints {G : Gh} {H : List Own} {A : Option Addr} {l : List Int} (h : Sl (Kd.int .i64) G A l) : Rds G H A (ints l) := by
  cases l with
  | nil => exact .inl rfl
  | cons z l =>
    obtain ⟨b, o, cs, rfl, _, _⟩ := h 0 z rfl
    refine .inr ⟨b, o, rfl, fun w s j v e => ?_⟩
    rw [Gb.ints, List.getElem?_map] at e
    cases hz : (z :: l)[j]? with
    | none => rw [hz] at e; cases e
    | some y =>
      rw [hz] at e
      simp only [Option.map_some, Option.some.injEq] at e
      subst e
      obtain ⟨b', o', cs', he, hk, hc⟩ := h j y hz
      cases he
      obtain rfl : cs' = [.int .i64 y] := hk
      have := hc 0 _ rfl
      exact s.agr _ _ _ (by simpa [Kd.int] using this)
theorem IVec.sl {G : Gh} {A : Option Addr} {l : List Int} (hz : ints l = [] ∨ ∃ b, A = some ⟨b, 0, none⟩ ∧ Cs G b 0 (ints l)) : Sl (Kd.int .i64) G A l := Sl.ofCs (k := Kd.int .i64) hz (ints_length l) (by decide) (fun i x hx => by
  have e : ints l = (ints l).take i ++ .int .i64 x :: (ints l).drop (i + 1) := by
    have hl := (List.getElem?_eq_some_iff.1 hx).1
    have h1 : (ints l)[i]? = some (.int .i64 x) := ints_at hx
    have hl' : i < (ints l).length := (List.getElem?_eq_some_iff.1 h1).1
    have h2 : (ints l)[i] = .int .i64 x := by rw [List.getElem?_eq_getElem hl'] at h1; exact Option.some.inj h1
    rw [← h2, List.getElem_cons_drop, List.take_append_drop]
  have hl := (List.getElem?_eq_some_iff.1 hx).1
  have hn : (Kd.int .i64).n = 1 := rfl
  show ((ints l).drop (i * 1)).take 1 = [.int .i64 x]
  have h1 : (ints l)[i]? = some (.int .i64 x) := ints_at hx
  have hl' : i < (ints l).length := (List.getElem?_eq_some_iff.1 h1).1
  rw [Nat.mul_one, List.drop_eq_getElem_cons hl']
  rw [List.getElem?_eq_getElem hl'] at h1
  rw [Option.some.inj h1]; rfl)
abbrev IVec (T : Nat) (A : Option Addr) (l : List Int) (cap : Nat) (x : Own) : Prop := Vec T 1 A l.length cap (ints l) x
theorem clone_types (G : Gh) (H : List Own) (A : Option Addr) (n cap : Nat) (cs : List Value) (hr : Rds G H A cs) (hl : cs.length = n * 1) (h1 : cs.all (·.oneCell') = true) (hA : A = none → n = 0) (hb : n * 8 ≤ 140737488355328) :
    Fn Tryz.prog 40 #[.slice A n cap] G H fun e G' H' => ∃ A' cap' x', e = .returned (.slice A' n cap') ∧ G = G' ∧ H' = x' :: H ∧ Vec 47 1 A' n cap' cs x' := by
  refine Fn.enter Tryz.func40 rfl rfl fun w0 => ?_
  refine WC.seq ?_
  refine WC.region ?_
  refine WL.p (Gp.assign rfl) (by kernel_rfl) rfl ?_
  refine WL.nil ?_
  refine WK.un ?_
  refine WC.seq ?_
  refine WC.seq ?_
  refine WC.region ?_
  refine WL.p (Gp.move rfl) (by kernel_rfl) rfl ?_
  (first | refine WL.p (Gp.eqI rfl rfl) (by kernel_rfl) rfl ?_ | refine WL.p (Gp.eqS rfl rfl) (by kernel_rfl) rfl ?_ | refine WL.p (Gp.nilSl rfl) (by kernel_rfl) rfl ?_ | refine WL.p (Gp.eqB rfl rfl) (by kernel_rfl) rfl ?_)
  refine WL.nil ?_
  refine WK.un ?_
  refine WC.cond rfl (fun hc => ?_) (fun hc => ?_)
  · refine WC.seq ?_
    refine WC.region ?_
    refine WL.p (Gp.assign rfl) (by kernel_rfl) rfl ?_
    refine WL.nil ?_
    refine WK.un ?_
    refine WC.ret ?_
    have hA' : A = none := by simpa using hc
    have hn := hA hA'
    subst hn
    have hcs : cs = [] := List.eq_nil_of_length_eq_zero (by simpa using hl)
    subst hcs
    exact WK.nothing (QF.ret1 (.inl rfl) rfl (.tmp rfl) (List.Sublist.refl _) ⟨none, 0, _, rfl, rfl, rfl, ⟨by simp, .inl ⟨rfl, rfl, rfl, rfl⟩⟩⟩)
  ·
    refine WC.skip ?_
    refine WK.un ?_
    refine WC.seq ?_
    refine WC.region ?_
    refine WL.op (by kernel_rfl) (OW.buildSlice rfl (by kernel_rfl) (by kernel_rfl) (by rfl) rfl fun b1 => ?_)
    refine WL.p (Gp.move rfl) (by kernel_rfl) rfl ?_
    refine WL.op (by kernel_rfl) (OW.append rfl rfl (by kernel_rfl) (by kernel_rfl) (Vec.empty rfl) .here (hr.cons _) hl h1 (by omega) (by omega) rfl fun A' cap' o' hv => ?_)
    refine WL.p (Gp.assign rfl) (by kernel_rfl) rfl ?_
    refine WL.nil ?_
    refine WK.un ?_
    refine WC.ret ?_
    (refine WK.un ?_)
    exact QF.ret1 (.inl rfl) rfl (.tmp rfl) (List.Sublist.refl _) ⟨A', cap', o', by rw [Nat.zero_add], rfl, rfl, by simpa using hv⟩
end Go.Proofs.YtbfgljcjblfleaaGreatDoor.Gb
namespace Go.Proofs.YtbfgljcjblfleaaGreatDoor.Gb
open Go Go.Proofs
attribute [local irreducible] Tryz.prog
theorem flat_elem {α : Type} (f : α → List Value) (n : Nat) (hf : ∀ a, (f a).length = n) : ∀ (l : List α) (i : Nat) (x : α), l[i]? = some x → ((l.flatMap f).drop (i * n)).take n = f x
  | [], i, x, h => by simp at h
  | y :: l, 0, x, h => by
    simp at h; subst h
    rw [List.flatMap_cons, Nat.zero_mul, List.drop_zero, List.take_append_of_le_length (by rw [hf]; exact Nat.le_refl _), List.take_of_length_le (by rw [hf]; exact Nat.le_refl _)]
  | y :: l, i + 1, x, h => by
    simp only [List.getElem?_cons_succ] at h
    rw [List.flatMap_cons, List.drop_append, List.drop_eq_nil_of_le (by rw [hf, Nat.add_mul]; omega), List.nil_append, hf, show (i + 1) * n - n = i * n by rw [Nat.add_mul]; omega]
    exact flat_elem f n hf l i x h
def rcells (r : Rw) : List Value := [.string r.name, .bool r.n, .int .i64 r.takes, .int .i64 r.lays]
set_option maxRecDepth 100000 in
theorem rowOf_fn (G : Gh) (c : Int) : Fn Tryz.prog 63 #[.int .i64 c] G [] fun e G' H' => e = .returned (.agg #[.string (rowC c).name, .bool (rowC c).n, .int .i64 (rowC c).takes, .int .i64 (rowC c).lays]) ∧ G = G' ∧ H' = [] := by
  refine Fn.enter Tryz.func63 rfl rfl fun w0 => ?_
  refine WC.seq ?_
  refine WC.region ?_
  refine WL.op (by kernel_rfl) (OW.alloc rfl fun b1 => ?_)
  refine go ?_
  refine WL.p (Gp.buildArr (cells := rowsC.flatMap rcells) Tryz.underlying157 rfl (by kernel_rfl)) (by kernel_rfl) rfl ?_
  refine WL.op (by kernel_rfl) (OW.alloc rfl fun b2 => ?_)
  refine WL.op (by kernel_rfl) (OW.store (n := 108) (cs := rowsC.flatMap rcells) (c' := (rowsC.flatMap rcells).toArray) rfl rfl (by (repeat first | exact .here | apply At.there)) rfl (by kernel_rfl) (by kernel_rfl) (by kernel_rfl) (by kernel_rfl) ?_ rfl)
  by_cases h1 : c < 1
  · have e1 : decide (c < 1) = true := decide_eq_true h1
    rw [show rowC c = rw0 by rw [rowC, if_pos h1]]
    refine go ?_
    refine WC.ret ?_
    refine WK.un ?_
    exact QF.p1 (.inl rfl) rfl (.cell rfl inferInstance inferInstance (by (repeat first | exact .here | apply At.there)) rfl rfl) (⟨rfl, rfl, rfl⟩)
  have e1 : decide (c < 1) = false := decide_eq_false h1
  by_cases h2 : 27 ≤ c
  · have e2 : decide (27 ≤ c) = true := decide_eq_true h2
    rw [show rowC c = rw0 by rw [rowC, if_neg h1, List.getElem?_eq_none (by show 27 ≤ c.toNat; omega)]; rfl]
    refine go ?_
    refine WC.ret ?_
    refine WK.un ?_
    exact QF.p1 (.inl rfl) rfl (.cell rfl inferInstance inferInstance (by (repeat first | exact .here | apply At.there)) rfl rfl) (⟨rfl, rfl, rfl⟩)
  have e2 : decide (27 ≤ c) = false := decide_eq_false h2
  obtain ⟨i, rfl⟩ : ∃ i : Nat, c = i := ⟨c.toNat, by omega⟩
  have hi : i < rowsC.length := by show i < 27; omega
  obtain ⟨r, hr⟩ : ∃ r, rowsC[i]? = some r := ⟨_, List.getElem?_eq_getElem hi⟩
  rw [show rowC (i : Int) = r by rw [rowC, if_neg h1, Int.toNat_natCast, hr]; rfl]
  refine go ?_
  refine WL.p (Gp.indexArr Tryz.underlying157 rfl rfl (by omega) (by omega)) (by kernel_rfl) rfl ?_
  have hread : ∀ w, Sat G [.blk b2 (.cells (rowsC.flatMap rcells).toArray 157 (0, 0))] w → ∀ j v, (rowsC.flatMap rcells)[j]? = some v → w.cell? ⟨b2, 0 + j, none⟩ = some v := fun w s j v h => by
    rw [Own.cell (s.hold _ (.head _))]; simpa using h
  refine WL.v (Gv.loadRN rfl hread (.cons_cons _ (List.nil_sublist _)) (flat_elem rcells 4 (fun _ => rfl) rowsC i r hr) rfl) (by kernel_rfl) rfl ?_
  refine go ?_
  refine WC.ret ?_
  refine WK.un ?_
  exact QF.p1 (.inl rfl) rfl (.cell rfl inferInstance inferInstance (by (repeat first | exact .here | apply At.there)) rfl rfl) (⟨rfl, rfl, rfl⟩)
theorem may_fn (G : Gh) (c n : Int) : Fn Tryz.prog 49 #[.agg #[.int .i64 c, .int .i64 n]] G [] fun e G' H' => e = .returned (.bool (mayR c n)) ∧ G = G' ∧ H' = [] := by
  refine Fn.enter Tryz.func49 rfl rfl fun w0 => ?_
  refine WC.seq ?_
  refine WC.region ?_
  refine WL.op (by kernel_rfl) (OW.box rfl rfl fun b1 => ?_)
  refine go ?_
  refine WL.op (by kernel_rfl) (OW.callK rfl (rowOf_fn G c) rfl fun v' G' H' h hg => ?_)
  obtain ⟨he, rfl, rfl⟩ := h
  cases he
  obtain ⟨r, hr⟩ : ∃ r, r = rowC c := ⟨_, rfl⟩
  rw [mayR, ← hr]
  clear hr
  refine WL.pick (.blk b1 (.cells #[.int .i64 c, .int .i64 n] 97 (0, 0)) :: []) ?_
  refine WL.op (by kernel_rfl) (OW.alloc rfl fun b2 => ?_)
  have hne : (r.name != ⟨#[]⟩) = !(r.name == ⟨#[]⟩) := rfl
  rw [hne]
  cases hb : (r.name == ⟨#[]⟩) with
  | true =>
    refine go ?_
    rw [hb]
    refine go ?_
    refine WC.ret ?_
    refine WK.un ?_
    exact QF.p1 (.inl rfl) rfl (.tmp rfl) (⟨by simp, rfl, rfl⟩)
  | false =>
  cases h0 : decide (0 ≤ n) with
  | false =>
    refine go ?_
    rw [hb]
    refine go ?_
    refine WC.ret ?_
    refine WK.un ?_
    exact QF.p1 (.inl rfl) rfl (.tmp rfl) (⟨by simp, rfl, rfl⟩)
  | true =>
  cases h1 : decide (n ≤ 2147483647) with
  | false =>
    refine go ?_
    rw [hb]
    refine go ?_
    try rw [h1]
    refine go ?_
    refine WC.ret ?_
    refine WK.un ?_
    exact QF.p1 (.inl rfl) rfl (.tmp rfl) (⟨by simp, rfl, rfl⟩)
  | true =>
  cases h2 : r.n with
  | true =>
    refine go ?_
    rw [hb]
    refine go ?_
    try rw [h1]
    refine go ?_
    refine WC.ret ?_
    refine WK.un ?_
    exact QF.p1 (.inl rfl) rfl (.tmp rfl) (⟨by simp, rfl, rfl⟩)
  | false =>
    refine go ?_
    rw [hb]
    refine go ?_
    try rw [h1]
    refine go ?_
    refine WC.ret ?_
    refine WK.un ?_
    exact QF.p1 (.inl rfl) rfl (.tmp rfl) (⟨by simp, rfl, rfl⟩)
end Go.Proofs.YtbfgljcjblfleaaGreatDoor.Gb
namespace Go.Proofs.YtbfgljcjblfleaaGreatDoor.Gb
open Go
theorem gom {g g' : Prop} (h : g') (e : Bx g' → g := by
  intro hgo
  repeat (first
    | ((with_reducible refine Un.kL ?_); first
      | (refine Un.kN ?_; first
        | (refine Un.k_move ?_; first | refine WL.p (Gp.move rfl) (by kernel_rfl) rfl ?_)
        | (refine Un.k_assign ?_; first | refine WL.p (Gp.assign rfl) (by kernel_rfl) rfl ?_)
        | (refine Un.k_fieldAddr ?_; first | refine WL.p (Gp.fieldAddr rfl) (by kernel_rfl) rfl ?_)
        | (refine Un.k_nilCheck ?_; first | refine WL.p (Gp.nilCheck rfl) (by kernel_rfl) rfl ?_)
        | (refine Un.k_extract ?_; first | refine WL.p (Gp.extract rfl rfl) (by kernel_rfl) rfl ?_)
        | (refine Un.k_load ?_; first | refine WL.v (Gv.load1 rfl (by (repeat first | exact .here | apply At.there)) (by first | rfl | assumption)) (by kernel_rfl) rfl ?_ | refine WL.v (Gv.loadN rfl (by (repeat first | exact .here | apply At.there)) (by rfl) (by rfl)) (by kernel_rfl) rfl ?_ | refine WL.v (Gv.loadG1 rfl (by assumption) (by rfl)) (by kernel_rfl) rfl ?_ | refine WL.v (Gv.loadG0 rfl (by assumption) (by rfl)) (by kernel_rfl) rfl ?_ | refine WL.v (Gv.loadGN rfl (by assumption) (by rfl)) (by kernel_rfl) rfl ?_)
        | (refine Un.k_unOp ?_; first | refine WL.p (Gp.notB rfl) (by kernel_rfl) rfl ?_ | refine WL.p (Gp.negI rfl) (by kernel_rfl) rfl ?_)
        | (refine Un.k_pick ?_; first | refine WL.p (Gp.pickT rfl rfl) (by kernel_rfl) rfl ?_ | refine WL.p (Gp.pickF rfl rfl) (by kernel_rfl) rfl ?_)
        | (refine Un.k_build ?_; first | refine WL.p (Gp.build rfl rfl) (by kernel_rfl) rfl ?_)
        | (refine Un.k_indexAddr ?_; first | refine WL.p (Gp.indexAddr rfl rfl (by first | assumption | omega | decide) (by first | assumption | omega | decide)) (by kernel_rfl) rfl ?_)
        | (refine Un.k_store ?_; first | refine WL.op (by kernel_rfl) (OW.store rfl rfl (by (repeat first | exact .here | apply At.there)) rfl (by rfl) (by rfl) (by first | rfl | assumption) (by rfl) ?_ rfl))
        | (refine Un.k_len ?_; first | refine WL.p (Gp.lenSl rfl) (by kernel_rfl) rfl ?_ | refine WL.p (Gp.lenS rfl) (by kernel_rfl) rfl ?_)
        | (refine Un.k_eql ?_; first | refine WL.p (Gp.eqI' rfl rfl (by assumption)) (by kernel_rfl) rfl ?_ | refine WL.p (Gp.eqI rfl rfl) (by kernel_rfl) rfl ?_ | refine WL.p (Gp.eqS rfl rfl) (by kernel_rfl) rfl ?_ | refine WL.p (Gp.eqB rfl rfl) (by kernel_rfl) rfl ?_ | refine WL.p (Gp.nilSl rfl) (by kernel_rfl) rfl ?_)
        | (refine Un.k_neq ?_; first | refine WL.p (Gp.neI' rfl rfl (by assumption)) (by kernel_rfl) rfl ?_ | refine WL.p (Gp.neI rfl rfl) (by kernel_rfl) rfl ?_ | refine WL.p (Gp.neS rfl rfl) (by kernel_rfl) rfl ?_ | refine WL.p (Gp.neB rfl rfl) (by kernel_rfl) rfl ?_)
        | (refine Un.k_lss ?_; first | refine WL.p (Gp.ltI' rfl rfl (by assumption)) (by kernel_rfl) rfl ?_ | refine WL.p (Gp.ltI rfl rfl) (by kernel_rfl) rfl ?_ | refine WL.p (Gp.ltS rfl rfl) (by kernel_rfl) rfl ?_)
        | (refine Un.k_gtr ?_; first | refine WL.p (Gp.gtI' rfl rfl (by assumption)) (by kernel_rfl) rfl ?_ | refine WL.p (Gp.gtI rfl rfl) (by kernel_rfl) rfl ?_)
        | (refine Un.k_geq ?_; first | refine WL.p (Gp.geI' rfl rfl (by assumption)) (by kernel_rfl) rfl ?_ | refine WL.p (Gp.geI rfl rfl) (by kernel_rfl) rfl ?_ | refine WL.p (Gp.geS rfl rfl) (by kernel_rfl) rfl ?_)
        | (refine Un.k_leq ?_; first | refine WL.p (Gp.leI' rfl rfl (by assumption)) (by kernel_rfl) rfl ?_ | refine WL.p (Gp.leI rfl rfl) (by kernel_rfl) rfl ?_)
        | (refine Un.k_add ?_; first | refine WL.p (Gp.add' rfl rfl (by assumption)) (by kernel_rfl) rfl ?_)
        | (refine Un.k_sub ?_; first | refine WL.p (Gp.sub' rfl rfl (by assumption)) (by kernel_rfl) rfl ?_))
      | (refine Un.kG ?_; first
        | refine WL.skip (by rfl) rfl ?_
        | (refine Un.k_move ?_; first | refine WL.p (Gp.move rfl) (by rfl) rfl ?_)
        | (refine Un.k_assign ?_; first | refine WL.p (Gp.assign rfl) (by rfl) rfl ?_)
        | (refine Un.k_fieldAddr ?_; first | refine WL.p (Gp.fieldAddr rfl) (by rfl) rfl ?_)
        | (refine Un.k_nilCheck ?_; first | refine WL.p (Gp.nilCheck rfl) (by rfl) rfl ?_)
        | (refine Un.k_extract ?_; first | refine WL.p (Gp.extract rfl rfl) (by rfl) rfl ?_)
        | (refine Un.k_load ?_; first | refine WL.v (Gv.load1 rfl (by (repeat first | exact .here | apply At.there)) (by first | rfl | assumption)) (by rfl) rfl ?_ | refine WL.v (Gv.loadN rfl (by (repeat first | exact .here | apply At.there)) (by rfl) (by rfl)) (by rfl) rfl ?_ | refine WL.v (Gv.loadG1 rfl (by assumption) (by rfl)) (by rfl) rfl ?_ | refine WL.v (Gv.loadG0 rfl (by assumption) (by rfl)) (by rfl) rfl ?_ | refine WL.v (Gv.loadGN rfl (by assumption) (by rfl)) (by rfl) rfl ?_)
        | (refine Un.k_unOp ?_; first | refine WL.p (Gp.notB rfl) (by rfl) rfl ?_ | refine WL.p (Gp.negI rfl) (by rfl) rfl ?_)
        | (refine Un.k_pick ?_; first | refine WL.p (Gp.pickT rfl rfl) (by rfl) rfl ?_ | refine WL.p (Gp.pickF rfl rfl) (by rfl) rfl ?_)
        | (refine Un.k_build ?_; first | refine WL.p (Gp.build rfl rfl) (by rfl) rfl ?_)
        | (refine Un.k_indexAddr ?_; first | refine WL.p (Gp.indexAddr rfl rfl (by first | assumption | omega | decide) (by first | assumption | omega | decide)) (by rfl) rfl ?_)
        | (refine Un.k_store ?_; first | refine WL.op (by rfl) (OW.store rfl rfl (by (repeat first | exact .here | apply At.there)) rfl (by rfl) (by rfl) (by first | rfl | assumption) (by rfl) ?_ rfl))
        | (refine Un.k_len ?_; first | refine WL.p (Gp.lenSl rfl) (by rfl) rfl ?_ | refine WL.p (Gp.lenS rfl) (by rfl) rfl ?_)
        | (refine Un.k_eql ?_; first | refine WL.p (Gp.eqI' rfl rfl (by assumption)) (by rfl) rfl ?_ | refine WL.p (Gp.eqI rfl rfl) (by rfl) rfl ?_ | refine WL.p (Gp.eqS rfl rfl) (by rfl) rfl ?_ | refine WL.p (Gp.eqB rfl rfl) (by rfl) rfl ?_ | refine WL.p (Gp.nilSl rfl) (by rfl) rfl ?_)
        | (refine Un.k_neq ?_; first | refine WL.p (Gp.neI' rfl rfl (by assumption)) (by rfl) rfl ?_ | refine WL.p (Gp.neI rfl rfl) (by rfl) rfl ?_ | refine WL.p (Gp.neS rfl rfl) (by rfl) rfl ?_ | refine WL.p (Gp.neB rfl rfl) (by rfl) rfl ?_)
        | (refine Un.k_lss ?_; first | refine WL.p (Gp.ltI' rfl rfl (by assumption)) (by rfl) rfl ?_ | refine WL.p (Gp.ltI rfl rfl) (by rfl) rfl ?_ | refine WL.p (Gp.ltS rfl rfl) (by rfl) rfl ?_)
        | (refine Un.k_gtr ?_; first | refine WL.p (Gp.gtI' rfl rfl (by assumption)) (by rfl) rfl ?_ | refine WL.p (Gp.gtI rfl rfl) (by rfl) rfl ?_)
        | (refine Un.k_geq ?_; first | refine WL.p (Gp.geI' rfl rfl (by assumption)) (by rfl) rfl ?_ | refine WL.p (Gp.geI rfl rfl) (by rfl) rfl ?_ | refine WL.p (Gp.geS rfl rfl) (by rfl) rfl ?_)
        | (refine Un.k_leq ?_; first | refine WL.p (Gp.leI' rfl rfl (by assumption)) (by rfl) rfl ?_ | refine WL.p (Gp.leI rfl rfl) (by rfl) rfl ?_)
        | (refine Un.k_add ?_; first | refine WL.p (Gp.add' rfl rfl (by assumption)) (by rfl) rfl ?_)
        | (refine Un.k_sub ?_; first | refine WL.p (Gp.sub' rfl rfl (by assumption)) (by rfl) rfl ?_))
      | with_reducible refine WL.nil ?_)
    | ((with_reducible refine Un.kC ?_); first
      | with_reducible refine WC.seq ?_
      | with_reducible refine WC.region ?_
      | with_reducible refine WC.block ?_
      | with_reducible refine WC.skip ?_
      | with_reducible refine WC.exit ?_
      | refine WC.cond_true rfl ?_
      | refine WC.cond_false rfl ?_)
    | with_reducible refine WK.thN ?_
    | with_reducible refine WK.thR ?_
    | with_reducible refine WK.thE ?_
    | with_reducible refine WK.thP ?_
    | with_reducible refine WK.blN ?_
    | with_reducible refine WK.blR ?_
    | with_reducible refine WK.blP ?_
    | with_reducible refine WK.blE ?_
    | with_reducible refine WK.blO rfl ?_
    | with_reducible refine WK.thJ ?_
    | (with_reducible refine WQ.start mixed ?_)
    | ((with_reducible refine Uq.kL ?_); first
      | (refine Uq.kN ?_; first
        | (refine Uq.k_move ?_; first | refine WQ.tp (Gp.move rfl) (by kernel_rfl) (by kernel_rfl) rfl ?_)
        | (refine Uq.k_assign ?_; first | refine WQ.tp (Gp.assign rfl) (by kernel_rfl) (by kernel_rfl) rfl ?_)
        | (refine Uq.k_fieldAddr ?_; first | refine WQ.tp (Gp.fieldAddr rfl) (by kernel_rfl) (by kernel_rfl) rfl ?_)
        | (refine Uq.k_nilCheck ?_; first | refine WQ.tp (Gp.nilCheck rfl) (by kernel_rfl) (by kernel_rfl) rfl ?_)
        | (refine Uq.k_extract ?_; first | refine WQ.tp (Gp.extract rfl rfl) (by kernel_rfl) (by kernel_rfl) rfl ?_)
        | (refine Uq.k_load ?_; first | refine WQ.tv (Gv.load1 rfl (by (repeat first | exact .here | apply At.there)) (by first | rfl | assumption)) (by kernel_rfl) (by kernel_rfl) rfl ?_ | refine WQ.tv (Gv.loadN rfl (by (repeat first | exact .here | apply At.there)) (by rfl) (by rfl)) (by kernel_rfl) (by kernel_rfl) rfl ?_ | refine WQ.tv (Gv.loadG1 rfl (by assumption) (by rfl)) (by kernel_rfl) (by kernel_rfl) rfl ?_ | refine WQ.tv (Gv.loadG0 rfl (by assumption) (by rfl)) (by kernel_rfl) (by kernel_rfl) rfl ?_ | refine WQ.tv (Gv.loadGN rfl (by assumption) (by rfl)) (by kernel_rfl) (by kernel_rfl) rfl ?_)
        | (refine Uq.k_unOp ?_; first | refine WQ.tp (Gp.notB rfl) (by kernel_rfl) (by kernel_rfl) rfl ?_ | refine WQ.tp (Gp.negI rfl) (by kernel_rfl) (by kernel_rfl) rfl ?_)
        | (refine Uq.k_pick ?_; first | refine WQ.tp (Gp.pickT rfl rfl) (by kernel_rfl) (by kernel_rfl) rfl ?_ | refine WQ.tp (Gp.pickF rfl rfl) (by kernel_rfl) (by kernel_rfl) rfl ?_)
        | (refine Uq.k_build ?_; first | refine WQ.tp (Gp.build rfl rfl) (by kernel_rfl) (by kernel_rfl) rfl ?_)
        | (refine Uq.k_indexAddr ?_; first | refine WQ.tp (Gp.indexAddr rfl rfl (by first | assumption | omega | decide) (by first | assumption | omega | decide)) (by kernel_rfl) (by kernel_rfl) rfl ?_)
        | (refine Uq.k_len ?_; first | refine WQ.tp (Gp.lenSl rfl) (by kernel_rfl) (by kernel_rfl) rfl ?_ | refine WQ.tp (Gp.lenS rfl) (by kernel_rfl) (by kernel_rfl) rfl ?_)
        | (refine Uq.k_eql ?_; first | refine WQ.tp (Gp.eqI' rfl rfl (by assumption)) (by kernel_rfl) (by kernel_rfl) rfl ?_ | refine WQ.tp (Gp.eqI rfl rfl) (by kernel_rfl) (by kernel_rfl) rfl ?_ | refine WQ.tp (Gp.eqS rfl rfl) (by kernel_rfl) (by kernel_rfl) rfl ?_ | refine WQ.tp (Gp.eqB rfl rfl) (by kernel_rfl) (by kernel_rfl) rfl ?_ | refine WQ.tp (Gp.nilSl rfl) (by kernel_rfl) (by kernel_rfl) rfl ?_)
        | (refine Uq.k_neq ?_; first | refine WQ.tp (Gp.neI' rfl rfl (by assumption)) (by kernel_rfl) (by kernel_rfl) rfl ?_ | refine WQ.tp (Gp.neI rfl rfl) (by kernel_rfl) (by kernel_rfl) rfl ?_ | refine WQ.tp (Gp.neS rfl rfl) (by kernel_rfl) (by kernel_rfl) rfl ?_ | refine WQ.tp (Gp.neB rfl rfl) (by kernel_rfl) (by kernel_rfl) rfl ?_)
        | (refine Uq.k_lss ?_; first | refine WQ.tp (Gp.ltI' rfl rfl (by assumption)) (by kernel_rfl) (by kernel_rfl) rfl ?_ | refine WQ.tp (Gp.ltI rfl rfl) (by kernel_rfl) (by kernel_rfl) rfl ?_ | refine WQ.tp (Gp.ltS rfl rfl) (by kernel_rfl) (by kernel_rfl) rfl ?_)
        | (refine Uq.k_gtr ?_; first | refine WQ.tp (Gp.gtI' rfl rfl (by assumption)) (by kernel_rfl) (by kernel_rfl) rfl ?_ | refine WQ.tp (Gp.gtI rfl rfl) (by kernel_rfl) (by kernel_rfl) rfl ?_)
        | (refine Uq.k_geq ?_; first | refine WQ.tp (Gp.geI' rfl rfl (by assumption)) (by kernel_rfl) (by kernel_rfl) rfl ?_ | refine WQ.tp (Gp.geI rfl rfl) (by kernel_rfl) (by kernel_rfl) rfl ?_ | refine WQ.tp (Gp.geS rfl rfl) (by kernel_rfl) (by kernel_rfl) rfl ?_)
        | (refine Uq.k_leq ?_; first | refine WQ.tp (Gp.leI' rfl rfl (by assumption)) (by kernel_rfl) (by kernel_rfl) rfl ?_ | refine WQ.tp (Gp.leI rfl rfl) (by kernel_rfl) (by kernel_rfl) rfl ?_)
        | (refine Uq.k_add ?_; first | refine WQ.tp (Gp.add' rfl rfl (by assumption)) (by kernel_rfl) (by kernel_rfl) rfl ?_)
        | (refine Uq.k_sub ?_; first | refine WQ.tp (Gp.sub' rfl rfl (by assumption)) (by kernel_rfl) (by kernel_rfl) rfl ?_))
      | (refine Uq.kG ?_; first
        | refine WQ.sp (by kernel_rfl) (by rfl) rfl ?_
        | (refine Uq.k_move ?_; first | refine WQ.tp (Gp.move rfl) (by kernel_rfl) (by rfl) rfl ?_)
        | (refine Uq.k_assign ?_; first | refine WQ.tp (Gp.assign rfl) (by kernel_rfl) (by rfl) rfl ?_)
        | (refine Uq.k_fieldAddr ?_; first | refine WQ.tp (Gp.fieldAddr rfl) (by kernel_rfl) (by rfl) rfl ?_)
        | (refine Uq.k_nilCheck ?_; first | refine WQ.tp (Gp.nilCheck rfl) (by kernel_rfl) (by rfl) rfl ?_)
        | (refine Uq.k_extract ?_; first | refine WQ.tp (Gp.extract rfl rfl) (by kernel_rfl) (by rfl) rfl ?_)
        | (refine Uq.k_load ?_; first | refine WQ.tv (Gv.load1 rfl (by (repeat first | exact .here | apply At.there)) (by first | rfl | assumption)) (by kernel_rfl) (by rfl) rfl ?_ | refine WQ.tv (Gv.loadN rfl (by (repeat first | exact .here | apply At.there)) (by rfl) (by rfl)) (by kernel_rfl) (by rfl) rfl ?_ | refine WQ.tv (Gv.loadG1 rfl (by assumption) (by rfl)) (by kernel_rfl) (by rfl) rfl ?_ | refine WQ.tv (Gv.loadG0 rfl (by assumption) (by rfl)) (by kernel_rfl) (by rfl) rfl ?_ | refine WQ.tv (Gv.loadGN rfl (by assumption) (by rfl)) (by kernel_rfl) (by rfl) rfl ?_)
        | (refine Uq.k_unOp ?_; first | refine WQ.tp (Gp.notB rfl) (by kernel_rfl) (by rfl) rfl ?_ | refine WQ.tp (Gp.negI rfl) (by kernel_rfl) (by rfl) rfl ?_)
        | (refine Uq.k_pick ?_; first | refine WQ.tp (Gp.pickT rfl rfl) (by kernel_rfl) (by rfl) rfl ?_ | refine WQ.tp (Gp.pickF rfl rfl) (by kernel_rfl) (by rfl) rfl ?_)
        | (refine Uq.k_build ?_; first | refine WQ.tp (Gp.build rfl rfl) (by kernel_rfl) (by rfl) rfl ?_)
        | (refine Uq.k_indexAddr ?_; first | refine WQ.tp (Gp.indexAddr rfl rfl (by first | assumption | omega | decide) (by first | assumption | omega | decide)) (by kernel_rfl) (by rfl) rfl ?_)
        | (refine Uq.k_len ?_; first | refine WQ.tp (Gp.lenSl rfl) (by kernel_rfl) (by rfl) rfl ?_ | refine WQ.tp (Gp.lenS rfl) (by kernel_rfl) (by rfl) rfl ?_)
        | (refine Uq.k_eql ?_; first | refine WQ.tp (Gp.eqI' rfl rfl (by assumption)) (by kernel_rfl) (by rfl) rfl ?_ | refine WQ.tp (Gp.eqI rfl rfl) (by kernel_rfl) (by rfl) rfl ?_ | refine WQ.tp (Gp.eqS rfl rfl) (by kernel_rfl) (by rfl) rfl ?_ | refine WQ.tp (Gp.eqB rfl rfl) (by kernel_rfl) (by rfl) rfl ?_ | refine WQ.tp (Gp.nilSl rfl) (by kernel_rfl) (by rfl) rfl ?_)
        | (refine Uq.k_neq ?_; first | refine WQ.tp (Gp.neI' rfl rfl (by assumption)) (by kernel_rfl) (by rfl) rfl ?_ | refine WQ.tp (Gp.neI rfl rfl) (by kernel_rfl) (by rfl) rfl ?_ | refine WQ.tp (Gp.neS rfl rfl) (by kernel_rfl) (by rfl) rfl ?_ | refine WQ.tp (Gp.neB rfl rfl) (by kernel_rfl) (by rfl) rfl ?_)
        | (refine Uq.k_lss ?_; first | refine WQ.tp (Gp.ltI' rfl rfl (by assumption)) (by kernel_rfl) (by rfl) rfl ?_ | refine WQ.tp (Gp.ltI rfl rfl) (by kernel_rfl) (by rfl) rfl ?_ | refine WQ.tp (Gp.ltS rfl rfl) (by kernel_rfl) (by rfl) rfl ?_)
        | (refine Uq.k_gtr ?_; first | refine WQ.tp (Gp.gtI' rfl rfl (by assumption)) (by kernel_rfl) (by rfl) rfl ?_ | refine WQ.tp (Gp.gtI rfl rfl) (by kernel_rfl) (by rfl) rfl ?_)
        | (refine Uq.k_geq ?_; first | refine WQ.tp (Gp.geI' rfl rfl (by assumption)) (by kernel_rfl) (by rfl) rfl ?_ | refine WQ.tp (Gp.geI rfl rfl) (by kernel_rfl) (by rfl) rfl ?_ | refine WQ.tp (Gp.geS rfl rfl) (by kernel_rfl) (by rfl) rfl ?_)
        | (refine Uq.k_leq ?_; first | refine WQ.tp (Gp.leI' rfl rfl (by assumption)) (by kernel_rfl) (by rfl) rfl ?_ | refine WQ.tp (Gp.leI rfl rfl) (by kernel_rfl) (by rfl) rfl ?_)
        | (refine Uq.k_add ?_; first | refine WQ.tp (Gp.add' rfl rfl (by assumption)) (by kernel_rfl) (by rfl) rfl ?_)
        | (refine Uq.k_sub ?_; first | refine WQ.tp (Gp.sub' rfl rfl (by assumption)) (by kernel_rfl) (by rfl) rfl ?_))
      | refine WQ.done (by kernel_rfl) ?_))
  exact hgo.out) : g := e ⟨h⟩
end Go.Proofs.YtbfgljcjblfleaaGreatDoor.Gb
