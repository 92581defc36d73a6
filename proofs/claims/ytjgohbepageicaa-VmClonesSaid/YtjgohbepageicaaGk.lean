/- Taking things of ours out of a list, in any order. -/
import Derived.Test.YtjgohbepageicaaGj
namespace Go.Proofs.Ytjgohbepageicaa.Gb
open Go
set_option linter.unusedVariables false
set_option linter.unusedSimpArgs false

inductive Rem : List Own → Own → List Own → Prop where
  | here {x : Own} {l : List Own} : Rem (x :: l) x l
  | there {x y : Own} {l l' : List Own} (h : Rem l x l') : Rem (y :: l) x (y :: l')
theorem Rem.perm {l l' : List Own} {x : Own} (h : Rem l x l') : l.Perm (x :: l') := by
  induction h with
  | here => exact List.Perm.refl _
  | there _ ih => exact (List.Perm.cons _ ih).trans (List.Perm.swap _ _ _)
inductive Pk : List Own → List Own → List Own → Prop where
  | nil {H : List Own} : Pk H [] H
  | all {H : List Own} : Pk H H []
  | cons {H H' xs F : List Own} {x : Own} (h : Rem H x H') (k : Pk H' xs F) : Pk H (x :: xs) F
  | skip {H xs F : List Own} {y : Own} (k : Pk H xs F) : Pk (y :: H) xs (y :: F)
theorem Pk.perm {H xs F : List Own} (h : Pk H xs F) : H.Perm (xs ++ F) := by
  induction h with
  | nil => exact List.Perm.refl _
  | all => rw [List.append_nil]
  | cons h _ ih => exact h.perm.trans (List.Perm.cons _ ih)
  | skip _ ih => exact (List.Perm.cons _ ih).trans List.perm_middle.symm

theorem Pk.app : ∀ {H F : List Own}, Pk (H ++ F) H F
  | [], _ => .nil
  | _ :: _, _ => .cons .here Pk.app

theorem Pk.appR : ∀ {F H : List Own}, Pk (F ++ H) H F
  | [], _ => .all
  | _ :: _, _ => .skip Pk.appR
theorem Pk.skipA {l xs F : List Own} (h : Pk l xs F) : ∀ {H : List Own}, Pk (H ++ l) xs (H ++ F)
  | [] => h
  | _ :: _ => .skip (Pk.skipA h)
theorem Pk.na {H xs F : List Own} (h : Pk H xs F) : Pk (List.append [] H) xs F := h
theorem Rem.app {x : Own} {l l' : List Own} (h : Rem l x l') : ∀ {H : List Own}, Rem (H ++ l) x (H ++ l')
  | [] => h
  | _ :: _ => .there (Rem.app h)

theorem Pk.assoc {A B C xs F : List Own} (h : Pk (A ++ (B ++ C)) xs F) : Pk ((A ++ B) ++ C) xs F := by rw [List.append_assoc]; exact h

section
variable {P : Program} {Q : Exit → Act → World → Prop} {cx : Cx} {L : List (Nat × Value)} {G : Gh} {H H' F : List Own}
theorem WC.front {c : Code} (h : Pk H H' F) (k : WC P c Q cx L G (H' ++ F)) : WC P c Q cx L G H := fun a w st => k a w (st.perm h.perm)
theorem WL.front {ops : Array Oper} {rest : List Oper} (h : Pk H H' F) (k : WL P ops Q rest cx L G (H' ++ F)) : WL P ops Q rest cx L G H := fun a w st => k a w (st.perm h.perm)
theorem WK.front {K : Act → World → Prop} (h : Pk H H' F) (k : WK K cx L G (H' ++ F)) : WK K cx L G H := fun a w st => k a w (st.perm h.perm)
theorem St.pk {a : Act} {w : World} (st : St cx L G H a w) (h : Pk H H' F) : St cx L G H' a w := (st.perm h.perm).weaken (fun _ _ e => e) (List.sublist_append_left _ _)
theorem WK.pk {K : Act → World → Prop} (h : Pk H H' F) (k : WK K cx L G H') : WK K cx L G H := fun a w st => k a w (st.pk h)
theorem WC.pk {c : Code} (h : Pk H H' F) (k : WC P c Q cx L G H') : WC P c Q cx L G H := fun a w st => k a w (st.pk h)
theorem WC.pick {c : Code} (H' : List Own) (k : WC P c Q cx L G H') (h : Pk H H' F := by repeat (first | exact Pk.nil | exact Pk.all | exact Pk.app | exact Pk.appR | with_reducible apply Pk.na | (apply Pk.cons; (repeat first | exact .here | apply Rem.there | apply Rem.app)) | apply Pk.assoc | apply Pk.skip | apply Pk.skipA)) : WC P c Q cx L G H := WC.pk h k
theorem WK.pick {K : Act → World → Prop} (H' : List Own) (k : WK K cx L G H') (h : Pk H H' F := by repeat (first | exact Pk.nil | exact Pk.all | exact Pk.app | exact Pk.appR | with_reducible apply Pk.na | (apply Pk.cons; (repeat first | exact .here | apply Rem.there | apply Rem.app)) | apply Pk.assoc | apply Pk.skip | apply Pk.skipA)) : WK K cx L G H := WK.pk h k
theorem WL.pick {ops : Array Oper} {rest : List Oper} (H' : List Own) (k : WL P ops Q rest cx L G H') (h : Pk H H' F := by repeat (first | exact Pk.nil | exact Pk.all | exact Pk.app | exact Pk.appR | with_reducible apply Pk.na | (apply Pk.cons; (repeat first | exact .here | apply Rem.there | apply Rem.app)) | apply Pk.assoc | apply Pk.skip | apply Pk.skipA)) : WL P ops Q rest cx L G H := fun a w st => k a w (st.pk h)
theorem OW.callK {K : List (Nat × Value) → Gh → List Own → Prop} {d : Option Tmp} {ty : TypeId} {pos : String} {af : Array Edge} {gu : Option (Nat × Bool)} {f : Nat} {xs : Array Operand} {ats : Array TypeId} {vs : List Value} {Hf F : List Own} {R : Ending → Gh → List Own → Prop} (hx : Gb.evs L xs = some vs) [hb : Body P f]
    (hf : Fn P f vs.toArray G Hf R) (hd : dOk d cx.N = true)
    (k : ∀ v G' H', R (.returned v) G' H' → G.le G' → K (putL d v L) G' (H' ++ F)) (hp : Pk H Hf F := by repeat (first | exact Pk.nil | exact Pk.all | exact Pk.app | exact Pk.appR | with_reducible apply Pk.na | (apply Pk.cons; (repeat first | exact .here | apply Rem.there | apply Rem.app)) | apply Pk.assoc | apply Pk.skip | apply Pk.skipA)) (hno : ∀ e G' H', R e G' H' → ∃ v, e = .returned v := by intro e G' H' h; repeat (first | exact ⟨_, h.1⟩ | (obtain ⟨_, h⟩ := h))) : OW P Q ⟨d, .call { callee := .value (.func f), args := xs, argTypes := ats }, ty, pos, af, gu⟩ cx L G H K :=
  OW.callR hx hp.perm hf hd hno k
theorem Sat.pk {w : World} (h : Sat G H w) (p : Pk H H' F) : Sat G H' w := (h.perm p.perm).sub (List.sublist_append_left _ _)
theorem WC.drawS {id : Nat} {l : List Oper} {Hs : List Own} (hm : P.follows .mixedOrders = true) (hs : Pk H Hs F) (h : WB P l Q G Hs l.length (Array.replicate l.length false) cx L G H) : WC P (.region id l.toArray true) Q cx L G H := by
  intro a w st
  refine wp_region_held (S := Sat G Hs) hm ?_
  have := h a { w with drawn := w.drawn + 1 } (st.drew rfl) ((st.drew (w' := { w with drawn := w.drawn + 1 }) rfl).sat.pk hs)
  simpa using this
theorem Gv.loadRN {d : Option Tmp} {ty : TypeId} {pos : String} {af : Array Edge} {gu : Option (Nat × Bool)} {t n by_ : Nat} {z : Value} {x : Operand} {b o i : Nat} {Ha : List Own} {cs es : List Value} (hx : ev L x = some (.pointer (some ⟨b, o + i, none⟩))) [ha : Agg P t true] [hi : Inf P t n by_ z]
    (hr : ∀ w, Sat G Ha w → ∀ j v, cs[j]? = some v → w.cell? ⟨b, o + j, none⟩ = some v) (hs : Ha.Sublist H) (hc : (cs.drop i).take n = es) (hl : es.length = n) : Gv P L G H ⟨d, .load t x, ty, pos, af, gu⟩ (.agg es.toArray) :=
  fun a w sk st0 => by
    have := run_loadVarN (P := P) (w := w) (b := b) (o := o + i) ha hi hl (fun j v hv => by
      rw [← hc, List.getElem?_take] at hv
      split at hv
      · rw [List.getElem?_drop] at hv
        rw [Nat.add_assoc]; exact hr w (st0.sub hs) _ v hv
      · cases hv)
    simp [execOp, sk.eval hx, Instr.loadAt, Instr.sureAddr, this]
theorem Gv.loadR1 {d : Option Tmp} {ty : TypeId} {pos : String} {af : Array Edge} {gu : Option (Nat × Bool)} {t : Nat} {x : Operand} {b o i : Nat} {Ha : List Own} {cs : List Value} {v : Value} (hx : ev L x = some (.pointer (some ⟨b, o + i, none⟩))) [ha : Agg P t false]
    (hr : ∀ w, Sat G Ha w → ∀ j v, cs[j]? = some v → w.cell? ⟨b, o + j, none⟩ = some v) (hs : Ha.Sublist H) (hc : cs[i]? = some v) : Gv P L G H ⟨d, .load t x, ty, pos, af, gu⟩ v :=
  fun a w sk st0 => by
    have := run_loadVar1 (P := P) (w := w) (v := v) (p := ⟨b, o + i, none⟩) ha (hr w (st0.sub hs) _ v hc)
    simp [execOp, sk.eval hx, Instr.loadAt, Instr.sureAddr, this]
/-! #### a region whose order is drawn, where something stays true -/
def WS (P : Program) (l : List Oper) (Q : Exit → Act → World → Prop) (S : World → Prop) (fuel : Nat) (listed : Array Bool) (cx : Cx) (L : List (Nat × Value)) (G : Gh) (H : List Own) : Prop :=
  ∀ a w, St cx L G H a w → S w → wpAnyH P .any l.toArray Q S fuel listed a w
theorem WC.drawW {id : Nat} {l : List Oper} {S : World → Prop} (hm : P.follows .mixedOrders = true) (hS : ∀ w, Sat G H w → S w) (h : WS P l Q S l.length (Array.replicate l.length false) cx L G H) : WC P (.region id l.toArray true) Q cx L G H := by
  intro a w st
  refine wp_region_held (S := S) hm ?_
  have := h a { w with drawn := w.drawn + 1 } (st.drew rfl) (hS _ (st.drew (w' := { w with drawn := w.drawn + 1 }) rfl).sat)
  simpa using this
theorem WS.done {l : List Oper} {S : World → Prop} {fuel : Nat} {listed : Array Bool} (hr : Region.ready .any l.toArray listed = []) (h : WK (Q .normal) cx L G H) : WS P l Q S fuel listed cx L G H :=
  fun a w st _ => wpAnyH_done hr (h a w st) fuel
theorem WS.tv {l : List Oper} {S : World → Prop} {fuel i : Nat} {listed : Array Bool} {o : Oper} {v : Value} (hi : l[i]? = some o) (hk : okP l listed i = true) (hw : wantB l.toArray L o = some true) (hd : dOk o.dst cx.N = true) [hQ : QPan Q] (hv : ∀ a w, Sk L a → S w → (execOp a.eval o).run P w = .ok (.value v) w)
    (h : WS P l Q S fuel (listed.setIfInBounds i true) cx (putL o.dst v L) G H) : WS P l Q S (fuel + 1) listed cx L G H := by
  intro a w st ss
  simp only [okP, Bool.and_eq_true] at hk
  exact wpAnyH_take (by simpa using hi) hk.1.1 hk.1.2 hk.2 (fun c a' w' => hQ.h c _ _ w' (defers_put _ _ _)) (.inl ⟨st.wanted hw, fun w' s => hv a w' st.slot s⟩) ss (h _ _ (st.put o.dst v hd st.sat st.stp) ss)
theorem WS.tp {l : List Oper} {S : World → Prop} {fuel i : Nat} {listed : Array Bool} {o : Oper} {v : Value} (hi : l[i]? = some o) (hk : okP l listed i = true) (hw : wantB l.toArray L o = some true) (hd : dOk o.dst cx.N = true) [hQ : QPan Q] (hv : Gp P L o v)
    (h : WS P l Q S fuel (listed.setIfInBounds i true) cx (putL o.dst v L) G H) : WS P l Q S (fuel + 1) listed cx L G H := WS.tv hi hk hw hd (fun a w sk _ => hv a sk w) h
theorem WS.sp {l : List Oper} {S : World → Prop} {fuel i : Nat} {listed : Array Bool} {o : Oper} (hi : l[i]? = some o) (hk : okP l listed i = true) (hw : wantB l.toArray L o = some false) (hd : dOk o.dst cx.N = true) [hQ : QPan Q]
    (h : WS P l Q S fuel (listed.setIfInBounds i true) cx (putL o.dst undef L) G H) : WS P l Q S (fuel + 1) listed cx L G H := by
  intro a w st ss
  simp only [okP, Bool.and_eq_true] at hk
  exact wpAnyH_take (by simpa using hi) hk.1.1 hk.1.2 hk.2 (fun c a' w' => hQ.h c _ _ w' (defers_put _ _ _)) (.inr ⟨st.wanted hw, rfl⟩) ss (h _ _ (st.put o.dst undef hd st.sat st.stp) ss)
theorem WS.one {l : List Oper} {S : World → Prop} {fuel i : Nat} {listed : Array Bool} {o : Oper} (hr : Region.ready .any l.toArray listed = [i]) (hi : l[i]? = some o) (hw : wantB l.toArray L o = some true)
    (h : OW P Q o cx L G H fun L' G' H' => (∀ w, Sat G' H' w → S w) ∧ WS P l Q S fuel (listed.setIfInBounds i true) cx L' G' H') : WS P l Q S (fuel + 1) listed cx L G H := by
  intro a w st _
  refine wpAnyH_all hr (by simp) fun j hj => ?_
  rw [List.mem_singleton] at hj
  subst hj
  unfold wpOp
  have ho' : l.toArray[j]? = some o := by simpa using hi
  simp only [ho', st.wanted hw, if_true]
  exact .inl (h _ (fun L' G' H' k a w st' => ⟨k.1 w st'.sat, k.2 a w st' (k.1 w st'.sat)⟩) a w st)
/-- one cell is known -/
theorem load1_cell {d : Option Tmp} {ty : TypeId} {pos : String} {af : Array Edge} {gu : Option (Nat × Bool)} {t : Nat} {x : Operand} {p : Addr} {v : Value} (hx : ev L x = some (.pointer (some p))) [ha : Agg P t false] {a : Act} {w : World} (sk : Sk L a) (hc : w.cell? p = some v) : (execOp a.eval ⟨d, .load t x, ty, pos, af, gu⟩).run P w = .ok (.value v) w := by
  have := run_loadVar1 (P := P) (w := w) (v := v) (p := p) ha hc
  simp [execOp, sk.eval hx, Instr.loadAt, Instr.sureAddr, this]
theorem Sat.cell {w : World} {b o j : Nat} {c : Array Value} {t : TypeId} {fr : Nat × Nat} (h : Sat G H w) (hj : At H j (.blk b (.cells c t fr))) : w.cell? ⟨b, o, none⟩ = c[o]? := Own.cell (h.hold _ (List.mem_of_getElem? hj.get))
theorem OW.gv {o : Oper} {v : Value} {K : List (Nat × Value) → Gh → List Own → Prop} (g : Gv P L G H o v) (hd : dOk o.dst cx.N = true) (hk : K (putL o.dst v L) G H) : OW P Q o cx L G H K := OW.val hd (fun a w st => g a w st.slot st.sat) hk
theorem WK.reorder {K : Act → World → Prop} (h : Pk H H' []) (k : WK K cx L G H') : WK K cx L G H := WK.pk h k
end

section
variable {P : Program} {fn : Func} {G0 G : Gh} {w0 : World} {H0 H H' F : List Own} {R : Ending → Gh → List Own → Prop} {L : List (Nat × Value)} {N : Nat}
theorem QF.ofP {e : Exit} (he : e = .ret ∨ e = .normal) (v : Value) (hr : ∀ a w, St ⟨w0, G0, covs H0, N, []⟩ L G H a w → (results fn a.tmps).run P w = .ok v w) (h : R (.returned v) G H') (hs : Pk H H' F) : WK (QF P fn G0 w0 H0 R e) ⟨w0, G0, covs H0, N, []⟩ L G H := by
  intro a w st
  have st' := st.pk hs
  have : a.defers = [] ∧ ∃ v, (results fn a.tmps).run P w = .ok v w ∧ ∃ G' H', R (.returned v) G' H' ∧ Sat G' H' w ∧ Stp (covs H0) G0 w0 G' H' w := ⟨st.defs, v, hr a w st, G, H', h, st'.sat, st'.stp⟩
  rcases he with rfl | rfl
  · exact this
  · exact this
theorem QF.panicP {ch : List PanicEntry} (h : R (.panicked ch) G H') (hs : Pk H H' F := by repeat (first | exact Pk.nil | exact Pk.all | exact Pk.app | exact Pk.appR | with_reducible apply Pk.na | (apply Pk.cons; (repeat first | exact .here | apply Rem.there | apply Rem.app)) | apply Pk.assoc | apply Pk.skip | apply Pk.skipA)) : WK (QF P fn G0 w0 H0 R (.panic ch)) ⟨w0, G0, covs H0, N, []⟩ L G H := by
  intro a w st
  have st' := st.pk hs
  exact ⟨st.defs, G, H', h, st'.sat, st'.stp⟩
theorem QF.p0 {e : Exit} (he : e = .ret ∨ e = .normal) (hres : fn.results = #[]) (h : R (.returned (.tuple #[])) G H') (hs : Pk H H' F := by repeat (first | exact Pk.nil | exact Pk.all | exact Pk.app | exact Pk.appR | with_reducible apply Pk.na | (apply Pk.cons; (repeat first | exact .here | apply Rem.there | apply Rem.app)) | apply Pk.assoc | apply Pk.skip | apply Pk.skipA)) : WK (QF P fn G0 w0 H0 R e) ⟨w0, G0, covs H0, N, []⟩ L G H :=
  QF.ofP he (.tuple #[]) (fun a w st => by simp [results, hres]) h hs
theorem QF.p1 {e : Exit} (he : e = .ret ∨ e = .normal) {r : ResultVar} {v : Value} (hres : fn.results = #[r]) (hv : RV P L H r v) (h : R (.returned v) G H') (hs : Pk H H' F := by repeat (first | exact Pk.nil | exact Pk.all | exact Pk.app | exact Pk.appR | with_reducible apply Pk.na | (apply Pk.cons; (repeat first | exact .here | apply Rem.there | apply Rem.app)) | apply Pk.assoc | apply Pk.skip | apply Pk.skipA)) : WK (QF P fn G0 w0 H0 R e) ⟨w0, G0, covs H0, N, []⟩ L G H :=
  QF.ofP he v (fun a w st => by simp [results_rvS, hres, hv.run st]) h hs
theorem QF.p2 {e : Exit} (he : e = .ret ∨ e = .normal) {r s : ResultVar} {v u : Value} (hres : fn.results = #[r, s]) (hv : RV P L H r v) (hu : RV P L H s u) (h : R (.returned (.tuple #[v, u])) G H') (hs : Pk H H' F := by repeat (first | exact Pk.nil | exact Pk.all | exact Pk.app | exact Pk.appR | with_reducible apply Pk.na | (apply Pk.cons; (repeat first | exact .here | apply Rem.there | apply Rem.app)) | apply Pk.assoc | apply Pk.skip | apply Pk.skipA)) : WK (QF P fn G0 w0 H0 R e) ⟨w0, G0, covs H0, N, []⟩ L G H :=
  QF.ofP he (.tuple #[v, u]) (fun a w st => by simp [results_rvS, hres, hv.run st, hu.run st]) h hs
end
/-- what of ours is left may be picked out -/
theorem Fn.unpk {P : Program} {f : FuncId} {vs : Array Value} {G : Gh} {H : List Own} {R : Ending → Gh → List Own → Prop} (h : Fn P f vs G H fun e G' H' => ∃ H2 F, Pk H' H2 F ∧ R e G' H2) : Fn P f vs G H R :=
  fun w hs => (h w hs).mono fun e w' ⟨G', H', ⟨H2, F, p, r⟩, s, st⟩ => ⟨G', H2, r, s.pk p, st.size, st.keep, st.gle, st.gnew, fun x hx => st.own x (p.perm.mem_iff.2 (List.mem_append_left _ hx)), st.weq⟩
end Go.Proofs.Ytjgohbepageicaa.Gb
