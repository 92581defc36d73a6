/- The rules of the small logic for single operations: what an operation leaves behind. -/
import Derived.Test.YtjgohbepageicaaGb
import Derived.Laws.Append
import Derived.Laws.AppendOwn
import Derived.Laws.Tables
namespace Go.Proofs.Ytjgohbepageicaa.Gb
open Go

/-! #### lists of what is ours -/
theorem mem_set_or {α : Type} : ∀ (l : List α) (j : Nat) (y x : α), x ∈ l.set j y → x = y ∨ x ∈ l
  | [], _, _, _, h => by simp at h
  | a :: l, 0, y, x, h => by simp at h; rcases h with h | h; exact .inl h; exact .inr (.tail _ h)
  | a :: l, j + 1, y, x, h => by
    simp at h
    rcases h with h | h
    · exact .inr (by simp [h])
    · rcases mem_set_or l j y x h with h | h
      · exact .inl h
      · exact .inr (.tail _ h)

theorem pairwise_set {R : Own → Own → Prop} (hR : ∀ x y, R x y → R y x) : ∀ (l : List Own) (j : Nat) (x y : Own), l[j]? = some x → (∀ z, R x z → R y z) → l.Pairwise R → (l.set j y).Pairwise R
  | [], _, _, _, h, _, _ => by simp at h
  | a :: l, 0, x, y, h, hxy, hp => by
    simp only [List.getElem?_cons_zero, Option.some.injEq] at h
    subst h
    rw [List.pairwise_cons] at hp
    simp only [List.set_cons_zero, List.pairwise_cons]
    exact ⟨fun z hz => hxy z (hp.1 z hz), hp.2⟩
  | a :: l, j + 1, x, y, h, hxy, hp => by
    simp only [List.getElem?_cons_succ] at h
    rw [List.pairwise_cons] at hp
    simp only [List.set_cons_succ, List.pairwise_cons]
    refine ⟨fun z hz => ?_, pairwise_set hR l j x y h hxy hp.2⟩
    rcases mem_set_or l j y z hz with e | hz
    · subst e
      exact hR _ _ (hxy a (hR _ _ (hp.1 x (List.mem_of_getElem? h))))
    · exact hp.1 z hz

/-- behind a set, what is there but is not the new one was there at another place -/
theorem mem_set_apart {R : Own → Own → Prop} (hR : ∀ x y, R x y → R y x) : ∀ (l : List Own) (j : Nat) (x y : Own), l[j]? = some x → l.Pairwise R → ∀ z ∈ l.set j y, z = y ∨ (z ∈ l ∧ R x z)
  | [], _, _, _, h, _, _, _ => by simp at h
  | a :: l, 0, x, y, h, hp, z, hz => by
    simp only [List.getElem?_cons_zero, Option.some.injEq] at h
    subst h
    rw [List.pairwise_cons] at hp
    simp only [List.set_cons_zero, List.mem_cons] at hz
    rcases hz with hz | hz
    · exact .inl hz
    · exact .inr ⟨.tail _ hz, hp.1 z hz⟩
  | a :: l, j + 1, x, y, h, hp, z, hz => by
    simp only [List.getElem?_cons_succ] at h
    rw [List.pairwise_cons] at hp
    simp only [List.set_cons_succ, List.mem_cons] at hz
    rcases hz with hz | hz
    · subst hz
      exact .inr ⟨.head _, hR _ _ (hp.1 x (List.mem_of_getElem? h))⟩
    · rcases mem_set_apart hR l j x y h hp.2 z hz with h' | h'
      · exact .inl h'
      · exact .inr ⟨.tail _ h'.1, h'.2⟩

theorem Own.holds_lt {x : Own} {w : World} (h : x.holds w) {b o : Nat} (hc : x.cov b o) : b < w.heap.size := by
  have key : ∀ b' ob, w.heap[b']? = some ob → b' < w.heap.size := fun b' ob e => by
    rcases Nat.lt_or_ge b' w.heap.size with h' | h'
    · exact h'
    · simp [Array.getElem?_eq_none h'] at e
  cases x with
  | blk b' ob => simp only [Own.cov] at hc; subst hc; exact key _ _ h
  | spare b' lo hi => obtain ⟨rfl, h1, h2⟩ := hc; obtain ⟨c, T, e, _⟩ := h (by omega); exact key _ _ e

theorem Own.holds_of_block {x : Own} {w w' : World} (h : x.holds w) (e : ∀ b o, x.cov b o → w'.heap[b]? = w.heap[b]?) : x.holds w' := by
  cases x with
  | blk b ob => show w'.heap[b]? = some ob; rw [e b 0 rfl]; exact h
  | spare b lo hi => intro hl; obtain ⟨c, T, e1, e2⟩ := h hl; exact ⟨c, T, by rw [e b lo ⟨rfl, Nat.le_refl _, hl⟩]; exact e1, e2⟩

theorem World.heap_alloc_lt (w : World) (ob : Obj) (b : Nat) (h : b < w.heap.size) : (w.alloc ob).heap[b]? = w.heap[b]? := by
  simp only [World.alloc, Array.getElem?_push]
  rw [if_neg (by omega)]

/-- a new block -/
theorem Sat.alloc {G : Gh} {H : List Own} {w : World} (h : Sat G H w) (ob : Obj) : Sat G (.blk w.heap.size ob :: H) (w.alloc ob) where
  agr b o v e := by
    have hl := block_lt_of_cell (h.agr b o v e)
    have := h.agr b o v e
    simp only [World.cell?] at this ⊢
    rw [World.heap_alloc_lt w ob b hl]; exact this
  hold x hx := by
    rcases List.mem_cons.1 hx with rfl | hx
    · show (w.alloc ob).heap[w.heap.size]? = some ob; exact heap_alloc_new w ob
    · have hh := h.hold x hx
      exact Own.holds_of_block hh fun b o hc => World.heap_alloc_lt w ob b (Own.holds_lt hh hc)
  apart := by
    rw [List.pairwise_cons]
    refine ⟨fun x hx b o hc hc' => ?_, h.apart⟩
    have := Own.holds_lt (h.hold x hx) hc'
    simp only [Own.cov] at hc
    omega
  ghost x hx b o hc := by
    rcases List.mem_cons.1 hx with rfl | hx
    · simp only [Own.cov] at hc
      subst hc
      cases hg : G w.heap.size o with
      | none => rfl
      | some v => exact absurd (block_lt_of_cell (h.agr _ _ _ hg)) (by simp)
    · exact h.ghost x hx b o hc

/-- nothing of it is frozen -/
def noFr : Obj → Prop
  | .cells _ _ fr => fr = (0, 0)
  | _ => True
theorem WEq.alloc (w : World) (ob : Obj) (hf : noFr ob) : WEq w (w.alloc ob) := by
  refine ⟨rfl, rfl, fun a => ?_⟩
  simp only [World.frozen?]
  rcases Nat.lt_trichotomy a.block w.heap.size with h | h | h
  · rw [World.heap_alloc_lt w ob _ h]
  · rw [h, heap_alloc_new w ob, Array.getElem?_eq_none (Nat.le_refl _)]
    cases ob with
    | cells c t fr =>
      have : fr = (0, 0) := hf
      subst this
      simp
    | _ => rfl
  · rw [Array.getElem?_eq_none (by rw [World.size_alloc]; omega), Array.getElem?_eq_none (by omega)]
theorem WEq.heap {w w' : World} (e : w'.heap = w.heap) (h1 : w'.os = w.os) (h2 : w'.output = w.output) : WEq w w' := ⟨h1, h2, fun a => by simp only [World.frozen?, e]⟩
theorem Stp.alloc {G : Gh} {H : List Own} {w : World} (ob : Obj) (hf : noFr ob := by first | rfl | trivial) : Stp (covs H) G w G (.blk w.heap.size ob :: H) (w.alloc ob) where
  size := by rw [World.size_alloc]; omega
  keep b hb := by
    have e := World.heap_alloc_lt w ob b hb
    exact ⟨fun _ => e, fun c T fr h => ⟨c, e.trans h, rfl, fun _ _ => rfl⟩⟩
  gle := G.le_refl
  gnew _ _ _ h := .inl h
  own x hx b o hc := by
    rcases List.mem_cons.1 hx with rfl | hx
    · simp only [Own.cov] at hc; exact .inr (by omega)
    · exact .inl ⟨x, hx, hc⟩
  weq := WEq.alloc w ob hf

/-- a block of ours is turned -/
theorem Sat.upd {G : Gh} {H : List Own} {w w' : World} (h : Sat G H w) {j b : Nat} {ob ob' : Obj} (hj : H[j]? = some (.blk b ob)) (hb : w'.heap[b]? = some ob') (ho : ∀ i, i ≠ b → w'.heap[i]? = w.heap[i]?) :
    Sat G (H.set j (.blk b ob')) w' where
  agr b' o v e := by
    have hne : b' ≠ b := fun e' => by
      have := h.ghost _ (List.mem_of_getElem? hj) b' o e'
      rw [this] at e; cases e
    have := h.agr b' o v e
    simp only [World.cell?] at this ⊢
    rw [ho b' hne]; exact this
  hold x hx := by
    rcases mem_set_apart (fun _ _ => Own.apart_symm) H j _ (.blk b ob') hj h.apart x hx with rfl | ⟨hx, hap⟩
    · exact hb
    · have hh := h.hold x hx
      exact Own.holds_of_block hh fun b' o hc => ho b' fun e => hap b' o e hc
  apart := pairwise_set (fun _ _ => Own.apart_symm) H j _ _ hj (fun z hz => hz) h.apart
  ghost x hx b' o hc := by
    rcases mem_set_apart (fun _ _ => Own.apart_symm) H j _ (.blk b ob') hj h.apart x hx with rfl | ⟨hx, _⟩
    · exact h.ghost _ (List.mem_of_getElem? hj) b' o hc
    · exact h.ghost x hx b' o hc

theorem Stp.upd {G : Gh} {H : List Own} {w w' : World} {j b : Nat} {ob ob' : Obj} (hj : H[j]? = some (.blk b ob)) (hw : w.heap[b]? = some ob) (hb : w'.heap[b]? = some ob') (ho : ∀ i, i ≠ b → w'.heap[i]? = w.heap[i]?)
    (hz : w'.heap.size = w.heap.size) (hwq : WEq w w') (hs : ∀ c T fr, ob = .cells c T fr → ∃ c', ob' = .cells c' T fr ∧ c'.size = c.size) : Stp (covs H) G w G (H.set j (.blk b ob')) w' where
  size := by omega
  keep i hi := by
    by_cases e : i = b
    · subst e
      have hcov : ∀ o, covs H i o := fun o => ⟨_, List.mem_of_getElem? hj, rfl⟩
      refine ⟨fun hn => absurd (hcov 0) (hn 0), fun c T fr h => ?_⟩
      rw [hw] at h
      obtain ⟨c', e1, e2⟩ := hs c T fr (Option.some.inj h)
      exact ⟨c', by rw [hb, e1], e2, fun o hn => absurd (hcov o) hn⟩
    · exact ⟨fun _ => ho i e, fun c T fr h => ⟨c, (ho i e).trans h, rfl, fun _ _ => rfl⟩⟩
  gle := G.le_refl
  gnew _ _ _ h := .inl h
  own x hx b' o hc := by
    rcases mem_set_or H j _ x hx with rfl | hx
    · exact .inl ⟨_, List.mem_of_getElem? hj, hc⟩
    · exact .inl ⟨x, hx, hc⟩
  weq := hwq

/-- the count of draws alone is turned -/
theorem Sat.drew {G : Gh} {H : List Own} {w w' : World} (h : Sat G H w) (e : w'.heap = w.heap) : Sat G H w' :=
  ⟨fun b o v hg => by have := h.agr b o v hg; simp only [World.cell?] at this ⊢; rw [e]; exact this,
   fun x hx => Own.holds_of_block (h.hold x hx) fun b o _ => by rw [e], h.apart, h.ghost⟩
theorem Stp.drew {G : Gh} {H : List Own} {w w' : World} (e : w'.heap = w.heap) (h1 : w'.os = w.os := by rfl) (h2 : w'.output = w.output := by rfl) : Stp (covs H) G w G H w' :=
  ⟨by rw [e]; exact Nat.le_refl _, fun b _ => ⟨fun _ => by rw [e], fun c T fr h => ⟨c, by rw [e]; exact h, rfl, fun _ _ => rfl⟩⟩, G.le_refl, fun _ _ _ h => .inl h, fun x hx _ _ hc => .inl ⟨x, hx, hc⟩, WEq.heap e h1 h2⟩

theorem Stp.then {S : Nat → Nat → Prop} {G0 G1 G2 : Gh} {w0 w1 w2 : World} {H1 H2 : List Own} (h1 : Stp S G0 w0 G1 H1 w1) (h2 : Stp (covs H1) G1 w1 G2 H2 w2) : Stp S G0 w0 G2 H2 w2 :=
  h1.trans h2 fun b o ⟨x, hx, hc⟩ => h1.own x hx b o hc

theorem St.drew {cx : Cx} {L : List (Nat × Value)} {G : Gh} {H : List Own} {a : Act} {w w' : World} (h : St cx L G H a w) (e : w'.heap = w.heap) (h1 : w'.os = w.os := by rfl) (h2 : w'.output = w.output := by rfl) : St cx L G H a w' :=
  ⟨h.size, h.defs, h.slot, h.sat.drew e, h.stp.then (Stp.drew e h1 h2)⟩

/-! #### one operation -/
def wantB (ops : Array Oper) (L : List (Nat × Value)) (o : Oper) : Option Bool :=
  match o.guard with
  | none => some true
  | some (j, b) => match (ops[j]?).bind (·.dst) with
    | some d => match lk L d with
      | some (.bool c) => some (c == b)
      | some (.tuple _) => some false
      | _ => none
    | none => none

theorem St.wanted {cx : Cx} {L : List (Nat × Value)} {G : Gh} {H : List Own} {a : Act} {w : World} (st : St cx L G H a w) {ops : Array Oper} {o : Oper} {b : Bool} (h : wantB ops L o = some b) :
    Region.wanted o (yielded ops a.tmps) = b := by
  unfold wantB at h
  unfold Region.wanted
  cases hg : o.guard with
  | none => rw [hg] at h; simpa using h
  | some p =>
    obtain ⟨j, u⟩ := p
    rw [hg] at h
    simp only at h ⊢
    unfold yielded
    cases hd : (ops[j]?).bind (·.dst) with
    | none => rw [hd] at h; cases h
    | some d =>
      rw [hd] at h
      simp only at h
      cases hl : lk L d with
      | none => rw [hl] at h; cases h
      | some v =>
        rw [hl] at h
        have e := st.slot d _ hl
        cases v <;> simp only at h <;> try (cases h; done)
        · rename_i c
          simp only [Option.bind_some, e]
          have e2 := Option.some.inj h
          rw [← e2]
          cases c <;> cases u <;> rfl
        · simp only [Option.bind_some, e]
          have e2 := Option.some.inj h
          rw [← e2]
          rfl

/-- what an operation comes to, whatever comes behind it -/
def OW (P : Program) (Q : Exit → Act → World → Prop) (o : Oper) (cx : Cx) (L : List (Nat × Value)) (G : Gh) (H : List Own) (K : List (Nat × Value) → Gh → List Own → Prop) : Prop :=
  ∀ next : Act → World → Prop, (∀ L' G' H', K L' G' H' → ∀ a w, St cx L' G' H' a w → next a w) → ∀ a w, St cx L G H a w → o.wp P a w next Q

section
variable {P : Program} {Q : Exit → Act → World → Prop} {cx : Cx} {L : List (Nat × Value)} {G : Gh} {H : List Own} {ops : Array Oper} {rest : List Oper} {o : Oper}
  {K : List (Nat × Value) → Gh → List Own → Prop}

theorem WL.op (hw : wantB ops L o = some true) (h : OW P Q o cx L G H fun L' G' H' => WL P ops Q rest cx L' G' H') : WL P ops Q (o :: rest) cx L G H := by
  intro a w st
  unfold wpList
  rw [if_pos (st.wanted hw)]
  exact .inl (h _ (fun L' G' H' k a w st' => k a w st') a w st)

theorem WL.skip (hw : wantB ops L o = some false) (hd : dOk o.dst cx.N = true) (h : WL P ops Q rest cx (putL o.dst undef L) G H) : WL P ops Q (o :: rest) cx L G H := by
  intro a w st
  unfold wpList
  rw [if_neg (by rw [st.wanted hw]; simp)]
  exact h _ _ (st.put o.dst undef hd st.sat st.stp)

theorem OW.gives (hd : dOk o.dst cx.N = true)
    (h : ∀ a w, St cx L G H a w → ∃ v w' G' H', ((execOp a.eval o).run P w = .ok (.value v) w' ∨ v = undef ∧ (execOp a.eval o).run P w = .ok .skip w') ∧ Sat G' H' w' ∧ Stp (covs H) G w G' H' w' ∧ K (putL o.dst v L) G' H') :
    OW P Q o cx L G H K := by
  intro next hn a w st
  obtain ⟨v, w', G', H', hr, hs, hp, hk⟩ := h a w st
  unfold Oper.wp
  rcases hr with hr | ⟨rfl, hr⟩
  · rw [hr]; exact hn _ _ _ hk _ _ (st.put o.dst v hd hs (st.stp.then hp))
  · rw [hr]; exact hn _ _ _ hk _ _ (st.put o.dst undef hd hs (st.stp.then hp))

/-- an operation that turns nothing, of which its run is known -/
theorem OW.val {v : Value} (hd : dOk o.dst cx.N = true) (h : ∀ a w, St cx L G H a w → (execOp a.eval o).run P w = .ok (.value v) w) (hk : K (putL o.dst v L) G H) : OW P Q o cx L G H K :=
  OW.gives hd fun a w st => ⟨v, w, G, H, .inl (h a w st), st.sat, Stp.drew rfl, hk⟩

def rhoL (L : List (Nat × Value)) (x : Operand) : Value := (ev L x).getD undef
def knownB (L : List (Nat × Value)) (o : Oper) : Bool := o.op.operands.all (fun x => (ev L x).isSome) && (match o.op with | .select .. => false | _ => true)

theorem St.exec {a : Act} {w : World} (st : St cx L G H a w) (h : knownB L o = true) : execOp a.eval o = execOp (rhoL L) o := by
  unfold knownB at h
  rw [Bool.and_eq_true] at h
  refine execOp_congr o (fun cs b e => by rw [e] at h; simp at h) fun x hx => ?_
  have := Array.all_eq_true_iff_forall_mem.1 h.1 x hx
  cases he : ev L x with
  | none => rw [he] at this; cases this
  | some v => rw [st.eval he]; simp [rhoL, he]

/-- an operation that reads no memory: its run is reckoned -/
theorem OW.pure {v : Value} (hkn : knownB L o = true) (hd : dOk o.dst cx.N = true) (h : ∀ w, (execOp (rhoL L) o).run P w = .ok (.value v) w) (hk : K (putL o.dst v L) G H) : OW P Q o cx L G H K :=
  OW.val hd (fun a w st => by rw [st.exec hkn]; exact h w) hk

/-! #### the ways out of a piece of code -/
theorem WK.thN {y : Code} {Q : Exit → Act → World → Prop} (h : WC P y Q cx L G H) : WK (Exit.then (y.wp P Q) Q .normal) cx L G H := h
theorem WK.thJ {J : Act → World → Prop} {Q : Exit → Act → World → Prop} (h : WK J cx L G H) : WK (Exit.then J Q .normal) cx L G H := h
theorem WK.thR {J : Act → World → Prop} {Q : Exit → Act → World → Prop} (h : WK (Q .ret) cx L G H) : WK (Exit.then J Q .ret) cx L G H := h
theorem WK.thE {J : Act → World → Prop} {Q : Exit → Act → World → Prop} {id : Nat} (h : WK (Q (.exit id)) cx L G H) : WK (Exit.then J Q (.exit id)) cx L G H := h
theorem WK.thP {J : Act → World → Prop} {Q : Exit → Act → World → Prop} {ch : List PanicEntry} (h : WK (Q (.panic ch)) cx L G H) : WK (Exit.then J Q (.panic ch)) cx L G H := h
theorem WK.blN {id : Nat} {Q : Exit → Act → World → Prop} (h : WK (Q .normal) cx L G H) : WK (Exit.inBlock id Q .normal) cx L G H := h
theorem WK.blR {id : Nat} {Q : Exit → Act → World → Prop} (h : WK (Q .ret) cx L G H) : WK (Exit.inBlock id Q .ret) cx L G H := h
theorem WK.blP {id : Nat} {Q : Exit → Act → World → Prop} {ch : List PanicEntry} (h : WK (Q (.panic ch)) cx L G H) : WK (Exit.inBlock id Q (.panic ch)) cx L G H := h
theorem WK.blE {id : Nat} {Q : Exit → Act → World → Prop} (h : WK (Q .normal) cx L G H) : WK (Exit.inBlock id Q (.exit id)) cx L G H := fun a w st => by
  show (if id = id then _ else _)
  rw [if_pos rfl]; exact h a w st
theorem WK.blO {id id' : Nat} {Q : Exit → Act → World → Prop} (hne : Nat.beq id' id = false) (h : WK (Q (.exit id')) cx L G H) : WK (Exit.inBlock id Q (.exit id')) cx L G H := fun a w st => by
  show (if id' = id then _ else _)
  rw [if_neg (fun e => by subst e; rw [Nat.beq_refl] at hne; cases hne)]; exact h a w st
/-- what comes next, its wrappings taken off -/
def Un (g g' : Prop) : Prop := g' → g
theorem Un.rfl' {g : Prop} : Un g g := id
theorem Un.thN {y : Code} {Q : Exit → Act → World → Prop} : Un (WK (Exit.then (y.wp P Q) Q .normal) cx L G H) (WC P y Q cx L G H) := id
theorem Un.thJ {J : Act → World → Prop} {Q : Exit → Act → World → Prop} {g : Prop} (h : Un (WK J cx L G H) g) : Un (WK (Exit.then J Q .normal) cx L G H) g := h
theorem Un.thR {J : Act → World → Prop} {Q : Exit → Act → World → Prop} {g : Prop} (h : Un (WK (Q .ret) cx L G H) g) : Un (WK (Exit.then J Q .ret) cx L G H) g := h
theorem Un.thE {J : Act → World → Prop} {Q : Exit → Act → World → Prop} {id : Nat} {g : Prop} (h : Un (WK (Q (.exit id)) cx L G H) g) : Un (WK (Exit.then J Q (.exit id)) cx L G H) g := h
theorem Un.thP {J : Act → World → Prop} {Q : Exit → Act → World → Prop} {ch : List PanicEntry} {g : Prop} (h : Un (WK (Q (.panic ch)) cx L G H) g) : Un (WK (Exit.then J Q (.panic ch)) cx L G H) g := h
theorem Un.blN {id : Nat} {Q : Exit → Act → World → Prop} {g : Prop} (h : Un (WK (Q .normal) cx L G H) g) : Un (WK (Exit.inBlock id Q .normal) cx L G H) g := h
theorem Un.blR {id : Nat} {Q : Exit → Act → World → Prop} {g : Prop} (h : Un (WK (Q .ret) cx L G H) g) : Un (WK (Exit.inBlock id Q .ret) cx L G H) g := h
theorem Un.blP {id : Nat} {Q : Exit → Act → World → Prop} {ch : List PanicEntry} {g : Prop} (h : Un (WK (Q (.panic ch)) cx L G H) g) : Un (WK (Exit.inBlock id Q (.panic ch)) cx L G H) g := h
theorem Un.blE {id : Nat} {Q : Exit → Act → World → Prop} {g : Prop} (h : Un (WK (Q .normal) cx L G H) g) : Un (WK (Exit.inBlock id Q (.exit id)) cx L G H) g := fun x => WK.blE (h x)
theorem Un.blO {id id' : Nat} {Q : Exit → Act → World → Prop} {g : Prop} (hne : Nat.beq id' id = false) (h : Un (WK (Q (.exit id')) cx L G H) g) : Un (WK (Exit.inBlock id Q (.exit id')) cx L G H) g := fun x => WK.blO hne (h x)
theorem WK.un {g g' : Prop} (h : g') (e : Un g g' := by repeat (first | with_reducible exact Un.thN | with_reducible apply Un.thR | with_reducible apply Un.thE | with_reducible apply Un.thP | with_reducible apply Un.blN | with_reducible apply Un.blR | with_reducible apply Un.blP | with_reducible apply Un.blE | with_reducible refine Un.blO rfl ?_ | with_reducible apply Un.thJ | exact Un.rfl')) : g := e h
def Sk (L : List (Nat × Value)) (a : Act) : Prop := ∀ t v, lk L t = some v → a.tmps[t]? = some v
def Gv (P : Program) (L : List (Nat × Value)) (G : Gh) (H : List Own) (o : Oper) (v : Value) : Prop := ∀ a w, Sk L a → Sat G H w → (execOp a.eval o).run P w = .ok (.value v) w
theorem WL.nilC {y : Code} {Q' : Exit → Act → World → Prop} (h : WC P y Q' cx L G H) : WL P ops (Exit.then (y.wp P Q') Q') [] cx L G H := h
theorem WC.skipC {y : Code} {Q' : Exit → Act → World → Prop} (h : WC P y Q' cx L G H) : WC P .skip (Exit.then (y.wp P Q') Q') cx L G H := WC.skip h
/-- the slots alone tell what the operation gives -/
def Gp (P : Program) (L : List (Nat × Value)) (o : Oper) (v : Value) : Prop := ∀ a, Sk L a → ∀ w, (execOp a.eval o).run P w = .ok (.value v) w
theorem Gp.gv {v : Value} (h : Gp P L o v) : Gv P L G H o v := fun a w sk _ => h a sk w
theorem WL.v {v : Value} (g : Gv P L G H o v) (hw : wantB ops L o = some true) (hd : dOk o.dst cx.N = true) (k : WL P ops Q rest cx (putL o.dst v L) G H) : WL P ops Q (o :: rest) cx L G H :=
  WL.op hw (OW.val hd (fun a w st => g a w st.slot st.sat) k)
theorem WL.p {v : Value} (g : Gp P L o v) (hw : wantB ops L o = some true) (hd : dOk o.dst cx.N = true) (k : WL P ops Q rest cx (putL o.dst v L) G H) : WL P ops Q (o :: rest) cx L G H := WL.v g.gv hw hd k
theorem Sk.eval {a : Act} (h : Sk L a) {x : Operand} {v : Value} (hx : ev L x = some v) : a.eval x = v := by
  cases x with
  | tmp t => simp [Act.eval, Array.getD_eq_getD_getElem?, h t v hx]
  | const u => exact Option.some.inj hx
  | global g => exact Option.some.inj hx
  | func f => exact Option.some.inj hx
end
end Go.Proofs.Ytjgohbepageicaa.Gb
