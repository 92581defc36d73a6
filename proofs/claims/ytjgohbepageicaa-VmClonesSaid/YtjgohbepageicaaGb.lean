/- A small logic over the kit's rules: which cells are known and stay (G), which memory is ours (H), which slots are known (L). -/
import Derived.Tactics
import Derived.Laws.Cells
import Derived.Laws.World
import Derived.Laws.Rows
import Derived.Laws.Entries
import Derived.OrdersHeld
import Derived.WalkKit
namespace Go.Proofs.Ytjgohbepageicaa.Gb
open Go

abbrev Gh := Nat → Nat → Option Value
def Gh.le (G G' : Gh) : Prop := ∀ b o v, G b o = some v → G' b o = some v
theorem Gh.le_refl (G : Gh) : G.le G := fun _ _ _ h => h
theorem Gh.le_trans {G G' G'' : Gh} (h : G.le G') (h' : G'.le G'') : G.le G'' := fun b o v e => h' b o v (h b o v e)

inductive Own where
  | blk (b : Nat) (o : Obj)
  | spare (b lo hi : Nat)

def Own.cov : Own → Nat → Nat → Prop
  | .blk b _, b', _ => b' = b
  | .spare b lo hi, b', o => b' = b ∧ lo ≤ o ∧ o < hi

def Own.holds (w : World) : Own → Prop
  | .blk b o => w.heap[b]? = some o
  | .spare b lo hi => lo < hi → ∃ c T, w.heap[b]? = some (.cells c T (0, 0)) ∧ hi ≤ c.size

def Own.apart (x y : Own) : Prop := ∀ b o, x.cov b o → ¬ y.cov b o
theorem Own.apart_symm {x y : Own} (h : x.apart y) : y.apart x := fun b o hy hx => h b o hx hy

structure Sat (G : Gh) (H : List Own) (w : World) : Prop where
  agr : ∀ b o v, G b o = some v → w.cell? ⟨b, o, none⟩ = some v
  hold : ∀ x ∈ H, x.holds w
  apart : H.Pairwise Own.apart
  ghost : ∀ x ∈ H, ∀ b o, x.cov b o → G b o = none

def covs (H : List Own) (b o : Nat) : Prop := ∃ x ∈ H, x.cov b o

def KeepB (S : Nat → Nat → Prop) (b : Nat) (w0 w : World) : Prop :=
  ((∀ o, ¬ S b o) → w.heap[b]? = w0.heap[b]?) ∧
  ∀ c T fr, w0.heap[b]? = some (.cells c T fr) → ∃ c', w.heap[b]? = some (.cells c' T fr) ∧ c'.size = c.size ∧ ∀ o, ¬ S b o → c'[o]? = c[o]?

theorem KeepB.refl (S : Nat → Nat → Prop) (b : Nat) (w : World) : KeepB S b w w :=
  ⟨fun _ => rfl, fun c _ _ h => ⟨c, h, rfl, fun _ _ => rfl⟩⟩

theorem KeepB.trans {S S' : Nat → Nat → Prop} {b : Nat} {w0 w1 w2 : World} (h1 : KeepB S b w0 w1) (h2 : KeepB S' b w1 w2) (hs : ∀ o, S' b o → S b o) : KeepB S b w0 w2 := by
  refine ⟨fun h => ?_, fun c T fr h => ?_⟩
  · rw [h2.1 fun o ho => h o (hs o ho), h1.1 h]
  · obtain ⟨c1, e1, z1, k1⟩ := h1.2 c T fr h
    obtain ⟨c2, e2, z2, k2⟩ := h2.2 c1 T fr e1
    exact ⟨c2, e2, z2.trans z1, fun o ho => (k2 o fun h' => ho (hs o h')).trans (k1 o ho)⟩

theorem KeepB.mono {S S' : Nat → Nat → Prop} {b : Nat} {w0 w1 : World} (h1 : KeepB S b w0 w1) (hs : ∀ o, S b o → S' b o) : KeepB S' b w0 w1 :=
  ⟨fun h => h1.1 fun o ho => h o (hs o ho), fun c T fr h => let ⟨c', e, z, k⟩ := h1.2 c T fr h; ⟨c', e, z, fun o ho => k o fun h' => ho (hs o h')⟩⟩

/-- beside the memory nothing is turned, and what is frozen stays so -/
def WEq (w0 w : World) : Prop := w.os = w0.os ∧ w.output = w0.output ∧ ∀ a, w.frozen? a = w0.frozen? a
theorem WEq.refl (w : World) : WEq w w := ⟨rfl, rfl, fun _ => rfl⟩
theorem WEq.trans {w0 w1 w2 : World} (h : WEq w0 w1) (h' : WEq w1 w2) : WEq w0 w2 := ⟨h'.1.trans h.1, h'.2.1.trans h.2.1, fun a => (h'.2.2 a).trans (h.2.2 a)⟩
structure Stp (S : Nat → Nat → Prop) (G0 : Gh) (w0 : World) (G : Gh) (H : List Own) (w : World) : Prop where
  size : w0.heap.size ≤ w.heap.size
  keep : ∀ b, b < w0.heap.size → KeepB S b w0 w
  gle : G0.le G
  gnew : ∀ b o v, G b o = some v → G0 b o = some v ∨ S b o ∨ w0.heap.size ≤ b
  own : ∀ x ∈ H, ∀ b o, x.cov b o → S b o ∨ w0.heap.size ≤ b
  weq : WEq w0 w

theorem Stp.refl (G : Gh) (H : List Own) (w : World) : Stp (covs H) G w G H w :=
  ⟨Nat.le_refl _, fun b _ => KeepB.refl _ b w, G.le_refl, fun _ _ _ h => .inl h, fun x hx _ _ hc => .inl ⟨x, hx, hc⟩, WEq.refl w⟩

/-- what a call did, put behind what was done before it -/
theorem Stp.trans {S S' : Nat → Nat → Prop} {G0 G1 G2 : Gh} {w0 w1 w2 : World} {H1 H2 : List Own} (h1 : Stp S G0 w0 G1 H1 w1) (h2 : Stp S' G1 w1 G2 H2 w2)
    (hs : ∀ b o, S' b o → S b o ∨ w0.heap.size ≤ b) : Stp S G0 w0 G2 H2 w2 where
  size := Nat.le_trans h1.size h2.size
  keep b hb := (h1.keep b hb).trans (h2.keep b (Nat.lt_of_lt_of_le hb h1.size)) fun o ho => (hs b o ho).resolve_right (by omega)
  gle := Gh.le_trans h1.gle h2.gle
  gnew b o v h := by
    rcases h2.gnew b o v h with h | h | h
    · exact h1.gnew b o v h
    · rcases hs b o h with h | h
      · exact .inr (.inl h)
      · exact .inr (.inr h)
    · exact .inr (.inr (Nat.le_trans h1.size h))
  own x hx b o hc := by
    rcases h2.own x hx b o hc with h | h
    · rcases hs b o h with h | h
      · exact .inl h
      · exact .inr h
    · exact .inr (Nat.le_trans h1.size h)
  weq := h1.weq.trans h2.weq

/-! #### the slots -/
def lk : List (Nat × Value) → Nat → Option Value
  | [], _ => none
  | (k, v) :: r, t => bif Nat.beq k t then some v else lk r t

def ev (L : List (Nat × Value)) : Operand → Option Value
  | .tmp t => lk L t
  | .const v => some v
  | .global g => some (.pointer (some ⟨g, 0, none⟩))
  | .func f => some (.func (.func f) #[] #[])

def putL (d : Option Tmp) (v : Value) (L : List (Nat × Value)) : List (Nat × Value) :=
  match d with
  | some d => (d, v) :: L
  | none => L

structure Cx where
  w0 : World
  G0 : Gh
  S : Nat → Nat → Prop
  N : Nat
  D : List Deferred

structure St (cx : Cx) (L : List (Nat × Value)) (G : Gh) (H : List Own) (a : Act) (w : World) : Prop where
  size : a.tmps.size = cx.N
  defs : a.defers = cx.D
  slot : ∀ t v, lk L t = some v → a.tmps[t]? = some v
  sat : Sat G H w
  stp : Stp cx.S cx.G0 cx.w0 G H w

theorem St.eval {cx : Cx} {L : List (Nat × Value)} {G : Gh} {H : List Own} {a : Act} {w : World} (h : St cx L G H a w) {x : Operand} {v : Value} (hx : ev L x = some v) : a.eval x = v := by
  cases x with
  | tmp t => simp [Act.eval, Array.getD_eq_getD_getElem?, h.slot t v hx]
  | const u => exact Option.some.inj hx
  | global g => exact Option.some.inj hx
  | func f => exact Option.some.inj hx

def dOk (d : Option Tmp) (n : Nat) : Bool := match d with | some d => Nat.blt d n | none => true

theorem slot_put {a : Act} {N : Nat} {L : List (Nat × Value)} (hs : a.tmps.size = N) (h : ∀ t v, lk L t = some v → a.tmps[t]? = some v) (d : Option Tmp) (u : Value) (hd : dOk d N = true) :
    ∀ t v, lk (putL d u L) t = some v → (a.put d u).tmps[t]? = some v := by
  cases d with
  | none => exact h
  | some d =>
    intro t v ht
    have hdn : d < a.tmps.size := by rw [hs]; exact Nat.le_of_ble_eq_true hd
    simp only [putL, lk] at ht
    simp only [Act.put]
    by_cases e : d = t
    · subst e
      simp only [Nat.beq_refl, cond_true, Option.some.injEq] at ht
      subst ht
      simp [hdn]
    · have hb : Nat.beq d t = false := by cases hbb : Nat.beq d t with | false => rfl | true => exact absurd (Nat.eq_of_beq_eq_true hbb) e
      rw [hb] at ht
      rw [Array.getElem?_setIfInBounds_ne e]
      exact h t v ht

theorem size_put (a : Act) (d : Option Tmp) (u : Value) : (a.put d u).tmps.size = a.tmps.size := by cases d <;> simp [Act.put]
theorem defers_put (a : Act) (d : Option Tmp) (u : Value) : (a.put d u).defers = a.defers := by cases d <;> rfl

theorem St.put {cx : Cx} {L : List (Nat × Value)} {G G' : Gh} {H H' : List Own} {a : Act} {w w' : World} (h : St cx L G H a w) (d : Option Tmp) (u : Value) (hd : dOk d cx.N = true)
    (hs : Sat G' H' w') (hp : Stp cx.S cx.G0 cx.w0 G' H' w') : St cx (putL d u L) G' H' (a.put d u) w' :=
  ⟨(size_put a d u).trans h.size, (defers_put a d u).trans h.defs, slot_put h.size h.slot d u hd, hs, hp⟩

/-- fewer slots, fewer things of ours -/
theorem St.weaken {cx : Cx} {L L' : List (Nat × Value)} {G : Gh} {H H' : List Own} {a : Act} {w : World} (h : St cx L G H a w) (hL : ∀ t v, lk L' t = some v → lk L t = some v) (hH : H'.Sublist H) : St cx L' G H' a w :=
  ⟨h.size, h.defs, fun t v ht => h.slot t v (hL t v ht),
    ⟨h.sat.agr, fun x hx => h.sat.hold x (hH.subset hx), h.sat.apart.sublist hH, fun x hx => h.sat.ghost x (hH.subset hx)⟩,
    ⟨h.stp.size, h.stp.keep, h.stp.gle, h.stp.gnew, fun x hx => h.stp.own x (hH.subset hx), h.stp.weq⟩⟩

theorem Sat.perm {G : Gh} {H H' : List Own} {w : World} (h : Sat G H w) (p : H.Perm H') : Sat G H' w :=
  ⟨h.agr, fun x hx => h.hold x (p.mem_iff.2 hx), (p.pairwise_iff fun h => Own.apart_symm h).1 h.apart, fun x hx => h.ghost x (p.mem_iff.2 hx)⟩
theorem Stp.perm {S : Nat → Nat → Prop} {G0 : Gh} {w0 : World} {G : Gh} {H H' : List Own} {w : World} (h : Stp S G0 w0 G H w) (p : H.Perm H') : Stp S G0 w0 G H' w :=
  ⟨h.size, h.keep, h.gle, h.gnew, fun x hx => h.own x (p.mem_iff.2 hx), h.weq⟩
theorem St.perm {cx : Cx} {L : List (Nat × Value)} {G : Gh} {H H' : List Own} {a : Act} {w : World} (h : St cx L G H a w) (p : H.Perm H') : St cx L G H' a w :=
  ⟨h.size, h.defs, h.slot, h.sat.perm p, h.stp.perm p⟩
theorem Sat.sub {G : Gh} {H H' : List Own} {w : World} (h : Sat G H w) (hH : H'.Sublist H) : Sat G H' w :=
  ⟨h.agr, fun x hx => h.hold x (hH.subset hx), h.apart.sublist hH, fun x hx => h.ghost x (hH.subset hx)⟩

/-! #### what is to be shown: of code, of operations in their order, of what comes next -/
def WC (P : Program) (c : Code) (Q : Exit → Act → World → Prop) (cx : Cx) (L : List (Nat × Value)) (G : Gh) (H : List Own) : Prop := ∀ a w, St cx L G H a w → c.wp P Q a w
def WL (P : Program) (ops : Array Oper) (Q : Exit → Act → World → Prop) (rest : List Oper) (cx : Cx) (L : List (Nat × Value)) (G : Gh) (H : List Own) : Prop := ∀ a w, St cx L G H a w → wpList P ops Q rest a w
def WK (K : Act → World → Prop) (cx : Cx) (L : List (Nat × Value)) (G : Gh) (H : List Own) : Prop := ∀ a w, St cx L G H a w → K a w

section
variable {P : Program} {Q : Exit → Act → World → Prop} {cx : Cx} {L : List (Nat × Value)} {G : Gh} {H : List Own} {ops : Array Oper} {rest : List Oper}

theorem WC.seq {x y : Code} (h : WC P x (Exit.then (y.wp P Q) Q) cx L G H) : WC P (.seq x y) Q cx L G H := fun a w st => wp_seq (h a w st)
theorem WC.seqJ {x y : Code} (J : Act → World → Prop) (h : WC P x (Exit.then J Q) cx L G H) (hy : ∀ a w, J a w → y.wp P Q a w) : WC P (.seq x y) Q cx L G H :=
  fun a w st => wp_seq (Code.wp_mono (fun e a w q => by cases e <;> first | exact hy _ _ q | exact q) (h a w st))
theorem WC.skip (h : WK (Q .normal) cx L G H) : WC P .skip Q cx L G H := fun a w st => wp_skip (h a w st)
theorem WC.ret (h : WK (Q .ret) cx L G H) : WC P .ret Q cx L G H := fun a w st => wp_ret (h a w st)
theorem WC.exit {id : Nat} (h : WK (Q (.exit id)) cx L G H) : WC P (.exit id) Q cx L G H := fun a w st => wp_exit (h a w st)
theorem WC.block {id : Nat} {c : Code} (h : WC P c (Exit.inBlock id Q) cx L G H) : WC P (.block id c) Q cx L G H := fun a w st => wp_block (h a w st)
theorem WC.cond_true {c : Operand} {x y : Code} (hc : ev L c = some (.bool true)) (h : WC P x Q cx L G H) : WC P (.cond c x y) Q cx L G H :=
  fun a w st => wp_cond_true (st.eval hc) (h a w st)
theorem WC.cond_false {c : Operand} {x y : Code} (hc : ev L c = some (.bool false)) (h : WC P y Q cx L G H) : WC P (.cond c x y) Q cx L G H :=
  fun a w st => wp_cond_false (st.eval hc) (h a w st)
theorem WC.cond {c : Operand} {x y : Code} {t : Bool} (hc : ev L c = some (.bool t)) (h1 : t = true → WC P x Q cx L G H) (h2 : t = false → WC P y Q cx L G H) : WC P (.cond c x y) Q cx L G H := by
  cases t
  · exact WC.cond_false hc (h2 rfl)
  · exact WC.cond_true hc (h1 rfl)
theorem WC.region {id : Nat} {l : List Oper} (h : WL P l.toArray Q l cx L G H) : WC P (.region id l.toArray false) Q cx L G H := fun a w st => wp_region_lit (h a w st)
theorem WL.nil (h : WK (Q .normal) cx L G H) : WL P ops Q [] cx L G H := fun a w st => wpList_nil (h a w st)
theorem WC.weaken {c : Code} {L' : List (Nat × Value)} {H' : List Own} (hL : ∀ t v, lk L' t = some v → lk L t = some v) (hH : H'.Sublist H) (h : WC P c Q cx L' G H') : WC P c Q cx L G H :=
  fun a w st => h a w (st.weaken hL hH)
theorem WC.perm {c : Code} {H' : List Own} (p : H.Perm H') (h : WC P c Q cx L G H') : WC P c Q cx L G H := fun a w st => h a w (st.perm p)
theorem WK.weaken {K : Act → World → Prop} {L' : List (Nat × Value)} {H' : List Own} (hL : ∀ t v, lk L' t = some v → lk L t = some v) (hH : H'.Sublist H) (h : WK K cx L' G H') : WK K cx L G H :=
  fun a w st => h a w (st.weaken hL hH)
theorem WK.code {c : Code} (h : WC P c Q cx L G H) : WK (c.wp P Q) cx L G H := h

theorem wp_loop_fuel {c : Code} {X : Type} (A : Nat → X → Act → World → Prop) {k0 : Nat} {x0 : X} {a : Act} {w : World} (h₀ : A k0 x0 a w)
    (round : ∀ k x a w, A k x a w → c.wp P (Exit.then (fun a' w' => ∃ k' x', k' < k ∧ A k' x' a' w') Q) a w) : (Code.loop c).wp P Q a w := by
  intro b k cs
  have key : ∀ n x a w, A n x a w → ∃ e a' w', Q e a' w' ∧ Arrives P (lone (b.at a (.code c :: .inLoop c :: k)) cs w) b k cs e a' w' := by
    intro n
    induction n using Nat.strongRecOn with
    | _ n ih =>
      intro x a w hA
      obtain ⟨e, a₁, w₁, hq, harr⟩ := round n x a w hA b (.inLoop c :: k) cs
      cases e with
      | normal =>
        obtain ⟨n', x', hlt, hA'⟩ := hq
        obtain ⟨e₂, a₂, w₂, hq₂, harr₂⟩ := ih n' hlt x' a₁ w₁ hA'
        exact ⟨e₂, a₂, w₂, hq₂, .of_steps (Steps.trans harr (.one step_inLoop)) harr₂⟩
      | exit id => exact ⟨_, a₁, w₁, hq, .pass (x := .inLoop c) rfl (fun _ _ => .inl (by simp)) harr⟩
      | goto l => exact ⟨_, a₁, w₁, hq, .pass (x := .inLoop c) rfl (fun _ _ => .inl (by simp)) harr⟩
      | ret => exact ⟨_, a₁, w₁, hq, .pass (x := .inLoop c) rfl (fun _ _ => .inl (by simp)) harr⟩
      | panic ch => exact ⟨_, a₁, w₁, hq, .pass (x := .inLoop c) rfl (fun _ _ => .inl (by simp)) harr⟩
      | outgrown => exact ⟨_, a₁, w₁, hq, .pass (x := .inLoop c) rfl (fun _ _ => .inl (by simp)) harr⟩
  obtain ⟨e, a', w', hq, harr⟩ := key _ _ a w h₀
  exact ⟨e, a', w', hq, .of_steps (.one step_loop) harr⟩
end
end Go.Proofs.Ytjgohbepageicaa.Gb
