/- Statements whose order is open: an operation may be taken first if nothing that can come before it writes to memory. -/
import Derived.Test.YtjgohbepageicaaGe
namespace Go.Proofs.Ytjgohbepageicaa.Gb
open Go
set_option linter.unusedVariables false

/-- a computation that writes to nothing that is there -/
def NW {α : Type} : Sem α → Prop
  | .pure _ => True
  | .load _ _ k => ∀ v, NW (k v)
  | .store .. => False
  | .new _ k => ∀ r, NW (k r)
  | .shape _ k => ∀ s, NW (k s)
  | .freeze .. => False
  | .frozen _ k => ∀ b, NW (k b)
  | .getObj _ k => ∀ o, NW (k o)
  | .setObj .. => False
  | .choose _ k => ∀ n, NW (k n)
  | .sys .. => False
  | .program k => ∀ p, NW (k p)
  | .mark _ k => NW k
  | .halt _ => True

theorem NW.bind {α β : Type} {x : Sem α} {f : α → Sem β} (h : NW x) (hf : ∀ a, NW (f a)) : NW (x >>= f) := by
  show NW (x.bind f)
  induction x with
  | pure a => exact hf a
  | load m a k ih => exact fun v => ih v (h v)
  | store => exact h.elim
  | new o k ih => exact fun r => ih r (h r)
  | shape r k ih => exact fun s => ih s (h s)
  | freeze => exact h.elim
  | frozen a k ih => exact fun b => ih b (h b)
  | getObj r k ih => exact fun o => ih o (h o)
  | setObj => exact h.elim
  | choose q k ih => exact fun n => ih n (h n)
  | sys => exact h.elim
  | program k ih => exact fun p => ih p (h p)
  | mark m k ih => exact ih h
  | halt => trivial
theorem NW.pure {α : Type} (a : α) : NW (Pure.pure a : Sem α) := trivial
theorem NW.map {α β : Type} {x : Sem α} (h : NW x) (f : α → β) : NW (f <$> x) := h.bind (x := x) fun _ => trivial

def Ext (w w' : World) : Prop := w.heap.size ≤ w'.heap.size ∧ ∀ b, b < w.heap.size → w'.heap[b]? = w.heap[b]?
theorem Ext.refl (w : World) : Ext w w := ⟨Nat.le_refl _, fun _ _ => rfl⟩
theorem Ext.trans {w w' w'' : World} (h : Ext w w') (h' : Ext w' w'') : Ext w w'' := ⟨Nat.le_trans h.1 h'.1, fun b hb => (h'.2 b (Nat.lt_of_lt_of_le hb h.1)).trans (h.2 b hb)⟩

theorem NW.run {α : Type} {P : Program} (x : Sem α) : NW x → ∀ w a w', x.run P w = .ok a w' → Ext w w' := by
  induction x with
  | pure a => intro _ w a w' e; cases e; exact Ext.refl _
  | load m a k ih =>
    intro h w v w' e
    simp only [Sem.run] at e
    split at e
    · exact ih _ (h _) _ _ _ e
    · split at e
      · exact ih _ (h _) _ _ _ e
      · cases e
  | store => intro h; exact h.elim
  | new o k ih =>
    intro h w v w' e
    simp only [Sem.run] at e
    refine Ext.trans ⟨by simp, fun b hb => ?_⟩ (ih _ (h _) _ _ _ e)
    exact World.heap_alloc_lt w o b hb
  | shape r k ih => intro h w v w' e; simp only [Sem.run] at e; exact ih _ (h _) _ _ _ e
  | freeze => intro h; exact h.elim
  | frozen a k ih => intro h w v w' e; simp only [Sem.run] at e; exact ih _ (h _) _ _ _ e
  | getObj r k ih =>
    intro h w v w' e
    simp only [Sem.run] at e
    split at e
    · cases e
    · exact ih _ (h _) _ _ _ e
    · cases e
  | setObj => intro h; exact h.elim
  | choose q k ih =>
    intro h w v w' e
    simp only [Sem.run] at e
    by_cases hf : q.forced = true
    · rw [if_pos hf] at e; exact ih _ (h _) _ _ _ e
    · rw [if_neg hf] at e; have h2 := ih _ (h _) _ _ _ e; exact ⟨h2.1, h2.2⟩
  | sys => intro h; exact h.elim
  | program k ih => intro h w v w' e; simp only [Sem.run] at e; exact ih _ (h _) _ _ _ e
  | mark m k ih => intro h w v w' e; simp only [Sem.run] at e; exact ih h _ _ _ e
  | halt => intro h w v w' e; cases e

theorem nw_load (a : Addr) (m : Mode) : NW (load a m) := fun _ => trivial
theorem nw_newObj (o : Obj) : NW (newObj o) := fun _ => trivial
theorem nw_shape (r : Nat) : NW (shape r) := fun _ => trivial
theorem nw_frozen (a : Addr) : NW (frozen a) := fun _ => trivial
theorem nw_getObj (r : Nat) : NW (getObj r) := fun _ => trivial
theorem nw_choose (q : Question) : NW (choose q) := fun _ => trivial
theorem nw_program : NW program := fun _ => trivial
theorem nw_mark (m : Mark) : NW (mark m) := trivial
theorem nw_stuck {α : Type} (s : String) : NW (stuck s : Sem α) := trivial
theorem nw_unsupported {α : Type} (u : Unsupported) : NW (unsupported u : Sem α) := trivial
theorem nw_goPanic {α : Type} (v : Value) : NW (goPanic v : Sem α) := trivial
theorem nw_typeInfo (t : TypeId) : NW (typeInfo t) := by unfold typeInfo; refine nw_program.bind fun p => ?_; split <;> trivial
theorem nw_underlying (t : TypeId) : NW (underlying t) := by unfold underlying; refine nw_program.bind fun p => ?_; split <;> trivial
theorem nw_zeroValue (t : TypeId) : NW (zeroValue t) := by unfold zeroValue; refine (nw_typeInfo t).bind fun i => ?_; split <;> trivial
theorem nw_sizeOf (t : TypeId) : NW (sizeOf t) := (nw_typeInfo t).bind fun _ => trivial
theorem nw_isAgg (t : TypeId) : NW (isAgg t) := by unfold isAgg; refine (nw_underlying t).bind fun d => ?_; split <;> trivial
theorem nw_loadCellsFrom (a : Addr) : ∀ (n i : Nat) (acc : Array Value), NW (loadCellsFrom a i n acc)
  | 0, _, _ => trivial
  | n + 1, i, acc => (nw_load _ _).bind fun v => nw_loadCellsFrom a n (i + 1) (acc.push v)
theorem nw_loadVar (t : TypeId) (a : Addr) : NW (loadVar t a) := by
  unfold loadVar
  refine (nw_isAgg t).bind fun b => ?_
  split
  · exact (nw_sizeOf t).bind fun n => (nw_loadCellsFrom a n 0 #[]).bind fun _ => trivial
  · exact nw_load a _
theorem nw_newVar (t : TypeId) (v : Value) : NW (newVar t v) := (nw_newObj _).bind fun _ => trivial
theorem nw_elemOf (t : TypeId) : NW (elemOf t) := by unfold elemOf; refine (nw_underlying t).bind fun d => ?_; split <;> trivial
theorem nw_runtimePanic {α : Type} (e : RuntimeError) : NW (runtimePanic e : Sem α) := by
  unfold runtimePanic
  refine nw_program.bind fun p => ?_
  cases e <;> first
    | exact trivial
    | exact (nw_elemOf _).bind fun _ => (nw_newVar _ _).bind fun _ => trivial
theorem nw_boundsPanic {α : Type} (k : IntKind) (x y : Int) (c : BoundsCode) : NW (boundsPanic k x y c : Sem α) := by
  unfold boundsPanic
  split
  · exact ((nw_choose _).map _).bind fun _ => nw_runtimePanic _
  · exact (NW.pure _).bind fun _ => nw_runtimePanic _
theorem nw_asIntOf (v : Value) : NW (asIntOf v) := by unfold asIntOf; split <;> trivial
theorem nw_asBool (v : Value) : NW (asBool v) := by unfold asBool; split <;> trivial
theorem nw_sureAddr (v : Value) : NW (Instr.sureAddr v) := by unfold Instr.sureAddr; split <;> trivial
theorem nw_viewAt (r : Nat) : NW (viewAt r) := by
  unfold viewAt
  refine (nw_shape r).bind fun s => ?_
  split
  · trivial
  · refine (nw_getObj r).bind fun o => ?_
    split <;> trivial
theorem nw_noView (a : Addr) : NW (noView a) := by unfold noView; refine (nw_viewAt _).bind fun v => ?_; split <;> trivial
theorem nw_byteOf (a : Addr) : NW (byteOf a) := by
  unfold byteOf
  split
  · trivial
  · refine nw_program.bind fun p => (nw_noView a).bind fun _ => (nw_shape _).bind fun s => ?_
    split
    · dsimp only
      split
      · trivial
      · split <;> trivial
    · trivial
theorem nw_partAt (a : Addr) (c b : Nat) : NW (partAt a c b) := (nw_byteOf _).bind fun _ => (nw_byteOf _).bind fun _ => trivial
theorem nw_fieldPlace (a : Addr) (f : Field) : NW (fieldPlace a f) := by unfold fieldPlace; refine (nw_sizeOf _).bind fun n => ?_; split; exact nw_partAt _ _ _; trivial
theorem nw_fieldAt (t : TypeId) (v : Value) (i : Nat) : NW (Instr.fieldAt t v i) := by
  unfold Instr.fieldAt
  refine (nw_underlying t).bind fun d => ?_
  split
  · split
    · exact (nw_sureAddr v).bind fun a => (nw_fieldPlace _ _).bind fun _ => trivial
    · trivial
  · trivial

theorem nw_sliceBound (x : Value) (y : Nat) (c : BoundsCode) : NW (Instr.sliceBound x y c) := by
  unfold Instr.sliceBound
  refine (nw_asIntOf x).bind fun p => ?_
  dsimp only
  split
  · trivial
  · exact nw_boundsPanic _ _ _ _
theorem nw_sliceBounds (s : Bool) (n c : Nat) (lo hi mx : Option Value) : NW (Instr.sliceBounds s n c lo hi mx) := by
  unfold Instr.sliceBounds
  repeat' (first | with_reducible trivial | exact nw_sliceBound _ _ _ | exact nw_underlying _ | exact nw_sizeOf _ | exact nw_boundsPanic _ _ _ _ | exact nw_sureAddr _ | exact NW.pure _ | exact nw_stuck _ | exact nw_unsupported _ | with_reducible refine NW.bind ?_ (fun _ => ?_) | split | dsimp only)
theorem nw_slice (t : TypeId) (x : Value) (lo hi mx : Option Value) : NW (Instr.slice t x lo hi mx) := by
  unfold Instr.slice
  refine (nw_underlying t).bind fun d => ?_
  split
  · split
    · trivial
    · exact (nw_sliceBounds _ _ _ _ _ _).bind fun _ => trivial
  · exact (nw_sliceBounds _ _ _ _ _ _).bind fun _ => (nw_sizeOf _).bind fun _ => trivial
  · refine NW.bind (by unfold asAddr; split <;> first | trivial | exact nw_runtimePanic _) fun a => (nw_underlying _).bind fun d => ?_
    split
    · exact (nw_sliceBounds _ _ _ _ _ _).bind fun _ => (nw_sizeOf _).bind fun _ => trivial
    · trivial
  · trivial
theorem nw_sliceAt (t : TypeId) (x : Value) (lo hi mx : Option Value) : NW (Instr.sliceAt t x lo hi mx) := by
  unfold Instr.sliceAt
  refine (nw_underlying t).bind fun d => ?_
  split
  · exact (nw_sureAddr x).bind fun a => (nw_sliceBounds _ _ _ _ _ _).bind fun _ => (nw_sizeOf _).bind fun _ => trivial
  · exact nw_slice _ _ _ _ _
theorem nw_indexAt (t : TypeId) (x i : Value) : NW (Instr.indexAt t x i) := by
  unfold Instr.indexAt
  refine (nw_asIntOf i).bind fun p => ?_
  repeat' (first | with_reducible trivial | exact nw_sliceBound _ _ _ | exact nw_underlying _ | exact nw_sizeOf _ | exact nw_boundsPanic _ _ _ _ | exact nw_sureAddr _ | exact NW.pure _ | exact nw_stuck _ | exact nw_unsupported _ | with_reducible refine NW.bind ?_ (fun _ => ?_) | split | dsimp only)
theorem nw_part (t : TypeId) (cs : Array Value) (o : Nat) : NW (part t cs o) := by
  unfold part
  refine (nw_isAgg t).bind fun b => ?_
  split
  · exact (nw_sizeOf t).bind fun _ => trivial
  · split <;> trivial
theorem nw_field (t : TypeId) (x : Value) (i : Nat) : NW (Instr.field t x i) := by
  unfold Instr.field
  refine (nw_underlying t).bind fun d => ?_
  split
  · split
    · exact NW.bind (by unfold asAgg; split <;> trivial) fun _ => nw_part _ _ _
    · trivial
  · trivial
theorem nw_index (t : TypeId) (x i : Value) : NW (Instr.index t x i) := by
  unfold Instr.index
  refine (nw_asIntOf i).bind fun p => (nw_underlying t).bind fun d => ?_
  split
  · split
    · exact (nw_sizeOf _).bind fun _ => nw_part _ _ _
    · exact nw_boundsPanic _ _ _ _
  · split
    · trivial
    · exact nw_boundsPanic _ _ _ _
  · trivial
theorem nw_len (ats : Array TypeId) (t : TypeId) (args : Array Value) : NW (Builtin.len_ ats t args) := by
  unfold Builtin.len_
  split
  · refine (nw_underlying _).bind fun d => ?_
    split <;> first
      | trivial
      | exact (nw_underlying _).bind fun d => by split <;> trivial
      | exact (nw_getObj _).bind fun d => by split <;> trivial
  · trivial

theorem nw_followBlind : ∀ (l : List FieldStep) (t : TypeId) (x : Option Value), NW (followBlind l t x)
  | [], _, _ => trivial
  | s :: rest, t, x => by
    unfold followBlind
    refine (nw_underlying _).bind fun d => ?_
    split
    · split
      · split <;> first
          | trivial
          | exact nw_followBlind rest _ _
          | exact (nw_part _ _ _).bind fun _ => nw_followBlind rest _ _
      · trivial
    · trivial
theorem nw_nilAhead : ∀ (n : Nat) (t : TypeId) (v : Value) (name : String), NW (nilAhead n t v name)
  | 0, _, _, _ => trivial
  | n + 1, t, v, name => by
    unfold nilAhead
    refine (nw_typeInfo t).bind fun i => ?_
    split
    · refine (nw_followBlind _ _ _).bind fun r => ?_
      split
      · trivial
      · split <;> first
          | trivial
          | exact nw_nilAhead n _ _ _
          | (refine (nw_underlying _).bind fun d => ?_; split <;> trivial)
    · trivial
theorem nw_mapM {α β : Type} (f : α → Sem β) (hf : ∀ a, NW (f a)) : ∀ (l : List α), NW (l.mapM f)
  | [] => NW.pure _
  | a :: l => by
    rw [List.mapM_cons]
    exact (hf a).bind fun _ => (nw_mapM f hf l).bind fun _ => NW.pure _
theorem nw_mapMA {α β : Type} (f : α → Sem β) (hf : ∀ a, NW (f a)) (l : Array α) : NW (l.mapM f) := by
  rw [Array.mapM_eq_mapM_toList]
  exact (nw_mapM f hf l.toList).map _
theorem nw_build (t : TypeId) (ps : Array (Nat × Value)) : NW (Instr.build t ps) := by
  unfold Instr.build
  refine (nw_zeroValue t).bind fun z => (nw_underlying t).bind fun d => ?_
  split
  · refine (nw_mapMA _ (fun f => (nw_sizeOf _).bind fun _ => NW.pure _) _).bind fun pl => ?_
    split <;> trivial
  · refine (nw_sizeOf _).bind fun n => ?_
    split <;> trivial
  · trivial
theorem nw_buildSlice (t : TypeId) (n : Nat) (ps : Array (Nat × Value)) : NW (Instr.buildSlice t n ps) := by
  unfold Instr.buildSlice
  repeat' (first | with_reducible trivial | exact nw_underlying _ | exact nw_sizeOf _ | exact nw_zeroValue _ | exact nw_newObj _ | exact (nw_newObj _).bind fun _ => NW.pure _ | exact NW.pure _ | exact nw_stuck _ | exact nw_unsupported _ | exact NW.map (nw_zeroValue _) _ | with_reducible refine NW.bind ?_ (fun _ => ?_) | split | dsimp only)
theorem NWrp {α : Type} {P : Program} {w : World} : (runtimePanic .nilDeref : Sem α).run P w = .halt (.panic (.iface P.rt.errorString (strVal "invalid memory address or nil pointer dereference"))) w := by
  simp [runtimePanic]
/-- an operation that comes to a value, and writes to nothing that is there -/
def Mild (P : Program) (o : Oper) : Prop := ∀ (ρ : Operand → Value) (w : World) (n : Next) (w' : World), (execOp ρ o).run P w = .ok n w' → (∃ v, n = .value v) ∧ Ext w w'

theorem mild_of {P : Program} {o : Oper} (h : ∀ ρ, ∃ s : Sem Value, NW s ∧ execOp ρ o = (do pure (.value (← s)))) : Mild P o := by
  intro ρ w n w' e
  obtain ⟨s, hs, he⟩ := h ρ
  rw [he] at e
  simp only [Sem.run_bind] at e
  cases hr : s.run P w with
  | halt x y => rw [hr] at e; cases e
  | ok v w1 =>
    rw [hr] at e
    cases e
    exact ⟨⟨v, rfl⟩, NW.run s hs _ _ _ hr⟩

def mildB (o : Oper) : Bool :=
  match o.op with
  | .move _ | .assign _ | .pick .. | .alloc _ | .box .. | .load .. | .fieldAddr .. | .field .. | .indexAddr .. | .index .. | .slice .. | .nilCheck _ | .build .. | .buildSlice .. => true
  | .call { callee := .builtin .len, .. } => true
  | _ => false

theorem mild_of_B {P : Program} {o : Oper} (h : mildB o = true) : Mild P o := by
  obtain ⟨d, op, ty, pos, af, gu⟩ := o
  cases op
  case call c =>
    obtain ⟨callee, args, ats⟩ := c
    cases callee with
    | builtin b =>
      cases b <;> simp only [mildB] at h <;> try (cases h; done)
      exact mild_of fun ρ => ⟨_, nw_len _ _ _, rfl⟩
    | value f => simp [mildB] at h
    | invoke r m => simp [mildB] at h
  all_goals (simp only [mildB] at h)
  all_goals (try (cases h; done))
  case move x => exact mild_of fun ρ => ⟨pure (ρ x), trivial, rfl⟩
  case assign x => exact mild_of fun ρ => ⟨pure (ρ x), trivial, rfl⟩
  case pick c a b => exact mild_of fun ρ => ⟨asBool (ρ c) >>= fun t => pure (if t then ρ a else ρ b), by exact NW.bind (nw_asBool _) (fun _ => NW.pure _), by simp [execOp]⟩
  case alloc t => exact mild_of fun ρ => ⟨zeroValue t >>= fun z => newVar t z >>= fun a => pure (.pointer (some a)), (nw_zeroValue t).bind fun z => (nw_newVar t z).bind fun _ => NW.pure _, by simp [execOp, Instr.alloc]⟩
  case box t x => exact mild_of fun ρ => ⟨newVar t (ρ x) >>= fun a => pure (.pointer (some a)), (nw_newVar t (ρ x)).bind fun _ => NW.pure _, by simp [execOp, Instr.box]⟩
  case load t x => exact mild_of fun ρ => ⟨Instr.loadAt t (ρ x), (nw_sureAddr (ρ x)).bind fun a => nw_loadVar t a, rfl⟩
  case fieldAddr t x i => exact mild_of fun ρ => ⟨_, nw_fieldAt t (ρ x) i, rfl⟩
  case field t x i => exact mild_of fun ρ => ⟨_, nw_field t (ρ x) i, rfl⟩
  case indexAddr t x i => exact mild_of fun ρ => ⟨_, nw_indexAt t (ρ x) (ρ i), rfl⟩
  case index t x i => exact mild_of fun ρ => ⟨_, nw_index t (ρ x) (ρ i), rfl⟩
  case slice t x lo hi mx => exact mild_of fun ρ => ⟨_, nw_sliceAt t (ρ x) _ _ _, rfl⟩
  case build t ps => exact mild_of fun ρ => ⟨_, nw_build _ _, rfl⟩
  case buildSlice t n ps => exact mild_of fun ρ => ⟨_, nw_buildSlice _ _ _, rfl⟩
  case nilCheck x =>
    intro ρ w n w' e
    simp only [execOp] at e
    split at e
    · rw [NWrp] at e; cases e
    · rw [NWrp] at e; cases e
    · rw [NWrp] at e; cases e
    · split at e
      · rw [NWrp] at e; cases e
      · simp only [Sem.run_bind, run_program, Result.andThen_ok] at e
        cases hr : (nilAhead (P.types.size + Made.depth) _ _ _).run P w with
        | halt x y => rw [hr] at e; cases e
        | ok r w1 =>
          rw [hr] at e
          simp only [Result.andThen_ok] at e
          have hx := NW.run _ (nw_nilAhead _ _ _ _) _ _ _ hr
          split at e
          · cases e
          · cases e; exact ⟨⟨_, rfl⟩, hx⟩
      · cases e; exact ⟨⟨_, rfl⟩, Ext.refl _⟩
    · cases e; exact ⟨⟨_, rfl⟩, Ext.refl _⟩


/-! #### an operation may be taken first -/
/-- which operations wait for number i, directly or through others -/
def descs (ops : List Oper) (i : Nat) : Array Bool := ops.foldl (fun acc o => acc.push (o.after.any fun e => Region.binds .any e && (e.on == i || acc.getD e.on false))) #[]

def descsFrom (i : Nat) : List Oper → Array Bool → Array Bool
  | [], acc => acc
  | o :: r, acc => descsFrom i r (acc.push (o.after.any fun e => Region.binds .any e && (e.on == i || acc.getD e.on false)))

theorem descsFrom_get (i : Nat) : ∀ (r : List Oper) (acc : Array Bool) (j : Nat), j < acc.size → (descsFrom i r acc)[j]? = acc[j]?
  | [], _, _, _ => rfl
  | o :: r, acc, j, h => by
    rw [descsFrom, descsFrom_get i r _ j (by simp; omega)]
    rw [Array.getElem?_push_lt h]
    simp [h]

theorem descsFrom_flag (i : Nat) : ∀ (r : List Oper) (acc : Array Bool) (j : Nat) (o : Oper), r[j]? = some o → (descsFrom i r acc).getD (acc.size + j) false = true →
    ∃ e ∈ o.after, Region.binds .any e = true ∧ (e.on = i ∨ (descsFrom i r acc).getD e.on false = true)
  | [], _, _, _, h, _ => by simp at h
  | o :: r, acc, 0, o', h, hf => by
    simp only [List.getElem?_cons_zero, Option.some.injEq] at h
    subst h
    rw [descsFrom] at hf ⊢
    generalize hb : (o.after.any fun e => Region.binds .any e && (e.on == i || acc.getD e.on false)) = b at hf ⊢
    have hg := descsFrom_get i r (acc.push b) acc.size (by simp)
    simp only [Nat.add_zero, Array.getD_eq_getD_getElem?, hg, Array.getElem?_push_size, Option.getD_some] at hf
    subst hf
    rw [Array.any_eq_true'] at hb
    obtain ⟨e, he, hh⟩ := hb
    simp only [Bool.and_eq_true, Bool.or_eq_true, beq_iff_eq] at hh
    refine ⟨e, he, hh.1, hh.2.imp id fun h2 => ?_⟩
    have hlt : e.on < acc.size := by
      rcases Nat.lt_or_ge e.on acc.size with h' | h'
      · exact h'
      · simp [Array.getD_eq_getD_getElem?, Array.getElem?_eq_none h'] at h2
    have hg2 := descsFrom_get i r (acc.push true) e.on (by simp; omega)
    simp only [Array.getD_eq_getD_getElem?, hg2, Array.getElem?_push_lt hlt] at h2 ⊢
    simpa [hlt] using h2
  | o :: r, acc, j + 1, o', h, hf => by
    rw [descsFrom] at hf ⊢
    refine descsFrom_flag i r _ j o' (by simpa using h) ?_
    rw [Array.size_push, show acc.size + 1 + j = acc.size + (j + 1) by omega]
    exact hf

def flag (l : List Oper) (i j : Nat) : Bool := (descsFrom i l #[]).getD j false
theorem flag_spec {l : List Oper} {i j : Nat} {o : Oper} (ho : l[j]? = some o) (h : flag l i j = true) : ∃ e ∈ o.after, Region.binds .any e = true ∧ (e.on = i ∨ flag l i e.on = true) := by
  have := descsFrom_flag i l #[] j o ho (by simpa [flag] using h)
  exact this

/-- number i, if taken first, is in nobody's way, and nobody who can come before it writes -/
def freeM (l : List Oper) (listed : Array Bool) (i : Nat) (oi : Oper) : Bool :=
  (List.range l.length).all fun j => j == i || listed.getD j true || flag l i j || (match l[j]? with | some oj => oi.apart l.toArray oj && mildB oj | none => true)
/-- nobody who waits for number i has come up -/
def noneYet (l : List Oper) (listed : Array Bool) (i : Nat) : Bool := (List.range l.length).all fun j => !flag l i j || !listed.getD j false

section
variable {P : Program} {Q : Exit → Act → World → Prop}

theorem wpAnyH_firstM {l : List Oper} {i : Nat} {oi : Oper} {v : Value} {Si : World → Prop} (hi : l[i]? = some oi) (hsel : ∀ (j : Nat) (o : Oper) cs b, l.toArray[j]? = some o → o.op ≠ .select cs b)
    (hQ : ∀ c a w, Q (.panic c) (a.put oi.dst v) w → Q (.panic c) a w) (hext : ∀ w w', Si w → Ext w w' → Si w') :
    ∀ (fuel : Nat) (listed : Array Bool) (a : Act) (w : World), listed.size = l.length →
      (∀ j oj, l[j]? = some oj → j ≠ i → listed.getD j true = false → flag l i j = false → oi.apart l.toArray oj = true ∧ Mild P oj) →
      (∀ j, flag l i j = true → listed.getD j false = false) →
      i ∈ Region.ready .any l.toArray listed → YieldsIf P l.toArray Si oi v a → Si w →
      wpAnyH P .any l.toArray Q (fun _ => True) fuel (listed.setIfInBounds i true) (a.put oi.dst v) w → wpAnyH P .any l.toArray Q (fun _ => True) (fuel + 1) listed a w := by
  intro fuel
  have hi' : l.toArray[i]? = some oi := by simpa using hi
  -- whoever may come up beside i does not wait for it
  have notflag : ∀ (listed : Array Bool) (j : Nat) (oj : Oper), l[j]? = some oj → i ∈ Region.ready .any l.toArray listed → (∀ e ∈ oj.after, Region.binds .any e = true → listed.getD e.on false = true) →
      (∀ j, flag l i j = true → listed.getD j false = false) → flag l i j = false := by
    intro listed j oj hoj hr hall hno
    cases hf : flag l i j with
    | false => rfl
    | true =>
      obtain ⟨e, he, hb, h1 | h1⟩ := flag_spec hoj hf
      · have h2 := hall e he hb
        have h0 := (mem_ready.1 hr).1
        rw [h1] at h2
        rcases Nat.lt_or_ge i listed.size with h' | h'
        · simp [h'] at h0 h2; rw [h0] at h2; cases h2
        · simp [Array.getElem?_eq_none h'] at h2
      · have h2 := hall e he hb
        rw [hno _ h1] at h2
        cases h2
  induction fuel with
  | zero =>
    intro listed a w hsz _ _ hr hy hS H
    refine ⟨fun h => (by rw [h] at hr; cases hr), fun j hj => ?_⟩
    by_cases hji : j = i
    · subst hji; exact hy.wpOp hi' hS ⟨trivial, H⟩
    · have := ready_mono hj hji
      rw [H.1] at this
      cases this
  | succ fuel ih =>
    intro listed a w hsz hfree hno hr hy hS H
    refine ⟨fun h => (by rw [h] at hr; cases hr), fun j hj => ?_⟩
    by_cases hji : j = i
    · subst hji; exact hy.wpOp hi' hS ⟨trivial, H⟩
    · have h1 := H.2 j (ready_mono hj hji)
      obtain ⟨hjun, oj, hoj, hall⟩ := mem_ready.1 hj
      have hoj' : l[j]? = some oj := by simpa using hoj
      have hnf := notflag listed j oj hoj' hr hall hno
      obtain ⟨hap, hmild⟩ := hfree j oj hoj' hji hjun hnf
      have h2 := wpOp_putIf hoj hap (fun cs b => hsel i oi cs b hi') (fun cs b => hsel j oj cs b hoj) hQ hy h1
      -- behind j the cells that i reads are as they were
      have h3 : wpOp P l.toArray Q j (fun a' w' => Ext w w' ∧ (YieldsIf P l.toArray Si oi v a' ∧ True ∧ wpAnyH P .any l.toArray Q (fun _ => True) fuel ((listed.setIfInBounds i true).setIfInBounds j true) (a'.put oi.dst v) w')) a w := by
        unfold wpOp at h2 ⊢
        simp only [hoj] at h2 ⊢
        split
        · rename_i hw
          simp only [hw, if_true] at h2
          rcases h2 with h2 | h2
          · refine .inl ?_
            unfold Oper.wp at h2 ⊢
            have hm := hmild a.eval w
            generalize (execOp a.eval oj).run P w = r at *
            cases r with
            | ok n w' =>
              obtain ⟨⟨u, rfl⟩, hx⟩ := hm n w' rfl
              simp only [Oper.upon] at h2 ⊢
              exact ⟨hx, h2⟩
            | halt x w' => cases x <;> simp only [Oper.upon] at h2 ⊢ <;> exact h2
          · exact .inr h2
        · rename_i hw
          simp only [hw] at h2
          exact ⟨Ext.refl _, h2⟩
      refine wpOp_mono (fun a' w' h4 => ⟨trivial, ih (listed.setIfInBounds j true) a' w' (by simpa using hsz) ?_ ?_ (ready_mono hr (Ne.symm hji)) h4.2.1 (hext _ _ hS h4.1) ?_⟩) h3
      · intro k ok hk hki hun hfl
        refine hfree k ok hk hki ?_ hfl
        by_cases hjk : j = k
        · subst hjk; exact hjun
        · rw [getD_set_ne true hjk] at hun; exact hun
      · intro k hk
        have hkj : j ≠ k := fun e => by subst e; rw [hnf] at hk; cases hk
        rw [getD_set_ne false hkj]
        exact hno k hk
      · rw [Array.setIfInBounds_comm _ _ hji]
        exact h4.2.2.2
end

section
variable {P : Program} {Q : Exit → Act → World → Prop} {cx : Cx} {L : List (Nat × Value)} {G : Gh} {H : List Own} {l : List Oper}

def WA (P : Program) (l : List Oper) (Q : Exit → Act → World → Prop) (fuel : Nat) (listed : Array Bool) (cx : Cx) (L : List (Nat × Value)) (G : Gh) (H : List Own) : Prop :=
  ∀ a w, St cx L G H a w → wpAnyH P .any l.toArray Q (fun _ => True) fuel listed a w

theorem WC.draw {id : Nat} (hm : P.follows .mixedOrders = true) (h : WA P l Q l.length (Array.replicate l.length false) cx L G H) : WC P (.region id l.toArray true) Q cx L G H := by
  intro a w st
  refine wp_region_held (S := fun _ => True) hm ?_
  have := h a { w with drawn := w.drawn + 1 } (st.drew rfl)
  simpa using this

theorem WA.doneC {fuel : Nat} {listed : Array Bool} {y : Code} {Q' : Exit → Act → World → Prop} (hr : Region.ready .any l.toArray listed = []) (h : WC P y Q' cx L G H) : WA P l (Exit.then (y.wp P Q') Q') fuel listed cx L G H :=
  fun a w st => wpAnyH_done hr (h a w st) fuel
theorem WA.done {fuel : Nat} {listed : Array Bool} (hr : Region.ready .any l.toArray listed = []) (h : WK (Q .normal) cx L G H) : WA P l Q fuel listed cx L G H :=
  fun a w st => wpAnyH_done hr (h a w st) fuel

/-- what a panic leaves does not hang on the slots -/
class QPan (Q : Exit → Act → World → Prop) : Prop where
  h : ∀ c a a' w, a.defers = a'.defers → Q (.panic c) a w → Q (.panic c) a' w
instance {K : Act → World → Prop} {Q : Exit → Act → World → Prop} [h : QPan Q] : QPan (Exit.then K Q) := ⟨h.h⟩
instance {id : Nat} {Q : Exit → Act → World → Prop} [h : QPan Q] : QPan (Exit.inBlock id Q) := ⟨h.h⟩
instance {P : Program} {fn : Func} {G0 : Gh} {w0 : World} {H0 : List Own} {R : Ending → Gh → List Own → Prop} : QPan (QF P fn G0 w0 H0 R) := ⟨fun c a a' w e h => ⟨e ▸ h.1, h.2⟩⟩

/-- a quiet operation is taken first -/
theorem WA.take {fuel i : Nat} {listed : Array Bool} {o : Oper} {v : Value} (hi : l[i]? = some o) (hs : Region.noSelect l.toArray = true) (hsz : listed.size = l.length) (hf : freeM l listed i o = true) (hn : noneYet l listed i = true)
    (hr : (Region.ready .any l.toArray listed).contains i = true) (hw : wantB l.toArray L o = some true) (hd : dOk o.dst cx.N = true) [hQ : QPan Q]
    (hv : Gv P L G H o v)
    (h : WA P l Q fuel (listed.setIfInBounds i true) cx (putL o.dst v L) G H) : WA P l Q (fuel + 1) listed cx L G H := by
  intro a w st
  refine wpAnyH_firstM (Si := fun w' => Ext w w') (v := v) hi (Region.noSelect_spec hs) (fun c a' w' => hQ.h c _ _ w' (defers_put _ _ _)) (fun w1 w2 h1 h2 => h1.trans h2) fuel listed a w hsz ?_ ?_ (by simpa using hr) ?_ (Ext.refl w) ?_
  · intro j oj hj hji hun hfl
    have hlt : j < l.length := (List.getElem?_eq_some_iff.1 hj).1
    have := List.all_eq_true.1 hf j (List.mem_range.2 hlt)
    simp only [Bool.or_eq_true, beq_iff_eq, hji, hun, hfl, Bool.false_eq_true, or_false, false_or, hj, Bool.and_eq_true] at this
    exact ⟨this.1, mild_of_B this.2⟩
  · intro j hj
    rcases Nat.lt_or_ge j l.length with hlt | hge
    · have := List.all_eq_true.1 hn j (List.mem_range.2 hlt)
      simpa [hj] using this
    · simp [Array.getD_eq_getD_getElem?, Array.getElem?_eq_none (show listed.size ≤ j by omega)]
  · refine .inl ⟨st.wanted hw, fun w' hx => ?_⟩
    -- the world with more blocks, or more draws, is as good
    have e : ∀ b, b < w.heap.size → w'.heap[b]? = w.heap[b]? := hx.2
    have s : Sat G H w' := ⟨fun b o u hg => by
        have h1 := st.sat.agr b o u hg
        have hl := block_lt_of_cell h1
        simp only [World.cell?] at h1 ⊢
        rw [e b hl]; exact h1,
      fun x hxm => Own.holds_of_block (st.sat.hold x hxm) fun b o hc => e b (Own.holds_lt (st.sat.hold x hxm) hc), st.sat.apart, st.sat.ghost⟩
    exact hv a w' st.slot s
  · exact h _ _ (st.put o.dst v hd st.sat st.stp)

/-- an operation that reads no memory is taken first -/
theorem WA.takeP {fuel i : Nat} {listed : Array Bool} {o : Oper} {v : Value} (hi : l[i]? = some o) (hs : Region.noSelect l.toArray = true) (hf : Region.free .any l.toArray listed i = true)
    (hr : (Region.ready .any l.toArray listed).contains i = true) (hw : wantB l.toArray L o = some true) (hd : dOk o.dst cx.N = true) [hQ : QPan Q] (hv : Gp P L o v)
    (h : WA P l Q fuel (listed.setIfInBounds i true) cx (putL o.dst v L) G H) : WA P l Q (fuel + 1) listed cx L G H := by
  intro a w st
  exact wpAnyH_take (by simpa using hi) hs hf hr (fun c a' w' => hQ.h c _ _ w' (defers_put _ _ _)) (.inl ⟨st.wanted hw, fun w' _ => hv a st.slot w'⟩) trivial (h _ _ (st.put o.dst v hd st.sat st.stp))
theorem WA.skipP {fuel i : Nat} {listed : Array Bool} {o : Oper} (hi : l[i]? = some o) (hs : Region.noSelect l.toArray = true) (hf : Region.free .any l.toArray listed i = true)
    (hr : (Region.ready .any l.toArray listed).contains i = true) (hw : wantB l.toArray L o = some false) (hd : dOk o.dst cx.N = true) [hQ : QPan Q]
    (h : WA P l Q fuel (listed.setIfInBounds i true) cx (putL o.dst undef L) G H) : WA P l Q (fuel + 1) listed cx L G H := by
  intro a w st
  exact wpAnyH_take (by simpa using hi) hs hf hr (fun c a' w' => hQ.h c _ _ w' (defers_put _ _ _)) (.inr ⟨st.wanted hw, rfl⟩) trivial (h _ _ (st.put o.dst undef hd st.sat st.stp))

/-- one that its guard lets out -/
theorem WA.skip {fuel i : Nat} {listed : Array Bool} {o : Oper} (hi : l[i]? = some o) (hs : Region.noSelect l.toArray = true) (hsz : listed.size = l.length) (hf : freeM l listed i o = true) (hn : noneYet l listed i = true)
    (hr : (Region.ready .any l.toArray listed).contains i = true) (hw : wantB l.toArray L o = some false) (hd : dOk o.dst cx.N = true) [hQ : QPan Q]
    (h : WA P l Q fuel (listed.setIfInBounds i true) cx (putL o.dst undef L) G H) : WA P l Q (fuel + 1) listed cx L G H := by
  intro a w st
  refine wpAnyH_firstM (Si := fun w' => Ext w w') (v := undef) hi (Region.noSelect_spec hs) (fun c a' w' => hQ.h c _ _ w' (defers_put _ _ _)) (fun w1 w2 h1 h2 => h1.trans h2) fuel listed a w hsz ?_ ?_ (by simpa using hr) ?_ (Ext.refl w) ?_
  · intro j oj hj hji hun hfl
    have hlt : j < l.length := (List.getElem?_eq_some_iff.1 hj).1
    have := List.all_eq_true.1 hf j (List.mem_range.2 hlt)
    simp only [Bool.or_eq_true, beq_iff_eq, hji, hun, hfl, Bool.false_eq_true, or_false, false_or, hj, Bool.and_eq_true] at this
    exact ⟨this.1, mild_of_B this.2⟩
  · intro j hj
    rcases Nat.lt_or_ge j l.length with hlt | hge
    · have := List.all_eq_true.1 hn j (List.mem_range.2 hlt)
      simpa [hj] using this
    · simp [Array.getD_eq_getD_getElem?, Array.getElem?_eq_none (show listed.size ≤ j by omega)]
  · exact .inr ⟨st.wanted hw, rfl⟩
  · exact h _ _ (st.put o.dst undef hd st.sat st.stp)

def okP (l : List Oper) (listed : Array Bool) (i : Nat) : Bool := Region.noSelect l.toArray && Region.free .any l.toArray listed i && (Region.ready .any l.toArray listed).contains i
theorem WA.tp {fuel i : Nat} {listed : Array Bool} {o : Oper} {v : Value} (hi : l[i]? = some o) (hk : okP l listed i = true) (hw : wantB l.toArray L o = some true) (hd : dOk o.dst cx.N = true) [hQ : QPan Q] (hv : Gp P L o v)
    (h : WA P l Q fuel (listed.setIfInBounds i true) cx (putL o.dst v L) G H) : WA P l Q (fuel + 1) listed cx L G H := by
  simp only [okP, Bool.and_eq_true] at hk
  exact WA.takeP hi hk.1.1 hk.1.2 hk.2 hw hd hv h
theorem WA.sp {fuel i : Nat} {listed : Array Bool} {o : Oper} (hi : l[i]? = some o) (hk : okP l listed i = true) (hw : wantB l.toArray L o = some false) (hd : dOk o.dst cx.N = true) [hQ : QPan Q]
    (h : WA P l Q fuel (listed.setIfInBounds i true) cx (putL o.dst undef L) G H) : WA P l Q (fuel + 1) listed cx L G H := by
  simp only [okP, Bool.and_eq_true] at hk
  exact WA.skipP hi hk.1.1 hk.1.2 hk.2 hw hd h
def okV (l : List Oper) (listed : Array Bool) (i : Nat) (o : Oper) : Bool := Region.noSelect l.toArray && listed.size == l.length && freeM l listed i o && noneYet l listed i && (Region.ready .any l.toArray listed).contains i
theorem WA.tv {fuel i : Nat} {listed : Array Bool} {o : Oper} {v : Value} (hi : l[i]? = some o) (hk : okV l listed i o = true) (hw : wantB l.toArray L o = some true) (hd : dOk o.dst cx.N = true) [hQ : QPan Q] (hv : Gv P L G H o v)
    (h : WA P l Q fuel (listed.setIfInBounds i true) cx (putL o.dst v L) G H) : WA P l Q (fuel + 1) listed cx L G H := by
  simp only [okV, Bool.and_eq_true, beq_iff_eq] at hk
  exact WA.take hi hk.1.1.1.1 hk.1.1.1.2 hk.1.1.2 hk.1.2 hk.2 hw hd hv h

/-- whichever may come up -/
theorem WA.all {fuel : Nat} {listed : Array Bool} {rs : List Nat} (hr : Region.ready .any l.toArray listed = rs) (hne : rs ≠ [])
    (h : ∀ i ∈ rs, ∃ o, l[i]? = some o ∧ wantB l.toArray L o = some true ∧ OW P Q o cx L G H fun L' G' H' => WA P l Q fuel (listed.setIfInBounds i true) cx L' G' H') : WA P l Q (fuel + 1) listed cx L G H := by
  intro a w st
  refine wpAnyH_all hr hne fun i hi => ?_
  obtain ⟨o, ho, hw, how⟩ := h i hi
  unfold wpOp
  have ho' : l.toArray[i]? = some o := by simpa using ho
  simp only [ho', st.wanted hw, if_true]
  exact .inl (how _ (fun L' G' H' k a w st' => ⟨trivial, k a w st'⟩) a w st)
theorem WA.one {fuel i : Nat} {listed : Array Bool} {o : Oper} (hr : Region.ready .any l.toArray listed = [i]) (hi : l[i]? = some o) (hw : wantB l.toArray L o = some true)
    (h : OW P Q o cx L G H fun L' G' H' => WA P l Q fuel (listed.setIfInBounds i true) cx L' G' H') : WA P l Q (fuel + 1) listed cx L G H :=
  WA.all hr (by simp) fun j hj => by
    rw [List.mem_singleton] at hj
    subst hj
    exact ⟨o, hi, hw, h⟩
end

/-! #### the same, where what is read stays as it was at the begin -/
section
variable {P : Program} {Q : Exit → Act → World → Prop} {cx : Cx} {L : List (Nat × Value)} {G Gs : Gh} {H Hs : List Own} {l : List Oper}
def WB (P : Program) (l : List Oper) (Q : Exit → Act → World → Prop) (Gs : Gh) (Hs : List Own) (fuel : Nat) (listed : Array Bool) (cx : Cx) (L : List (Nat × Value)) (G : Gh) (H : List Own) : Prop :=
  ∀ a w, St cx L G H a w → Sat Gs Hs w → wpAnyH P .any l.toArray Q (Sat Gs Hs) fuel listed a w
theorem WC.drawB {id : Nat} (hm : P.follows .mixedOrders = true) (h : WB P l Q G H l.length (Array.replicate l.length false) cx L G H) : WC P (.region id l.toArray true) Q cx L G H := by
  intro a w st
  refine wp_region_held (S := Sat G H) hm ?_
  have := h a { w with drawn := w.drawn + 1 } (st.drew rfl) (st.sat.drew rfl)
  simpa using this
theorem WB.doneC {fuel : Nat} {listed : Array Bool} {y : Code} {Q' : Exit → Act → World → Prop} (hr : Region.ready .any l.toArray listed = []) (h : WC P y Q' cx L G H) : WB P l (Exit.then (y.wp P Q') Q') Gs Hs fuel listed cx L G H :=
  fun a w st _ => wpAnyH_done hr (h a w st) fuel
theorem WB.done {fuel : Nat} {listed : Array Bool} (hr : Region.ready .any l.toArray listed = []) (h : WK (Q .normal) cx L G H) : WB P l Q Gs Hs fuel listed cx L G H :=
  fun a w st _ => wpAnyH_done hr (h a w st) fuel
theorem WB.tv {fuel i : Nat} {listed : Array Bool} {o : Oper} {v : Value} (hi : l[i]? = some o) (hk : okP l listed i = true) (hw : wantB l.toArray L o = some true) (hd : dOk o.dst cx.N = true) [hQ : QPan Q] (hv : Gv P L Gs Hs o v)
    (h : WB P l Q Gs Hs fuel (listed.setIfInBounds i true) cx (putL o.dst v L) G H) : WB P l Q Gs Hs (fuel + 1) listed cx L G H := by
  intro a w st ss
  simp only [okP, Bool.and_eq_true] at hk
  exact wpAnyH_take (by simpa using hi) hk.1.1 hk.1.2 hk.2 (fun c a' w' => hQ.h c _ _ w' (defers_put _ _ _)) (.inl ⟨st.wanted hw, fun w' s => hv a w' st.slot s⟩) ss (h _ _ (st.put o.dst v hd st.sat st.stp) ss)
theorem WB.tp {fuel i : Nat} {listed : Array Bool} {o : Oper} {v : Value} (hi : l[i]? = some o) (hk : okP l listed i = true) (hw : wantB l.toArray L o = some true) (hd : dOk o.dst cx.N = true) [hQ : QPan Q] (hv : Gp P L o v)
    (h : WB P l Q Gs Hs fuel (listed.setIfInBounds i true) cx (putL o.dst v L) G H) : WB P l Q Gs Hs (fuel + 1) listed cx L G H := WB.tv hi hk hw hd hv.gv h
theorem WB.sp {fuel i : Nat} {listed : Array Bool} {o : Oper} (hi : l[i]? = some o) (hk : okP l listed i = true) (hw : wantB l.toArray L o = some false) (hd : dOk o.dst cx.N = true) [hQ : QPan Q]
    (h : WB P l Q Gs Hs fuel (listed.setIfInBounds i true) cx (putL o.dst undef L) G H) : WB P l Q Gs Hs (fuel + 1) listed cx L G H := by
  intro a w st ss
  simp only [okP, Bool.and_eq_true] at hk
  exact wpAnyH_take (by simpa using hi) hk.1.1 hk.1.2 hk.2 (fun c a' w' => hQ.h c _ _ w' (defers_put _ _ _)) (.inr ⟨st.wanted hw, rfl⟩) ss (h _ _ (st.put o.dst undef hd st.sat st.stp) ss)
theorem WB.all {fuel : Nat} {listed : Array Bool} {rs : List Nat} (hr : Region.ready .any l.toArray listed = rs) (hne : rs ≠ [])
    (h : ∀ i ∈ rs, ∃ o, l[i]? = some o ∧ wantB l.toArray L o = some true ∧ OW P Q o cx L G H fun L' G' H' => (∀ w, Sat G' H' w → Sat Gs Hs w) ∧ WB P l Q Gs Hs fuel (listed.setIfInBounds i true) cx L' G' H') : WB P l Q Gs Hs (fuel + 1) listed cx L G H := by
  intro a w st _
  refine wpAnyH_all hr hne fun i hi => ?_
  obtain ⟨o, ho, hw, how⟩ := h i hi
  unfold wpOp
  have ho' : l.toArray[i]? = some o := by simpa using ho
  simp only [ho', st.wanted hw, if_true]
  exact .inl (how _ (fun L' G' H' k a w st' => ⟨k.1 w st'.sat, k.2 a w st' (k.1 w st'.sat)⟩) a w st)
theorem WB.one {fuel i : Nat} {listed : Array Bool} {o : Oper} (hr : Region.ready .any l.toArray listed = [i]) (hi : l[i]? = some o) (hw : wantB l.toArray L o = some true)
    (h : OW P Q o cx L G H fun L' G' H' => (∀ w, Sat G' H' w → Sat Gs Hs w) ∧ WB P l Q Gs Hs fuel (listed.setIfInBounds i true) cx L' G' H') : WB P l Q Gs Hs (fuel + 1) listed cx L G H :=
  WB.all hr (by simp) fun j hj => by
    rw [List.mem_singleton] at hj
    subst hj
    exact ⟨o, hi, hw, h⟩
theorem Sat.leSub {w : World} (h : Sat G H w) (hg : Gs.le G) (hs : Hs.Sublist H) : Sat Gs Hs w :=
  ⟨fun b o v e => h.agr b o v (hg b o v e), fun x hx => h.hold x (hs.subset hx), h.apart.sublist hs, fun x hx b o hc => by
    cases hgb : Gs b o with
    | none => rfl
    | some v => have := hg b o v hgb; rw [h.ghost x (hs.subset hx) b o hc] at this; cases this⟩
end

theorem Inf.pos {P : Program} {t n by_ : Nat} {z : Value} (h : Inf P t (n + 1) by_ z) : ∀ w : World, ∃ m, (Go.sizeOf t).run P w = Result.ok (m + 1) w := fun w => ⟨n, h.sizeOf w⟩
theorem mk_fld {P : Program} {t i off : Nat} {fs : Array Field} {f : Field} (hu : P.underlying t = some (.struct fs)) (hf : fs[i]? = some f) (hz : ∀ w : World, ∃ m, (Go.sizeOf f.type).run P w = Result.ok (m + 1) w) (ho : f.offset = off) : Fld P t i off := ⟨fun b o w => by
  obtain ⟨m, hm⟩ := hz w
  have hadd : (⟨b, o, none⟩ : Addr).add off = ⟨b, o + off, none⟩ := by unfold Addr.add; split <;> simp_all
  simp [Instr.fieldAt, run_underlying hu, hf, Instr.sureAddr, fieldPlace, hm, ho, hadd]⟩
theorem mk_body {P : Program} {f : Nat} {fn : Func} (hf : P.funcs[f]? = some fn) (hn : (fn.name == "runtime.NumGoroutine") = false) (hb : fn.body.isNone = false) : Body P f := ⟨fun args w => by
  simp only [callFunc, Sem.run_bind, run_program, Result.andThen_ok, hf, hn, hb]
  rfl⟩
end Go.Proofs.Ytjgohbepageicaa.Gb
