/- Numbers, texts, tests; data that stay; calls; the beginning and the end of a function. -/
import Derived.Test.YtjgohbepageicaaGd
import Derived.Lib.SliceRun
namespace Go.Proofs.Ytjgohbepageicaa.Gb
open Go

section
variable {P : Program} {Q : Exit → Act → World → Prop} {cx : Cx} {L : List (Nat × Value)} {G : Gh} {H : List Own} {K : List (Nat × Value) → Gh → List Own → Prop}
  {d : Option Tmp} {ty : TypeId} {pos : String} {af : Array Edge} {gu : Option (Nat × Bool)}

/-! #### numbers -/
theorem Gp.add {t t' : TypeId} {x y : Operand} {k : IntKind} {m n : Int} (hx : ev L x = some (.int k m)) (hy : ev L y = some (.int k n)) : Gp P L ⟨d, .binOp .add t x y t', ty, pos, af, gu⟩ (.int k (k.wrap (m + n))) :=
  fun a st w => by simp [execOp, st.eval hx, st.eval hy, eqGuard_add, binOp_add, Op.intArith]
theorem Gp.sub {t t' : TypeId} {x y : Operand} {k : IntKind} {m n : Int} (hx : ev L x = some (.int k m)) (hy : ev L y = some (.int k n)) : Gp P L ⟨d, .binOp .sub t x y t', ty, pos, af, gu⟩ (.int k (k.wrap (m - n))) :=
  fun a st w => by simp [execOp, st.eval hx, st.eval hy, eqGuard_sub, binOp_sub, Op.intArith]
theorem Gp.mul {t t' : TypeId} {x y : Operand} {k : IntKind} {m n : Int} (hx : ev L x = some (.int k m)) (hy : ev L y = some (.int k n)) : Gp P L ⟨d, .binOp .mul t x y t', ty, pos, af, gu⟩ (.int k (k.wrap (m * n))) :=
  fun a st w => by simp [execOp, st.eval hx, st.eval hy, eqGuard_mul, binOp_mul, Op.intArith]
theorem Gp.quo {t t' : TypeId} {x y : Operand} {k : IntKind} {m n : Int} (hx : ev L x = some (.int k m)) (hy : ev L y = some (.int k n)) (hn : n ≠ 0) : Gp P L ⟨d, .binOp .quo t x y t', ty, pos, af, gu⟩ (.int k (k.wrap (m.tdiv n))) :=
  fun a st w => by simp [execOp, st.eval hx, st.eval hy, eqGuard_quo, binOp_quo, Op.intDiv, hn]
theorem Gp.rem {t t' : TypeId} {x y : Operand} {k : IntKind} {m n : Int} (hx : ev L x = some (.int k m)) (hy : ev L y = some (.int k n)) (hn : n ≠ 0) : Gp P L ⟨d, .binOp .rem t x y t', ty, pos, af, gu⟩ (.int k (m.tmod n)) :=
  fun a st w => by simp [execOp, st.eval hx, st.eval hy, eqGuard_rem, binOp_rem, Op.intDiv, hn]
theorem Gp.eqI {t t' : TypeId} {x y : Operand} {k : IntKind} {m n : Int} (hx : ev L x = some (.int k m)) (hy : ev L y = some (.int k n)) : Gp P L ⟨d, .binOp .eql t x y t', ty, pos, af, gu⟩ (.bool (m == n)) :=
  fun a st w => by simp [execOp, st.eval hx, st.eval hy, eqGuard_at_int, binOp_eql]
theorem Gp.neI {t t' : TypeId} {x y : Operand} {k : IntKind} {m n : Int} (hx : ev L x = some (.int k m)) (hy : ev L y = some (.int k n)) : Gp P L ⟨d, .binOp .neq t x y t', ty, pos, af, gu⟩ (.bool (m != n)) :=
  fun a st w => by simp [execOp, st.eval hx, st.eval hy, eqGuard_at_int, binOp_neq]
theorem Gp.ltI {t t' : TypeId} {x y : Operand} {k : IntKind} {m n : Int} (hx : ev L x = some (.int k m)) (hy : ev L y = some (.int k n)) : Gp P L ⟨d, .binOp .lss t x y t', ty, pos, af, gu⟩ (.bool (decide (m < n))) :=
  fun a st w => by simp [execOp, st.eval hx, st.eval hy, eqGuard_at_int, binOp_lss]
theorem Gp.leI {t t' : TypeId} {x y : Operand} {k : IntKind} {m n : Int} (hx : ev L x = some (.int k m)) (hy : ev L y = some (.int k n)) : Gp P L ⟨d, .binOp .leq t x y t', ty, pos, af, gu⟩ (.bool (decide (m ≤ n))) :=
  fun a st w => by simp [execOp, st.eval hx, st.eval hy, eqGuard_at_int, binOp_leq]
theorem Gp.gtI {t t' : TypeId} {x y : Operand} {k : IntKind} {m n : Int} (hx : ev L x = some (.int k m)) (hy : ev L y = some (.int k n)) : Gp P L ⟨d, .binOp .gtr t x y t', ty, pos, af, gu⟩ (.bool (decide (n < m))) :=
  fun a st w => by simp [execOp, st.eval hx, st.eval hy, eqGuard_at_int, binOp_gtr]
theorem Gp.geI {t t' : TypeId} {x y : Operand} {k : IntKind} {m n : Int} (hx : ev L x = some (.int k m)) (hy : ev L y = some (.int k n)) : Gp P L ⟨d, .binOp .geq t x y t', ty, pos, af, gu⟩ (.bool (decide (n ≤ m))) :=
  fun a st w => by simp [execOp, st.eval hx, st.eval hy, eqGuard_at_int, binOp_geq]
theorem Gp.eqB {t t' : TypeId} {x y : Operand} {m n : Bool} (hx : ev L x = some (.bool m)) (hy : ev L y = some (.bool n)) [hu : Und P t .bool] : Gp P L ⟨d, .binOp .eql t x y t', ty, pos, af, gu⟩ (.bool (m == n)) :=
  fun a st w => by simp [execOp, st.eval hx, st.eval hy, eqGuard_at_bool, binOp, Op.equal, Op.maxDepth, run_equalIn_bool' (P := P) w 9999 t m n hu.h]
theorem Gp.neB {t t' : TypeId} {x y : Operand} {m n : Bool} (hx : ev L x = some (.bool m)) (hy : ev L y = some (.bool n)) [hu : Und P t .bool] : Gp P L ⟨d, .binOp .neq t x y t', ty, pos, af, gu⟩ (.bool (!(m == n))) :=
  fun a st w => by simp [execOp, st.eval hx, st.eval hy, eqGuard_at_bool, binOp, Op.equal, Op.maxDepth, run_equalIn_bool' (P := P) w 9999 t m n hu.h]
theorem Gp.notB {t : TypeId} {x : Operand} {m : Bool} (hx : ev L x = some (.bool m)) : Gp P L ⟨d, .unOp .not t x, ty, pos, af, gu⟩ (.bool (!m)) :=
  fun a st w => by simp [execOp, st.eval hx, Op.unary]
theorem Gp.negI {t : TypeId} {x : Operand} {k : IntKind} {m : Int} (hx : ev L x = some (.int k m)) : Gp P L ⟨d, .unOp .neg t x, ty, pos, af, gu⟩ (.int k (k.wrap (0 - m))) :=
  fun a st w => by simp [execOp, st.eval hx, Op.unary, Op.intArith]
theorem Gp.convI {s t : TypeId} {x : Operand} {k k' : IntKind} {m : Int} {ds : TypeDesc} (hx : ev L x = some (.int k m)) [hs : Und P s ds] [ht : Und P t (.int k')] : Gp P L ⟨d, .convert s t x, ty, pos, af, gu⟩ (.int k' (k'.wrap m)) :=
  fun a st w => by simp [execOp, st.eval hx, convert, run_underlying hs.h, run_underlying ht.h, Conv.intToInt]

/-! #### texts -/
theorem Gp.eqS {t t' : TypeId} {x y : Operand} {m n : ByteArray} (hx : ev L x = some (.string m)) (hy : ev L y = some (.string n)) : Gp P L ⟨d, .binOp .eql t x y t', ty, pos, af, gu⟩ (.bool (m == n)) :=
  fun a st w => by simp [execOp, st.eval hx, st.eval hy, eqGuard_at_string, binOp_string_eql, beq_toListBytes]
theorem Gp.neS {t t' : TypeId} {x y : Operand} {m n : ByteArray} (hx : ev L x = some (.string m)) (hy : ev L y = some (.string n)) : Gp P L ⟨d, .binOp .neq t x y t', ty, pos, af, gu⟩ (.bool (!(m == n))) :=
  fun a st w => by simp [execOp, st.eval hx, st.eval hy, eqGuard_at_string, binOp_string_neq, beq_toListBytes]
theorem Gp.ltS {t t' : TypeId} {x y : Operand} {m n : ByteArray} (hx : ev L x = some (.string m)) (hy : ev L y = some (.string n)) : Gp P L ⟨d, .binOp .lss t x y t', ty, pos, af, gu⟩ (.bool (Op.bytesLess m.toList n.toList)) :=
  fun a st w => by simp [execOp, st.eval hx, st.eval hy, eqGuard_at_string, binOp_string_lss]
theorem Gp.geS {t t' : TypeId} {x y : Operand} {m n : ByteArray} (hx : ev L x = some (.string m)) (hy : ev L y = some (.string n)) : Gp P L ⟨d, .binOp .geq t x y t', ty, pos, af, gu⟩ (.bool (!Op.bytesLess m.toList n.toList)) :=
  fun a st w => by simp [execOp, st.eval hx, st.eval hy, eqGuard_at_string, binOp, Op.stringOp]
theorem bless_flip : ∀ a b : List UInt8, (!(Op.bytesLess a b || a == b)) = Op.bytesLess b a
  | [], [] => rfl
  | [], _ :: _ => rfl
  | _ :: _, [] => rfl
  | x :: a, y :: b => by
    have ih := bless_flip a b
    simp only [Op.bytesLess]
    by_cases h1 : x = y
    · subst h1
      simp only [UInt8.lt_irrefl, decide_false, beq_self_eq_true, Bool.true_and, Bool.false_or, List.cons_beq_cons]
      exact ih
    · have h2 : (x == y) = false := by simpa using h1
      have h3 : (y == x) = false := by simpa using Ne.symm h1
      simp only [List.cons_beq_cons, h2, h3, Bool.false_and, Bool.or_false]
      have : x.toNat ≠ y.toNat := fun e => h1 (UInt8.toNat_inj.1 e)
      rw [Bool.eq_iff_iff]
      simp only [Bool.not_eq_true', decide_eq_false_iff_not, decide_eq_true_eq, UInt8.lt_iff_toNat_lt]
      omega
theorem Gp.gtS {t t' : TypeId} {x y : Operand} {m n : ByteArray} (hx : ev L x = some (.string m)) (hy : ev L y = some (.string n)) : Gp P L ⟨d, .binOp .gtr t x y t', ty, pos, af, gu⟩ (.bool (Op.bytesLess n.toList m.toList)) :=
  fun a st w => by simp [execOp, st.eval hx, st.eval hy, eqGuard_at_string, binOp, Op.stringOp, ← bless_flip m.toList n.toList]
theorem Gp.leS {t t' : TypeId} {x y : Operand} {m n : ByteArray} (hx : ev L x = some (.string m)) (hy : ev L y = some (.string n)) : Gp P L ⟨d, .binOp .leq t x y t', ty, pos, af, gu⟩ (.bool (!Op.bytesLess n.toList m.toList)) :=
  fun a st w => by simp [execOp, st.eval hx, st.eval hy, eqGuard_at_string, binOp, Op.stringOp, ← bless_flip m.toList n.toList]
theorem Gp.addS {t t' : TypeId} {x y : Operand} {m n : ByteArray} (hx : ev L x = some (.string m)) (hy : ev L y = some (.string n)) (hb : m.size + n.size ≤ 9223372036854775807) : Gp P L ⟨d, .binOp .add t x y t', ty, pos, af, gu⟩ (.string (m ++ n)) :=
  fun a st w => by simp [execOp, st.eval hx, st.eval hy, eqGuard_add, binOp_string_add, run_string_add_sum w m n hb]
theorem Gp.lenS {t : TypeId} {x : Operand} {m : ByteArray} (hx : ev L x = some (.string m)) [hu : Und P t .string] : Gp P L ⟨d, .call { callee := .builtin .len, args := #[x], argTypes := #[t] }, ty, pos, af, gu⟩ (.int .i64 m.size) :=
  fun a st w => by simp [execOp, resolve, invoke, builtin, st.eval hx, Builtin.len_, run_underlying hu.h, goInt]

/-! #### slices -/
theorem Gp.lenSl {t e : TypeId} {x : Operand} {A : Option Addr} {n c : Nat} (hx : ev L x = some (.slice A n c)) [hu : Und P t (.slice e)] : Gp P L ⟨d, .call { callee := .builtin .len, args := #[x], argTypes := #[t] }, ty, pos, af, gu⟩ (.int .i64 n) :=
  fun a st w => by simp [execOp, resolve, invoke, builtin, st.eval hx, Builtin.len_, run_underlying hu.h, goInt]
theorem Gp.nilSl {t t' : TypeId} {x : Operand} {A : Option Addr} {n c : Nat} {e : TypeId} (hx : ev L x = some (.slice A n c)) [hu : Und P t (.slice e)] : Gp P L ⟨d, .binOp .eql t x (.const (.slice none 0 0)) t', ty, pos, af, gu⟩ (.bool A.isNone) :=
  fun a st w => by
    have := Lib.run_eql_slice_nil (P := P) w t e A n c 0 0 hu.h
    have hc : a.eval (.const (.slice none 0 0)) = .slice none 0 0 := rfl
    simp [execOp, st.eval hx, hc, eqGuard_at_slice, this]
theorem Gp.indexAddr {t e n by_ : TypeId} {z : Value} {x y : Operand} {b o len cap : Nat} {k : IntKind} {i : Int} (hx : ev L x = some (.slice (some ⟨b, o, none⟩) len cap)) (hy : ev L y = some (.int k i)) [hu : Und P t (.slice e)] [hi : Inf P e n by_ z] (h0 : 0 ≤ i) (h1 : i < len) : Gp P L ⟨d, .indexAddr t x y, ty, pos, af, gu⟩ (.pointer (some ⟨b, o + i.toNat * n, none⟩)) :=
  fun a st w => by
    have hadd : (⟨b, o, none⟩ : Addr).add (i.toNat * n) = ⟨b, o + i.toNat * n, none⟩ := by unfold Addr.add; split <;> simp_all
    simp [execOp, st.eval hx, st.eval hy, Instr.indexAt, run_underlying hu.h, asIntOf, h0, h1, hi.sizeOf, hadd]
theorem Gp.extract {x : Operand} {vs : Array Value} {i : Nat} {v : Value} (hx : ev L x = some (.tuple vs)) (hv : vs[i]? = some v) : Gp P L ⟨d, .extract x i, ty, pos, af, gu⟩ v :=
  fun a st w => by simp [execOp, st.eval hx, Instr.extract, hv]
theorem Gp.mkIface {t : TypeId} {x : Operand} {v : Value} (hx : ev L x = some v) (hc : P.concrete t = true) : Gp P L ⟨d, .makeInterface t x, ty, pos, af, gu⟩ (.iface t v) :=
  fun a st w => by simp [execOp, st.eval hx, run_makeInterface w t v hc]
/-- a panic of the text's own -/
theorem OW.panic {x : Operand} {t : TypeId} {v : Value} (hx : ev L x = some (.iface t v)) (h : WK (Q (.panic [{ v := .iface t v, recovered := false }])) cx L G H) : OW P Q ⟨d, .panic x, ty, pos, af, gu⟩ cx L G H K := by
  intro next _ a w st
  simp only [Oper.wp, execOp, st.eval hx, Instr.panic, Sem.run_bind, run_goPanic, Result.andThen_halt, Oper.upon]
  exact h a w st
end

/-! #### data that stay: how cells read -/
structure Kd (α : Type) where
  n : Nat
  K : Gh → α → List Value → Prop
  mono : ∀ {G G' : Gh} {x : α} {cs : List Value}, G.le G' → K G x cs → K G' x cs
  len : ∀ {G : Gh} {x : α} {cs : List Value}, K G x cs → cs.length = n
  one : ∀ {G : Gh} {x : α} {cs : List Value}, K G x cs → cs.all (·.oneCell') = true

/-- a slice's elements, from its first cell on -/
def Sl {α : Type} (k : Kd α) (G : Gh) (A : Option Addr) (xs : List α) : Prop := ∀ i x, xs[i]? = some x → ∃ b o cs, A = some ⟨b, o, none⟩ ∧ k.K G x cs ∧ Cs G b (o + i * k.n) cs
theorem Sl.mono {α : Type} {k : Kd α} {G G' : Gh} {A : Option Addr} {xs : List α} (h : Sl k G A xs) (hg : G.le G') : Sl k G' A xs :=
  fun i x e => let ⟨b, o, cs, h1, h2, h3⟩ := h i x e; ⟨b, o, cs, h1, k.mono hg h2, h3.mono hg⟩
theorem Sl.nil {α : Type} (k : Kd α) (G : Gh) (A : Option Addr) : Sl k G A [] := fun i x e => by simp at e

def Kd.int (i : IntKind) : Kd Int where
  n := 1
  K _ x cs := cs = [.int i x]
  mono _ h := h
  len h := by rw [h]; rfl
  one h := by rw [h]; rfl
def Kd.bool : Kd Bool where
  n := 1
  K _ x cs := cs = [.bool x]
  mono _ h := h
  len h := by rw [h]; rfl
  one h := by rw [h]; rfl
def Kd.str : Kd ByteArray where
  n := 1
  K _ x cs := cs = [.string x]
  mono _ h := h
  len h := by rw [h]; rfl
  one h := by rw [h]; rfl
def Kd.slice {α : Type} (k : Kd α) : Kd (List α) where
  n := 1
  K G xs cs := ∃ A c, cs = [.slice A xs.length c] ∧ xs.length ≤ c ∧ Sl k G A xs
  mono hg h := let ⟨A, c, h1, h2, h3⟩ := h; ⟨A, c, h1, h2, h3.mono hg⟩
  len h := let ⟨A, c, h1, _, _⟩ := h; by rw [h1]; rfl
  one h := let ⟨A, c, h1, _, _⟩ := h; by rw [h1]; rfl

/-! #### functions -/
/-- what a call of a function does: from memory that holds G and what is ours, to an end with more that stays, and what is ours then -/
def Fn (P : Program) (f : FuncId) (vs : Array Value) (G : Gh) (H : List Own) (R : Ending → Gh → List Own → Prop) : Prop :=
  ∀ w, Sat G H w → Calls P f vs w fun e w' => ∃ G' H', R e G' H' ∧ Sat G' H' w' ∧ Stp (covs H) G w G' H' w'

theorem Fn.mono {P : Program} {f : FuncId} {vs : Array Value} {G : Gh} {H : List Own} {R R' : Ending → Gh → List Own → Prop} (h : Fn P f vs G H R) (hr : ∀ e G' H', R e G' H' → R' e G' H') : Fn P f vs G H R' :=
  fun w hs => (h w hs).mono fun _ _ ⟨G', H', r, s⟩ => ⟨G', H', hr _ _ _ r, s⟩

/-- the rest of what is ours stays as it is -/
theorem Sat.frame {G G' : Gh} {H H' F : List Own} {w w' : World} (h : Sat G (H ++ F) w) (h' : Sat G' H' w') (hp : Stp (covs H) G w G' H' w') : Sat G' (H' ++ F) w' := by
  have hap : ∀ x ∈ H, ∀ y ∈ F, Own.apart x y := (List.pairwise_append.1 h.apart).2.2
  have hnot : ∀ y ∈ F, ∀ b o, y.cov b o → ¬ covs H b o := fun y hy b o hc ⟨x, hx, hc'⟩ => hap x hx y hy b o hc' hc
  have hF : ∀ y ∈ F, y.holds w := fun y hy => h.hold y (by simp [hy])
  refine ⟨h'.agr, fun x hx => ?_, ?_, fun x hx b o hc => ?_⟩
  · rcases List.mem_append.1 hx with hx | hx
    · exact h'.hold x hx
    · cases x with
      | blk b ob =>
        have hb : b < w.heap.size := Own.holds_lt (hF _ hx) (b := b) (o := 0) rfl
        have := (hp.keep b hb).1 fun o => hnot _ hx b o rfl
        exact this.trans (hF _ hx)
      | spare b lo hi =>
        intro hlt
        obtain ⟨c, T, e1, e2⟩ := hF _ hx hlt
        have hb : b < w.heap.size := Own.holds_lt (hF _ hx) (b := b) (o := lo) ⟨rfl, Nat.le_refl _, hlt⟩
        obtain ⟨c', e3, e4, _⟩ := (hp.keep b hb).2 c T (0, 0) e1
        exact ⟨c', T, e3, by omega⟩
  · rw [List.pairwise_append]
    refine ⟨h'.apart, (List.pairwise_append.1 h.apart).2.1, fun x hx y hy b o hc hc' => ?_⟩
    rcases hp.own x hx b o hc with h1 | h1
    · exact hnot y hy b o hc' h1
    · have := Own.holds_lt (hF y hy) hc'
      omega
  · rcases List.mem_append.1 hx with hx | hx
    · exact h'.ghost x hx b o hc
    · cases hg : G' b o with
      | none => rfl
      | some v =>
        rcases hp.gnew b o v hg with h1 | h1 | h1
        · rw [h.ghost x (by simp [hx]) b o hc] at h1; cases h1
        · exact absurd h1 (hnot x hx b o hc)
        · have := Own.holds_lt (hF x hx) hc
          omega

theorem Stp.frame {G G' : Gh} {H H' F : List Own} {w w' : World} (hp : Stp (covs H) G w G' H' w') : Stp (covs (H ++ F)) G w G' (H' ++ F) w' where
  size := hp.size
  keep b hb := (hp.keep b hb).mono fun o ⟨x, hx, hc⟩ => ⟨x, by simp [hx], hc⟩
  gle := hp.gle
  gnew b o v h := by
    rcases hp.gnew b o v h with h | ⟨x, hx, hc⟩ | h
    · exact .inl h
    · exact .inr (.inl ⟨x, by simp [hx], hc⟩)
    · exact .inr (.inr h)
  own x hx b o hc := by
    rcases List.mem_append.1 hx with hx | hx
    · rcases hp.own x hx b o hc with ⟨y, hy, h⟩ | h
      · exact .inl ⟨y, by simp [hy], h⟩
      · exact .inr h
    · exact .inl ⟨x, by simp [hx], hc⟩
  weq := hp.weq

section
variable {P : Program} {Q : Exit → Act → World → Prop} {cx : Cx} {L : List (Nat × Value)} {G : Gh} {H : List Own} {K : List (Nat × Value) → Gh → List Own → Prop}
  {d : Option Tmp} {ty : TypeId} {pos : String} {af : Array Edge} {gu : Option (Nat × Bool)}

def evl (L : List (Nat × Value)) : List Operand → Option (List Value)
  | [] => some []
  | x :: r => match ev L x, evl L r with
    | some v, some vs => some (v :: vs)
    | _, _ => none
def evs (L : List (Nat × Value)) (xs : Array Operand) : Option (List Value) := evl L xs.toList

theorem St.evs {a : Act} {w : World} (st : St cx L G H a w) {xs : Array Operand} {vs : List Value} (h : evs L xs = some vs) : xs.map a.eval = vs.toArray := by
  have key : ∀ (l : List Operand) (vs : List Value), evl L l = some vs → l.map a.eval = vs := by
    intro l
    induction l with
    | nil => intro vs h; simp only [evl, Option.some.injEq] at h; subst h; rfl
    | cons x l ih =>
      intro vs h
      simp only [evl] at h
      cases hx : ev L x with
      | none => simp [hx] at h
      | some v =>
        cases hl : evl L l with
        | none => simp [hx, hl] at h
        | some us =>
          simp only [hx, hl, Option.some.injEq] at h
          subst h
          simp [st.eval hx, ih us hl]
  apply Array.ext'
  simp [key xs.toList vs h]

/-- what is true of a function with a body -/
class Body (P : Program) (f : Nat) : Prop where
  h : ∀ (args : Array Value) (w : World), (callFunc f args).run P w = .ok (.enter f args) w

/-- a call: what of ours it is handed is 'Hf', 'F' is the rest -/
theorem OW.call {f : Nat} {xs : Array Operand} {ats : Array TypeId} {vs : List Value} {Hf F : List Own} {R : Ending → Gh → List Own → Prop} (hx : Gb.evs L xs = some vs) [hb : Body P f] (hp : H.Perm (Hf ++ F))
    (hf : Fn P f vs.toArray G Hf R) (hd : dOk d cx.N = true)
    (k : ∀ v G' H', R (.returned v) G' H' → G.le G' → K (putL d v L) G' (H' ++ F))
    (kp : ∀ ch G' H', R (.panicked ch) G' H' → G.le G' → WK (Q (.panic ch)) cx L G' (H' ++ F))
    (ko : ∀ G' H', ¬ R .outgrown G' H') : OW P Q ⟨d, .call { callee := .value (.func f), args := xs, argTypes := ats }, ty, pos, af, gu⟩ cx L G H K := by
  intro next hn a w st
  have st' := st.perm hp
  have hrun : (execOp a.eval ⟨d, .call { callee := .value (.func f), args := xs, argTypes := ats }, ty, pos, af, gu⟩).run P w = .ok (.enter f vs.toArray) w := by
    have e := st.evs hx
    simp [execOp, resolve, Deferred.ofValue, Act.eval, invoke, e, hb.h]
  unfold Oper.wp
  rw [hrun]
  simp only [Oper.upon]
  refine (hf w (st'.sat.sub (List.sublist_append_left Hf F))).mono fun e w' ⟨G', H', r, hs, hp'⟩ => ?_
  have hs' := st'.sat.frame hs hp'
  have hst := st'.stp.then (hp'.frame (F := F))
  cases e with
  | returned v => exact hn _ _ _ (k v G' H' r hp'.gle) _ _ (st.put d v hd hs' hst)
  | panicked ch => exact kp ch G' H' r hp'.gle a w' ⟨st.size, st.defs, st.slot, hs', hst⟩
  | outgrown => exact (ko G' H' r).elim
end

section
variable {P : Program} {Q : Exit → Act → World → Prop} {cx : Cx} {L : List (Nat × Value)} {G : Gh} {H : List Own} {K : List (Nat × Value) → Gh → List Own → Prop}
  {d : Option Tmp} {ty : TypeId} {pos : String} {af : Array Edge} {gu : Option (Nat × Bool)}
/-- a call of what never panics -/
theorem OW.callR {f : Nat} {xs : Array Operand} {ats : Array TypeId} {vs : List Value} {Hf F : List Own} {R : Ending → Gh → List Own → Prop} (hx : Gb.evs L xs = some vs) [hb : Body P f] (hp : H.Perm (Hf ++ F))
    (hf : Fn P f vs.toArray G Hf R) (hd : dOk d cx.N = true) (hno : ∀ e G' H', R e G' H' → ∃ v, e = .returned v)
    (k : ∀ v G' H', R (.returned v) G' H' → G.le G' → K (putL d v L) G' (H' ++ F)) : OW P Q ⟨d, .call { callee := .value (.func f), args := xs, argTypes := ats }, ty, pos, af, gu⟩ cx L G H K :=
  OW.call hx hp hf hd k (fun ch G' H' h => by obtain ⟨v, hv⟩ := hno _ _ _ h; cases hv) (fun G' H' h => by obtain ⟨v, hv⟩ := hno _ _ _ h; cases hv)
theorem perm_all (H : List Own) : H.Perm (H ++ []) := by rw [List.append_nil]
end

/-- where a function ends -/
def QF (P : Program) (fn : Func) (G0 : Gh) (w0 : World) (H0 : List Own) (R : Ending → Gh → List Own → Prop) : Exit → Act → World → Prop :=
  bodyPost P fn fun e w' => ∃ G' H', R e G' H' ∧ Sat G' H' w' ∧ Stp (covs H0) G0 w0 G' H' w'

def argL : Nat → List Value → List (Nat × Value)
  | _, [] => []
  | i, v :: r => (i, v) :: argL (i + 1) r

theorem argL_slot {N : Nat} (vs : List Value) : ∀ (pre : List Value) t v, lk (argL pre.length vs) t = some v → ((pre ++ vs).toArray ++ Array.replicate N undef)[t]? = some v := by
  induction vs with
  | nil => intro pre t v h; simp [argL, lk] at h
  | cons u vs ih =>
    intro pre t v h
    simp only [argL, lk] at h
    by_cases e : pre.length = t
    · subst e
      simp only [Nat.beq_refl, cond_true, Option.some.injEq] at h
      subst h
      rw [Array.getElem?_append_left (by simp)]
      simp
    · have hb : Nat.beq pre.length t = false := by cases hbb : Nat.beq pre.length t with | false => rfl | true => exact absurd (Nat.eq_of_beq_eq_true hbb) e
      rw [hb] at h
      have := ih (pre ++ [u]) t v (by simpa using h)
      simpa using this

theorem Fn.enter {P : Program} {f : FuncId} {fn : Func} {c : Code} {vs : List Value} {G : Gh} {H : List Own} {R : Ending → Gh → List Own → Prop} (hf : P.funcs[f]? = some fn) (hb : fn.body = some c) (hn' : Nat.ble vs.length fn.ntmps = true)
    (h : ∀ w0, WC P c (QF P fn G w0 H R) ⟨w0, G, covs H, fn.ntmps, []⟩ (argL 0 vs) G H) : Fn P f vs.toArray G H R := by
  have hn := Nat.le_of_ble_eq_true hn'
  intro w hs
  refine calls_of_wp hf hb (h w _ w ⟨by simp; omega, rfl, fun t v ht => ?_, hs, Stp.refl G H w⟩)
  have := argL_slot (N := fn.ntmps - vs.length) vs [] t v ht
  simpa using this

section
variable {P : Program} {fn : Func} {G0 G : Gh} {w0 : World} {H0 H : List Own} {R : Ending → Gh → List Own → Prop} {L : List (Nat × Value)} {N : Nat}

theorem QF.of {e : Exit} (he : e = .ret ∨ e = .normal) (v : Value) (hr : ∀ a w, St ⟨w0, G0, covs H0, N, []⟩ L G H a w → (results fn a.tmps).run P w = .ok v w) {H' : List Own} (hs : H'.Sublist H) (h : R (.returned v) G H') : WK (QF P fn G0 w0 H0 R e) ⟨w0, G0, covs H0, N, []⟩ L G H := by
  intro a w st
  have st' := st.weaken (L' := L) (fun _ _ h => h) hs
  have : a.defers = [] ∧ ∃ v, (results fn a.tmps).run P w = .ok v w ∧ ∃ G' H', R (.returned v) G' H' ∧ Sat G' H' w ∧ Stp (covs H0) G0 w0 G' H' w := ⟨st.defs, v, hr a w st, G, H', h, st'.sat, st'.stp⟩
  rcases he with rfl | rfl
  · exact this
  · exact this
theorem QF.panic {ch : List PanicEntry} {H' : List Own} (hs : H'.Sublist H) (h : R (.panicked ch) G H') : WK (QF P fn G0 w0 H0 R (.panic ch)) ⟨w0, G0, covs H0, N, []⟩ L G H := by
  intro a w st
  have st' := st.weaken (L' := L) (fun _ _ h => h) hs
  exact ⟨st.defs, G, H', h, st'.sat, st'.stp⟩

/-- a result's value -/
inductive RV (P : Program) (L : List (Nat × Value)) (H : List Own) : ResultVar → Value → Prop where
  | tmp {t : Tmp} {v : Value} (h : lk L t = some v) : RV P L H (.tmp t) v
  | cell {p t n by_ : Nat} {z : Value} {b j : Nat} {c : Array Value} {t' : TypeId} {fr : Nat × Nat} {cs : List Value} (h : lk L p = some (.pointer (some ⟨b, 0, none⟩))) (ha : Agg P t true) (hi : Inf P t n by_ z) (hj : At H j (.blk b (.cells c t' fr)))
      (hc : c.toList = cs) (hl : cs.length = n) : RV P L H (.cell p t) (.agg cs.toArray)

def rvS (tmps : Array Value) : ResultVar → Sem Value
  | .tmp t => pure (tmps.getD t undef)
  | .cell a t => do loadVar t (← asAddr (tmps.getD a undef))
theorem results_rvS (fn : Func) (tmps : Array Value) : results fn tmps = (do let vs ← fn.results.mapM (rvS tmps); pure (if h : vs.size = 1 then vs[0] else .tuple vs)) := rfl

theorem RV.run {cx : Cx} {r : ResultVar} {v : Value} (h : RV P L H r v) {a : Act} {w : World} (st : St cx L G H a w) : (rvS a.tmps r).run P w = .ok v w := by
  cases h with
  | tmp h => simp [rvS, Array.getD_eq_getD_getElem?, st.slot _ _ h]
  | cell h ha hi hj hc hl =>
    rename_i p t n by_ z b j c t' fr cs
    have := run_loadVarN (P := P) (w := w) (b := b) (o := 0) ha hi hl (fun j v hv => by
      rw [Own.cell (st.sat.hold _ (List.mem_of_getElem? hj.get))]
      rw [← hc] at hv
      simpa using hv)
    simp [rvS, Array.getD_eq_getD_getElem?, st.slot _ _ h, asAddr, this]

theorem QF.ret0 {e : Exit} (he : e = .ret ∨ e = .normal) (hres : fn.results = #[]) {H' : List Own} (hs : H'.Sublist H) (h : R (.returned (.tuple #[])) G H') : WK (QF P fn G0 w0 H0 R e) ⟨w0, G0, covs H0, N, []⟩ L G H :=
  QF.of he (.tuple #[]) (fun a w st => by simp [results, hres]) hs h
theorem QF.ret1 {e : Exit} (he : e = .ret ∨ e = .normal) {r : ResultVar} {v : Value} (hres : fn.results = #[r]) (hv : RV P L H r v) {H' : List Own} (hs : H'.Sublist H) (h : R (.returned v) G H') : WK (QF P fn G0 w0 H0 R e) ⟨w0, G0, covs H0, N, []⟩ L G H :=
  QF.of he v (fun a w st => by simp [results_rvS, hres, hv.run st]) hs h
theorem QF.ret2 {e : Exit} (he : e = .ret ∨ e = .normal) {r s : ResultVar} {v u : Value} (hres : fn.results = #[r, s]) (hv : RV P L H r v) (hu : RV P L H s u) {H' : List Own} (hs : H'.Sublist H) (h : R (.returned (.tuple #[v, u])) G H') : WK (QF P fn G0 w0 H0 R e) ⟨w0, G0, covs H0, N, []⟩ L G H :=
  QF.of he (.tuple #[v, u]) (fun a w st => by simp [results_rvS, hres, hv.run st, hu.run st]) hs h
end
end Go.Proofs.Ytjgohbepageicaa.Gb
