/- What is taken from the stack, and laid there. -/
import Derived.Test.YtjgohbepageicaaVd
namespace Go.Proofs.Ytjgohbepageicaa.Gb
open Go Go.Proofs
set_option linter.unusedVariables false
attribute [local irreducible] Try.prog

/-- a frame in memory: its block, what is on its stack, its variables -/
abbrev frB (b : Nat) (A : Option Addr) (n cap : Nat) (p a : Int) (B : Option Addr) (m cm : Nat) : Own := .blk b (.cells (frC A n cap p a B m cm) 91 (0, 0))
abbrev VVec (A : Option Addr) (cap : Nat) (l : List V) (x : Own) : Prop := Vec 33 4 A l.length cap (vflat l) x
/-- what is left of a frame when a step gives up -/
def Left (b : Nat) (H : List Own) : Prop := ∃ c : Array Value, c.size = 4 ∧ H = [.blk b (.cells c 91 (0, 0))]
theorem Left.of (b : Nat) (A : Option Addr) (n cap : Nat) (p a : Int) (B : Option Addr) (m cm : Nat) : Left b [frB b A n cap p a B m cm] := ⟨_, rfl, rfl⟩

theorem lay_ok (G : Gh) (mv : Value) (b : Nat) (A : Option Addr) (cap : Nat) (p a : Int) (B : Option Addr) (m cm : Nat) (l : List V) (x : Own) (v : V) (hv : VVec A cap l x) (hb : l.length < 128) :
    Fn Try.prog 65 #[mv, .pointer (some ⟨b, 0, none⟩), .agg #[.int .i64 v.t, .int .i64 v.i, .bool v.b, .string v.s]] G [frB b A l.length cap p a B m cm, x]
      fun e G' H' => ∃ A' cap' x', e = .returned (.tuple #[]) ∧ G = G' ∧ H' = [frB b A' (l ++ [v]).length cap' p a B m cm, x'] ∧ VVec A' cap' (l ++ [v]) x' := by
  refine Fn.enter Try.func65 rfl rfl fun w0 => ?_
  refine WC.seq ?_
  refine WC.region ?_
  refine WL.op (by kernel_rfl) (OW.box rfl rfl fun b1 => ?_)
  refine WL.nil ?_
  refine WK.un ?_
  refine WC.seq ?_
  refine WC.region ?_
  refine WL.p (Gp.move rfl) (by kernel_rfl) rfl ?_
  refine WL.p (Gp.nilCheck rfl) (by kernel_rfl) rfl ?_
  refine WL.p (Gp.fieldAddr rfl) (by kernel_rfl) rfl ?_
  refine WL.op (by kernel_rfl) (OW.callR rfl (perm_at (.there .here)) (high_fn G _ _ _ _ _ _ _ _ _) rfl (by rintro e G' H' ⟨h, _⟩; exact ⟨_, h⟩) fun v' G' H' h hg => ?_)
  obtain ⟨he, rfl, rfl⟩ := h
  cases he
  (first | refine WL.p (Gp.ltI rfl rfl) (by kernel_rfl) rfl ?_ | refine WL.p (Gp.ltS rfl rfl) (by kernel_rfl) rfl ?_)
  rw [show decide ((l.length : Int) < 128) = true by simp; omega]
  refine WL.op (by kernel_rfl) (OW.callR rfl (Hf := []) (List.Perm.refl _) (need_ok G) rfl (by rintro e G' H' ⟨h, _⟩; exact ⟨_, h⟩) fun v' G' H' h hg => ?_)
  obtain ⟨he, rfl, rfl⟩ := h
  cases he
  refine WL.nil ?_
  refine WK.un ?_
  refine WC.draw mixed ?_
  refine WA.tp (i := 0) rfl (by kernel_rfl) (by kernel_rfl) rfl (Gp.move rfl) ?_
  refine WA.tp (i := 1) rfl (by kernel_rfl) (by kernel_rfl) rfl (Gp.nilCheck rfl) ?_
  refine WA.tp (i := 2) rfl (by kernel_rfl) (by kernel_rfl) rfl (Gp.fieldAddr rfl) ?_
  (first | (refine WA.tv (i := 3) rfl (by kernel_rfl) (by kernel_rfl) rfl (Gv.load1 rfl (by (repeat first | exact .here | apply At.there)) (by first | rfl | assumption)) ?_) | (refine WA.tv (i := 3) rfl (by kernel_rfl) (by kernel_rfl) rfl (Gv.loadN rfl (by (repeat first | exact .here | apply At.there)) (by rfl) (by rfl)) ?_) | (refine WA.tv (i := 3) rfl (by kernel_rfl) (by kernel_rfl) rfl (Gv.loadG1 rfl (by assumption) rfl) ?_) | (refine WA.tv (i := 3) rfl (by kernel_rfl) (by kernel_rfl) rfl (Gv.loadG0 rfl (by assumption) rfl) ?_) | (refine WA.tv (i := 3) rfl (by kernel_rfl) (by kernel_rfl) rfl (Gv.loadGN rfl (by assumption) rfl) ?_))
  refine WA.one (i := 4) (by kernel_rfl) rfl (by kernel_rfl) (OW.callR rfl (Hf := [frB b A l.length cap p a B m cm, x]) (F := [.blk b1 _]) (List.Perm.cons _ (List.Perm.swap _ _ _)) (push_fn G b A l.length cap p a B m cm (vflat l) x v hv (by omega)) rfl (by rintro e G' H' ⟨_, _, _, h, _⟩; exact ⟨_, h⟩) fun v' G' H' h hg => ?_)
  obtain ⟨A', cap', x', he, rfl, rfl, hv'⟩ := h
  cases he
  refine WA.done (by kernel_rfl) ?_
  refine WK.un ?_
  exact QF.ret0 (.inr rfl) rfl (H' := [frB b A' (l.length + 1) cap' p a B m cm, x']) (by exact .cons_cons _ (.cons_cons _ (List.nil_sublist _))) ⟨A', cap', x', rfl, rfl, by simp, by
    have e1 : vflat (l ++ [v]) = vflat l ++ vcells v := by rw [vflat_append]; simp [vflat]
    have e2 : (l ++ [v]).length = l.length + 1 := by simp
    unfold VVec; rw [e1, e2]; exact hv'⟩
theorem lay_no (G : Gh) (mv : Value) (b : Nat) (A : Option Addr) (n cap : Nat) (p a : Int) (B : Option Addr) (m cm : Nat) (vv : Value) (hb : 128 ≤ n) :
    Fn Try.prog 65 #[mv, .pointer (some ⟨b, 0, none⟩), vv] G [frB b A n cap p a B m cm]
      fun e G' H' => e = halted 6 ∧ G = G' ∧ Left b H' := by
  refine Fn.enter Try.func65 rfl rfl fun w0 => ?_
  refine WC.seq ?_
  refine WC.region ?_
  refine WL.op (by kernel_rfl) (OW.box rfl rfl fun b1 => ?_)
  refine WL.nil ?_
  refine WK.un ?_
  refine WC.seq ?_
  refine WC.region ?_
  refine WL.p (Gp.move rfl) (by kernel_rfl) rfl ?_
  refine WL.p (Gp.nilCheck rfl) (by kernel_rfl) rfl ?_
  refine WL.p (Gp.fieldAddr rfl) (by kernel_rfl) rfl ?_
  refine WL.op (by kernel_rfl) (OW.callR rfl (perm_at (.there .here)) (high_fn G _ _ _ _ _ _ _ _ _) rfl (by rintro e G' H' ⟨h, _⟩; exact ⟨_, h⟩) fun v' G' H' h hg => ?_)
  obtain ⟨he, rfl, rfl⟩ := h
  cases he
  (first | refine WL.p (Gp.ltI rfl rfl) (by kernel_rfl) rfl ?_ | refine WL.p (Gp.ltS rfl rfl) (by kernel_rfl) rfl ?_)
  rw [show decide ((n : Int) < 128) = false by simp; omega]
  refine WL.op (by kernel_rfl) (OW.call rfl (Hf := []) (List.Perm.refl _) (need_no G) rfl (fun v G' H' h _ => by cases h.1) (fun ch G' H' h _ => ?_) (fun G' H' h => by cases h.1))
  obtain ⟨he, rfl, rfl⟩ := h
  cases he
  refine WK.un ?_
  exact QF.panic (H' := [frB b A n cap p a B m cm]) (by exact .cons_cons _ (List.nil_sublist _)) ⟨rfl, rfl, Left.of ..⟩

theorem take_ok (G : Gh) (mv : Value) (b : Nat) (A : Option Addr) (cap : Nat) (p a : Int) (B : Option Addr) (m cm : Nat) (l1 l2 : List V) (x : Own) (hv : VVec A cap (l1 ++ l2) x) (hb : l1.length + l2.length ≤ 1000000000) :
    Fn Try.prog 66 #[mv, .pointer (some ⟨b, 0, none⟩), .int .i64 l2.length] G [frB b A (l1 ++ l2).length cap p a B m cm, x]
      fun e G' H' => ∃ A' cap' x', e = .returned (.slice A' l2.length cap') ∧ G = G' ∧ H' = [x', frB b A l1.length cap p a B m cm, x] ∧ VVec A' cap' l2 x' ∧ VVec A cap l1 x := by
  have e0 : (l1 ++ l2).length = l1.length + l2.length := List.length_append
  rw [e0]
  unfold VVec at hv
  rw [e0] at hv
  refine Fn.enter Try.func66 rfl rfl fun w0 => ?_
  refine WC.seq ?_
  refine WC.region ?_
  refine WL.p (Gp.assign rfl) (by kernel_rfl) rfl ?_
  refine WL.nil ?_
  refine WK.un ?_
  refine WC.seq ?_
  refine WC.region ?_
  refine WL.p (Gp.move rfl) (by kernel_rfl) rfl ?_
  refine WL.p (Gp.nilCheck rfl) (by kernel_rfl) rfl ?_
  refine WL.p (Gp.fieldAddr rfl) (by kernel_rfl) rfl ?_
  refine WL.op (by kernel_rfl) (OW.callR rfl (perm_at .here) (high_fn G _ _ _ _ _ _ _ _ _) rfl (by rintro e G' H' ⟨h, _⟩; exact ⟨_, h⟩) fun v' G' H' h hg => ?_)
  obtain ⟨he, rfl, rfl⟩ := h
  cases he
  refine WL.p (Gp.move rfl) (by kernel_rfl) rfl ?_
  (first | refine WL.p (Gp.geI rfl rfl) (by kernel_rfl) rfl ?_ | refine WL.p (Gp.geS rfl rfl) (by kernel_rfl) rfl ?_)
  rw [show decide ((l2.length : Int) ≤ ((l1.length + l2.length : Nat) : Int)) = true by simp; omega]
  refine WL.op (by kernel_rfl) (OW.callR rfl (Hf := []) (List.Perm.refl _) (need_ok G) rfl (by rintro e G' H' ⟨h, _⟩; exact ⟨_, h⟩) fun v' G' H' h hg => ?_)
  obtain ⟨he, rfl, rfl⟩ := h
  cases he
  refine WL.nil ?_
  refine WK.un ?_
  refine WC.seq ?_
  refine WC.region ?_
  refine WL.p (Gp.move rfl) (by kernel_rfl) rfl ?_
  refine WL.p (Gp.nilCheck rfl) (by kernel_rfl) rfl ?_
  refine WL.p (Gp.fieldAddr rfl) (by kernel_rfl) rfl ?_
  refine WL.p (Gp.move rfl) (by kernel_rfl) rfl ?_
  refine WL.op (by kernel_rfl) (OW.callR rfl (perm_all _) (pop_fn G b A cap p a B m cm l1 l2 x hv hb) rfl (by rintro e G' H' ⟨_, _, _, h, _⟩; exact ⟨_, h⟩) fun v' G' H' h hg => ?_)
  obtain ⟨A', cap', x', he, rfl, rfl, hv1, hv2⟩ := h
  cases he
  refine WL.p (Gp.assign rfl) (by kernel_rfl) rfl ?_
  refine WL.nil ?_
  refine WK.un ?_
  refine WC.ret ?_
  (refine WK.un ?_)
  exact QF.ret1 (.inl rfl) rfl (.tmp rfl) (List.Sublist.refl _) ⟨A', cap', x', rfl, rfl, rfl, hv1, hv2⟩
theorem take_no (G : Gh) (mv : Value) (b : Nat) (A : Option Addr) (n cap : Nat) (p a : Int) (B : Option Addr) (m cm : Nat) (k : Int) (hb : (n : Int) < k) :
    Fn Try.prog 66 #[mv, .pointer (some ⟨b, 0, none⟩), .int .i64 k] G [frB b A n cap p a B m cm]
      fun e G' H' => e = halted 6 ∧ G = G' ∧ Left b H' := by
  refine Fn.enter Try.func66 rfl rfl fun w0 => ?_
  refine WC.seq ?_
  refine WC.region ?_
  refine WL.p (Gp.assign rfl) (by kernel_rfl) rfl ?_
  refine WL.nil ?_
  refine WK.un ?_
  refine WC.seq ?_
  refine WC.region ?_
  refine WL.p (Gp.move rfl) (by kernel_rfl) rfl ?_
  refine WL.p (Gp.nilCheck rfl) (by kernel_rfl) rfl ?_
  refine WL.p (Gp.fieldAddr rfl) (by kernel_rfl) rfl ?_
  refine WL.op (by kernel_rfl) (OW.callR rfl (perm_at .here) (high_fn G _ _ _ _ _ _ _ _ _) rfl (by rintro e G' H' ⟨h, _⟩; exact ⟨_, h⟩) fun v' G' H' h hg => ?_)
  obtain ⟨he, rfl, rfl⟩ := h
  cases he
  refine WL.p (Gp.move rfl) (by kernel_rfl) rfl ?_
  (first | refine WL.p (Gp.geI rfl rfl) (by kernel_rfl) rfl ?_ | refine WL.p (Gp.geS rfl rfl) (by kernel_rfl) rfl ?_)
  rw [show decide (k ≤ (n : Int)) = false by simp; omega]
  refine WL.op (by kernel_rfl) (OW.call rfl (Hf := []) (List.Perm.refl _) (need_no G) rfl (fun v G' H' h _ => by cases h.1) (fun ch G' H' h _ => ?_) (fun G' H' h => by cases h.1))
  obtain ⟨he, rfl, rfl⟩ := h
  cases he
  refine WK.un ?_
  exact QF.panic (H' := [frB b A n cap p a B m cm]) (List.Sublist.refl _) ⟨rfl, rfl, Left.of ..⟩
end Go.Proofs.Ytjgohbepageicaa.Gb
