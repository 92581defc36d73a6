/- The machine's stack and its small helpers, part 2. -/
import Derived.Test.YtjgohbepageicaaVa
namespace Go.Proofs.Ytjgohbepageicaa.Gb
open Go Go.Proofs
set_option linter.unusedVariables false
attribute [local irreducible] Try.prog

theorem wrap_small {x : Int} (h0 : -1000000000000000 ≤ x) (h1 : x ≤ 1000000000000000) : IntKind.i64.wrap x = x := by rw [IntKind.wrap_i64]; omega

/-- how a step gives up -/
def halted (n : Int) : Ending := .panicked [{ v := .iface 108 (.agg #[.int .i64 n]), recovered := false }]

theorem stuck_fn (G : Gh) : Fn Try.prog 77 #[] G [] fun e G' H' => e = halted 6 ∧ G = G' ∧ H' = [] := by
  refine Fn.enter (vs := []) Try.func77 rfl rfl fun w0 => ?_
  refine WC.region ?_
  refine WL.p (Gp.build rfl rfl) (by kernel_rfl) rfl ?_
  refine WL.p (Gp.mkIface rfl (by kernel_rfl)) (by kernel_rfl) rfl ?_
  refine WL.op (by kernel_rfl) (OW.panic rfl (QF.panic (List.Sublist.refl _) ⟨rfl, rfl, rfl⟩))

theorem need_ok (G : Gh) : Fn Try.prog 64 #[.bool true] G [] fun e G' H' => e = .returned (.tuple #[]) ∧ G = G' ∧ H' = [] := by
  refine Fn.enter Try.func64 rfl rfl fun w0 => ?_
  refine WC.seq ?_
  refine WC.region ?_
  refine WL.p (Gp.move rfl) (by kernel_rfl) rfl ?_
  refine WL.p (Gp.notB rfl) (by kernel_rfl) rfl ?_
  refine WL.nil ?_
  refine WK.un ?_
  refine WC.cond_false rfl ?_
  exact WC.skip (QF.ret0 (.inr rfl) rfl (List.Sublist.refl _) ⟨rfl, rfl, rfl⟩)
theorem need_no (G : Gh) : Fn Try.prog 64 #[.bool false] G [] fun e G' H' => e = halted 6 ∧ G = G' ∧ H' = [] := by
  refine Fn.enter Try.func64 rfl rfl fun w0 => ?_
  refine WC.seq ?_
  refine WC.region ?_
  refine WL.p (Gp.move rfl) (by kernel_rfl) rfl ?_
  refine WL.p (Gp.notB rfl) (by kernel_rfl) rfl ?_
  refine WL.nil ?_
  refine WK.un ?_
  refine WC.cond_true rfl ?_
  refine WC.region ?_
  refine WL.op (by kernel_rfl) (OW.call rfl (F := []) (List.Perm.refl _) (stuck_fn G) rfl (fun v G' H' h _ => by cases h.1) (fun ch G' H' h _ => ?_) (fun G' H' h => by cases h.1))
  obtain ⟨he, rfl, rfl⟩ := h
  cases he
  exact QF.panic (List.Sublist.refl _) ⟨rfl, rfl, rfl⟩

theorem truth_fn (G : Gh) (b : Bool) : Fn Try.prog 82 #[.bool b] G [] fun e G' H' => e = .returned (.agg #[.int .i64 2, .int .i64 0, .bool b, .string ⟨#[]⟩]) ∧ G = G' ∧ H' = [] := by
  refine Fn.enter Try.func82 rfl rfl fun w0 => ?_
  refine WC.seq ?_
  refine WC.region ?_
  refine WL.op (by kernel_rfl) (OW.alloc rfl fun b1 => ?_)
  refine WL.nil ?_
  refine WK.un ?_
  refine WC.seq ?_
  refine WC.region ?_
  refine WL.p (Gp.move rfl) (by kernel_rfl) rfl ?_
  refine WL.p (Gp.build rfl rfl) (by kernel_rfl) rfl ?_
  refine WL.op (by kernel_rfl) (OW.store rfl rfl (by (repeat first | exact .here | apply At.there)) rfl (by rfl) (by rfl) (by kernel_rfl) (by rfl) ?_ rfl)
  refine WL.nil ?_
  refine WK.un ?_
  refine WC.ret ?_
  exact QF.ret1 (.inl rfl) rfl (.cell rfl inferInstance inferInstance (by (repeat first | exact .here | apply At.there)) rfl rfl) (List.nil_sublist _) ⟨rfl, rfl, rfl⟩
theorem number_fn (G : Gh) (n : Int) : Fn Try.prog 83 #[.int .i64 n] G [] fun e G' H' => e = .returned (.agg #[.int .i64 1, .int .i64 n, .bool false, .string ⟨#[]⟩]) ∧ G = G' ∧ H' = [] := by
  refine Fn.enter Try.func83 rfl rfl fun w0 => ?_
  refine WC.seq ?_
  refine WC.region ?_
  refine WL.op (by kernel_rfl) (OW.alloc rfl fun b1 => ?_)
  refine WL.nil ?_
  refine WK.un ?_
  refine WC.seq ?_
  refine WC.region ?_
  refine WL.p (Gp.move rfl) (by kernel_rfl) rfl ?_
  refine WL.p (Gp.build rfl rfl) (by kernel_rfl) rfl ?_
  refine WL.op (by kernel_rfl) (OW.store rfl rfl (by (repeat first | exact .here | apply At.there)) rfl (by rfl) (by rfl) (by kernel_rfl) (by rfl) ?_ rfl)
  refine WL.nil ?_
  refine WK.un ?_
  refine WC.ret ?_
  exact QF.ret1 (.inl rfl) rfl (.cell rfl inferInstance inferInstance (by (repeat first | exact .here | apply At.there)) rfl rfl) (List.nil_sublist _) ⟨rfl, rfl, rfl⟩

theorem pop_fn (G : Gh) (b : Nat) (A : Option Addr) (cap : Nat) (p a : Int) (B : Option Addr) (m cm : Nat) (l1 l2 : List V) (x : Own) (hv : Vec 33 4 A (l1.length + l2.length) cap (vflat (l1 ++ l2)) x) (hb : l1.length + l2.length ≤ 1000000000) :
    Fn Try.prog 80 #[.pointer (some ⟨b, 0, none⟩), .int .i64 l2.length] G [.blk b (.cells (frC A (l1.length + l2.length) cap p a B m cm) 91 (0, 0)), x]
      fun e G' H' => ∃ A' cap' x', e = .returned (.slice A' l2.length cap') ∧ G = G' ∧ H' = [x', .blk b (.cells (frC A l1.length cap p a B m cm) 91 (0, 0)), x] ∧ Vec 33 4 A' l2.length cap' (vflat l2) x' ∧ Vec 33 4 A l1.length cap (vflat l1) x := by
  have e1 : IntKind.i64.wrap (((l1.length + l2.length : Nat) : Int) - (l2.length : Int)) = (l1.length : Int) := by rw [wrap_small] <;> omega
  have hd : (vflat (l1 ++ l2)).drop (l1.length * 4) = vflat l2 := by rw [vflat_append, ← vflat_length, List.drop_left]
  have ht : (vflat (l1 ++ l2)).take (l1.length * 4) = vflat l1 := by rw [vflat_append, ← vflat_length, List.take_left]
  have hle := hv.le
  have hv2 : Vec 33 4 A l1.length cap (vflat l1) x := ht ▸ hv.cut (m := l1.length) (by omega)
  refine Fn.enter Try.func80 rfl rfl fun w0 => ?_
  refine WC.seq ?_
  refine WC.region ?_
  refine WL.p (Gp.assign rfl) (by kernel_rfl) rfl ?_
  refine WL.nil ?_
  refine WK.un ?_
  refine WC.seq ?_
  refine WC.region ?_
  refine WL.p (Gp.move rfl) (by kernel_rfl) rfl ?_
  refine WL.p (Gp.nilCheck rfl) (by kernel_rfl) rfl ?_
  refine WL.p (Gp.fieldAddr rfl) (by kernel_rfl) rfl ?_
  (first | (refine WL.v (Gv.load1 rfl (by (repeat first | exact .here | apply At.there)) (by first | rfl | assumption)) (by kernel_rfl) rfl ?_) | (refine WL.v (Gv.loadN rfl (by (repeat first | exact .here | apply At.there)) (by rfl) (by rfl)) (by kernel_rfl) rfl ?_) | (refine WL.v (Gv.loadG1 rfl (by assumption) rfl) (by kernel_rfl) rfl ?_) | (refine WL.v (Gv.loadG0 rfl (by assumption) rfl) (by kernel_rfl) rfl ?_) | (refine WL.v (Gv.loadGN rfl (by assumption) rfl) (by kernel_rfl) rfl ?_))
  (first | refine WL.p (Gp.lenSl rfl) (by kernel_rfl) rfl ?_ | refine WL.p (Gp.lenS rfl) (by kernel_rfl) rfl ?_)
  refine WL.p (Gp.move rfl) (by kernel_rfl) rfl ?_
  refine WL.p (Gp.sub rfl rfl) (by kernel_rfl) rfl ?_
  rw [e1]
  refine WL.p (Gp.assign rfl) (by kernel_rfl) rfl ?_
  refine WL.nil ?_
  refine WK.un ?_
  refine WC.seq ?_
  refine WC.region ?_
  refine WL.p (Gp.move rfl) (by kernel_rfl) rfl ?_
  refine WL.p (Gp.nilCheck rfl) (by kernel_rfl) rfl ?_
  refine WL.p (Gp.fieldAddr rfl) (by kernel_rfl) rfl ?_
  (first | (refine WL.v (Gv.load1 rfl (by (repeat first | exact .here | apply At.there)) (by first | rfl | assumption)) (by kernel_rfl) rfl ?_) | (refine WL.v (Gv.loadN rfl (by (repeat first | exact .here | apply At.there)) (by rfl) (by rfl)) (by kernel_rfl) rfl ?_) | (refine WL.v (Gv.loadG1 rfl (by assumption) rfl) (by kernel_rfl) rfl ?_) | (refine WL.v (Gv.loadG0 rfl (by assumption) rfl) (by kernel_rfl) rfl ?_) | (refine WL.v (Gv.loadGN rfl (by assumption) rfl) (by kernel_rfl) rfl ?_))
  refine WL.p (Gp.move rfl) (by kernel_rfl) rfl ?_
  refine WL.p (Gp.sliceFrom rfl rfl (by omega) (by omega)) (by kernel_rfl) rfl ?_
  have hr := hv.rdsFrom (G := G) (H := [.blk b (.cells (frC A (l1.length + l2.length) cap p a B m cm) 91 (0, 0)), x]) (.there .here) (lo := l1.length) (by omega)
  rw [hd] at hr
  simp only [Int.toNat_natCast, Nat.add_sub_cancel_left]
  refine WL.op (by kernel_rfl) (OW.callR rfl (perm_all _) (clone_vals G _ _ _ _ _ hr (vflat_length _) (vflat_one _) (fun hA => ?_) (by omega)) rfl (by rintro e G' H' ⟨A', cap', x', h, _⟩; exact ⟨_, h⟩) fun v G' H' h hg => ?_)
  · split at hA
    · omega
    · rcases hv.2 with ⟨h1, h2, _⟩ | ⟨b', c', h1, _⟩
      · omega
      · rw [h1] at hA; cases hA
  obtain ⟨A', cap', x', he, rfl, rfl, hv'⟩ := h
  cases he
  refine WL.p (Gp.assign rfl) (by kernel_rfl) rfl ?_
  refine WL.nil ?_
  refine WK.un ?_
  refine WC.seq ?_
  refine WC.region ?_
  refine WL.p (Gp.move rfl) (by kernel_rfl) rfl ?_
  refine WL.p (Gp.move rfl) (by kernel_rfl) rfl ?_
  refine WL.p (Gp.nilCheck rfl) (by kernel_rfl) rfl ?_
  refine WL.p (Gp.fieldAddr rfl) (by kernel_rfl) rfl ?_
  (first | (refine WL.v (Gv.load1 rfl (by (repeat first | exact .here | apply At.there)) (by first | rfl | assumption)) (by kernel_rfl) rfl ?_) | (refine WL.v (Gv.loadN rfl (by (repeat first | exact .here | apply At.there)) (by rfl) (by rfl)) (by kernel_rfl) rfl ?_) | (refine WL.v (Gv.loadG1 rfl (by assumption) rfl) (by kernel_rfl) rfl ?_) | (refine WL.v (Gv.loadG0 rfl (by assumption) rfl) (by kernel_rfl) rfl ?_) | (refine WL.v (Gv.loadGN rfl (by assumption) rfl) (by kernel_rfl) rfl ?_))
  refine WL.p (Gp.move rfl) (by kernel_rfl) rfl ?_
  refine WL.p (Gp.sliceTo rfl rfl (by omega) (by omega)) (by kernel_rfl) rfl ?_
  refine WL.p (Gp.nilCheck rfl) (by kernel_rfl) rfl ?_
  refine WL.p (Gp.fieldAddr rfl) (by kernel_rfl) rfl ?_
  refine WL.op (by kernel_rfl) (OW.store rfl rfl (by (repeat first | exact .here | apply At.there)) rfl (by rfl) (by rfl) (by kernel_rfl) (by rfl) ?_ rfl)
  refine WL.nil ?_
  refine WK.un ?_
  refine WC.seq ?_
  refine WC.region ?_
  refine WL.p (Gp.move rfl) (by kernel_rfl) rfl ?_
  refine WL.p (Gp.assign rfl) (by kernel_rfl) rfl ?_
  refine WL.nil ?_
  refine WK.un ?_
  refine WC.ret ?_
  (refine WK.un ?_)
  exact QF.ret1 (.inl rfl) rfl (.tmp rfl) (List.Sublist.refl _) ⟨A', cap', x', rfl, rfl, rfl, hv', hv2⟩
end Go.Proofs.Ytjgohbepageicaa.Gb
