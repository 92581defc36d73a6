/- The machine's stack and its small helpers, part 2. The machine's values and tests. Numbers and texts compared and reckoned with. What is taken from the stack, and laid there. Values of a type are taken; two are compared. Two values are compared by their order. A program and a machine in memory; frames are entered, copied, found. A frame is entered. A procedure is called. -/
import Derived.Test.YtbfgljcjblfleaaGreatDoorMf
set_option linter.unusedVariables false
set_option linter.unusedSimpArgs false
set_option linter.unusedSectionVars false
namespace Go.Proofs.YtbfgljcjblfleaaGreatDoor.Gb
open Go Go.Proofs
attribute [local irreducible] Tryz.prog
theorem wrap_small {x : Int} (h0 : -1000000000000000 ≤ x) (h1 : x ≤ 1000000000000000) : IntKind.i64.wrap x = x := by rw [IntKind.wrap_i64]; omega
def halted (n : Int) : Ending := .panicked [{ v := .iface 109 (.agg #[.int .i64 n]), recovered := false }]
theorem stuck_fn (G : Gh) : Fn Tryz.prog 68 #[] G [] fun e G' H' => e = halted 6 ∧ G = G' ∧ H' = [] := by
  refine Fn.enter (vs := []) Tryz.func68 rfl rfl fun w0 => ?_
  refine WC.region ?_
  refine WL.p (Gp.build rfl rfl) (by kernel_rfl) rfl ?_
  refine WL.p (Gp.mkIface rfl (by kernel_rfl)) (by kernel_rfl) rfl ?_
  refine WL.op (by kernel_rfl) (OW.panic rfl (QF.panic (List.Sublist.refl _) ⟨rfl, rfl, rfl⟩))
theorem need_ok (G : Gh) : Fn Tryz.prog 55 #[.bool true] G [] fun e G' H' => e = .returned (.tuple #[]) ∧ G = G' ∧ H' = [] := by
  refine Fn.enter Tryz.func55 rfl rfl fun w0 => ?_
  refine WC.seq ?_
  refine WC.region ?_
  refine WL.p (Gp.move rfl) (by kernel_rfl) rfl ?_
  refine WL.p (Gp.notB rfl) (by kernel_rfl) rfl ?_
  refine WL.nil ?_
  refine WK.un ?_
  refine WC.cond_false rfl ?_
  exact WC.skip (QF.ret0 (.inr rfl) rfl (List.Sublist.refl _) ⟨rfl, rfl, rfl⟩)
theorem need_no (G : Gh) : Fn Tryz.prog 55 #[.bool false] G [] fun e G' H' => e = halted 6 ∧ G = G' ∧ H' = [] := by
  refine Fn.enter Tryz.func55 rfl rfl fun w0 => ?_
  refine WC.seq ?_
  refine WC.region ?_
  refine WL.p (Gp.move rfl) (by kernel_rfl) rfl ?_
  refine WL.p (Gp.notB rfl) (by kernel_rfl) rfl ?_
  refine WL.nil ?_
  refine WK.un ?_
  refine WC.cond_true rfl ?_
  refine WC.region ?_
  refine WL.op (by kernel_rfl) (OW.call rfl (F := []) (List.Perm.refl _) (stuck_fn G) rfl (fun v G' H' h _ => by cases h.1) (fun ch G' H' h _ => ?_) (fun G' H' h => by cases h.1))
  obtain ⟨he, rfl, rfl⟩ := h
  cases he
  exact QF.panic (List.Sublist.refl _) ⟨rfl, rfl, rfl⟩
theorem truth_fn (G : Gh) (b : Bool) : Fn Tryz.prog 73 #[.bool b] G [] fun e G' H' => e = .returned (.agg #[.int .i64 2, .int .i64 0, .bool b, .string ⟨#[]⟩]) ∧ G = G' ∧ H' = [] := by
  refine Fn.enter Tryz.func73 rfl rfl fun w0 => ?_
  refine WC.seq ?_
  refine WC.region ?_
  refine WL.op (by kernel_rfl) (OW.alloc rfl fun b1 => ?_)
  refine WL.nil ?_
  refine WK.un ?_
  refine WC.seq ?_
  refine WC.region ?_
  refine WL.p (Gp.move rfl) (by kernel_rfl) rfl ?_
  refine WL.p (Gp.build rfl rfl) (by kernel_rfl) rfl ?_
  refine WL.op (by kernel_rfl) (OW.store rfl rfl (by (repeat first | exact .here | apply At.there)) rfl (by rfl) (by rfl) (by kernel_rfl) (by rfl) ?_ rfl)
  refine WL.nil ?_
  refine WK.un ?_
  refine WC.ret ?_
  exact QF.ret1 (.inl rfl) rfl (.cell rfl inferInstance inferInstance (by (repeat first | exact .here | apply At.there)) rfl rfl) (List.nil_sublist _) ⟨rfl, rfl, rfl⟩
theorem number_fnQ (G : Gh) (n : Int) : Fn Tryz.prog 74 #[.int .i64 n] G [] fun e G' H' => e = .returned (.agg #[.int .i64 1, .int .i64 n, .bool false, .string ⟨#[]⟩]) ∧ G = G' ∧ H' = [] := by
  refine Fn.enter Tryz.func74 rfl rfl fun w0 => ?_
  refine WC.seq ?_
  refine WC.region ?_
  refine WL.op (by kernel_rfl) (OW.alloc rfl fun b1 => ?_)
  refine WL.nil ?_
  refine WK.un ?_
  refine WC.seq ?_
  refine WC.region ?_
  refine WL.p (Gp.move rfl) (by kernel_rfl) rfl ?_
  refine WL.p (Gp.build rfl rfl) (by kernel_rfl) rfl ?_
  refine WL.op (by kernel_rfl) (OW.store rfl rfl (by (repeat first | exact .here | apply At.there)) rfl (by rfl) (by rfl) (by kernel_rfl) (by rfl) ?_ rfl)
  refine WL.nil ?_
  refine WK.un ?_
  refine WC.ret ?_
  exact QF.ret1 (.inl rfl) rfl (.cell rfl inferInstance inferInstance (by (repeat first | exact .here | apply At.there)) rfl rfl) (List.nil_sublist _) ⟨rfl, rfl, rfl⟩
theorem pop_fn (G : Gh) (b : Nat) (A : Option Addr) (cap : Nat) (p a : Int) (B : Option Addr) (m cm : Nat) (l1 l2 : List V) (x : Own) (hv : Vec 49 4 A (l1.length + l2.length) cap (vflat (l1 ++ l2)) x) (hb : l1.length + l2.length ≤ 1000000000) :
    Fn Tryz.prog 71 #[.pointer (some ⟨b, 0, none⟩), .int .i64 l2.length] G [.blk b (.cells (frC A (l1.length + l2.length) cap p a B m cm) 76 (0, 0)), x]
      fun e G' H' => ∃ A' cap' x', e = .returned (.slice A' l2.length cap') ∧ G = G' ∧ H' = [x', .blk b (.cells (frC A l1.length cap p a B m cm) 76 (0, 0)), x] ∧ Vec 49 4 A' l2.length cap' (vflat l2) x' ∧ Vec 49 4 A l1.length cap (vflat l1) x := by
  have e1 : IntKind.i64.wrap (((l1.length + l2.length : Nat) : Int) - (l2.length : Int)) = (l1.length : Int) := by rw [wrap_small] <;> omega
  have hd : (vflat (l1 ++ l2)).drop (l1.length * 4) = vflat l2 := by rw [vflat_append, ← vflat_length, List.drop_left]
  have ht : (vflat (l1 ++ l2)).take (l1.length * 4) = vflat l1 := by rw [vflat_append, ← vflat_length, List.take_left]
  have hle := hv.le
  have hv2 : Vec 49 4 A l1.length cap (vflat l1) x := ht ▸ hv.cut (m := l1.length) (by omega)
  refine Fn.enter Tryz.func71 rfl rfl fun w0 => ?_
  refine WC.seq ?_
  refine WC.region ?_
  refine WL.p (Gp.assign rfl) (by kernel_rfl) rfl ?_
  refine WL.nil ?_
  refine WK.un ?_
  refine WC.seq ?_
  refine WC.region ?_
  refine WL.p (Gp.move rfl) (by kernel_rfl) rfl ?_
  refine WL.p (Gp.nilCheck rfl) (by kernel_rfl) rfl ?_
  refine WL.p (Gp.fieldAddr rfl) (by kernel_rfl) rfl ?_
  (first | (refine WL.v (Gv.load1 rfl (by (repeat first | exact .here | apply At.there)) (by first | rfl | assumption)) (by kernel_rfl) rfl ?_) | (refine WL.v (Gv.loadN rfl (by (repeat first | exact .here | apply At.there)) (by rfl) (by rfl)) (by kernel_rfl) rfl ?_) | (refine WL.v (Gv.loadG1 rfl (by assumption) rfl) (by kernel_rfl) rfl ?_) | (refine WL.v (Gv.loadG0 rfl (by assumption) rfl) (by kernel_rfl) rfl ?_) | (refine WL.v (Gv.loadGN rfl (by assumption) rfl) (by kernel_rfl) rfl ?_))
  (first | refine WL.p (Gp.lenSl rfl) (by kernel_rfl) rfl ?_ | refine WL.p (Gp.lenS rfl) (by kernel_rfl) rfl ?_)
  refine WL.p (Gp.move rfl) (by kernel_rfl) rfl ?_
  refine WL.p (Gp.sub rfl rfl) (by kernel_rfl) rfl ?_
  rw [e1]
  refine WL.p (Gp.assign rfl) (by kernel_rfl) rfl ?_
  refine WL.nil ?_
  refine WK.un ?_
  refine WC.seq ?_
  refine WC.region ?_
  refine WL.p (Gp.move rfl) (by kernel_rfl) rfl ?_
  refine WL.p (Gp.nilCheck rfl) (by kernel_rfl) rfl ?_
  refine WL.p (Gp.fieldAddr rfl) (by kernel_rfl) rfl ?_
  (first | (refine WL.v (Gv.load1 rfl (by (repeat first | exact .here | apply At.there)) (by first | rfl | assumption)) (by kernel_rfl) rfl ?_) | (refine WL.v (Gv.loadN rfl (by (repeat first | exact .here | apply At.there)) (by rfl) (by rfl)) (by kernel_rfl) rfl ?_) | (refine WL.v (Gv.loadG1 rfl (by assumption) rfl) (by kernel_rfl) rfl ?_) | (refine WL.v (Gv.loadG0 rfl (by assumption) rfl) (by kernel_rfl) rfl ?_) | (refine WL.v (Gv.loadGN rfl (by assumption) rfl) (by kernel_rfl) rfl ?_))
  refine WL.p (Gp.move rfl) (by kernel_rfl) rfl ?_
  refine WL.p (Gp.sliceFrom rfl rfl (by omega) (by omega)) (by kernel_rfl) rfl ?_
  have hr := hv.rdsFrom (G := G) (H := [.blk b (.cells (frC A (l1.length + l2.length) cap p a B m cm) 76 (0, 0)), x]) (.there .here) (lo := l1.length) (by omega)
  rw [hd] at hr
  simp only [Int.toNat_natCast, Nat.add_sub_cancel_left]
  refine WL.op (by kernel_rfl) (OW.callR rfl (perm_all _) (clone_vals G _ _ _ _ _ hr (vflat_length _) (vflat_one _) (fun hA => ?_) (by omega)) rfl (by rintro e G' H' ⟨A', cap', x', h, _⟩; exact ⟨_, h⟩) fun v G' H' h hg => ?_)
  · split at hA
    · omega
    · rcases hv.2 with ⟨h1, h2, _⟩ | ⟨b', c', h1, _⟩
      · omega
      · rw [h1] at hA; cases hA
  obtain ⟨A', cap', x', he, rfl, rfl, hv'⟩ := h
  cases he
  refine WL.p (Gp.assign rfl) (by kernel_rfl) rfl ?_
  refine WL.nil ?_
  refine WK.un ?_
  refine WC.seq ?_
  refine WC.region ?_
  refine WL.p (Gp.move rfl) (by kernel_rfl) rfl ?_
  refine WL.p (Gp.move rfl) (by kernel_rfl) rfl ?_
  refine WL.p (Gp.nilCheck rfl) (by kernel_rfl) rfl ?_
  refine WL.p (Gp.fieldAddr rfl) (by kernel_rfl) rfl ?_
  (first | (refine WL.v (Gv.load1 rfl (by (repeat first | exact .here | apply At.there)) (by first | rfl | assumption)) (by kernel_rfl) rfl ?_) | (refine WL.v (Gv.loadN rfl (by (repeat first | exact .here | apply At.there)) (by rfl) (by rfl)) (by kernel_rfl) rfl ?_) | (refine WL.v (Gv.loadG1 rfl (by assumption) rfl) (by kernel_rfl) rfl ?_) | (refine WL.v (Gv.loadG0 rfl (by assumption) rfl) (by kernel_rfl) rfl ?_) | (refine WL.v (Gv.loadGN rfl (by assumption) rfl) (by kernel_rfl) rfl ?_))
  refine WL.p (Gp.move rfl) (by kernel_rfl) rfl ?_
  refine WL.p (Gp.sliceTo rfl rfl (by omega) (by omega)) (by kernel_rfl) rfl ?_
  refine WL.p (Gp.nilCheck rfl) (by kernel_rfl) rfl ?_
  refine WL.p (Gp.fieldAddr rfl) (by kernel_rfl) rfl ?_
  refine WL.op (by kernel_rfl) (OW.store rfl rfl (by (repeat first | exact .here | apply At.there)) rfl (by rfl) (by rfl) (by kernel_rfl) (by rfl) ?_ rfl)
  refine WL.nil ?_
  refine WK.un ?_
  refine WC.seq ?_
  refine WC.region ?_
  refine WL.p (Gp.move rfl) (by kernel_rfl) rfl ?_
  refine WL.p (Gp.assign rfl) (by kernel_rfl) rfl ?_
  refine WL.nil ?_
  refine WK.un ?_
  refine WC.ret ?_
  (refine WK.un ?_)
  exact QF.ret1 (.inl rfl) rfl (.tmp rfl) (List.Sublist.refl _) ⟨A', cap', x', rfl, rfl, rfl, hv', hv2⟩
end Go.Proofs.YtbfgljcjblfleaaGreatDoor.Gb
namespace Go.Proofs.YtbfgljcjblfleaaGreatDoor.Gb
open Go Go.Proofs
attribute [local irreducible] Tryz.prog
def vOK (v : V) : Bool := if v.t = 1 then !v.b && v.s == ⟨#[]⟩ else if v.t = 2 then v.i == 0 && v.s == ⟨#[]⟩ else if v.t = 3 then v.i == 0 && !v.b && decide ((v.s.size : Int) ≤ 4096) else false
theorem value_fnQ (G : Gh) (v : V) : Fn Tryz.prog 21 #[.agg #[.int .i64 v.t, .int .i64 v.i, .bool v.b, .string v.s]] G [] fun e G' H' => e = .returned (.bool (vOK v)) ∧ G = G' ∧ H' = [] := by
  refine Fn.enter Tryz.func21 rfl rfl fun w0 => ?_
  refine WC.seq ?_
  refine WC.region ?_
  refine WL.op (by kernel_rfl) (OW.box rfl rfl fun b1 => ?_)
  refine WL.p (Gp.assign rfl) (by kernel_rfl) rfl ?_
  refine WL.nil ?_
  refine WK.un ?_
  refine WC.seq ?_
  refine WC.seq ?_
  refine WC.region ?_
  refine WL.p (Gp.fieldAddr rfl) (by kernel_rfl) rfl ?_
  (first | (refine WL.v (Gv.load1 rfl (by (repeat first | exact .here | apply At.there)) (by first | rfl | assumption)) (by kernel_rfl) rfl ?_) | (refine WL.v (Gv.loadN rfl (by (repeat first | exact .here | apply At.there)) (by rfl) (by rfl)) (by kernel_rfl) rfl ?_) | (refine WL.v (Gv.loadG1 rfl (by assumption) rfl) (by kernel_rfl) rfl ?_) | (refine WL.v (Gv.loadG0 rfl (by assumption) rfl) (by kernel_rfl) rfl ?_) | (refine WL.v (Gv.loadGN rfl (by assumption) rfl) (by kernel_rfl) rfl ?_))
  refine WL.nil ?_
  refine WK.un ?_
  refine WC.block ?_  -- 0
  refine WC.seq ?_
  refine WC.region ?_
  (first | refine WL.p (Gp.eqI rfl rfl) (by kernel_rfl) rfl ?_ | refine WL.p (Gp.eqS rfl rfl) (by kernel_rfl) rfl ?_ | refine WL.p (Gp.nilSl rfl) (by kernel_rfl) rfl ?_ | refine WL.p (Gp.eqB rfl rfl) (by kernel_rfl) rfl ?_)
  refine WL.p (Gp.assign rfl) (by kernel_rfl) rfl ?_
  refine WL.nil ?_
  refine WK.un ?_
  refine WC.cond rfl (fun hc => ?_) (fun hc => ?_)
  · -- yes
    have ht : v.t = 1 := by simpa using hc
    refine WC.seq ?_
    refine WC.region ?_
    refine WL.p (Gp.fieldAddr rfl) (by kernel_rfl) rfl ?_
    (first | (refine WL.v (Gv.load1 rfl (by (repeat first | exact .here | apply At.there)) (by first | rfl | assumption)) (by kernel_rfl) rfl ?_) | (refine WL.v (Gv.loadN rfl (by (repeat first | exact .here | apply At.there)) (by rfl) (by rfl)) (by kernel_rfl) rfl ?_) | (refine WL.v (Gv.loadG1 rfl (by assumption) rfl) (by kernel_rfl) rfl ?_) | (refine WL.v (Gv.loadG0 rfl (by assumption) rfl) (by kernel_rfl) rfl ?_) | (refine WL.v (Gv.loadGN rfl (by assumption) rfl) (by kernel_rfl) rfl ?_))
    refine WL.p (Gp.notB rfl) (by kernel_rfl) rfl ?_
    refine WL.p (Gp.move rfl) (by kernel_rfl) rfl ?_
    generalize hb : v.b = b
    cases b
    all_goals (first | refine WL.p (Gp.fieldAddr rfl) (by rfl) rfl ?_ | refine WL.skip (by rfl) rfl ?_)
    all_goals (first | (first | (refine WL.v (Gv.load1 rfl (by (repeat first | exact .here | apply At.there)) (by first | rfl | assumption)) (by rfl) rfl ?_) | (refine WL.v (Gv.loadN rfl (by (repeat first | exact .here | apply At.there)) (by rfl) (by rfl)) (by rfl) rfl ?_) | (refine WL.v (Gv.loadG1 rfl (by assumption) rfl) (by rfl) rfl ?_) | (refine WL.v (Gv.loadG0 rfl (by assumption) rfl) (by rfl) rfl ?_) | (refine WL.v (Gv.loadGN rfl (by assumption) rfl) (by rfl) rfl ?_)) | refine WL.skip (by rfl) rfl ?_)
    all_goals (first | (first | refine WL.p (Gp.eqI rfl rfl) (by rfl) rfl ?_ | refine WL.p (Gp.eqS rfl rfl) (by rfl) rfl ?_ | refine WL.p (Gp.nilSl rfl) (by rfl) rfl ?_ | refine WL.p (Gp.eqB rfl rfl) (by rfl) rfl ?_) | refine WL.skip (by rfl) rfl ?_)
    all_goals (first | (first | refine WL.p (Gp.pickT rfl rfl) (by rfl) rfl ?_ | refine WL.p (Gp.pickF rfl rfl) (by rfl) rfl ?_) | refine WL.skip (by rfl) rfl ?_)
    all_goals (first | refine WL.p (Gp.assign rfl) (by rfl) rfl ?_ | refine WL.skip (by rfl) rfl ?_)
    all_goals refine WL.nil ?_
    all_goals (refine WK.un ?_)
    all_goals refine WC.ret ?_
    all_goals (refine WK.un ?_)
    all_goals exact QF.ret1 (.inl rfl) rfl (.tmp rfl) (List.nil_sublist _) ⟨by simp [vOK, ht, hb], rfl, rfl⟩
  · -- no
    have ht1 : ¬ v.t = 1 := by simpa using hc
    refine WC.seq ?_
    refine WC.region ?_
    (first | refine WL.p (Gp.eqI rfl rfl) (by kernel_rfl) rfl ?_ | refine WL.p (Gp.eqS rfl rfl) (by kernel_rfl) rfl ?_ | refine WL.p (Gp.nilSl rfl) (by kernel_rfl) rfl ?_ | refine WL.p (Gp.eqB rfl rfl) (by kernel_rfl) rfl ?_)
    refine WL.p (Gp.assign rfl) (by kernel_rfl) rfl ?_
    refine WL.nil ?_
    refine WK.un ?_
    refine WC.cond rfl (fun hc => ?_) (fun hc => ?_)
    · -- yes
      have ht : v.t = 2 := by simpa using hc
      refine WC.seq ?_
      refine WC.region ?_
      refine WL.p (Gp.fieldAddr rfl) (by kernel_rfl) rfl ?_
      (first | (refine WL.v (Gv.load1 rfl (by (repeat first | exact .here | apply At.there)) (by first | rfl | assumption)) (by kernel_rfl) rfl ?_) | (refine WL.v (Gv.loadN rfl (by (repeat first | exact .here | apply At.there)) (by rfl) (by rfl)) (by kernel_rfl) rfl ?_) | (refine WL.v (Gv.loadG1 rfl (by assumption) rfl) (by kernel_rfl) rfl ?_) | (refine WL.v (Gv.loadG0 rfl (by assumption) rfl) (by kernel_rfl) rfl ?_) | (refine WL.v (Gv.loadGN rfl (by assumption) rfl) (by kernel_rfl) rfl ?_))
      (first | refine WL.p (Gp.eqI rfl rfl) (by kernel_rfl) rfl ?_ | refine WL.p (Gp.eqS rfl rfl) (by kernel_rfl) rfl ?_ | refine WL.p (Gp.nilSl rfl) (by kernel_rfl) rfl ?_ | refine WL.p (Gp.eqB rfl rfl) (by kernel_rfl) rfl ?_)
      refine WL.p (Gp.move rfl) (by kernel_rfl) rfl ?_
      generalize hb : (v.i == 0) = b
      cases b
      all_goals (first | refine WL.p (Gp.fieldAddr rfl) (by rfl) rfl ?_ | refine WL.skip (by rfl) rfl ?_)
      all_goals (first | (first | (refine WL.v (Gv.load1 rfl (by (repeat first | exact .here | apply At.there)) (by first | rfl | assumption)) (by rfl) rfl ?_) | (refine WL.v (Gv.loadN rfl (by (repeat first | exact .here | apply At.there)) (by rfl) (by rfl)) (by rfl) rfl ?_) | (refine WL.v (Gv.loadG1 rfl (by assumption) rfl) (by rfl) rfl ?_) | (refine WL.v (Gv.loadG0 rfl (by assumption) rfl) (by rfl) rfl ?_) | (refine WL.v (Gv.loadGN rfl (by assumption) rfl) (by rfl) rfl ?_)) | refine WL.skip (by rfl) rfl ?_)
      all_goals (first | (first | refine WL.p (Gp.eqI rfl rfl) (by rfl) rfl ?_ | refine WL.p (Gp.eqS rfl rfl) (by rfl) rfl ?_ | refine WL.p (Gp.nilSl rfl) (by rfl) rfl ?_ | refine WL.p (Gp.eqB rfl rfl) (by rfl) rfl ?_) | refine WL.skip (by rfl) rfl ?_)
      all_goals (first | (first | refine WL.p (Gp.pickT rfl rfl) (by rfl) rfl ?_ | refine WL.p (Gp.pickF rfl rfl) (by rfl) rfl ?_) | refine WL.skip (by rfl) rfl ?_)
      all_goals (first | refine WL.p (Gp.assign rfl) (by rfl) rfl ?_ | refine WL.skip (by rfl) rfl ?_)
      all_goals refine WL.nil ?_
      all_goals (refine WK.un ?_)
      all_goals refine WC.ret ?_
      all_goals (refine WK.un ?_)
      all_goals exact QF.ret1 (.inl rfl) rfl (.tmp rfl) (List.nil_sublist _) ⟨by simp [vOK, ht, hb], rfl, rfl⟩
    · -- no
      have ht2 : ¬ v.t = 2 := by simpa using hc
      refine WC.seq ?_
      refine WC.region ?_
      (first | refine WL.p (Gp.eqI rfl rfl) (by kernel_rfl) rfl ?_ | refine WL.p (Gp.eqS rfl rfl) (by kernel_rfl) rfl ?_ | refine WL.p (Gp.nilSl rfl) (by kernel_rfl) rfl ?_ | refine WL.p (Gp.eqB rfl rfl) (by kernel_rfl) rfl ?_)
      refine WL.p (Gp.assign rfl) (by kernel_rfl) rfl ?_
      refine WL.nil ?_
      refine WK.un ?_
      refine WC.cond rfl (fun hc => ?_) (fun hc => ?_)
      · -- yes
        have ht : v.t = 3 := by simpa using hc
        refine WC.seq ?_
        refine WC.region ?_
        refine WL.p (Gp.fieldAddr rfl) (by kernel_rfl) rfl ?_
        (first | (refine WL.v (Gv.load1 rfl (by (repeat first | exact .here | apply At.there)) (by first | rfl | assumption)) (by kernel_rfl) rfl ?_) | (refine WL.v (Gv.loadN rfl (by (repeat first | exact .here | apply At.there)) (by rfl) (by rfl)) (by kernel_rfl) rfl ?_) | (refine WL.v (Gv.loadG1 rfl (by assumption) rfl) (by kernel_rfl) rfl ?_) | (refine WL.v (Gv.loadG0 rfl (by assumption) rfl) (by kernel_rfl) rfl ?_) | (refine WL.v (Gv.loadGN rfl (by assumption) rfl) (by kernel_rfl) rfl ?_))
        (first | refine WL.p (Gp.eqI rfl rfl) (by kernel_rfl) rfl ?_ | refine WL.p (Gp.eqS rfl rfl) (by kernel_rfl) rfl ?_ | refine WL.p (Gp.nilSl rfl) (by kernel_rfl) rfl ?_ | refine WL.p (Gp.eqB rfl rfl) (by kernel_rfl) rfl ?_)
        refine WL.p (Gp.move rfl) (by kernel_rfl) rfl ?_
        generalize hb : (v.i == 0) = b
        generalize hb' : v.b = b'
        cases b <;> cases b'
        all_goals (first | refine WL.p (Gp.fieldAddr rfl) (by rfl) rfl ?_ | refine WL.skip (by rfl) rfl ?_)
        all_goals (first | (first | (refine WL.v (Gv.load1 rfl (by (repeat first | exact .here | apply At.there)) (by first | rfl | assumption)) (by rfl) rfl ?_) | (refine WL.v (Gv.loadN rfl (by (repeat first | exact .here | apply At.there)) (by rfl) (by rfl)) (by rfl) rfl ?_) | (refine WL.v (Gv.loadG1 rfl (by assumption) rfl) (by rfl) rfl ?_) | (refine WL.v (Gv.loadG0 rfl (by assumption) rfl) (by rfl) rfl ?_) | (refine WL.v (Gv.loadGN rfl (by assumption) rfl) (by rfl) rfl ?_)) | refine WL.skip (by rfl) rfl ?_)
        all_goals (first | refine WL.p (Gp.notB rfl) (by rfl) rfl ?_ | refine WL.skip (by rfl) rfl ?_)
        all_goals (first | (first | refine WL.p (Gp.pickT rfl rfl) (by rfl) rfl ?_ | refine WL.p (Gp.pickF rfl rfl) (by rfl) rfl ?_) | refine WL.skip (by rfl) rfl ?_)
        all_goals (first | refine WL.p (Gp.move rfl) (by rfl) rfl ?_ | refine WL.skip (by rfl) rfl ?_)
        all_goals (first | refine WL.p (Gp.fieldAddr rfl) (by rfl) rfl ?_ | refine WL.skip (by rfl) rfl ?_)
        all_goals (first | (first | (refine WL.v (Gv.load1 rfl (by (repeat first | exact .here | apply At.there)) (by first | rfl | assumption)) (by rfl) rfl ?_) | (refine WL.v (Gv.loadN rfl (by (repeat first | exact .here | apply At.there)) (by rfl) (by rfl)) (by rfl) rfl ?_) | (refine WL.v (Gv.loadG1 rfl (by assumption) rfl) (by rfl) rfl ?_) | (refine WL.v (Gv.loadG0 rfl (by assumption) rfl) (by rfl) rfl ?_) | (refine WL.v (Gv.loadGN rfl (by assumption) rfl) (by rfl) rfl ?_)) | refine WL.skip (by rfl) rfl ?_)
        all_goals (first | (first | refine WL.p (Gp.lenSl rfl) (by rfl) rfl ?_ | refine WL.p (Gp.lenS rfl) (by rfl) rfl ?_) | refine WL.skip (by rfl) rfl ?_)
        all_goals (first | (first | refine WL.p (Gp.leI rfl rfl) (by rfl) rfl ?_ | refine WL.p (Gp.leS rfl rfl) (by rfl) rfl ?_) | refine WL.skip (by rfl) rfl ?_)
        all_goals (first | (first | refine WL.p (Gp.pickT rfl rfl) (by rfl) rfl ?_ | refine WL.p (Gp.pickF rfl rfl) (by rfl) rfl ?_) | refine WL.skip (by rfl) rfl ?_)
        all_goals (first | refine WL.p (Gp.assign rfl) (by rfl) rfl ?_ | refine WL.skip (by rfl) rfl ?_)
        all_goals refine WL.nil ?_
        all_goals (refine WK.un ?_)
        all_goals refine WC.ret ?_
        all_goals (refine WK.un ?_)
        all_goals exact QF.ret1 (.inl rfl) rfl (.tmp rfl) (List.nil_sublist _) ⟨by simp [vOK, ht, hb, hb'], rfl, rfl⟩
      · -- no
        have ht3 : ¬ v.t = 3 := by simpa using hc
        refine WC.skip ?_
        refine WK.un ?_
        refine WC.seq ?_
        refine WC.region ?_
        refine WL.p (Gp.assign rfl) (by kernel_rfl) rfl ?_
        refine WL.nil ?_
        refine WK.un ?_
        refine WC.ret ?_
        (refine WK.un ?_)
        exact QF.ret1 (.inl rfl) rfl (.tmp rfl) (List.nil_sublist _) ⟨by simp [vOK, ht1, ht2, ht3], rfl, rfl⟩
end Go.Proofs.YtbfgljcjblfleaaGreatDoor.Gb
namespace Go.Proofs.YtbfgljcjblfleaaGreatDoor.Gb
open Go Go.Proofs
attribute [local irreducible] Tryz.prog
theorem nanI_fn (G : Gh) (x : Int) : Fn Tryz.prog 99 #[.int .i64 x] G [] fun e G' H' => e = .returned (.bool false) ∧ G = G' ∧ H' = [] := by
  refine Fn.enter Tryz.func99 rfl rfl fun w0 => ?_
  refine WC.seq ?_
  refine WC.region ?_
  refine WL.p (Gp.assign rfl) (by kernel_rfl) rfl ?_
  refine WL.nil ?_
  refine WK.un ?_
  refine WC.seq ?_
  refine WC.region ?_
  refine WL.p (Gp.move rfl) (by kernel_rfl) rfl ?_
  refine WL.p (Gp.move rfl) (by kernel_rfl) rfl ?_
  (first | refine WL.p (Gp.neI rfl rfl) (by kernel_rfl) rfl ?_ | refine WL.p (Gp.neS rfl rfl) (by kernel_rfl) rfl ?_ | refine WL.p (Gp.neB rfl rfl) (by kernel_rfl) rfl ?_)
  refine WL.p (Gp.assign rfl) (by kernel_rfl) rfl ?_
  refine WL.nil ?_
  refine WK.un ?_
  refine WC.ret ?_
  (refine WK.un ?_)
  exact QF.ret1 (.inl rfl) rfl (.tmp rfl) (List.nil_sublist _) ⟨by simp, rfl, rfl⟩
theorem nanS_fn (G : Gh) (x : ByteArray) : Fn Tryz.prog 100 #[.string x] G [] fun e G' H' => e = .returned (.bool false) ∧ G = G' ∧ H' = [] := by
  refine Fn.enter Tryz.func100 rfl rfl fun w0 => ?_
  refine WC.seq ?_
  refine WC.region ?_
  refine WL.p (Gp.assign rfl) (by kernel_rfl) rfl ?_
  refine WL.nil ?_
  refine WK.un ?_
  refine WC.seq ?_
  refine WC.region ?_
  refine WL.p (Gp.move rfl) (by kernel_rfl) rfl ?_
  refine WL.p (Gp.move rfl) (by kernel_rfl) rfl ?_
  (first | refine WL.p (Gp.neI rfl rfl) (by kernel_rfl) rfl ?_ | refine WL.p (Gp.neS rfl rfl) (by kernel_rfl) rfl ?_ | refine WL.p (Gp.neB rfl rfl) (by kernel_rfl) rfl ?_)
  refine WL.p (Gp.assign rfl) (by kernel_rfl) rfl ?_
  refine WL.nil ?_
  refine WK.un ?_
  refine WC.ret ?_
  (refine WK.un ?_)
  exact QF.ret1 (.inl rfl) rfl (.tmp rfl) (List.nil_sublist _) ⟨by rw [show (x == x) = true from by rw [beq_toListBytes]; simp]; rfl, rfl, rfl⟩
def cmpI (a b : Int) : Int := if a < b then -1 else if b < a then 1 else 0
def cmpS (a b : ByteArray) : Int := if Op.bytesLess a.toList b.toList then -1 else if Op.bytesLess b.toList a.toList then 1 else 0
theorem compareI_fn (G : Gh) (x y : Int) : Fn Tryz.prog 91 #[.int .i64 x, .int .i64 y] G [] fun e G' H' => e = .returned (.int .i64 (cmpI x y)) ∧ G = G' ∧ H' = [] := by
  refine Fn.enter Tryz.func91 rfl rfl fun w0 => ?_
  refine WC.seq ?_
  refine WC.region ?_
  refine WL.p (Gp.assign rfl) (by kernel_rfl) rfl ?_
  refine WL.nil ?_
  refine WK.un ?_
  refine WC.seq ?_
  refine WC.region ?_
  refine WL.p (Gp.move rfl) (by kernel_rfl) rfl ?_
  refine WL.op (by kernel_rfl) (OW.callR rfl (Hf := []) (List.Perm.refl _) (nanI_fn G _) rfl (by rintro e G' H' ⟨h, _⟩; exact ⟨_, h⟩) fun v' G' H' h hg => ?_)
  obtain ⟨he, rfl, rfl⟩ := h
  cases he
  refine WL.p (Gp.assign rfl) (by kernel_rfl) rfl ?_
  refine WL.nil ?_
  refine WK.un ?_
  refine WC.seq ?_
  refine WC.region ?_
  refine WL.p (Gp.move rfl) (by kernel_rfl) rfl ?_
  refine WL.op (by kernel_rfl) (OW.callR rfl (Hf := []) (List.Perm.refl _) (nanI_fn G _) rfl (by rintro e G' H' ⟨h, _⟩; exact ⟨_, h⟩) fun v' G' H' h hg => ?_)
  obtain ⟨he, rfl, rfl⟩ := h
  cases he
  refine WL.p (Gp.assign rfl) (by kernel_rfl) rfl ?_
  refine WL.nil ?_
  refine WK.un ?_
  refine WC.seq ?_
  refine WC.seq ?_
  refine WC.region ?_
  refine WL.p (Gp.move rfl) (by kernel_rfl) rfl ?_
  refine WL.nil ?_
  refine WK.un ?_
  refine WC.cond rfl (fun hc1 => ?_) (fun hc1 => ?_)
  · -- yes
    cases hc1
  · -- no
    refine WC.skip ?_
    refine WK.un ?_
    refine WC.seq ?_
    refine WC.seq ?_
    refine WC.region ?_
    refine WL.p (Gp.move rfl) (by kernel_rfl) rfl ?_
    refine WL.nil ?_
    refine WK.un ?_
    refine WC.cond rfl (fun hc3 => ?_) (fun hc3 => ?_)
    · cases hc3
    · -- no
      refine WC.skip ?_
      refine WK.un ?_
      refine WC.seq ?_
      refine WC.seq ?_
      refine WC.region ?_
      refine WL.p (Gp.move rfl) (by kernel_rfl) rfl ?_
      refine WL.p (Gp.move rfl) (by kernel_rfl) rfl ?_
      (first | refine WL.p (Gp.ltI rfl rfl) (by kernel_rfl) rfl ?_ | refine WL.p (Gp.ltS rfl rfl) (by kernel_rfl) rfl ?_)
      refine WL.nil ?_
      refine WK.un ?_
      refine WC.cond rfl (fun hc4 => ?_) (fun hc4 => ?_)
      · -- yes
        refine WC.seq ?_
        refine WC.region ?_
        refine WL.p (Gp.assign rfl) (by kernel_rfl) rfl ?_
        refine WL.nil ?_
        refine WK.un ?_
        refine WC.ret ?_
        (refine WK.un ?_)
        exact QF.ret1 (.inl rfl) rfl (.tmp rfl) (List.nil_sublist _) ⟨by simp_all [cmpI], rfl, rfl⟩
      · -- no
        refine WC.skip ?_
        refine WK.un ?_
        refine WC.seq ?_
        refine WC.seq ?_
        refine WC.region ?_
        refine WL.p (Gp.move rfl) (by kernel_rfl) rfl ?_
        refine WL.p (Gp.move rfl) (by kernel_rfl) rfl ?_
        (first | refine WL.p (Gp.gtI rfl rfl) (by kernel_rfl) rfl ?_ | refine WL.p (Gp.gtS rfl rfl) (by kernel_rfl) rfl ?_)
        refine WL.nil ?_
        refine WK.un ?_
        refine WC.cond rfl (fun hc5 => ?_) (fun hc5 => ?_)
        · -- yes
          refine WC.seq ?_
          refine WC.region ?_
          refine WL.p (Gp.assign rfl) (by kernel_rfl) rfl ?_
          refine WL.nil ?_
          refine WK.un ?_
          refine WC.ret ?_
          (refine WK.un ?_)
          exact QF.ret1 (.inl rfl) rfl (.tmp rfl) (List.nil_sublist _) ⟨by simp_all [cmpI], rfl, rfl⟩
        · -- no
          refine WC.skip ?_
          refine WK.un ?_
          refine WC.seq ?_
          refine WC.region ?_
          refine WL.p (Gp.assign rfl) (by kernel_rfl) rfl ?_
          refine WL.nil ?_
          refine WK.un ?_
          refine WC.ret ?_
          (refine WK.un ?_)
          exact QF.ret1 (.inl rfl) rfl (.tmp rfl) (List.nil_sublist _) ⟨by have h4 := hc4; have h5 := hc5; simp only [decide_eq_false_iff_not] at h4 h5; rw [cmpI, if_neg h4, if_neg h5], rfl, rfl⟩
theorem compareS_fn (G : Gh) (x y : ByteArray) : Fn Tryz.prog 92 #[.string x, .string y] G [] fun e G' H' => e = .returned (.int .i64 (cmpS x y)) ∧ G = G' ∧ H' = [] := by
  refine Fn.enter Tryz.func92 rfl rfl fun w0 => ?_
  refine WC.seq ?_
  refine WC.region ?_
  refine WL.p (Gp.assign rfl) (by kernel_rfl) rfl ?_
  refine WL.nil ?_
  refine WK.un ?_
  refine WC.seq ?_
  refine WC.region ?_
  refine WL.p (Gp.move rfl) (by kernel_rfl) rfl ?_
  refine WL.op (by kernel_rfl) (OW.callR rfl (Hf := []) (List.Perm.refl _) (nanS_fn G _) rfl (by rintro e G' H' ⟨h, _⟩; exact ⟨_, h⟩) fun v' G' H' h hg => ?_)
  obtain ⟨he, rfl, rfl⟩ := h
  cases he
  refine WL.p (Gp.assign rfl) (by kernel_rfl) rfl ?_
  refine WL.nil ?_
  refine WK.un ?_
  refine WC.seq ?_
  refine WC.region ?_
  refine WL.p (Gp.move rfl) (by kernel_rfl) rfl ?_
  refine WL.op (by kernel_rfl) (OW.callR rfl (Hf := []) (List.Perm.refl _) (nanS_fn G _) rfl (by rintro e G' H' ⟨h, _⟩; exact ⟨_, h⟩) fun v' G' H' h hg => ?_)
  obtain ⟨he, rfl, rfl⟩ := h
  cases he
  refine WL.p (Gp.assign rfl) (by kernel_rfl) rfl ?_
  refine WL.nil ?_
  refine WK.un ?_
  refine WC.seq ?_
  refine WC.seq ?_
  refine WC.region ?_
  refine WL.p (Gp.move rfl) (by kernel_rfl) rfl ?_
  refine WL.nil ?_
  refine WK.un ?_
  refine WC.cond rfl (fun hc1 => ?_) (fun hc1 => ?_)
  · -- yes
    cases hc1
  · -- no
    refine WC.skip ?_
    refine WK.un ?_
    refine WC.seq ?_
    refine WC.seq ?_
    refine WC.region ?_
    refine WL.p (Gp.move rfl) (by kernel_rfl) rfl ?_
    refine WL.nil ?_
    refine WK.un ?_
    refine WC.cond rfl (fun hc3 => ?_) (fun hc3 => ?_)
    · cases hc3
    · -- no
      refine WC.skip ?_
      refine WK.un ?_
      refine WC.seq ?_
      refine WC.seq ?_
      refine WC.region ?_
      refine WL.p (Gp.move rfl) (by kernel_rfl) rfl ?_
      refine WL.p (Gp.move rfl) (by kernel_rfl) rfl ?_
      (first | refine WL.p (Gp.ltI rfl rfl) (by kernel_rfl) rfl ?_ | refine WL.p (Gp.ltS rfl rfl) (by kernel_rfl) rfl ?_)
      refine WL.nil ?_
      refine WK.un ?_
      refine WC.cond rfl (fun hc4 => ?_) (fun hc4 => ?_)
      · -- yes
        refine WC.seq ?_
        refine WC.region ?_
        refine WL.p (Gp.assign rfl) (by kernel_rfl) rfl ?_
        refine WL.nil ?_
        refine WK.un ?_
        refine WC.ret ?_
        (refine WK.un ?_)
        exact QF.ret1 (.inl rfl) rfl (.tmp rfl) (List.nil_sublist _) ⟨by simp_all [cmpS], rfl, rfl⟩
      · -- no
        refine WC.skip ?_
        refine WK.un ?_
        refine WC.seq ?_
        refine WC.seq ?_
        refine WC.region ?_
        refine WL.p (Gp.move rfl) (by kernel_rfl) rfl ?_
        refine WL.p (Gp.move rfl) (by kernel_rfl) rfl ?_
        (first | refine WL.p (Gp.gtI rfl rfl) (by kernel_rfl) rfl ?_ | refine WL.p (Gp.gtS rfl rfl) (by kernel_rfl) rfl ?_)
        refine WL.nil ?_
        refine WK.un ?_
        refine WC.cond rfl (fun hc5 => ?_) (fun hc5 => ?_)
        · -- yes
          refine WC.seq ?_
          refine WC.region ?_
          refine WL.p (Gp.assign rfl) (by kernel_rfl) rfl ?_
          refine WL.nil ?_
          refine WK.un ?_
          refine WC.ret ?_
          (refine WK.un ?_)
          exact QF.ret1 (.inl rfl) rfl (.tmp rfl) (List.nil_sublist _) ⟨by simp_all [cmpS], rfl, rfl⟩
        · -- no
          refine WC.skip ?_
          refine WK.un ?_
          refine WC.seq ?_
          refine WC.region ?_
          refine WL.p (Gp.assign rfl) (by kernel_rfl) rfl ?_
          refine WL.nil ?_
          refine WK.un ?_
          refine WC.ret ?_
          (refine WK.un ?_)
          exact QF.ret1 (.inl rfl) rfl (.tmp rfl) (List.nil_sublist _) ⟨by simp_all [cmpS], rfl, rfl⟩
theorem or_fn (G : Gh) (b : Nat) (x y : Int) : Fn Tryz.prog 90 #[.slice (some ⟨b, 0, none⟩) 2 2] G [.blk b (.cells #[.int .i64 x, .int .i64 y] 3 (0, 0))] fun e G' H' => e = .returned (.int .i64 (if x = 0 then y else x)) ∧ G = G' ∧ H' = [] := by
  refine Fn.enter Tryz.func90 rfl rfl fun w0 => ?_
  refine WC.seq ?_
  refine WC.region ?_
  refine WL.p (Gp.assign rfl) (by kernel_rfl) rfl ?_
  refine WL.nil ?_
  refine WK.un ?_
  refine WC.seq ?_
  refine WC.region ?_
  refine WL.p (Gp.assign rfl) (by kernel_rfl) rfl ?_
  refine WL.nil ?_
  refine WK.un ?_
  refine WC.seq ?_
  refine WC.seq ?_
  refine WC.region ?_
  refine WL.p (Gp.move rfl) (by kernel_rfl) rfl ?_
  (first | refine WL.p (Gp.lenSl rfl) (by kernel_rfl) rfl ?_ | refine WL.p (Gp.lenS rfl) (by kernel_rfl) rfl ?_)
  refine WL.p (Gp.move rfl) (by kernel_rfl) rfl ?_
  refine WL.nil ?_
  refine WK.un ?_
  refine WC.block ?_  -- 0
  refine WC.loop (X := Nat) (fun i => [(3, .int .i64 0), (6, .slice (some ⟨b, 0, none⟩) 2 2), (7, .int .i64 2), (8, .int .i64 (i : Int))]) (fun _ => G) (fun _ => [.blk b (.cells #[.int .i64 x, .int .i64 y] 3 (0, 0))]) (fun i => 2 - i) (fun i => i ≤ 2 ∧ (1 ≤ i → x = 0) ∧ (2 ≤ i → y = 0)) 0 ⟨by omega, by omega, by omega⟩ (by exact ⟨rfl, rfl, rfl, rfl, trivial⟩) rfl (List.Sublist.refl _) fun x_1 hx => ?_
  refine WC.seq ?_
  refine WC.region ?_
  (first | refine WL.p (Gp.ltI rfl rfl) (by kernel_rfl) rfl ?_ | refine WL.p (Gp.ltS rfl rfl) (by kernel_rfl) rfl ?_)
  refine WL.nil ?_
  refine WK.un ?_
  refine WC.seq ?_
  obtain ⟨hi, hx0, hy0⟩ := hx
  refine WC.cond rfl (fun hc1 => ?_) (fun hc1 => ?_)
  · -- yes
    have hlt : x_1 < 2 := by have h := hc1; simp at h; omega
    refine WC.skip ?_
    refine WK.un ?_
    refine WC.seq ?_
    refine WC.block ?_  -- 1
    refine WC.seq ?_
    obtain ⟨z, hz, hz1, hz2⟩ : ∃ z : Int, (#[Value.int .i64 x, Value.int .i64 y])[0 + ((x_1 : Int)).toNat * 1]? = some (.int .i64 z) ∧ (z = 0 → (1 ≤ x_1 + 1 → x = 0) ∧ (2 ≤ x_1 + 1 → y = 0)) ∧ (z ≠ 0 → z = if x = 0 then y else x) := by
      rcases Nat.lt_or_ge x_1 1 with h | h
      · obtain rfl : x_1 = 0 := by omega
        exact ⟨x, rfl, fun h => ⟨fun _ => h, fun h' => by omega⟩, fun h => by rw [if_neg h]⟩
      · obtain rfl : x_1 = 1 := by omega
        exact ⟨y, rfl, fun h => ⟨fun _ => hx0 (by omega), fun _ => h⟩, fun h => by rw [if_pos (hx0 (by omega))]⟩
    refine WC.region ?_
    refine WL.p (Gp.indexAddr rfl rfl (by first | assumption | omega | decide) (by first | assumption | omega | decide | (simp only [List.length_cons, List.length_nil]; decide))) (by kernel_rfl) rfl ?_
    refine WL.v (Gv.load1 rfl .here hz) (by kernel_rfl) rfl ?_
    refine WL.p (Gp.assign rfl) (by kernel_rfl) rfl ?_
    refine WL.nil ?_
    refine WK.un ?_
    refine WC.seq ?_
    refine WC.region ?_
    refine WL.p (Gp.move rfl) (by kernel_rfl) rfl ?_
    refine WL.p (Gp.move rfl) (by kernel_rfl) rfl ?_
    (first | refine WL.p (Gp.neI rfl rfl) (by kernel_rfl) rfl ?_ | refine WL.p (Gp.neS rfl rfl) (by kernel_rfl) rfl ?_ | refine WL.p (Gp.neB rfl rfl) (by kernel_rfl) rfl ?_)
    refine WL.nil ?_
    refine WK.un ?_
    refine WC.cond rfl (fun hc2 => ?_) (fun hc2 => ?_)
    · -- yes
      refine WC.seq ?_
      refine WC.region ?_
      refine WL.p (Gp.move rfl) (by kernel_rfl) rfl ?_
      refine WL.p (Gp.assign rfl) (by kernel_rfl) rfl ?_
      refine WL.nil ?_
      refine WK.un ?_
      refine WC.ret ?_
      (refine WK.un ?_)
      exact QF.ret1 (.inl rfl) rfl (.tmp rfl) (List.nil_sublist _) ⟨by rw [hz2 (by simpa using hc2)], rfl, rfl⟩
    · -- no
      have hz0 : z = 0 := by simpa using hc2
      refine WC.skip ?_
      refine WK.un ?_
      refine WC.region ?_
      (first | refine WL.p (Gp.add rfl rfl) (by kernel_rfl) rfl ?_ | refine WL.p (Gp.addS rfl rfl (by first | assumption | omega)) (by kernel_rfl) rfl ?_)
      refine WL.p (Gp.move rfl) (by kernel_rfl) rfl ?_
      refine WL.nil ?_
      refine WK.un ?_
      exact WK.again (x_1 + 1) (by omega) ⟨by omega, (hz1 hz0).1, (hz1 hz0).2⟩ (by refine ⟨rfl, rfl, rfl, ?_, trivial⟩; show some _ = some _; rw [wrap_small (by omega) (by omega)]; rfl) rfl (List.Sublist.refl _)
  · -- no
    have hge : 2 ≤ x_1 := by have h := hc1; simp at h; omega
    refine WC.exit ?_
    refine WK.un ?_
    refine WC.seq ?_
    refine WC.region ?_
    refine WL.p (Gp.move rfl) (by kernel_rfl) rfl ?_
    refine WL.p (Gp.assign rfl) (by kernel_rfl) rfl ?_
    refine WL.nil ?_
    refine WK.un ?_
    refine WC.ret ?_
    (refine WK.un ?_)
    exact QF.ret1 (.inl rfl) rfl (.tmp rfl) (List.nil_sublist _) ⟨by rw [hx0 (by omega), hy0 hge]; rfl, rfl, rfl⟩
def reckonS (c a b : Int) : Option Int :=
  if c = 18 then some (IntKind.i64.wrap (a + b)) else if c = 19 then some (IntKind.i64.wrap (a - b)) else if c = 21 then some (IntKind.i64.wrap (a * b))
  else if c = 22 then (if b = 0 then none else some (IntKind.i64.wrap (a.tdiv b))) else if c = 23 then (if b = 0 then none else some (a.tmod b)) else none
theorem wrap_sub (a b : Int) : IntKind.i64.wrap (a + IntKind.i64.wrap (-b)) = IntKind.i64.wrap (a - b) := by simp only [IntKind.wrap_i64]; omega
theorem reckon_fn (G : Gh) (c a b : Int) : Fn Tryz.prog 76 #[.int .i64 c, .int .i64 a, .int .i64 b] G [] fun e G' H' => (match reckonS c a b with | some n => e = .returned (.int .i64 n) | none => e = halted 2) ∧ G = G' ∧ H' = [] := by
  refine Fn.enter Tryz.func76 rfl rfl fun w0 => ?_
  refine WC.seq ?_
  refine WC.region ?_
  refine WL.p (Gp.assign rfl) (by kernel_rfl) rfl ?_
  refine WL.nil ?_
  refine WK.un ?_
  refine WC.seq ?_
  refine WC.seq ?_
  refine WC.region ?_
  refine WL.p (Gp.move rfl) (by kernel_rfl) rfl ?_
  refine WL.nil ?_
  refine WK.un ?_
  refine WC.block ?_  -- 0
  refine WC.seq ?_
  refine WC.region ?_
  (first | refine WL.p (Gp.eqI rfl rfl) (by kernel_rfl) rfl ?_ | refine WL.p (Gp.eqS rfl rfl) (by kernel_rfl) rfl ?_ | refine WL.p (Gp.nilSl rfl) (by kernel_rfl) rfl ?_ | refine WL.p (Gp.eqB rfl rfl) (by kernel_rfl) rfl ?_)
  refine WL.p (Gp.assign rfl) (by kernel_rfl) rfl ?_
  refine WL.nil ?_
  refine WK.un ?_
  refine WC.cond rfl (fun hc1 => ?_) (fun hc1 => ?_)
  · -- yes
    refine WC.seq ?_
    refine WC.region ?_
    refine WL.p (Gp.move rfl) (by kernel_rfl) rfl ?_
    refine WL.p (Gp.move rfl) (by kernel_rfl) rfl ?_
    (first | refine WL.p (Gp.add rfl rfl) (by kernel_rfl) rfl ?_ | refine WL.p (Gp.addS rfl rfl (by first | assumption | omega)) (by kernel_rfl) rfl ?_)
    refine WL.p (Gp.assign rfl) (by kernel_rfl) rfl ?_
    refine WL.nil ?_
    refine WK.un ?_
    refine WC.ret ?_
    (refine WK.un ?_)
    exact QF.ret1 (.inl rfl) rfl (.tmp rfl) (List.nil_sublist _) ⟨by simp_all [reckonS], rfl, rfl⟩
  · -- no
    refine WC.seq ?_
    refine WC.region ?_
    (first | refine WL.p (Gp.eqI rfl rfl) (by kernel_rfl) rfl ?_ | refine WL.p (Gp.eqS rfl rfl) (by kernel_rfl) rfl ?_ | refine WL.p (Gp.nilSl rfl) (by kernel_rfl) rfl ?_ | refine WL.p (Gp.eqB rfl rfl) (by kernel_rfl) rfl ?_)
    refine WL.p (Gp.assign rfl) (by kernel_rfl) rfl ?_
    refine WL.nil ?_
    refine WK.un ?_
    refine WC.cond rfl (fun hc2 => ?_) (fun hc2 => ?_)
    · -- yes
      refine WC.seq ?_
      refine WC.region ?_
      refine WL.p (Gp.move rfl) (by kernel_rfl) rfl ?_
      refine WL.p (Gp.negI rfl) (by kernel_rfl) rfl ?_
      refine WL.p (Gp.assign rfl) (by kernel_rfl) rfl ?_
      refine WL.nil ?_
      refine WK.un ?_
      refine WC.seq ?_
      refine WC.region ?_
      refine WL.p (Gp.move rfl) (by kernel_rfl) rfl ?_
      refine WL.p (Gp.move rfl) (by kernel_rfl) rfl ?_
      (first | refine WL.p (Gp.add rfl rfl) (by kernel_rfl) rfl ?_ | refine WL.p (Gp.addS rfl rfl (by first | assumption | omega)) (by kernel_rfl) rfl ?_)
      refine WL.p (Gp.assign rfl) (by kernel_rfl) rfl ?_
      refine WL.nil ?_
      refine WK.un ?_
      refine WC.ret ?_
      (refine WK.un ?_)
      exact QF.ret1 (.inl rfl) rfl (.tmp rfl) (List.nil_sublist _) ⟨by simp_all [reckonS, wrap_sub], rfl, rfl⟩
    · -- no
      refine WC.seq ?_
      refine WC.region ?_
      (first | refine WL.p (Gp.eqI rfl rfl) (by kernel_rfl) rfl ?_ | refine WL.p (Gp.eqS rfl rfl) (by kernel_rfl) rfl ?_ | refine WL.p (Gp.nilSl rfl) (by kernel_rfl) rfl ?_ | refine WL.p (Gp.eqB rfl rfl) (by kernel_rfl) rfl ?_)
      refine WL.p (Gp.assign rfl) (by kernel_rfl) rfl ?_
      refine WL.nil ?_
      refine WK.un ?_
      refine WC.cond rfl (fun hc3 => ?_) (fun hc3 => ?_)
      · -- yes
        refine WC.seq ?_
        refine WC.region ?_
        refine WL.p (Gp.move rfl) (by kernel_rfl) rfl ?_
        refine WL.p (Gp.move rfl) (by kernel_rfl) rfl ?_
        refine WL.p (Gp.mul rfl rfl) (by kernel_rfl) rfl ?_
        refine WL.p (Gp.assign rfl) (by kernel_rfl) rfl ?_
        refine WL.nil ?_
        refine WK.un ?_
        refine WC.ret ?_
        (refine WK.un ?_)
        exact QF.ret1 (.inl rfl) rfl (.tmp rfl) (List.nil_sublist _) ⟨by simp_all [reckonS], rfl, rfl⟩
      · -- no
        refine WC.seq ?_
        refine WC.region ?_
        (first | refine WL.p (Gp.eqI rfl rfl) (by kernel_rfl) rfl ?_ | refine WL.p (Gp.eqS rfl rfl) (by kernel_rfl) rfl ?_ | refine WL.p (Gp.nilSl rfl) (by kernel_rfl) rfl ?_ | refine WL.p (Gp.eqB rfl rfl) (by kernel_rfl) rfl ?_)
        refine WL.p (Gp.assign rfl) (by kernel_rfl) rfl ?_
        refine WL.nil ?_
        refine WK.un ?_
        refine WC.cond rfl (fun hc4 => ?_) (fun hc4 => ?_)
        · -- yes
          refine WC.seq ?_
          refine WC.region ?_
          refine WL.p (Gp.move rfl) (by kernel_rfl) rfl ?_
          (first | refine WL.p (Gp.neI rfl rfl) (by kernel_rfl) rfl ?_ | refine WL.p (Gp.neS rfl rfl) (by kernel_rfl) rfl ?_ | refine WL.p (Gp.neB rfl rfl) (by kernel_rfl) rfl ?_)
          refine WL.nil ?_
          refine WK.un ?_
          refine WC.cond rfl (fun hc5 => ?_) (fun hc5 => ?_)
          · -- yes
            refine WC.seq ?_
            refine WC.region ?_
            refine WL.p (Gp.move rfl) (by kernel_rfl) rfl ?_
            refine WL.p (Gp.move rfl) (by kernel_rfl) rfl ?_
            refine WL.p (Gp.quo rfl rfl (by simpa using ‹(b != 0) = true›)) (by kernel_rfl) rfl ?_
            refine WL.p (Gp.assign rfl) (by kernel_rfl) rfl ?_
            refine WL.nil ?_
            refine WK.un ?_
            refine WC.ret ?_
            (refine WK.un ?_)
            exact QF.ret1 (.inl rfl) rfl (.tmp rfl) (List.nil_sublist _) ⟨by simp_all [reckonS], rfl, rfl⟩
          · -- no
            refine WC.skip ?_
            refine WK.un ?_
            refine WC.region ?_
            refine WL.p (Gp.build rfl rfl) (by kernel_rfl) rfl ?_
            refine WL.p (Gp.mkIface rfl (by kernel_rfl)) (by kernel_rfl) rfl ?_
            refine WL.op (by kernel_rfl) (OW.panic rfl ?_)
            refine WK.un ?_
            exact QF.panic (List.nil_sublist _) ⟨by simp_all [reckonS, halted]; rfl, rfl, rfl⟩
        · -- no
          refine WC.seq ?_
          refine WC.region ?_
          (first | refine WL.p (Gp.eqI rfl rfl) (by kernel_rfl) rfl ?_ | refine WL.p (Gp.eqS rfl rfl) (by kernel_rfl) rfl ?_ | refine WL.p (Gp.nilSl rfl) (by kernel_rfl) rfl ?_ | refine WL.p (Gp.eqB rfl rfl) (by kernel_rfl) rfl ?_)
          refine WL.p (Gp.assign rfl) (by kernel_rfl) rfl ?_
          refine WL.nil ?_
          refine WK.un ?_
          refine WC.cond rfl (fun hc6 => ?_) (fun hc6 => ?_)
          · -- yes
            refine WC.seq ?_
            refine WC.region ?_
            refine WL.p (Gp.move rfl) (by kernel_rfl) rfl ?_
            (first | refine WL.p (Gp.neI rfl rfl) (by kernel_rfl) rfl ?_ | refine WL.p (Gp.neS rfl rfl) (by kernel_rfl) rfl ?_ | refine WL.p (Gp.neB rfl rfl) (by kernel_rfl) rfl ?_)
            refine WL.nil ?_
            refine WK.un ?_
            refine WC.cond rfl (fun hc7 => ?_) (fun hc7 => ?_)
            · -- yes
              refine WC.seq ?_
              refine WC.region ?_
              refine WL.p (Gp.move rfl) (by kernel_rfl) rfl ?_
              refine WL.p (Gp.move rfl) (by kernel_rfl) rfl ?_
              refine WL.p (Gp.rem rfl rfl (by simpa using ‹(b != 0) = true›)) (by kernel_rfl) rfl ?_
              refine WL.p (Gp.assign rfl) (by kernel_rfl) rfl ?_
              refine WL.nil ?_
              refine WK.un ?_
              refine WC.ret ?_
              (refine WK.un ?_)
              exact QF.ret1 (.inl rfl) rfl (.tmp rfl) (List.nil_sublist _) ⟨by simp_all [reckonS], rfl, rfl⟩
            · -- no
              refine WC.skip ?_
              refine WK.un ?_
              refine WC.region ?_
              refine WL.p (Gp.build rfl rfl) (by kernel_rfl) rfl ?_
              refine WL.p (Gp.mkIface rfl (by kernel_rfl)) (by kernel_rfl) rfl ?_
              refine WL.op (by kernel_rfl) (OW.panic rfl ?_)
              refine WK.un ?_
              exact QF.panic (List.nil_sublist _) ⟨by simp_all [reckonS, halted]; rfl, rfl, rfl⟩
          · -- no
            refine WC.skip ?_
            refine WK.un ?_
            refine WC.region ?_
            refine WL.p (Gp.build rfl rfl) (by kernel_rfl) rfl ?_
            refine WL.p (Gp.mkIface rfl (by kernel_rfl)) (by kernel_rfl) rfl ?_
            refine WL.op (by kernel_rfl) (OW.panic rfl ?_)
            refine WK.un ?_
            exact QF.panic (List.nil_sublist _) ⟨by simp_all [reckonS, halted]; rfl, rfl, rfl⟩
end Go.Proofs.YtbfgljcjblfleaaGreatDoor.Gb
namespace Go.Proofs.YtbfgljcjblfleaaGreatDoor.Gb
open Go Go.Proofs
attribute [local irreducible] Tryz.prog
abbrev frB (b : Nat) (A : Option Addr) (n cap : Nat) (p a : Int) (B : Option Addr) (m cm : Nat) : Own := .blk b (.cells (frC A n cap p a B m cm) 76 (0, 0))
abbrev VVec (A : Option Addr) (cap : Nat) (l : List V) (x : Own) : Prop := Vec 49 4 A l.length cap (vflat l) x
def Left (b : Nat) (H : List Own) : Prop := ∃ c : Array Value, c.size = 4 ∧ H = [.blk b (.cells c 76 (0, 0))]
theorem Left.of (b : Nat) (A : Option Addr) (n cap : Nat) (p a : Int) (B : Option Addr) (m cm : Nat) : Left b [frB b A n cap p a B m cm] := ⟨_, rfl, rfl⟩
theorem lay_ok (G : Gh) (mv : Value) (b : Nat) (A : Option Addr) (cap : Nat) (p a : Int) (B : Option Addr) (m cm : Nat) (l : List V) (x : Own) (v : V) (hv : VVec A cap l x) (hb : l.length < 128) :
    Fn Tryz.prog 56 #[mv, .pointer (some ⟨b, 0, none⟩), .agg #[.int .i64 v.t, .int .i64 v.i, .bool v.b, .string v.s]] G [frB b A l.length cap p a B m cm, x]
      fun e G' H' => ∃ A' cap' x', e = .returned (.tuple #[]) ∧ G = G' ∧ H' = [frB b A' (l ++ [v]).length cap' p a B m cm, x'] ∧ VVec A' cap' (l ++ [v]) x' := by
  refine Fn.enter Tryz.func56 rfl rfl fun w0 => ?_
  refine WC.seq ?_
  refine WC.region ?_
  refine WL.op (by kernel_rfl) (OW.box rfl rfl fun b1 => ?_)
  refine WL.nil ?_
  refine WK.un ?_
  refine WC.seq ?_
  refine WC.region ?_
  refine WL.p (Gp.move rfl) (by kernel_rfl) rfl ?_
  refine WL.p (Gp.nilCheck rfl) (by kernel_rfl) rfl ?_
  refine WL.p (Gp.fieldAddr rfl) (by kernel_rfl) rfl ?_
  refine WL.op (by kernel_rfl) (OW.callR rfl (perm_at (.there .here)) (high_fn G _ _ _ _ _ _ _ _ _) rfl (by rintro e G' H' ⟨h, _⟩; exact ⟨_, h⟩) fun v' G' H' h hg => ?_)
  obtain ⟨he, rfl, rfl⟩ := h
  cases he
  (first | refine WL.p (Gp.ltI rfl rfl) (by kernel_rfl) rfl ?_ | refine WL.p (Gp.ltS rfl rfl) (by kernel_rfl) rfl ?_)
  rw [show decide ((l.length : Int) < 128) = true by simp; omega]
  refine WL.op (by kernel_rfl) (OW.callR rfl (Hf := []) (List.Perm.refl _) (need_ok G) rfl (by rintro e G' H' ⟨h, _⟩; exact ⟨_, h⟩) fun v' G' H' h hg => ?_)
  obtain ⟨he, rfl, rfl⟩ := h
  cases he
  refine WL.nil ?_
  refine WK.un ?_
  refine WC.draw mixed ?_
  refine WA.tp (i := 0) rfl (by kernel_rfl) (by kernel_rfl) rfl (Gp.move rfl) ?_
  refine WA.tp (i := 1) rfl (by kernel_rfl) (by kernel_rfl) rfl (Gp.nilCheck rfl) ?_
  refine WA.tp (i := 2) rfl (by kernel_rfl) (by kernel_rfl) rfl (Gp.fieldAddr rfl) ?_
  (first | (refine WA.tv (i := 3) rfl (by kernel_rfl) (by kernel_rfl) rfl (Gv.load1 rfl (by (repeat first | exact .here | apply At.there)) (by first | rfl | assumption)) ?_) | (refine WA.tv (i := 3) rfl (by kernel_rfl) (by kernel_rfl) rfl (Gv.loadN rfl (by (repeat first | exact .here | apply At.there)) (by rfl) (by rfl)) ?_) | (refine WA.tv (i := 3) rfl (by kernel_rfl) (by kernel_rfl) rfl (Gv.loadG1 rfl (by assumption) rfl) ?_) | (refine WA.tv (i := 3) rfl (by kernel_rfl) (by kernel_rfl) rfl (Gv.loadG0 rfl (by assumption) rfl) ?_) | (refine WA.tv (i := 3) rfl (by kernel_rfl) (by kernel_rfl) rfl (Gv.loadGN rfl (by assumption) rfl) ?_))
  refine WA.one (i := 4) (by kernel_rfl) rfl (by kernel_rfl) (OW.callR rfl (Hf := [frB b A l.length cap p a B m cm, x]) (F := [.blk b1 _]) (List.Perm.cons _ (List.Perm.swap _ _ _)) (push_fn G b A l.length cap p a B m cm (vflat l) x v hv (by omega)) rfl (by rintro e G' H' ⟨_, _, _, h, _⟩; exact ⟨_, h⟩) fun v' G' H' h hg => ?_)
  obtain ⟨A', cap', x', he, rfl, rfl, hv'⟩ := h
  cases he
  refine WA.done (by kernel_rfl) ?_
  refine WK.un ?_
  exact QF.ret0 (.inr rfl) rfl (H' := [frB b A' (l.length + 1) cap' p a B m cm, x']) (by exact .cons_cons _ (.cons_cons _ (List.nil_sublist _))) ⟨A', cap', x', rfl, rfl, by simp, by
    have e1 : vflat (l ++ [v]) = vflat l ++ vcells v := by rw [vflat_append]; simp [vflat]
    have e2 : (l ++ [v]).length = l.length + 1 := by simp
    unfold VVec; rw [e1, e2]; exact hv'⟩
theorem lay_no (G : Gh) (mv : Value) (b : Nat) (A : Option Addr) (n cap : Nat) (p a : Int) (B : Option Addr) (m cm : Nat) (vv : Value) (hb : 128 ≤ n) :
    Fn Tryz.prog 56 #[mv, .pointer (some ⟨b, 0, none⟩), vv] G [frB b A n cap p a B m cm]
      fun e G' H' => e = halted 6 ∧ G = G' ∧ Left b H' := by
  refine Fn.enter Tryz.func56 rfl rfl fun w0 => ?_
  refine WC.seq ?_
  refine WC.region ?_
  refine WL.op (by kernel_rfl) (OW.box rfl rfl fun b1 => ?_)
  refine WL.nil ?_
  refine WK.un ?_
  refine WC.seq ?_
  refine WC.region ?_
  refine WL.p (Gp.move rfl) (by kernel_rfl) rfl ?_
  refine WL.p (Gp.nilCheck rfl) (by kernel_rfl) rfl ?_
  refine WL.p (Gp.fieldAddr rfl) (by kernel_rfl) rfl ?_
  refine WL.op (by kernel_rfl) (OW.callR rfl (perm_at (.there .here)) (high_fn G _ _ _ _ _ _ _ _ _) rfl (by rintro e G' H' ⟨h, _⟩; exact ⟨_, h⟩) fun v' G' H' h hg => ?_)
  obtain ⟨he, rfl, rfl⟩ := h
  cases he
  (first | refine WL.p (Gp.ltI rfl rfl) (by kernel_rfl) rfl ?_ | refine WL.p (Gp.ltS rfl rfl) (by kernel_rfl) rfl ?_)
  rw [show decide ((n : Int) < 128) = false by simp; omega]
  refine WL.op (by kernel_rfl) (OW.call rfl (Hf := []) (List.Perm.refl _) (need_no G) rfl (fun v G' H' h _ => by cases h.1) (fun ch G' H' h _ => ?_) (fun G' H' h => by cases h.1))
  obtain ⟨he, rfl, rfl⟩ := h
  cases he
  refine WK.un ?_
  exact QF.panic (H' := [frB b A n cap p a B m cm]) (by exact .cons_cons _ (List.nil_sublist _)) ⟨rfl, rfl, Left.of ..⟩
theorem take_ok (G : Gh) (mv : Value) (b : Nat) (A : Option Addr) (cap : Nat) (p a : Int) (B : Option Addr) (m cm : Nat) (l1 l2 : List V) (x : Own) (hv : VVec A cap (l1 ++ l2) x) (hb : l1.length + l2.length ≤ 1000000000) :
    Fn Tryz.prog 57 #[mv, .pointer (some ⟨b, 0, none⟩), .int .i64 l2.length] G [frB b A (l1 ++ l2).length cap p a B m cm, x]
      fun e G' H' => ∃ A' cap' x', e = .returned (.slice A' l2.length cap') ∧ G = G' ∧ H' = [x', frB b A l1.length cap p a B m cm, x] ∧ VVec A' cap' l2 x' ∧ VVec A cap l1 x := by
  have e0 : (l1 ++ l2).length = l1.length + l2.length := List.length_append
  rw [e0]
  unfold VVec at hv
  rw [e0] at hv
  refine Fn.enter Tryz.func57 rfl rfl fun w0 => ?_
  refine WC.seq ?_
  refine WC.region ?_
  refine WL.p (Gp.assign rfl) (by kernel_rfl) rfl ?_
  refine WL.nil ?_
  refine WK.un ?_
  refine WC.seq ?_
  refine WC.region ?_
  refine WL.p (Gp.move rfl) (by kernel_rfl) rfl ?_
  refine WL.p (Gp.nilCheck rfl) (by kernel_rfl) rfl ?_
  refine WL.p (Gp.fieldAddr rfl) (by kernel_rfl) rfl ?_
  refine WL.op (by kernel_rfl) (OW.callR rfl (perm_at .here) (high_fn G _ _ _ _ _ _ _ _ _) rfl (by rintro e G' H' ⟨h, _⟩; exact ⟨_, h⟩) fun v' G' H' h hg => ?_)
  obtain ⟨he, rfl, rfl⟩ := h
  cases he
  refine WL.p (Gp.move rfl) (by kernel_rfl) rfl ?_
  (first | refine WL.p (Gp.geI rfl rfl) (by kernel_rfl) rfl ?_ | refine WL.p (Gp.geS rfl rfl) (by kernel_rfl) rfl ?_)
  rw [show decide ((l2.length : Int) ≤ ((l1.length + l2.length : Nat) : Int)) = true by simp; omega]
  refine WL.op (by kernel_rfl) (OW.callR rfl (Hf := []) (List.Perm.refl _) (need_ok G) rfl (by rintro e G' H' ⟨h, _⟩; exact ⟨_, h⟩) fun v' G' H' h hg => ?_)
  obtain ⟨he, rfl, rfl⟩ := h
  cases he
  refine WL.nil ?_
  refine WK.un ?_
  refine WC.seq ?_
  refine WC.region ?_
  refine WL.p (Gp.move rfl) (by kernel_rfl) rfl ?_
  refine WL.p (Gp.nilCheck rfl) (by kernel_rfl) rfl ?_
  refine WL.p (Gp.fieldAddr rfl) (by kernel_rfl) rfl ?_
  refine WL.p (Gp.move rfl) (by kernel_rfl) rfl ?_
  refine WL.op (by kernel_rfl) (OW.callR rfl (perm_all _) (pop_fn G b A cap p a B m cm l1 l2 x hv hb) rfl (by rintro e G' H' ⟨_, _, _, h, _⟩; exact ⟨_, h⟩) fun v' G' H' h hg => ?_)
  obtain ⟨A', cap', x', he, rfl, rfl, hv1, hv2⟩ := h
  cases he
  refine WL.p (Gp.assign rfl) (by kernel_rfl) rfl ?_
  refine WL.nil ?_
  refine WK.un ?_
  refine WC.ret ?_
  (refine WK.un ?_)
  exact QF.ret1 (.inl rfl) rfl (.tmp rfl) (List.Sublist.refl _) ⟨A', cap', x', rfl, rfl, rfl, hv1, hv2⟩
theorem take_no (G : Gh) (mv : Value) (b : Nat) (A : Option Addr) (n cap : Nat) (p a : Int) (B : Option Addr) (m cm : Nat) (k : Int) (hb : (n : Int) < k) :
    Fn Tryz.prog 57 #[mv, .pointer (some ⟨b, 0, none⟩), .int .i64 k] G [frB b A n cap p a B m cm]
      fun e G' H' => e = halted 6 ∧ G = G' ∧ Left b H' := by
  refine Fn.enter Tryz.func57 rfl rfl fun w0 => ?_
  refine WC.seq ?_
  refine WC.region ?_
  refine WL.p (Gp.assign rfl) (by kernel_rfl) rfl ?_
  refine WL.nil ?_
  refine WK.un ?_
  refine WC.seq ?_
  refine WC.region ?_
  refine WL.p (Gp.move rfl) (by kernel_rfl) rfl ?_
  refine WL.p (Gp.nilCheck rfl) (by kernel_rfl) rfl ?_
  refine WL.p (Gp.fieldAddr rfl) (by kernel_rfl) rfl ?_
  refine WL.op (by kernel_rfl) (OW.callR rfl (perm_at .here) (high_fn G _ _ _ _ _ _ _ _ _) rfl (by rintro e G' H' ⟨h, _⟩; exact ⟨_, h⟩) fun v' G' H' h hg => ?_)
  obtain ⟨he, rfl, rfl⟩ := h
  cases he
  refine WL.p (Gp.move rfl) (by kernel_rfl) rfl ?_
  (first | refine WL.p (Gp.geI rfl rfl) (by kernel_rfl) rfl ?_ | refine WL.p (Gp.geS rfl rfl) (by kernel_rfl) rfl ?_)
  rw [show decide (k ≤ (n : Int)) = false by simp; omega]
  refine WL.op (by kernel_rfl) (OW.call rfl (Hf := []) (List.Perm.refl _) (need_no G) rfl (fun v G' H' h _ => by cases h.1) (fun ch G' H' h _ => ?_) (fun G' H' h => by cases h.1))
  obtain ⟨he, rfl, rfl⟩ := h
  cases he
  refine WK.un ?_
  exact QF.panic (H' := [frB b A n cap p a B m cm]) (List.Sublist.refl _) ⟨rfl, rfl, Left.of ..⟩
end Go.Proofs.YtbfgljcjblfleaaGreatDoor.Gb
namespace Go.Proofs.YtbfgljcjblfleaaGreatDoor.Gb
open Go Go.Proofs
attribute [local irreducible] Tryz.prog
theorem vflat_elem : ∀ (l : List V) (i : Nat) (v : V), l[i]? = some v → ((vflat l).drop (i * 4)).take 4 = vcells v
  | [], i, v, h => by simp at h
  | u :: l, 0, v, h => by simp at h; subst h; simp [vflat, vcells]
  | u :: l, i + 1, v, h => by
    have ih := vflat_elem l i v (by simpa using h)
    have e : vflat (u :: l) = vcells u ++ vflat l := by simp [vflat]
    rw [e, List.drop_append, List.drop_eq_nil_of_le (by simp [vcells]; omega), List.nil_append]
    rw [show (i + 1) * 4 - (vcells u).length = i * 4 by simp [vcells]; omega]
    exact ih
theorem take_drop_of_take {α : Type} (c l : List α) (n i k : Nat) (h : c.take n = l) (hk : i + k ≤ n) : (c.drop i).take k = (l.drop i).take k := by
  subst h
  apply List.ext_getElem?
  intro j
  simp only [List.getElem?_take, List.getElem?_drop]
  by_cases hj : j < k
  · simp [hj, show i + j < n by omega]
  · simp [hj]
theorem VVec.elem {A : Option Addr} {cap : Nat} {l : List V} {b : Nat} {c : Array Value} {i : Nat} {v : V} (hl : c.toList.take (l.length * 4) = vflat l) (hi : l[i]? = some v) : (c.toList.drop (0 + ((i : Nat) : Int).toNat * 4)).take 4 = vcells v := by
  have hlt : i < l.length := (List.getElem?_eq_some_iff.1 hi).1
  rw [Int.toNat_natCast, Nat.zero_add, take_drop_of_take _ _ _ _ _ hl (by omega)]
  exact vflat_elem l i v hi
theorem typed_fnQ (G : Gh) (mv : Value) (b : Nat) (A : Option Addr) (cap : Nat) (p a : Int) (B : Option Addr) (m cm : Nat) (l1 l2 : List V) (x : Own) (t : Int) (hv : VVec A cap (l1 ++ l2) x) (hb : l1.length + l2.length ≤ 1000000000) :
    Fn Tryz.prog 58 #[mv, .pointer (some ⟨b, 0, none⟩), .int .i64 l2.length, .int .i64 t] G [frB b A (l1 ++ l2).length cap p a B m cm, x]
      fun e G' H' => G = G' ∧ ((∃ A' cap' x', e = .returned (.slice A' l2.length cap') ∧ (∀ v ∈ l2, v.t = t) ∧ H' = [x', frB b A l1.length cap p a B m cm, x] ∧ VVec A' cap' l2 x' ∧ VVec A cap l1 x) ∨ (e = halted 6 ∧ (∃ v ∈ l2, v.t ≠ t) ∧ Left b H')) := by
  refine Fn.enter Tryz.func58 rfl rfl fun w0 => ?_
  refine WC.seq ?_
  refine WC.region ?_
  refine WL.p (Gp.assign rfl) (by kernel_rfl) rfl ?_
  refine WL.nil ?_
  refine WK.un ?_
  refine WC.seq ?_
  refine WC.region ?_
  refine WL.p (Gp.move rfl) (by kernel_rfl) rfl ?_
  refine WL.p (Gp.move rfl) (by kernel_rfl) rfl ?_
  refine WL.p (Gp.move rfl) (by kernel_rfl) rfl ?_
  refine WL.op (by kernel_rfl) (OW.callR rfl (perm_all _) (take_ok G mv b A cap p a B m cm l1 l2 x hv hb) rfl (by rintro e G' H' ⟨_, _, _, h, _⟩; exact ⟨_, h⟩) fun v' G' H' h hg => ?_)
  obtain ⟨A', cap', x', he, rfl, rfl, hv1, hv2⟩ := h
  cases he
  refine WL.p (Gp.assign rfl) (by kernel_rfl) rfl ?_
  refine WL.nil ?_
  refine WK.un ?_
  refine WC.seq ?_
  refine WC.seq ?_
  refine WC.region ?_
  refine WL.p (Gp.move rfl) (by kernel_rfl) rfl ?_
  (first | refine WL.p (Gp.lenSl rfl) (by kernel_rfl) rfl ?_ | refine WL.p (Gp.lenS rfl) (by kernel_rfl) rfl ?_)
  refine WL.p (Gp.move rfl) (by kernel_rfl) rfl ?_
  refine WL.nil ?_
  refine WK.un ?_
  refine WC.block ?_  -- 0
  refine WC.loop (X := Nat) (fun i => [(18, .int .i64 (i : Int)), (17, .int .i64 l2.length), (16, .slice A' l2.length cap'), (9, .slice A' l2.length cap'), (3, .int .i64 t)]) (fun _ => G) (fun _ => [x', frB b A l1.length cap p a B m cm, x]) (fun i => l2.length - i) (fun i => i ≤ l2.length ∧ ∀ j u, j < i → l2[j]? = some u → u.t = t) 0 ⟨Nat.zero_le _, fun j u h => by omega⟩ (by exact ⟨rfl, rfl, rfl, rfl, rfl, trivial⟩) rfl (List.Sublist.refl _) fun i hx => ?_
  obtain ⟨hi, hall⟩ := hx
  refine WC.seq ?_
  refine WC.region ?_
  (first | refine WL.p (Gp.ltI rfl rfl) (by kernel_rfl) rfl ?_ | refine WL.p (Gp.ltS rfl rfl) (by kernel_rfl) rfl ?_)
  refine WL.nil ?_
  refine WK.un ?_
  refine WC.seq ?_
  refine WC.cond rfl (fun hc2 => ?_) (fun hc2 => ?_)
  · -- yes
    have hlt : i < l2.length := by have h := hc2; simp at h; omega
    obtain ⟨v, hvi⟩ : ∃ v, l2[i]? = some v := ⟨_, List.getElem?_eq_getElem hlt⟩
    refine WC.skip ?_
    refine WK.un ?_
    refine WC.seq ?_
    refine WC.block ?_  -- 1
    refine WC.seq ?_
    refine WC.region ?_
    obtain ⟨hl, ⟨h1, h2, h3, h4⟩ | ⟨b', c, rfl, rfl, h1, h2, h3⟩⟩ := hv1
    · omega
    refine WL.p (Gp.indexAddr rfl rfl (by first | assumption | omega | decide) (by first | assumption | omega | decide | (simp only [List.length_cons, List.length_nil]; decide))) (by kernel_rfl) rfl ?_
    refine WL.v (Gv.loadN rfl .here (VVec.elem (A := none) (cap := 0) (b := 0) h3 hvi) rfl) (by kernel_rfl) rfl ?_
    refine WL.op (by kernel_rfl) (OW.alloc rfl fun b3 => ?_)
    refine WL.op (by kernel_rfl) (OW.store rfl rfl (by (repeat first | exact .here | apply At.there)) rfl (by rfl) (by rfl) (by kernel_rfl) (by rfl) ?_ rfl)
    refine WL.nil ?_
    refine WK.un ?_
    refine WC.region ?_
    refine WL.p (Gp.fieldAddr rfl) (by kernel_rfl) rfl ?_
    (first | (refine WL.v (Gv.load1 rfl (by (repeat first | exact .here | apply At.there)) (by first | rfl | assumption)) (by kernel_rfl) rfl ?_) | (refine WL.v (Gv.loadN rfl (by (repeat first | exact .here | apply At.there)) (by rfl) (by rfl)) (by kernel_rfl) rfl ?_) | (refine WL.v (Gv.loadG1 rfl (by assumption) rfl) (by kernel_rfl) rfl ?_) | (refine WL.v (Gv.loadG0 rfl (by assumption) rfl) (by kernel_rfl) rfl ?_) | (refine WL.v (Gv.loadGN rfl (by assumption) rfl) (by kernel_rfl) rfl ?_))
    refine WL.p (Gp.move rfl) (by kernel_rfl) rfl ?_
    (first | refine WL.p (Gp.eqI rfl rfl) (by kernel_rfl) rfl ?_ | refine WL.p (Gp.eqS rfl rfl) (by kernel_rfl) rfl ?_ | refine WL.p (Gp.nilSl rfl) (by kernel_rfl) rfl ?_ | refine WL.p (Gp.eqB rfl rfl) (by kernel_rfl) rfl ?_)
    by_cases ht : v.t = t
    · rw [show (v.t == t) = true by simpa using ht]
      refine WL.op (by kernel_rfl) (OW.callR rfl (Hf := []) (List.Perm.refl _) (need_ok G) rfl (by rintro e G' H' ⟨h, _⟩; exact ⟨_, h⟩) fun v' G' H' h hg => ?_)
      obtain ⟨he, rfl, rfl⟩ := h
      cases he
      refine WL.nil ?_
      refine WK.un ?_
      refine WC.region ?_
      (first | refine WL.p (Gp.add rfl rfl) (by kernel_rfl) rfl ?_ | refine WL.p (Gp.addS rfl rfl (by first | assumption | omega)) (by kernel_rfl) rfl ?_)
      refine WL.p (Gp.move rfl) (by kernel_rfl) rfl ?_
      refine WL.nil ?_
      refine WK.un ?_
      exact WK.again (i + 1) (by omega) ⟨by omega, fun j u hj hu => by
        rcases Nat.lt_or_ge j i with h | h
        · exact hall j u h hu
        · obtain rfl : j = i := by omega
          rw [hvi] at hu; cases hu; exact ht⟩ (by refine ⟨?_, rfl, rfl, rfl, rfl, trivial⟩; show some _ = some _; rw [wrap_small (by omega) (by omega)]; rfl) rfl (by exact .cons _ (List.Sublist.refl _))
    · rw [show (v.t == t) = false by simpa using ht]
      refine WL.op (by kernel_rfl) (OW.call rfl (Hf := []) (List.Perm.refl _) (need_no G) rfl (fun v G' H' h _ => by cases h.1) (fun ch G' H' h _ => ?_) (fun G' H' h => by cases h.1))
      obtain ⟨he, rfl, rfl⟩ := h
      cases he
      refine WK.un ?_
      exact QF.panic (H' := [frB b A l1.length cap p a B m cm]) (by exact .cons _ (.cons _ (.cons_cons _ (List.nil_sublist _)))) ⟨rfl, .inr ⟨rfl, ⟨v, List.mem_of_getElem? hvi, ht⟩, Left.of ..⟩⟩
  · -- no
    have hge : i = l2.length := by have h := hc2; simp at h; omega
    refine WC.exit ?_
    refine WK.un ?_
    refine WC.seq ?_
    refine WC.region ?_
    refine WL.p (Gp.move rfl) (by kernel_rfl) rfl ?_
    refine WL.p (Gp.assign rfl) (by kernel_rfl) rfl ?_
    refine WL.nil ?_
    refine WK.un ?_
    refine WC.ret ?_
    (refine WK.un ?_)
    exact QF.ret1 (.inl rfl) rfl (.tmp rfl) (List.Sublist.refl _) ⟨rfl, .inl ⟨A', cap', x', rfl, fun v hvm => by obtain ⟨j, hj, rfl⟩ := List.getElem_of_mem hvm; exact hall j _ (by omega) (List.getElem?_eq_getElem hj), rfl, hv1, hv2⟩⟩
end Go.Proofs.YtbfgljcjblfleaaGreatDoor.Gb
namespace Go.Proofs.YtbfgljcjblfleaaGreatDoor.Gb
open Go Go.Proofs
attribute [local irreducible] Tryz.prog
def ordN (u v : V) : Int := if cmpI u.i v.i = 0 then cmpS u.s v.s else cmpI u.i v.i
def ordS (c : Int) (u v : V) : Bool := if c = 14 then decide (ordN u v < 0) else if c = 15 then decide (ordN u v ≤ 0) else if c = 16 then decide (0 < ordN u v) else decide (0 ≤ ordN u v)
def ordOK (u v : V) : Prop := u.t = v.t ∧ (u.t = 1 ∨ u.t = 3)
theorem two_at {c : Array Value} {l : List Value} {n j : Nat} {w : Value} (h : c.toList.take n = l) (hw : l[j]? = some w) : c[j]? = some w := by
  subst h
  rw [List.getElem?_take] at hw
  split at hw
  · rw [← Array.getElem?_toList]; exact hw
  · cases hw
theorem two_lo {c : Array Value} {u v : V} {n j : Nat} {w : Value} (h : c.toList.take n = vflat [u, v]) (hw : (vcells u)[j]? = some w) : c[0 + (0 : Int).toNat * 4 + j]? = some w := by
  have hj : j < (vcells u).length := (List.getElem?_eq_some_iff.1 hw).1
  have e : (0 + (0 : Int).toNat * 4 + j) = j := by simp
  rw [e]
  refine two_at h ?_
  show (vcells u ++ (vcells v ++ []))[j]? = _
  rw [List.getElem?_append_left hj]; exact hw
theorem two_hi {c : Array Value} {u v : V} {n j : Nat} {w : Value} (h : c.toList.take n = vflat [u, v]) (hw : (vcells v)[j]? = some w) : c[0 + (1 : Int).toNat * 4 + j]? = some w := by
  have hj : j < (vcells v).length := (List.getElem?_eq_some_iff.1 hw).1
  have e : (0 + (1 : Int).toNat * 4 + j) = 4 + j := by simp
  rw [e]
  refine two_at h ?_
  show (vcells u ++ (vcells v ++ []))[4 + j]? = _
  rw [List.getElem?_append_right (by show 4 ≤ 4 + j; omega)]
  show (vcells v ++ [])[4 + j - 4]? = _
  rw [Nat.add_sub_cancel_left, List.append_nil]; exact hw
theorem ordered_fn (G : Gh) (mv : Value) (b : Nat) (A : Option Addr) (cap : Nat) (p a : Int) (B : Option Addr) (m cm : Nat) (l1 : List V) (u v : V) (x : Own) (c : Int) (hv : VVec A cap (l1 ++ [u, v]) x) (hb : l1.length + 2 ≤ 1000000000) :
    Fn Tryz.prog 75 #[mv, .pointer (some ⟨b, 0, none⟩), .int .i64 c] G [frB b A (l1 ++ [u, v]).length cap p a B m cm, x]
      fun e G' H' => G = G' ∧ ((e = .returned (.bool (ordS c u v)) ∧ ordOK u v ∧ H' = [frB b A l1.length cap p a B m cm, x] ∧ VVec A cap l1 x) ∨ (e = halted 6 ∧ ¬ ordOK u v ∧ Left b H')) := by
  refine Fn.enter Tryz.func75 rfl rfl fun w0 => ?_
  refine WC.seq ?_
  refine WC.region ?_
  refine WL.p (Gp.assign rfl) (by kernel_rfl) rfl ?_
  refine WL.nil ?_
  refine WK.un ?_
  refine WC.seq ?_
  refine WC.region ?_
  refine WL.p (Gp.move rfl) (by kernel_rfl) rfl ?_
  refine WL.p (Gp.move rfl) (by kernel_rfl) rfl ?_
  refine WL.op (by kernel_rfl) (OW.callR rfl (perm_all _) (take_ok G mv b A cap p a B m cm l1 [u, v] x hv hb) rfl (by rintro e G' H' ⟨_, _, _, h, _⟩; exact ⟨_, h⟩) fun v' G' H' h hg => ?_)
  obtain ⟨A', cap', x', he, rfl, rfl, hv1, hv2⟩ := h
  cases he
  refine WL.p (Gp.assign rfl) (by kernel_rfl) rfl ?_
  refine WL.nil ?_
  refine WK.un ?_
  obtain ⟨hl, ⟨h1, h2, h3, h4⟩ | ⟨b', c', rfl, rfl, h1, h2, h3⟩⟩ := hv1
  · simp at h2
  have hc0 : ∀ (j : Nat) (w : Value), (vcells u)[j]? = some w → c'[0 + (0 : Int).toNat * 4 + j]? = some w := fun j w hw => two_lo h3 hw
  have hc1 : ∀ (j : Nat) (w : Value), (vcells v)[j]? = some w → c'[0 + (1 : Int).toNat * 4 + j]? = some w := fun j w hw => two_hi h3 hw
  refine WC.join (X := Unit) (fun _ => [(7, .slice (some ⟨b', 0, none⟩) 2 cap'), (2, .int .i64 c)]) (fun _ => G) (fun _ => [.blk b' (.cells c' 49 (0, 0)), frB b A l1.length cap p a B m cm, x]) (fun _ => ordOK u v) ?_ fun _ hok => ?_
  · refine WC.draw mixed ?_
    refine WA.tp (i := 0) rfl (by kernel_rfl) (by kernel_rfl) rfl (Gp.move rfl) ?_
    refine WA.tp (i := 1) rfl (by kernel_rfl) (by kernel_rfl) rfl (Gp.indexAddr rfl rfl (by first | assumption | omega | decide) (by first | assumption | omega | decide | (simp only [List.length_cons, List.length_nil]; decide))) ?_
    refine WA.tp (i := 2) rfl (by kernel_rfl) (by kernel_rfl) rfl (Gp.fieldAddr rfl) ?_
    refine WA.tv (i := 3) rfl (by kernel_rfl) (by kernel_rfl) rfl (Gv.load1 rfl .here (hc0 0 _ rfl)) ?_
    refine WA.tp (i := 4) rfl (by kernel_rfl) (by kernel_rfl) rfl (Gp.move rfl) ?_
    refine WA.tp (i := 5) rfl (by kernel_rfl) (by kernel_rfl) rfl (Gp.indexAddr rfl rfl (by first | assumption | omega | decide) (by first | assumption | omega | decide | (simp only [List.length_cons, List.length_nil]; decide))) ?_
    refine WA.tp (i := 6) rfl (by kernel_rfl) (by kernel_rfl) rfl (Gp.fieldAddr rfl) ?_
    refine WA.tv (i := 7) rfl (by kernel_rfl) (by kernel_rfl) rfl (Gv.load1 rfl .here (hc1 0 _ rfl)) ?_
    (first | refine WA.tp (i := 8) rfl (by kernel_rfl) (by kernel_rfl) rfl (Gp.eqI rfl rfl) ?_ | refine WA.tp (i := 8) rfl (by kernel_rfl) (by kernel_rfl) rfl (Gp.eqS rfl rfl) ?_ | refine WA.tp (i := 8) rfl (by kernel_rfl) (by kernel_rfl) rfl (Gp.nilSl rfl) ?_ | refine WA.tp (i := 8) rfl (by kernel_rfl) (by kernel_rfl) rfl (Gp.eqB rfl rfl) ?_)
    refine WA.tp (i := 9) rfl (by kernel_rfl) (by kernel_rfl) rfl (Gp.move rfl) ?_
    by_cases e1 : u.t = v.t
    · rw [show (u.t == v.t) = true by simpa using e1]
      refine WA.tp (i := 10) rfl (by kernel_rfl) (by kernel_rfl) rfl (Gp.move rfl) ?_
      refine WA.tp (i := 11) rfl (by kernel_rfl) (by kernel_rfl) rfl (Gp.indexAddr rfl rfl (by first | assumption | omega | decide) (by first | assumption | omega | decide | (simp only [List.length_cons, List.length_nil]; decide))) ?_
      refine WA.tp (i := 12) rfl (by kernel_rfl) (by kernel_rfl) rfl (Gp.fieldAddr rfl) ?_
      refine WA.tv (i := 13) rfl (by kernel_rfl) (by kernel_rfl) rfl (Gv.load1 rfl .here (hc0 0 _ rfl)) ?_
      (first | refine WA.tp (i := 14) rfl (by kernel_rfl) (by kernel_rfl) rfl (Gp.eqI rfl rfl) ?_ | refine WA.tp (i := 14) rfl (by kernel_rfl) (by kernel_rfl) rfl (Gp.eqS rfl rfl) ?_ | refine WA.tp (i := 14) rfl (by kernel_rfl) (by kernel_rfl) rfl (Gp.nilSl rfl) ?_ | refine WA.tp (i := 14) rfl (by kernel_rfl) (by kernel_rfl) rfl (Gp.eqB rfl rfl) ?_)
      refine WA.tp (i := 15) rfl (by kernel_rfl) (by kernel_rfl) rfl (Gp.move rfl) ?_
      by_cases e2 : u.t = 1
      · rw [show (u.t == 1) = true by simpa using e2]
        refine WA.sp (i := 16) rfl (by kernel_rfl) (by kernel_rfl) rfl ?_
        refine WA.sp (i := 17) rfl (by kernel_rfl) (by kernel_rfl) rfl ?_
        refine WA.sp (i := 18) rfl (by kernel_rfl) (by kernel_rfl) rfl ?_
        refine WA.sp (i := 19) rfl (by kernel_rfl) (by kernel_rfl) rfl ?_
        refine WA.sp (i := 20) rfl (by kernel_rfl) (by kernel_rfl) rfl ?_
        (first | refine WA.tp (i := 21) rfl (by kernel_rfl) (by kernel_rfl) rfl (Gp.pickT rfl rfl) ?_ | refine WA.tp (i := 21) rfl (by kernel_rfl) (by kernel_rfl) rfl (Gp.pickF rfl rfl) ?_)
        (first | refine WA.tp (i := 22) rfl (by kernel_rfl) (by kernel_rfl) rfl (Gp.pickT rfl rfl) ?_ | refine WA.tp (i := 22) rfl (by kernel_rfl) (by kernel_rfl) rfl (Gp.pickF rfl rfl) ?_)
        refine WA.one (i := 23) (by kernel_rfl) rfl (by kernel_rfl) (OW.callR rfl (Hf := []) (List.Perm.refl _) (need_ok G) rfl (by rintro e G' H' ⟨h, _⟩; exact ⟨_, h⟩) fun v' G' H' h hg => ?_)
        obtain ⟨he, rfl, rfl⟩ := h
        cases he
        refine WA.done (by kernel_rfl) ?_
        refine WK.un ?_
        exact WK.meet () ⟨e1, .inl e2⟩ (by exact ⟨rfl, rfl, trivial⟩) rfl (List.Sublist.refl _)
      · rw [show (u.t == 1) = false by simpa using e2]
        refine WA.tp (i := 16) rfl (by kernel_rfl) (by kernel_rfl) rfl (Gp.move rfl) ?_
        refine WA.tp (i := 17) rfl (by kernel_rfl) (by kernel_rfl) rfl (Gp.indexAddr rfl rfl (by first | assumption | omega | decide) (by first | assumption | omega | decide | (simp only [List.length_cons, List.length_nil]; decide))) ?_
        refine WA.tp (i := 18) rfl (by kernel_rfl) (by kernel_rfl) rfl (Gp.fieldAddr rfl) ?_
        refine WA.tv (i := 19) rfl (by kernel_rfl) (by kernel_rfl) rfl (Gv.load1 rfl .here (hc0 0 _ rfl)) ?_
        (first | refine WA.tp (i := 20) rfl (by kernel_rfl) (by kernel_rfl) rfl (Gp.eqI rfl rfl) ?_ | refine WA.tp (i := 20) rfl (by kernel_rfl) (by kernel_rfl) rfl (Gp.eqS rfl rfl) ?_ | refine WA.tp (i := 20) rfl (by kernel_rfl) (by kernel_rfl) rfl (Gp.nilSl rfl) ?_ | refine WA.tp (i := 20) rfl (by kernel_rfl) (by kernel_rfl) rfl (Gp.eqB rfl rfl) ?_)
        (first | refine WA.tp (i := 21) rfl (by kernel_rfl) (by kernel_rfl) rfl (Gp.pickT rfl rfl) ?_ | refine WA.tp (i := 21) rfl (by kernel_rfl) (by kernel_rfl) rfl (Gp.pickF rfl rfl) ?_)
        (first | refine WA.tp (i := 22) rfl (by kernel_rfl) (by kernel_rfl) rfl (Gp.pickT rfl rfl) ?_ | refine WA.tp (i := 22) rfl (by kernel_rfl) (by kernel_rfl) rfl (Gp.pickF rfl rfl) ?_)
        by_cases e3 : u.t = 3
        · rw [show (u.t == 3) = true by simpa using e3]
          refine WA.one (i := 23) (by kernel_rfl) rfl (by kernel_rfl) (OW.callR rfl (Hf := []) (List.Perm.refl _) (need_ok G) rfl (by rintro e G' H' ⟨h, _⟩; exact ⟨_, h⟩) fun v' G' H' h hg => ?_)
          obtain ⟨he, rfl, rfl⟩ := h
          cases he
          refine WA.done (by kernel_rfl) ?_
          refine WK.un ?_
          exact WK.meet () ⟨e1, .inr e3⟩ (by exact ⟨rfl, rfl, trivial⟩) rfl (List.Sublist.refl _)
        · rw [show (u.t == 3) = false by simpa using e3]
          refine WA.one (i := 23) (by kernel_rfl) rfl (by kernel_rfl) (OW.call rfl (Hf := []) (List.Perm.refl _) (need_no G) rfl (fun v G' H' h _ => by cases h.1) (fun ch G' H' h _ => ?_) (fun G' H' h => by cases h.1))
          obtain ⟨he, rfl, rfl⟩ := h
          cases he
          refine WK.un ?_
          exact QF.panic (H' := [frB b A l1.length cap p a B m cm]) (by exact .cons _ (.cons_cons _ (List.nil_sublist _))) ⟨rfl, .inr ⟨rfl, fun h => h.2.elim e2 e3, Left.of ..⟩⟩
    · rw [show (u.t == v.t) = false by simpa using e1]
      refine WA.sp (i := 10) rfl (by kernel_rfl) (by kernel_rfl) rfl ?_
      refine WA.sp (i := 11) rfl (by kernel_rfl) (by kernel_rfl) rfl ?_
      refine WA.sp (i := 12) rfl (by kernel_rfl) (by kernel_rfl) rfl ?_
      refine WA.sp (i := 13) rfl (by kernel_rfl) (by kernel_rfl) rfl ?_
      refine WA.sp (i := 14) rfl (by kernel_rfl) (by kernel_rfl) rfl ?_
      refine WA.sp (i := 15) rfl (by kernel_rfl) (by kernel_rfl) rfl ?_
      refine WA.sp (i := 16) rfl (by kernel_rfl) (by kernel_rfl) rfl ?_
      refine WA.sp (i := 17) rfl (by kernel_rfl) (by kernel_rfl) rfl ?_
      refine WA.sp (i := 18) rfl (by kernel_rfl) (by kernel_rfl) rfl ?_
      refine WA.sp (i := 19) rfl (by kernel_rfl) (by kernel_rfl) rfl ?_
      refine WA.sp (i := 20) rfl (by kernel_rfl) (by kernel_rfl) rfl ?_
      refine WA.sp (i := 21) rfl (by kernel_rfl) (by kernel_rfl) rfl ?_
      (first | refine WA.tp (i := 22) rfl (by kernel_rfl) (by kernel_rfl) rfl (Gp.pickT rfl rfl) ?_ | refine WA.tp (i := 22) rfl (by kernel_rfl) (by kernel_rfl) rfl (Gp.pickF rfl rfl) ?_)
      refine WA.one (i := 23) (by kernel_rfl) rfl (by kernel_rfl) (OW.call rfl (Hf := []) (List.Perm.refl _) (need_no G) rfl (fun v G' H' h _ => by cases h.1) (fun ch G' H' h _ => ?_) (fun G' H' h => by cases h.1))
      obtain ⟨he, rfl, rfl⟩ := h
      cases he
      refine WK.un ?_
      exact QF.panic (H' := [frB b A l1.length cap p a B m cm]) (by exact .cons _ (.cons_cons _ (List.nil_sublist _))) ⟨rfl, .inr ⟨rfl, fun h => e1 h.1, Left.of ..⟩⟩
  refine WC.seq ?_
  refine WC.drawB mixed ?_
  refine WB.tp (i := 0) rfl (by kernel_rfl) (by kernel_rfl) rfl (Gp.move rfl) ?_
  refine WB.tp (i := 1) rfl (by kernel_rfl) (by kernel_rfl) rfl (Gp.indexAddr rfl rfl (by first | assumption | omega | decide) (by first | assumption | omega | decide | (simp only [List.length_cons, List.length_nil]; decide))) ?_
  refine WB.tp (i := 2) rfl (by kernel_rfl) (by kernel_rfl) rfl (Gp.fieldAddr rfl) ?_
  refine WB.tv (i := 3) rfl (by kernel_rfl) (by kernel_rfl) rfl (Gv.load1 rfl .here (hc0 1 _ rfl)) ?_
  refine WB.tp (i := 4) rfl (by kernel_rfl) (by kernel_rfl) rfl (Gp.move rfl) ?_
  refine WB.tp (i := 5) rfl (by kernel_rfl) (by kernel_rfl) rfl (Gp.indexAddr rfl rfl (by first | assumption | omega | decide) (by first | assumption | omega | decide | (simp only [List.length_cons, List.length_nil]; decide))) ?_
  refine WB.tp (i := 6) rfl (by kernel_rfl) (by kernel_rfl) rfl (Gp.fieldAddr rfl) ?_
  refine WB.tv (i := 7) rfl (by kernel_rfl) (by kernel_rfl) rfl (Gv.load1 rfl .here (hc1 1 _ rfl)) ?_
  refine WB.tp (i := 9) rfl (by kernel_rfl) (by kernel_rfl) rfl (Gp.move rfl) ?_
  refine WB.tp (i := 10) rfl (by kernel_rfl) (by kernel_rfl) rfl (Gp.indexAddr rfl rfl (by first | assumption | omega | decide) (by first | assumption | omega | decide | (simp only [List.length_cons, List.length_nil]; decide))) ?_
  refine WB.tp (i := 11) rfl (by kernel_rfl) (by kernel_rfl) rfl (Gp.fieldAddr rfl) ?_
  refine WB.tv (i := 12) rfl (by kernel_rfl) (by kernel_rfl) rfl (Gv.load1 rfl .here (hc0 3 _ rfl)) ?_
  refine WB.tp (i := 13) rfl (by kernel_rfl) (by kernel_rfl) rfl (Gp.move rfl) ?_
  refine WB.tp (i := 14) rfl (by kernel_rfl) (by kernel_rfl) rfl (Gp.indexAddr rfl rfl (by first | assumption | omega | decide) (by first | assumption | omega | decide | (simp only [List.length_cons, List.length_nil]; decide))) ?_
  refine WB.tp (i := 15) rfl (by kernel_rfl) (by kernel_rfl) rfl (Gp.fieldAddr rfl) ?_
  refine WB.tv (i := 16) rfl (by kernel_rfl) (by kernel_rfl) rfl (Gv.load1 rfl .here (hc1 3 _ rfl)) ?_
  refine WB.one (i := 8) (by kernel_rfl) rfl (by kernel_rfl) (OW.callR rfl (Hf := []) (List.Perm.refl _) (compareI_fn G _ _) rfl (by rintro e G' H' ⟨h, _⟩; exact ⟨_, h⟩) fun v' G' H' h hg => ?_)
  obtain ⟨he, rfl, rfl⟩ := h
  cases he
  refine ⟨fun w hw => hw.leSub (Gh.le_refl _) (List.Sublist.refl _), ?_⟩
  refine WB.one (i := 17) (by kernel_rfl) rfl (by kernel_rfl) (OW.callR rfl (Hf := []) (List.Perm.refl _) (compareS_fn G _ _) rfl (by rintro e G' H' ⟨h, _⟩; exact ⟨_, h⟩) fun v' G' H' h hg => ?_)
  obtain ⟨he, rfl, rfl⟩ := h
  cases he
  refine ⟨fun w hw => hw.leSub (Gh.le_refl _) (List.Sublist.refl _), ?_⟩
  refine WB.one (i := 18) (by kernel_rfl) rfl (by kernel_rfl) (OW.buildSlice rfl (by kernel_rfl) (by kernel_rfl) (by rfl) rfl fun b3 => ?_)
  refine ⟨fun w hw => hw.leSub (Gh.le_refl _) (List.sublist_cons_self _ _), ?_⟩
  refine WB.one (i := 19) (by kernel_rfl) rfl (by kernel_rfl) (OW.callR rfl (perm_at .here) (or_fn G b3 _ _) rfl (by rintro e G' H' ⟨h, _⟩; exact ⟨_, h⟩) fun v' G' H' h hg => ?_)
  obtain ⟨he, rfl, rfl⟩ := h
  cases he
  refine ⟨fun w hw => hw.leSub (Gh.le_refl _) (List.Sublist.refl _), ?_⟩
  refine WB.tp (i := 20) rfl (by kernel_rfl) (by kernel_rfl) rfl (Gp.assign rfl) ?_
  refine WB.done (by kernel_rfl) ?_
  refine WK.un ?_
  refine WC.seq ?_
  refine WC.seq ?_
  refine WC.region ?_
  refine WL.p (Gp.move rfl) (by kernel_rfl) rfl ?_
  refine WL.nil ?_
  refine WK.un ?_
  refine WC.block ?_  -- 0
  refine WC.seq ?_
  refine WC.region ?_
  (first | refine WL.p (Gp.eqI rfl rfl) (by kernel_rfl) rfl ?_ | refine WL.p (Gp.eqS rfl rfl) (by kernel_rfl) rfl ?_ | refine WL.p (Gp.nilSl rfl) (by kernel_rfl) rfl ?_ | refine WL.p (Gp.eqB rfl rfl) (by kernel_rfl) rfl ?_)
  refine WL.p (Gp.assign rfl) (by kernel_rfl) rfl ?_
  refine WL.nil ?_
  refine WK.un ?_
  refine WC.cond rfl (fun hc2 => ?_) (fun hc2 => ?_)
  · -- yes
    refine WC.seq ?_
    refine WC.region ?_
    refine WL.p (Gp.move rfl) (by kernel_rfl) rfl ?_
    (first | refine WL.p (Gp.ltI rfl rfl) (by kernel_rfl) rfl ?_ | refine WL.p (Gp.ltS rfl rfl) (by kernel_rfl) rfl ?_)
    refine WL.p (Gp.assign rfl) (by kernel_rfl) rfl ?_
    refine WL.nil ?_
    refine WK.un ?_
    refine WC.ret ?_
    (refine WK.un ?_)
    exact QF.ret1 (.inl rfl) rfl (.tmp rfl) (by exact .cons _ (List.Sublist.refl _)) ⟨rfl, .inl ⟨by rw [ordS, if_pos (show c = 14 by simpa using hc2)]; rfl, hok, rfl, hv2⟩⟩
  · -- no
    have h14 : ¬ c = 14 := by simpa using hc2
    refine WC.seq ?_
    refine WC.region ?_
    (first | refine WL.p (Gp.eqI rfl rfl) (by kernel_rfl) rfl ?_ | refine WL.p (Gp.eqS rfl rfl) (by kernel_rfl) rfl ?_ | refine WL.p (Gp.nilSl rfl) (by kernel_rfl) rfl ?_ | refine WL.p (Gp.eqB rfl rfl) (by kernel_rfl) rfl ?_)
    refine WL.p (Gp.assign rfl) (by kernel_rfl) rfl ?_
    refine WL.nil ?_
    refine WK.un ?_
    refine WC.cond rfl (fun hc2 => ?_) (fun hc2 => ?_)
    · -- yes
      refine WC.seq ?_
      refine WC.region ?_
      refine WL.p (Gp.move rfl) (by kernel_rfl) rfl ?_
      (first | refine WL.p (Gp.leI rfl rfl) (by kernel_rfl) rfl ?_ | refine WL.p (Gp.leS rfl rfl) (by kernel_rfl) rfl ?_)
      refine WL.p (Gp.assign rfl) (by kernel_rfl) rfl ?_
      refine WL.nil ?_
      refine WK.un ?_
      refine WC.ret ?_
      (refine WK.un ?_)
      exact QF.ret1 (.inl rfl) rfl (.tmp rfl) (by exact .cons _ (List.Sublist.refl _)) ⟨rfl, .inl ⟨by rw [ordS, if_neg h14, if_pos (show c = 15 by simpa using hc2)]; rfl, hok, rfl, hv2⟩⟩
    · -- no
      have h15 : ¬ c = 15 := by simpa using hc2
      refine WC.seq ?_
      refine WC.region ?_
      (first | refine WL.p (Gp.eqI rfl rfl) (by kernel_rfl) rfl ?_ | refine WL.p (Gp.eqS rfl rfl) (by kernel_rfl) rfl ?_ | refine WL.p (Gp.nilSl rfl) (by kernel_rfl) rfl ?_ | refine WL.p (Gp.eqB rfl rfl) (by kernel_rfl) rfl ?_)
      refine WL.p (Gp.assign rfl) (by kernel_rfl) rfl ?_
      refine WL.nil ?_
      refine WK.un ?_
      refine WC.cond rfl (fun hc2 => ?_) (fun hc2 => ?_)
      · -- yes
        refine WC.seq ?_
        refine WC.region ?_
        refine WL.p (Gp.move rfl) (by kernel_rfl) rfl ?_
        (first | refine WL.p (Gp.gtI rfl rfl) (by kernel_rfl) rfl ?_ | refine WL.p (Gp.gtS rfl rfl) (by kernel_rfl) rfl ?_)
        refine WL.p (Gp.assign rfl) (by kernel_rfl) rfl ?_
        refine WL.nil ?_
        refine WK.un ?_
        refine WC.ret ?_
        (refine WK.un ?_)
        exact QF.ret1 (.inl rfl) rfl (.tmp rfl) (by exact .cons _ (List.Sublist.refl _)) ⟨rfl, .inl ⟨by rw [ordS, if_neg h14, if_neg h15, if_pos (show c = 16 by simpa using hc2)]; rfl, hok, rfl, hv2⟩⟩
      · -- no
        have h16 : ¬ c = 16 := by simpa using hc2
        refine WC.skip ?_
        refine WK.un ?_
        refine WC.seq ?_
        refine WC.region ?_
        refine WL.p (Gp.move rfl) (by kernel_rfl) rfl ?_
        (first | refine WL.p (Gp.geI rfl rfl) (by kernel_rfl) rfl ?_ | refine WL.p (Gp.geS rfl rfl) (by kernel_rfl) rfl ?_)
        refine WL.p (Gp.assign rfl) (by kernel_rfl) rfl ?_
        refine WL.nil ?_
        refine WK.un ?_
        refine WC.ret ?_
        (refine WK.un ?_)
        exact QF.ret1 (.inl rfl) rfl (.tmp rfl) (by exact .cons _ (List.Sublist.refl _)) ⟨rfl, .inl ⟨by rw [ordS, if_neg h14, if_neg h15, if_neg h16]; rfl, hok, rfl, hv2⟩⟩
end Go.Proofs.YtbfgljcjblfleaaGreatDoor.Gb
namespace Go.Proofs.YtbfgljcjblfleaaGreatDoor.Gb
open Go Go.Proofs
attribute [local irreducible] Tryz.prog
structure Pg where
  consts : List V
  procs : List Pr
abbrev mcC (c1 c2 c3 : Value) (FA : Option Addr) (n cap : Nat) (en : Int) (v : V) (OA : Option Addr) (on ocap : Nat) (st : Int) (ed : Bool) : Array Value :=
  #[c1, c2, c3, .slice FA n cap, .int .i64 en, .int .i64 v.t, .int .i64 v.i, .bool v.b, .string v.s, .slice OA on ocap, .int .i64 st, .bool ed]
abbrev mcB (mb : Nat) (c1 c2 c3 : Value) (FA : Option Addr) (n cap : Nat) (en : Int) (v : V) (OA : Option Addr) (on ocap : Nat) (st : Int) (ed : Bool) : Own := .blk mb (.cells (mcC c1 c2 c3 FA n cap en v OA on ocap st ed) 71 (0, 0))
def ptrs (bs : List Nat) : List Value := bs.map fun b => .pointer (some ⟨b, 0, none⟩)
abbrev PVec (A : Option Addr) (cap : Nat) (bs : List Nat) (x : Own) : Prop := Vec 77 1 A bs.length cap (ptrs bs) x
def sizedP (p : Pr) : Bool := decide ((p.params.length : Int) ≤ p.locals) && decide (p.locals ≤ 64)
theorem sized_fn (G : Gh) (nm : ByteArray) (ex : Bool) (PA : Option Addr) (n pc : Nat) (lo re : Int) (cv : Value) :
    Fn Tryz.prog 20 #[.agg #[.string nm, .bool ex, .slice PA n pc, .int .i64 lo, .int .i64 re, cv]] G [] fun e G' H' => e = .returned (.bool (decide ((n : Int) ≤ lo) && decide (lo ≤ 64))) ∧ G = G' ∧ H' = [] := by
  refine Fn.enter Tryz.func20 rfl rfl fun w0 => ?_
  refine WC.seq ?_
  refine WC.region ?_
  refine WL.op (by kernel_rfl) (OW.box rfl rfl fun b1 => ?_)
  refine WL.p (Gp.assign rfl) (by kernel_rfl) rfl ?_
  refine WL.nil ?_
  refine WK.un ?_
  refine WC.seq ?_
  refine WC.region ?_
  refine WL.p (Gp.fieldAddr rfl) (by kernel_rfl) rfl ?_
  (first | (refine WL.v (Gv.load1 rfl (by (repeat first | exact .here | apply At.there)) (by first | rfl | assumption)) (by kernel_rfl) rfl ?_) | (refine WL.v (Gv.loadN rfl (by (repeat first | exact .here | apply At.there)) (by rfl) (by rfl)) (by kernel_rfl) rfl ?_) | (refine WL.v (Gv.loadG1 rfl (by assumption) rfl) (by kernel_rfl) rfl ?_) | (refine WL.v (Gv.loadG0 rfl (by assumption) rfl) (by kernel_rfl) rfl ?_) | (refine WL.v (Gv.loadGN rfl (by assumption) rfl) (by kernel_rfl) rfl ?_))
  refine WL.p (Gp.fieldAddr rfl) (by kernel_rfl) rfl ?_
  (first | (refine WL.v (Gv.load1 rfl (by (repeat first | exact .here | apply At.there)) (by first | rfl | assumption)) (by kernel_rfl) rfl ?_) | (refine WL.v (Gv.loadN rfl (by (repeat first | exact .here | apply At.there)) (by rfl) (by rfl)) (by kernel_rfl) rfl ?_) | (refine WL.v (Gv.loadG1 rfl (by assumption) rfl) (by kernel_rfl) rfl ?_) | (refine WL.v (Gv.loadG0 rfl (by assumption) rfl) (by kernel_rfl) rfl ?_) | (refine WL.v (Gv.loadGN rfl (by assumption) rfl) (by kernel_rfl) rfl ?_))
  (first | refine WL.p (Gp.lenSl rfl) (by kernel_rfl) rfl ?_ | refine WL.p (Gp.lenS rfl) (by kernel_rfl) rfl ?_)
  (first | refine WL.p (Gp.geI rfl rfl) (by kernel_rfl) rfl ?_ | refine WL.p (Gp.geS rfl rfl) (by kernel_rfl) rfl ?_)
  refine WL.p (Gp.move rfl) (by kernel_rfl) rfl ?_
  generalize hb : decide ((n : Int) ≤ lo) = b
  cases b
  all_goals (first | refine WL.p (Gp.fieldAddr rfl) (by rfl) rfl ?_ | refine WL.skip (by rfl) rfl ?_)
  all_goals (first | (first | (refine WL.v (Gv.load1 rfl (by (repeat first | exact .here | apply At.there)) (by first | rfl | assumption)) (by rfl) rfl ?_) | (refine WL.v (Gv.loadN rfl (by (repeat first | exact .here | apply At.there)) (by rfl) (by rfl)) (by rfl) rfl ?_) | (refine WL.v (Gv.loadG1 rfl (by assumption) rfl) (by rfl) rfl ?_) | (refine WL.v (Gv.loadG0 rfl (by assumption) rfl) (by rfl) rfl ?_) | (refine WL.v (Gv.loadGN rfl (by assumption) rfl) (by rfl) rfl ?_)) | refine WL.skip (by rfl) rfl ?_)
  all_goals (first | (first | refine WL.p (Gp.leI rfl rfl) (by rfl) rfl ?_ | refine WL.p (Gp.leS rfl rfl) (by rfl) rfl ?_) | refine WL.skip (by rfl) rfl ?_)
  all_goals (first | (first | refine WL.p (Gp.pickT rfl rfl) (by rfl) rfl ?_ | refine WL.p (Gp.pickF rfl rfl) (by rfl) rfl ?_) | refine WL.skip (by rfl) rfl ?_)
  all_goals (first | refine WL.p (Gp.assign rfl) (by rfl) rfl ?_ | refine WL.skip (by rfl) rfl ?_)
  all_goals refine WL.nil ?_
  all_goals (refine WK.un ?_)
  all_goals refine WC.ret ?_
  all_goals (refine WK.un ?_)
  all_goals exact QF.ret1 (.inl rfl) rfl (.tmp rfl) (List.nil_sublist _) ⟨by simp, rfl, rfl⟩
theorem top_fn (G : Gh) (mb : Nat) (c1 c2 c3 : Value) (FA : Option Addr) (cap : Nat) (en : Int) (v : V) (OA : Option Addr) (on ocap : Nat) (st : Int) (ed : Bool) (bs : List Nat) (b : Nat) (x : Own)
    (hv : PVec FA cap (bs ++ [b]) x) (hb : bs.length ≤ 1000000000) :
    Fn Tryz.prog 25 #[.pointer (some ⟨mb, 0, none⟩)] G [mcB mb c1 c2 c3 FA (bs ++ [b]).length cap en v OA on ocap st ed, x]
      fun e G' H' => e = .returned (.pointer (some ⟨b, 0, none⟩)) ∧ G = G' ∧ H' = [mcB mb c1 c2 c3 FA (bs ++ [b]).length cap en v OA on ocap st ed, x] := by
  have hlen : (bs ++ [b]).length = bs.length + 1 := by simp
  have hz : IntKind.i64.wrap (((bs ++ [b]).length : Int) - 1) = (bs.length : Int) := by rw [hlen, wrap_small (by omega) (by omega)]; omega
  obtain ⟨hl, ⟨h1, h2, h3, h4⟩ | ⟨b', c', rfl, rfl, h1, h2, h3⟩⟩ := id hv
  · simp at h2
  refine Fn.enter Tryz.func25 rfl rfl fun w0 => ?_
  refine WC.seq ?_
  refine WC.region ?_
  refine WL.p (Gp.assign rfl) (by kernel_rfl) rfl ?_
  refine WL.nil ?_
  refine WK.un ?_
  refine WC.seq ?_
  refine WC.draw mixed ?_
  refine WA.tp (i := 0) rfl (by kernel_rfl) (by kernel_rfl) rfl (Gp.move rfl) ?_
  refine WA.tp (i := 1) rfl (by kernel_rfl) (by kernel_rfl) rfl (Gp.nilCheck rfl) ?_
  refine WA.tp (i := 2) rfl (by kernel_rfl) (by kernel_rfl) rfl (Gp.fieldAddr rfl) ?_
  refine WA.tp (i := 4) rfl (by kernel_rfl) (by kernel_rfl) rfl (Gp.move rfl) ?_
  refine WA.tp (i := 5) rfl (by kernel_rfl) (by kernel_rfl) rfl (Gp.nilCheck rfl) ?_
  refine WA.tp (i := 6) rfl (by kernel_rfl) (by kernel_rfl) rfl (Gp.fieldAddr rfl) ?_
  (first | (refine WA.tv (i := 7) rfl (by kernel_rfl) (by kernel_rfl) rfl (Gv.load1 rfl (by (repeat first | exact .here | apply At.there)) (by first | rfl | assumption)) ?_) | (refine WA.tv (i := 7) rfl (by kernel_rfl) (by kernel_rfl) rfl (Gv.loadN rfl (by (repeat first | exact .here | apply At.there)) (by rfl) (by rfl)) ?_) | (refine WA.tv (i := 7) rfl (by kernel_rfl) (by kernel_rfl) rfl (Gv.loadG1 rfl (by assumption) rfl) ?_) | (refine WA.tv (i := 7) rfl (by kernel_rfl) (by kernel_rfl) rfl (Gv.loadG0 rfl (by assumption) rfl) ?_) | (refine WA.tv (i := 7) rfl (by kernel_rfl) (by kernel_rfl) rfl (Gv.loadGN rfl (by assumption) rfl) ?_))
  (first | refine WA.tp (i := 8) rfl (by kernel_rfl) (by kernel_rfl) rfl (Gp.lenSl rfl) ?_ | refine WA.tp (i := 8) rfl (by kernel_rfl) (by kernel_rfl) rfl (Gp.lenS rfl) ?_)
  refine WA.tp (i := 9) rfl (by kernel_rfl) (by kernel_rfl) rfl (Gp.sub' rfl rfl hz) ?_
  (first | (refine WA.tv (i := 3) rfl (by kernel_rfl) (by kernel_rfl) rfl (Gv.load1 rfl (by (repeat first | exact .here | apply At.there)) (by first | rfl | assumption)) ?_) | (refine WA.tv (i := 3) rfl (by kernel_rfl) (by kernel_rfl) rfl (Gv.loadN rfl (by (repeat first | exact .here | apply At.there)) (by rfl) (by rfl)) ?_) | (refine WA.tv (i := 3) rfl (by kernel_rfl) (by kernel_rfl) rfl (Gv.loadG1 rfl (by assumption) rfl) ?_) | (refine WA.tv (i := 3) rfl (by kernel_rfl) (by kernel_rfl) rfl (Gv.loadG0 rfl (by assumption) rfl) ?_) | (refine WA.tv (i := 3) rfl (by kernel_rfl) (by kernel_rfl) rfl (Gv.loadGN rfl (by assumption) rfl) ?_))
  refine WA.tp (i := 10) rfl (by kernel_rfl) (by kernel_rfl) rfl (Gp.indexAddr rfl rfl (by first | assumption | omega | decide) (by first | assumption | omega | decide | (simp only [List.length_cons, List.length_nil]; decide))) ?_
  refine WA.tv (i := 11) rfl (by kernel_rfl) (by kernel_rfl) rfl (Gv.load1 rfl (.there .here) (by have h := congrArg (fun l => l[bs.length]?) h3; simp [ptrs, hlen] at h; simpa using h)) ?_
  refine WA.tp (i := 12) rfl (by kernel_rfl) (by kernel_rfl) rfl (Gp.assign rfl) ?_
  refine WA.done (by kernel_rfl) ?_
  refine WK.un ?_
  refine WC.ret ?_
  (refine WK.un ?_)
  exact QF.ret1 (.inl rfl) rfl (.tmp rfl) (List.Sublist.refl _) ⟨rfl, rfl, rfl⟩
theorem copied_fnQ (G : Gh) (b : Nat) (A : Option Addr) (cap : Nat) (p a : Int) (B : Option Addr) (cm : Nat) (l m : List V) (x y : Own) (hx : VVec A cap l x) (hy : VVec B cm m y) (hl : l.length ≤ 1000000000) (hm : m.length ≤ 1000000000) :
    Fn Tryz.prog 42 #[.pointer (some ⟨b, 0, none⟩)] G [frB b A l.length cap p a B m.length cm, x, y]
      fun e G' H' => ∃ A' cap' B' cm' x' y', e = .returned (.agg (frC A' l.length cap' p a B' m.length cm')) ∧ G = G' ∧ H' = [x', y', frB b A l.length cap p a B m.length cm, x, y] ∧ VVec A' cap' l x' ∧ VVec B' cm' m y' := by
  have none_zero : ∀ {A : Option Addr} {cap : Nat} {l : List V} {x : Own}, VVec A cap l x → A = none → l.length = 0 := by
    rintro A cap l x ⟨_, ⟨_, h, _⟩ | ⟨b, c, h, _⟩⟩ hA
    · exact h
    · rw [h] at hA; cases hA
  refine Fn.enter Tryz.func42 rfl rfl fun w0 => ?_
  refine WC.seq ?_
  refine WC.region ?_
  refine WL.op (by kernel_rfl) (OW.alloc rfl fun b2 => ?_)
  refine WL.nil ?_
  refine WK.un ?_
  refine WC.seq ?_
  refine WC.region ?_
  refine WL.p (Gp.move rfl) (by kernel_rfl) rfl ?_
  refine WL.p (Gp.nilCheck rfl) (by kernel_rfl) rfl ?_
  (first | (refine WL.v (Gv.load1 rfl (by (repeat first | exact .here | apply At.there)) (by first | rfl | assumption)) (by kernel_rfl) rfl ?_) | (refine WL.v (Gv.loadN rfl (by (repeat first | exact .here | apply At.there)) (by rfl) (by rfl)) (by kernel_rfl) rfl ?_) | (refine WL.v (Gv.loadG1 rfl (by assumption) rfl) (by kernel_rfl) rfl ?_) | (refine WL.v (Gv.loadG0 rfl (by assumption) rfl) (by kernel_rfl) rfl ?_) | (refine WL.v (Gv.loadGN rfl (by assumption) rfl) (by kernel_rfl) rfl ?_))
  refine WL.op (by kernel_rfl) (OW.alloc rfl fun b3 => ?_)
  refine WL.op (by kernel_rfl) (OW.store rfl rfl (by (repeat first | exact .here | apply At.there)) rfl (by rfl) (by rfl) (by kernel_rfl) (by rfl) ?_ rfl)
  refine WL.nil ?_
  refine WK.un ?_
  refine WC.seq ?_
  refine WC.region ?_
  refine WL.p (Gp.move rfl) (by kernel_rfl) rfl ?_
  refine WL.p (Gp.nilCheck rfl) (by kernel_rfl) rfl ?_
  refine WL.p (Gp.fieldAddr rfl) (by kernel_rfl) rfl ?_
  refine WL.p (Gp.fieldAddr rfl) (by kernel_rfl) rfl ?_
  (first | (refine WL.v (Gv.load1 rfl (by (repeat first | exact .here | apply At.there)) (by first | rfl | assumption)) (by kernel_rfl) rfl ?_) | (refine WL.v (Gv.loadN rfl (by (repeat first | exact .here | apply At.there)) (by rfl) (by rfl)) (by kernel_rfl) rfl ?_) | (refine WL.v (Gv.loadG1 rfl (by assumption) rfl) (by kernel_rfl) rfl ?_) | (refine WL.v (Gv.loadG0 rfl (by assumption) rfl) (by kernel_rfl) rfl ?_) | (refine WL.v (Gv.loadGN rfl (by assumption) rfl) (by kernel_rfl) rfl ?_))
  refine WL.op (by kernel_rfl) (OW.callK rfl (clone_vals G [frB b A l.length cap p a B m.length cm, x] A l.length cap (vflat l) (hx.rds (.there .here)) (vflat_length l) (vflat_one l) (none_zero hx) (by omega)) rfl fun v' G' H' h hg => ?_)
  obtain ⟨A', cap', x', he, rfl, rfl, hx'⟩ := h
  cases he
  refine WL.p (Gp.fieldAddr rfl) (by kernel_rfl) rfl ?_
  refine WL.p (Gp.fieldAddr rfl) (by kernel_rfl) rfl ?_
  refine WL.op (by kernel_rfl) (OW.store rfl rfl (by (repeat first | exact .here | apply At.there)) rfl (by rfl) (by rfl) (by kernel_rfl) (by rfl) ?_ rfl)
  refine WL.nil ?_
  refine WK.un ?_
  refine WC.seq ?_
  refine WC.region ?_
  refine WL.p (Gp.move rfl) (by kernel_rfl) rfl ?_
  refine WL.p (Gp.nilCheck rfl) (by kernel_rfl) rfl ?_
  refine WL.p (Gp.fieldAddr rfl) (by kernel_rfl) rfl ?_
  (first | (refine WL.v (Gv.load1 rfl (by (repeat first | exact .here | apply At.there)) (by first | rfl | assumption)) (by kernel_rfl) rfl ?_) | (refine WL.v (Gv.loadN rfl (by (repeat first | exact .here | apply At.there)) (by rfl) (by rfl)) (by kernel_rfl) rfl ?_) | (refine WL.v (Gv.loadG1 rfl (by assumption) rfl) (by kernel_rfl) rfl ?_) | (refine WL.v (Gv.loadG0 rfl (by assumption) rfl) (by kernel_rfl) rfl ?_) | (refine WL.v (Gv.loadGN rfl (by assumption) rfl) (by kernel_rfl) rfl ?_))
  refine WL.op (by kernel_rfl) (OW.callK rfl (clone_vals G [frB b A l.length cap p a B m.length cm, y] B m.length cm (vflat m) (hy.rds (.there .here)) (vflat_length m) (vflat_one m) (none_zero hy) (by omega)) rfl fun v' G' H' h hg => ?_)
  obtain ⟨B', cm', y', he, rfl, rfl, hy'⟩ := h
  cases he
  refine WL.p (Gp.fieldAddr rfl) (by kernel_rfl) rfl ?_
  refine WL.op (by kernel_rfl) (OW.store rfl rfl (by (repeat first | exact .here | apply At.there)) rfl (by rfl) (by rfl) (by kernel_rfl) (by rfl) ?_ rfl)
  refine WL.nil ?_
  refine WK.un ?_
  refine WC.seq ?_
  refine WC.region ?_
  (first | (refine WL.v (Gv.load1 rfl (by (repeat first | exact .here | apply At.there)) (by first | rfl | assumption)) (by kernel_rfl) rfl ?_) | (refine WL.v (Gv.loadN rfl (by (repeat first | exact .here | apply At.there)) (by rfl) (by rfl)) (by kernel_rfl) rfl ?_) | (refine WL.v (Gv.loadG1 rfl (by assumption) rfl) (by kernel_rfl) rfl ?_) | (refine WL.v (Gv.loadG0 rfl (by assumption) rfl) (by kernel_rfl) rfl ?_) | (refine WL.v (Gv.loadGN rfl (by assumption) rfl) (by kernel_rfl) rfl ?_))
  refine WL.op (by kernel_rfl) (OW.store rfl rfl (by (repeat first | exact .here | apply At.there)) rfl (by rfl) (by rfl) (by kernel_rfl) (by rfl) ?_ rfl)
  refine WL.nil ?_
  refine WK.un ?_
  refine WC.ret ?_
  refine WK.un ?_
  exact QF.p1 (.inl rfl) rfl (.cell rfl inferInstance inferInstance (by (repeat first | exact .here | apply At.there)) rfl rfl) (⟨A', cap', B', cm', x', y', rfl, rfl, rfl, hx', hy'⟩)
end Go.Proofs.YtbfgljcjblfleaaGreatDoor.Gb
namespace Go.Proofs.YtbfgljcjblfleaaGreatDoor.Gb
open Go Go.Proofs
attribute [local irreducible] Tryz.prog
def V0 : V := ⟨0, 0, false, ⟨#[]⟩⟩
theorem repS_V0 : ∀ n, repS n (vcells V0) = vflat (List.replicate n V0)
  | 0 => rfl
  | n + 1 => by rw [repS, repS_V0 n, List.replicate_succ]; simp [vflat]
def padded (args : List V) (lo : Int) : List V := args ++ List.replicate (lo.toNat - args.length) V0
theorem padded_length {args : List V} {lo : Int} (h : (args.length : Int) ≤ lo) : (padded args lo).length = lo.toNat := by simp [padded]; omega
theorem enter_fn (G : Gh) (mb : Nat) (c1 c3 : Value) (PA : Option Addr) (pn pc : Nat) (procs : List Pr) (FA : Option Addr) (cap : Nat) (en : Int) (v : V) (OA : Option Addr) (on ocap : Nat) (st : Int) (ed : Bool) (bs : List Nat) (x : Own)
    (i : Nat) (p : Pr) (hp : procs[i]? = some p) (hpn : pn = procs.length) (hG : Sl Kd.prc G PA procs) (hv : PVec FA cap bs x) (hb : bs.length ≤ 1000000000)
    (AA : Option Addr) (ac : Nat) (args : List V) (Ha : List Own) (hr : Rds G Ha AA (vflat args)) (hla : (args.length : Int) ≤ p.locals) (hlo : p.locals ≤ 64) :
    Fn Tryz.prog 23 #[.pointer (some ⟨mb, 0, none⟩), .int .i64 i, .slice AA args.length ac] G (mcB mb c1 (.slice PA pn pc) c3 FA bs.length cap en v OA on ocap st ed :: x :: Ha)
      fun e G' H' => ∃ FA' cap' b VA x' y, e = .returned (.tuple #[]) ∧ G = G' ∧ H' = mcB mb c1 (.slice PA pn pc) c3 FA' (bs ++ [b]).length cap' en v OA on ocap st ed :: x' :: frB b none 0 0 i 0 VA (padded args p.locals).length (padded args p.locals).length :: .spare 0 0 0 :: y :: Ha ∧ PVec FA' cap' (bs ++ [b]) x' ∧ VVec VA (padded args p.locals).length (padded args p.locals) y := by
  have hi : i < procs.length := (List.getElem?_eq_some_iff.1 hp).1
  obtain ⟨pb, po, cs, rfl, ⟨QA, qc, CA, cc, rfl, _, _⟩, hcs⟩ := hG i p hp
  have hpl := padded_length hla
  rw [hpl]
  refine Fn.enter Tryz.func23 rfl rfl fun w0 => ?_
  refine WC.seq ?_
  refine WC.region ?_
  refine WL.p (Gp.move rfl) (by kernel_rfl) rfl ?_
  refine WL.p (Gp.move rfl) (by kernel_rfl) rfl ?_
  refine WL.p (Gp.nilCheck rfl) (by kernel_rfl) rfl ?_
  refine WL.p (Gp.fieldAddr rfl) (by kernel_rfl) rfl ?_
  refine WL.p (Gp.fieldAddr rfl) (by kernel_rfl) rfl ?_
  (first | (refine WL.v (Gv.load1 rfl (by (repeat first | exact .here | apply At.there)) (by first | rfl | assumption)) (by kernel_rfl) rfl ?_) | (refine WL.v (Gv.loadN rfl (by (repeat first | exact .here | apply At.there)) (by rfl) (by rfl)) (by kernel_rfl) rfl ?_) | (refine WL.v (Gv.loadG1 rfl (by assumption) rfl) (by kernel_rfl) rfl ?_) | (refine WL.v (Gv.loadG0 rfl (by assumption) rfl) (by kernel_rfl) rfl ?_) | (refine WL.v (Gv.loadGN rfl (by assumption) rfl) (by kernel_rfl) rfl ?_))
  refine WL.p (Gp.move rfl) (by kernel_rfl) rfl ?_
  refine WL.p (Gp.indexAddr rfl rfl (by first | assumption | omega | decide) (by first | assumption | omega | decide | (simp only [List.length_cons, List.length_nil]; decide))) (by kernel_rfl) rfl ?_
  refine WL.p (Gp.fieldAddr rfl) (by kernel_rfl) rfl ?_
  refine WL.v (Gv.loadG1 rfl hcs rfl) (by kernel_rfl) rfl ?_
  refine WL.op (by kernel_rfl) (OW.makeSlice rfl rfl (by rfl) (by omega) (by omega) (by omega) rfl fun vb y hy => ?_)
  refine WL.p (Gp.build rfl rfl) (by kernel_rfl) rfl ?_
  refine WL.op (by kernel_rfl) (OW.box rfl rfl fun b4 => ?_)
  refine WL.p (Gp.assign rfl) (by kernel_rfl) rfl ?_
  refine WL.nil ?_
  refine WK.un ?_
  rw [show repS p.locals.toNat (Value.cells (.agg #[.int .i64 0, .int .i64 0, .bool false, .string ⟨#[]⟩])).toList = vflat (List.replicate p.locals.toNat V0) from repS_V0 _] at hy
  refine WC.seq ?_
  refine WC.region ?_
  refine WL.p (Gp.move rfl) (by kernel_rfl) rfl ?_
  refine WL.p (Gp.nilCheck rfl) (by kernel_rfl) rfl ?_
  refine WL.p (Gp.fieldAddr rfl) (by kernel_rfl) rfl ?_
  (first | (refine WL.v (Gv.load1 rfl (by (repeat first | exact .here | apply At.there)) (by first | rfl | assumption)) (by kernel_rfl) rfl ?_) | (refine WL.v (Gv.loadN rfl (by (repeat first | exact .here | apply At.there)) (by rfl) (by rfl)) (by kernel_rfl) rfl ?_) | (refine WL.v (Gv.loadG1 rfl (by assumption) rfl) (by kernel_rfl) rfl ?_) | (refine WL.v (Gv.loadG0 rfl (by assumption) rfl) (by kernel_rfl) rfl ?_) | (refine WL.v (Gv.loadGN rfl (by assumption) rfl) (by kernel_rfl) rfl ?_))
  refine WL.p (Gp.move rfl) (by kernel_rfl) rfl ?_
  refine WL.op (by kernel_rfl) (OW.copy rfl rfl rfl hy (.there .here) ((hr.sub (by exact .cons _ (.cons _ (.cons _ (.cons _ (List.Sublist.refl _)))))) ) (vflat_length args) (vflat_one args) (by omega) rfl fun y' hy' => ?_)
  refine WL.nil ?_
  refine WK.un ?_
  have e1 : vflat args ++ (vflat (List.replicate p.locals.toNat V0)).drop (args.length * 4) = vflat (padded args p.locals) := by
    rw [padded, vflat_append]
    congr 1
    have h2 : List.replicate p.locals.toNat V0 = List.replicate args.length V0 ++ List.replicate (p.locals.toNat - args.length) V0 := by rw [List.replicate_append_replicate]; congr 1; omega
    rw [h2, vflat_append, show args.length * 4 = (vflat (List.replicate args.length V0)).length by rw [vflat_length]; simp, List.drop_left]
  rw [e1] at hy'
  refine WC.region ?_
  refine WL.p (Gp.move rfl) (by kernel_rfl) rfl ?_
  refine WL.p (Gp.move rfl) (by kernel_rfl) rfl ?_
  refine WL.p (Gp.nilCheck rfl) (by kernel_rfl) rfl ?_
  refine WL.p (Gp.fieldAddr rfl) (by kernel_rfl) rfl ?_
  (first | (refine WL.v (Gv.load1 rfl (by (repeat first | exact .here | apply At.there)) (by first | rfl | assumption)) (by kernel_rfl) rfl ?_) | (refine WL.v (Gv.loadN rfl (by (repeat first | exact .here | apply At.there)) (by rfl) (by rfl)) (by kernel_rfl) rfl ?_) | (refine WL.v (Gv.loadG1 rfl (by assumption) rfl) (by kernel_rfl) rfl ?_) | (refine WL.v (Gv.loadG0 rfl (by assumption) rfl) (by kernel_rfl) rfl ?_) | (refine WL.v (Gv.loadGN rfl (by assumption) rfl) (by kernel_rfl) rfl ?_))
  refine WL.p (Gp.move rfl) (by kernel_rfl) rfl ?_
  refine WL.op (by kernel_rfl) (OW.buildSlice rfl (by kernel_rfl) (by kernel_rfl) (by rfl) rfl fun b5 => ?_)
  refine WL.op (by kernel_rfl) (OW.append rfl rfl (by kernel_rfl) (by kernel_rfl) hv (by (repeat first | exact .here | apply At.there)) (Rds.blk0 (cs := ptrs [b4]) .here rfl) rfl rfl (by omega) (by omega) rfl fun FA' cap' x' hx' => ?_)
  refine WL.p (Gp.nilCheck rfl) (by kernel_rfl) rfl ?_
  refine WL.p (Gp.fieldAddr rfl) (by kernel_rfl) rfl ?_
  refine WL.op (by kernel_rfl) (OW.store rfl rfl (by (repeat first | exact .here | apply At.there)) rfl (by rfl) (by rfl) (by kernel_rfl) (by rfl) ?_ rfl)
  refine WL.nil ?_
  refine WK.un ?_
  refine WK.nothing ?_
  have e2 : (bs ++ [b4]).length = bs.length + 1 := by simp
  have e3 : ptrs (bs ++ [b4]) = ptrs bs ++ ptrs [b4] := by simp [ptrs]
  refine WK.un ?_
  exact QF.p0 (.inr rfl) rfl  (⟨FA', cap', b4, some ⟨vb, 0, none⟩, x', y', rfl, rfl, by rw [e2], by unfold PVec; rw [e2, e3]; exact hx', by unfold VVec; rw [hpl]; exact hy'⟩)
end Go.Proofs.YtbfgljcjblfleaaGreatDoor.Gb
namespace Go.Proofs.YtbfgljcjblfleaaGreatDoor.Gb
open Go Go.Proofs
attribute [local irreducible] Tryz.prog
def tys (l : List V) : List Int := l.map (·.t)
def callR (procs : List Pr) (l : List V) (n : Int) (depth : Nat) : Except Int (Pr × List V × List V) :=
  if n < 0 then .error 6 else
  match procs[n.toNat]? with
  | none => .error 6
  | some q =>
    if sizedP q = false then .error 6
    else if l.length < q.params.length then .error 6
    else if tys (l.drop (l.length - q.params.length)) ≠ q.params then .error 6
    else if q.result ≠ 0 ∧ 128 ≤ l.length - q.params.length then .error 6
    else if 64 ≤ depth then .error 4
    else .ok (q, l.take (l.length - q.params.length), l.drop (l.length - q.params.length))
theorem cut_list {α : Type} (l : List α) (k : Nat) (h : k ≤ l.length) : ∃ l1 l2, l = l1 ++ l2 ∧ l2.length = k ∧ l.take (l.length - k) = l1 ∧ l.drop (l.length - k) = l2 :=
  ⟨_, _, (List.take_append_drop (l.length - k) l).symm, by simp; omega, rfl, rfl⟩
theorem call_fn (G : Gh) (mb : Nat) (c1 c3 : Value) (PA : Option Addr) (pc : Nat) (procs : List Pr) (FA : Option Addr) (fcap : Nat) (en : Int) (v : V) (OA : Option Addr) (on ocap : Nat) (st : Int) (ed : Bool) (bs : List Nat) (fx : Own)
    (hG : Sl Kd.prc G PA procs) (hfv : PVec FA fcap bs fx) (hbs : bs.length ≤ 1000000000)
    (b : Nat) (A : Option Addr) (cap : Nat) (p a : Int) (B : Option Addr) (m cm : Nat) (l : List V) (x : Own) (hv : VVec A cap l x) (hl : l.length ≤ 1000000) (n : Int) :
    Fn Tryz.prog 59 #[.pointer (some ⟨mb, 0, none⟩), .pointer (some ⟨b, 0, none⟩), .int .i64 n] G [mcB mb c1 (.slice PA procs.length pc) c3 FA bs.length fcap en v OA on ocap st ed, fx, frB b A l.length cap p a B m cm, x]
      fun e G' H' => G = G' ∧ match callR procs l n bs.length with
        | .error k => e = halted k ∧ ∃ H1, Left b H1 ∧ H' = mcB mb c1 (.slice PA procs.length pc) c3 FA bs.length fcap en v OA on ocap st ed :: fx :: H1
        | .ok (q, r, args) => ∃ FA' fcap' b' VA x' y, e = .returned (.tuple #[]) ∧ H' = [mcB mb c1 (.slice PA procs.length pc) c3 FA' (bs ++ [b']).length fcap' en v OA on ocap st ed, x', frB b A r.length cap p a B m cm, x, frB b' none 0 0 n 0 VA (padded args q.locals).length (padded args q.locals).length, .spare 0 0 0, y] ∧
            PVec FA' fcap' (bs ++ [b']) x' ∧ VVec VA (padded args q.locals).length (padded args q.locals) y ∧ VVec A cap r x := by
  refine Fn.enter Tryz.func59 rfl rfl fun w0 => ?_
  refine WC.seq ?_
  refine WC.region ?_
  refine WL.p (Gp.move rfl) (by kernel_rfl) rfl ?_
  (first | refine WL.p (Gp.geI rfl rfl) (by kernel_rfl) rfl ?_ | refine WL.p (Gp.geS rfl rfl) (by kernel_rfl) rfl ?_)
  refine WL.p (Gp.move rfl) (by kernel_rfl) rfl ?_
  by_cases hn0 : n < 0
  · rw [show decide ((0 : Int) ≤ n) = false by simpa using hn0]
    refine WL.skip (by kernel_rfl) rfl ?_
    refine WL.skip (by kernel_rfl) rfl ?_
    refine WL.skip (by kernel_rfl) rfl ?_
    refine WL.skip (by kernel_rfl) rfl ?_
    refine WL.skip (by kernel_rfl) rfl ?_
    refine WL.skip (by kernel_rfl) rfl ?_
    refine WL.skip (by kernel_rfl) rfl ?_
    refine WL.skip (by kernel_rfl) rfl ?_
    (first | refine WL.p (Gp.pickT rfl rfl) (by kernel_rfl) rfl ?_ | refine WL.p (Gp.pickF rfl rfl) (by kernel_rfl) rfl ?_)
    refine WL.p (Gp.move rfl) (by kernel_rfl) rfl ?_
    refine WL.skip (by kernel_rfl) rfl ?_
    refine WL.skip (by kernel_rfl) rfl ?_
    refine WL.skip (by kernel_rfl) rfl ?_
    refine WL.skip (by kernel_rfl) rfl ?_
    refine WL.skip (by kernel_rfl) rfl ?_
    refine WL.skip (by kernel_rfl) rfl ?_
    refine WL.skip (by kernel_rfl) rfl ?_
    refine WL.skip (by kernel_rfl) rfl ?_
    refine WL.skip (by kernel_rfl) rfl ?_
    (first | refine WL.p (Gp.pickT rfl rfl) (by kernel_rfl) rfl ?_ | refine WL.p (Gp.pickF rfl rfl) (by kernel_rfl) rfl ?_)
    refine WL.op (by kernel_rfl) (OW.call rfl (Hf := []) (List.Perm.refl _) (need_no _) rfl (fun v G' H' h _ => by cases h.1) (fun ch G' H' h _ => ?_) (fun G' H' h => by cases h.1))
    obtain ⟨he, rfl, rfl⟩ := h
    cases he
    refine WK.un ?_
    exact QF.panicP (⟨rfl, by rw [callR, if_pos hn0]; exact ⟨rfl, _, Left.of b A l.length cap p a B m cm, rfl⟩⟩)
  obtain ⟨i, rfl⟩ := Int.eq_ofNat_of_zero_le (Int.not_lt.1 hn0)
  rw [show decide ((0 : Int) ≤ (i : Int)) = true by simp]
  refine WL.p (Gp.move rfl) (by kernel_rfl) rfl ?_
  refine WL.p (Gp.move rfl) (by kernel_rfl) rfl ?_
  refine WL.p (Gp.nilCheck rfl) (by kernel_rfl) rfl ?_
  refine WL.p (Gp.fieldAddr rfl) (by kernel_rfl) rfl ?_
  refine WL.p (Gp.fieldAddr rfl) (by kernel_rfl) rfl ?_
  (first | (refine WL.v (Gv.load1 rfl (by (repeat first | exact .here | apply At.there)) (by first | rfl | assumption)) (by kernel_rfl) rfl ?_) | (refine WL.v (Gv.loadN rfl (by (repeat first | exact .here | apply At.there)) (by rfl) (by rfl)) (by kernel_rfl) rfl ?_) | (refine WL.v (Gv.loadG1 rfl (by assumption) rfl) (by kernel_rfl) rfl ?_) | (refine WL.v (Gv.loadG0 rfl (by assumption) rfl) (by kernel_rfl) rfl ?_) | (refine WL.v (Gv.loadGN rfl (by assumption) rfl) (by kernel_rfl) rfl ?_))
  (first | refine WL.p (Gp.lenSl rfl) (by kernel_rfl) rfl ?_ | refine WL.p (Gp.lenS rfl) (by kernel_rfl) rfl ?_)
  (first | refine WL.p (Gp.ltI rfl rfl) (by kernel_rfl) rfl ?_ | refine WL.p (Gp.ltS rfl rfl) (by kernel_rfl) rfl ?_)
  by_cases hn1 : i < procs.length
  rotate_left
  · rw [show decide ((i : Int) < (procs.length : Int)) = false by simp; omega]
    (first | refine WL.p (Gp.pickT rfl rfl) (by kernel_rfl) rfl ?_ | refine WL.p (Gp.pickF rfl rfl) (by kernel_rfl) rfl ?_)
    refine WL.p (Gp.move rfl) (by kernel_rfl) rfl ?_
    refine WL.skip (by kernel_rfl) rfl ?_
    refine WL.skip (by kernel_rfl) rfl ?_
    refine WL.skip (by kernel_rfl) rfl ?_
    refine WL.skip (by kernel_rfl) rfl ?_
    refine WL.skip (by kernel_rfl) rfl ?_
    refine WL.skip (by kernel_rfl) rfl ?_
    refine WL.skip (by kernel_rfl) rfl ?_
    refine WL.skip (by kernel_rfl) rfl ?_
    refine WL.skip (by kernel_rfl) rfl ?_
    (first | refine WL.p (Gp.pickT rfl rfl) (by kernel_rfl) rfl ?_ | refine WL.p (Gp.pickF rfl rfl) (by kernel_rfl) rfl ?_)
    refine WL.op (by kernel_rfl) (OW.call rfl (Hf := []) (List.Perm.refl _) (need_no _) rfl (fun v G' H' h _ => by cases h.1) (fun ch G' H' h _ => ?_) (fun G' H' h => by cases h.1))
    obtain ⟨he, rfl, rfl⟩ := h
    cases he
    refine WK.un ?_
    exact QF.panicP (⟨rfl, by rw [callR, if_neg hn0, Int.toNat_natCast, List.getElem?_eq_none (by omega)]; exact ⟨rfl, _, Left.of b A l.length cap p a B m cm, rfl⟩⟩)
  rw [show decide ((i : Int) < (procs.length : Int)) = true by simp; omega]
  obtain ⟨q, hq⟩ : ∃ q, procs[i]? = some q := ⟨_, List.getElem?_eq_getElem hn1⟩
  obtain ⟨pb, po, cs, rfl, ⟨QA, qc, CA, cc, rfl, hQ, hC⟩, hcs⟩ := hG i q hq
  have hcR : callR procs l (i : Int) bs.length = if sizedP q = false then .error 6 else if l.length < q.params.length then .error 6 else if tys (l.drop (l.length - q.params.length)) ≠ q.params then .error 6 else if q.result ≠ 0 ∧ 128 ≤ l.length - q.params.length then .error 6 else if 64 ≤ bs.length then .error 4 else .ok (q, l.take (l.length - q.params.length), l.drop (l.length - q.params.length)) := by
    rw [callR, if_neg hn0, Int.toNat_natCast, hq]
  rw [hcR]
  (first | refine WL.p (Gp.pickT rfl rfl) (by kernel_rfl) rfl ?_ | refine WL.p (Gp.pickF rfl rfl) (by kernel_rfl) rfl ?_)
  refine WL.p (Gp.move rfl) (by kernel_rfl) rfl ?_
  refine WL.p (Gp.move rfl) (by kernel_rfl) rfl ?_
  refine WL.p (Gp.nilCheck rfl) (by kernel_rfl) rfl ?_
  refine WL.p (Gp.fieldAddr rfl) (by kernel_rfl) rfl ?_
  refine WL.p (Gp.fieldAddr rfl) (by kernel_rfl) rfl ?_
  (first | (refine WL.v (Gv.load1 rfl (by (repeat first | exact .here | apply At.there)) (by first | rfl | assumption)) (by kernel_rfl) rfl ?_) | (refine WL.v (Gv.loadN rfl (by (repeat first | exact .here | apply At.there)) (by rfl) (by rfl)) (by kernel_rfl) rfl ?_) | (refine WL.v (Gv.loadG1 rfl (by assumption) rfl) (by kernel_rfl) rfl ?_) | (refine WL.v (Gv.loadG0 rfl (by assumption) rfl) (by kernel_rfl) rfl ?_) | (refine WL.v (Gv.loadGN rfl (by assumption) rfl) (by kernel_rfl) rfl ?_))
  refine WL.p (Gp.move rfl) (by kernel_rfl) rfl ?_
  refine WL.p (Gp.indexAddr rfl rfl (by first | assumption | omega | decide) (by first | assumption | omega | decide | (simp only [List.length_cons, List.length_nil]; decide))) (by kernel_rfl) rfl ?_
  refine WL.v (Gv.loadGN rfl hcs rfl) (by kernel_rfl) rfl ?_
  refine WL.op (by kernel_rfl) (OW.callR rfl (Hf := []) (List.Perm.refl _) (sized_fn G q.name q.exp QA q.params.length qc q.locals q.result (.slice CA q.code.length cc)) rfl (by rintro e G' H' ⟨h, _⟩; exact ⟨_, h⟩) fun v' G' H' h hg => ?_)
  obtain ⟨he, rfl, rfl⟩ := h
  cases he
  (first | refine WL.p (Gp.pickT rfl rfl) (by kernel_rfl) rfl ?_ | refine WL.p (Gp.pickF rfl rfl) (by kernel_rfl) rfl ?_)
  by_cases hs : sizedP q = false
  · rw [show (decide ((q.params.length : Int) ≤ q.locals) && decide (q.locals ≤ 64)) = false from hs]
    refine WL.op (by kernel_rfl) (OW.call rfl (Hf := []) (List.Perm.refl _) (need_no _) rfl (fun v G' H' h _ => by cases h.1) (fun ch G' H' h _ => ?_) (fun G' H' h => by cases h.1))
    obtain ⟨he, rfl, rfl⟩ := h
    cases he
    refine WK.un ?_
    exact QF.panicP (⟨rfl, by rw [if_pos hs]; exact ⟨rfl, _, Left.of b A l.length cap p a B m cm, rfl⟩⟩)
  rw [show (decide ((q.params.length : Int) ≤ q.locals) && decide (q.locals ≤ 64)) = true by have h := hs; unfold sizedP at h; simpa using h]
  rw [if_neg hs]
  have hs' : (q.params.length : Int) ≤ q.locals ∧ q.locals ≤ 64 := by have h := hs; unfold sizedP at h; simpa using h
  refine WL.op (by kernel_rfl) (OW.callR rfl (Hf := []) (List.Perm.refl _) (need_ok G) rfl (by rintro e G' H' ⟨h, _⟩; exact ⟨_, h⟩) fun v' G' H' h hg => ?_)
  obtain ⟨he, rfl, rfl⟩ := h
  cases he
  refine WL.nil ?_
  refine WK.un ?_
  refine WC.seq ?_
  refine WC.region ?_
  refine WL.p (Gp.move rfl) (by kernel_rfl) rfl ?_
  refine WL.p (Gp.nilCheck rfl) (by kernel_rfl) rfl ?_
  refine WL.p (Gp.fieldAddr rfl) (by kernel_rfl) rfl ?_
  refine WL.p (Gp.fieldAddr rfl) (by kernel_rfl) rfl ?_
  (first | (refine WL.v (Gv.load1 rfl (by (repeat first | exact .here | apply At.there)) (by first | rfl | assumption)) (by kernel_rfl) rfl ?_) | (refine WL.v (Gv.loadN rfl (by (repeat first | exact .here | apply At.there)) (by rfl) (by rfl)) (by kernel_rfl) rfl ?_) | (refine WL.v (Gv.loadG1 rfl (by assumption) rfl) (by kernel_rfl) rfl ?_) | (refine WL.v (Gv.loadG0 rfl (by assumption) rfl) (by kernel_rfl) rfl ?_) | (refine WL.v (Gv.loadGN rfl (by assumption) rfl) (by kernel_rfl) rfl ?_))
  refine WL.p (Gp.move rfl) (by kernel_rfl) rfl ?_
  refine WL.p (Gp.indexAddr rfl rfl (by first | assumption | omega | decide) (by first | assumption | omega | decide | (simp only [List.length_cons, List.length_nil]; decide))) (by kernel_rfl) rfl ?_
  refine WL.v (Gv.loadGN rfl hcs rfl) (by kernel_rfl) rfl ?_
  refine WL.op (by kernel_rfl) (OW.alloc rfl fun b1 => ?_)
  refine WL.op (by kernel_rfl) (OW.store rfl rfl (by (repeat first | exact .here | apply At.there)) rfl (by rfl) (by rfl) (by kernel_rfl) (by rfl) ?_ rfl)
  refine WL.nil ?_
  refine WK.un ?_
  refine WC.seq ?_
  refine WC.region ?_
  refine WL.p (Gp.move rfl) (by kernel_rfl) rfl ?_
  refine WL.p (Gp.move rfl) (by kernel_rfl) rfl ?_
  refine WL.p (Gp.fieldAddr rfl) (by kernel_rfl) rfl ?_
  (first | (refine WL.v (Gv.load1 rfl (by (repeat first | exact .here | apply At.there)) (by first | rfl | assumption)) (by kernel_rfl) rfl ?_) | (refine WL.v (Gv.loadN rfl (by (repeat first | exact .here | apply At.there)) (by rfl) (by rfl)) (by kernel_rfl) rfl ?_) | (refine WL.v (Gv.loadG1 rfl (by assumption) rfl) (by kernel_rfl) rfl ?_) | (refine WL.v (Gv.loadG0 rfl (by assumption) rfl) (by kernel_rfl) rfl ?_) | (refine WL.v (Gv.loadGN rfl (by assumption) rfl) (by kernel_rfl) rfl ?_))
  (first | refine WL.p (Gp.lenSl rfl) (by kernel_rfl) rfl ?_ | refine WL.p (Gp.lenS rfl) (by kernel_rfl) rfl ?_)
  by_cases hk : l.length < q.params.length
  · rw [if_pos hk]
    refine WL.op (by kernel_rfl) (OW.call rfl (Pk.perm (by repeat (first | exact Pk.nil | exact Pk.all | exact Pk.app | exact Pk.appR | with_reducible apply Pk.na | (apply Pk.cons; (repeat first | exact .here | apply Rem.there | apply Rem.app)) | apply Pk.skip | apply Pk.skipA))) (take_no G _ b A l.length cap p a B m cm q.params.length (by omega)) rfl (fun v' G' H' h hg => by cases h.1) (fun ch G' H' h hg => ?_) (fun G' H' h => by repeat (first | (cases h.1; done) | (cases h; done) | (obtain ⟨_, h⟩ := h) | (rcases h with h | h))))
    obtain ⟨he, rfl, c, hc, rfl⟩ := h
    cases he
    refine WK.un ?_
    exact QF.panicP ⟨rfl, rfl, _, ⟨c, hc, rfl⟩, rfl⟩ (by repeat (first | exact Pk.nil | exact Pk.all | exact Pk.app | exact Pk.appR | with_reducible apply Pk.na | (apply Pk.cons; (repeat first | exact .here | apply Rem.there | apply Rem.app)) | apply Pk.skip | apply Pk.skipA))
  rw [if_neg hk]
  obtain ⟨l1, l2, rfl, hl2, ht, hd⟩ := cut_list l q.params.length (by omega)
  rw [ht, hd]
  have hl1 : (l1 ++ l2).length - q.params.length = l1.length := by rw [← hl2]; simp
  rw [hl1]
  rw [← hl2]
  refine WL.op (by kernel_rfl) (OW.callK rfl (take_ok G _ b A cap p a B m cm l1 l2 x hv (by simp at hl; omega)) rfl fun v' G' H' h hg => ?_)
  obtain ⟨A', cap', x', he, rfl, rfl, hv1, hv2⟩ := h
  cases he
  refine WL.p (Gp.assign rfl) (by kernel_rfl) rfl ?_
  refine WL.nil ?_
  refine WK.un ?_
  refine WC.seq ?_
  refine WC.seq ?_
  refine WC.region ?_
  refine WL.p (Gp.move rfl) (by kernel_rfl) rfl ?_
  (first | refine WL.p (Gp.lenSl rfl) (by kernel_rfl) rfl ?_ | refine WL.p (Gp.lenS rfl) (by kernel_rfl) rfl ?_)
  refine WL.p (Gp.move rfl) (by kernel_rfl) rfl ?_
  refine WL.nil ?_
  refine WK.un ?_
  refine WC.block ?_  -- 0
  refine WC.pk (H' := [x', frB b A l1.length cap p a B m cm, x, .blk b1 (.cells #[.string q.name, .bool q.exp, .slice QA l2.length qc, .int .i64 q.locals, .int .i64 q.result, .slice CA q.code.length cc] 65 (0, 0)), mcB mb c1 (.slice (some ⟨pb, po, none⟩) procs.length pc) c3 FA bs.length fcap en v OA on ocap st ed, fx]) (by repeat (first | exact Pk.nil | exact Pk.all | exact Pk.app | exact Pk.appR | with_reducible apply Pk.na | (apply Pk.cons; (repeat first | exact .here | apply Rem.there | apply Rem.app)) | apply Pk.skip | apply Pk.skipA)) ?_
  refine WC.loop (X := Nat) (fun j => [(50, .int .i64 j), (49, .int .i64 l2.length), (48, .slice A' l2.length cap'), (7, .slice A' l2.length cap'), (6, .pointer (some ⟨b1, 0, none⟩)), (0, .pointer (some ⟨mb, 0, none⟩)), (1, .pointer (some ⟨b, 0, none⟩)), (2, .int .i64 i)]) (fun j => G) (fun j => [x', frB b A l1.length cap p a B m cm, x, .blk b1 (.cells #[.string q.name, .bool q.exp, .slice QA l2.length qc, .int .i64 q.locals, .int .i64 q.result, .slice CA q.code.length cc] 65 (0, 0)), mcB mb c1 (.slice (some ⟨pb, po, none⟩) procs.length pc) c3 FA bs.length fcap en v OA on ocap st ed, fx]) (fun j => l2.length - j) (fun j => j ≤ l2.length ∧ ∀ k (u : V) t, k < j → l2[k]? = some u → q.params[k]? = some t → u.t = t) 0 ⟨by omega, fun k u t h => by omega⟩ (by exact ⟨rfl, rfl, rfl, rfl, rfl, rfl, rfl, rfl, trivial⟩) rfl (List.Sublist.refl _) fun j hx => ?_
  obtain ⟨hj, hall⟩ := hx
  refine WC.seq ?_
  refine WC.region ?_
  (first | refine WL.p (Gp.ltI rfl rfl) (by kernel_rfl) rfl ?_ | refine WL.p (Gp.ltS rfl rfl) (by kernel_rfl) rfl ?_)
  refine WL.nil ?_
  refine WK.un ?_
  refine WC.seq ?_
  refine WC.cond rfl (fun hc2 => ?_) (fun hc2 => ?_)
  · -- yes
    have hlt : j < l2.length := by have h := hc2; simp at h; omega
    obtain ⟨u, hu⟩ : ∃ u, l2[j]? = some u := ⟨_, List.getElem?_eq_getElem hlt⟩
    obtain ⟨t, ht⟩ : ∃ t, q.params[j]? = some t := ⟨_, List.getElem?_eq_getElem (by omega)⟩
    obtain ⟨qb, qo, cs, rfl, hK, hcsq⟩ := hQ j t ht
    obtain rfl : cs = [.int .i64 t] := hK
    obtain ⟨hlv, ⟨h1, h2, h3, h4⟩ | ⟨b', c, rfl, rfl, h1, h2, h3⟩⟩ := hv1
    · omega
    refine WC.skip ?_
    refine WK.un ?_
    refine WC.seq ?_
    refine WC.block ?_  -- 1
    refine WC.seq ?_
    refine WC.region ?_
    refine WL.p (Gp.move rfl) (by kernel_rfl) rfl ?_
    refine WL.p (Gp.indexAddr rfl rfl (by first | assumption | omega | decide) (by first | assumption | omega | decide | (simp only [List.length_cons, List.length_nil]; decide))) (by kernel_rfl) rfl ?_
    refine WL.v (Gv.loadN rfl .here (VVec.elem (A := none) (cap := 0) (b := 0) h3 hu) rfl) (by kernel_rfl) rfl ?_
    refine WL.op (by kernel_rfl) (OW.alloc rfl fun b3 => ?_)
    refine WL.p (Gp.assign rfl) (by kernel_rfl) rfl ?_
    refine WL.op (by kernel_rfl) (OW.store rfl rfl (by (repeat first | exact .here | apply At.there)) rfl (by rfl) (by rfl) (by kernel_rfl) (by rfl) ?_ rfl)
    refine WL.nil ?_
    refine WK.un ?_
    refine WC.draw mixed ?_
    refine WA.tp (i := 0) rfl (by kernel_rfl) (by kernel_rfl) rfl (Gp.fieldAddr rfl) ?_
    (first | (refine WA.tv (i := 1) rfl (by kernel_rfl) (by kernel_rfl) rfl (Gv.load1 rfl (by (repeat first | exact .here | apply At.there)) (by first | rfl | assumption)) ?_) | (refine WA.tv (i := 1) rfl (by kernel_rfl) (by kernel_rfl) rfl (Gv.loadN rfl (by (repeat first | exact .here | apply At.there)) (by rfl) (by rfl)) ?_) | (refine WA.tv (i := 1) rfl (by kernel_rfl) (by kernel_rfl) rfl (Gv.loadG1 rfl (by assumption) rfl) ?_) | (refine WA.tv (i := 1) rfl (by kernel_rfl) (by kernel_rfl) rfl (Gv.loadG0 rfl (by assumption) rfl) ?_) | (refine WA.tv (i := 1) rfl (by kernel_rfl) (by kernel_rfl) rfl (Gv.loadGN rfl (by assumption) rfl) ?_))
    refine WA.tp (i := 2) rfl (by kernel_rfl) (by kernel_rfl) rfl (Gp.fieldAddr rfl) ?_
    (first | (refine WA.tv (i := 3) rfl (by kernel_rfl) (by kernel_rfl) rfl (Gv.load1 rfl (by (repeat first | exact .here | apply At.there)) (by first | rfl | assumption)) ?_) | (refine WA.tv (i := 3) rfl (by kernel_rfl) (by kernel_rfl) rfl (Gv.loadN rfl (by (repeat first | exact .here | apply At.there)) (by rfl) (by rfl)) ?_) | (refine WA.tv (i := 3) rfl (by kernel_rfl) (by kernel_rfl) rfl (Gv.loadG1 rfl (by assumption) rfl) ?_) | (refine WA.tv (i := 3) rfl (by kernel_rfl) (by kernel_rfl) rfl (Gv.loadG0 rfl (by assumption) rfl) ?_) | (refine WA.tv (i := 3) rfl (by kernel_rfl) (by kernel_rfl) rfl (Gv.loadGN rfl (by assumption) rfl) ?_))
    refine WA.tp (i := 4) rfl (by kernel_rfl) (by kernel_rfl) rfl (Gp.move rfl) ?_
    refine WA.tp (i := 5) rfl (by kernel_rfl) (by kernel_rfl) rfl (Gp.indexAddr rfl rfl (by first | assumption | omega | decide) (by first | assumption | omega | decide | (simp only [List.length_cons, List.length_nil]; decide))) ?_
    refine WA.tv (i := 6) rfl (by kernel_rfl) (by kernel_rfl) rfl (Gv.loadG0 rfl hcsq rfl) ?_
    (first | refine WA.tp (i := 7) rfl (by kernel_rfl) (by kernel_rfl) rfl (Gp.eqI rfl rfl) ?_ | refine WA.tp (i := 7) rfl (by kernel_rfl) (by kernel_rfl) rfl (Gp.eqS rfl rfl) ?_ | refine WA.tp (i := 7) rfl (by kernel_rfl) (by kernel_rfl) rfl (Gp.nilSl rfl) ?_ | refine WA.tp (i := 7) rfl (by kernel_rfl) (by kernel_rfl) rfl (Gp.eqB rfl rfl) ?_)
    by_cases htt : u.t = t
    · rw [show (u.t == t) = true by simpa using htt]
      refine WA.one (i := 8) (by kernel_rfl) rfl (by kernel_rfl) (OW.callR rfl (Hf := []) (List.Perm.refl _) (need_ok G) rfl (by rintro e G' H' ⟨h, _⟩; exact ⟨_, h⟩) fun v' G' H' h hg => ?_)
      obtain ⟨he, rfl, rfl⟩ := h
      cases he
      refine WA.done (by kernel_rfl) ?_
      refine WK.un ?_
      refine WC.region ?_
      (first | refine WL.p (Gp.add rfl rfl) (by kernel_rfl) rfl ?_ | refine WL.p (Gp.addS rfl rfl (by first | assumption | omega)) (by kernel_rfl) rfl ?_)
      refine WL.p (Gp.move rfl) (by kernel_rfl) rfl ?_
      refine WL.nil ?_
      refine WK.un ?_
      exact WK.again (j + 1) (by omega) ⟨by omega, fun k u' t' hk hu' ht' => by
        rcases Nat.lt_or_ge k j with h | h
        · exact hall k u' t' h hu' ht'
        · obtain rfl : k = j := by omega
          rw [hu] at hu'; rw [ht] at ht'; cases hu'; cases ht'; exact htt⟩ (by refine ⟨?_, rfl, rfl, rfl, rfl, rfl, rfl, rfl, trivial⟩; show some _ = some _; rw [wrap_small (by omega) (by simp at hl; omega)]; rfl) rfl (by exact .cons _ (List.Sublist.refl _))
    · rw [show (u.t == t) = false by simpa using htt]
      have hne : tys l2 ≠ q.params := fun h => htt (by
        have h1 := congrArg (fun l => l[j]?) h
        simp only [tys, List.getElem?_map, hu, ht, Option.map_some, Option.some.injEq] at h1
        exact h1)
      rw [if_pos hne]
      refine WA.one (i := 8) (by kernel_rfl) rfl (by kernel_rfl) (OW.call rfl (Hf := []) (List.Perm.refl _) (need_no _) rfl (fun v G' H' h _ => by cases h.1) (fun ch G' H' h _ => ?_) (fun G' H' h => by cases h.1))
      obtain ⟨he, rfl, rfl⟩ := h
      cases he
      refine WK.un ?_
      exact QF.panicP (⟨rfl, rfl, _, Left.of b A l1.length cap p a B m cm, rfl⟩)
  · -- no
    have hge : j = l2.length := by have h := hc2; simp at h; omega
    have heq : tys l2 = q.params := by
      apply List.ext_getElem?
      intro k
      rcases Nat.lt_or_ge k l2.length with hk' | hk'
      · obtain ⟨u, hu⟩ : ∃ u, l2[k]? = some u := ⟨_, List.getElem?_eq_getElem hk'⟩
        obtain ⟨t, ht⟩ : ∃ t, q.params[k]? = some t := ⟨_, List.getElem?_eq_getElem (by omega)⟩
        rw [tys, List.getElem?_map, hu, ht, Option.map_some, hall k u t (by omega) hu ht]
      · rw [List.getElem?_eq_none (by simpa [tys] using hk'), List.getElem?_eq_none (by omega)]
    rw [if_neg (show ¬ tys l2 ≠ q.params from fun h => h heq)]
    refine WC.exit ?_
    refine WK.un ?_
    refine WC.join (X := Unit) (fun _ => [(7, .slice A' l2.length cap'), (0, .pointer (some ⟨mb, 0, none⟩)), (1, .pointer (some ⟨b, 0, none⟩)), (2, .int .i64 i)]) (fun _ => G) (fun _ => [x', frB b A l1.length cap p a B m cm, x, mcB mb c1 (.slice (some ⟨pb, po, none⟩) procs.length pc) c3 FA bs.length fcap en v OA on ocap st ed, fx]) (fun _ => ¬ (q.result ≠ 0 ∧ 128 ≤ l1.length)) ?_ fun _ hok => ?_
    · refine WC.seq ?_
      refine WC.region ?_
      refine WL.p (Gp.fieldAddr rfl) (by kernel_rfl) rfl ?_
      (first | (refine WL.v (Gv.load1 rfl (by (repeat first | exact .here | apply At.there)) (by first | rfl | assumption)) (by kernel_rfl) rfl ?_) | (refine WL.v (Gv.loadN rfl (by (repeat first | exact .here | apply At.there)) (by rfl) (by rfl)) (by kernel_rfl) rfl ?_) | (refine WL.v (Gv.loadG1 rfl (by assumption) rfl) (by kernel_rfl) rfl ?_) | (refine WL.v (Gv.loadG0 rfl (by assumption) rfl) (by kernel_rfl) rfl ?_) | (refine WL.v (Gv.loadGN rfl (by assumption) rfl) (by kernel_rfl) rfl ?_))
      (first | refine WL.p (Gp.neI rfl rfl) (by kernel_rfl) rfl ?_ | refine WL.p (Gp.neS rfl rfl) (by kernel_rfl) rfl ?_ | refine WL.p (Gp.neB rfl rfl) (by kernel_rfl) rfl ?_)
      refine WL.nil ?_
      refine WK.un ?_
      refine WC.cond rfl (fun hc4 => ?_) (fun hc4 => ?_)
      · -- yes
        have hr0 : q.result ≠ 0 := by simpa using hc4
        refine WC.region ?_
        refine WL.p (Gp.move rfl) (by kernel_rfl) rfl ?_
        refine WL.p (Gp.nilCheck rfl) (by kernel_rfl) rfl ?_
        refine WL.p (Gp.fieldAddr rfl) (by kernel_rfl) rfl ?_
        refine WL.op (by kernel_rfl) (OW.callK rfl (high_fn G b A l1.length cap p a B m cm) rfl fun v' G' H' h hg => ?_)
        obtain ⟨he, rfl, rfl⟩ := h
        cases he
        (first | refine WL.p (Gp.ltI rfl rfl) (by kernel_rfl) rfl ?_ | refine WL.p (Gp.ltS rfl rfl) (by kernel_rfl) rfl ?_)
        by_cases h128 : 128 ≤ l1.length
        · rw [show decide ((l1.length : Int) < 128) = false by simp; omega]
          rw [if_pos ⟨hr0, h128⟩]
          refine WL.op (by kernel_rfl) (OW.call rfl (Hf := []) (List.Perm.refl _) (need_no _) rfl (fun v G' H' h _ => by cases h.1) (fun ch G' H' h _ => ?_) (fun G' H' h => by cases h.1))
          obtain ⟨he, rfl, rfl⟩ := h
          cases he
          refine WK.un ?_
          exact QF.panicP (⟨rfl, rfl, _, Left.of b A l1.length cap p a B m cm, rfl⟩)
        · rw [show decide ((l1.length : Int) < 128) = true by simp; omega]
          refine WL.op (by kernel_rfl) (OW.callR rfl (Hf := []) (List.Perm.refl _) (need_ok G) rfl (by rintro e G' H' ⟨h, _⟩; exact ⟨_, h⟩) fun v' G' H' h hg => ?_)
          obtain ⟨he, rfl, rfl⟩ := h
          cases he
          refine WL.nil ?_
          refine WK.un ?_
          refine WK.pk (H' := [x', frB b A l1.length cap p a B m cm, x, mcB mb c1 (.slice (some ⟨pb, po, none⟩) procs.length pc) c3 FA bs.length fcap en v OA on ocap st ed, fx]) (by repeat (first | exact Pk.nil | exact Pk.all | exact Pk.app | exact Pk.appR | with_reducible apply Pk.na | (apply Pk.cons; (repeat first | exact .here | apply Rem.there | apply Rem.app)) | apply Pk.skip | apply Pk.skipA)) ?_
          exact WK.meet () (fun h => h128 h.2) (by exact ⟨rfl, rfl, rfl, rfl, trivial⟩) rfl (List.Sublist.refl _)
      · -- no
        have hr0 : q.result = 0 := by simpa using hc4
        refine WC.skip ?_
        refine WK.un ?_
        refine WK.pk (H' := [x', frB b A l1.length cap p a B m cm, x, mcB mb c1 (.slice (some ⟨pb, po, none⟩) procs.length pc) c3 FA bs.length fcap en v OA on ocap st ed, fx]) (by repeat (first | exact Pk.nil | exact Pk.all | exact Pk.app | exact Pk.appR | with_reducible apply Pk.na | (apply Pk.cons; (repeat first | exact .here | apply Rem.there | apply Rem.app)) | apply Pk.skip | apply Pk.skipA)) ?_
        exact WK.meet () (fun h => h.1 hr0) (by exact ⟨rfl, rfl, rfl, rfl, trivial⟩) rfl (List.Sublist.refl _)
    rw [if_neg hok]
    refine WC.seq ?_
    refine WC.seq ?_
    refine WC.region ?_
    refine WL.p (Gp.move rfl) (by kernel_rfl) rfl ?_
    refine WL.p (Gp.nilCheck rfl) (by kernel_rfl) rfl ?_
    refine WL.p (Gp.fieldAddr rfl) (by kernel_rfl) rfl ?_
    (first | (refine WL.v (Gv.load1 rfl (by (repeat first | exact .here | apply At.there)) (by first | rfl | assumption)) (by kernel_rfl) rfl ?_) | (refine WL.v (Gv.loadN rfl (by (repeat first | exact .here | apply At.there)) (by rfl) (by rfl)) (by kernel_rfl) rfl ?_) | (refine WL.v (Gv.loadG1 rfl (by assumption) rfl) (by kernel_rfl) rfl ?_) | (refine WL.v (Gv.loadG0 rfl (by assumption) rfl) (by kernel_rfl) rfl ?_) | (refine WL.v (Gv.loadGN rfl (by assumption) rfl) (by kernel_rfl) rfl ?_))
    (first | refine WL.p (Gp.lenSl rfl) (by kernel_rfl) rfl ?_ | refine WL.p (Gp.lenS rfl) (by kernel_rfl) rfl ?_)
    (first | refine WL.p (Gp.geI rfl rfl) (by kernel_rfl) rfl ?_ | refine WL.p (Gp.geS rfl rfl) (by kernel_rfl) rfl ?_)
    refine WL.nil ?_
    refine WK.un ?_
    refine WC.cond rfl (fun hc5 => ?_) (fun hc5 => ?_)
    · -- yes
      have h64 : 64 ≤ bs.length := by have h := hc5; simp at h; omega
      refine WC.region ?_
      refine WL.p (Gp.build rfl rfl) (by kernel_rfl) rfl ?_
      refine WL.p (Gp.mkIface rfl (by kernel_rfl)) (by kernel_rfl) rfl ?_
      rw [if_pos h64]
      refine WL.op (by kernel_rfl) (OW.panic rfl ?_)
      refine WK.un ?_
      exact QF.panicP ⟨rfl, rfl, _, Left.of b A l1.length cap p a B m cm, rfl⟩ (by repeat (first | exact Pk.nil | exact Pk.all | exact Pk.app | exact Pk.appR | with_reducible apply Pk.na | (apply Pk.cons; (repeat first | exact .here | apply Rem.there | apply Rem.app)) | apply Pk.skip | apply Pk.skipA))
    · -- no
      have h64 : ¬ 64 ≤ bs.length := by have h := hc5; simp at h; omega
      rw [if_neg h64]
      refine WC.skip ?_
      refine WK.un ?_
      refine WC.region ?_
      refine WL.p (Gp.move rfl) (by kernel_rfl) rfl ?_
      refine WL.p (Gp.move rfl) (by kernel_rfl) rfl ?_
      refine WL.p (Gp.move rfl) (by kernel_rfl) rfl ?_
      refine WL.op (by kernel_rfl) (OW.callK rfl (enter_fn G mb c1 c3 (some ⟨pb, po, none⟩) procs.length pc procs FA fcap en v OA on ocap st ed bs fx i q hq rfl hG hfv hbs A' cap' l2 [x'] (hv1.rds .here) (by omega) hs'.2) rfl fun v' G' H' h hg => ?_)
      obtain ⟨FA', fcap', b', VA, x'', y, he, rfl, rfl, hx2, hy2⟩ := h
      cases he
      refine WL.nil ?_
      refine WK.un ?_
      exact QF.p0 (.inr rfl) rfl  (⟨rfl, FA', fcap', b', VA, x'', y, rfl, rfl, hx2, hy2, hv2⟩)
end Go.Proofs.YtbfgljcjblfleaaGreatDoor.Gb
