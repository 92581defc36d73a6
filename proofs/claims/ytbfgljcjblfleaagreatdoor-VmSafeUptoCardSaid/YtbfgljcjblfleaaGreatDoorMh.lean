/- A frame is left. Two values are held against one another; too few for an operation; what an instruction without a number comes to. Instructions without a number: dropped, left, printed. -/
import Derived.Test.YtbfgljcjblfleaaGreatDoorMg
set_option linter.unusedVariables false
set_option linter.unusedSimpArgs false
set_option linter.unusedSectionVars false
namespace Go.Proofs.YtbfgljcjblfleaaGreatDoor.Gb
open Go Go.Proofs
attribute [local irreducible] Tryz.prog
def lastV (v : V) (l : List V) : V := l.getLastD v
theorem lastV_take (v : V) (l : List V) (j : Nat) (u : V) (h : l[j]? = some u) : lastV v (l.take (j + 1)) = u := by
  rw [List.take_add_one, h]; simp [lastV]
theorem PVec.cut1 {FA : Option Addr} {cap : Nat} {bs : List Nat} {b : Nat} {x : Own} (h : PVec FA cap (bs ++ [b]) x) : PVec FA cap bs x := by
  have e : (ptrs (bs ++ [b])).take (bs.length * 1) = ptrs bs := by simp [ptrs]
  have := Vec.cut (m := bs.length) h (by simp)
  rw [e] at this
  exact this
theorem leave_end (G : Gh) (mb : Nat) (c1 c2 c3 : Value) (FA : Option Addr) (fcap : Nat) (en : Int) (v : V) (OA : Option Addr) (on ocap : Nat) (st : Int) (ed : Bool) (b : Nat) (fx : Own) (hfv : PVec FA fcap [b] fx)
    (LA : Option Addr) (lc : Nat) (l : List V) (Ha : List Own) (hr : Rds G Ha LA (vflat l)) (hll : l.length ≤ 1000000) :
    Fn Tryz.prog 72 #[.pointer (some ⟨mb, 0, none⟩), .slice LA l.length lc] G (mcB mb c1 c2 c3 FA 1 fcap en v OA on ocap st ed :: fx :: Ha)
      fun e G' H' => e = .returned (.tuple #[]) ∧ G = G' ∧ H' = mcB mb c1 c2 c3 FA 0 fcap 1 (lastV v l) OA on ocap st true :: fx :: Ha ∧ PVec FA fcap [] fx := by
  have hcap := hfv.le
  have hcut := PVec.cut1 (bs := []) hfv
  refine Fn.enter Tryz.func72 rfl rfl fun w0 => ?_
  refine WC.seq ?_
  refine WC.draw mixed ?_
  refine WA.tp (i := 0) rfl (by kernel_rfl) (by kernel_rfl) rfl (Gp.move rfl) ?_
  refine WA.tp (i := 1) rfl (by kernel_rfl) (by kernel_rfl) rfl (Gp.move rfl) ?_
  refine WA.tp (i := 2) rfl (by kernel_rfl) (by kernel_rfl) rfl (Gp.nilCheck rfl) ?_
  refine WA.tp (i := 3) rfl (by kernel_rfl) (by kernel_rfl) rfl (Gp.fieldAddr rfl) ?_
  refine WA.tp (i := 5) rfl (by kernel_rfl) (by kernel_rfl) rfl (Gp.move rfl) ?_
  refine WA.tp (i := 6) rfl (by kernel_rfl) (by kernel_rfl) rfl (Gp.nilCheck rfl) ?_
  refine WA.tp (i := 7) rfl (by kernel_rfl) (by kernel_rfl) rfl (Gp.fieldAddr rfl) ?_
  (first | (refine WA.tv (i := 8) rfl (by kernel_rfl) (by kernel_rfl) rfl (Gv.load1 rfl (by (repeat first | exact .here | apply At.there)) (by first | rfl | assumption)) ?_) | (refine WA.tv (i := 8) rfl (by kernel_rfl) (by kernel_rfl) rfl (Gv.loadN rfl (by (repeat first | exact .here | apply At.there)) (by rfl) (by rfl)) ?_) | (refine WA.tv (i := 8) rfl (by kernel_rfl) (by kernel_rfl) rfl (Gv.loadG1 rfl (by assumption) rfl) ?_) | (refine WA.tv (i := 8) rfl (by kernel_rfl) (by kernel_rfl) rfl (Gv.loadG0 rfl (by assumption) rfl) ?_) | (refine WA.tv (i := 8) rfl (by kernel_rfl) (by kernel_rfl) rfl (Gv.loadGN rfl (by assumption) rfl) ?_))
  (first | refine WA.tp (i := 9) rfl (by kernel_rfl) (by kernel_rfl) rfl (Gp.lenSl rfl) ?_ | refine WA.tp (i := 9) rfl (by kernel_rfl) (by kernel_rfl) rfl (Gp.lenS rfl) ?_)
  refine WA.tp (i := 10) rfl (by kernel_rfl) (by kernel_rfl) rfl (Gp.sub rfl rfl) ?_
  (first | (refine WA.tv (i := 4) rfl (by kernel_rfl) (by kernel_rfl) rfl (Gv.load1 rfl (by (repeat first | exact .here | apply At.there)) (by first | rfl | assumption)) ?_) | (refine WA.tv (i := 4) rfl (by kernel_rfl) (by kernel_rfl) rfl (Gv.loadN rfl (by (repeat first | exact .here | apply At.there)) (by rfl) (by rfl)) ?_) | (refine WA.tv (i := 4) rfl (by kernel_rfl) (by kernel_rfl) rfl (Gv.loadG1 rfl (by assumption) rfl) ?_) | (refine WA.tv (i := 4) rfl (by kernel_rfl) (by kernel_rfl) rfl (Gv.loadG0 rfl (by assumption) rfl) ?_) | (refine WA.tv (i := 4) rfl (by kernel_rfl) (by kernel_rfl) rfl (Gv.loadGN rfl (by assumption) rfl) ?_))
  rw [show IntKind.i64.wrap (((1 : Nat) : Int) - 1) = 0 by decide]
  refine WA.tp (i := 11) rfl (by kernel_rfl) (by kernel_rfl) rfl (Gp.sliceTo rfl rfl (by omega) (by omega)) ?_
  refine WA.tp (i := 12) rfl (by kernel_rfl) (by kernel_rfl) rfl (Gp.nilCheck rfl) ?_
  refine WA.tp (i := 13) rfl (by kernel_rfl) (by kernel_rfl) rfl (Gp.fieldAddr rfl) ?_
  refine WA.one (i := 14) (by kernel_rfl) rfl (by kernel_rfl) (OW.store rfl rfl (by (repeat first | exact .here | apply At.there)) rfl (by rfl) (by rfl) (by kernel_rfl) (by rfl) ?_ rfl)
  refine WA.done (by kernel_rfl) ?_
  refine WK.un ?_
  refine WC.seq ?_
  refine WC.seq ?_
  refine WC.region ?_
  refine WL.p (Gp.move rfl) (by kernel_rfl) rfl ?_
  refine WL.p (Gp.nilCheck rfl) (by kernel_rfl) rfl ?_
  refine WL.p (Gp.fieldAddr rfl) (by kernel_rfl) rfl ?_
  (first | (refine WL.v (Gv.load1 rfl (by (repeat first | exact .here | apply At.there)) (by first | rfl | assumption)) (by kernel_rfl) rfl ?_) | (refine WL.v (Gv.loadN rfl (by (repeat first | exact .here | apply At.there)) (by rfl) (by rfl)) (by kernel_rfl) rfl ?_) | (refine WL.v (Gv.loadG1 rfl (by assumption) rfl) (by kernel_rfl) rfl ?_) | (refine WL.v (Gv.loadG0 rfl (by assumption) rfl) (by kernel_rfl) rfl ?_) | (refine WL.v (Gv.loadGN rfl (by assumption) rfl) (by kernel_rfl) rfl ?_))
  (first | refine WL.p (Gp.lenSl rfl) (by kernel_rfl) rfl ?_ | refine WL.p (Gp.lenS rfl) (by kernel_rfl) rfl ?_)
  (first | refine WL.p (Gp.eqI rfl rfl) (by kernel_rfl) rfl ?_ | refine WL.p (Gp.eqS rfl rfl) (by kernel_rfl) rfl ?_ | refine WL.p (Gp.nilSl rfl) (by kernel_rfl) rfl ?_ | refine WL.p (Gp.eqB rfl rfl) (by kernel_rfl) rfl ?_)
  refine WL.nil ?_
  refine WK.un ?_
  refine WC.cond_true rfl ?_
  refine WC.seq ?_
  refine WC.region ?_
  refine WL.p (Gp.move rfl) (by kernel_rfl) rfl ?_
  refine WL.p (Gp.move rfl) (by kernel_rfl) rfl ?_
  refine WL.p (Gp.nilCheck rfl) (by kernel_rfl) rfl ?_
  refine WL.p (Gp.fieldAddr rfl) (by kernel_rfl) rfl ?_
  refine WL.op (by kernel_rfl) (OW.store rfl rfl (by (repeat first | exact .here | apply At.there)) rfl (by rfl) (by rfl) (by kernel_rfl) (by rfl) ?_ rfl)
  refine WL.p (Gp.nilCheck rfl) (by kernel_rfl) rfl ?_
  refine WL.p (Gp.fieldAddr rfl) (by kernel_rfl) rfl ?_
  refine WL.p (Gp.fieldAddr rfl) (by kernel_rfl) rfl ?_
  refine WL.op (by kernel_rfl) (OW.store rfl rfl (by (repeat first | exact .here | apply At.there)) rfl (by rfl) (by rfl) (by kernel_rfl) (by rfl) ?_ rfl)
  refine WL.nil ?_
  refine WK.un ?_
  refine WC.seq ?_
  refine WC.seq ?_
  refine WC.region ?_
  refine WL.p (Gp.move rfl) (by kernel_rfl) rfl ?_
  (first | refine WL.p (Gp.lenSl rfl) (by kernel_rfl) rfl ?_ | refine WL.p (Gp.lenS rfl) (by kernel_rfl) rfl ?_)
  refine WL.p (Gp.move rfl) (by kernel_rfl) rfl ?_
  refine WL.nil ?_
  refine WK.un ?_
  refine WC.block ?_  -- 0
  refine WC.pk (H' := mcB mb c1 c2 c3 FA 0 fcap 1 v OA on ocap st true :: fx :: Ha) (by repeat (first | exact Pk.nil | exact Pk.all | exact Pk.app | exact Pk.appR | with_reducible apply Pk.na | (apply Pk.cons; (repeat first | exact .here | apply Rem.there | apply Rem.app)) | apply Pk.skip | apply Pk.skipA)) ?_
  refine WC.loop (X := Nat) (fun j => [(37, .int .i64 j), (36, .int .i64 l.length), (35, .slice LA l.length lc), (0, .pointer (some ⟨mb, 0, none⟩))]) (fun j => G) (fun j => mcB mb c1 c2 c3 FA 0 fcap 1 (lastV v (l.take j)) OA on ocap st true :: fx :: Ha) (fun j => l.length - j) (fun j => j ≤ l.length) 0 (by omega) (by exact ⟨rfl, rfl, rfl, rfl, trivial⟩) rfl (List.Sublist.refl _) fun j hj => ?_
  refine WC.seq ?_
  refine WC.region ?_
  (first | refine WL.p (Gp.ltI rfl rfl) (by kernel_rfl) rfl ?_ | refine WL.p (Gp.ltS rfl rfl) (by kernel_rfl) rfl ?_)
  refine WL.nil ?_
  refine WK.un ?_
  refine WC.seq ?_
  refine WC.cond rfl (fun hc8 => ?_) (fun hc8 => ?_)
  · -- yes
    have hlt : j < l.length := by have h := hc8; simp at h; omega
    obtain ⟨u, hu⟩ : ∃ u, l[j]? = some u := ⟨_, List.getElem?_eq_getElem hlt⟩
    rcases hr with h0 | ⟨lb, lo, rfl, hread⟩
    · have h := congrArg List.length h0
      rw [vflat_length] at h; simp only [List.length_nil] at h; omega
    refine WC.skip ?_
    refine WK.un ?_
    refine WC.seq ?_
    refine WC.block ?_  -- 1
    refine WC.seq ?_
    refine WC.region ?_
    refine WL.p (Gp.indexAddr rfl rfl (by first | assumption | omega | decide) (by first | assumption | omega | decide | (simp only [List.length_cons, List.length_nil]; decide))) (by kernel_rfl) rfl ?_
    refine WL.v (Gv.loadRN rfl hread (by repeat (first | exact List.Sublist.refl _ | exact List.nil_sublist _ | apply List.Sublist.cons)) (vflat_elem l j u hu) rfl) (by kernel_rfl) rfl ?_
    refine WL.op (by kernel_rfl) (OW.alloc rfl fun b9 => ?_)
    refine WL.op (by kernel_rfl) (OW.store rfl rfl (by (repeat first | exact .here | apply At.there)) rfl (by rfl) (by rfl) (by kernel_rfl) (by rfl) ?_ rfl)
    refine WL.nil ?_
    refine WK.un ?_
    refine WC.region ?_
    refine WL.p (Gp.move rfl) (by kernel_rfl) rfl ?_
    (first | (refine WL.v (Gv.load1 rfl (by (repeat first | exact .here | apply At.there)) (by first | rfl | assumption)) (by kernel_rfl) rfl ?_) | (refine WL.v (Gv.loadN rfl (by (repeat first | exact .here | apply At.there)) (by rfl) (by rfl)) (by kernel_rfl) rfl ?_) | (refine WL.v (Gv.loadG1 rfl (by assumption) rfl) (by kernel_rfl) rfl ?_) | (refine WL.v (Gv.loadG0 rfl (by assumption) rfl) (by kernel_rfl) rfl ?_) | (refine WL.v (Gv.loadGN rfl (by assumption) rfl) (by kernel_rfl) rfl ?_))
    refine WL.p (Gp.nilCheck rfl) (by kernel_rfl) rfl ?_
    refine WL.p (Gp.fieldAddr rfl) (by kernel_rfl) rfl ?_
    refine WL.p (Gp.fieldAddr rfl) (by kernel_rfl) rfl ?_
    refine WL.op (by kernel_rfl) (OW.store rfl rfl (by (repeat first | exact .here | apply At.there)) rfl (by rfl) (by rfl) (by kernel_rfl) (by rfl) ?_ rfl)
    refine WL.nil ?_
    refine WK.un ?_
    refine WC.region ?_
    (first | refine WL.p (Gp.add rfl rfl) (by kernel_rfl) rfl ?_ | refine WL.p (Gp.addS rfl rfl (by first | assumption | omega)) (by kernel_rfl) rfl ?_)
    refine WL.p (Gp.move rfl) (by kernel_rfl) rfl ?_
    refine WL.nil ?_
    refine WK.un ?_
    refine WK.pk (H' := mcB mb c1 c2 c3 FA 0 fcap 1 u OA on ocap st true :: fx :: Ha) (by repeat (first | exact Pk.nil | exact Pk.all | exact Pk.app | exact Pk.appR | with_reducible apply Pk.na | (apply Pk.cons; (repeat first | exact .here | apply Rem.there | apply Rem.app)) | apply Pk.skip | apply Pk.skipA)) ?_
    exact WK.again (j + 1) (by omega) (show j + 1 ≤ l.length by omega) (by refine ⟨?_, rfl, rfl, rfl, trivial⟩; show some _ = some _; rw [wrap_small (by omega) (by omega)]; rfl) rfl (by show List.Sublist (mcB mb c1 c2 c3 FA 0 fcap 1 (lastV v (l.take (j + 1))) OA on ocap st true :: _) _; rw [lastV_take v l j u hu]; exact List.Sublist.refl _)
  · -- no
    have hge : j = l.length := by have h := hc8; simp at h; omega
    subst hge
    rw [List.take_length]
    refine WC.exit ?_
    refine WK.un ?_
    refine WC.ret ?_
    refine WK.un ?_
    exact QF.p0 (.inl rfl) rfl  (⟨rfl, rfl, rfl, hcut⟩)
theorem leave_go (G : Gh) (mb : Nat) (c1 c2 c3 : Value) (FA : Option Addr) (fcap : Nat) (en : Int) (v : V) (OA : Option Addr) (on ocap : Nat) (st : Int) (ed : Bool) (bs : List Nat) (b0 b : Nat) (fx : Own) (hfv : PVec FA fcap (bs ++ [b0] ++ [b]) fx) (hbs : bs.length ≤ 1000000)
    (A : Option Addr) (cap : Nat) (p a : Int) (B : Option Addr) (m cm : Nat) (l0 : List V) (x : Own) (hv : VVec A cap l0 x)
    (LA : Option Addr) (lc : Nat) (l : List V) (Ha : List Own) (hr : Rds G Ha LA (vflat l)) (hll : l0.length + l.length ≤ 1000000) :
    Fn Tryz.prog 72 #[.pointer (some ⟨mb, 0, none⟩), .slice LA l.length lc] G (mcB mb c1 c2 c3 FA (bs ++ [b0] ++ [b]).length fcap en v OA on ocap st ed :: fx :: frB b0 A l0.length cap p a B m cm :: x :: Ha)
      fun e G' H' => ∃ A' cap' x', e = .returned (.tuple #[]) ∧ G = G' ∧ H' = mcB mb c1 c2 c3 FA (bs ++ [b0]).length fcap en v OA on ocap st ed :: fx :: frB b0 A' (l0 ++ l).length cap' p a B m cm :: x' :: Ha ∧ PVec FA fcap (bs ++ [b0]) fx ∧ VVec A' cap' (l0 ++ l) x' := by
  have hcap := hfv.le
  have hcut := PVec.cut1 hfv
  have e0 : (bs ++ [b0] ++ [b]).length = bs.length + 2 := by simp
  have e1 : (bs ++ [b0]).length = bs.length + 1 := by simp
  rw [e0] at hcap
  refine Fn.enter Tryz.func72 rfl rfl fun w0 => ?_
  refine WC.seq ?_
  refine WC.draw mixed ?_
  refine WA.tp (i := 0) rfl (by kernel_rfl) (by kernel_rfl) rfl (Gp.move rfl) ?_
  refine WA.tp (i := 1) rfl (by kernel_rfl) (by kernel_rfl) rfl (Gp.move rfl) ?_
  refine WA.tp (i := 2) rfl (by kernel_rfl) (by kernel_rfl) rfl (Gp.nilCheck rfl) ?_
  refine WA.tp (i := 3) rfl (by kernel_rfl) (by kernel_rfl) rfl (Gp.fieldAddr rfl) ?_
  refine WA.tp (i := 5) rfl (by kernel_rfl) (by kernel_rfl) rfl (Gp.move rfl) ?_
  refine WA.tp (i := 6) rfl (by kernel_rfl) (by kernel_rfl) rfl (Gp.nilCheck rfl) ?_
  refine WA.tp (i := 7) rfl (by kernel_rfl) (by kernel_rfl) rfl (Gp.fieldAddr rfl) ?_
  (first | (refine WA.tv (i := 8) rfl (by kernel_rfl) (by kernel_rfl) rfl (Gv.load1 rfl (by (repeat first | exact .here | apply At.there)) (by first | rfl | assumption)) ?_) | (refine WA.tv (i := 8) rfl (by kernel_rfl) (by kernel_rfl) rfl (Gv.loadN rfl (by (repeat first | exact .here | apply At.there)) (by rfl) (by rfl)) ?_) | (refine WA.tv (i := 8) rfl (by kernel_rfl) (by kernel_rfl) rfl (Gv.loadG1 rfl (by assumption) rfl) ?_) | (refine WA.tv (i := 8) rfl (by kernel_rfl) (by kernel_rfl) rfl (Gv.loadG0 rfl (by assumption) rfl) ?_) | (refine WA.tv (i := 8) rfl (by kernel_rfl) (by kernel_rfl) rfl (Gv.loadGN rfl (by assumption) rfl) ?_))
  (first | refine WA.tp (i := 9) rfl (by kernel_rfl) (by kernel_rfl) rfl (Gp.lenSl rfl) ?_ | refine WA.tp (i := 9) rfl (by kernel_rfl) (by kernel_rfl) rfl (Gp.lenS rfl) ?_)
  refine WA.tp (i := 10) rfl (by kernel_rfl) (by kernel_rfl) rfl (Gp.sub rfl rfl) ?_
  (first | (refine WA.tv (i := 4) rfl (by kernel_rfl) (by kernel_rfl) rfl (Gv.load1 rfl (by (repeat first | exact .here | apply At.there)) (by first | rfl | assumption)) ?_) | (refine WA.tv (i := 4) rfl (by kernel_rfl) (by kernel_rfl) rfl (Gv.loadN rfl (by (repeat first | exact .here | apply At.there)) (by rfl) (by rfl)) ?_) | (refine WA.tv (i := 4) rfl (by kernel_rfl) (by kernel_rfl) rfl (Gv.loadG1 rfl (by assumption) rfl) ?_) | (refine WA.tv (i := 4) rfl (by kernel_rfl) (by kernel_rfl) rfl (Gv.loadG0 rfl (by assumption) rfl) ?_) | (refine WA.tv (i := 4) rfl (by kernel_rfl) (by kernel_rfl) rfl (Gv.loadGN rfl (by assumption) rfl) ?_))
  rw [show IntKind.i64.wrap (((bs ++ [b0] ++ [b]).length : Int) - 1) = ((bs ++ [b0]).length : Int) by rw [e0, e1, wrap_small (by omega) (by omega)]; omega]
  refine WA.tp (i := 11) rfl (by kernel_rfl) (by kernel_rfl) rfl (Gp.sliceTo rfl rfl (by omega) (by omega)) ?_
  rw [Int.toNat_natCast]
  refine WA.tp (i := 12) rfl (by kernel_rfl) (by kernel_rfl) rfl (Gp.nilCheck rfl) ?_
  refine WA.tp (i := 13) rfl (by kernel_rfl) (by kernel_rfl) rfl (Gp.fieldAddr rfl) ?_
  refine WA.one (i := 14) (by kernel_rfl) rfl (by kernel_rfl) (OW.store rfl rfl (by (repeat first | exact .here | apply At.there)) rfl (by rfl) (by rfl) (by kernel_rfl) (by rfl) ?_ rfl)
  refine WA.done (by kernel_rfl) ?_
  refine WK.un ?_
  refine WC.seq ?_
  refine WC.seq ?_
  refine WC.region ?_
  refine WL.p (Gp.move rfl) (by kernel_rfl) rfl ?_
  refine WL.p (Gp.nilCheck rfl) (by kernel_rfl) rfl ?_
  refine WL.p (Gp.fieldAddr rfl) (by kernel_rfl) rfl ?_
  (first | (refine WL.v (Gv.load1 rfl (by (repeat first | exact .here | apply At.there)) (by first | rfl | assumption)) (by kernel_rfl) rfl ?_) | (refine WL.v (Gv.loadN rfl (by (repeat first | exact .here | apply At.there)) (by rfl) (by rfl)) (by kernel_rfl) rfl ?_) | (refine WL.v (Gv.loadG1 rfl (by assumption) rfl) (by kernel_rfl) rfl ?_) | (refine WL.v (Gv.loadG0 rfl (by assumption) rfl) (by kernel_rfl) rfl ?_) | (refine WL.v (Gv.loadGN rfl (by assumption) rfl) (by kernel_rfl) rfl ?_))
  (first | refine WL.p (Gp.lenSl rfl) (by kernel_rfl) rfl ?_ | refine WL.p (Gp.lenS rfl) (by kernel_rfl) rfl ?_)
  (first | refine WL.p (Gp.eqI rfl rfl) (by kernel_rfl) rfl ?_ | refine WL.p (Gp.eqS rfl rfl) (by kernel_rfl) rfl ?_ | refine WL.p (Gp.nilSl rfl) (by kernel_rfl) rfl ?_ | refine WL.p (Gp.eqB rfl rfl) (by kernel_rfl) rfl ?_)
  refine WL.nil ?_
  refine WK.un ?_
  rw [show ((((bs ++ [b0]).length : Nat) : Int) == 0) = false by rw [e1]; simp; omega]
  refine WC.cond_false rfl ?_
  refine WC.skip ?_
  refine WK.un ?_
  refine WC.seq ?_
  refine WC.region ?_
  refine WL.p (Gp.move rfl) (by kernel_rfl) rfl ?_
  (first | refine WL.p (Gp.lenSl rfl) (by kernel_rfl) rfl ?_ | refine WL.p (Gp.lenS rfl) (by kernel_rfl) rfl ?_)
  refine WL.p (Gp.move rfl) (by kernel_rfl) rfl ?_
  refine WL.nil ?_
  refine WK.un ?_
  refine WC.block ?_  -- 2
  refine WC.pk (H' := mcB mb c1 c2 c3 FA (bs ++ [b0]).length fcap en v OA on ocap st ed :: fx :: frB b0 A l0.length cap p a B m cm :: x :: Ha) (by repeat (first | exact Pk.nil | exact Pk.all | exact Pk.app | exact Pk.appR | with_reducible apply Pk.na | (apply Pk.cons; (repeat first | exact .here | apply Rem.there | apply Rem.app)) | apply Pk.skip | apply Pk.skipA)) ?_
  refine WC.loop (X := Nat × Option Addr × Nat × Own) (fun j => [(49, .int .i64 j.1), (48, .int .i64 l.length), (47, .slice LA l.length lc), (0, .pointer (some ⟨mb, 0, none⟩))]) (fun j => G) (fun j => mcB mb c1 c2 c3 FA (bs ++ [b0]).length fcap en v OA on ocap st ed :: fx :: frB b0 j.2.1 (l0 ++ l.take j.1).length j.2.2.1 p a B m cm :: j.2.2.2 :: Ha) (fun j => l.length - j.1) (fun j => j.1 ≤ l.length ∧ VVec j.2.1 j.2.2.1 (l0 ++ l.take j.1) j.2.2.2) (0, A, cap, x) ⟨by simp, by simpa using hv⟩ (by exact ⟨rfl, rfl, rfl, rfl, trivial⟩) rfl (by show List.Sublist (_ :: _ :: frB b0 A (l0 ++ l.take 0).length cap p a B m cm :: _) _; rw [List.take_zero, List.append_nil]; exact List.Sublist.refl _) fun j hj => ?_
  obtain ⟨j, A1, cap1, x1⟩ := j
  obtain ⟨hj, hv1⟩ := hj
  simp only at hj hv1
  refine WC.seq ?_
  refine WC.region ?_
  (first | refine WL.p (Gp.ltI rfl rfl) (by kernel_rfl) rfl ?_ | refine WL.p (Gp.ltS rfl rfl) (by kernel_rfl) rfl ?_)
  refine WL.nil ?_
  refine WK.un ?_
  refine WC.seq ?_
  refine WC.cond rfl (fun hc8 => ?_) (fun hc8 => ?_)
  · -- yes
    have hlt : j < l.length := by have h := hc8; simp at h; omega
    obtain ⟨u, hu⟩ : ∃ u, l[j]? = some u := ⟨_, List.getElem?_eq_getElem hlt⟩
    have e2 : l0 ++ l.take (j + 1) = (l0 ++ l.take j) ++ [u] := by rw [List.take_add_one, hu]; simp
    have e3 : (l0 ++ l.take (j + 1)).length = (l0 ++ l.take j).length + 1 := by rw [e2, List.length_append (bs := [u])]; rfl
    have e4 : vflat (l0 ++ l.take (j + 1)) = vflat (l0 ++ l.take j) ++ vcells u := by rw [e2, vflat_append]; simp [vflat]
    rcases hr with h0 | ⟨lb, lo, rfl, hread⟩
    · have h := congrArg List.length h0
      rw [vflat_length] at h; simp only [List.length_nil] at h; omega
    refine WC.skip ?_
    refine WK.un ?_
    refine WC.seq ?_
    refine WC.block ?_  -- 3
    refine WC.seq ?_
    refine WC.region ?_
    refine WL.p (Gp.indexAddr rfl rfl (by first | assumption | omega | decide) (by first | assumption | omega | decide | (simp only [List.length_cons, List.length_nil]; decide))) (by kernel_rfl) rfl ?_
    refine WL.v (Gv.loadRN rfl hread (by repeat (first | exact List.Sublist.refl _ | exact List.nil_sublist _ | apply List.Sublist.cons)) (vflat_elem l j u hu) rfl) (by kernel_rfl) rfl ?_
    refine WL.op (by kernel_rfl) (OW.alloc rfl fun b11 => ?_)
    refine WL.op (by kernel_rfl) (OW.store rfl rfl (by (repeat first | exact .here | apply At.there)) rfl (by rfl) (by rfl) (by kernel_rfl) (by rfl) ?_ rfl)
    refine WL.nil ?_
    refine WK.un ?_
    refine WC.drawS (Hs := [.blk b11 (.cells (vcells u).toArray 49 (0, 0))]) mixed (by repeat (first | exact Pk.nil | exact Pk.all | exact Pk.app | exact Pk.appR | with_reducible apply Pk.na | (apply Pk.cons; (repeat first | exact .here | apply Rem.there | apply Rem.app)) | apply Pk.skip | apply Pk.skipA)) ?_
    refine WB.tp (i := 0) rfl (by kernel_rfl) (by kernel_rfl) rfl (Gp.move rfl) ?_
    refine WB.tv (i := 4) rfl (by kernel_rfl) (by kernel_rfl) rfl (Gv.loadN rfl .here rfl rfl) ?_
    refine WB.one (i := 1) (by kernel_rfl) rfl (by kernel_rfl) (OW.callK rfl (top_fn G mb c1 c2 c3 FA fcap en v OA on ocap st ed bs b0 fx hcut (by omega)) rfl fun v' G' H' h hg => ?_)
    obtain ⟨he, rfl, rfl⟩ := h
    cases he
    refine ⟨fun w hw => hw.pk (by repeat (first | exact Pk.nil | exact Pk.all | exact Pk.app | exact Pk.appR | with_reducible apply Pk.na | (apply Pk.cons; (repeat first | exact .here | apply Rem.there | apply Rem.app)) | apply Pk.skip | apply Pk.skipA)), ?_⟩
    refine WB.tp (i := 2) rfl (by kernel_rfl) (by kernel_rfl) rfl (Gp.nilCheck rfl) ?_
    refine WB.tp (i := 3) rfl (by kernel_rfl) (by kernel_rfl) rfl (Gp.fieldAddr rfl) ?_
    refine WB.one (i := 5) (by kernel_rfl) rfl (by kernel_rfl) (OW.callK rfl (push_fn G b0 A1 (l0 ++ l.take j).length cap1 p a B m cm (vflat (l0 ++ l.take j)) x1 u hv1 (by simp; omega)) rfl fun v' G' H' h hg => ?_)
    obtain ⟨A2, cap2, x2, he, rfl, rfl, hv2⟩ := h
    cases he
    refine ⟨fun w hw => hw.pk (by repeat (first | exact Pk.nil | exact Pk.all | exact Pk.app | exact Pk.appR | with_reducible apply Pk.na | (apply Pk.cons; (repeat first | exact .here | apply Rem.there | apply Rem.app)) | apply Pk.skip | apply Pk.skipA)), ?_⟩
    refine WB.done (by kernel_rfl) ?_
    refine WK.un ?_
    refine WC.region ?_
    (first | refine WL.p (Gp.add rfl rfl) (by kernel_rfl) rfl ?_ | refine WL.p (Gp.addS rfl rfl (by first | assumption | omega)) (by kernel_rfl) rfl ?_)
    refine WL.p (Gp.move rfl) (by kernel_rfl) rfl ?_
    refine WL.nil ?_
    refine WK.un ?_
    refine WK.pk (H' := mcB mb c1 c2 c3 FA (bs ++ [b0]).length fcap en v OA on ocap st ed :: fx :: frB b0 A2 ((l0 ++ l.take j).length + 1) cap2 p a B m cm :: x2 :: Ha) (by repeat (first | exact Pk.nil | exact Pk.all | exact Pk.app | exact Pk.appR | with_reducible apply Pk.na | (apply Pk.cons; (repeat first | exact .here | apply Rem.there | apply Rem.app)) | apply Pk.skip | apply Pk.skipA)) ?_
    exact WK.again (j + 1, A2, cap2, x2) (show l.length - (j + 1) < l.length - j by omega) ⟨show j + 1 ≤ l.length by omega, by show VVec A2 cap2 (l0 ++ l.take (j + 1)) x2; unfold VVec; rw [e3, e4]; exact hv2⟩ (by refine ⟨?_, rfl, rfl, rfl, trivial⟩; show some _ = some _; rw [wrap_small (by omega) (by omega)]; rfl) rfl (by show List.Sublist (_ :: _ :: frB b0 A2 (l0 ++ l.take (j + 1)).length cap2 p a B m cm :: _) _; rw [e3]; exact List.Sublist.refl _)
  · -- no
    have hge : j = l.length := by have h := hc8; simp at h; omega
    subst hge
    refine WC.exit ?_
    refine WK.un ?_
    rw [List.take_length] at hv1
    refine WK.pk (H' := mcB mb c1 c2 c3 FA (bs ++ [b0]).length fcap en v OA on ocap st ed :: fx :: frB b0 A1 (l0 ++ l.take l.length).length cap1 p a B m cm :: x1 :: Ha) (by repeat (first | exact Pk.nil | exact Pk.all | exact Pk.app | exact Pk.appR | with_reducible apply Pk.na | (apply Pk.cons; (repeat first | exact .here | apply Rem.there | apply Rem.app)) | apply Pk.skip | apply Pk.skipA)) ?_
    rw [List.take_length]
    refine WK.un ?_
    exact QF.p0 (.inr rfl) rfl  (⟨A1, cap1, x1, rfl, rfl, rfl, hcut, hv1⟩)
end Go.Proofs.YtbfgljcjblfleaaGreatDoor.Gb
namespace Go.Proofs.YtbfgljcjblfleaaGreatDoor.Gb
open Go Go.Proofs
section
variable {L : List (Nat × Value)} {d : Option Tmp} {ty : TypeId} {pos : String} {af : Array Edge} {gu : Option (Nat × Bool)}
end
attribute [local irreducible] Tryz.prog
theorem typed_no (G : Gh) (mv : Value) (b : Nat) (A : Option Addr) (n cap : Nat) (p a : Int) (B : Option Addr) (m cm : Nat) (k t : Int) (hb : (n : Int) < k) :
    Fn Tryz.prog 58 #[mv, .pointer (some ⟨b, 0, none⟩), .int .i64 k, .int .i64 t] G [frB b A n cap p a B m cm]
      fun e G' H' => e = halted 6 ∧ G = G' ∧ Left b H' := by
  refine Fn.enter Tryz.func58 rfl rfl fun w0 => ?_
  refine WC.seq ?_
  refine WC.region ?_
  refine WL.p (Gp.assign rfl) (by kernel_rfl) rfl ?_
  refine WL.nil ?_
  refine WK.un ?_
  refine WC.seq ?_
  refine WC.region ?_
  refine WL.p (Gp.move rfl) (by kernel_rfl) rfl ?_
  refine WL.p (Gp.move rfl) (by kernel_rfl) rfl ?_
  refine WL.p (Gp.move rfl) (by kernel_rfl) rfl ?_
  refine WL.op (by kernel_rfl) (OW.call rfl (Pk.perm (by repeat (first | exact Pk.nil | exact Pk.all | exact Pk.app | exact Pk.appR | with_reducible apply Pk.na | (apply Pk.cons; (repeat first | exact .here | apply Rem.there | apply Rem.app)) | apply Pk.skip | apply Pk.skipA))) (take_no G mv b A n cap p a B m cm k hb) rfl (fun v' G' H' h hg => by cases h.1) (fun ch G' H' h hg => ?_) (fun G' H' h => by repeat (first | (cases h.1; done) | (cases h; done) | (obtain ⟨_, h⟩ := h) | (rcases h with h | h))))
  obtain ⟨he, rfl, c, hc, rfl⟩ := h
  cases he
  refine WK.un ?_
  exact QF.panicP ⟨rfl, rfl, c, hc, rfl⟩ (by repeat (first | exact Pk.nil | exact Pk.all | exact Pk.app | exact Pk.appR | with_reducible apply Pk.na | (apply Pk.cons; (repeat first | exact .here | apply Rem.there | apply Rem.app)) | apply Pk.skip | apply Pk.skipA))
theorem ordered_no (G : Gh) (mv : Value) (b : Nat) (A : Option Addr) (n cap : Nat) (p a : Int) (B : Option Addr) (m cm : Nat) (c : Int) (hb : n < 2) :
    Fn Tryz.prog 75 #[mv, .pointer (some ⟨b, 0, none⟩), .int .i64 c] G [frB b A n cap p a B m cm]
      fun e G' H' => e = halted 6 ∧ G = G' ∧ Left b H' := by
  refine Fn.enter Tryz.func75 rfl rfl fun w0 => ?_
  refine WC.seq ?_
  refine WC.region ?_
  refine WL.p (Gp.assign rfl) (by kernel_rfl) rfl ?_
  refine WL.nil ?_
  refine WK.un ?_
  refine WC.seq ?_
  refine WC.region ?_
  refine WL.p (Gp.move rfl) (by kernel_rfl) rfl ?_
  refine WL.p (Gp.move rfl) (by kernel_rfl) rfl ?_
  refine WL.op (by kernel_rfl) (OW.call rfl (Pk.perm (by repeat (first | exact Pk.nil | exact Pk.all | exact Pk.app | exact Pk.appR | with_reducible apply Pk.na | (apply Pk.cons; (repeat first | exact .here | apply Rem.there | apply Rem.app)) | apply Pk.skip | apply Pk.skipA))) (take_no G mv b A n cap p a B m cm 2 (by omega)) rfl (fun v' G' H' h hg => by cases h.1) (fun ch G' H' h hg => ?_) (fun G' H' h => by repeat (first | (cases h.1; done) | (cases h; done) | (obtain ⟨_, h⟩ := h) | (rcases h with h | h))))
  obtain ⟨he, rfl, c, hc, rfl⟩ := h
  cases he
  refine WK.un ?_
  exact QF.panicP ⟨rfl, rfl, c, hc, rfl⟩ (by repeat (first | exact Pk.nil | exact Pk.all | exact Pk.app | exact Pk.appR | with_reducible apply Pk.na | (apply Pk.cons; (repeat first | exact .here | apply Rem.there | apply Rem.app)) | apply Pk.skip | apply Pk.skipA))
theorem WK.swap {K : Act → World → Prop} {cx : Cx} {L : List (Nat × Value)} {G : Gh} {H F : List Own} (h : WK K cx L G (F ++ H)) : WK K cx L G (H ++ F) := fun a w st => h a w (st.perm List.perm_append_comm)
theorem VVec.snoc {A : Option Addr} {cap : Nat} {l : List V} {v : V} {x : Own} (h : Vec 49 4 A (l.length + 1) cap (vflat l ++ vcells v) x) : VVec A cap (l ++ [v]) x := by
  have e1 : vflat (l ++ [v]) = vflat l ++ vcells v := by rw [vflat_append]; simp [vflat]
  have e2 : (l ++ [v]).length = l.length + 1 := by simp
  unfold VVec; rw [e1, e2]; exact h
theorem pushV_fn (G : Gh) (b : Nat) (A : Option Addr) (cap : Nat) (p a : Int) (B : Option Addr) (m cm : Nat) (l : List V) (x : Own) (v : V) (hv : VVec A cap l x) (hb : l.length ≤ 1000000000) :
    Fn Tryz.prog 70 #[.pointer (some ⟨b, 0, none⟩), .agg #[.int .i64 v.t, .int .i64 v.i, .bool v.b, .string v.s]] G [frB b A l.length cap p a B m cm, x]
      fun e G' H' => ∃ A' cap' x', e = .returned (.tuple #[]) ∧ G = G' ∧ H' = [frB b A' (l ++ [v]).length cap' p a B m cm, x'] ∧ VVec A' cap' (l ++ [v]) x' :=
  (push_fn G b A l.length cap p a B m cm (vflat l) x v hv hb).mono fun e G' H' ⟨A', cap', x', h1, h2, h3, h4⟩ => ⟨A', cap', x', h1, h2, by rw [h3, List.length_append]; rfl, VVec.snoc h4⟩
def pop1 (l : List V) : Option (List V × V) := match l.reverse with
  | [] => none
  | v :: r => some (r.reverse, v)
def pop2 (l : List V) : Option (List V × V × V) := match l.reverse with
  | v :: u :: r => some (r.reverse, u, v)
  | _ => none
theorem pop1_snoc (r : List V) (v : V) : pop1 (r ++ [v]) = some (r, v) := by simp [pop1]
theorem pop2_snoc (r : List V) (u v : V) : pop2 (r ++ [u, v]) = some (r, u, v) := by simp [pop2]
theorem pop1_none {l : List V} (h : l.length < 1) : pop1 l = none := by
  have : l = [] := List.eq_nil_of_length_eq_zero (by omega)
  subst this; rfl
theorem pop2_none {l : List V} (h : l.length < 2) : pop2 l = none := by
  match l, h with
  | [], _ => rfl
  | [v], _ => rfl
theorem one_or {l : List V} : l.length < 1 ∨ ∃ r v, l = r ++ [v] := by
  rcases Nat.lt_or_ge l.length 1 with h | h
  · exact .inl h
  · obtain ⟨l1, l2, rfl, h2, _, _⟩ := cut_list l 1 h
    match l2, h2 with
    | [v], _ => exact .inr ⟨l1, v, rfl⟩
theorem two_or {l : List V} : l.length < 2 ∨ ∃ r u v, l = r ++ [u, v] := by
  rcases Nat.lt_or_ge l.length 2 with h | h
  · exact .inl h
  · obtain ⟨l1, l2, rfl, h2, _, _⟩ := cut_list l 2 h
    match l2, h2 with
    | [u, v], _ => exact .inr ⟨l1, u, v, rfl⟩
instance (u v : V) : Decidable (ordOK u v) := by unfold ordOK; infer_instance
inductive PR where
  | halt (n : Int)
  | set (l : List V)
  | print (l : List V) (v : V)
  | leave (l : List V) (g : List V)
def truthV (b : Bool) : V := ⟨2, 0, b, ⟨#[]⟩⟩
def numV (n : Int) : V := ⟨1, n, false, ⟨#[]⟩⟩
def textV (s : ByteArray) : V := ⟨3, 0, false, s⟩
def ty1 (l : List V) (t : Int) : Option (List V × V) := match pop1 l with
  | none => none
  | some (r, v) => if v.t = t then some (r, v) else none
def ty2 (l : List V) (t : Int) : Option (List V × V × V) := match pop2 l with
  | none => none
  | some (r, u, v) => if u.t = t ∧ v.t = t then some (r, u, v) else none
def on1 (l : List V) (t : Int) (f : List V → V → PR) : PR := match ty1 l t with
  | none => .halt 6
  | some (r, v) => f r v
def on2 (l : List V) (t : Int) (f : List V → V → V → PR) : PR := match ty2 l t with
  | none => .halt 6
  | some (r, u, v) => f r u v
theorem pop1_some {l r : List V} {v : V} (h : pop1 l = some (r, v)) : l = r ++ [v] := by
  rcases @one_or l with h1 | ⟨r', v', rfl⟩
  · rw [pop1_none h1] at h; cases h
  · rw [pop1_snoc] at h; cases h; rfl
theorem pop2_some {l r : List V} {u v : V} (h : pop2 l = some (r, u, v)) : l = r ++ [u, v] := by
  rcases @two_or l with h1 | ⟨r', u', v', rfl⟩
  · rw [pop2_none h1] at h; cases h
  · rw [pop2_snoc] at h; cases h; rfl
theorem pop1_len {l : List V} (h : pop1 l = none) : l.length < 1 := by
  rcases @one_or l with h1 | ⟨r', v', rfl⟩
  · exact h1
  · rw [pop1_snoc] at h; cases h
theorem pop2_len {l : List V} (h : pop2 l = none) : l.length < 2 := by
  rcases @two_or l with h1 | ⟨r', u', v', rfl⟩
  · exact h1
  · rw [pop2_snoc] at h; cases h
theorem ty1_some {l r : List V} {t : Int} {v : V} (h : ty1 l t = some (r, v)) : l = r ++ [v] ∧ v.t = t := by
  unfold ty1 at h
  split at h
  · cases h
  · rename_i r' v' hp
    split at h
    · cases h; exact ⟨pop1_some hp, ‹_›⟩
    · cases h
theorem ty2_some {l r : List V} {t : Int} {u v : V} (h : ty2 l t = some (r, u, v)) : l = r ++ [u, v] ∧ u.t = t ∧ v.t = t := by
  unfold ty2 at h
  split at h
  · cases h
  · rename_i r' u' v' hp
    split at h
    · cases h; exact ⟨pop2_some hp, ‹_›⟩
    · cases h
theorem ty1_none {l : List V} {t : Int} (h : ty1 l t = none) : l.length < 1 ∨ ∃ r v, l = r ++ [v] ∧ v.t ≠ t := by
  rcases @one_or l with h1 | ⟨r', v', rfl⟩
  · exact .inl h1
  · refine .inr ⟨r', v', rfl, fun hv => ?_⟩
    rw [ty1, pop1_snoc] at h; simp [hv] at h
theorem ty2_none {l : List V} {t : Int} (h : ty2 l t = none) : l.length < 2 ∨ ∃ r u v, l = r ++ [u, v] ∧ ¬ (u.t = t ∧ v.t = t) := by
  rcases @two_or l with h1 | ⟨r', u', v', rfl⟩
  · exact .inl h1
  · refine .inr ⟨r', u', v', rfl, fun hv => ?_⟩
    rw [ty2, pop2_snoc] at h; simp [hv] at h
theorem Ex.sub {H H' : List Own} {w : World} (h : Ex (covs H) w) (hs : ∀ x ∈ H', x ∈ H) : Ex (covs H') w := fun q hq => ⟨(h q hq).1, fun o ⟨x, hx, hc⟩ => (h q hq).2 o ⟨x, hs x hx, hc⟩⟩
theorem Fn.pk {P : Program} {f : FuncId} {vs : Array Value} {G : Gh} {H H' F : List Own} {R : Ending → Gh → List Own → Prop} (h : Fn P f vs G H' R) (p : Pk H H' F) : Fn P f vs G H fun e G' H1 => ∃ H2, R e G' H2 ∧ H1 = H2 ++ F := by
  intro w hs hx
  have hs' := hs.perm p.perm
  refine (h w (hs'.sub (List.sublist_append_left _ _)) (hx.sub fun y hy => p.perm.mem_iff.2 (List.mem_append_left _ hy))).mono fun e w' ⟨G', H2, r, s, st⟩ => ⟨G', H2 ++ F, ⟨H2, r, rfl⟩, hs'.frame s st, ?_⟩
  have := st.frame (F := F)
  exact ⟨this.size, fun b hb => (this.keep b hb).mono fun o ⟨x, hx, hc⟩ => ⟨x, p.perm.mem_iff.2 hx, hc⟩, this.gle, fun b o v e => (this.gnew b o v e).imp_right fun h => h.imp_left fun ⟨x, hx, hc⟩ => ⟨x, p.perm.mem_iff.2 hx, hc⟩, fun x hx b o hc => (this.own x hx b o hc).imp_left fun ⟨y, hy, hc⟩ => ⟨y, p.perm.mem_iff.2 hy, hc⟩, this.weq⟩
theorem Fn.drop {P : Program} {f : FuncId} {vs : Array Value} {G : Gh} {H : List Own} {R R' : Ending → Gh → List Own → Prop} (h : Fn P f vs G H R) (hr : ∀ e G' H', R e G' H' → ∃ H2, H2.Sublist H' ∧ R' e G' H2) : Fn P f vs G H R' :=
  fun w hs hx => (h w hs hx).mono fun e w' ⟨G', H', r, s, st⟩ => by
    obtain ⟨H2, h1, h2⟩ := hr _ _ _ r
    exact ⟨G', H2, h2, s.sub h1, ⟨st.size, st.keep, st.gle, st.gnew, fun x hx => st.own x (h1.subset hx), st.weq⟩⟩
section
variable (G : Gh) (mv : Value) (b : Nat) (A : Option Addr) (cap : Nat) (p a : Int) (B : Option Addr) (m cm : Nat) (x : Own)
theorem take1_ok (r : List V) (v : V) (hv : VVec A cap (r ++ [v]) x) (hb : (r ++ [v]).length ≤ 1000000) :
    Fn Tryz.prog 57 #[mv, .pointer (some ⟨b, 0, none⟩), .int .i64 1] G [frB b A (r ++ [v]).length cap p a B m cm, x]
      fun e G' H' => ∃ A' cap' x', e = .returned (.slice A' 1 cap') ∧ G = G' ∧ H' = [x', frB b A r.length cap p a B m cm, x] ∧ VVec A' cap' [v] x' ∧ VVec A cap r x :=
  take_ok G mv b A cap p a B m cm r [v] x hv (by simp at hb ⊢; omega)
theorem take2_ok (r : List V) (u v : V) (hv : VVec A cap (r ++ [u, v]) x) (hb : (r ++ [u, v]).length ≤ 1000000) :
    Fn Tryz.prog 57 #[mv, .pointer (some ⟨b, 0, none⟩), .int .i64 2] G [frB b A (r ++ [u, v]).length cap p a B m cm, x]
      fun e G' H' => ∃ A' cap' x', e = .returned (.slice A' 2 cap') ∧ G = G' ∧ H' = [x', frB b A r.length cap p a B m cm, x] ∧ VVec A' cap' [u, v] x' ∧ VVec A cap r x :=
  take_ok G mv b A cap p a B m cm r [u, v] x hv (by simp at hb ⊢; omega)
theorem typed1_ok (r : List V) (v : V) (t : Int) (ht : v.t = t) (hv : VVec A cap (r ++ [v]) x) (hb : (r ++ [v]).length ≤ 1000000) :
    Fn Tryz.prog 58 #[mv, .pointer (some ⟨b, 0, none⟩), .int .i64 1, .int .i64 t] G [frB b A (r ++ [v]).length cap p a B m cm, x]
      fun e G' H' => ∃ A' cap' x', e = .returned (.slice A' 1 cap') ∧ G = G' ∧ H' = [x', frB b A r.length cap p a B m cm, x] ∧ VVec A' cap' [v] x' ∧ VVec A cap r x :=
  (typed_fnQ G mv b A cap p a B m cm r [v] x t hv (by simp at hb ⊢; omega)).mono fun e G' H' ⟨h1, h2⟩ => by
    rcases h2 with ⟨A', cap', x', h3, _, h5, h6, h7⟩ | ⟨_, ⟨u, hu, hne⟩, _⟩
    · exact ⟨A', cap', x', h3, h1, h5, h6, h7⟩
    · rw [List.mem_singleton] at hu; subst hu; exact absurd ht hne
theorem typed2_ok (r : List V) (u v : V) (t : Int) (hu : u.t = t) (ht : v.t = t) (hv : VVec A cap (r ++ [u, v]) x) (hb : (r ++ [u, v]).length ≤ 1000000) :
    Fn Tryz.prog 58 #[mv, .pointer (some ⟨b, 0, none⟩), .int .i64 2, .int .i64 t] G [frB b A (r ++ [u, v]).length cap p a B m cm, x]
      fun e G' H' => ∃ A' cap' x', e = .returned (.slice A' 2 cap') ∧ G = G' ∧ H' = [x', frB b A r.length cap p a B m cm, x] ∧ VVec A' cap' [u, v] x' ∧ VVec A cap r x :=
  (typed_fnQ G mv b A cap p a B m cm r [u, v] x t hv (by simp at hb ⊢; omega)).mono fun e G' H' ⟨h1, h2⟩ => by
    rcases h2 with ⟨A', cap', x', h3, _, h5, h6, h7⟩ | ⟨_, ⟨y, hy, hne⟩, _⟩
    · exact ⟨A', cap', x', h3, h1, h5, h6, h7⟩
    · simp only [List.mem_cons, List.not_mem_nil, or_false] at hy
      rcases hy with rfl | rfl
      · exact absurd hu hne
      · exact absurd ht hne
theorem typed1_no (l : List V) (t : Int) (hn : ty1 l t = none) (hv : VVec A cap l x) (hb : l.length ≤ 1000000) :
    Fn Tryz.prog 58 #[mv, .pointer (some ⟨b, 0, none⟩), .int .i64 1, .int .i64 t] G [frB b A l.length cap p a B m cm, x]
      fun e G' H' => e = halted 6 ∧ G = G' ∧ Left b H' := by
  rcases ty1_none hn with h | ⟨r, v, rfl, hne⟩
  · refine ((typed_no G mv b A l.length cap p a B m cm 1 t (by omega)).pk (F := [x]) (.cons .here .nil)).drop fun e G' H' ⟨H2, ⟨h1, h2, h3⟩, h4⟩ => ⟨H2, by rw [h4]; exact List.sublist_append_left _ _, h1, h2, h3⟩
  · refine (typed_fnQ G mv b A cap p a B m cm r [v] x t hv (by simp at hb ⊢; omega)).mono fun e G' H' ⟨h1, h2⟩ => ?_
    rcases h2 with ⟨A', cap', x', h3, h4, _⟩ | ⟨h3, _, h4⟩
    · exact absurd (h4 v (by simp)) hne
    · exact ⟨h3, h1, h4⟩
theorem typed2_no (l : List V) (t : Int) (hn : ty2 l t = none) (hv : VVec A cap l x) (hb : l.length ≤ 1000000) :
    Fn Tryz.prog 58 #[mv, .pointer (some ⟨b, 0, none⟩), .int .i64 2, .int .i64 t] G [frB b A l.length cap p a B m cm, x]
      fun e G' H' => e = halted 6 ∧ G = G' ∧ Left b H' := by
  rcases ty2_none hn with h | ⟨r, u, v, rfl, hne⟩
  · refine ((typed_no G mv b A l.length cap p a B m cm 2 t (by omega)).pk (F := [x]) (.cons .here .nil)).drop fun e G' H' ⟨H2, ⟨h1, h2, h3⟩, h4⟩ => ⟨H2, by rw [h4]; exact List.sublist_append_left _ _, h1, h2, h3⟩
  · refine (typed_fnQ G mv b A cap p a B m cm r [u, v] x t hv (by simp at hb ⊢; omega)).mono fun e G' H' ⟨h1, h2⟩ => ?_
    rcases h2 with ⟨A', cap', x', h3, h4, _⟩ | ⟨h3, _, h4⟩
    · exact absurd ⟨h4 u (by simp), h4 v (by simp)⟩ hne
    · exact ⟨h3, h1, h4⟩
theorem ordered_ok (r : List V) (u v : V) (c : Int) (hk : ordOK u v) (hv : VVec A cap (r ++ [u, v]) x) (hb : (r ++ [u, v]).length ≤ 1000000) :
    Fn Tryz.prog 75 #[mv, .pointer (some ⟨b, 0, none⟩), .int .i64 c] G [frB b A (r ++ [u, v]).length cap p a B m cm, x]
      fun e G' H' => e = .returned (.bool (ordS c u v)) ∧ G = G' ∧ H' = [frB b A r.length cap p a B m cm, x] ∧ VVec A cap r x := by
  refine (ordered_fn G mv b A cap p a B m cm r u v x c hv (by simp at hb; omega)).mono fun e G' H' ⟨h1, h2⟩ => ?_
  rcases h2 with ⟨h3, _, h5, h6⟩ | ⟨_, h, _⟩
  · exact ⟨h3, h1, h5, h6⟩
  · exact absurd hk h
theorem ordered_bad (l : List V) (c : Int) (hn : ∀ r u v, l = r ++ [u, v] → ¬ ordOK u v) (hv : VVec A cap l x) (hb : l.length ≤ 1000000) :
    Fn Tryz.prog 75 #[mv, .pointer (some ⟨b, 0, none⟩), .int .i64 c] G [frB b A l.length cap p a B m cm, x]
      fun e G' H' => e = halted 6 ∧ G = G' ∧ Left b H' := by
  rcases @two_or l with h | ⟨r, u, v, rfl⟩
  · exact ((ordered_no G mv b A l.length cap p a B m cm c h).pk (F := [x]) (.cons .here .nil)).drop fun e G' H' ⟨H2, ⟨h1, h2, h3⟩, h4⟩ => ⟨H2, by rw [h4]; exact List.sublist_append_left _ _, h1, h2, h3⟩
  · refine (ordered_fn G mv b A cap p a B m cm r u v x c hv (by simp at hb; omega)).mono fun e G' H' ⟨h1, h2⟩ => ?_
    rcases h2 with ⟨_, h, _⟩ | ⟨h3, _, h4⟩
    · exact absurd h (hn r u v rfl)
    · exact ⟨h3, h1, h4⟩
end
def onA (l : List V) (f : List V → V → PR) : PR := match pop1 l with
  | none => .halt 6
  | some (r, v) => f r v
def onB (l : List V) (f : List V → V → V → PR) : PR := match pop2 l with
  | none => .halt 6
  | some (r, u, v) => f r u v
def recR (c : Int) (r : List V) (u v : V) : PR := match reckonS c u.i v.i with
  | none => .halt 2
  | some n => .set (r ++ [numV n])
def plainR (res : Int) (l : List V) (c : Int) (outn : Nat) : PR :=
  if c = 4 then onA l fun r _ => .set r
  else if c = 9 then if res = 0 then .leave l [] else .halt 6
  else if c = 10 then if res = 0 then .halt 6 else on1 l res fun r v => .leave r [v]
  else if c = 11 then onA l fun r v => if 4096 ≤ outn then .halt 7 else .print r v
  else if c = 12 then onB l fun r u v => if u.t = v.t then .set (r ++ [truthV (decide (u = v))]) else .halt 6
  else if c = 13 then onB l fun r u v => if u.t = v.t then .set (r ++ [truthV (!decide (u = v))]) else .halt 6
  else if c = 25 then on1 l 2 fun r v => .set (r ++ [truthV (!v.b)])
  else if c = 26 then on1 l 3 fun r v => .set (r ++ [numV v.s.size])
  else if c = 20 then on2 l 3 fun r u v => if 4096 < u.s.size + v.s.size then .halt 3 else .set (r ++ [textV (u.s ++ v.s)])
  else if c = 14 ∨ c = 15 ∨ c = 16 ∨ c = 17 then onB l fun r u v => if ordOK u v then .set (r ++ [truthV (ordS c u v)]) else .halt 6
  else if c = 24 then on1 l 1 fun r v => .set (r ++ [numV (IntKind.i64.wrap (0 - v.i))])
  else if c = 18 ∨ c = 19 ∨ c = 21 ∨ c = 22 ∨ c = 23 then on2 l 1 (recR c)
  else .halt 6
end Go.Proofs.YtbfgljcjblfleaaGreatDoor.Gb
namespace Go.Proofs.YtbfgljcjblfleaaGreatDoor.Gb
open Go Go.Proofs
attribute [local irreducible] Tryz.prog
def Lv (G : Gh) (mb : Nat) (M fx : Own) (Hx : List Own) (RL : List V → List Own → Prop) : Prop :=
  (Fn Tryz.prog 72 #[.pointer (some ⟨mb, 0, none⟩), .slice none 0 0] G (M :: fx :: Hx) fun e G' H' => e = .returned (.tuple #[]) ∧ G = G' ∧ RL [] H') ∧
  ∀ A' cap' y v, VVec A' cap' [v] y → Fn Tryz.prog 72 #[.pointer (some ⟨mb, 0, none⟩), .slice A' 1 cap'] G (y :: M :: fx :: Hx) fun e G' H' => e = .returned (.tuple #[]) ∧ G = G' ∧ RL [v] H'
def PlR (G : Gh) (mb : Nat) (c1 c2 c3 : Value) (FA : Option Addr) (fn fcap : Nat) (en : Int) (w : V) (OA : Option Addr) (ocap : Nat) (st : Int) (ed : Bool) (out : List V) (ox fx : Own) (Hx : List Own) (RL : List V → List Own → Prop)
    (b : Nat) (A : Option Addr) (cap : Nat) (p a : Int) (B : Option Addr) (m cm : Nat) (x : Own) (r : PR) : Ending → Gh → List Own → Prop := fun e G' H' => G = G' ∧ match r with
  | .halt k => e = halted k ∧ ∃ y, Left b [y] ∧ H' = mcB mb c1 c2 c3 FA fn fcap en w OA out.length ocap st ed :: ox :: y :: fx :: Hx
  | .set r => ∃ A' cap' x', e = .returned (.tuple #[]) ∧ VVec A' cap' r x' ∧ H' = mcB mb c1 c2 c3 FA fn fcap en w OA out.length ocap st ed :: ox :: frB b A' r.length cap' p a B m cm :: x' :: fx :: Hx
  | .print r v => ∃ OA' ocap' ox', e = .returned (.tuple #[]) ∧ VVec OA' ocap' (out ++ [v]) ox' ∧ VVec A cap r x ∧ H' = mcB mb c1 c2 c3 FA fn fcap en w OA' (out ++ [v]).length ocap' st ed :: ox' :: frB b A r.length cap p a B m cm :: x :: fx :: Hx
  | .leave r g => ∃ H1, e = .returned (.tuple #[]) ∧ VVec A cap r x ∧ RL g H1 ∧ H' = ox :: frB b A r.length cap p a B m cm :: x :: H1
section
variable (G : Gh) (mb : Nat) (c1 c2 c3 : Value) (FA : Option Addr) (fn fcap : Nat) (en : Int) (w : V) (OA : Option Addr) (ocap : Nat) (st : Int) (ed : Bool) (out : List V) (ox fx : Own) (Hx : List Own) (RL : List V → List Own → Prop)
    (b : Nat) (A : Option Addr) (cap : Nat) (p a : Int) (B : Option Addr) (m cm : Nat) (x : Own) (l : List V) (nm : ByteArray) (ex : Bool) (qv cv : Value) (lo res : Int)
theorem plain_drop (hv : VVec A cap l x) (hl : l.length ≤ 1000000) : Fn Tryz.prog 60 #[.pointer (some ⟨mb, 0, none⟩), .pointer (some ⟨b, 0, none⟩), .agg #[.string nm, .bool ex, qv, .int .i64 lo, .int .i64 res, cv], .int .i64 4] G
    (mcB mb c1 c2 c3 FA fn fcap en w OA out.length ocap st ed :: ox :: frB b A l.length cap p a B m cm :: x :: fx :: Hx) (PlR G mb c1 c2 c3 FA fn fcap en w OA ocap st ed out ox fx Hx RL b A cap p a B m cm x (plainR res l 4 out.length)) := by
  refine Fn.enter Tryz.func60 rfl rfl fun w0 => ?_
  refine WC.seq ?_
  refine WC.region ?_
  refine WL.op (by kernel_rfl) (OW.box rfl rfl fun b1 => ?_)
  refine WL.nil ?_
  refine WK.un ?_
  refine WC.seq ?_
  refine WC.region ?_
  refine WL.p (Gp.move rfl) (by kernel_rfl) rfl ?_
  refine WL.nil ?_
  refine WK.un ?_
  repeat (first | refine WC.seq ?_ | refine WC.block ?_ | (refine WC.region ?_; refine WL.p (Gp.eqI rfl rfl) (by kernel_rfl) rfl ?_; refine WL.p (Gp.assign rfl) (by kernel_rfl) rfl ?_; refine WL.nil ?_; refine WK.un ?_) | refine WC.cond_true rfl ?_ | refine WC.cond_false rfl ?_ | (refine WC.skip ?_; refine WK.un ?_) | (refine WC.exit ?_; refine WK.un ?_))
  refine WC.region ?_
  refine WL.p (Gp.move rfl) (by kernel_rfl) rfl ?_
  refine WL.p (Gp.move rfl) (by kernel_rfl) rfl ?_
  rcases @one_or l with h1 | ⟨r, v, rfl⟩
  ·
    refine WL.op (by kernel_rfl) (OW.call rfl (Pk.perm (by repeat (first | exact Pk.nil | exact Pk.all | exact Pk.app | exact Pk.appR | with_reducible apply Pk.na | (apply Pk.cons; (repeat first | exact .here | apply Rem.there | apply Rem.app)) | apply Pk.skip | apply Pk.skipA))) (take_no G _ b A l.length cap p a B m cm 1 (by omega)) rfl (fun v' G' H' h hg => by cases h.1) (fun ch G' H' h hg => ?_) (fun G' H' h => by repeat (first | (cases h.1; done) | (cases h; done) | (obtain ⟨_, h⟩ := h) | (rcases h with h | h))))
    obtain ⟨he, rfl, c, hc, rfl⟩ := h
    cases he
    refine WK.un ?_
    exact QF.panicP ⟨rfl, by rw [show plainR res l 4 out.length = .halt 6 by rw [plainR, if_pos rfl, onA, pop1_none h1]]; exact ⟨rfl, _, ⟨c, hc, rfl⟩, rfl⟩⟩ (by repeat (first | exact Pk.nil | exact Pk.all | exact Pk.app | exact Pk.appR | with_reducible apply Pk.na | (apply Pk.cons; (repeat first | exact .here | apply Rem.there | apply Rem.app)) | apply Pk.skip | apply Pk.skipA))
  ·
    refine WL.op (by kernel_rfl) (OW.callK rfl (take_ok G _ b A cap p a B m cm r [v] x hv (by simp at hl ⊢; omega)) rfl fun v' G' H' h hg => ?_)
    obtain ⟨A', cap', x', he, rfl, rfl, hv1, hv2⟩ := h
    cases he
    refine WL.nil ?_
    refine WK.un ?_
    refine WC.exit ?_
    refine WK.un ?_
    refine WK.un ?_
    exact QF.p0 (.inr rfl) rfl  (⟨rfl, by rw [show plainR res (r ++ [v]) 4 out.length = .set r by rw [plainR, if_pos rfl, onA, pop1_snoc]]; exact ⟨A, cap, x, rfl, hv2, rfl⟩⟩)
theorem plain_return (hv : VVec A cap l x) (hl : l.length ≤ 1000000) (hL : Lv G mb (mcB mb c1 c2 c3 FA fn fcap en w OA out.length ocap st ed) fx Hx RL) : Fn Tryz.prog 60 #[.pointer (some ⟨mb, 0, none⟩), .pointer (some ⟨b, 0, none⟩), .agg #[.string nm, .bool ex, qv, .int .i64 lo, .int .i64 res, cv], .int .i64 9] G
    (mcB mb c1 c2 c3 FA fn fcap en w OA out.length ocap st ed :: ox :: frB b A l.length cap p a B m cm :: x :: fx :: Hx) (PlR G mb c1 c2 c3 FA fn fcap en w OA ocap st ed out ox fx Hx RL b A cap p a B m cm x (plainR res l 9 out.length)) := by
  refine Fn.enter Tryz.func60 rfl rfl fun w0 => ?_
  refine WC.seq ?_
  refine WC.region ?_
  refine WL.op (by kernel_rfl) (OW.box rfl rfl fun b1 => ?_)
  refine WL.nil ?_
  refine WK.un ?_
  refine WC.seq ?_
  refine WC.region ?_
  refine WL.p (Gp.move rfl) (by kernel_rfl) rfl ?_
  refine WL.nil ?_
  refine WK.un ?_
  repeat (first | refine WC.seq ?_ | refine WC.block ?_ | (refine WC.region ?_; refine WL.p (Gp.eqI rfl rfl) (by kernel_rfl) rfl ?_; refine WL.p (Gp.assign rfl) (by kernel_rfl) rfl ?_; refine WL.nil ?_; refine WK.un ?_) | refine WC.cond_true rfl ?_ | refine WC.cond_false rfl ?_ | (refine WC.skip ?_; refine WK.un ?_) | (refine WC.exit ?_; refine WK.un ?_))
  refine WC.region ?_
  refine WL.p (Gp.fieldAddr rfl) (by kernel_rfl) rfl ?_
  (first | (refine WL.v (Gv.load1 rfl (by (repeat first | exact .here | apply At.there)) (by first | rfl | assumption)) (by kernel_rfl) rfl ?_) | (refine WL.v (Gv.loadN rfl (by (repeat first | exact .here | apply At.there)) (by rfl) (by rfl)) (by kernel_rfl) rfl ?_) | (refine WL.v (Gv.loadG1 rfl (by assumption) rfl) (by kernel_rfl) rfl ?_) | (refine WL.v (Gv.loadG0 rfl (by assumption) rfl) (by kernel_rfl) rfl ?_) | (refine WL.v (Gv.loadGN rfl (by assumption) rfl) (by kernel_rfl) rfl ?_))
  (first | refine WL.p (Gp.eqI rfl rfl) (by kernel_rfl) rfl ?_ | refine WL.p (Gp.eqS rfl rfl) (by kernel_rfl) rfl ?_ | refine WL.p (Gp.nilSl rfl) (by kernel_rfl) rfl ?_ | refine WL.p (Gp.eqB rfl rfl) (by kernel_rfl) rfl ?_)
  by_cases hr : res = 0
  · rw [show (res == 0) = true by simpa using hr]
    refine WL.op (by kernel_rfl) (OW.callR rfl (Hf := []) (List.Perm.refl _) (need_ok G) rfl (by rintro e G' H' ⟨h, _⟩; exact ⟨_, h⟩) fun v' G' H' h hg => ?_)
    obtain ⟨he, rfl, rfl⟩ := h
    cases he
    refine WL.nil ?_
    refine WK.un ?_
    refine WC.region ?_
    refine WL.p (Gp.move rfl) (by kernel_rfl) rfl ?_
    refine WL.op (by kernel_rfl) (OW.callK rfl (hL.1) rfl fun v' G' H' h hg => ?_)
    obtain ⟨he, rfl, hR⟩ := h
    cases he
    refine WL.nil ?_
    refine WK.un ?_
    refine WC.exit ?_
    refine WK.un ?_
    refine WK.un ?_
    refine WK.swap ?_
    exact QF.p0 (.inr rfl) rfl ⟨rfl, by rw [show plainR res l 9 out.length = .leave l [] by rw [plainR, if_neg (by decide), if_pos rfl, if_pos hr]]; exact ⟨H', rfl, hv, hR, rfl⟩⟩ (by repeat (first | exact Pk.nil | exact Pk.all | exact Pk.app | exact Pk.appR | with_reducible apply Pk.na | (apply Pk.cons; (repeat first | exact .here | apply Rem.there | apply Rem.app)) | apply Pk.skip | apply Pk.skipA))
  · rw [show (res == 0) = false by simpa using hr]
    refine WL.op (by kernel_rfl) (OW.call rfl (Hf := []) (List.Perm.refl _) (need_no _) rfl (fun v G' H' h _ => by cases h.1) (fun ch G' H' h _ => ?_) (fun G' H' h => by cases h.1))
    obtain ⟨he, rfl, rfl⟩ := h
    cases he
    refine WK.un ?_
    exact QF.panicP (⟨rfl, by rw [show plainR res l 9 out.length = .halt 6 by rw [plainR, if_neg (by decide), if_pos rfl, if_neg hr]]; exact ⟨rfl, _, Left.of b A l.length cap p a B m cm, rfl⟩⟩)
theorem plain_give (hv : VVec A cap l x) (hl : l.length ≤ 1000000) (hL : Lv G mb (mcB mb c1 c2 c3 FA fn fcap en w OA out.length ocap st ed) fx Hx RL) : Fn Tryz.prog 60 #[.pointer (some ⟨mb, 0, none⟩), .pointer (some ⟨b, 0, none⟩), .agg #[.string nm, .bool ex, qv, .int .i64 lo, .int .i64 res, cv], .int .i64 10] G
    (mcB mb c1 c2 c3 FA fn fcap en w OA out.length ocap st ed :: ox :: frB b A l.length cap p a B m cm :: x :: fx :: Hx) (PlR G mb c1 c2 c3 FA fn fcap en w OA ocap st ed out ox fx Hx RL b A cap p a B m cm x (plainR res l 10 out.length)) := by
  refine Fn.enter Tryz.func60 rfl rfl fun w0 => ?_
  rw [show plainR res l 10 out.length = if res = 0 then .halt 6 else on1 l res fun r v => .leave r [v] by simp [plainR]]
  refine WC.seq ?_
  refine WC.region ?_
  refine WL.op (by kernel_rfl) (OW.box rfl rfl fun b1 => ?_)
  refine WL.nil ?_
  refine WK.un ?_
  refine WC.seq ?_
  refine WC.region ?_
  refine WL.p (Gp.move rfl) (by kernel_rfl) rfl ?_
  refine WL.nil ?_
  refine WK.un ?_
  repeat (first | refine WC.seq ?_ | refine WC.block ?_ | (refine WC.region ?_; refine WL.p (Gp.eqI rfl rfl) (by kernel_rfl) rfl ?_; refine WL.p (Gp.assign rfl) (by kernel_rfl) rfl ?_; refine WL.nil ?_; refine WK.un ?_) | refine WC.cond_true rfl ?_ | refine WC.cond_false rfl ?_ | (refine WC.skip ?_; refine WK.un ?_) | (refine WC.exit ?_; refine WK.un ?_))
  refine WC.region ?_
  refine WL.p (Gp.fieldAddr rfl) (by kernel_rfl) rfl ?_
  (first | (refine WL.v (Gv.load1 rfl (by (repeat first | exact .here | apply At.there)) (by first | rfl | assumption)) (by kernel_rfl) rfl ?_) | (refine WL.v (Gv.loadN rfl (by (repeat first | exact .here | apply At.there)) (by rfl) (by rfl)) (by kernel_rfl) rfl ?_) | (refine WL.v (Gv.loadG1 rfl (by assumption) rfl) (by kernel_rfl) rfl ?_) | (refine WL.v (Gv.loadG0 rfl (by assumption) rfl) (by kernel_rfl) rfl ?_) | (refine WL.v (Gv.loadGN rfl (by assumption) rfl) (by kernel_rfl) rfl ?_))
  (first | refine WL.p (Gp.neI rfl rfl) (by kernel_rfl) rfl ?_ | refine WL.p (Gp.neS rfl rfl) (by kernel_rfl) rfl ?_ | refine WL.p (Gp.neB rfl rfl) (by kernel_rfl) rfl ?_)
  by_cases hr : res = 0
  · rw [show (res != 0) = false by simpa using hr, if_pos hr]
    refine WL.op (by kernel_rfl) (OW.call rfl (Hf := []) (List.Perm.refl _) (need_no _) rfl (fun v G' H' h _ => by cases h.1) (fun ch G' H' h _ => ?_) (fun G' H' h => by cases h.1))
    obtain ⟨he, rfl, rfl⟩ := h
    cases he
    refine WK.un ?_
    exact QF.panicP (⟨rfl, rfl, _, Left.of b A l.length cap p a B m cm, rfl⟩)
  rw [show (res != 0) = true by simpa using hr, if_neg hr]
  refine WL.op (by kernel_rfl) (OW.callR rfl (Hf := []) (List.Perm.refl _) (need_ok G) rfl (by rintro e G' H' ⟨h, _⟩; exact ⟨_, h⟩) fun v' G' H' h hg => ?_)
  obtain ⟨he, rfl, rfl⟩ := h
  cases he
  refine WL.nil ?_
  refine WK.un ?_
  refine WC.region ?_
  refine WL.p (Gp.move rfl) (by kernel_rfl) rfl ?_
  refine WL.p (Gp.move rfl) (by kernel_rfl) rfl ?_
  refine WL.p (Gp.move rfl) (by kernel_rfl) rfl ?_
  refine WL.p (Gp.fieldAddr rfl) (by kernel_rfl) rfl ?_
  (first | (refine WL.v (Gv.load1 rfl (by (repeat first | exact .here | apply At.there)) (by first | rfl | assumption)) (by kernel_rfl) rfl ?_) | (refine WL.v (Gv.loadN rfl (by (repeat first | exact .here | apply At.there)) (by rfl) (by rfl)) (by kernel_rfl) rfl ?_) | (refine WL.v (Gv.loadG1 rfl (by assumption) rfl) (by kernel_rfl) rfl ?_) | (refine WL.v (Gv.loadG0 rfl (by assumption) rfl) (by kernel_rfl) rfl ?_) | (refine WL.v (Gv.loadGN rfl (by assumption) rfl) (by kernel_rfl) rfl ?_))
  cases ht : ty1 l res with
  | none =>
    rw [show on1 l res _ = .halt 6 by rw [on1, ht]]
    refine WL.op (by kernel_rfl) (OW.call rfl (Pk.perm (by repeat (first | exact Pk.nil | exact Pk.all | exact Pk.app | exact Pk.appR | with_reducible apply Pk.na | (apply Pk.cons; (repeat first | exact .here | apply Rem.there | apply Rem.app)) | apply Pk.skip | apply Pk.skipA))) (typed1_no G _ b A cap p a B m cm x l res ht hv hl) rfl (fun v' G' H' h hg => by cases h.1) (fun ch G' H' h hg => ?_) (fun G' H' h => by repeat (first | (cases h.1; done) | (cases h; done) | (obtain ⟨_, h⟩ := h) | (rcases h with h | h))))
    obtain ⟨he, rfl, c, hc, rfl⟩ := h
    cases he
    refine WK.un ?_
    exact QF.panicP ⟨rfl, rfl, _, ⟨c, hc, rfl⟩, rfl⟩
  | some rv =>
    obtain ⟨r, v⟩ := rv
    rw [show on1 l res _ = .leave r [v] by rw [on1, ht]]
    obtain ⟨rfl, hvt⟩ := ty1_some ht
    refine WL.op (by kernel_rfl) (OW.callK rfl (typed1_ok G _ b A cap p a B m cm x r v res hvt hv hl) rfl fun v' G' H' h hg => ?_)
    obtain ⟨A', cap', x', he, rfl, rfl, hv1, hv2⟩ := h
    cases he
    refine WL.op (by kernel_rfl) (OW.callK rfl (hL.2 A' cap' x' v hv1) rfl fun v' G' H' h hg => ?_)
    obtain ⟨he, rfl, hR⟩ := h
    cases he
    refine WL.nil ?_
    refine WK.un ?_
    refine WC.exit ?_
    refine WK.un ?_
    refine WK.un ?_
    refine WK.swap ?_
    exact QF.p0 (.inr rfl) rfl ⟨rfl, H', rfl, hv2, hR, rfl⟩ (by repeat (first | exact Pk.nil | exact Pk.all | exact Pk.app | exact Pk.appR | with_reducible apply Pk.na | (apply Pk.cons; (repeat first | exact .here | apply Rem.there | apply Rem.app)) | apply Pk.skip | apply Pk.skipA))
theorem plain_print (hv : VVec A cap l x) (hl : l.length ≤ 1000000) (ho : VVec OA ocap out ox) : Fn Tryz.prog 60 #[.pointer (some ⟨mb, 0, none⟩), .pointer (some ⟨b, 0, none⟩), .agg #[.string nm, .bool ex, qv, .int .i64 lo, .int .i64 res, cv], .int .i64 11] G
    (mcB mb c1 c2 c3 FA fn fcap en w OA out.length ocap st ed :: ox :: frB b A l.length cap p a B m cm :: x :: fx :: Hx) (PlR G mb c1 c2 c3 FA fn fcap en w OA ocap st ed out ox fx Hx RL b A cap p a B m cm x (plainR res l 11 out.length)) := by
  refine Fn.enter Tryz.func60 rfl rfl fun w0 => ?_
  rw [show plainR res l 11 out.length = onA l fun r v => if 4096 ≤ out.length then .halt 7 else .print r v by simp [plainR]]
  refine WC.seq ?_
  refine WC.region ?_
  refine WL.op (by kernel_rfl) (OW.box rfl rfl fun b1 => ?_)
  refine WL.nil ?_
  refine WK.un ?_
  refine WC.seq ?_
  refine WC.region ?_
  refine WL.p (Gp.move rfl) (by kernel_rfl) rfl ?_
  refine WL.nil ?_
  refine WK.un ?_
  repeat (first | refine WC.seq ?_ | refine WC.block ?_ | (refine WC.region ?_; refine WL.p (Gp.eqI rfl rfl) (by kernel_rfl) rfl ?_; refine WL.p (Gp.assign rfl) (by kernel_rfl) rfl ?_; refine WL.nil ?_; refine WK.un ?_) | refine WC.cond_true rfl ?_ | refine WC.cond_false rfl ?_ | (refine WC.skip ?_; refine WK.un ?_) | (refine WC.exit ?_; refine WK.un ?_))
  refine WC.region ?_
  refine WL.p (Gp.move rfl) (by kernel_rfl) rfl ?_
  refine WL.p (Gp.move rfl) (by kernel_rfl) rfl ?_
  cases ht : pop1 l with
  | none =>
    have h1 := pop1_len ht
    rw [show onA l _ = .halt 6 by rw [onA, ht]]
    refine WL.op (by kernel_rfl) (OW.call rfl (Pk.perm (by repeat (first | exact Pk.nil | exact Pk.all | exact Pk.app | exact Pk.appR | with_reducible apply Pk.na | (apply Pk.cons; (repeat first | exact .here | apply Rem.there | apply Rem.app)) | apply Pk.skip | apply Pk.skipA))) (((take_no G _ b A l.length cap p a B m cm 1 (by omega)).pk (F := [x]) (.cons .here .nil)).drop fun e G' H' ⟨H2, ⟨h1, h2, h3⟩, h4⟩ => ⟨H2, by rw [h4]; exact List.sublist_append_left _ _, (⟨h1, h2, h3⟩ : e = halted 6 ∧ G = G' ∧ Left b H2)⟩) rfl (fun v' G' H' h hg => by cases h.1) (fun ch G' H' h hg => ?_) (fun G' H' h => by repeat (first | (cases h.1; done) | (cases h; done) | (obtain ⟨_, h⟩ := h) | (rcases h with h | h))))
    obtain ⟨he, rfl, c, hc, rfl⟩ := h
    cases he
    refine WK.un ?_
    exact QF.panicP ⟨rfl, rfl, _, ⟨c, hc, rfl⟩, rfl⟩
  | some rv =>
    obtain ⟨r, v⟩ := rv
    rw [show onA l _ = (if 4096 ≤ out.length then .halt 7 else .print r v) by rw [onA, ht]]
    obtain rfl := pop1_some ht
    refine WL.op (by kernel_rfl) (OW.callK rfl (take1_ok G _ b A cap p a B m cm x r v hv hl) rfl fun v' G' H' h hg => ?_)
    obtain ⟨A', cap', x', he, rfl, rfl, hv1, hv2⟩ := h
    cases he
    obtain ⟨hlv, ⟨h1, h2, h3, h4⟩ | ⟨b', c, rfl, rfl, h1, h2, h3⟩⟩ := hv1
    · simp at h2
    refine WL.p (Gp.indexAddr rfl rfl (by first | assumption | omega | decide) (by first | assumption | omega | decide | (simp only [List.length_cons, List.length_nil]; decide))) (by kernel_rfl) rfl ?_
    refine WL.v (Gv.loadN rfl .here (VVec.elem (A := none) (cap := 0) (b := 0) (i := 0) (v := v) h3 rfl) rfl) (by kernel_rfl) rfl ?_
    refine WL.op (by kernel_rfl) (OW.alloc rfl fun b2 => ?_)
    refine WL.op (by kernel_rfl) (OW.store rfl rfl (by (repeat first | exact .here | apply At.there)) rfl (by rfl) (by rfl) (by kernel_rfl) (by rfl) ?_ rfl)
    refine WL.nil ?_
    refine WK.un ?_
    refine WC.seq ?_
    refine WC.seq ?_
    refine WC.region ?_
    refine WL.p (Gp.move rfl) (by kernel_rfl) rfl ?_
    refine WL.p (Gp.nilCheck rfl) (by kernel_rfl) rfl ?_
    refine WL.p (Gp.fieldAddr rfl) (by kernel_rfl) rfl ?_
    refine WL.p (Gp.fieldAddr rfl) (by kernel_rfl) rfl ?_
    (first | (refine WL.v (Gv.load1 rfl (by (repeat first | exact .here | apply At.there)) (by first | rfl | assumption)) (by kernel_rfl) rfl ?_) | (refine WL.v (Gv.loadN rfl (by (repeat first | exact .here | apply At.there)) (by rfl) (by rfl)) (by kernel_rfl) rfl ?_) | (refine WL.v (Gv.loadG1 rfl (by assumption) rfl) (by kernel_rfl) rfl ?_) | (refine WL.v (Gv.loadG0 rfl (by assumption) rfl) (by kernel_rfl) rfl ?_) | (refine WL.v (Gv.loadGN rfl (by assumption) rfl) (by kernel_rfl) rfl ?_))
    (first | refine WL.p (Gp.lenSl rfl) (by kernel_rfl) rfl ?_ | refine WL.p (Gp.lenS rfl) (by kernel_rfl) rfl ?_)
    (first | refine WL.p (Gp.geI rfl rfl) (by kernel_rfl) rfl ?_ | refine WL.p (Gp.geS rfl rfl) (by kernel_rfl) rfl ?_)
    refine WL.nil ?_
    refine WK.un ?_
    refine WC.cond rfl (fun hc => ?_) (fun hc => ?_)
    · have h4 : 4096 ≤ out.length := by have h := hc; simp at h; omega
      rw [if_pos h4]
      refine WC.region ?_
      refine WL.p (Gp.build rfl rfl) (by kernel_rfl) rfl ?_
      refine WL.p (Gp.mkIface rfl (by kernel_rfl)) (by kernel_rfl) rfl ?_
      refine WL.op (by kernel_rfl) (OW.panic rfl ?_)
      refine WK.un ?_
      exact QF.panicP ⟨rfl, rfl, _, Left.of b A r.length cap p a B m cm, rfl⟩ (by repeat (first | exact Pk.nil | exact Pk.all | exact Pk.app | exact Pk.appR | with_reducible apply Pk.na | (apply Pk.cons; (repeat first | exact .here | apply Rem.there | apply Rem.app)) | apply Pk.skip | apply Pk.skipA))
    · have h4 : ¬ 4096 ≤ out.length := by have h := hc; simp at h; omega
      rw [if_neg h4]
      refine WC.skip ?_
      refine WK.un ?_
      refine WC.draw mixed ?_
      refine WA.tp (i := 0) rfl (by kernel_rfl) (by kernel_rfl) rfl (Gp.move rfl) ?_
      refine WA.tp (i := 1) rfl (by kernel_rfl) (by kernel_rfl) rfl (Gp.move rfl) ?_
      refine WA.tp (i := 2) rfl (by kernel_rfl) (by kernel_rfl) rfl (Gp.nilCheck rfl) ?_
      refine WA.tp (i := 3) rfl (by kernel_rfl) (by kernel_rfl) rfl (Gp.fieldAddr rfl) ?_
      refine WA.tp (i := 4) rfl (by kernel_rfl) (by kernel_rfl) rfl (Gp.fieldAddr rfl) ?_
      (first | (refine WA.tv (i := 5) rfl (by kernel_rfl) (by kernel_rfl) rfl (Gv.load1 rfl (by (repeat first | exact .here | apply At.there)) (by first | rfl | assumption)) ?_) | (refine WA.tv (i := 5) rfl (by kernel_rfl) (by kernel_rfl) rfl (Gv.loadN rfl (by (repeat first | exact .here | apply At.there)) (by rfl) (by rfl)) ?_) | (refine WA.tv (i := 5) rfl (by kernel_rfl) (by kernel_rfl) rfl (Gv.loadG1 rfl (by assumption) rfl) ?_) | (refine WA.tv (i := 5) rfl (by kernel_rfl) (by kernel_rfl) rfl (Gv.loadG0 rfl (by assumption) rfl) ?_) | (refine WA.tv (i := 5) rfl (by kernel_rfl) (by kernel_rfl) rfl (Gv.loadGN rfl (by assumption) rfl) ?_))
      (first | (refine WA.tv (i := 6) rfl (by kernel_rfl) (by kernel_rfl) rfl (Gv.load1 rfl (by (repeat first | exact .here | apply At.there)) (by first | rfl | assumption)) ?_) | (refine WA.tv (i := 6) rfl (by kernel_rfl) (by kernel_rfl) rfl (Gv.loadN rfl (by (repeat first | exact .here | apply At.there)) (by rfl) (by rfl)) ?_) | (refine WA.tv (i := 6) rfl (by kernel_rfl) (by kernel_rfl) rfl (Gv.loadG1 rfl (by assumption) rfl) ?_) | (refine WA.tv (i := 6) rfl (by kernel_rfl) (by kernel_rfl) rfl (Gv.loadG0 rfl (by assumption) rfl) ?_) | (refine WA.tv (i := 6) rfl (by kernel_rfl) (by kernel_rfl) rfl (Gv.loadGN rfl (by assumption) rfl) ?_))
      refine WA.one (i := 7) (by kernel_rfl) rfl (by kernel_rfl) (OW.buildSlice rfl (by kernel_rfl) (by kernel_rfl) (by rfl) rfl fun b3 => ?_)
      refine WA.one (i := 8) (by kernel_rfl) rfl (by kernel_rfl) (OW.append rfl rfl (by kernel_rfl) (by kernel_rfl) ho (by (repeat first | exact .here | apply At.there)) (Rds.blk0 (cs := vcells v) .here rfl) rfl rfl (by omega) (by omega) rfl fun OA' ocap' ox' ho' => ?_)
      refine WA.tp (i := 9) rfl (by kernel_rfl) (by kernel_rfl) rfl (Gp.nilCheck rfl) ?_
      refine WA.tp (i := 10) rfl (by kernel_rfl) (by kernel_rfl) rfl (Gp.fieldAddr rfl) ?_
      refine WA.tp (i := 11) rfl (by kernel_rfl) (by kernel_rfl) rfl (Gp.fieldAddr rfl) ?_
      refine WA.one (i := 12) (by kernel_rfl) rfl (by kernel_rfl) (OW.store rfl rfl (by (repeat first | exact .here | apply At.there)) rfl (by rfl) (by rfl) (by kernel_rfl) (by rfl) ?_ rfl)
      refine WA.done (by kernel_rfl) ?_
      refine WK.un ?_
      refine WC.exit ?_
      refine WK.un ?_
      have e0 : (out ++ [v]).length = out.length + 1 := by simp
      exact QF.p0 (.inr rfl) rfl ⟨rfl, OA', ocap', ox', rfl, VVec.snoc ho', hv2, by rw [e0]⟩ (by repeat (first | exact Pk.nil | exact Pk.all | exact Pk.app | exact Pk.appR | with_reducible apply Pk.na | (apply Pk.cons; (repeat first | exact .here | apply Rem.there | apply Rem.app)) | apply Pk.skip | apply Pk.skipA))
end
end Go.Proofs.YtbfgljcjblfleaaGreatDoor.Gb
