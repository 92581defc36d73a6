/- A frame is left. -/
import Derived.Test.YtjgohbepageicaaVj
namespace Go.Proofs.Ytjgohbepageicaa.Gb
open Go Go.Proofs
set_option linter.unusedVariables false
set_option linter.unusedSimpArgs false
attribute [local irreducible] Try.prog

def lastV (v : V) (l : List V) : V := l.getLastD v
theorem lastV_take (v : V) (l : List V) (j : Nat) (u : V) (h : l[j]? = some u) : lastV v (l.take (j + 1)) = u := by
  rw [List.take_add_one, h]; simp [lastV]
theorem PVec.cut1 {FA : Option Addr} {cap : Nat} {bs : List Nat} {b : Nat} {x : Own} (h : PVec FA cap (bs ++ [b]) x) : PVec FA cap bs x := by
  have e : (ptrs (bs ++ [b])).take (bs.length * 1) = ptrs bs := by simp [ptrs]
  have := Vec.cut (m := bs.length) h (by simp)
  rw [e] at this
  exact this

theorem leave_end (G : Gh) (mb : Nat) (c1 c2 c3 : Value) (FA : Option Addr) (fcap : Nat) (en : Int) (v : V) (OA : Option Addr) (on ocap : Nat) (st : Int) (ed : Bool) (b : Nat) (fx : Own) (hfv : PVec FA fcap [b] fx)
    (LA : Option Addr) (lc : Nat) (l : List V) (Ha : List Own) (hr : Rds G Ha LA (vflat l)) (hll : l.length ≤ 1000000) :
    Fn Try.prog 81 #[.pointer (some ⟨mb, 0, none⟩), .slice LA l.length lc] G (mcB mb c1 c2 c3 FA 1 fcap en v OA on ocap st ed :: fx :: Ha)
      fun e G' H' => e = .returned (.tuple #[]) ∧ G = G' ∧ H' = mcB mb c1 c2 c3 FA 0 fcap 1 (lastV v l) OA on ocap st true :: fx :: Ha ∧ PVec FA fcap [] fx := by
  have hcap := hfv.le
  have hcut := PVec.cut1 (bs := []) hfv
  refine Fn.enter Try.func81 rfl rfl fun w0 => ?_
  refine WC.seq ?_
  refine WC.draw mixed ?_
  refine WA.tp (i := 0) rfl (by kernel_rfl) (by kernel_rfl) rfl (Gp.move rfl) ?_
  refine WA.tp (i := 1) rfl (by kernel_rfl) (by kernel_rfl) rfl (Gp.move rfl) ?_
  refine WA.tp (i := 2) rfl (by kernel_rfl) (by kernel_rfl) rfl (Gp.nilCheck rfl) ?_
  refine WA.tp (i := 3) rfl (by kernel_rfl) (by kernel_rfl) rfl (Gp.fieldAddr rfl) ?_
  refine WA.tp (i := 5) rfl (by kernel_rfl) (by kernel_rfl) rfl (Gp.move rfl) ?_
  refine WA.tp (i := 6) rfl (by kernel_rfl) (by kernel_rfl) rfl (Gp.nilCheck rfl) ?_
  refine WA.tp (i := 7) rfl (by kernel_rfl) (by kernel_rfl) rfl (Gp.fieldAddr rfl) ?_
  (first | (refine WA.tv (i := 8) rfl (by kernel_rfl) (by kernel_rfl) rfl (Gv.load1 rfl (by (repeat first | exact .here | apply At.there)) (by first | rfl | assumption)) ?_) | (refine WA.tv (i := 8) rfl (by kernel_rfl) (by kernel_rfl) rfl (Gv.loadN rfl (by (repeat first | exact .here | apply At.there)) (by rfl) (by rfl)) ?_) | (refine WA.tv (i := 8) rfl (by kernel_rfl) (by kernel_rfl) rfl (Gv.loadG1 rfl (by assumption) rfl) ?_) | (refine WA.tv (i := 8) rfl (by kernel_rfl) (by kernel_rfl) rfl (Gv.loadG0 rfl (by assumption) rfl) ?_) | (refine WA.tv (i := 8) rfl (by kernel_rfl) (by kernel_rfl) rfl (Gv.loadGN rfl (by assumption) rfl) ?_))
  (first | refine WA.tp (i := 9) rfl (by kernel_rfl) (by kernel_rfl) rfl (Gp.lenSl rfl) ?_ | refine WA.tp (i := 9) rfl (by kernel_rfl) (by kernel_rfl) rfl (Gp.lenS rfl) ?_)
  refine WA.tp (i := 10) rfl (by kernel_rfl) (by kernel_rfl) rfl (Gp.sub rfl rfl) ?_
  (first | (refine WA.tv (i := 4) rfl (by kernel_rfl) (by kernel_rfl) rfl (Gv.load1 rfl (by (repeat first | exact .here | apply At.there)) (by first | rfl | assumption)) ?_) | (refine WA.tv (i := 4) rfl (by kernel_rfl) (by kernel_rfl) rfl (Gv.loadN rfl (by (repeat first | exact .here | apply At.there)) (by rfl) (by rfl)) ?_) | (refine WA.tv (i := 4) rfl (by kernel_rfl) (by kernel_rfl) rfl (Gv.loadG1 rfl (by assumption) rfl) ?_) | (refine WA.tv (i := 4) rfl (by kernel_rfl) (by kernel_rfl) rfl (Gv.loadG0 rfl (by assumption) rfl) ?_) | (refine WA.tv (i := 4) rfl (by kernel_rfl) (by kernel_rfl) rfl (Gv.loadGN rfl (by assumption) rfl) ?_))
  rw [show IntKind.i64.wrap (((1 : Nat) : Int) - 1) = 0 by decide]
  refine WA.tp (i := 11) rfl (by kernel_rfl) (by kernel_rfl) rfl (Gp.sliceTo rfl rfl (by omega) (by omega)) ?_
  refine WA.tp (i := 12) rfl (by kernel_rfl) (by kernel_rfl) rfl (Gp.nilCheck rfl) ?_
  refine WA.tp (i := 13) rfl (by kernel_rfl) (by kernel_rfl) rfl (Gp.fieldAddr rfl) ?_
  refine WA.one (i := 14) (by kernel_rfl) rfl (by kernel_rfl) (OW.store rfl rfl (by (repeat first | exact .here | apply At.there)) rfl (by rfl) (by rfl) (by kernel_rfl) (by rfl) ?_ rfl)
  refine WA.done (by kernel_rfl) ?_
  refine WK.un ?_
  refine WC.seq ?_
  refine WC.seq ?_
  refine WC.region ?_
  refine WL.p (Gp.move rfl) (by kernel_rfl) rfl ?_
  refine WL.p (Gp.nilCheck rfl) (by kernel_rfl) rfl ?_
  refine WL.p (Gp.fieldAddr rfl) (by kernel_rfl) rfl ?_
  (first | (refine WL.v (Gv.load1 rfl (by (repeat first | exact .here | apply At.there)) (by first | rfl | assumption)) (by kernel_rfl) rfl ?_) | (refine WL.v (Gv.loadN rfl (by (repeat first | exact .here | apply At.there)) (by rfl) (by rfl)) (by kernel_rfl) rfl ?_) | (refine WL.v (Gv.loadG1 rfl (by assumption) rfl) (by kernel_rfl) rfl ?_) | (refine WL.v (Gv.loadG0 rfl (by assumption) rfl) (by kernel_rfl) rfl ?_) | (refine WL.v (Gv.loadGN rfl (by assumption) rfl) (by kernel_rfl) rfl ?_))
  (first | refine WL.p (Gp.lenSl rfl) (by kernel_rfl) rfl ?_ | refine WL.p (Gp.lenS rfl) (by kernel_rfl) rfl ?_)
  (first | refine WL.p (Gp.eqI rfl rfl) (by kernel_rfl) rfl ?_ | refine WL.p (Gp.eqS rfl rfl) (by kernel_rfl) rfl ?_ | refine WL.p (Gp.nilSl rfl) (by kernel_rfl) rfl ?_ | refine WL.p (Gp.eqB rfl rfl) (by kernel_rfl) rfl ?_)
  refine WL.nil ?_
  refine WK.un ?_
  refine WC.cond_true rfl ?_
  refine WC.seq ?_
  refine WC.region ?_
  refine WL.p (Gp.move rfl) (by kernel_rfl) rfl ?_
  refine WL.p (Gp.move rfl) (by kernel_rfl) rfl ?_
  refine WL.p (Gp.nilCheck rfl) (by kernel_rfl) rfl ?_
  refine WL.p (Gp.fieldAddr rfl) (by kernel_rfl) rfl ?_
  refine WL.op (by kernel_rfl) (OW.store rfl rfl (by (repeat first | exact .here | apply At.there)) rfl (by rfl) (by rfl) (by kernel_rfl) (by rfl) ?_ rfl)
  refine WL.p (Gp.nilCheck rfl) (by kernel_rfl) rfl ?_
  refine WL.p (Gp.fieldAddr rfl) (by kernel_rfl) rfl ?_
  refine WL.p (Gp.fieldAddr rfl) (by kernel_rfl) rfl ?_
  refine WL.op (by kernel_rfl) (OW.store rfl rfl (by (repeat first | exact .here | apply At.there)) rfl (by rfl) (by rfl) (by kernel_rfl) (by rfl) ?_ rfl)
  refine WL.nil ?_
  refine WK.un ?_
  refine WC.seq ?_
  refine WC.seq ?_
  refine WC.region ?_
  refine WL.p (Gp.move rfl) (by kernel_rfl) rfl ?_
  (first | refine WL.p (Gp.lenSl rfl) (by kernel_rfl) rfl ?_ | refine WL.p (Gp.lenS rfl) (by kernel_rfl) rfl ?_)
  refine WL.p (Gp.move rfl) (by kernel_rfl) rfl ?_
  refine WL.nil ?_
  refine WK.un ?_
  refine WC.block ?_  -- 0
  refine WC.pk (H' := mcB mb c1 c2 c3 FA 0 fcap 1 v OA on ocap st true :: fx :: Ha) (by repeat (first | exact Pk.nil | exact Pk.all | exact Pk.app | exact Pk.appR | with_reducible apply Pk.na | (apply Pk.cons; (repeat first | exact .here | apply Rem.there | apply Rem.app)) | apply Pk.skip | apply Pk.skipA)) ?_
  refine WC.loop (X := Nat) (fun j => [(37, .int .i64 j), (36, .int .i64 l.length), (35, .slice LA l.length lc), (0, .pointer (some ⟨mb, 0, none⟩))]) (fun j => G) (fun j => mcB mb c1 c2 c3 FA 0 fcap 1 (lastV v (l.take j)) OA on ocap st true :: fx :: Ha) (fun j => l.length - j) (fun j => j ≤ l.length) 0 (by omega) (by exact ⟨rfl, rfl, rfl, rfl, trivial⟩) rfl (List.Sublist.refl _) fun j hj => ?_
  refine WC.seq ?_
  refine WC.region ?_
  (first | refine WL.p (Gp.ltI rfl rfl) (by kernel_rfl) rfl ?_ | refine WL.p (Gp.ltS rfl rfl) (by kernel_rfl) rfl ?_)
  refine WL.nil ?_
  refine WK.un ?_
  refine WC.seq ?_
  refine WC.cond rfl (fun hc8 => ?_) (fun hc8 => ?_)
  · -- yes
    have hlt : j < l.length := by have h := hc8; simp at h; omega
    obtain ⟨u, hu⟩ : ∃ u, l[j]? = some u := ⟨_, List.getElem?_eq_getElem hlt⟩
    rcases hr with h0 | ⟨lb, lo, rfl, hread⟩
    · have h := congrArg List.length h0
      rw [vflat_length] at h; simp only [List.length_nil] at h; omega
    refine WC.skip ?_
    refine WK.un ?_
    refine WC.seq ?_
    refine WC.block ?_  -- 1
    refine WC.seq ?_
    refine WC.region ?_
    refine WL.p (Gp.indexAddr rfl rfl (by first | assumption | omega | decide) (by first | assumption | omega | decide | (simp only [List.length_cons, List.length_nil]; decide))) (by kernel_rfl) rfl ?_
    refine WL.v (Gv.loadRN rfl hread (by repeat (first | exact List.Sublist.refl _ | exact List.nil_sublist _ | apply List.Sublist.cons)) (vflat_elem l j u hu) rfl) (by kernel_rfl) rfl ?_
    refine WL.op (by kernel_rfl) (OW.alloc rfl fun b9 => ?_)
    refine WL.op (by kernel_rfl) (OW.store rfl rfl (by (repeat first | exact .here | apply At.there)) rfl (by rfl) (by rfl) (by kernel_rfl) (by rfl) ?_ rfl)
    refine WL.nil ?_
    refine WK.un ?_
    refine WC.region ?_
    refine WL.p (Gp.move rfl) (by kernel_rfl) rfl ?_
    (first | (refine WL.v (Gv.load1 rfl (by (repeat first | exact .here | apply At.there)) (by first | rfl | assumption)) (by kernel_rfl) rfl ?_) | (refine WL.v (Gv.loadN rfl (by (repeat first | exact .here | apply At.there)) (by rfl) (by rfl)) (by kernel_rfl) rfl ?_) | (refine WL.v (Gv.loadG1 rfl (by assumption) rfl) (by kernel_rfl) rfl ?_) | (refine WL.v (Gv.loadG0 rfl (by assumption) rfl) (by kernel_rfl) rfl ?_) | (refine WL.v (Gv.loadGN rfl (by assumption) rfl) (by kernel_rfl) rfl ?_))
    refine WL.p (Gp.nilCheck rfl) (by kernel_rfl) rfl ?_
    refine WL.p (Gp.fieldAddr rfl) (by kernel_rfl) rfl ?_
    refine WL.p (Gp.fieldAddr rfl) (by kernel_rfl) rfl ?_
    refine WL.op (by kernel_rfl) (OW.store rfl rfl (by (repeat first | exact .here | apply At.there)) rfl (by rfl) (by rfl) (by kernel_rfl) (by rfl) ?_ rfl)
    refine WL.nil ?_
    refine WK.un ?_
    refine WC.region ?_
    (first | refine WL.p (Gp.add rfl rfl) (by kernel_rfl) rfl ?_ | refine WL.p (Gp.addS rfl rfl (by first | assumption | omega)) (by kernel_rfl) rfl ?_)
    refine WL.p (Gp.move rfl) (by kernel_rfl) rfl ?_
    refine WL.nil ?_
    refine WK.un ?_
    refine WK.pk (H' := mcB mb c1 c2 c3 FA 0 fcap 1 u OA on ocap st true :: fx :: Ha) (by repeat (first | exact Pk.nil | exact Pk.all | exact Pk.app | exact Pk.appR | with_reducible apply Pk.na | (apply Pk.cons; (repeat first | exact .here | apply Rem.there | apply Rem.app)) | apply Pk.skip | apply Pk.skipA)) ?_
    exact WK.again (j + 1) (by omega) (show j + 1 ≤ l.length by omega) (by refine ⟨?_, rfl, rfl, rfl, trivial⟩; show some _ = some _; rw [wrap_small (by omega) (by omega)]; rfl) rfl (by show List.Sublist (mcB mb c1 c2 c3 FA 0 fcap 1 (lastV v (l.take (j + 1))) OA on ocap st true :: _) _; rw [lastV_take v l j u hu]; exact List.Sublist.refl _)
  · -- no
    have hge : j = l.length := by have h := hc8; simp at h; omega
    subst hge
    rw [List.take_length]
    refine WC.exit ?_
    refine WK.un ?_
    refine WC.ret ?_
    refine WK.un ?_
    exact QF.p0 (.inl rfl) rfl  (⟨rfl, rfl, rfl, hcut⟩)

theorem leave_go (G : Gh) (mb : Nat) (c1 c2 c3 : Value) (FA : Option Addr) (fcap : Nat) (en : Int) (v : V) (OA : Option Addr) (on ocap : Nat) (st : Int) (ed : Bool) (bs : List Nat) (b0 b : Nat) (fx : Own) (hfv : PVec FA fcap (bs ++ [b0] ++ [b]) fx) (hbs : bs.length ≤ 1000000)
    (A : Option Addr) (cap : Nat) (p a : Int) (B : Option Addr) (m cm : Nat) (l0 : List V) (x : Own) (hv : VVec A cap l0 x)
    (LA : Option Addr) (lc : Nat) (l : List V) (Ha : List Own) (hr : Rds G Ha LA (vflat l)) (hll : l0.length + l.length ≤ 1000000) :
    Fn Try.prog 81 #[.pointer (some ⟨mb, 0, none⟩), .slice LA l.length lc] G (mcB mb c1 c2 c3 FA (bs ++ [b0] ++ [b]).length fcap en v OA on ocap st ed :: fx :: frB b0 A l0.length cap p a B m cm :: x :: Ha)
      fun e G' H' => ∃ A' cap' x', e = .returned (.tuple #[]) ∧ G = G' ∧ H' = mcB mb c1 c2 c3 FA (bs ++ [b0]).length fcap en v OA on ocap st ed :: fx :: frB b0 A' (l0 ++ l).length cap' p a B m cm :: x' :: Ha ∧ PVec FA fcap (bs ++ [b0]) fx ∧ VVec A' cap' (l0 ++ l) x' := by
  have hcap := hfv.le
  have hcut := PVec.cut1 hfv
  have e0 : (bs ++ [b0] ++ [b]).length = bs.length + 2 := by simp
  have e1 : (bs ++ [b0]).length = bs.length + 1 := by simp
  rw [e0] at hcap
  refine Fn.enter Try.func81 rfl rfl fun w0 => ?_
  refine WC.seq ?_
  refine WC.draw mixed ?_
  refine WA.tp (i := 0) rfl (by kernel_rfl) (by kernel_rfl) rfl (Gp.move rfl) ?_
  refine WA.tp (i := 1) rfl (by kernel_rfl) (by kernel_rfl) rfl (Gp.move rfl) ?_
  refine WA.tp (i := 2) rfl (by kernel_rfl) (by kernel_rfl) rfl (Gp.nilCheck rfl) ?_
  refine WA.tp (i := 3) rfl (by kernel_rfl) (by kernel_rfl) rfl (Gp.fieldAddr rfl) ?_
  refine WA.tp (i := 5) rfl (by kernel_rfl) (by kernel_rfl) rfl (Gp.move rfl) ?_
  refine WA.tp (i := 6) rfl (by kernel_rfl) (by kernel_rfl) rfl (Gp.nilCheck rfl) ?_
  refine WA.tp (i := 7) rfl (by kernel_rfl) (by kernel_rfl) rfl (Gp.fieldAddr rfl) ?_
  (first | (refine WA.tv (i := 8) rfl (by kernel_rfl) (by kernel_rfl) rfl (Gv.load1 rfl (by (repeat first | exact .here | apply At.there)) (by first | rfl | assumption)) ?_) | (refine WA.tv (i := 8) rfl (by kernel_rfl) (by kernel_rfl) rfl (Gv.loadN rfl (by (repeat first | exact .here | apply At.there)) (by rfl) (by rfl)) ?_) | (refine WA.tv (i := 8) rfl (by kernel_rfl) (by kernel_rfl) rfl (Gv.loadG1 rfl (by assumption) rfl) ?_) | (refine WA.tv (i := 8) rfl (by kernel_rfl) (by kernel_rfl) rfl (Gv.loadG0 rfl (by assumption) rfl) ?_) | (refine WA.tv (i := 8) rfl (by kernel_rfl) (by kernel_rfl) rfl (Gv.loadGN rfl (by assumption) rfl) ?_))
  (first | refine WA.tp (i := 9) rfl (by kernel_rfl) (by kernel_rfl) rfl (Gp.lenSl rfl) ?_ | refine WA.tp (i := 9) rfl (by kernel_rfl) (by kernel_rfl) rfl (Gp.lenS rfl) ?_)
  refine WA.tp (i := 10) rfl (by kernel_rfl) (by kernel_rfl) rfl (Gp.sub rfl rfl) ?_
  (first | (refine WA.tv (i := 4) rfl (by kernel_rfl) (by kernel_rfl) rfl (Gv.load1 rfl (by (repeat first | exact .here | apply At.there)) (by first | rfl | assumption)) ?_) | (refine WA.tv (i := 4) rfl (by kernel_rfl) (by kernel_rfl) rfl (Gv.loadN rfl (by (repeat first | exact .here | apply At.there)) (by rfl) (by rfl)) ?_) | (refine WA.tv (i := 4) rfl (by kernel_rfl) (by kernel_rfl) rfl (Gv.loadG1 rfl (by assumption) rfl) ?_) | (refine WA.tv (i := 4) rfl (by kernel_rfl) (by kernel_rfl) rfl (Gv.loadG0 rfl (by assumption) rfl) ?_) | (refine WA.tv (i := 4) rfl (by kernel_rfl) (by kernel_rfl) rfl (Gv.loadGN rfl (by assumption) rfl) ?_))
  rw [show IntKind.i64.wrap (((bs ++ [b0] ++ [b]).length : Int) - 1) = ((bs ++ [b0]).length : Int) by rw [e0, e1, wrap_small (by omega) (by omega)]; omega]
  refine WA.tp (i := 11) rfl (by kernel_rfl) (by kernel_rfl) rfl (Gp.sliceTo rfl rfl (by omega) (by omega)) ?_
  rw [Int.toNat_natCast]
  refine WA.tp (i := 12) rfl (by kernel_rfl) (by kernel_rfl) rfl (Gp.nilCheck rfl) ?_
  refine WA.tp (i := 13) rfl (by kernel_rfl) (by kernel_rfl) rfl (Gp.fieldAddr rfl) ?_
  refine WA.one (i := 14) (by kernel_rfl) rfl (by kernel_rfl) (OW.store rfl rfl (by (repeat first | exact .here | apply At.there)) rfl (by rfl) (by rfl) (by kernel_rfl) (by rfl) ?_ rfl)
  refine WA.done (by kernel_rfl) ?_
  refine WK.un ?_
  refine WC.seq ?_
  refine WC.seq ?_
  refine WC.region ?_
  refine WL.p (Gp.move rfl) (by kernel_rfl) rfl ?_
  refine WL.p (Gp.nilCheck rfl) (by kernel_rfl) rfl ?_
  refine WL.p (Gp.fieldAddr rfl) (by kernel_rfl) rfl ?_
  (first | (refine WL.v (Gv.load1 rfl (by (repeat first | exact .here | apply At.there)) (by first | rfl | assumption)) (by kernel_rfl) rfl ?_) | (refine WL.v (Gv.loadN rfl (by (repeat first | exact .here | apply At.there)) (by rfl) (by rfl)) (by kernel_rfl) rfl ?_) | (refine WL.v (Gv.loadG1 rfl (by assumption) rfl) (by kernel_rfl) rfl ?_) | (refine WL.v (Gv.loadG0 rfl (by assumption) rfl) (by kernel_rfl) rfl ?_) | (refine WL.v (Gv.loadGN rfl (by assumption) rfl) (by kernel_rfl) rfl ?_))
  (first | refine WL.p (Gp.lenSl rfl) (by kernel_rfl) rfl ?_ | refine WL.p (Gp.lenS rfl) (by kernel_rfl) rfl ?_)
  (first | refine WL.p (Gp.eqI rfl rfl) (by kernel_rfl) rfl ?_ | refine WL.p (Gp.eqS rfl rfl) (by kernel_rfl) rfl ?_ | refine WL.p (Gp.nilSl rfl) (by kernel_rfl) rfl ?_ | refine WL.p (Gp.eqB rfl rfl) (by kernel_rfl) rfl ?_)
  refine WL.nil ?_
  refine WK.un ?_
  rw [show ((((bs ++ [b0]).length : Nat) : Int) == 0) = false by rw [e1]; simp; omega]
  refine WC.cond_false rfl ?_
  refine WC.skip ?_
  refine WK.un ?_
  refine WC.seq ?_
  refine WC.region ?_
  refine WL.p (Gp.move rfl) (by kernel_rfl) rfl ?_
  (first | refine WL.p (Gp.lenSl rfl) (by kernel_rfl) rfl ?_ | refine WL.p (Gp.lenS rfl) (by kernel_rfl) rfl ?_)
  refine WL.p (Gp.move rfl) (by kernel_rfl) rfl ?_
  refine WL.nil ?_
  refine WK.un ?_
  refine WC.block ?_  -- 2
  refine WC.pk (H' := mcB mb c1 c2 c3 FA (bs ++ [b0]).length fcap en v OA on ocap st ed :: fx :: frB b0 A l0.length cap p a B m cm :: x :: Ha) (by repeat (first | exact Pk.nil | exact Pk.all | exact Pk.app | exact Pk.appR | with_reducible apply Pk.na | (apply Pk.cons; (repeat first | exact .here | apply Rem.there | apply Rem.app)) | apply Pk.skip | apply Pk.skipA)) ?_
  refine WC.loop (X := Nat × Option Addr × Nat × Own) (fun j => [(49, .int .i64 j.1), (48, .int .i64 l.length), (47, .slice LA l.length lc), (0, .pointer (some ⟨mb, 0, none⟩))]) (fun j => G) (fun j => mcB mb c1 c2 c3 FA (bs ++ [b0]).length fcap en v OA on ocap st ed :: fx :: frB b0 j.2.1 (l0 ++ l.take j.1).length j.2.2.1 p a B m cm :: j.2.2.2 :: Ha) (fun j => l.length - j.1) (fun j => j.1 ≤ l.length ∧ VVec j.2.1 j.2.2.1 (l0 ++ l.take j.1) j.2.2.2) (0, A, cap, x) ⟨by simp, by simpa using hv⟩ (by exact ⟨rfl, rfl, rfl, rfl, trivial⟩) rfl (by show List.Sublist (_ :: _ :: frB b0 A (l0 ++ l.take 0).length cap p a B m cm :: _) _; rw [List.take_zero, List.append_nil]; exact List.Sublist.refl _) fun j hj => ?_
  obtain ⟨j, A1, cap1, x1⟩ := j
  obtain ⟨hj, hv1⟩ := hj
  simp only at hj hv1
  refine WC.seq ?_
  refine WC.region ?_
  (first | refine WL.p (Gp.ltI rfl rfl) (by kernel_rfl) rfl ?_ | refine WL.p (Gp.ltS rfl rfl) (by kernel_rfl) rfl ?_)
  refine WL.nil ?_
  refine WK.un ?_
  refine WC.seq ?_
  refine WC.cond rfl (fun hc8 => ?_) (fun hc8 => ?_)
  · -- yes
    have hlt : j < l.length := by have h := hc8; simp at h; omega
    obtain ⟨u, hu⟩ : ∃ u, l[j]? = some u := ⟨_, List.getElem?_eq_getElem hlt⟩
    have e2 : l0 ++ l.take (j + 1) = (l0 ++ l.take j) ++ [u] := by rw [List.take_add_one, hu]; simp
    have e3 : (l0 ++ l.take (j + 1)).length = (l0 ++ l.take j).length + 1 := by rw [e2, List.length_append (bs := [u])]; rfl
    have e4 : vflat (l0 ++ l.take (j + 1)) = vflat (l0 ++ l.take j) ++ vcells u := by rw [e2, vflat_append]; simp [vflat]
    rcases hr with h0 | ⟨lb, lo, rfl, hread⟩
    · have h := congrArg List.length h0
      rw [vflat_length] at h; simp only [List.length_nil] at h; omega
    refine WC.skip ?_
    refine WK.un ?_
    refine WC.seq ?_
    refine WC.block ?_  -- 3
    refine WC.seq ?_
    refine WC.region ?_
    refine WL.p (Gp.indexAddr rfl rfl (by first | assumption | omega | decide) (by first | assumption | omega | decide | (simp only [List.length_cons, List.length_nil]; decide))) (by kernel_rfl) rfl ?_
    refine WL.v (Gv.loadRN rfl hread (by repeat (first | exact List.Sublist.refl _ | exact List.nil_sublist _ | apply List.Sublist.cons)) (vflat_elem l j u hu) rfl) (by kernel_rfl) rfl ?_
    refine WL.op (by kernel_rfl) (OW.alloc rfl fun b11 => ?_)
    refine WL.op (by kernel_rfl) (OW.store rfl rfl (by (repeat first | exact .here | apply At.there)) rfl (by rfl) (by rfl) (by kernel_rfl) (by rfl) ?_ rfl)
    refine WL.nil ?_
    refine WK.un ?_
    refine WC.drawS (Hs := [.blk b11 (.cells (vcells u).toArray 33 (0, 0))]) mixed (by repeat (first | exact Pk.nil | exact Pk.all | exact Pk.app | exact Pk.appR | with_reducible apply Pk.na | (apply Pk.cons; (repeat first | exact .here | apply Rem.there | apply Rem.app)) | apply Pk.skip | apply Pk.skipA)) ?_
    refine WB.tp (i := 0) rfl (by kernel_rfl) (by kernel_rfl) rfl (Gp.move rfl) ?_
    refine WB.tv (i := 4) rfl (by kernel_rfl) (by kernel_rfl) rfl (Gv.loadN rfl .here rfl rfl) ?_
    refine WB.one (i := 1) (by kernel_rfl) rfl (by kernel_rfl) (OW.callK rfl (top_fn G mb c1 c2 c3 FA fcap en v OA on ocap st ed bs b0 fx hcut (by omega)) rfl fun v' G' H' h hg => ?_)
    obtain ⟨he, rfl, rfl⟩ := h
    cases he
    refine ⟨fun w hw => hw.pk (by repeat (first | exact Pk.nil | exact Pk.all | exact Pk.app | exact Pk.appR | with_reducible apply Pk.na | (apply Pk.cons; (repeat first | exact .here | apply Rem.there | apply Rem.app)) | apply Pk.skip | apply Pk.skipA)), ?_⟩
    refine WB.tp (i := 2) rfl (by kernel_rfl) (by kernel_rfl) rfl (Gp.nilCheck rfl) ?_
    refine WB.tp (i := 3) rfl (by kernel_rfl) (by kernel_rfl) rfl (Gp.fieldAddr rfl) ?_
    refine WB.one (i := 5) (by kernel_rfl) rfl (by kernel_rfl) (OW.callK rfl (push_fn G b0 A1 (l0 ++ l.take j).length cap1 p a B m cm (vflat (l0 ++ l.take j)) x1 u hv1 (by simp; omega)) rfl fun v' G' H' h hg => ?_)
    obtain ⟨A2, cap2, x2, he, rfl, rfl, hv2⟩ := h
    cases he
    refine ⟨fun w hw => hw.pk (by repeat (first | exact Pk.nil | exact Pk.all | exact Pk.app | exact Pk.appR | with_reducible apply Pk.na | (apply Pk.cons; (repeat first | exact .here | apply Rem.there | apply Rem.app)) | apply Pk.skip | apply Pk.skipA)), ?_⟩
    refine WB.done (by kernel_rfl) ?_
    refine WK.un ?_
    refine WC.region ?_
    (first | refine WL.p (Gp.add rfl rfl) (by kernel_rfl) rfl ?_ | refine WL.p (Gp.addS rfl rfl (by first | assumption | omega)) (by kernel_rfl) rfl ?_)
    refine WL.p (Gp.move rfl) (by kernel_rfl) rfl ?_
    refine WL.nil ?_
    refine WK.un ?_
    refine WK.pk (H' := mcB mb c1 c2 c3 FA (bs ++ [b0]).length fcap en v OA on ocap st ed :: fx :: frB b0 A2 ((l0 ++ l.take j).length + 1) cap2 p a B m cm :: x2 :: Ha) (by repeat (first | exact Pk.nil | exact Pk.all | exact Pk.app | exact Pk.appR | with_reducible apply Pk.na | (apply Pk.cons; (repeat first | exact .here | apply Rem.there | apply Rem.app)) | apply Pk.skip | apply Pk.skipA)) ?_
    exact WK.again (j + 1, A2, cap2, x2) (show l.length - (j + 1) < l.length - j by omega) ⟨show j + 1 ≤ l.length by omega, by show VVec A2 cap2 (l0 ++ l.take (j + 1)) x2; unfold VVec; rw [e3, e4]; exact hv2⟩ (by refine ⟨?_, rfl, rfl, rfl, trivial⟩; show some _ = some _; rw [wrap_small (by omega) (by omega)]; rfl) rfl (by show List.Sublist (_ :: _ :: frB b0 A2 (l0 ++ l.take (j + 1)).length cap2 p a B m cm :: _) _; rw [e3]; exact List.Sublist.refl _)
  · -- no
    have hge : j = l.length := by have h := hc8; simp at h; omega
    subst hge
    refine WC.exit ?_
    refine WK.un ?_
    rw [List.take_length] at hv1
    refine WK.pk (H' := mcB mb c1 c2 c3 FA (bs ++ [b0]).length fcap en v OA on ocap st ed :: fx :: frB b0 A1 (l0 ++ l.take l.length).length cap1 p a B m cm :: x1 :: Ha) (by repeat (first | exact Pk.nil | exact Pk.all | exact Pk.app | exact Pk.appR | with_reducible apply Pk.na | (apply Pk.cons; (repeat first | exact .here | apply Rem.there | apply Rem.app)) | apply Pk.skip | apply Pk.skipA)) ?_
    rw [List.take_length]
    refine WK.un ?_
    exact QF.p0 (.inr rfl) rfl  (⟨A1, cap1, x1, rfl, rfl, rfl, hcut, hv1⟩)
end Go.Proofs.Ytjgohbepageicaa.Gb
