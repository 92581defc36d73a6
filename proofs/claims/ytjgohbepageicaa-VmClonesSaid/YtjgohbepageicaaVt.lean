/- A step. -/
import Derived.Test.YtjgohbepageicaaVs
namespace Go.Proofs.Ytjgohbepageicaa.Gb
open Go Go.Proofs
set_option linter.unusedVariables false
set_option linter.unusedSimpArgs false
attribute [local irreducible] Try.prog

/-- what a step comes to, in memory -/
def StR (G : Gh) (mb : Nat) (c1 c2 c3 : Value) (FA : Option Addr) (fcap : Nat) (en : Int) (w : V) (OA : Option Addr) (ocap : Nat) (st : Int) (ed : Bool) (out : List V) (ox fx : Own) (Hx : List Own) (RL : List V → List Own → Prop)
    (b : Nat) (A : Option Addr) (cap pi : Nat) (B : Option Addr) (vars : List V) (cm : Nat) (x y : Own) (bs : List Nat) (l : List V) (k : Nat) (r : DR) : Ending → Gh → List Own → Prop := fun e G' H' => match r with
  | .halt n => G = G' ∧ ∃ A2 cap2 B2 cm2 x2 y2, e = .returned (.tuple #[]) ∧ VVec A2 cap2 l x2 ∧ VVec B2 cm2 vars y2 ∧ H' = mcB mb c1 c2 c3 FA bs.length fcap n w OA out.length ocap st true :: ox :: frB b A2 l.length cap2 pi k B2 vars.length cm2 :: x2 :: y2 :: fx :: Hx
  | r => DoR G mb c1 c2 c3 FA fcap en w OA ocap st ed out ox fx Hx RL b A cap pi B vars cm x y bs (k + 1) r e G' H'

section
variable (G : Gh) (pg : Pg) (CA PA : Option Addr) (cc pc : Nat) (hC : Sl Kd.val G CA pg.consts) (hP : Sl Kd.prc G PA pg.procs)
    (mb : Nat) (c3 : Value) (FA : Option Addr) (fcap : Nat) (en : Int) (w : V) (OA : Option Addr) (ocap : Nat) (st : Nat) (ed : Bool) (out : List V) (ox fx : Own) (Hx : List Own) (RL : List V → List Own → Prop)
    (b : Nat) (A : Option Addr) (cap pi : Nat) (pr : Pr) (hpr : pg.procs[pi]? = some pr) (B : Option Addr) (vars : List V) (cm : Nat) (x y : Own) (bs : List Nat) (l : List V) (k : Nat) (hkb : k ≤ 100000000000000)

include hC hP hpr hkb in
theorem step_fn (hst : st ≤ 100000000000000) (hv : VVec A cap l x) (hl : l.length ≤ 1000000) (hy : VVec B cm vars y) (hml : vars.length ≤ 1000000) (hz : ∀ v ∈ l, v.s.size ≤ 400000000000) (ho : VVec OA ocap out ox) (hfv : PVec FA fcap (bs ++ [b]) fx) (hbs : bs.length ≤ 1000000)
    (hL : Lv G mb (mcB mb (.slice CA pg.consts.length cc) (.slice PA pg.procs.length pc) c3 FA (bs ++ [b]).length fcap en w OA out.length ocap (st + 1 : Nat) ed) fx Hx RL) : Fn Try.prog 40 #[.pointer (some ⟨mb, 0, none⟩)] G
    (mcB mb (.slice CA pg.consts.length cc) (.slice PA pg.procs.length pc) c3 FA (bs ++ [b]).length fcap en w OA out.length ocap st ed :: ox :: frB b A l.length cap pi k B vars.length cm :: x :: y :: fx :: Hx)
    (StR G mb (.slice CA pg.consts.length cc) (.slice PA pg.procs.length pc) c3 FA fcap en w OA ocap (st + 1 : Nat) ed out ox fx Hx RL b A cap pi B vars cm x y (bs ++ [b]) l k (doR pg pr l k vars (bs ++ [b]).length out.length)) := by
  refine Fn.unpk ?_
  refine Fn.enterD Try.func40 rfl rfl fun w0 => ?_
  refine WC.seq ?_
  refine WC.region ?_
  refine WL.op (by kernel_rfl) (OW.box rfl rfl fun b1 => ?_)
  refine WL.nil ?_
  refine WK.un ?_
  refine WC.seq ?_
  refine WC.region ?_
  (first | (refine WL.v (Gv.load1 rfl (by (repeat first | exact .here | apply At.there)) (by first | rfl | assumption)) (by kernel_rfl) rfl ?_) | (refine WL.v (Gv.loadN rfl (by (repeat first | exact .here | apply At.there)) (by rfl) (by rfl)) (by kernel_rfl) rfl ?_) | (refine WL.v (Gv.loadG1 rfl (by assumption) rfl) (by kernel_rfl) rfl ?_) | (refine WL.v (Gv.loadG0 rfl (by assumption) rfl) (by kernel_rfl) rfl ?_) | (refine WL.v (Gv.loadGN rfl (by assumption) rfl) (by kernel_rfl) rfl ?_))
  refine WL.op (by kernel_rfl) (OW.callK rfl (top_fn G mb (.slice CA pg.consts.length cc) (.slice PA pg.procs.length pc) c3 FA fcap en w OA out.length ocap st ed bs b fx hfv (by omega)) rfl fun v' G' H' h hg => ?_)
  obtain ⟨he, rfl, rfl⟩ := h
  cases he
  refine WL.p (Gp.assign rfl) (by kernel_rfl) rfl ?_
  refine WL.nil ?_
  refine WK.un ?_
  refine WC.seq ?_
  refine WC.region ?_
  refine WL.p (Gp.move rfl) (by kernel_rfl) rfl ?_
  refine WL.p (Gp.move rfl) (by kernel_rfl) rfl ?_
  refine WL.op (by kernel_rfl) (OW.callK rfl (copied_fn G b A cap pi k B cm l vars x y hv hy (by omega) (by omega)) rfl fun v' G' H' h hg => ?_)
  obtain ⟨A2, cap2, B2, cm2, x2, y2, he, rfl, rfl, hx2, hy2⟩ := h
  cases he
  refine WL.p (Gp.build rfl rfl) (by kernel_rfl) rfl ?_
  refine WL.op (by kernel_rfl) (OW.alloc rfl fun b2 => ?_)
  refine WL.op (by kernel_rfl) (OW.store rfl rfl (by (repeat first | exact .here | apply At.there)) rfl (by rfl) (by rfl) (by kernel_rfl) (by rfl) ?_ rfl)
  refine WL.nil ?_
  refine WK.un ?_
  refine WC.seq ?_
  refine WC.region ?_
  (first | (refine WL.v (Gv.load1 rfl (by (repeat first | exact .here | apply At.there)) (by first | rfl | assumption)) (by kernel_rfl) rfl ?_) | (refine WL.v (Gv.loadN rfl (by (repeat first | exact .here | apply At.there)) (by rfl) (by rfl)) (by kernel_rfl) rfl ?_) | (refine WL.v (Gv.loadG1 rfl (by assumption) rfl) (by kernel_rfl) rfl ?_) | (refine WL.v (Gv.loadG0 rfl (by assumption) rfl) (by kernel_rfl) rfl ?_) | (refine WL.v (Gv.loadGN rfl (by assumption) rfl) (by kernel_rfl) rfl ?_))
  refine WL.p (Gp.nilCheck rfl) (by kernel_rfl) rfl ?_
  refine WL.p (Gp.fieldAddr rfl) (by kernel_rfl) rfl ?_
  refine WL.p (Gp.fieldAddr rfl) (by kernel_rfl) rfl ?_
  (first | (refine WL.v (Gv.load1 rfl (by (repeat first | exact .here | apply At.there)) (by first | rfl | assumption)) (by kernel_rfl) rfl ?_) | (refine WL.v (Gv.loadN rfl (by (repeat first | exact .here | apply At.there)) (by rfl) (by rfl)) (by kernel_rfl) rfl ?_) | (refine WL.v (Gv.loadG1 rfl (by assumption) rfl) (by kernel_rfl) rfl ?_) | (refine WL.v (Gv.loadG0 rfl (by assumption) rfl) (by kernel_rfl) rfl ?_) | (refine WL.v (Gv.loadGN rfl (by assumption) rfl) (by kernel_rfl) rfl ?_))
  refine WL.p (Gp.add' rfl rfl (show IntKind.i64.wrap ((st : Int) + 1) = ((st + 1 : Nat) : Int) by rw [wrap_small (by omega) (by omega)]; omega)) (by kernel_rfl) rfl ?_
  refine WL.p (Gp.nilCheck rfl) (by kernel_rfl) rfl ?_
  refine WL.p (Gp.fieldAddr rfl) (by kernel_rfl) rfl ?_
  refine WL.p (Gp.fieldAddr rfl) (by kernel_rfl) rfl ?_
  refine WL.op (by kernel_rfl) (OW.store rfl rfl (by (repeat first | exact .here | apply At.there)) rfl (by rfl) (by rfl) (by kernel_rfl) (by rfl) ?_ rfl)
  refine WL.nil ?_
  refine WK.un ?_
  refine WC.seq ?_
  refine WC.region ?_
  refine WL.p (Gp.makeFunc rfl rfl) (by kernel_rfl) rfl ?_
  refine WL.defer rfl (by kernel_rfl) rfl ?_
  refine WL.nil ?_
  refine WK.un ?_
  refine WC.pk (H' := .blk b1 (.cells #[.pointer (some ⟨mb, 0, none⟩)] 57 (0, 0)) :: .blk b2 (.cells #[.pointer (some ⟨b, 0, none⟩), .slice A2 l.length cap2, .int .i64 pi, .int .i64 k, .slice B2 vars.length cm2] 106 (0, 0)) :: x2 :: y2 :: mcB mb (.slice CA pg.consts.length cc) (.slice PA pg.procs.length pc) c3 FA (bs ++ [b]).length fcap en w OA out.length ocap (st + 1 : Nat) ed :: ox :: frB b A l.length cap pi k B vars.length cm :: x :: y :: fx :: Hx) (by repeat (first | exact Pk.nil | exact Pk.all | exact Pk.app | exact Pk.appR | with_reducible apply Pk.na | (apply Pk.cons; (repeat first | exact .here | apply Rem.there | apply Rem.app)) | apply Pk.skip | apply Pk.skipA)) ?_
  refine WC.region ?_
  (first | (refine WL.v (Gv.load1 rfl (by (repeat first | exact .here | apply At.there)) (by first | rfl | assumption)) (by kernel_rfl) rfl ?_) | (refine WL.v (Gv.loadN rfl (by (repeat first | exact .here | apply At.there)) (by rfl) (by rfl)) (by kernel_rfl) rfl ?_) | (refine WL.v (Gv.loadG1 rfl (by assumption) rfl) (by kernel_rfl) rfl ?_) | (refine WL.v (Gv.loadG0 rfl (by assumption) rfl) (by kernel_rfl) rfl ?_) | (refine WL.v (Gv.loadGN rfl (by assumption) rfl) (by kernel_rfl) rfl ?_))
  refine WL.p (Gp.move rfl) (by kernel_rfl) rfl ?_
  have hdo := do_fn G pg CA PA cc pc hC hP mb c3 FA fcap en w OA ocap (st + 1 : Nat) ed out ox fx Hx RL b A cap pi pr hpr B vars cm x y (bs ++ [b]) l k hkb hv hl hy hz ho hfv (by simp; omega) hL
  cases hq : doR pg pr l k vars (bs ++ [b]).length out.length with
  | halt e =>
    rw [hq] at hdo
    refine WL.op (by kernel_rfl) (OW.call rfl (Pk.perm (by repeat (first | exact Pk.nil | exact Pk.all | exact Pk.app | exact Pk.appR | with_reducible apply Pk.na | (apply Pk.cons; (repeat first | exact .here | apply Rem.there | apply Rem.app)) | apply Pk.skip | apply Pk.skipA))) hdo rfl (fun v' G' H' h hg => by cases h.2.1) (fun ch G' H' h hg => ?_) (fun G' H' h => by cases h.2.1))
    obtain ⟨rfl, he, z, ⟨c, hc, hz'⟩, rfl⟩ := h
    cases he
    cases hz'
    refine WK.un ?_
    refine WK.swap ?_
    refine QD.caught (Pk.perm (by repeat (first | exact Pk.nil | exact Pk.all | exact Pk.app | exact Pk.appR | with_reducible apply Pk.na | (apply Pk.cons; (repeat first | exact .here | apply Rem.there | apply Rem.app)) | apply Pk.skip | apply Pk.skipA))) (step1_halts G b2 b1 mb b c hc A2 l.length cap2 pi k B2 vars.length cm2 (.slice CA pg.consts.length cc) (.slice PA pg.procs.length pc) c3 FA (bs ++ [b]).length fcap en w OA out.length ocap (st + 1 : Nat) ed e) (fun v' G' H' h hg => ?_) (fun ch G' H' h => by cases h.1) (fun G' H' h => by cases h.1)
    obtain ⟨he, rfl, rfl⟩ := h
    exact ⟨.tuple #[], ResRun.zero rfl, _, _, (by repeat (first | exact Pk.nil | exact Pk.all | exact Pk.app | exact Pk.appR | with_reducible apply Pk.na | (apply Pk.cons; (repeat first | exact .here | apply Rem.there | apply Rem.app)) | apply Pk.skip | apply Pk.skipA)), rfl, A2, cap2, B2, cm2, x2, y2, rfl, hx2, hy2, rfl⟩
  | go l' k' vars' =>
    rw [hq] at hdo
    refine WL.op (by kernel_rfl) (OW.callR rfl (Pk.perm (by repeat (first | exact Pk.nil | exact Pk.all | exact Pk.app | exact Pk.appR | with_reducible apply Pk.na | (apply Pk.cons; (repeat first | exact .here | apply Rem.there | apply Rem.app)) | apply Pk.skip | apply Pk.skipA))) hdo rfl (by rintro e G' H' ⟨_, _, _, _, _, h, _⟩; exact ⟨_, h⟩) fun v' G' H' h hg => ?_)
    obtain ⟨rfl, A', cap', x', y', he, hv', hy', rfl⟩ := h
    cases he
    refine WL.nil ?_
    refine WK.un ?_
    refine WK.swap ?_
    refine QD.leave (Hf := []) (.inr rfl) (List.Perm.refl _) (step1_quiet G b2 b1) (fun v' G' H' h hg => ?_) (fun ch G' H' h => by cases h.1) (fun G' H' h => by cases h.1)
    obtain ⟨he, rfl, rfl⟩ := h
    exact ⟨.tuple #[], ResRun.zero rfl, _, _, (by repeat (first | exact Pk.nil | exact Pk.all | exact Pk.app | exact Pk.appR | with_reducible apply Pk.na | (apply Pk.cons; (repeat first | exact .here | apply Rem.there | apply Rem.app)) | apply Pk.skip | apply Pk.skipA)), rfl, A', cap', x', y', rfl, hv', hy', rfl⟩
  | print l' v =>
    rw [hq] at hdo
    refine WL.op (by kernel_rfl) (OW.callR rfl (Pk.perm (by repeat (first | exact Pk.nil | exact Pk.all | exact Pk.app | exact Pk.appR | with_reducible apply Pk.na | (apply Pk.cons; (repeat first | exact .here | apply Rem.there | apply Rem.app)) | apply Pk.skip | apply Pk.skipA))) hdo rfl (by rintro e G' H' ⟨_, _, _, _, h, _⟩; exact ⟨_, h⟩) fun v' G' H' h hg => ?_)
    obtain ⟨rfl, OA', ocap', ox', he, ho', hv', rfl⟩ := h
    cases he
    refine WL.nil ?_
    refine WK.un ?_
    refine WK.swap ?_
    refine QD.leave (Hf := []) (.inr rfl) (List.Perm.refl _) (step1_quiet G b2 b1) (fun v' G' H' h hg => ?_) (fun ch G' H' h => by cases h.1) (fun G' H' h => by cases h.1)
    obtain ⟨he, rfl, rfl⟩ := h
    exact ⟨.tuple #[], ResRun.zero rfl, _, _, (by repeat (first | exact Pk.nil | exact Pk.all | exact Pk.app | exact Pk.appR | with_reducible apply Pk.na | (apply Pk.cons; (repeat first | exact .here | apply Rem.there | apply Rem.app)) | apply Pk.skip | apply Pk.skipA)), rfl, OA', ocap', ox', rfl, ho', hv', rfl⟩
  | call q l' args n =>
    rw [hq] at hdo
    refine WL.op (by kernel_rfl) (OW.callR rfl (Pk.perm (by repeat (first | exact Pk.nil | exact Pk.all | exact Pk.app | exact Pk.appR | with_reducible apply Pk.na | (apply Pk.cons; (repeat first | exact .here | apply Rem.there | apply Rem.app)) | apply Pk.skip | apply Pk.skipA))) hdo rfl (by rintro e G' H' ⟨_, _, _, _, _, _, _, h, _⟩; exact ⟨_, h⟩) fun v' G' H' h hg => ?_)
    obtain ⟨rfl, FA', fcap', b', VA, fx', yv, he, hf', hyv, hv', rfl⟩ := h
    cases he
    refine WL.nil ?_
    refine WK.un ?_
    refine WK.swap ?_
    refine QD.leave (Hf := []) (.inr rfl) (List.Perm.refl _) (step1_quiet G b2 b1) (fun v' G' H' h hg => ?_) (fun ch G' H' h => by cases h.1) (fun G' H' h => by cases h.1)
    obtain ⟨he, rfl, rfl⟩ := h
    exact ⟨.tuple #[], ResRun.zero rfl, _, _, (by repeat (first | exact Pk.nil | exact Pk.all | exact Pk.app | exact Pk.appR | with_reducible apply Pk.na | (apply Pk.cons; (repeat first | exact .here | apply Rem.there | apply Rem.app)) | apply Pk.skip | apply Pk.skipA)), rfl, FA', fcap', b', VA, fx', yv, rfl, hf', hyv, hv', rfl⟩
  | leave l' g =>
    rw [hq] at hdo
    refine WL.op (by kernel_rfl) (OW.callR rfl (Pk.perm (by repeat (first | exact Pk.nil | exact Pk.all | exact Pk.app | exact Pk.appR | with_reducible apply Pk.na | (apply Pk.cons; (repeat first | exact .here | apply Rem.there | apply Rem.app)) | apply Pk.skip | apply Pk.skipA))) hdo rfl (by rintro e G' H' ⟨_, _, h, _⟩; exact ⟨_, h⟩) fun v' G' H' h hg => ?_)
    obtain ⟨rfl, H1, he, hR, rfl⟩ := h
    cases he
    refine WL.nil ?_
    refine WK.un ?_
    refine WK.swap ?_
    refine QD.leave (Hf := []) (.inr rfl) (List.Perm.refl _) (step1_quiet G b2 b1) (fun v' G' H' h hg => ?_) (fun ch G' H' h => by cases h.1) (fun G' H' h => by cases h.1)
    obtain ⟨he, rfl, rfl⟩ := h
    exact ⟨.tuple #[], ResRun.zero rfl, _, _, (by repeat (first | exact Pk.nil | exact Pk.all | exact Pk.app | exact Pk.appR | with_reducible apply Pk.na | (apply Pk.cons; (repeat first | exact .here | apply Rem.there | apply Rem.app)) | apply Pk.skip | apply Pk.skipA)), rfl, H1, rfl, hR, rfl⟩
end
end Go.Proofs.Ytjgohbepageicaa.Gb
