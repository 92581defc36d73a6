/- A machine: what it is, in memory, and what a step makes of it. -/
import Derived.Test.YtjgohbepageicaaVt
namespace Go.Proofs.Ytjgohbepageicaa.Gb
open Go Go.Proofs
set_option linter.unusedVariables false
set_option linter.unusedSimpArgs false
attribute [local irreducible] Try.prog

structure Fr where
  proc : Nat
  pc : Nat
  stack : List V
  vars : List V
/-- the frame at work is the first -/
structure Mc where
  frames : List Fr
  out : List V
  steps : Nat
  en : Int
  val : V
  ended : Bool

def stepM (pg : Pg) (s : Mc) : Mc := match s.frames with
  | [] => s
  | f :: fs => match pg.procs[f.proc]? with
    | none => s
    | some pr => match doR pg pr f.stack f.pc f.vars (fs.length + 1) s.out.length with
      | .halt n => { s with steps := s.steps + 1, en := n, ended := true }
      | .go l k vars => { s with steps := s.steps + 1, frames := ⟨f.proc, k, l, vars⟩ :: fs }
      | .print l v => { s with steps := s.steps + 1, out := s.out ++ [v], frames := ⟨f.proc, f.pc + 1, l, f.vars⟩ :: fs }
      | .call q r args n => { s with steps := s.steps + 1, frames := ⟨n.toNat, 0, [], padded args q.locals⟩ :: ⟨f.proc, f.pc + 1, r, f.vars⟩ :: fs }
      | .leave r g => match fs with
        | [] => { s with steps := s.steps + 1, frames := [], en := 1, val := lastV s.val g, ended := true }
        | f0 :: fs' => { s with steps := s.steps + 1, frames := ⟨f0.proc, f0.pc, f0.stack ++ g, f0.vars⟩ :: fs' }

inductive FRep : List Fr → List Nat → List Own → Prop where
  | nil : FRep [] [] []
  | cons {f : Fr} {fs : List Fr} {b : Nat} {bs : List Nat} {H : List Own} {A B : Option Addr} {cap cm : Nat} {x y : Own} (hx : VVec A cap f.stack x) (hy : VVec B cm f.vars y) (h : FRep fs bs H) :
      FRep (f :: fs) (b :: bs) (frB b A f.stack.length cap f.proc f.pc B f.vars.length cm :: x :: y :: H)
theorem FRep.len {fs : List Fr} {bs : List Nat} {H : List Own} (h : FRep fs bs H) : bs.length = fs.length := by
  induction h with
  | nil => rfl
  | cons _ _ _ ih => simp [ih]

/-- a machine in memory -/
def MRep (CA PA : Option Addr) (cc pc cn pn : Nat) (c3 : Value) (mb : Nat) (s : Mc) (H : List Own) : Prop :=
  ∃ FA fcap OA ocap ox fx bs Hf, FRep s.frames bs Hf ∧ PVec FA fcap bs.reverse fx ∧ VVec OA ocap s.out ox ∧
    H = mcB mb (.slice CA cn cc) (.slice PA pn pc) c3 FA bs.reverse.length fcap s.en s.val OA s.out.length ocap s.steps s.ended :: ox :: fx :: Hf

/-- the bounds that the rules ask for -/
structure Bd (pg : Pg) (s : Mc) : Prop where
  procs : ∀ f ∈ s.frames, ∃ pr, pg.procs[f.proc]? = some pr ∧ f.pc ≤ pr.code.length
  code : ∀ pr ∈ pg.procs, pr.code.length ≤ 90000000000000
  frames : s.frames.length ≤ 64
  stack : ∀ f ∈ s.frames, f.stack.length ≤ 900000 ∧ f.vars.length ≤ 1000000 ∧ ∀ v ∈ f.stack, v.s.size ≤ 400000000000
  steps : s.steps ≤ 100000000000000

theorem callR_ok {procs : List Pr} {l r a : List V} {n : Int} {d : Nat} {q : Pr} (h : callR procs l n d = .ok (q, r, a)) : 0 ≤ n ∧ procs[n.toNat]? = some q ∧ sizedP q = true ∧ l = r ++ a ∧ a.length = q.params.length ∧ d < 64 ∧ tys a = q.params ∧ (q.result ≠ 0 → r.length < 128) := by
  unfold callR at h
  split at h
  · cases h
  · rename_i hn
    split at h
    · cases h
    · rename_i q' hq
      split at h
      · cases h
      · rename_i hs
        split at h
        · cases h
        · rename_i hl
          split at h
          · cases h
          · rename_i ht
            split at h
            · cases h
            · rename_i hr
              split at h
              · cases h
              · rename_i hd
                cases h
                have ht' := Classical.not_not.1 ht
                refine ⟨by omega, hq, by simpa using hs, (List.take_append_drop _ _).symm, by simp; omega, by omega, ht', fun hne => ?_⟩
                have := not_and.1 hr hne
                simp; omega
theorem doR_call {pg : Pg} {pr q : Pr} {l r a vars : List V} {k d o : Nat} {n : Int} (h : doR pg pr l k vars d o = .call q r a n) : callR pg.procs l n d = .ok (q, r, a) := by
  unfold doR at h
  split at h
  · cases h
  · rename_i c n' hc
    have hcd : ∀ {m : Int}, callD pg.procs l m d = .call q r a n → callR pg.procs l n d = .ok (q, r, a) := by
      intro m h
      unfold callD at h
      split at h
      · cases h
      · rename_i q' r' a' he; cases h; exact he
    have hlay : ∀ v, layR l k vars v ≠ .call q r a n := by intro v h; unfold layR at h; split at h <;> cases h
    have hpl : ∀ c', plainD pr.result l k vars c' o ≠ .call q r a n := by intro c' h; unfold plainD at h; split at h <;> cases h
    split at h
    · unfold constR at h; split at h; · cases h
      split at h; · cases h
      split at h
      · exact absurd h (hlay _)
      · cases h
    split at h
    · unfold loadR at h; split at h; · cases h
      split at h; · cases h
      split at h
      · cases h
      · exact absurd h (hlay _)
    split at h
    · unfold storeR at h; split at h; · cases h
      split at h <;> cases h
    split at h
    · unfold jumpR at h; split at h <;> cases h
    split at h
    · unfold unlessR at h; split at h; · cases h
      split at h <;> cases h
    split at h
    · exact hcd h
    split at h
    · cases h
    · exact absurd h (hpl _)

theorem Fn.reorder {P : Program} {f : FuncId} {vs : Array Value} {G : Gh} {H H' : List Own} {R : Ending → Gh → List Own → Prop} (h : Fn P f vs G H' R) (p : Pk H H' []) : Fn P f vs G H R :=
  (h.pk p).mono fun e G' H1 ⟨H2, r, e1⟩ => by rw [e1, List.append_nil]; exact r

section
variable (G : Gh) (pg : Pg) (CA PA : Option Addr) (cc pc : Nat) (hC : Sl Kd.val G CA pg.consts) (hP : Sl Kd.prc G PA pg.procs) (mb : Nat) (c3 : Value)
include hC hP

theorem stepM_fn (s : Mc) (H : List Own) (hR : MRep CA PA cc pc pg.consts.length pg.procs.length c3 mb s H) (hB : Bd pg s) (hne : s.frames ≠ []) :
    Fn Try.prog 40 #[.pointer (some ⟨mb, 0, none⟩)] G H fun e G' H' => e = .returned (.tuple #[]) ∧ G = G' ∧ MRep CA PA cc pc pg.consts.length pg.procs.length c3 mb (stepM pg s) H' := by
  obtain ⟨FA, fcap, OA, ocap, ox, fx, bs, Hf, hF, hfv, ho, rfl⟩ := hR
  obtain ⟨frames, out, steps, en, val, ended⟩ := s
  have hlen := hF.len
  cases hF with
  | nil => exact absurd rfl hne
  | @cons f fs b bs H A B cap cm x y hx hy h =>
  obtain ⟨proc, pcv, stack, vars⟩ := f
  simp only at hx hy hfv ho hlen
  obtain ⟨pr, hpr, hpc⟩ := hB.procs _ (List.mem_cons_self)
  obtain ⟨hsl, hvl, hsz⟩ := hB.stack _ (List.mem_cons_self)
  have hcode := hB.code pr (List.mem_of_getElem? hpr)
  have hfr := hB.frames
  have hst := hB.steps
  simp only at hpr hpc hsl hvl hsz hcode hfr hst
  rw [List.reverse_cons] at hfv ⊢
  have hbl : bs.reverse.length ≤ 1000000 := by simp at hlen hfr ⊢; omega
  have hdep : (bs.reverse ++ [b]).length = fs.length + 1 := by simp at hlen ⊢; omega
  have key : ∀ RL : List V → List Own → Prop, Lv G mb (mcB mb (.slice CA pg.consts.length cc) (.slice PA pg.procs.length pc) c3 FA (bs.reverse ++ [b]).length fcap en val OA out.length ocap (steps + 1 : Nat) ended) fx H RL →
      (∀ l' g H1, doR pg pr stack pcv vars (fs.length + 1) out.length = .leave l' g → RL g H1 → ∃ H2 F, Pk (ox :: H1) H2 F ∧ MRep CA PA cc pc pg.consts.length pg.procs.length c3 mb (stepM pg ⟨⟨proc, pcv, stack, vars⟩ :: fs, out, steps, en, val, ended⟩) H2) →
      Fn Try.prog 40 #[.pointer (some ⟨mb, 0, none⟩)] G (mcB mb (.slice CA pg.consts.length cc) (.slice PA pg.procs.length pc) c3 FA (bs.reverse ++ [b]).length fcap en val OA out.length ocap steps ended :: ox :: fx :: frB b A stack.length cap proc pcv B vars.length cm :: x :: y :: H)
        fun e G' H' => e = .returned (.tuple #[]) ∧ G = G' ∧ MRep CA PA cc pc pg.consts.length pg.procs.length c3 mb (stepM pg ⟨⟨proc, pcv, stack, vars⟩ :: fs, out, steps, en, val, ended⟩) H' := by
    intro RL hL hleave
    refine Fn.unpk (Fn.reorder ((step_fn G pg CA PA cc pc hC hP mb c3 FA fcap en val OA ocap steps ended out ox fx H RL b A cap proc pr hpr B vars cm x y bs.reverse stack pcv (by omega) hst hx (by omega) hy hvl hsz ho hfv hbl hL).mono fun e G' H' hS => ?_) (by repeat (first | exact Pk.nil | exact Pk.all | exact Pk.app | exact Pk.appR | with_reducible apply Pk.na | (apply Pk.cons; (repeat first | exact .here | apply Rem.there | apply Rem.app)) | apply Pk.skip | apply Pk.skipA)))
    rw [hdep] at hS
    simp only [stepM, hpr]
    cases hq : doR pg pr stack pcv vars (fs.length + 1) out.length with
    | halt n =>
      rw [hq] at hS
      obtain ⟨rfl, A2, cap2, B2, cm2, x2, y2, he, h1, h2, rfl⟩ := hS
      exact ⟨mcB mb (.slice CA pg.consts.length cc) (.slice PA pg.procs.length pc) c3 FA (bs.reverse ++ [b]).length fcap n val OA out.length ocap (steps + 1 : Nat) true :: ox :: fx :: frB b A2 stack.length cap2 proc pcv B2 vars.length cm2 :: x2 :: y2 :: H, [], (by repeat (first | exact Pk.nil | exact Pk.all | exact Pk.app | exact Pk.appR | with_reducible apply Pk.na | (apply Pk.cons; (repeat first | exact .here | apply Rem.there | apply Rem.app)) | apply Pk.skip | apply Pk.skipA)), he, rfl, FA, fcap, OA, ocap, ox, fx, b :: bs, _, .cons h1 h2 h, by rw [List.reverse_cons]; exact hfv, ho, by rw [List.reverse_cons]⟩
    | go l k vs =>
      rw [hq] at hS
      obtain ⟨rfl, A2, cap2, x2, y2, he, h1, h2, rfl⟩ := hS
      exact ⟨mcB mb (.slice CA pg.consts.length cc) (.slice PA pg.procs.length pc) c3 FA (bs.reverse ++ [b]).length fcap en val OA out.length ocap (steps + 1 : Nat) ended :: ox :: fx :: frB b A2 l.length cap2 proc k B vs.length cm :: x2 :: y2 :: H, [], (by repeat (first | exact Pk.nil | exact Pk.all | exact Pk.app | exact Pk.appR | with_reducible apply Pk.na | (apply Pk.cons; (repeat first | exact .here | apply Rem.there | apply Rem.app)) | apply Pk.skip | apply Pk.skipA)), he, rfl, FA, fcap, OA, ocap, ox, fx, b :: bs, _, .cons h1 h2 h, by rw [List.reverse_cons]; exact hfv, ho, by rw [List.reverse_cons]⟩
    | print l v =>
      rw [hq] at hS
      obtain ⟨rfl, OA2, ocap2, ox2, he, h1, h2, rfl⟩ := hS
      exact ⟨mcB mb (.slice CA pg.consts.length cc) (.slice PA pg.procs.length pc) c3 FA (bs.reverse ++ [b]).length fcap en val OA2 (out ++ [v]).length ocap2 (steps + 1 : Nat) ended :: ox2 :: fx :: frB b A l.length cap proc (pcv + 1 : Nat) B vars.length cm :: x :: y :: H, [], (by repeat (first | exact Pk.nil | exact Pk.all | exact Pk.app | exact Pk.appR | with_reducible apply Pk.na | (apply Pk.cons; (repeat first | exact .here | apply Rem.there | apply Rem.app)) | apply Pk.skip | apply Pk.skipA)), he, rfl, FA, fcap, OA2, ocap2, ox2, fx, b :: bs, _, .cons h2 hy h, by rw [List.reverse_cons]; exact hfv, h1, by rw [List.reverse_cons]⟩
    | call q r args n =>
      have hn := (callR_ok (doR_call hq)).1
      rw [hq] at hS
      obtain ⟨rfl, FA2, fcap2, b2, VA, fx2, yv, he, h1, h2, h3, rfl⟩ := hS
      obtain ⟨m, rfl⟩ := Int.eq_ofNat_of_zero_le hn
      exact ⟨mcB mb (.slice CA pg.consts.length cc) (.slice PA pg.procs.length pc) c3 FA2 (bs.reverse ++ [b] ++ [b2]).length fcap2 en val OA out.length ocap (steps + 1 : Nat) ended :: ox :: fx2 :: frB b2 none ([] : List V).length 0 m (0 : Nat) VA (padded args q.locals).length (padded args q.locals).length :: .spare 0 0 0 :: yv :: frB b A r.length cap proc (pcv + 1 : Nat) B vars.length cm :: x :: y :: H, [], (by repeat (first | exact Pk.nil | exact Pk.all | exact Pk.app | exact Pk.appR | with_reducible apply Pk.na | (apply Pk.cons; (repeat first | exact .here | apply Rem.there | apply Rem.app)) | apply Pk.skip | apply Pk.skipA)), he, rfl, FA2, fcap2, OA, ocap, ox, fx2, b2 :: b :: bs, _, .cons ⟨by simp [vflat], .inl ⟨rfl, rfl, rfl, rfl⟩⟩ h2 (.cons h3 hy h), by rw [List.reverse_cons, List.reverse_cons]; exact h1, ho, by rw [List.reverse_cons, List.reverse_cons]; rfl⟩
    | leave l g =>
      have hl := hleave l g
      rw [hq] at hS
      obtain ⟨rfl, H1, he, hR, rfl⟩ := hS
      obtain ⟨H2, F, h1, h2⟩ := hl H1 hq hR
      simp only [stepM, hpr, hq] at h2
      exact ⟨H2, F, h1, he, rfl, h2⟩
  cases h with
  | nil =>
    refine key (fun g H1 => H1 = [mcB mb (.slice CA pg.consts.length cc) (.slice PA pg.procs.length pc) c3 FA 0 fcap 1 (lastV val g) OA out.length ocap (steps + 1 : Nat) true, fx] ∧ PVec FA fcap [] fx) ⟨?_, fun A' cap' y' v hv' => ?_⟩ fun l' g H1 hq hR => ?_
    · exact (leave_end G mb (.slice CA pg.consts.length cc) (.slice PA pg.procs.length pc) c3 FA fcap en val OA out.length ocap (steps + 1 : Nat) ended b fx hfv none 0 [] [] (Rds.nil _ _ _) (by simp)).mono fun e G' H' ⟨h1, h2, h3, h4⟩ => ⟨h1, h2, h3, h4⟩
    · refine Fn.unpk (Fn.reorder ((leave_end G mb (.slice CA pg.consts.length cc) (.slice PA pg.procs.length pc) c3 FA fcap en val OA out.length ocap (steps + 1 : Nat) ended b fx hfv A' cap' [v] [y'] (hv'.rds .here) (by simp)).mono fun e G' H' hh => ?_) (by repeat (first | exact Pk.nil | exact Pk.all | exact Pk.app | exact Pk.appR | with_reducible apply Pk.na | (apply Pk.cons; (repeat first | exact .here | apply Rem.there | apply Rem.app)) | apply Pk.skip | apply Pk.skipA)))
      obtain ⟨h1, h2, h3, h4⟩ := hh
      subst h3
      exact ⟨_, _, .cons .here (.cons .here .nil), h1, h2, rfl, h4⟩
    · obtain ⟨rfl, h1⟩ := hR
      refine ⟨mcB mb (.slice CA pg.consts.length cc) (.slice PA pg.procs.length pc) c3 FA 0 fcap 1 (lastV val g) OA out.length ocap (steps + 1 : Nat) true :: ox :: fx :: [], [], (by repeat (first | exact Pk.nil | exact Pk.all | exact Pk.app | exact Pk.appR | with_reducible apply Pk.na | (apply Pk.cons; (repeat first | exact .here | apply Rem.there | apply Rem.app)) | apply Pk.skip | apply Pk.skipA)), ?_⟩
      simp only [stepM, hpr, hq]
      exact ⟨FA, fcap, OA, ocap, ox, fx, [], [], .nil, h1, ho, rfl⟩
  | @cons f0 fs' b0 bs0 H0 A0 B0 cap0 cm0 x0 y0 hx0 hy0 h0 =>
    obtain ⟨hsl0, _, _⟩ := hB.stack f0 (by simp)
    rw [List.reverse_cons] at hfv
    have hb0 : bs0.reverse.length ≤ 1000000 := by simp at hbl ⊢; omega
    rw [List.reverse_cons] at key ⊢
    refine key (fun g H1 => ∃ A' cap' x', H1 = mcB mb (.slice CA pg.consts.length cc) (.slice PA pg.procs.length pc) c3 FA (bs0.reverse ++ [b0]).length fcap en val OA out.length ocap (steps + 1 : Nat) ended :: fx :: frB b0 A' (f0.stack ++ g).length cap' f0.proc f0.pc B0 f0.vars.length cm0 :: x' :: y0 :: H0 ∧ PVec FA fcap (bs0.reverse ++ [b0]) fx ∧ VVec A' cap' (f0.stack ++ g) x') ⟨?_, fun A' cap' y' v hv' => ?_⟩ fun l' g H1 hq hR => ?_
    · exact (leave_go G mb (.slice CA pg.consts.length cc) (.slice PA pg.procs.length pc) c3 FA fcap en val OA out.length ocap (steps + 1 : Nat) ended bs0.reverse b0 b fx hfv hb0 A0 cap0 f0.proc f0.pc B0 f0.vars.length cm0 f0.stack x0 hx0 none 0 [] (y0 :: H0) (Rds.nil _ _ _) (by simp; omega)).mono fun e G' H' ⟨A', cap', x', h1, h2, h3, h4, h5⟩ => ⟨h1, h2, A', cap', x', h3, h4, h5⟩
    · refine Fn.unpk (Fn.reorder ((leave_go G mb (.slice CA pg.consts.length cc) (.slice PA pg.procs.length pc) c3 FA fcap en val OA out.length ocap (steps + 1 : Nat) ended bs0.reverse b0 b fx hfv hb0 A0 cap0 f0.proc f0.pc B0 f0.vars.length cm0 f0.stack x0 hx0 A' cap' [v] (y' :: y0 :: H0) (hv'.rds .here) (by simp; omega)).mono fun e G' H' hh => ?_) (by repeat (first | exact Pk.nil | exact Pk.all | exact Pk.app | exact Pk.appR | with_reducible apply Pk.na | (apply Pk.cons; (repeat first | exact .here | apply Rem.there | apply Rem.app)) | apply Pk.skip | apply Pk.skipA)))
      obtain ⟨A2, cap2, x2, h1, h2, h3, h4, h5⟩ := hh
      subst h3
      exact ⟨mcB mb (.slice CA pg.consts.length cc) (.slice PA pg.procs.length pc) c3 FA (bs0.reverse ++ [b0]).length fcap en val OA out.length ocap (steps + 1 : Nat) ended :: fx :: frB b0 A2 (f0.stack ++ [v]).length cap2 f0.proc f0.pc B0 f0.vars.length cm0 :: x2 :: y0 :: H0, [y'], (by repeat (first | exact Pk.nil | exact Pk.all | exact Pk.app | exact Pk.appR | with_reducible apply Pk.na | (apply Pk.cons; (repeat first | exact .here | apply Rem.there | apply Rem.app)) | apply Pk.skip | apply Pk.skipA)), h1, h2, A2, cap2, x2, rfl, h4, h5⟩
    · obtain ⟨A2, cap2, x2, rfl, h1, h2⟩ := hR
      refine ⟨mcB mb (.slice CA pg.consts.length cc) (.slice PA pg.procs.length pc) c3 FA (bs0.reverse ++ [b0]).length fcap en val OA out.length ocap (steps + 1 : Nat) ended :: ox :: fx :: frB b0 A2 (f0.stack ++ g).length cap2 f0.proc f0.pc B0 f0.vars.length cm0 :: x2 :: y0 :: H0, [], (by repeat (first | exact Pk.nil | exact Pk.all | exact Pk.app | exact Pk.appR | with_reducible apply Pk.na | (apply Pk.cons; (repeat first | exact .here | apply Rem.there | apply Rem.app)) | apply Pk.skip | apply Pk.skipA)), ?_⟩
      simp only [stepM, hpr, hq]
      exact ⟨FA, fcap, OA, ocap, ox, fx, b0 :: bs0, _, .cons h2 hy0 h0, by rw [List.reverse_cons]; exact h1, ho, by rw [List.reverse_cons]⟩
end
end Go.Proofs.Ytjgohbepageicaa.Gb
