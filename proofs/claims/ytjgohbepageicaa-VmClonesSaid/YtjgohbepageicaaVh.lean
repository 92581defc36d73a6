/- A program and a machine in memory; frames are entered, copied, found. -/
import Derived.Test.YtjgohbepageicaaVg
import Derived.Test.YtjgohbepageicaaGk
namespace Go.Proofs.Ytjgohbepageicaa.Gb
open Go Go.Proofs
set_option linter.unusedVariables false
attribute [local irreducible] Try.prog

/-- a procedure -/
structure Pr where
  name : ByteArray
  exp : Bool
  params : List Int
  locals : Int
  result : Int
  code : List (Int × Int)
structure Pg where
  consts : List V
  procs : List Pr

def Kd.val : Kd V where
  n := 4
  K _ x cs := cs = vcells x
  mono _ h := h
  len h := by rw [h]; rfl
  one h := by rw [h]; rfl
def Kd.ins : Kd (Int × Int) where
  n := 2
  K _ x cs := cs = [.int .i64 x.1, .int .i64 x.2]
  mono _ h := h
  len h := by rw [h]; rfl
  one h := by rw [h]; rfl
def Kd.prc : Kd Pr where
  n := 6
  K G p cs := ∃ PA pc CA cc, cs = [.string p.name, .bool p.exp, .slice PA p.params.length pc, .int .i64 p.locals, .int .i64 p.result, .slice CA p.code.length cc] ∧ Sl (Kd.int .i64) G PA p.params ∧ Sl Kd.ins G CA p.code
  mono hg h := let ⟨PA, pc, CA, cc, h1, h2, h3⟩ := h; ⟨PA, pc, CA, cc, h1, h2.mono hg, h3.mono hg⟩
  len h := by obtain ⟨PA, pc, CA, cc, h1, _⟩ := h; rw [h1]; rfl
  one h := by obtain ⟨PA, pc, CA, cc, h1, _⟩ := h; rw [h1]; rfl

/-- a machine's cells -/
abbrev mcC (c1 c2 c3 : Value) (FA : Option Addr) (n cap : Nat) (en : Int) (v : V) (OA : Option Addr) (on ocap : Nat) (st : Int) (ed : Bool) : Array Value :=
  #[c1, c2, c3, .slice FA n cap, .int .i64 en, .int .i64 v.t, .int .i64 v.i, .bool v.b, .string v.s, .slice OA on ocap, .int .i64 st, .bool ed]
abbrev mcB (mb : Nat) (c1 c2 c3 : Value) (FA : Option Addr) (n cap : Nat) (en : Int) (v : V) (OA : Option Addr) (on ocap : Nat) (st : Int) (ed : Bool) : Own := .blk mb (.cells (mcC c1 c2 c3 FA n cap en v OA on ocap st ed) 81 (0, 0))
def ptrs (bs : List Nat) : List Value := bs.map fun b => .pointer (some ⟨b, 0, none⟩)
theorem ptrs_length (bs : List Nat) : (ptrs bs).length = bs.length * 1 := by simp [ptrs]
theorem ptrs_one (bs : List Nat) : (ptrs bs).all (·.oneCell') = true := by induction bs with | nil => rfl | cons b bs ih => simp [ptrs, Value.oneCell']
abbrev PVec (A : Option Addr) (cap : Nat) (bs : List Nat) (x : Own) : Prop := Vec 92 1 A bs.length cap (ptrs bs) x

def sizedP (p : Pr) : Bool := decide ((p.params.length : Int) ≤ p.locals) && decide (p.locals ≤ 64)
theorem sized_fn (G : Gh) (nm : ByteArray) (ex : Bool) (PA : Option Addr) (n pc : Nat) (lo re : Int) (cv : Value) :
    Fn Try.prog 35 #[.agg #[.string nm, .bool ex, .slice PA n pc, .int .i64 lo, .int .i64 re, cv]] G [] fun e G' H' => e = .returned (.bool (decide ((n : Int) ≤ lo) && decide (lo ≤ 64))) ∧ G = G' ∧ H' = [] := by
  refine Fn.enter Try.func35 rfl rfl fun w0 => ?_
  refine WC.seq ?_
  refine WC.region ?_
  refine WL.op (by kernel_rfl) (OW.box rfl rfl fun b1 => ?_)
  refine WL.p (Gp.assign rfl) (by kernel_rfl) rfl ?_
  refine WL.nil ?_
  refine WK.un ?_
  refine WC.seq ?_
  refine WC.region ?_
  refine WL.p (Gp.fieldAddr rfl) (by kernel_rfl) rfl ?_
  (first | (refine WL.v (Gv.load1 rfl (by (repeat first | exact .here | apply At.there)) (by first | rfl | assumption)) (by kernel_rfl) rfl ?_) | (refine WL.v (Gv.loadN rfl (by (repeat first | exact .here | apply At.there)) (by rfl) (by rfl)) (by kernel_rfl) rfl ?_) | (refine WL.v (Gv.loadG1 rfl (by assumption) rfl) (by kernel_rfl) rfl ?_) | (refine WL.v (Gv.loadG0 rfl (by assumption) rfl) (by kernel_rfl) rfl ?_) | (refine WL.v (Gv.loadGN rfl (by assumption) rfl) (by kernel_rfl) rfl ?_))
  refine WL.p (Gp.fieldAddr rfl) (by kernel_rfl) rfl ?_
  (first | (refine WL.v (Gv.load1 rfl (by (repeat first | exact .here | apply At.there)) (by first | rfl | assumption)) (by kernel_rfl) rfl ?_) | (refine WL.v (Gv.loadN rfl (by (repeat first | exact .here | apply At.there)) (by rfl) (by rfl)) (by kernel_rfl) rfl ?_) | (refine WL.v (Gv.loadG1 rfl (by assumption) rfl) (by kernel_rfl) rfl ?_) | (refine WL.v (Gv.loadG0 rfl (by assumption) rfl) (by kernel_rfl) rfl ?_) | (refine WL.v (Gv.loadGN rfl (by assumption) rfl) (by kernel_rfl) rfl ?_))
  (first | refine WL.p (Gp.lenSl rfl) (by kernel_rfl) rfl ?_ | refine WL.p (Gp.lenS rfl) (by kernel_rfl) rfl ?_)
  (first | refine WL.p (Gp.geI rfl rfl) (by kernel_rfl) rfl ?_ | refine WL.p (Gp.geS rfl rfl) (by kernel_rfl) rfl ?_)
  refine WL.p (Gp.move rfl) (by kernel_rfl) rfl ?_
  generalize hb : decide ((n : Int) ≤ lo) = b
  cases b
  all_goals (first | refine WL.p (Gp.fieldAddr rfl) (by rfl) rfl ?_ | refine WL.skip (by rfl) rfl ?_)
  all_goals (first | (first | (refine WL.v (Gv.load1 rfl (by (repeat first | exact .here | apply At.there)) (by first | rfl | assumption)) (by rfl) rfl ?_) | (refine WL.v (Gv.loadN rfl (by (repeat first | exact .here | apply At.there)) (by rfl) (by rfl)) (by rfl) rfl ?_) | (refine WL.v (Gv.loadG1 rfl (by assumption) rfl) (by rfl) rfl ?_) | (refine WL.v (Gv.loadG0 rfl (by assumption) rfl) (by rfl) rfl ?_) | (refine WL.v (Gv.loadGN rfl (by assumption) rfl) (by rfl) rfl ?_)) | refine WL.skip (by rfl) rfl ?_)
  all_goals (first | (first | refine WL.p (Gp.leI rfl rfl) (by rfl) rfl ?_ | refine WL.p (Gp.leS rfl rfl) (by rfl) rfl ?_) | refine WL.skip (by rfl) rfl ?_)
  all_goals (first | (first | refine WL.p (Gp.pickT rfl rfl) (by rfl) rfl ?_ | refine WL.p (Gp.pickF rfl rfl) (by rfl) rfl ?_) | refine WL.skip (by rfl) rfl ?_)
  all_goals (first | refine WL.p (Gp.assign rfl) (by rfl) rfl ?_ | refine WL.skip (by rfl) rfl ?_)
  all_goals refine WL.nil ?_
  all_goals (refine WK.un ?_)
  all_goals refine WC.ret ?_
  all_goals (refine WK.un ?_)
  all_goals exact QF.ret1 (.inl rfl) rfl (.tmp rfl) (List.nil_sublist _) ⟨by simp, rfl, rfl⟩

theorem top_fn (G : Gh) (mb : Nat) (c1 c2 c3 : Value) (FA : Option Addr) (cap : Nat) (en : Int) (v : V) (OA : Option Addr) (on ocap : Nat) (st : Int) (ed : Bool) (bs : List Nat) (b : Nat) (x : Own)
    (hv : PVec FA cap (bs ++ [b]) x) (hb : bs.length ≤ 1000000000) :
    Fn Try.prog 42 #[.pointer (some ⟨mb, 0, none⟩)] G [mcB mb c1 c2 c3 FA (bs ++ [b]).length cap en v OA on ocap st ed, x]
      fun e G' H' => e = .returned (.pointer (some ⟨b, 0, none⟩)) ∧ G = G' ∧ H' = [mcB mb c1 c2 c3 FA (bs ++ [b]).length cap en v OA on ocap st ed, x] := by
  have hlen : (bs ++ [b]).length = bs.length + 1 := by simp
  obtain ⟨hl, ⟨h1, h2, h3, h4⟩ | ⟨b', c', rfl, rfl, h1, h2, h3⟩⟩ := id hv
  · simp at h2
  refine Fn.enter Try.func42 rfl rfl fun w0 => ?_
  refine WC.seq ?_
  refine WC.region ?_
  refine WL.p (Gp.assign rfl) (by kernel_rfl) rfl ?_
  refine WL.nil ?_
  refine WK.un ?_
  refine WC.seq ?_
  refine WC.draw mixed ?_
  refine WA.tp (i := 0) rfl (by kernel_rfl) (by kernel_rfl) rfl (Gp.move rfl) ?_
  refine WA.tp (i := 1) rfl (by kernel_rfl) (by kernel_rfl) rfl (Gp.nilCheck rfl) ?_
  refine WA.tp (i := 2) rfl (by kernel_rfl) (by kernel_rfl) rfl (Gp.fieldAddr rfl) ?_
  refine WA.tp (i := 4) rfl (by kernel_rfl) (by kernel_rfl) rfl (Gp.move rfl) ?_
  refine WA.tp (i := 5) rfl (by kernel_rfl) (by kernel_rfl) rfl (Gp.nilCheck rfl) ?_
  refine WA.tp (i := 6) rfl (by kernel_rfl) (by kernel_rfl) rfl (Gp.fieldAddr rfl) ?_
  (first | (refine WA.tv (i := 7) rfl (by kernel_rfl) (by kernel_rfl) rfl (Gv.load1 rfl (by (repeat first | exact .here | apply At.there)) (by first | rfl | assumption)) ?_) | (refine WA.tv (i := 7) rfl (by kernel_rfl) (by kernel_rfl) rfl (Gv.loadN rfl (by (repeat first | exact .here | apply At.there)) (by rfl) (by rfl)) ?_) | (refine WA.tv (i := 7) rfl (by kernel_rfl) (by kernel_rfl) rfl (Gv.loadG1 rfl (by assumption) rfl) ?_) | (refine WA.tv (i := 7) rfl (by kernel_rfl) (by kernel_rfl) rfl (Gv.loadG0 rfl (by assumption) rfl) ?_) | (refine WA.tv (i := 7) rfl (by kernel_rfl) (by kernel_rfl) rfl (Gv.loadGN rfl (by assumption) rfl) ?_))
  (first | refine WA.tp (i := 8) rfl (by kernel_rfl) (by kernel_rfl) rfl (Gp.lenSl rfl) ?_ | refine WA.tp (i := 8) rfl (by kernel_rfl) (by kernel_rfl) rfl (Gp.lenS rfl) ?_)
  refine WA.tp (i := 9) rfl (by kernel_rfl) (by kernel_rfl) rfl (Gp.sub rfl rfl) ?_
  rw [hlen, show IntKind.i64.wrap (((bs.length + 1 : Nat) : Int) - 1) = (bs.length : Int) by rw [wrap_small (by omega) (by omega)]; omega]
  (first | (refine WA.tv (i := 3) rfl (by kernel_rfl) (by kernel_rfl) rfl (Gv.load1 rfl (by (repeat first | exact .here | apply At.there)) (by first | rfl | assumption)) ?_) | (refine WA.tv (i := 3) rfl (by kernel_rfl) (by kernel_rfl) rfl (Gv.loadN rfl (by (repeat first | exact .here | apply At.there)) (by rfl) (by rfl)) ?_) | (refine WA.tv (i := 3) rfl (by kernel_rfl) (by kernel_rfl) rfl (Gv.loadG1 rfl (by assumption) rfl) ?_) | (refine WA.tv (i := 3) rfl (by kernel_rfl) (by kernel_rfl) rfl (Gv.loadG0 rfl (by assumption) rfl) ?_) | (refine WA.tv (i := 3) rfl (by kernel_rfl) (by kernel_rfl) rfl (Gv.loadGN rfl (by assumption) rfl) ?_))
  refine WA.tp (i := 10) rfl (by kernel_rfl) (by kernel_rfl) rfl (Gp.indexAddr rfl rfl (by first | assumption | omega | decide) (by first | assumption | omega | decide | (simp only [List.length_cons, List.length_nil]; decide))) ?_
  refine WA.tv (i := 11) rfl (by kernel_rfl) (by kernel_rfl) rfl (Gv.load1 rfl (.there .here) (by have h := congrArg (fun l => l[bs.length]?) h3; simp [ptrs, hlen] at h; simpa using h)) ?_
  refine WA.tp (i := 12) rfl (by kernel_rfl) (by kernel_rfl) rfl (Gp.assign rfl) ?_
  refine WA.done (by kernel_rfl) ?_
  refine WK.un ?_
  refine WC.ret ?_
  (refine WK.un ?_)
  exact QF.ret1 (.inl rfl) rfl (.tmp rfl) (List.Sublist.refl _) ⟨rfl, rfl, rfl⟩

theorem copied_fn (G : Gh) (b : Nat) (A : Option Addr) (cap : Nat) (p a : Int) (B : Option Addr) (cm : Nat) (l m : List V) (x y : Own) (hx : VVec A cap l x) (hy : VVec B cm m y) (hl : l.length ≤ 1000000000) (hm : m.length ≤ 1000000000) :
    Fn Try.prog 50 #[.pointer (some ⟨b, 0, none⟩)] G [frB b A l.length cap p a B m.length cm, x, y]
      fun e G' H' => ∃ A' cap' B' cm' x' y', e = .returned (.agg (frC A' l.length cap' p a B' m.length cm')) ∧ G = G' ∧ H' = [x', y', frB b A l.length cap p a B m.length cm, x, y] ∧ VVec A' cap' l x' ∧ VVec B' cm' m y' := by
  have none_zero : ∀ {A : Option Addr} {cap : Nat} {l : List V} {x : Own}, VVec A cap l x → A = none → l.length = 0 := by
    rintro A cap l x ⟨_, ⟨_, h, _⟩ | ⟨b, c, h, _⟩⟩ hA
    · exact h
    · rw [h] at hA; cases hA
  refine Fn.enter Try.func50 rfl rfl fun w0 => ?_
  refine WC.seq ?_
  refine WC.region ?_
  refine WL.op (by kernel_rfl) (OW.alloc rfl fun b2 => ?_)
  refine WL.nil ?_
  refine WK.un ?_
  refine WC.seq ?_
  refine WC.region ?_
  refine WL.p (Gp.move rfl) (by kernel_rfl) rfl ?_
  refine WL.p (Gp.nilCheck rfl) (by kernel_rfl) rfl ?_
  (first | (refine WL.v (Gv.load1 rfl (by (repeat first | exact .here | apply At.there)) (by first | rfl | assumption)) (by kernel_rfl) rfl ?_) | (refine WL.v (Gv.loadN rfl (by (repeat first | exact .here | apply At.there)) (by rfl) (by rfl)) (by kernel_rfl) rfl ?_) | (refine WL.v (Gv.loadG1 rfl (by assumption) rfl) (by kernel_rfl) rfl ?_) | (refine WL.v (Gv.loadG0 rfl (by assumption) rfl) (by kernel_rfl) rfl ?_) | (refine WL.v (Gv.loadGN rfl (by assumption) rfl) (by kernel_rfl) rfl ?_))
  refine WL.op (by kernel_rfl) (OW.alloc rfl fun b3 => ?_)
  refine WL.op (by kernel_rfl) (OW.store rfl rfl (by (repeat first | exact .here | apply At.there)) rfl (by rfl) (by rfl) (by kernel_rfl) (by rfl) ?_ rfl)
  refine WL.nil ?_
  refine WK.un ?_
  refine WC.seq ?_
  refine WC.region ?_
  refine WL.p (Gp.move rfl) (by kernel_rfl) rfl ?_
  refine WL.p (Gp.nilCheck rfl) (by kernel_rfl) rfl ?_
  refine WL.p (Gp.fieldAddr rfl) (by kernel_rfl) rfl ?_
  refine WL.p (Gp.fieldAddr rfl) (by kernel_rfl) rfl ?_
  (first | (refine WL.v (Gv.load1 rfl (by (repeat first | exact .here | apply At.there)) (by first | rfl | assumption)) (by kernel_rfl) rfl ?_) | (refine WL.v (Gv.loadN rfl (by (repeat first | exact .here | apply At.there)) (by rfl) (by rfl)) (by kernel_rfl) rfl ?_) | (refine WL.v (Gv.loadG1 rfl (by assumption) rfl) (by kernel_rfl) rfl ?_) | (refine WL.v (Gv.loadG0 rfl (by assumption) rfl) (by kernel_rfl) rfl ?_) | (refine WL.v (Gv.loadGN rfl (by assumption) rfl) (by kernel_rfl) rfl ?_))
  refine WL.op (by kernel_rfl) (OW.callK rfl (clone_vals G [frB b A l.length cap p a B m.length cm, x] A l.length cap (vflat l) (hx.rds (.there .here)) (vflat_length l) (vflat_one l) (none_zero hx) (by omega)) rfl fun v' G' H' h hg => ?_)
  obtain ⟨A', cap', x', he, rfl, rfl, hx'⟩ := h
  cases he
  refine WL.p (Gp.fieldAddr rfl) (by kernel_rfl) rfl ?_
  refine WL.p (Gp.fieldAddr rfl) (by kernel_rfl) rfl ?_
  refine WL.op (by kernel_rfl) (OW.store rfl rfl (by (repeat first | exact .here | apply At.there)) rfl (by rfl) (by rfl) (by kernel_rfl) (by rfl) ?_ rfl)
  refine WL.nil ?_
  refine WK.un ?_
  refine WC.seq ?_
  refine WC.region ?_
  refine WL.p (Gp.move rfl) (by kernel_rfl) rfl ?_
  refine WL.p (Gp.nilCheck rfl) (by kernel_rfl) rfl ?_
  refine WL.p (Gp.fieldAddr rfl) (by kernel_rfl) rfl ?_
  (first | (refine WL.v (Gv.load1 rfl (by (repeat first | exact .here | apply At.there)) (by first | rfl | assumption)) (by kernel_rfl) rfl ?_) | (refine WL.v (Gv.loadN rfl (by (repeat first | exact .here | apply At.there)) (by rfl) (by rfl)) (by kernel_rfl) rfl ?_) | (refine WL.v (Gv.loadG1 rfl (by assumption) rfl) (by kernel_rfl) rfl ?_) | (refine WL.v (Gv.loadG0 rfl (by assumption) rfl) (by kernel_rfl) rfl ?_) | (refine WL.v (Gv.loadGN rfl (by assumption) rfl) (by kernel_rfl) rfl ?_))
  refine WL.op (by kernel_rfl) (OW.callK rfl (clone_vals G [frB b A l.length cap p a B m.length cm, y] B m.length cm (vflat m) (hy.rds (.there .here)) (vflat_length m) (vflat_one m) (none_zero hy) (by omega)) rfl fun v' G' H' h hg => ?_)
  obtain ⟨B', cm', y', he, rfl, rfl, hy'⟩ := h
  cases he
  refine WL.p (Gp.fieldAddr rfl) (by kernel_rfl) rfl ?_
  refine WL.op (by kernel_rfl) (OW.store rfl rfl (by (repeat first | exact .here | apply At.there)) rfl (by rfl) (by rfl) (by kernel_rfl) (by rfl) ?_ rfl)
  refine WL.nil ?_
  refine WK.un ?_
  refine WC.seq ?_
  refine WC.region ?_
  (first | (refine WL.v (Gv.load1 rfl (by (repeat first | exact .here | apply At.there)) (by first | rfl | assumption)) (by kernel_rfl) rfl ?_) | (refine WL.v (Gv.loadN rfl (by (repeat first | exact .here | apply At.there)) (by rfl) (by rfl)) (by kernel_rfl) rfl ?_) | (refine WL.v (Gv.loadG1 rfl (by assumption) rfl) (by kernel_rfl) rfl ?_) | (refine WL.v (Gv.loadG0 rfl (by assumption) rfl) (by kernel_rfl) rfl ?_) | (refine WL.v (Gv.loadGN rfl (by assumption) rfl) (by kernel_rfl) rfl ?_))
  refine WL.op (by kernel_rfl) (OW.store rfl rfl (by (repeat first | exact .here | apply At.there)) rfl (by rfl) (by rfl) (by kernel_rfl) (by rfl) ?_ rfl)
  refine WL.nil ?_
  refine WK.un ?_
  refine WC.ret ?_
  refine WK.un ?_
  exact QF.p1 (.inl rfl) rfl (.cell rfl inferInstance inferInstance (by (repeat first | exact .here | apply At.there)) rfl rfl) (⟨A', cap', B', cm', x', y', rfl, rfl, rfl, hx', hy'⟩)
end Go.Proofs.Ytjgohbepageicaa.Gb
