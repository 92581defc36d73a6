/- An instruction is carried out, 1: constants, variables. -/
import Derived.Test.YtbfgljcjblfleaaGreatDoorMi
set_option linter.unusedVariables false
set_option linter.unusedSimpArgs false
set_option linter.unusedSectionVars false
namespace Go.Proofs.YtbfgljcjblfleaaGreatDoor.Gb
open Go Go.Proofs
attribute [local irreducible] Tryz.prog
inductive DR where
  | halt (n : Int)
  | go (l : List V) (k : Nat) (vars : List V)
  | print (l : List V) (v : V)
  | call (q : Pr) (r args : List V) (n : Int)
  | leave (l g : List V)
def layRQ (l : List V) (k : Nat) (vars : List V) (v : V) : DR := if 128 ≤ l.length then .halt 6 else .go (l ++ [v]) (k + 1) vars
def constR (consts : List V) (l : List V) (k : Nat) (vars : List V) (n : Int) : DR := if n < 0 then .halt 6 else match consts[n.toNat]? with
  | none => .halt 6
  | some v => if vOK v = true then layRQ l k vars v else .halt 6
def loadR (l : List V) (k : Nat) (vars : List V) (n : Int) : DR := if n < 0 then .halt 6 else match vars[n.toNat]? with
  | none => .halt 6
  | some v => if v.t = 0 then .halt 6 else layRQ l k vars v
def storeR (l : List V) (k : Nat) (vars : List V) (n : Int) : DR := if n < 0 ∨ vars.length ≤ n.toNat then .halt 6 else match pop1 l with
  | none => .halt 6
  | some (r, v) => .go r (k + 1) (vars.set n.toNat v)
def jumpR (cl : Nat) (l : List V) (vars : List V) (n : Int) : DR := if n < 0 ∨ cl ≤ n.toNat then .halt 6 else .go l n.toNat vars
def unlessR (cl : Nat) (l : List V) (k : Nat) (vars : List V) (n : Int) : DR := if n < 0 ∨ cl ≤ n.toNat then .halt 6 else match ty1 l 2 with
  | none => .halt 6
  | some (r, v) => .go r (if v.b then k + 1 else n.toNat) vars
def callD (procs : List Pr) (l : List V) (n : Int) (depth : Nat) : DR := match callR procs l n depth with
  | .error e => .halt e
  | .ok (q, r, a) => .call q r a n
def plainD (res : Int) (l : List V) (k : Nat) (vars : List V) (c : Int) (outn : Nat) : DR := match plainR res l c outn with
  | .halt m => .halt m
  | .set r => .go r (k + 1) vars
  | .print r v => .print r v
  | .leave r g => .leave r g
def doR (pg : Pg) (pr : Pr) (l : List V) (k : Nat) (vars : List V) (depth outn : Nat) : DR := match pr.code[k]? with
  | none => .halt 6
  | some (c, n) =>
    if c = 1 then constR pg.consts l k vars n
    else if c = 2 then loadR l k vars n
    else if c = 3 then storeR l k vars n
    else if c = 5 then jumpR pr.code.length l vars n
    else if c = 6 then unlessR pr.code.length l k vars n
    else if c = 7 then callD pg.procs l n depth
    else if n ≠ 0 then .halt 6
    else plainD pr.result l k vars c outn
def DoR (G : Gh) (mb : Nat) (c1 c2 c3 : Value) (FA : Option Addr) (fcap : Nat) (en : Int) (w : V) (OA : Option Addr) (ocap : Nat) (st : Int) (ed : Bool) (out : List V) (ox fx : Own) (Hx : List Own) (RL : List V → List Own → Prop)
    (b : Nat) (A : Option Addr) (cap pi : Nat) (B : Option Addr) (vars : List V) (cm : Nat) (x y : Own) (bs : List Nat) (k1 : Nat) (r : DR) : Ending → Gh → List Own → Prop := fun e G' H' => G = G' ∧ match r with
  | .halt n => e = halted n ∧ ∃ z, Left b [z] ∧ H' = mcB mb c1 c2 c3 FA bs.length fcap en w OA out.length ocap st ed :: ox :: z :: fx :: Hx
  | .go l' k' vars' => ∃ A' cap' x' y', e = .returned (.tuple #[]) ∧ VVec A' cap' l' x' ∧ VVec B cm vars' y' ∧ H' = mcB mb c1 c2 c3 FA bs.length fcap en w OA out.length ocap st ed :: ox :: frB b A' l'.length cap' pi k' B vars'.length cm :: x' :: y' :: fx :: Hx
  | .print l' v => ∃ OA' ocap' ox', e = .returned (.tuple #[]) ∧ VVec OA' ocap' (out ++ [v]) ox' ∧ VVec A cap l' x ∧ H' = mcB mb c1 c2 c3 FA bs.length fcap en w OA' (out ++ [v]).length ocap' st ed :: ox' :: frB b A l'.length cap pi k1 B vars.length cm :: x :: y :: fx :: Hx
  | .call q l' args n => ∃ FA' fcap' b' VA fx' yv, e = .returned (.tuple #[]) ∧ PVec FA' fcap' (bs ++ [b']) fx' ∧ VVec VA (padded args q.locals).length (padded args q.locals) yv ∧ VVec A cap l' x ∧
      H' = mcB mb c1 c2 c3 FA' (bs ++ [b']).length fcap' en w OA out.length ocap st ed :: ox :: frB b A l'.length cap pi k1 B vars.length cm :: x :: y :: fx' :: frB b' none 0 0 n 0 VA (padded args q.locals).length (padded args q.locals).length :: .spare 0 0 0 :: yv :: Hx
  | .leave l' g => ∃ H1, e = .returned (.tuple #[]) ∧ RL g H1 ∧ H' = ox :: H1
section
variable (G : Gh) (pg : Pg) (CA PA : Option Addr) (cc pc : Nat) (hC : Sl Kd.val G CA pg.consts) (hP : Sl Kd.prc G PA pg.procs)
    (mb : Nat) (c3 : Value) (FA : Option Addr) (fcap : Nat) (en : Int) (w : V) (OA : Option Addr) (ocap : Nat) (st : Int) (ed : Bool) (out : List V) (ox fx : Own) (Hx : List Own) (RL : List V → List Own → Prop)
    (b : Nat) (A : Option Addr) (cap pi : Nat) (pr : Pr) (hpr : pg.procs[pi]? = some pr) (B : Option Addr) (vars : List V) (cm : Nat) (x y : Own) (bs : List Nat) (l : List V) (k : Nat) (hkb : k ≤ 100000000000000)
include hC hP hpr hkb
theorem do_const (n : Int) (hi : pr.code[k]? = some (1, n)) (hv : VVec A cap l x) (hl : l.length ≤ 1000000) (hy : VVec B cm vars y) : Fn Tryz.prog 44 #[.pointer (some ⟨mb, 0, none⟩), .pointer (some ⟨b, 0, none⟩)] G
    (mcB mb (.slice CA pg.consts.length cc) (.slice PA pg.procs.length pc) c3 FA bs.length fcap en w OA out.length ocap st ed :: ox :: frB b A l.length cap pi k B vars.length cm :: x :: y :: fx :: Hx)
    (DoR G mb (.slice CA pg.consts.length cc) (.slice PA pg.procs.length pc) c3 FA fcap en w OA ocap st ed out ox fx Hx RL b A cap pi B vars cm x y bs (k + 1) (doR pg pr l k vars bs.length out.length)) := by
  rw [show doR pg pr l k vars bs.length out.length = constR pg.consts l k vars n by simp [doR, hi]]
  obtain ⟨pb, po, cs, hPA, ⟨QA, qc, IA, ic, rfl, hQ, hI⟩, hcs⟩ := hP pi pr hpr
  obtain ⟨ib, io, cs2, rfl, hK, hcs2⟩ := hI k (1, n) hi
  obtain rfl : cs2 = [.int .i64 1, .int .i64 n] := hK
  have hk : k < pr.code.length := (List.getElem?_eq_some_iff.1 hi).1
  have hpl : pi < pg.procs.length := (List.getElem?_eq_some_iff.1 hpr).1
  subst hPA
  refine Fn.enter Tryz.func44 rfl rfl fun w0 => ?_
  refine WC.seq ?_
  refine WC.draw mixed ?_
  refine WA.tp (i := 0) rfl (by kernel_rfl) (by kernel_rfl) rfl (Gp.move rfl) ?_
  refine WA.tp (i := 1) rfl (by kernel_rfl) (by kernel_rfl) rfl (Gp.nilCheck rfl) ?_
  refine WA.tp (i := 2) rfl (by kernel_rfl) (by kernel_rfl) rfl (Gp.fieldAddr rfl) ?_
  refine WA.tp (i := 3) rfl (by kernel_rfl) (by kernel_rfl) rfl (Gp.fieldAddr rfl) ?_
  (first | (refine WA.tv (i := 4) rfl (by kernel_rfl) (by kernel_rfl) rfl (Gv.load1 rfl (by (repeat first | exact .here | apply At.there)) (by first | rfl | assumption)) ?_) | (refine WA.tv (i := 4) rfl (by kernel_rfl) (by kernel_rfl) rfl (Gv.loadN rfl (by (repeat first | exact .here | apply At.there)) (by rfl) (by rfl)) ?_) | (refine WA.tv (i := 4) rfl (by kernel_rfl) (by kernel_rfl) rfl (Gv.loadG1 rfl (by assumption) rfl) ?_) | (refine WA.tv (i := 4) rfl (by kernel_rfl) (by kernel_rfl) rfl (Gv.loadG0 rfl (by assumption) rfl) ?_) | (refine WA.tv (i := 4) rfl (by kernel_rfl) (by kernel_rfl) rfl (Gv.loadGN rfl (by assumption) rfl) ?_))
  refine WA.tp (i := 5) rfl (by kernel_rfl) (by kernel_rfl) rfl (Gp.move rfl) ?_
  refine WA.tp (i := 6) rfl (by kernel_rfl) (by kernel_rfl) rfl (Gp.nilCheck rfl) ?_
  refine WA.tp (i := 7) rfl (by kernel_rfl) (by kernel_rfl) rfl (Gp.fieldAddr rfl) ?_
  (first | (refine WA.tv (i := 8) rfl (by kernel_rfl) (by kernel_rfl) rfl (Gv.load1 rfl (by (repeat first | exact .here | apply At.there)) (by first | rfl | assumption)) ?_) | (refine WA.tv (i := 8) rfl (by kernel_rfl) (by kernel_rfl) rfl (Gv.loadN rfl (by (repeat first | exact .here | apply At.there)) (by rfl) (by rfl)) ?_) | (refine WA.tv (i := 8) rfl (by kernel_rfl) (by kernel_rfl) rfl (Gv.loadG1 rfl (by assumption) rfl) ?_) | (refine WA.tv (i := 8) rfl (by kernel_rfl) (by kernel_rfl) rfl (Gv.loadG0 rfl (by assumption) rfl) ?_) | (refine WA.tv (i := 8) rfl (by kernel_rfl) (by kernel_rfl) rfl (Gv.loadGN rfl (by assumption) rfl) ?_))
  refine WA.tp (i := 9) rfl (by kernel_rfl) (by kernel_rfl) rfl (Gp.indexAddr rfl rfl (by first | assumption | omega | decide) (by first | assumption | omega | decide | (simp only [List.length_cons, List.length_nil]; decide))) ?_
  refine WA.tv (i := 10) rfl (by kernel_rfl) (by kernel_rfl) rfl (Gv.loadGN rfl hcs rfl) ?_
  refine WA.one (i := 11) (by kernel_rfl) rfl (by kernel_rfl) (OW.alloc rfl fun b1 => ?_)
  refine WA.one (i := 12) (by kernel_rfl) rfl (by kernel_rfl) (OW.store rfl rfl (by (repeat first | exact .here | apply At.there)) rfl (by rfl) (by rfl) (by kernel_rfl) (by rfl) ?_ rfl)
  refine WA.done (by kernel_rfl) ?_
  refine WK.un ?_
  refine WC.seq ?_
  refine WC.draw mixed ?_
  refine WA.tp (i := 0) rfl (by kernel_rfl) (by kernel_rfl) rfl (Gp.move rfl) ?_
  refine WA.tp (i := 1) rfl (by kernel_rfl) (by kernel_rfl) rfl (Gp.nilCheck rfl) ?_
  refine WA.tp (i := 2) rfl (by kernel_rfl) (by kernel_rfl) rfl (Gp.fieldAddr rfl) ?_
  (first | (refine WA.tv (i := 3) rfl (by kernel_rfl) (by kernel_rfl) rfl (Gv.load1 rfl (by (repeat first | exact .here | apply At.there)) (by first | rfl | assumption)) ?_) | (refine WA.tv (i := 3) rfl (by kernel_rfl) (by kernel_rfl) rfl (Gv.loadN rfl (by (repeat first | exact .here | apply At.there)) (by rfl) (by rfl)) ?_) | (refine WA.tv (i := 3) rfl (by kernel_rfl) (by kernel_rfl) rfl (Gv.loadG1 rfl (by assumption) rfl) ?_) | (refine WA.tv (i := 3) rfl (by kernel_rfl) (by kernel_rfl) rfl (Gv.loadG0 rfl (by assumption) rfl) ?_) | (refine WA.tv (i := 3) rfl (by kernel_rfl) (by kernel_rfl) rfl (Gv.loadGN rfl (by assumption) rfl) ?_))
  refine WA.tp (i := 4) rfl (by kernel_rfl) (by kernel_rfl) rfl (Gp.geI' rfl rfl (show decide ((0 : Int) ≤ (k : Int)) = true by simp)) ?_
  refine WA.tp (i := 5) rfl (by kernel_rfl) (by kernel_rfl) rfl (Gp.move rfl) ?_
  refine WA.tp (i := 6) rfl (by kernel_rfl) (by kernel_rfl) rfl (Gp.move rfl) ?_
  refine WA.tp (i := 7) rfl (by kernel_rfl) (by kernel_rfl) rfl (Gp.nilCheck rfl) ?_
  refine WA.tp (i := 8) rfl (by kernel_rfl) (by kernel_rfl) rfl (Gp.fieldAddr rfl) ?_
  (first | (refine WA.tv (i := 9) rfl (by kernel_rfl) (by kernel_rfl) rfl (Gv.load1 rfl (by (repeat first | exact .here | apply At.there)) (by first | rfl | assumption)) ?_) | (refine WA.tv (i := 9) rfl (by kernel_rfl) (by kernel_rfl) rfl (Gv.loadN rfl (by (repeat first | exact .here | apply At.there)) (by rfl) (by rfl)) ?_) | (refine WA.tv (i := 9) rfl (by kernel_rfl) (by kernel_rfl) rfl (Gv.loadG1 rfl (by assumption) rfl) ?_) | (refine WA.tv (i := 9) rfl (by kernel_rfl) (by kernel_rfl) rfl (Gv.loadG0 rfl (by assumption) rfl) ?_) | (refine WA.tv (i := 9) rfl (by kernel_rfl) (by kernel_rfl) rfl (Gv.loadGN rfl (by assumption) rfl) ?_))
  refine WA.tp (i := 10) rfl (by kernel_rfl) (by kernel_rfl) rfl (Gp.fieldAddr rfl) ?_
  (first | (refine WA.tv (i := 11) rfl (by kernel_rfl) (by kernel_rfl) rfl (Gv.load1 rfl (by (repeat first | exact .here | apply At.there)) (by first | rfl | assumption)) ?_) | (refine WA.tv (i := 11) rfl (by kernel_rfl) (by kernel_rfl) rfl (Gv.loadN rfl (by (repeat first | exact .here | apply At.there)) (by rfl) (by rfl)) ?_) | (refine WA.tv (i := 11) rfl (by kernel_rfl) (by kernel_rfl) rfl (Gv.loadG1 rfl (by assumption) rfl) ?_) | (refine WA.tv (i := 11) rfl (by kernel_rfl) (by kernel_rfl) rfl (Gv.loadG0 rfl (by assumption) rfl) ?_) | (refine WA.tv (i := 11) rfl (by kernel_rfl) (by kernel_rfl) rfl (Gv.loadGN rfl (by assumption) rfl) ?_))
  (first | refine WA.tp (i := 12) rfl (by kernel_rfl) (by kernel_rfl) rfl (Gp.lenSl rfl) ?_ | refine WA.tp (i := 12) rfl (by kernel_rfl) (by kernel_rfl) rfl (Gp.lenS rfl) ?_)
  refine WA.tp (i := 13) rfl (by kernel_rfl) (by kernel_rfl) rfl (Gp.ltI' rfl rfl (show decide ((k : Int) < (pr.code.length : Int)) = true by simp; omega)) ?_
  (first | refine WA.tp (i := 14) rfl (by kernel_rfl) (by kernel_rfl) rfl (Gp.pickT rfl rfl) ?_ | refine WA.tp (i := 14) rfl (by kernel_rfl) (by kernel_rfl) rfl (Gp.pickF rfl rfl) ?_)
  refine WA.one (i := 15) (by kernel_rfl) rfl (by kernel_rfl) (OW.callR rfl (Hf := []) (List.Perm.refl _) (need_ok G) rfl (by rintro e G' H' ⟨h, _⟩; exact ⟨_, h⟩) fun v' G' H' h hg => ?_)
  obtain ⟨he, rfl, rfl⟩ := h
  cases he
  refine WA.done (by kernel_rfl) ?_
  refine WK.un ?_
  refine WC.seq ?_
  refine WC.draw mixed ?_
  refine WA.tp (i := 0) rfl (by kernel_rfl) (by kernel_rfl) rfl (Gp.fieldAddr rfl) ?_
  (first | (refine WA.tv (i := 1) rfl (by kernel_rfl) (by kernel_rfl) rfl (Gv.load1 rfl (by (repeat first | exact .here | apply At.there)) (by first | rfl | assumption)) ?_) | (refine WA.tv (i := 1) rfl (by kernel_rfl) (by kernel_rfl) rfl (Gv.loadN rfl (by (repeat first | exact .here | apply At.there)) (by rfl) (by rfl)) ?_) | (refine WA.tv (i := 1) rfl (by kernel_rfl) (by kernel_rfl) rfl (Gv.loadG1 rfl (by assumption) rfl) ?_) | (refine WA.tv (i := 1) rfl (by kernel_rfl) (by kernel_rfl) rfl (Gv.loadG0 rfl (by assumption) rfl) ?_) | (refine WA.tv (i := 1) rfl (by kernel_rfl) (by kernel_rfl) rfl (Gv.loadGN rfl (by assumption) rfl) ?_))
  refine WA.tp (i := 2) rfl (by kernel_rfl) (by kernel_rfl) rfl (Gp.move rfl) ?_
  refine WA.tp (i := 3) rfl (by kernel_rfl) (by kernel_rfl) rfl (Gp.nilCheck rfl) ?_
  refine WA.tp (i := 4) rfl (by kernel_rfl) (by kernel_rfl) rfl (Gp.fieldAddr rfl) ?_
  (first | (refine WA.tv (i := 5) rfl (by kernel_rfl) (by kernel_rfl) rfl (Gv.load1 rfl (by (repeat first | exact .here | apply At.there)) (by first | rfl | assumption)) ?_) | (refine WA.tv (i := 5) rfl (by kernel_rfl) (by kernel_rfl) rfl (Gv.loadN rfl (by (repeat first | exact .here | apply At.there)) (by rfl) (by rfl)) ?_) | (refine WA.tv (i := 5) rfl (by kernel_rfl) (by kernel_rfl) rfl (Gv.loadG1 rfl (by assumption) rfl) ?_) | (refine WA.tv (i := 5) rfl (by kernel_rfl) (by kernel_rfl) rfl (Gv.loadG0 rfl (by assumption) rfl) ?_) | (refine WA.tv (i := 5) rfl (by kernel_rfl) (by kernel_rfl) rfl (Gv.loadGN rfl (by assumption) rfl) ?_))
  refine WA.tp (i := 6) rfl (by kernel_rfl) (by kernel_rfl) rfl (Gp.indexAddr rfl rfl (by first | assumption | omega | decide) (by first | assumption | omega | decide | (simp only [List.length_cons, List.length_nil]; decide))) ?_
  refine WA.tv (i := 7) rfl (by kernel_rfl) (by kernel_rfl) rfl (Gv.loadGN rfl hcs2 rfl) ?_
  refine WA.one (i := 8) (by kernel_rfl) rfl (by kernel_rfl) (OW.alloc rfl fun b2 => ?_)
  refine WA.one (i := 9) (by kernel_rfl) rfl (by kernel_rfl) (OW.store rfl rfl (by (repeat first | exact .here | apply At.there)) rfl (by rfl) (by rfl) (by kernel_rfl) (by rfl) ?_ rfl)
  refine WA.done (by kernel_rfl) ?_
  refine WK.un ?_
  refine WC.seq ?_
  refine WC.region ?_
  refine WL.p (Gp.move rfl) (by kernel_rfl) rfl ?_
  refine WL.p (Gp.nilCheck rfl) (by kernel_rfl) rfl ?_
  refine WL.p (Gp.fieldAddr rfl) (by kernel_rfl) rfl ?_
  (first | (refine WL.v (Gv.load1 rfl (by (repeat first | exact .here | apply At.there)) (by first | rfl | assumption)) (by kernel_rfl) rfl ?_) | (refine WL.v (Gv.loadN rfl (by (repeat first | exact .here | apply At.there)) (by rfl) (by rfl)) (by kernel_rfl) rfl ?_) | (refine WL.v (Gv.loadG1 rfl (by assumption) rfl) (by kernel_rfl) rfl ?_) | (refine WL.v (Gv.loadG0 rfl (by assumption) rfl) (by kernel_rfl) rfl ?_) | (refine WL.v (Gv.loadGN rfl (by assumption) rfl) (by kernel_rfl) rfl ?_))
  refine WL.p (Gp.add' rfl rfl (show IntKind.i64.wrap ((k : Int) + 1) = ((k + 1 : Nat) : Int) by rw [wrap_small (by omega) (by omega)]; omega)) (by kernel_rfl) rfl ?_
  refine WL.p (Gp.nilCheck rfl) (by kernel_rfl) rfl ?_
  refine WL.p (Gp.fieldAddr rfl) (by kernel_rfl) rfl ?_
  refine WL.op (by kernel_rfl) (OW.store rfl rfl (by (repeat first | exact .here | apply At.there)) rfl (by rfl) (by rfl) (by kernel_rfl) (by rfl) ?_ rfl)
  refine WL.nil ?_
  refine WK.un ?_
  refine WC.seq ?_
  refine WC.region ?_
  refine WL.p (Gp.fieldAddr rfl) (by kernel_rfl) rfl ?_
  (first | (refine WL.v (Gv.load1 rfl (by (repeat first | exact .here | apply At.there)) (by first | rfl | assumption)) (by kernel_rfl) rfl ?_) | (refine WL.v (Gv.loadN rfl (by (repeat first | exact .here | apply At.there)) (by rfl) (by rfl)) (by kernel_rfl) rfl ?_) | (refine WL.v (Gv.loadG1 rfl (by assumption) rfl) (by kernel_rfl) rfl ?_) | (refine WL.v (Gv.loadG0 rfl (by assumption) rfl) (by kernel_rfl) rfl ?_) | (refine WL.v (Gv.loadGN rfl (by assumption) rfl) (by kernel_rfl) rfl ?_))
  refine WL.nil ?_
  refine WK.un ?_
  refine WC.pk (H' := .blk b2 (.cells #[.int .i64 1, .int .i64 n] 97 (0, 0)) :: .blk b1 (.cells #[.string pr.name, .bool pr.exp, .slice QA pr.params.length qc, .int .i64 pr.locals, .int .i64 pr.result, .slice (some ⟨ib, io, none⟩) pr.code.length ic] 65 (0, 0)) :: mcB mb (.slice CA pg.consts.length cc) (.slice (some ⟨pb, po, none⟩) pg.procs.length pc) c3 FA bs.length fcap en w OA out.length ocap st ed :: ox :: frB b A l.length cap pi (k + 1 : Nat) B vars.length cm :: x :: y :: fx :: Hx) (by repeat (first | exact Pk.nil | exact Pk.all | exact Pk.app | exact Pk.appR | with_reducible apply Pk.na | (apply Pk.cons; (repeat first | exact .here | apply Rem.there | apply Rem.app)) | apply Pk.skip | apply Pk.skipA)) ?_
  repeat (first | refine WC.seq ?_ | refine WC.block ?_ | (refine WC.region ?_; refine WL.p (Gp.eqI rfl rfl) (by kernel_rfl) rfl ?_; refine WL.p (Gp.assign rfl) (by kernel_rfl) rfl ?_; refine WL.nil ?_; refine WK.un ?_) | refine WC.cond_true rfl ?_ | refine WC.cond_false rfl ?_ | (refine WC.skip ?_; refine WK.un ?_) | (refine WC.exit ?_; refine WK.un ?_))
  refine WC.draw mixed ?_
  refine WA.tp (i := 0) rfl (by kernel_rfl) (by kernel_rfl) rfl (Gp.fieldAddr rfl) ?_
  (first | (refine WA.tv (i := 1) rfl (by kernel_rfl) (by kernel_rfl) rfl (Gv.load1 rfl (by (repeat first | exact .here | apply At.there)) (by first | rfl | assumption)) ?_) | (refine WA.tv (i := 1) rfl (by kernel_rfl) (by kernel_rfl) rfl (Gv.loadN rfl (by (repeat first | exact .here | apply At.there)) (by rfl) (by rfl)) ?_) | (refine WA.tv (i := 1) rfl (by kernel_rfl) (by kernel_rfl) rfl (Gv.loadG1 rfl (by assumption) rfl) ?_) | (refine WA.tv (i := 1) rfl (by kernel_rfl) (by kernel_rfl) rfl (Gv.loadG0 rfl (by assumption) rfl) ?_) | (refine WA.tv (i := 1) rfl (by kernel_rfl) (by kernel_rfl) rfl (Gv.loadGN rfl (by assumption) rfl) ?_))
  by_cases hn0 : n < 0
  · rw [show constR pg.consts l k vars n = .halt 6 by rw [constR, if_pos hn0]]
    refine WA.tp (i := 2) rfl (by kernel_rfl) (by kernel_rfl) rfl (Gp.geI' rfl rfl (show decide ((0 : Int) ≤ n) = false by simpa using hn0)) ?_
    refine WA.tp (i := 3) rfl (by kernel_rfl) (by kernel_rfl) rfl (Gp.move rfl) ?_
    refine WA.sp (i := 4) rfl (by kernel_rfl) (by kernel_rfl) rfl ?_
    refine WA.sp (i := 5) rfl (by kernel_rfl) (by kernel_rfl) rfl ?_
    refine WA.sp (i := 6) rfl (by kernel_rfl) (by kernel_rfl) rfl ?_
    refine WA.sp (i := 7) rfl (by kernel_rfl) (by kernel_rfl) rfl ?_
    refine WA.sp (i := 8) rfl (by kernel_rfl) (by kernel_rfl) rfl ?_
    refine WA.sp (i := 9) rfl (by kernel_rfl) (by kernel_rfl) rfl ?_
    refine WA.sp (i := 10) rfl (by kernel_rfl) (by kernel_rfl) rfl ?_
    refine WA.sp (i := 11) rfl (by kernel_rfl) (by kernel_rfl) rfl ?_
    refine WA.sp (i := 12) rfl (by kernel_rfl) (by kernel_rfl) rfl ?_
    (first | refine WA.tp (i := 13) rfl (by kernel_rfl) (by kernel_rfl) rfl (Gp.pickT rfl rfl) ?_ | refine WA.tp (i := 13) rfl (by kernel_rfl) (by kernel_rfl) rfl (Gp.pickF rfl rfl) ?_)
    refine WA.tp (i := 14) rfl (by kernel_rfl) (by kernel_rfl) rfl (Gp.move rfl) ?_
    refine WA.sp (i := 15) rfl (by kernel_rfl) (by kernel_rfl) rfl ?_
    refine WA.sp (i := 16) rfl (by kernel_rfl) (by kernel_rfl) rfl ?_
    refine WA.sp (i := 17) rfl (by kernel_rfl) (by kernel_rfl) rfl ?_
    refine WA.sp (i := 18) rfl (by kernel_rfl) (by kernel_rfl) rfl ?_
    refine WA.sp (i := 19) rfl (by kernel_rfl) (by kernel_rfl) rfl ?_
    refine WA.sp (i := 20) rfl (by kernel_rfl) (by kernel_rfl) rfl ?_
    refine WA.sp (i := 21) rfl (by kernel_rfl) (by kernel_rfl) rfl ?_
    refine WA.sp (i := 22) rfl (by kernel_rfl) (by kernel_rfl) rfl ?_
    refine WA.sp (i := 23) rfl (by kernel_rfl) (by kernel_rfl) rfl ?_
    refine WA.sp (i := 24) rfl (by kernel_rfl) (by kernel_rfl) rfl ?_
    (first | refine WA.tp (i := 25) rfl (by kernel_rfl) (by kernel_rfl) rfl (Gp.pickT rfl rfl) ?_ | refine WA.tp (i := 25) rfl (by kernel_rfl) (by kernel_rfl) rfl (Gp.pickF rfl rfl) ?_)
    refine WA.one (i := 26) (by kernel_rfl) rfl (by kernel_rfl) (OW.call rfl (Hf := []) (List.Perm.refl _) (need_no _) rfl (fun v G' H' h _ => by cases h.1) (fun ch G' H' h _ => ?_) (fun G' H' h => by cases h.1))
    obtain ⟨he, rfl, rfl⟩ := h
    cases he
    refine WK.un ?_
    exact QF.panicP (⟨rfl, rfl, _, Left.of b A l.length cap pi (k + 1 : Nat) B vars.length cm, rfl⟩)
  obtain ⟨i, rfl⟩ := Int.eq_ofNat_of_zero_le (Int.not_lt.1 hn0)
  refine WA.tp (i := 2) rfl (by kernel_rfl) (by kernel_rfl) rfl (Gp.geI' rfl rfl (show decide ((0 : Int) ≤ (i : Int)) = true by simp)) ?_
  refine WA.tp (i := 3) rfl (by kernel_rfl) (by kernel_rfl) rfl (Gp.move rfl) ?_
  refine WA.tp (i := 4) rfl (by kernel_rfl) (by kernel_rfl) rfl (Gp.fieldAddr rfl) ?_
  (first | (refine WA.tv (i := 5) rfl (by kernel_rfl) (by kernel_rfl) rfl (Gv.load1 rfl (by (repeat first | exact .here | apply At.there)) (by first | rfl | assumption)) ?_) | (refine WA.tv (i := 5) rfl (by kernel_rfl) (by kernel_rfl) rfl (Gv.loadN rfl (by (repeat first | exact .here | apply At.there)) (by rfl) (by rfl)) ?_) | (refine WA.tv (i := 5) rfl (by kernel_rfl) (by kernel_rfl) rfl (Gv.loadG1 rfl (by assumption) rfl) ?_) | (refine WA.tv (i := 5) rfl (by kernel_rfl) (by kernel_rfl) rfl (Gv.loadG0 rfl (by assumption) rfl) ?_) | (refine WA.tv (i := 5) rfl (by kernel_rfl) (by kernel_rfl) rfl (Gv.loadGN rfl (by assumption) rfl) ?_))
  refine WA.tp (i := 6) rfl (by kernel_rfl) (by kernel_rfl) rfl (Gp.move rfl) ?_
  refine WA.tp (i := 7) rfl (by kernel_rfl) (by kernel_rfl) rfl (Gp.nilCheck rfl) ?_
  refine WA.tp (i := 8) rfl (by kernel_rfl) (by kernel_rfl) rfl (Gp.fieldAddr rfl) ?_
  refine WA.tp (i := 9) rfl (by kernel_rfl) (by kernel_rfl) rfl (Gp.fieldAddr rfl) ?_
  (first | (refine WA.tv (i := 10) rfl (by kernel_rfl) (by kernel_rfl) rfl (Gv.load1 rfl (by (repeat first | exact .here | apply At.there)) (by first | rfl | assumption)) ?_) | (refine WA.tv (i := 10) rfl (by kernel_rfl) (by kernel_rfl) rfl (Gv.loadN rfl (by (repeat first | exact .here | apply At.there)) (by rfl) (by rfl)) ?_) | (refine WA.tv (i := 10) rfl (by kernel_rfl) (by kernel_rfl) rfl (Gv.loadG1 rfl (by assumption) rfl) ?_) | (refine WA.tv (i := 10) rfl (by kernel_rfl) (by kernel_rfl) rfl (Gv.loadG0 rfl (by assumption) rfl) ?_) | (refine WA.tv (i := 10) rfl (by kernel_rfl) (by kernel_rfl) rfl (Gv.loadGN rfl (by assumption) rfl) ?_))
  (first | refine WA.tp (i := 11) rfl (by kernel_rfl) (by kernel_rfl) rfl (Gp.lenSl rfl) ?_ | refine WA.tp (i := 11) rfl (by kernel_rfl) (by kernel_rfl) rfl (Gp.lenS rfl) ?_)
  cases hc : pg.consts[i]? with
  | none =>
    rw [show constR pg.consts l k vars (i : Int) = .halt 6 by rw [constR, if_neg hn0, Int.toNat_natCast, hc]]
    refine WA.tp (i := 12) rfl (by kernel_rfl) (by kernel_rfl) rfl (Gp.ltI' rfl rfl (show decide ((i : Int) < (pg.consts.length : Int)) = false by have := List.getElem?_eq_none_iff.1 hc; simp; omega)) ?_
    (first | refine WA.tp (i := 13) rfl (by kernel_rfl) (by kernel_rfl) rfl (Gp.pickT rfl rfl) ?_ | refine WA.tp (i := 13) rfl (by kernel_rfl) (by kernel_rfl) rfl (Gp.pickF rfl rfl) ?_)
    refine WA.tp (i := 14) rfl (by kernel_rfl) (by kernel_rfl) rfl (Gp.move rfl) ?_
    refine WA.sp (i := 15) rfl (by kernel_rfl) (by kernel_rfl) rfl ?_
    refine WA.sp (i := 16) rfl (by kernel_rfl) (by kernel_rfl) rfl ?_
    refine WA.sp (i := 17) rfl (by kernel_rfl) (by kernel_rfl) rfl ?_
    refine WA.sp (i := 18) rfl (by kernel_rfl) (by kernel_rfl) rfl ?_
    refine WA.sp (i := 19) rfl (by kernel_rfl) (by kernel_rfl) rfl ?_
    refine WA.sp (i := 20) rfl (by kernel_rfl) (by kernel_rfl) rfl ?_
    refine WA.sp (i := 21) rfl (by kernel_rfl) (by kernel_rfl) rfl ?_
    refine WA.sp (i := 22) rfl (by kernel_rfl) (by kernel_rfl) rfl ?_
    refine WA.sp (i := 23) rfl (by kernel_rfl) (by kernel_rfl) rfl ?_
    refine WA.sp (i := 24) rfl (by kernel_rfl) (by kernel_rfl) rfl ?_
    (first | refine WA.tp (i := 25) rfl (by kernel_rfl) (by kernel_rfl) rfl (Gp.pickT rfl rfl) ?_ | refine WA.tp (i := 25) rfl (by kernel_rfl) (by kernel_rfl) rfl (Gp.pickF rfl rfl) ?_)
    refine WA.one (i := 26) (by kernel_rfl) rfl (by kernel_rfl) (OW.call rfl (Hf := []) (List.Perm.refl _) (need_no _) rfl (fun v G' H' h _ => by cases h.1) (fun ch G' H' h _ => ?_) (fun G' H' h => by cases h.1))
    obtain ⟨he, rfl, rfl⟩ := h
    cases he
    refine WK.un ?_
    exact QF.panicP (⟨rfl, rfl, _, Left.of b A l.length cap pi (k + 1 : Nat) B vars.length cm, rfl⟩)
  | some v =>
  obtain ⟨cb, co, cs3, rfl, hK3, hcs3⟩ := hC i v hc
  obtain rfl : cs3 = vcells v := hK3
  have hic : i < pg.consts.length := (List.getElem?_eq_some_iff.1 hc).1
  refine WA.tp (i := 12) rfl (by kernel_rfl) (by kernel_rfl) rfl (Gp.ltI' rfl rfl (show decide ((i : Int) < (pg.consts.length : Int)) = true by simp; omega)) ?_
  (first | refine WA.tp (i := 13) rfl (by kernel_rfl) (by kernel_rfl) rfl (Gp.pickT rfl rfl) ?_ | refine WA.tp (i := 13) rfl (by kernel_rfl) (by kernel_rfl) rfl (Gp.pickF rfl rfl) ?_)
  refine WA.tp (i := 14) rfl (by kernel_rfl) (by kernel_rfl) rfl (Gp.move rfl) ?_
  refine WA.tp (i := 15) rfl (by kernel_rfl) (by kernel_rfl) rfl (Gp.move rfl) ?_
  refine WA.tp (i := 16) rfl (by kernel_rfl) (by kernel_rfl) rfl (Gp.nilCheck rfl) ?_
  refine WA.tp (i := 17) rfl (by kernel_rfl) (by kernel_rfl) rfl (Gp.fieldAddr rfl) ?_
  refine WA.tp (i := 18) rfl (by kernel_rfl) (by kernel_rfl) rfl (Gp.fieldAddr rfl) ?_
  (first | (refine WA.tv (i := 19) rfl (by kernel_rfl) (by kernel_rfl) rfl (Gv.load1 rfl (by (repeat first | exact .here | apply At.there)) (by first | rfl | assumption)) ?_) | (refine WA.tv (i := 19) rfl (by kernel_rfl) (by kernel_rfl) rfl (Gv.loadN rfl (by (repeat first | exact .here | apply At.there)) (by rfl) (by rfl)) ?_) | (refine WA.tv (i := 19) rfl (by kernel_rfl) (by kernel_rfl) rfl (Gv.loadG1 rfl (by assumption) rfl) ?_) | (refine WA.tv (i := 19) rfl (by kernel_rfl) (by kernel_rfl) rfl (Gv.loadG0 rfl (by assumption) rfl) ?_) | (refine WA.tv (i := 19) rfl (by kernel_rfl) (by kernel_rfl) rfl (Gv.loadGN rfl (by assumption) rfl) ?_))
  refine WA.tp (i := 20) rfl (by kernel_rfl) (by kernel_rfl) rfl (Gp.fieldAddr rfl) ?_
  (first | (refine WA.tv (i := 21) rfl (by kernel_rfl) (by kernel_rfl) rfl (Gv.load1 rfl (by (repeat first | exact .here | apply At.there)) (by first | rfl | assumption)) ?_) | (refine WA.tv (i := 21) rfl (by kernel_rfl) (by kernel_rfl) rfl (Gv.loadN rfl (by (repeat first | exact .here | apply At.there)) (by rfl) (by rfl)) ?_) | (refine WA.tv (i := 21) rfl (by kernel_rfl) (by kernel_rfl) rfl (Gv.loadG1 rfl (by assumption) rfl) ?_) | (refine WA.tv (i := 21) rfl (by kernel_rfl) (by kernel_rfl) rfl (Gv.loadG0 rfl (by assumption) rfl) ?_) | (refine WA.tv (i := 21) rfl (by kernel_rfl) (by kernel_rfl) rfl (Gv.loadGN rfl (by assumption) rfl) ?_))
  refine WA.tp (i := 22) rfl (by kernel_rfl) (by kernel_rfl) rfl (Gp.indexAddr rfl rfl (by first | assumption | omega | decide) (by first | assumption | omega | decide | (simp only [List.length_cons, List.length_nil]; decide))) ?_
  refine WA.tv (i := 23) rfl (by kernel_rfl) (by kernel_rfl) rfl (Gv.loadGN rfl hcs3 rfl) ?_
  refine WA.one (i := 24) (by kernel_rfl) rfl (by kernel_rfl) (OW.callR rfl (Hf := []) (List.Perm.refl _) (value_fnQ G v) rfl (by rintro e G' H' ⟨h, _⟩; exact ⟨_, h⟩) fun v' G' H' h hg => ?_)
  obtain ⟨he, rfl, rfl⟩ := h
  cases he
  (first | refine WA.tp (i := 25) rfl (by kernel_rfl) (by kernel_rfl) rfl (Gp.pickT rfl rfl) ?_ | refine WA.tp (i := 25) rfl (by kernel_rfl) (by kernel_rfl) rfl (Gp.pickF rfl rfl) ?_)
  by_cases hok : vOK v = true
  rotate_left
  · rw [show constR pg.consts l k vars (i : Int) = .halt 6 by rw [constR, if_neg hn0, Int.toNat_natCast, hc]; exact if_neg hok]
    rw [show vOK v = false by simpa using hok]
    refine WA.one (i := 26) (by kernel_rfl) rfl (by kernel_rfl) (OW.call rfl (Hf := []) (List.Perm.refl _) (need_no _) rfl (fun v G' H' h _ => by cases h.1) (fun ch G' H' h _ => ?_) (fun G' H' h => by cases h.1))
    obtain ⟨he, rfl, rfl⟩ := h
    cases he
    refine WK.un ?_
    exact QF.panicP (⟨rfl, rfl, _, Left.of b A l.length cap pi (k + 1 : Nat) B vars.length cm, rfl⟩)
  rw [show constR pg.consts l k vars (i : Int) = layRQ l k vars v by rw [constR, if_neg hn0, Int.toNat_natCast, hc]; exact if_pos hok]
  rw [hok]
  refine WA.one (i := 26) (by kernel_rfl) rfl (by kernel_rfl) (OW.callR rfl (Hf := []) (List.Perm.refl _) (need_ok G) rfl (by rintro e G' H' ⟨h, _⟩; exact ⟨_, h⟩) fun v' G' H' h hg => ?_)
  obtain ⟨he, rfl, rfl⟩ := h
  cases he
  refine WA.done (by kernel_rfl) ?_
  refine WK.un ?_
  refine WC.draw mixed ?_
  refine WA.tp (i := 0) rfl (by kernel_rfl) (by kernel_rfl) rfl (Gp.move rfl) ?_
  refine WA.tp (i := 1) rfl (by kernel_rfl) (by kernel_rfl) rfl (Gp.move rfl) ?_
  refine WA.tp (i := 2) rfl (by kernel_rfl) (by kernel_rfl) rfl (Gp.move rfl) ?_
  refine WA.tp (i := 3) rfl (by kernel_rfl) (by kernel_rfl) rfl (Gp.nilCheck rfl) ?_
  refine WA.tp (i := 4) rfl (by kernel_rfl) (by kernel_rfl) rfl (Gp.fieldAddr rfl) ?_
  refine WA.tp (i := 5) rfl (by kernel_rfl) (by kernel_rfl) rfl (Gp.fieldAddr rfl) ?_
  (first | (refine WA.tv (i := 6) rfl (by kernel_rfl) (by kernel_rfl) rfl (Gv.load1 rfl (by (repeat first | exact .here | apply At.there)) (by first | rfl | assumption)) ?_) | (refine WA.tv (i := 6) rfl (by kernel_rfl) (by kernel_rfl) rfl (Gv.loadN rfl (by (repeat first | exact .here | apply At.there)) (by rfl) (by rfl)) ?_) | (refine WA.tv (i := 6) rfl (by kernel_rfl) (by kernel_rfl) rfl (Gv.loadG1 rfl (by assumption) rfl) ?_) | (refine WA.tv (i := 6) rfl (by kernel_rfl) (by kernel_rfl) rfl (Gv.loadG0 rfl (by assumption) rfl) ?_) | (refine WA.tv (i := 6) rfl (by kernel_rfl) (by kernel_rfl) rfl (Gv.loadGN rfl (by assumption) rfl) ?_))
  refine WA.tp (i := 7) rfl (by kernel_rfl) (by kernel_rfl) rfl (Gp.fieldAddr rfl) ?_
  (first | (refine WA.tv (i := 8) rfl (by kernel_rfl) (by kernel_rfl) rfl (Gv.load1 rfl (by (repeat first | exact .here | apply At.there)) (by first | rfl | assumption)) ?_) | (refine WA.tv (i := 8) rfl (by kernel_rfl) (by kernel_rfl) rfl (Gv.loadN rfl (by (repeat first | exact .here | apply At.there)) (by rfl) (by rfl)) ?_) | (refine WA.tv (i := 8) rfl (by kernel_rfl) (by kernel_rfl) rfl (Gv.loadG1 rfl (by assumption) rfl) ?_) | (refine WA.tv (i := 8) rfl (by kernel_rfl) (by kernel_rfl) rfl (Gv.loadG0 rfl (by assumption) rfl) ?_) | (refine WA.tv (i := 8) rfl (by kernel_rfl) (by kernel_rfl) rfl (Gv.loadGN rfl (by assumption) rfl) ?_))
  refine WA.tp (i := 9) rfl (by kernel_rfl) (by kernel_rfl) rfl (Gp.indexAddr rfl rfl (by first | assumption | omega | decide) (by first | assumption | omega | decide | (simp only [List.length_cons, List.length_nil]; decide))) ?_
  refine WA.tv (i := 10) rfl (by kernel_rfl) (by kernel_rfl) rfl (Gv.loadGN rfl hcs3 rfl) ?_
  by_cases hf : 128 ≤ l.length
  · rw [show layRQ l k vars v = .halt 6 by rw [layRQ, if_pos hf]]
    refine WA.one (i := 11) (by kernel_rfl) rfl (by kernel_rfl) (OW.call rfl (Pk.perm (by repeat (first | exact Pk.nil | exact Pk.all | exact Pk.app | exact Pk.appR | with_reducible apply Pk.na | (apply Pk.cons; (repeat first | exact .here | apply Rem.there | apply Rem.app)) | apply Pk.skip | apply Pk.skipA))) (lay_no G _ b A l.length cap pi (k + 1 : Nat) B vars.length cm _ hf) rfl (fun v' G' H' h hg => by cases h.1) (fun ch G' H' h hg => ?_) (fun G' H' h => by repeat (first | (cases h.1; done) | (cases h; done) | (obtain ⟨_, h⟩ := h) | (rcases h with h | h))))
    obtain ⟨he, rfl, c, hc, rfl⟩ := h
    cases he
    refine WK.un ?_
    exact QF.panicP ⟨rfl, rfl, _, ⟨c, hc, rfl⟩, rfl⟩
  rw [show layRQ l k vars v = .go (l ++ [v]) (k + 1) vars by rw [layRQ, if_neg hf]]
  refine WA.one (i := 11) (by kernel_rfl) rfl (by kernel_rfl) (OW.callK rfl (lay_ok G _ b A cap pi (k + 1 : Nat) B vars.length cm l x v hv (by omega)) rfl fun v' G' H' h hg => ?_)
  obtain ⟨A', cap', x', he, rfl, rfl, hv'⟩ := h
  cases he
  refine WA.done (by kernel_rfl) ?_
  refine WK.un ?_
  exact QF.p0 (.inr rfl) rfl ⟨rfl, A', cap', x', y, rfl, hv', hy, rfl⟩ (by repeat (first | exact Pk.nil | exact Pk.all | exact Pk.app | exact Pk.appR | with_reducible apply Pk.na | (apply Pk.cons; (repeat first | exact .here | apply Rem.there | apply Rem.app)) | apply Pk.skip | apply Pk.skipA))
end
end Go.Proofs.YtbfgljcjblfleaaGreatDoor.Gb
