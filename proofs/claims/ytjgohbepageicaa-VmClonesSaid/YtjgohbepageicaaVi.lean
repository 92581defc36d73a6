/- A frame is entered. -/
import Derived.Test.YtjgohbepageicaaVh
namespace Go.Proofs.Ytjgohbepageicaa.Gb
open Go Go.Proofs
set_option linter.unusedVariables false
attribute [local irreducible] Try.prog

def V0 : V := ⟨0, 0, false, ⟨#[]⟩⟩
theorem repS_V0 : ∀ n, repS n (vcells V0) = vflat (List.replicate n V0)
  | 0 => rfl
  | n + 1 => by rw [repS, repS_V0 n, List.replicate_succ]; simp [vflat]
/-- a procedure's variables, as it is entered -/
def padded (args : List V) (lo : Int) : List V := args ++ List.replicate (lo.toNat - args.length) V0
theorem padded_length {args : List V} {lo : Int} (h : (args.length : Int) ≤ lo) : (padded args lo).length = lo.toNat := by simp [padded]; omega

theorem enter_fn (G : Gh) (mb : Nat) (c1 c3 : Value) (PA : Option Addr) (pn pc : Nat) (procs : List Pr) (FA : Option Addr) (cap : Nat) (en : Int) (v : V) (OA : Option Addr) (on ocap : Nat) (st : Int) (ed : Bool) (bs : List Nat) (x : Own)
    (i : Nat) (p : Pr) (hp : procs[i]? = some p) (hpn : pn = procs.length) (hG : Sl Kd.prc G PA procs) (hv : PVec FA cap bs x) (hb : bs.length ≤ 1000000000)
    (AA : Option Addr) (ac : Nat) (args : List V) (Ha : List Own) (hr : Rds G Ha AA (vflat args)) (hla : (args.length : Int) ≤ p.locals) (hlo : p.locals ≤ 64) :
    Fn Try.prog 38 #[.pointer (some ⟨mb, 0, none⟩), .int .i64 i, .slice AA args.length ac] G (mcB mb c1 (.slice PA pn pc) c3 FA bs.length cap en v OA on ocap st ed :: x :: Ha)
      fun e G' H' => ∃ FA' cap' b VA x' y, e = .returned (.tuple #[]) ∧ G = G' ∧ H' = mcB mb c1 (.slice PA pn pc) c3 FA' (bs ++ [b]).length cap' en v OA on ocap st ed :: x' :: frB b none 0 0 i 0 VA (padded args p.locals).length (padded args p.locals).length :: .spare 0 0 0 :: y :: Ha ∧ PVec FA' cap' (bs ++ [b]) x' ∧ VVec VA (padded args p.locals).length (padded args p.locals) y := by
  have hi : i < procs.length := (List.getElem?_eq_some_iff.1 hp).1
  obtain ⟨pb, po, cs, rfl, ⟨QA, qc, CA, cc, rfl, _, _⟩, hcs⟩ := hG i p hp
  have hpl := padded_length hla
  rw [hpl]
  refine Fn.enter Try.func38 rfl rfl fun w0 => ?_
  refine WC.seq ?_
  refine WC.region ?_
  refine WL.p (Gp.move rfl) (by kernel_rfl) rfl ?_
  refine WL.p (Gp.move rfl) (by kernel_rfl) rfl ?_
  refine WL.p (Gp.nilCheck rfl) (by kernel_rfl) rfl ?_
  refine WL.p (Gp.fieldAddr rfl) (by kernel_rfl) rfl ?_
  refine WL.p (Gp.fieldAddr rfl) (by kernel_rfl) rfl ?_
  (first | (refine WL.v (Gv.load1 rfl (by (repeat first | exact .here | apply At.there)) (by first | rfl | assumption)) (by kernel_rfl) rfl ?_) | (refine WL.v (Gv.loadN rfl (by (repeat first | exact .here | apply At.there)) (by rfl) (by rfl)) (by kernel_rfl) rfl ?_) | (refine WL.v (Gv.loadG1 rfl (by assumption) rfl) (by kernel_rfl) rfl ?_) | (refine WL.v (Gv.loadG0 rfl (by assumption) rfl) (by kernel_rfl) rfl ?_) | (refine WL.v (Gv.loadGN rfl (by assumption) rfl) (by kernel_rfl) rfl ?_))
  refine WL.p (Gp.move rfl) (by kernel_rfl) rfl ?_
  refine WL.p (Gp.indexAddr rfl rfl (by first | assumption | omega | decide) (by first | assumption | omega | decide | (simp only [List.length_cons, List.length_nil]; decide))) (by kernel_rfl) rfl ?_
  refine WL.p (Gp.fieldAddr rfl) (by kernel_rfl) rfl ?_
  refine WL.v (Gv.loadG1 rfl hcs rfl) (by kernel_rfl) rfl ?_
  refine WL.op (by kernel_rfl) (OW.makeSlice rfl rfl (by rfl) (by omega) (by omega) (by omega) rfl fun vb y hy => ?_)
  refine WL.p (Gp.build rfl rfl) (by kernel_rfl) rfl ?_
  refine WL.op (by kernel_rfl) (OW.box rfl rfl fun b4 => ?_)
  refine WL.p (Gp.assign rfl) (by kernel_rfl) rfl ?_
  refine WL.nil ?_
  refine WK.un ?_
  rw [show repS p.locals.toNat (Value.cells (.agg #[.int .i64 0, .int .i64 0, .bool false, .string ⟨#[]⟩])).toList = vflat (List.replicate p.locals.toNat V0) from repS_V0 _] at hy
  refine WC.seq ?_
  refine WC.region ?_
  refine WL.p (Gp.move rfl) (by kernel_rfl) rfl ?_
  refine WL.p (Gp.nilCheck rfl) (by kernel_rfl) rfl ?_
  refine WL.p (Gp.fieldAddr rfl) (by kernel_rfl) rfl ?_
  (first | (refine WL.v (Gv.load1 rfl (by (repeat first | exact .here | apply At.there)) (by first | rfl | assumption)) (by kernel_rfl) rfl ?_) | (refine WL.v (Gv.loadN rfl (by (repeat first | exact .here | apply At.there)) (by rfl) (by rfl)) (by kernel_rfl) rfl ?_) | (refine WL.v (Gv.loadG1 rfl (by assumption) rfl) (by kernel_rfl) rfl ?_) | (refine WL.v (Gv.loadG0 rfl (by assumption) rfl) (by kernel_rfl) rfl ?_) | (refine WL.v (Gv.loadGN rfl (by assumption) rfl) (by kernel_rfl) rfl ?_))
  refine WL.p (Gp.move rfl) (by kernel_rfl) rfl ?_
  refine WL.op (by kernel_rfl) (OW.copy rfl rfl rfl hy (.there .here) ((hr.sub (by exact .cons _ (.cons _ (.cons _ (.cons _ (List.Sublist.refl _)))))) ) (vflat_length args) (vflat_one args) (by omega) rfl fun y' hy' => ?_)
  refine WL.nil ?_
  refine WK.un ?_
  have e1 : vflat args ++ (vflat (List.replicate p.locals.toNat V0)).drop (args.length * 4) = vflat (padded args p.locals) := by
    rw [padded, vflat_append]
    congr 1
    have h2 : List.replicate p.locals.toNat V0 = List.replicate args.length V0 ++ List.replicate (p.locals.toNat - args.length) V0 := by rw [List.replicate_append_replicate]; congr 1; omega
    rw [h2, vflat_append, show args.length * 4 = (vflat (List.replicate args.length V0)).length by rw [vflat_length]; simp, List.drop_left]
  rw [e1] at hy'
  refine WC.region ?_
  refine WL.p (Gp.move rfl) (by kernel_rfl) rfl ?_
  refine WL.p (Gp.move rfl) (by kernel_rfl) rfl ?_
  refine WL.p (Gp.nilCheck rfl) (by kernel_rfl) rfl ?_
  refine WL.p (Gp.fieldAddr rfl) (by kernel_rfl) rfl ?_
  (first | (refine WL.v (Gv.load1 rfl (by (repeat first | exact .here | apply At.there)) (by first | rfl | assumption)) (by kernel_rfl) rfl ?_) | (refine WL.v (Gv.loadN rfl (by (repeat first | exact .here | apply At.there)) (by rfl) (by rfl)) (by kernel_rfl) rfl ?_) | (refine WL.v (Gv.loadG1 rfl (by assumption) rfl) (by kernel_rfl) rfl ?_) | (refine WL.v (Gv.loadG0 rfl (by assumption) rfl) (by kernel_rfl) rfl ?_) | (refine WL.v (Gv.loadGN rfl (by assumption) rfl) (by kernel_rfl) rfl ?_))
  refine WL.p (Gp.move rfl) (by kernel_rfl) rfl ?_
  refine WL.op (by kernel_rfl) (OW.buildSlice rfl (by kernel_rfl) (by kernel_rfl) (by rfl) rfl fun b5 => ?_)
  refine WL.op (by kernel_rfl) (OW.append rfl rfl (by kernel_rfl) (by kernel_rfl) hv (by (repeat first | exact .here | apply At.there)) (Rds.blk0 (cs := ptrs [b4]) .here rfl) rfl rfl (by omega) (by omega) rfl fun FA' cap' x' hx' => ?_)
  refine WL.p (Gp.nilCheck rfl) (by kernel_rfl) rfl ?_
  refine WL.p (Gp.fieldAddr rfl) (by kernel_rfl) rfl ?_
  refine WL.op (by kernel_rfl) (OW.store rfl rfl (by (repeat first | exact .here | apply At.there)) rfl (by rfl) (by rfl) (by kernel_rfl) (by rfl) ?_ rfl)
  refine WL.nil ?_
  refine WK.un ?_
  refine WK.nothing ?_
  have e2 : (bs ++ [b4]).length = bs.length + 1 := by simp
  have e3 : ptrs (bs ++ [b4]) = ptrs bs ++ ptrs [b4] := by simp [ptrs]
  refine WK.un ?_
  exact QF.p0 (.inr rfl) rfl  (⟨FA', cap', b4, some ⟨vb, 0, none⟩, x', y', rfl, rfl, by rw [e2], by unfold PVec; rw [e2, e3]; exact hx', by unfold VVec; rw [hpl]; exact hy'⟩)
end Go.Proofs.Ytjgohbepageicaa.Gb
