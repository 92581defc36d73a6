/- Two numbers, as the statement has them. -/
import Derived.Test.YtjgohbepageicaaXd
namespace Go.Proofs.Ytjgohbepageicaa.Gb
open Go Go.Proofs
set_option linter.unusedVariables false
set_option linter.unusedSimpArgs false
set_option linter.unusedSectionVars false

section
variable {L : List (Nat × Value)} {d : Option Tmp} {ty : TypeId} {pos : String} {af : Array Edge} {gu : Option (Nat × Bool)}
theorem Gp.eqVr {x y : Operand} {t' : TypeId} {u v : V} {r : Bool} (hx : ev L x = some (.agg #[.int .i64 u.t, .int .i64 u.i, .bool u.b, .string u.s])) (hy : ev L y = some (.agg #[.int .i64 v.t, .int .i64 v.i, .bool v.b, .string v.s])) (h : decide (u = v) = r) :
    Gp Try.prog L ⟨d, .binOp .eql 33 x y t', ty, pos, af, gu⟩ (.bool r) := h ▸ Gp.eqV hx hy
theorem Gp.rem' {P : Program} {t t' : TypeId} {x y : Operand} {k : IntKind} {m n r : Int} (hx : ev L x = some (.int k m)) (hy : ev L y = some (.int k n)) (hn : n ≠ 0) (h : m.tmod n = r) : Gp P L ⟨d, .binOp .rem t x y t', ty, pos, af, gu⟩ (.int k r) := h ▸ Gp.rem hx hy hn
theorem Gp.convI' {P : Program} {s t : TypeId} {x : Operand} {k k' : IntKind} {m r : Int} {ds : TypeDesc} (hx : ev L x = some (.int k m)) [hs : Und P s ds] [ht : Und P t (.int k')] (h : k'.wrap m = r) : Gp P L ⟨d, .convert s t x, ty, pos, af, gu⟩ (.int k' r) := h ▸ Gp.convI hx
end
theorem ordN_num (a b : Int) : decide (ordN (numV a) (numV b) < 0) = decide (a < b) := by
  have h0 : cmpS ⟨#[]⟩ ⟨#[]⟩ = 0 := by simp [cmpS, ByteArray.toList_eq, Op.bytesLess]
  unfold ordN cmpI numV
  simp only
  by_cases h1 : a < b
  · simp [h1]
  · by_cases h2 : b < a
    · simp [h1, h2]
    · simp [h1, h2, h0]
theorem eq_num (a b : Int) : decide (numV a = numV b) = (a == b) := by
  by_cases h : a = b
  · subst h; simp
  · simp [numV, h]
attribute [local irreducible] Try.prog

theorem numbers_18 (G : Gh) (a b o : Int) (ho0 : 0 ≤ o) (ho1 : o ≤ 255) (hi : o.tmod 7 = 0) : Fn Try.prog 5 #[.int .i64 a, .int .i64 b, .int .u8 o] G [] fun e G' H' => e = .returned (.bool true) ∧ G.le G' ∧ H' = [] := by
  have hrun : runR (twoP (numV a) (numV b) 18 1) 0 9 [] = ⟨1, numV (IntKind.i64.wrap (a + b)), [], 4⟩ := run_two (vOK_num a) (vOK_num b) (by decide) (by simp [plainR, on2, ty2, pop2, recR, reckonS, numV]) (by decide) rfl
  refine Fn.enter Try.func5 rfl rfl fun w0 => ?_
  refine WC.seq ?_
  refine WC.region ?_
  refine WL.p (Gp.assign rfl) (by kernel_rfl) rfl ?_
  refine WL.nil ?_
  repeat (first | with_reducible refine WK.thN ?_ | with_reducible refine WK.thR ?_ | with_reducible refine WK.thE ?_ | with_reducible refine WK.thP ?_ | with_reducible refine WK.blN ?_ | with_reducible refine WK.blR ?_ | with_reducible refine WK.blP ?_ | with_reducible refine WK.blE ?_ | with_reducible refine WK.blO rfl ?_ | with_reducible refine WK.thJ ?_)
  refine WC.seq ?_
  refine WC.region ?_
  refine WL.op (by kernel_rfl) (OW.buildSlice rfl (by kernel_rfl) (by kernel_rfl) (by rfl) rfl fun b1 => ?_)
  refine WL.p (Gp.assign rfl) (by kernel_rfl) rfl ?_
  refine WL.nil ?_
  repeat (first | with_reducible refine WK.thN ?_ | with_reducible refine WK.thR ?_ | with_reducible refine WK.thE ?_ | with_reducible refine WK.thP ?_ | with_reducible refine WK.blN ?_ | with_reducible refine WK.blR ?_ | with_reducible refine WK.blP ?_ | with_reducible refine WK.blE ?_ | with_reducible refine WK.blO rfl ?_ | with_reducible refine WK.thJ ?_)
  refine WC.seq ?_
  refine WC.region ?_
  refine WL.p (Gp.move rfl) (by kernel_rfl) rfl ?_
  refine WL.p (Gp.move rfl) (by kernel_rfl) rfl ?_
  refine WL.p (Gp.convI' rfl (wrap_small (x := o) (by omega) (by omega))) (by kernel_rfl) rfl ?_
  refine WL.p (Gp.move rfl) (by kernel_rfl) rfl ?_
  (first | refine WL.p (Gp.lenSl rfl) (by kernel_rfl) rfl ?_ | refine WL.p (Gp.lenS rfl) (by kernel_rfl) rfl ?_)
  refine WL.p (Gp.rem' rfl rfl (by decide) hi) (by kernel_rfl) rfl ?_
  refine WL.p (Gp.indexAddr rfl rfl (by first | assumption | omega | decide) (by first | assumption | omega | decide | (simp only [List.length_cons, List.length_nil]; decide))) (by kernel_rfl) rfl ?_
  refine WL.v (Gv.load1 rfl .here rfl) (by kernel_rfl) rfl ?_
  refine WL.p (Gp.assign rfl) (by kernel_rfl) rfl ?_
  refine WL.nil ?_
  repeat (first | with_reducible refine WK.thN ?_ | with_reducible refine WK.thR ?_ | with_reducible refine WK.thE ?_ | with_reducible refine WK.thP ?_ | with_reducible refine WK.blN ?_ | with_reducible refine WK.blR ?_ | with_reducible refine WK.blP ?_ | with_reducible refine WK.blE ?_ | with_reducible refine WK.blO rfl ?_ | with_reducible refine WK.thJ ?_)
  refine WC.seq ?_
  refine WC.region ?_
  refine WL.p (Gp.assign rfl) (by kernel_rfl) rfl ?_
  refine WL.nil ?_
  repeat (first | with_reducible refine WK.thN ?_ | with_reducible refine WK.thR ?_ | with_reducible refine WK.thE ?_ | with_reducible refine WK.thP ?_ | with_reducible refine WK.blN ?_ | with_reducible refine WK.blR ?_ | with_reducible refine WK.blP ?_ | with_reducible refine WK.blE ?_ | with_reducible refine WK.blO rfl ?_ | with_reducible refine WK.thJ ?_)
  refine WC.seq ?_
  refine WC.seq ?_
  refine WC.region ?_
  refine WL.p (Gp.move rfl) (by kernel_rfl) rfl ?_
  (first | refine WL.p (Gp.eqI rfl rfl) (by kernel_rfl) rfl ?_ | refine WL.p (Gp.eqS rfl rfl) (by kernel_rfl) rfl ?_ | refine WL.p (Gp.nilSl rfl) (by kernel_rfl) rfl ?_ | refine WL.p (Gp.eqB rfl rfl) (by kernel_rfl) rfl ?_)
  refine WL.p (Gp.move rfl) (by kernel_rfl) rfl ?_
  refine WL.p (Gp.move rfl) (by kernel_rfl) rfl ?_
  (first | refine WL.p (Gp.eqI rfl rfl) (by kernel_rfl) rfl ?_ | refine WL.p (Gp.eqS rfl rfl) (by kernel_rfl) rfl ?_ | refine WL.p (Gp.nilSl rfl) (by kernel_rfl) rfl ?_ | refine WL.p (Gp.eqB rfl rfl) (by kernel_rfl) rfl ?_)
  (first | refine WL.p (Gp.pickT rfl rfl) (by kernel_rfl) rfl ?_ | refine WL.p (Gp.pickF rfl rfl) (by kernel_rfl) rfl ?_)
  refine WL.nil ?_
  repeat (first | with_reducible refine WK.thN ?_ | with_reducible refine WK.thR ?_ | with_reducible refine WK.thE ?_ | with_reducible refine WK.thP ?_ | with_reducible refine WK.blN ?_ | with_reducible refine WK.blR ?_ | with_reducible refine WK.blP ?_ | with_reducible refine WK.blE ?_ | with_reducible refine WK.blO rfl ?_ | with_reducible refine WK.thJ ?_)
  refine WC.cond_false rfl ?_
  refine WC.skip ?_
  repeat (first | with_reducible refine WK.thN ?_ | with_reducible refine WK.thR ?_ | with_reducible refine WK.thE ?_ | with_reducible refine WK.thP ?_ | with_reducible refine WK.blN ?_ | with_reducible refine WK.blR ?_ | with_reducible refine WK.blP ?_ | with_reducible refine WK.blE ?_ | with_reducible refine WK.blO rfl ?_ | with_reducible refine WK.thJ ?_)
  refine WC.seq ?_
  refine WC.region ?_
  refine WL.p (Gp.move rfl) (by kernel_rfl) rfl ?_
  refine WL.op (by kernel_rfl) (OW.callR rfl (Hf := []) (List.Perm.refl _) (lnumber_fn G a) rfl (by rintro e G' H' ⟨h, _⟩; exact ⟨_, h⟩) fun v' G' H' h hg => ?_)
  obtain ⟨he, rfl, rfl⟩ := h
  cases he
  refine WL.p (Gp.move rfl) (by kernel_rfl) rfl ?_
  refine WL.op (by kernel_rfl) (OW.callR rfl (Hf := []) (List.Perm.refl _) (lnumber_fn G b) rfl (by rintro e G' H' ⟨h, _⟩; exact ⟨_, h⟩) fun v' G' H' h hg => ?_)
  obtain ⟨he, rfl, rfl⟩ := h
  cases he
  refine WL.p (Gp.move rfl) (by kernel_rfl) rfl ?_
  refine WL.p (Gp.move rfl) (by kernel_rfl) rfl ?_
  refine WL.op (by kernel_rfl) (OW.callR rfl (Pk.perm (by repeat (first | exact Pk.nil | exact Pk.all | exact Pk.app | exact Pk.appR | with_reducible apply Pk.na | (apply Pk.cons; (repeat first | exact .here | apply Rem.there | apply Rem.app)) | apply Pk.skip | apply Pk.skipA))) (two_fn G (numV a) (numV b) 18 1) rfl (by intro e G' H' h; repeat (first | exact ⟨_, h.1⟩ | (obtain ⟨_, h⟩ := h))) fun v' G' H' h hg => ?_)
  obtain ⟨CA, PA, he, hg1, hC, hP, rfl⟩ := h
  cases he
  refine WL.op (by kernel_rfl) (OW.callR rfl (Pk.perm (by repeat (first | exact Pk.nil | exact Pk.all | exact Pk.app | exact Pk.appR | with_reducible apply Pk.na | (apply Pk.cons; (repeat first | exact .here | apply Rem.there | apply Rem.app)) | apply Pk.skip | apply Pk.skipA))) (Run_two G' (twoP (numV a) (numV b) 18 1) CA PA 2 1 _ hC hP (twoP_B _ _ _ _) _ hrun) rfl (by intro e G' H' h; repeat (first | exact ⟨_, h.1⟩ | (obtain ⟨_, h⟩ := h))) fun v' G' H' h hg => ?_)
  obtain ⟨A1, cap1, x1, he, hg2, hx1, rfl⟩ := h
  cases he
  refine WL.op (by kernel_rfl) (OW.alloc rfl fun b3 => ?_)
  refine WL.op (by kernel_rfl) (OW.store rfl rfl (by (repeat first | exact .here | apply At.there)) rfl (by rfl) (by rfl) (by kernel_rfl) (by rfl) ?_ rfl)
  refine WL.nil ?_
  repeat (first | with_reducible refine WK.thN ?_ | with_reducible refine WK.thR ?_ | with_reducible refine WK.thE ?_ | with_reducible refine WK.thP ?_ | with_reducible refine WK.blN ?_ | with_reducible refine WK.blR ?_ | with_reducible refine WK.blP ?_ | with_reducible refine WK.blE ?_ | with_reducible refine WK.blO rfl ?_ | with_reducible refine WK.thJ ?_)
  refine WC.seq ?_
  refine WC.seq ?_
  refine WC.region ?_
  refine WL.p (Gp.move rfl) (by kernel_rfl) rfl ?_
  (first | refine WL.p (Gp.eqI rfl rfl) (by kernel_rfl) rfl ?_ | refine WL.p (Gp.eqS rfl rfl) (by kernel_rfl) rfl ?_ | refine WL.p (Gp.nilSl rfl) (by kernel_rfl) rfl ?_ | refine WL.p (Gp.eqB rfl rfl) (by kernel_rfl) rfl ?_)
  refine WL.p (Gp.move rfl) (by kernel_rfl) rfl ?_
  refine WL.p (Gp.move rfl) (by kernel_rfl) rfl ?_
  (first | refine WL.p (Gp.eqI rfl rfl) (by kernel_rfl) rfl ?_ | refine WL.p (Gp.eqS rfl rfl) (by kernel_rfl) rfl ?_ | refine WL.p (Gp.nilSl rfl) (by kernel_rfl) rfl ?_ | refine WL.p (Gp.eqB rfl rfl) (by kernel_rfl) rfl ?_)
  (first | refine WL.p (Gp.pickT rfl rfl) (by kernel_rfl) rfl ?_ | refine WL.p (Gp.pickF rfl rfl) (by kernel_rfl) rfl ?_)
  refine WL.p (Gp.move rfl) (by kernel_rfl) rfl ?_
  refine WL.skip (by kernel_rfl) rfl ?_
  refine WL.skip (by kernel_rfl) rfl ?_
  (first | refine WL.p (Gp.pickT rfl rfl) (by kernel_rfl) rfl ?_ | refine WL.p (Gp.pickF rfl rfl) (by kernel_rfl) rfl ?_)
  refine WL.nil ?_
  repeat (first | with_reducible refine WK.thN ?_ | with_reducible refine WK.thR ?_ | with_reducible refine WK.thE ?_ | with_reducible refine WK.thP ?_ | with_reducible refine WK.blN ?_ | with_reducible refine WK.blR ?_ | with_reducible refine WK.blP ?_ | with_reducible refine WK.blE ?_ | with_reducible refine WK.blO rfl ?_ | with_reducible refine WK.thJ ?_)
  refine WC.cond_false rfl ?_
  refine WC.skip ?_
  repeat (first | with_reducible refine WK.thN ?_ | with_reducible refine WK.thR ?_ | with_reducible refine WK.thE ?_ | with_reducible refine WK.thP ?_ | with_reducible refine WK.blN ?_ | with_reducible refine WK.blR ?_ | with_reducible refine WK.blP ?_ | with_reducible refine WK.blE ?_ | with_reducible refine WK.blO rfl ?_ | with_reducible refine WK.thJ ?_)
  refine WC.seq ?_
  refine WC.region ?_
  refine WL.p (Gp.move rfl) (by kernel_rfl) rfl ?_
  refine WL.p (Gp.build rfl rfl) (by kernel_rfl) rfl ?_
  refine WL.op (by kernel_rfl) (OW.alloc rfl fun b5 => ?_)
  refine WL.op (by kernel_rfl) (OW.store rfl rfl (by (repeat first | exact .here | apply At.there)) rfl (by rfl) (by rfl) (by kernel_rfl) (by rfl) ?_ rfl)
  refine WL.nil ?_
  repeat (first | with_reducible refine WK.thN ?_ | with_reducible refine WK.thR ?_ | with_reducible refine WK.thE ?_ | with_reducible refine WK.thP ?_ | with_reducible refine WK.blN ?_ | with_reducible refine WK.blR ?_ | with_reducible refine WK.blP ?_ | with_reducible refine WK.blE ?_ | with_reducible refine WK.blO rfl ?_ | with_reducible refine WK.thJ ?_)
  refine WC.seq ?_
  refine WC.seq ?_
  refine WC.region ?_
  refine WL.p (Gp.move rfl) (by kernel_rfl) rfl ?_
  refine WL.nil ?_
  repeat (first | with_reducible refine WK.thN ?_ | with_reducible refine WK.thR ?_ | with_reducible refine WK.thE ?_ | with_reducible refine WK.thP ?_ | with_reducible refine WK.blN ?_ | with_reducible refine WK.blR ?_ | with_reducible refine WK.blP ?_ | with_reducible refine WK.blE ?_ | with_reducible refine WK.blO rfl ?_ | with_reducible refine WK.thJ ?_)
  repeat (first | refine WC.seq ?_ | refine WC.block ?_ | (refine WC.region ?_; refine WL.p (Gp.eqI rfl rfl) (by kernel_rfl) rfl ?_; refine WL.p (Gp.assign rfl) (by kernel_rfl) rfl ?_; refine WL.nil ?_; repeat (first | with_reducible refine WK.thN ?_ | with_reducible refine WK.thR ?_ | with_reducible refine WK.thE ?_ | with_reducible refine WK.thP ?_ | with_reducible refine WK.blN ?_ | with_reducible refine WK.blR ?_ | with_reducible refine WK.blP ?_ | with_reducible refine WK.blE ?_ | with_reducible refine WK.blO rfl ?_ | with_reducible refine WK.thJ ?_)) | refine WC.cond_true rfl ?_ | refine WC.cond_false rfl ?_ | (refine WC.skip ?_; repeat (first | with_reducible refine WK.thN ?_ | with_reducible refine WK.thR ?_ | with_reducible refine WK.thE ?_ | with_reducible refine WK.thP ?_ | with_reducible refine WK.blN ?_ | with_reducible refine WK.blR ?_ | with_reducible refine WK.blP ?_ | with_reducible refine WK.blE ?_ | with_reducible refine WK.blO rfl ?_ | with_reducible refine WK.thJ ?_)) | (refine WC.exit ?_; repeat (first | with_reducible refine WK.thN ?_ | with_reducible refine WK.thR ?_ | with_reducible refine WK.thE ?_ | with_reducible refine WK.thP ?_ | with_reducible refine WK.blN ?_ | with_reducible refine WK.blR ?_ | with_reducible refine WK.blP ?_ | with_reducible refine WK.blE ?_ | with_reducible refine WK.blO rfl ?_ | with_reducible refine WK.thJ ?_)))
  refine WC.region ?_
  refine WL.p (Gp.move rfl) (by kernel_rfl) rfl ?_
  refine WL.p (Gp.move rfl) (by kernel_rfl) rfl ?_
  (first | refine WL.p (Gp.add rfl rfl) (by kernel_rfl) rfl ?_ | refine WL.p (Gp.addS rfl rfl (by first | assumption | omega)) (by kernel_rfl) rfl ?_)
  refine WL.p (Gp.fieldAddr rfl) (by kernel_rfl) rfl ?_
  refine WL.op (by kernel_rfl) (OW.store rfl rfl (by (repeat first | exact .here | apply At.there)) rfl (by rfl) (by rfl) (by kernel_rfl) (by rfl) ?_ rfl)
  refine WL.nil ?_
  repeat (first | with_reducible refine WK.thN ?_ | with_reducible refine WK.thR ?_ | with_reducible refine WK.thE ?_ | with_reducible refine WK.thP ?_ | with_reducible refine WK.blN ?_ | with_reducible refine WK.blR ?_ | with_reducible refine WK.blP ?_ | with_reducible refine WK.blE ?_ | with_reducible refine WK.blO rfl ?_ | with_reducible refine WK.thJ ?_)
  refine WC.seq ?_
  refine WC.region ?_
  refine WL.p (Gp.fieldAddr rfl) (by kernel_rfl) rfl ?_
  refine WL.v (Gv.load1 rfl (by (repeat first | exact .here | apply At.there)) rfl) (by kernel_rfl) rfl ?_
  (first | refine WL.p (Gp.eqI rfl rfl) (by kernel_rfl) rfl ?_ | refine WL.p (Gp.eqS rfl rfl) (by kernel_rfl) rfl ?_ | refine WL.p (Gp.nilSl rfl) (by kernel_rfl) rfl ?_ | refine WL.p (Gp.eqB rfl rfl) (by kernel_rfl) rfl ?_)
  refine WL.p (Gp.move rfl) (by kernel_rfl) rfl ?_
  refine WL.p (Gp.fieldAddr rfl) (by kernel_rfl) rfl ?_
  refine WL.v (Gv.loadN rfl (by (repeat first | exact .here | apply At.there)) rfl rfl) (by kernel_rfl) rfl ?_
  refine WL.v (Gv.loadN rfl (by (repeat first | exact .here | apply At.there)) rfl rfl) (by kernel_rfl) rfl ?_
  refine WL.p (Gp.eqVr (r := true) (u := numV (IntKind.i64.wrap (a + b))) (v := numV (IntKind.i64.wrap (a + b))) rfl rfl (by simp)) (by kernel_rfl) rfl ?_
  (first | refine WL.p (Gp.pickT rfl rfl) (by kernel_rfl) rfl ?_ | refine WL.p (Gp.pickF rfl rfl) (by kernel_rfl) rfl ?_)
  refine WL.p (Gp.move rfl) (by kernel_rfl) rfl ?_
  refine WL.op (by kernel_rfl) (OW.callR rfl (Pk.perm (by repeat (first | exact Pk.nil | exact Pk.all | exact Pk.app | exact Pk.appR | with_reducible apply Pk.na | (apply Pk.cons; (repeat first | exact .here | apply Rem.there | apply Rem.app)) | apply Pk.skip | apply Pk.skipA))) (awake_fn _) rfl (by intro e G' H' h; repeat (first | exact ⟨_, h.1⟩ | (obtain ⟨_, h⟩ := h))) fun v' G' H' h hg => ?_)
  obtain ⟨he, hg3, rfl⟩ := h
  cases he
  (first | refine WL.p (Gp.pickT rfl rfl) (by kernel_rfl) rfl ?_ | refine WL.p (Gp.pickF rfl rfl) (by kernel_rfl) rfl ?_)
  refine WL.p (Gp.assign rfl) (by kernel_rfl) rfl ?_
  refine WL.nil ?_
  repeat (first | with_reducible refine WK.thN ?_ | with_reducible refine WK.thR ?_ | with_reducible refine WK.thE ?_ | with_reducible refine WK.thP ?_ | with_reducible refine WK.blN ?_ | with_reducible refine WK.blR ?_ | with_reducible refine WK.blP ?_ | with_reducible refine WK.blE ?_ | with_reducible refine WK.blO rfl ?_ | with_reducible refine WK.thJ ?_)
  refine WC.ret ?_
  repeat (first | with_reducible refine WK.thN ?_ | with_reducible refine WK.thR ?_ | with_reducible refine WK.thE ?_ | with_reducible refine WK.thP ?_ | with_reducible refine WK.blN ?_ | with_reducible refine WK.blR ?_ | with_reducible refine WK.blP ?_ | with_reducible refine WK.blE ?_ | with_reducible refine WK.blO rfl ?_ | with_reducible refine WK.thJ ?_)
  exact QF.p1 (.inl rfl) rfl (.tmp rfl) (⟨rfl, Gh.le_trans hg1 (Gh.le_trans hg2 hg3), rfl⟩) (by repeat (first | exact Pk.nil | exact Pk.all | exact Pk.app | exact Pk.appR | with_reducible apply Pk.na | (apply Pk.cons; (repeat first | exact .here | apply Rem.there | apply Rem.app)) | apply Pk.skip | apply Pk.skipA))

theorem numbers_19 (G : Gh) (a b o : Int) (ho0 : 0 ≤ o) (ho1 : o ≤ 255) (hi : o.tmod 7 = 1) : Fn Try.prog 5 #[.int .i64 a, .int .i64 b, .int .u8 o] G [] fun e G' H' => e = .returned (.bool true) ∧ G.le G' ∧ H' = [] := by
  have hrun : runR (twoP (numV a) (numV b) 19 1) 0 9 [] = ⟨1, numV (IntKind.i64.wrap (a - b)), [], 4⟩ := run_two (vOK_num a) (vOK_num b) (by decide) (by simp [plainR, on2, ty2, pop2, recR, reckonS, numV]) (by decide) rfl
  refine Fn.enter Try.func5 rfl rfl fun w0 => ?_
  refine WC.seq ?_
  refine WC.region ?_
  refine WL.p (Gp.assign rfl) (by kernel_rfl) rfl ?_
  refine WL.nil ?_
  repeat (first | with_reducible refine WK.thN ?_ | with_reducible refine WK.thR ?_ | with_reducible refine WK.thE ?_ | with_reducible refine WK.thP ?_ | with_reducible refine WK.blN ?_ | with_reducible refine WK.blR ?_ | with_reducible refine WK.blP ?_ | with_reducible refine WK.blE ?_ | with_reducible refine WK.blO rfl ?_ | with_reducible refine WK.thJ ?_)
  refine WC.seq ?_
  refine WC.region ?_
  refine WL.op (by kernel_rfl) (OW.buildSlice rfl (by kernel_rfl) (by kernel_rfl) (by rfl) rfl fun b1 => ?_)
  refine WL.p (Gp.assign rfl) (by kernel_rfl) rfl ?_
  refine WL.nil ?_
  repeat (first | with_reducible refine WK.thN ?_ | with_reducible refine WK.thR ?_ | with_reducible refine WK.thE ?_ | with_reducible refine WK.thP ?_ | with_reducible refine WK.blN ?_ | with_reducible refine WK.blR ?_ | with_reducible refine WK.blP ?_ | with_reducible refine WK.blE ?_ | with_reducible refine WK.blO rfl ?_ | with_reducible refine WK.thJ ?_)
  refine WC.seq ?_
  refine WC.region ?_
  refine WL.p (Gp.move rfl) (by kernel_rfl) rfl ?_
  refine WL.p (Gp.move rfl) (by kernel_rfl) rfl ?_
  refine WL.p (Gp.convI' rfl (wrap_small (x := o) (by omega) (by omega))) (by kernel_rfl) rfl ?_
  refine WL.p (Gp.move rfl) (by kernel_rfl) rfl ?_
  (first | refine WL.p (Gp.lenSl rfl) (by kernel_rfl) rfl ?_ | refine WL.p (Gp.lenS rfl) (by kernel_rfl) rfl ?_)
  refine WL.p (Gp.rem' rfl rfl (by decide) hi) (by kernel_rfl) rfl ?_
  refine WL.p (Gp.indexAddr rfl rfl (by first | assumption | omega | decide) (by first | assumption | omega | decide | (simp only [List.length_cons, List.length_nil]; decide))) (by kernel_rfl) rfl ?_
  refine WL.v (Gv.load1 rfl .here rfl) (by kernel_rfl) rfl ?_
  refine WL.p (Gp.assign rfl) (by kernel_rfl) rfl ?_
  refine WL.nil ?_
  repeat (first | with_reducible refine WK.thN ?_ | with_reducible refine WK.thR ?_ | with_reducible refine WK.thE ?_ | with_reducible refine WK.thP ?_ | with_reducible refine WK.blN ?_ | with_reducible refine WK.blR ?_ | with_reducible refine WK.blP ?_ | with_reducible refine WK.blE ?_ | with_reducible refine WK.blO rfl ?_ | with_reducible refine WK.thJ ?_)
  refine WC.seq ?_
  refine WC.region ?_
  refine WL.p (Gp.assign rfl) (by kernel_rfl) rfl ?_
  refine WL.nil ?_
  repeat (first | with_reducible refine WK.thN ?_ | with_reducible refine WK.thR ?_ | with_reducible refine WK.thE ?_ | with_reducible refine WK.thP ?_ | with_reducible refine WK.blN ?_ | with_reducible refine WK.blR ?_ | with_reducible refine WK.blP ?_ | with_reducible refine WK.blE ?_ | with_reducible refine WK.blO rfl ?_ | with_reducible refine WK.thJ ?_)
  refine WC.seq ?_
  refine WC.seq ?_
  refine WC.region ?_
  refine WL.p (Gp.move rfl) (by kernel_rfl) rfl ?_
  (first | refine WL.p (Gp.eqI rfl rfl) (by kernel_rfl) rfl ?_ | refine WL.p (Gp.eqS rfl rfl) (by kernel_rfl) rfl ?_ | refine WL.p (Gp.nilSl rfl) (by kernel_rfl) rfl ?_ | refine WL.p (Gp.eqB rfl rfl) (by kernel_rfl) rfl ?_)
  refine WL.p (Gp.move rfl) (by kernel_rfl) rfl ?_
  refine WL.p (Gp.move rfl) (by kernel_rfl) rfl ?_
  (first | refine WL.p (Gp.eqI rfl rfl) (by kernel_rfl) rfl ?_ | refine WL.p (Gp.eqS rfl rfl) (by kernel_rfl) rfl ?_ | refine WL.p (Gp.nilSl rfl) (by kernel_rfl) rfl ?_ | refine WL.p (Gp.eqB rfl rfl) (by kernel_rfl) rfl ?_)
  (first | refine WL.p (Gp.pickT rfl rfl) (by kernel_rfl) rfl ?_ | refine WL.p (Gp.pickF rfl rfl) (by kernel_rfl) rfl ?_)
  refine WL.nil ?_
  repeat (first | with_reducible refine WK.thN ?_ | with_reducible refine WK.thR ?_ | with_reducible refine WK.thE ?_ | with_reducible refine WK.thP ?_ | with_reducible refine WK.blN ?_ | with_reducible refine WK.blR ?_ | with_reducible refine WK.blP ?_ | with_reducible refine WK.blE ?_ | with_reducible refine WK.blO rfl ?_ | with_reducible refine WK.thJ ?_)
  refine WC.cond_false rfl ?_
  refine WC.skip ?_
  repeat (first | with_reducible refine WK.thN ?_ | with_reducible refine WK.thR ?_ | with_reducible refine WK.thE ?_ | with_reducible refine WK.thP ?_ | with_reducible refine WK.blN ?_ | with_reducible refine WK.blR ?_ | with_reducible refine WK.blP ?_ | with_reducible refine WK.blE ?_ | with_reducible refine WK.blO rfl ?_ | with_reducible refine WK.thJ ?_)
  refine WC.seq ?_
  refine WC.region ?_
  refine WL.p (Gp.move rfl) (by kernel_rfl) rfl ?_
  refine WL.op (by kernel_rfl) (OW.callR rfl (Hf := []) (List.Perm.refl _) (lnumber_fn G a) rfl (by rintro e G' H' ⟨h, _⟩; exact ⟨_, h⟩) fun v' G' H' h hg => ?_)
  obtain ⟨he, rfl, rfl⟩ := h
  cases he
  refine WL.p (Gp.move rfl) (by kernel_rfl) rfl ?_
  refine WL.op (by kernel_rfl) (OW.callR rfl (Hf := []) (List.Perm.refl _) (lnumber_fn G b) rfl (by rintro e G' H' ⟨h, _⟩; exact ⟨_, h⟩) fun v' G' H' h hg => ?_)
  obtain ⟨he, rfl, rfl⟩ := h
  cases he
  refine WL.p (Gp.move rfl) (by kernel_rfl) rfl ?_
  refine WL.p (Gp.move rfl) (by kernel_rfl) rfl ?_
  refine WL.op (by kernel_rfl) (OW.callR rfl (Pk.perm (by repeat (first | exact Pk.nil | exact Pk.all | exact Pk.app | exact Pk.appR | with_reducible apply Pk.na | (apply Pk.cons; (repeat first | exact .here | apply Rem.there | apply Rem.app)) | apply Pk.skip | apply Pk.skipA))) (two_fn G (numV a) (numV b) 19 1) rfl (by intro e G' H' h; repeat (first | exact ⟨_, h.1⟩ | (obtain ⟨_, h⟩ := h))) fun v' G' H' h hg => ?_)
  obtain ⟨CA, PA, he, hg1, hC, hP, rfl⟩ := h
  cases he
  refine WL.op (by kernel_rfl) (OW.callR rfl (Pk.perm (by repeat (first | exact Pk.nil | exact Pk.all | exact Pk.app | exact Pk.appR | with_reducible apply Pk.na | (apply Pk.cons; (repeat first | exact .here | apply Rem.there | apply Rem.app)) | apply Pk.skip | apply Pk.skipA))) (Run_two G' (twoP (numV a) (numV b) 19 1) CA PA 2 1 _ hC hP (twoP_B _ _ _ _) _ hrun) rfl (by intro e G' H' h; repeat (first | exact ⟨_, h.1⟩ | (obtain ⟨_, h⟩ := h))) fun v' G' H' h hg => ?_)
  obtain ⟨A1, cap1, x1, he, hg2, hx1, rfl⟩ := h
  cases he
  refine WL.op (by kernel_rfl) (OW.alloc rfl fun b3 => ?_)
  refine WL.op (by kernel_rfl) (OW.store rfl rfl (by (repeat first | exact .here | apply At.there)) rfl (by rfl) (by rfl) (by kernel_rfl) (by rfl) ?_ rfl)
  refine WL.nil ?_
  repeat (first | with_reducible refine WK.thN ?_ | with_reducible refine WK.thR ?_ | with_reducible refine WK.thE ?_ | with_reducible refine WK.thP ?_ | with_reducible refine WK.blN ?_ | with_reducible refine WK.blR ?_ | with_reducible refine WK.blP ?_ | with_reducible refine WK.blE ?_ | with_reducible refine WK.blO rfl ?_ | with_reducible refine WK.thJ ?_)
  refine WC.seq ?_
  refine WC.seq ?_
  refine WC.region ?_
  refine WL.p (Gp.move rfl) (by kernel_rfl) rfl ?_
  (first | refine WL.p (Gp.eqI rfl rfl) (by kernel_rfl) rfl ?_ | refine WL.p (Gp.eqS rfl rfl) (by kernel_rfl) rfl ?_ | refine WL.p (Gp.nilSl rfl) (by kernel_rfl) rfl ?_ | refine WL.p (Gp.eqB rfl rfl) (by kernel_rfl) rfl ?_)
  refine WL.p (Gp.move rfl) (by kernel_rfl) rfl ?_
  refine WL.p (Gp.move rfl) (by kernel_rfl) rfl ?_
  (first | refine WL.p (Gp.eqI rfl rfl) (by kernel_rfl) rfl ?_ | refine WL.p (Gp.eqS rfl rfl) (by kernel_rfl) rfl ?_ | refine WL.p (Gp.nilSl rfl) (by kernel_rfl) rfl ?_ | refine WL.p (Gp.eqB rfl rfl) (by kernel_rfl) rfl ?_)
  (first | refine WL.p (Gp.pickT rfl rfl) (by kernel_rfl) rfl ?_ | refine WL.p (Gp.pickF rfl rfl) (by kernel_rfl) rfl ?_)
  refine WL.p (Gp.move rfl) (by kernel_rfl) rfl ?_
  refine WL.skip (by kernel_rfl) rfl ?_
  refine WL.skip (by kernel_rfl) rfl ?_
  (first | refine WL.p (Gp.pickT rfl rfl) (by kernel_rfl) rfl ?_ | refine WL.p (Gp.pickF rfl rfl) (by kernel_rfl) rfl ?_)
  refine WL.nil ?_
  repeat (first | with_reducible refine WK.thN ?_ | with_reducible refine WK.thR ?_ | with_reducible refine WK.thE ?_ | with_reducible refine WK.thP ?_ | with_reducible refine WK.blN ?_ | with_reducible refine WK.blR ?_ | with_reducible refine WK.blP ?_ | with_reducible refine WK.blE ?_ | with_reducible refine WK.blO rfl ?_ | with_reducible refine WK.thJ ?_)
  refine WC.cond_false rfl ?_
  refine WC.skip ?_
  repeat (first | with_reducible refine WK.thN ?_ | with_reducible refine WK.thR ?_ | with_reducible refine WK.thE ?_ | with_reducible refine WK.thP ?_ | with_reducible refine WK.blN ?_ | with_reducible refine WK.blR ?_ | with_reducible refine WK.blP ?_ | with_reducible refine WK.blE ?_ | with_reducible refine WK.blO rfl ?_ | with_reducible refine WK.thJ ?_)
  refine WC.seq ?_
  refine WC.region ?_
  refine WL.p (Gp.move rfl) (by kernel_rfl) rfl ?_
  refine WL.p (Gp.build rfl rfl) (by kernel_rfl) rfl ?_
  refine WL.op (by kernel_rfl) (OW.alloc rfl fun b5 => ?_)
  refine WL.op (by kernel_rfl) (OW.store rfl rfl (by (repeat first | exact .here | apply At.there)) rfl (by rfl) (by rfl) (by kernel_rfl) (by rfl) ?_ rfl)
  refine WL.nil ?_
  repeat (first | with_reducible refine WK.thN ?_ | with_reducible refine WK.thR ?_ | with_reducible refine WK.thE ?_ | with_reducible refine WK.thP ?_ | with_reducible refine WK.blN ?_ | with_reducible refine WK.blR ?_ | with_reducible refine WK.blP ?_ | with_reducible refine WK.blE ?_ | with_reducible refine WK.blO rfl ?_ | with_reducible refine WK.thJ ?_)
  refine WC.seq ?_
  refine WC.seq ?_
  refine WC.region ?_
  refine WL.p (Gp.move rfl) (by kernel_rfl) rfl ?_
  refine WL.nil ?_
  repeat (first | with_reducible refine WK.thN ?_ | with_reducible refine WK.thR ?_ | with_reducible refine WK.thE ?_ | with_reducible refine WK.thP ?_ | with_reducible refine WK.blN ?_ | with_reducible refine WK.blR ?_ | with_reducible refine WK.blP ?_ | with_reducible refine WK.blE ?_ | with_reducible refine WK.blO rfl ?_ | with_reducible refine WK.thJ ?_)
  repeat (first | refine WC.seq ?_ | refine WC.block ?_ | (refine WC.region ?_; refine WL.p (Gp.eqI rfl rfl) (by kernel_rfl) rfl ?_; refine WL.p (Gp.assign rfl) (by kernel_rfl) rfl ?_; refine WL.nil ?_; repeat (first | with_reducible refine WK.thN ?_ | with_reducible refine WK.thR ?_ | with_reducible refine WK.thE ?_ | with_reducible refine WK.thP ?_ | with_reducible refine WK.blN ?_ | with_reducible refine WK.blR ?_ | with_reducible refine WK.blP ?_ | with_reducible refine WK.blE ?_ | with_reducible refine WK.blO rfl ?_ | with_reducible refine WK.thJ ?_)) | refine WC.cond_true rfl ?_ | refine WC.cond_false rfl ?_ | (refine WC.skip ?_; repeat (first | with_reducible refine WK.thN ?_ | with_reducible refine WK.thR ?_ | with_reducible refine WK.thE ?_ | with_reducible refine WK.thP ?_ | with_reducible refine WK.blN ?_ | with_reducible refine WK.blR ?_ | with_reducible refine WK.blP ?_ | with_reducible refine WK.blE ?_ | with_reducible refine WK.blO rfl ?_ | with_reducible refine WK.thJ ?_)) | (refine WC.exit ?_; repeat (first | with_reducible refine WK.thN ?_ | with_reducible refine WK.thR ?_ | with_reducible refine WK.thE ?_ | with_reducible refine WK.thP ?_ | with_reducible refine WK.blN ?_ | with_reducible refine WK.blR ?_ | with_reducible refine WK.blP ?_ | with_reducible refine WK.blE ?_ | with_reducible refine WK.blO rfl ?_ | with_reducible refine WK.thJ ?_)))
  refine WC.region ?_
  refine WL.p (Gp.move rfl) (by kernel_rfl) rfl ?_
  refine WL.p (Gp.move rfl) (by kernel_rfl) rfl ?_
  refine WL.p (Gp.sub rfl rfl) (by kernel_rfl) rfl ?_
  refine WL.p (Gp.fieldAddr rfl) (by kernel_rfl) rfl ?_
  refine WL.op (by kernel_rfl) (OW.store rfl rfl (by (repeat first | exact .here | apply At.there)) rfl (by rfl) (by rfl) (by kernel_rfl) (by rfl) ?_ rfl)
  refine WL.nil ?_
  repeat (first | with_reducible refine WK.thN ?_ | with_reducible refine WK.thR ?_ | with_reducible refine WK.thE ?_ | with_reducible refine WK.thP ?_ | with_reducible refine WK.blN ?_ | with_reducible refine WK.blR ?_ | with_reducible refine WK.blP ?_ | with_reducible refine WK.blE ?_ | with_reducible refine WK.blO rfl ?_ | with_reducible refine WK.thJ ?_)
  refine WC.seq ?_
  refine WC.region ?_
  refine WL.p (Gp.fieldAddr rfl) (by kernel_rfl) rfl ?_
  refine WL.v (Gv.load1 rfl (by (repeat first | exact .here | apply At.there)) rfl) (by kernel_rfl) rfl ?_
  (first | refine WL.p (Gp.eqI rfl rfl) (by kernel_rfl) rfl ?_ | refine WL.p (Gp.eqS rfl rfl) (by kernel_rfl) rfl ?_ | refine WL.p (Gp.nilSl rfl) (by kernel_rfl) rfl ?_ | refine WL.p (Gp.eqB rfl rfl) (by kernel_rfl) rfl ?_)
  refine WL.p (Gp.move rfl) (by kernel_rfl) rfl ?_
  refine WL.p (Gp.fieldAddr rfl) (by kernel_rfl) rfl ?_
  refine WL.v (Gv.loadN rfl (by (repeat first | exact .here | apply At.there)) rfl rfl) (by kernel_rfl) rfl ?_
  refine WL.v (Gv.loadN rfl (by (repeat first | exact .here | apply At.there)) rfl rfl) (by kernel_rfl) rfl ?_
  refine WL.p (Gp.eqVr (r := true) (u := numV (IntKind.i64.wrap (a - b))) (v := numV (IntKind.i64.wrap (a - b))) rfl rfl (by simp)) (by kernel_rfl) rfl ?_
  (first | refine WL.p (Gp.pickT rfl rfl) (by kernel_rfl) rfl ?_ | refine WL.p (Gp.pickF rfl rfl) (by kernel_rfl) rfl ?_)
  refine WL.p (Gp.move rfl) (by kernel_rfl) rfl ?_
  refine WL.op (by kernel_rfl) (OW.callR rfl (Pk.perm (by repeat (first | exact Pk.nil | exact Pk.all | exact Pk.app | exact Pk.appR | with_reducible apply Pk.na | (apply Pk.cons; (repeat first | exact .here | apply Rem.there | apply Rem.app)) | apply Pk.skip | apply Pk.skipA))) (awake_fn _) rfl (by intro e G' H' h; repeat (first | exact ⟨_, h.1⟩ | (obtain ⟨_, h⟩ := h))) fun v' G' H' h hg => ?_)
  obtain ⟨he, hg3, rfl⟩ := h
  cases he
  (first | refine WL.p (Gp.pickT rfl rfl) (by kernel_rfl) rfl ?_ | refine WL.p (Gp.pickF rfl rfl) (by kernel_rfl) rfl ?_)
  refine WL.p (Gp.assign rfl) (by kernel_rfl) rfl ?_
  refine WL.nil ?_
  repeat (first | with_reducible refine WK.thN ?_ | with_reducible refine WK.thR ?_ | with_reducible refine WK.thE ?_ | with_reducible refine WK.thP ?_ | with_reducible refine WK.blN ?_ | with_reducible refine WK.blR ?_ | with_reducible refine WK.blP ?_ | with_reducible refine WK.blE ?_ | with_reducible refine WK.blO rfl ?_ | with_reducible refine WK.thJ ?_)
  refine WC.ret ?_
  repeat (first | with_reducible refine WK.thN ?_ | with_reducible refine WK.thR ?_ | with_reducible refine WK.thE ?_ | with_reducible refine WK.thP ?_ | with_reducible refine WK.blN ?_ | with_reducible refine WK.blR ?_ | with_reducible refine WK.blP ?_ | with_reducible refine WK.blE ?_ | with_reducible refine WK.blO rfl ?_ | with_reducible refine WK.thJ ?_)
  exact QF.p1 (.inl rfl) rfl (.tmp rfl) (⟨rfl, Gh.le_trans hg1 (Gh.le_trans hg2 hg3), rfl⟩) (by repeat (first | exact Pk.nil | exact Pk.all | exact Pk.app | exact Pk.appR | with_reducible apply Pk.na | (apply Pk.cons; (repeat first | exact .here | apply Rem.there | apply Rem.app)) | apply Pk.skip | apply Pk.skipA))

theorem numbers_21 (G : Gh) (a b o : Int) (ho0 : 0 ≤ o) (ho1 : o ≤ 255) (hi : o.tmod 7 = 2) : Fn Try.prog 5 #[.int .i64 a, .int .i64 b, .int .u8 o] G [] fun e G' H' => e = .returned (.bool true) ∧ G.le G' ∧ H' = [] := by
  have hrun : runR (twoP (numV a) (numV b) 21 1) 0 9 [] = ⟨1, numV (IntKind.i64.wrap (a * b)), [], 4⟩ := run_two (vOK_num a) (vOK_num b) (by decide) (by simp [plainR, on2, ty2, pop2, recR, reckonS, numV]) (by decide) rfl
  refine Fn.enter Try.func5 rfl rfl fun w0 => ?_
  refine WC.seq ?_
  refine WC.region ?_
  refine WL.p (Gp.assign rfl) (by kernel_rfl) rfl ?_
  refine WL.nil ?_
  repeat (first | with_reducible refine WK.thN ?_ | with_reducible refine WK.thR ?_ | with_reducible refine WK.thE ?_ | with_reducible refine WK.thP ?_ | with_reducible refine WK.blN ?_ | with_reducible refine WK.blR ?_ | with_reducible refine WK.blP ?_ | with_reducible refine WK.blE ?_ | with_reducible refine WK.blO rfl ?_ | with_reducible refine WK.thJ ?_)
  refine WC.seq ?_
  refine WC.region ?_
  refine WL.op (by kernel_rfl) (OW.buildSlice rfl (by kernel_rfl) (by kernel_rfl) (by rfl) rfl fun b1 => ?_)
  refine WL.p (Gp.assign rfl) (by kernel_rfl) rfl ?_
  refine WL.nil ?_
  repeat (first | with_reducible refine WK.thN ?_ | with_reducible refine WK.thR ?_ | with_reducible refine WK.thE ?_ | with_reducible refine WK.thP ?_ | with_reducible refine WK.blN ?_ | with_reducible refine WK.blR ?_ | with_reducible refine WK.blP ?_ | with_reducible refine WK.blE ?_ | with_reducible refine WK.blO rfl ?_ | with_reducible refine WK.thJ ?_)
  refine WC.seq ?_
  refine WC.region ?_
  refine WL.p (Gp.move rfl) (by kernel_rfl) rfl ?_
  refine WL.p (Gp.move rfl) (by kernel_rfl) rfl ?_
  refine WL.p (Gp.convI' rfl (wrap_small (x := o) (by omega) (by omega))) (by kernel_rfl) rfl ?_
  refine WL.p (Gp.move rfl) (by kernel_rfl) rfl ?_
  (first | refine WL.p (Gp.lenSl rfl) (by kernel_rfl) rfl ?_ | refine WL.p (Gp.lenS rfl) (by kernel_rfl) rfl ?_)
  refine WL.p (Gp.rem' rfl rfl (by decide) hi) (by kernel_rfl) rfl ?_
  refine WL.p (Gp.indexAddr rfl rfl (by first | assumption | omega | decide) (by first | assumption | omega | decide | (simp only [List.length_cons, List.length_nil]; decide))) (by kernel_rfl) rfl ?_
  refine WL.v (Gv.load1 rfl .here rfl) (by kernel_rfl) rfl ?_
  refine WL.p (Gp.assign rfl) (by kernel_rfl) rfl ?_
  refine WL.nil ?_
  repeat (first | with_reducible refine WK.thN ?_ | with_reducible refine WK.thR ?_ | with_reducible refine WK.thE ?_ | with_reducible refine WK.thP ?_ | with_reducible refine WK.blN ?_ | with_reducible refine WK.blR ?_ | with_reducible refine WK.blP ?_ | with_reducible refine WK.blE ?_ | with_reducible refine WK.blO rfl ?_ | with_reducible refine WK.thJ ?_)
  refine WC.seq ?_
  refine WC.region ?_
  refine WL.p (Gp.assign rfl) (by kernel_rfl) rfl ?_
  refine WL.nil ?_
  repeat (first | with_reducible refine WK.thN ?_ | with_reducible refine WK.thR ?_ | with_reducible refine WK.thE ?_ | with_reducible refine WK.thP ?_ | with_reducible refine WK.blN ?_ | with_reducible refine WK.blR ?_ | with_reducible refine WK.blP ?_ | with_reducible refine WK.blE ?_ | with_reducible refine WK.blO rfl ?_ | with_reducible refine WK.thJ ?_)
  refine WC.seq ?_
  refine WC.seq ?_
  refine WC.region ?_
  refine WL.p (Gp.move rfl) (by kernel_rfl) rfl ?_
  (first | refine WL.p (Gp.eqI rfl rfl) (by kernel_rfl) rfl ?_ | refine WL.p (Gp.eqS rfl rfl) (by kernel_rfl) rfl ?_ | refine WL.p (Gp.nilSl rfl) (by kernel_rfl) rfl ?_ | refine WL.p (Gp.eqB rfl rfl) (by kernel_rfl) rfl ?_)
  refine WL.p (Gp.move rfl) (by kernel_rfl) rfl ?_
  refine WL.p (Gp.move rfl) (by kernel_rfl) rfl ?_
  (first | refine WL.p (Gp.eqI rfl rfl) (by kernel_rfl) rfl ?_ | refine WL.p (Gp.eqS rfl rfl) (by kernel_rfl) rfl ?_ | refine WL.p (Gp.nilSl rfl) (by kernel_rfl) rfl ?_ | refine WL.p (Gp.eqB rfl rfl) (by kernel_rfl) rfl ?_)
  (first | refine WL.p (Gp.pickT rfl rfl) (by kernel_rfl) rfl ?_ | refine WL.p (Gp.pickF rfl rfl) (by kernel_rfl) rfl ?_)
  refine WL.nil ?_
  repeat (first | with_reducible refine WK.thN ?_ | with_reducible refine WK.thR ?_ | with_reducible refine WK.thE ?_ | with_reducible refine WK.thP ?_ | with_reducible refine WK.blN ?_ | with_reducible refine WK.blR ?_ | with_reducible refine WK.blP ?_ | with_reducible refine WK.blE ?_ | with_reducible refine WK.blO rfl ?_ | with_reducible refine WK.thJ ?_)
  refine WC.cond_false rfl ?_
  refine WC.skip ?_
  repeat (first | with_reducible refine WK.thN ?_ | with_reducible refine WK.thR ?_ | with_reducible refine WK.thE ?_ | with_reducible refine WK.thP ?_ | with_reducible refine WK.blN ?_ | with_reducible refine WK.blR ?_ | with_reducible refine WK.blP ?_ | with_reducible refine WK.blE ?_ | with_reducible refine WK.blO rfl ?_ | with_reducible refine WK.thJ ?_)
  refine WC.seq ?_
  refine WC.region ?_
  refine WL.p (Gp.move rfl) (by kernel_rfl) rfl ?_
  refine WL.op (by kernel_rfl) (OW.callR rfl (Hf := []) (List.Perm.refl _) (lnumber_fn G a) rfl (by rintro e G' H' ⟨h, _⟩; exact ⟨_, h⟩) fun v' G' H' h hg => ?_)
  obtain ⟨he, rfl, rfl⟩ := h
  cases he
  refine WL.p (Gp.move rfl) (by kernel_rfl) rfl ?_
  refine WL.op (by kernel_rfl) (OW.callR rfl (Hf := []) (List.Perm.refl _) (lnumber_fn G b) rfl (by rintro e G' H' ⟨h, _⟩; exact ⟨_, h⟩) fun v' G' H' h hg => ?_)
  obtain ⟨he, rfl, rfl⟩ := h
  cases he
  refine WL.p (Gp.move rfl) (by kernel_rfl) rfl ?_
  refine WL.p (Gp.move rfl) (by kernel_rfl) rfl ?_
  refine WL.op (by kernel_rfl) (OW.callR rfl (Pk.perm (by repeat (first | exact Pk.nil | exact Pk.all | exact Pk.app | exact Pk.appR | with_reducible apply Pk.na | (apply Pk.cons; (repeat first | exact .here | apply Rem.there | apply Rem.app)) | apply Pk.skip | apply Pk.skipA))) (two_fn G (numV a) (numV b) 21 1) rfl (by intro e G' H' h; repeat (first | exact ⟨_, h.1⟩ | (obtain ⟨_, h⟩ := h))) fun v' G' H' h hg => ?_)
  obtain ⟨CA, PA, he, hg1, hC, hP, rfl⟩ := h
  cases he
  refine WL.op (by kernel_rfl) (OW.callR rfl (Pk.perm (by repeat (first | exact Pk.nil | exact Pk.all | exact Pk.app | exact Pk.appR | with_reducible apply Pk.na | (apply Pk.cons; (repeat first | exact .here | apply Rem.there | apply Rem.app)) | apply Pk.skip | apply Pk.skipA))) (Run_two G' (twoP (numV a) (numV b) 21 1) CA PA 2 1 _ hC hP (twoP_B _ _ _ _) _ hrun) rfl (by intro e G' H' h; repeat (first | exact ⟨_, h.1⟩ | (obtain ⟨_, h⟩ := h))) fun v' G' H' h hg => ?_)
  obtain ⟨A1, cap1, x1, he, hg2, hx1, rfl⟩ := h
  cases he
  refine WL.op (by kernel_rfl) (OW.alloc rfl fun b3 => ?_)
  refine WL.op (by kernel_rfl) (OW.store rfl rfl (by (repeat first | exact .here | apply At.there)) rfl (by rfl) (by rfl) (by kernel_rfl) (by rfl) ?_ rfl)
  refine WL.nil ?_
  repeat (first | with_reducible refine WK.thN ?_ | with_reducible refine WK.thR ?_ | with_reducible refine WK.thE ?_ | with_reducible refine WK.thP ?_ | with_reducible refine WK.blN ?_ | with_reducible refine WK.blR ?_ | with_reducible refine WK.blP ?_ | with_reducible refine WK.blE ?_ | with_reducible refine WK.blO rfl ?_ | with_reducible refine WK.thJ ?_)
  refine WC.seq ?_
  refine WC.seq ?_
  refine WC.region ?_
  refine WL.p (Gp.move rfl) (by kernel_rfl) rfl ?_
  (first | refine WL.p (Gp.eqI rfl rfl) (by kernel_rfl) rfl ?_ | refine WL.p (Gp.eqS rfl rfl) (by kernel_rfl) rfl ?_ | refine WL.p (Gp.nilSl rfl) (by kernel_rfl) rfl ?_ | refine WL.p (Gp.eqB rfl rfl) (by kernel_rfl) rfl ?_)
  refine WL.p (Gp.move rfl) (by kernel_rfl) rfl ?_
  refine WL.p (Gp.move rfl) (by kernel_rfl) rfl ?_
  (first | refine WL.p (Gp.eqI rfl rfl) (by kernel_rfl) rfl ?_ | refine WL.p (Gp.eqS rfl rfl) (by kernel_rfl) rfl ?_ | refine WL.p (Gp.nilSl rfl) (by kernel_rfl) rfl ?_ | refine WL.p (Gp.eqB rfl rfl) (by kernel_rfl) rfl ?_)
  (first | refine WL.p (Gp.pickT rfl rfl) (by kernel_rfl) rfl ?_ | refine WL.p (Gp.pickF rfl rfl) (by kernel_rfl) rfl ?_)
  refine WL.p (Gp.move rfl) (by kernel_rfl) rfl ?_
  refine WL.skip (by kernel_rfl) rfl ?_
  refine WL.skip (by kernel_rfl) rfl ?_
  (first | refine WL.p (Gp.pickT rfl rfl) (by kernel_rfl) rfl ?_ | refine WL.p (Gp.pickF rfl rfl) (by kernel_rfl) rfl ?_)
  refine WL.nil ?_
  repeat (first | with_reducible refine WK.thN ?_ | with_reducible refine WK.thR ?_ | with_reducible refine WK.thE ?_ | with_reducible refine WK.thP ?_ | with_reducible refine WK.blN ?_ | with_reducible refine WK.blR ?_ | with_reducible refine WK.blP ?_ | with_reducible refine WK.blE ?_ | with_reducible refine WK.blO rfl ?_ | with_reducible refine WK.thJ ?_)
  refine WC.cond_false rfl ?_
  refine WC.skip ?_
  repeat (first | with_reducible refine WK.thN ?_ | with_reducible refine WK.thR ?_ | with_reducible refine WK.thE ?_ | with_reducible refine WK.thP ?_ | with_reducible refine WK.blN ?_ | with_reducible refine WK.blR ?_ | with_reducible refine WK.blP ?_ | with_reducible refine WK.blE ?_ | with_reducible refine WK.blO rfl ?_ | with_reducible refine WK.thJ ?_)
  refine WC.seq ?_
  refine WC.region ?_
  refine WL.p (Gp.move rfl) (by kernel_rfl) rfl ?_
  refine WL.p (Gp.build rfl rfl) (by kernel_rfl) rfl ?_
  refine WL.op (by kernel_rfl) (OW.alloc rfl fun b5 => ?_)
  refine WL.op (by kernel_rfl) (OW.store rfl rfl (by (repeat first | exact .here | apply At.there)) rfl (by rfl) (by rfl) (by kernel_rfl) (by rfl) ?_ rfl)
  refine WL.nil ?_
  repeat (first | with_reducible refine WK.thN ?_ | with_reducible refine WK.thR ?_ | with_reducible refine WK.thE ?_ | with_reducible refine WK.thP ?_ | with_reducible refine WK.blN ?_ | with_reducible refine WK.blR ?_ | with_reducible refine WK.blP ?_ | with_reducible refine WK.blE ?_ | with_reducible refine WK.blO rfl ?_ | with_reducible refine WK.thJ ?_)
  refine WC.seq ?_
  refine WC.seq ?_
  refine WC.region ?_
  refine WL.p (Gp.move rfl) (by kernel_rfl) rfl ?_
  refine WL.nil ?_
  repeat (first | with_reducible refine WK.thN ?_ | with_reducible refine WK.thR ?_ | with_reducible refine WK.thE ?_ | with_reducible refine WK.thP ?_ | with_reducible refine WK.blN ?_ | with_reducible refine WK.blR ?_ | with_reducible refine WK.blP ?_ | with_reducible refine WK.blE ?_ | with_reducible refine WK.blO rfl ?_ | with_reducible refine WK.thJ ?_)
  repeat (first | refine WC.seq ?_ | refine WC.block ?_ | (refine WC.region ?_; refine WL.p (Gp.eqI rfl rfl) (by kernel_rfl) rfl ?_; refine WL.p (Gp.assign rfl) (by kernel_rfl) rfl ?_; refine WL.nil ?_; repeat (first | with_reducible refine WK.thN ?_ | with_reducible refine WK.thR ?_ | with_reducible refine WK.thE ?_ | with_reducible refine WK.thP ?_ | with_reducible refine WK.blN ?_ | with_reducible refine WK.blR ?_ | with_reducible refine WK.blP ?_ | with_reducible refine WK.blE ?_ | with_reducible refine WK.blO rfl ?_ | with_reducible refine WK.thJ ?_)) | refine WC.cond_true rfl ?_ | refine WC.cond_false rfl ?_ | (refine WC.skip ?_; repeat (first | with_reducible refine WK.thN ?_ | with_reducible refine WK.thR ?_ | with_reducible refine WK.thE ?_ | with_reducible refine WK.thP ?_ | with_reducible refine WK.blN ?_ | with_reducible refine WK.blR ?_ | with_reducible refine WK.blP ?_ | with_reducible refine WK.blE ?_ | with_reducible refine WK.blO rfl ?_ | with_reducible refine WK.thJ ?_)) | (refine WC.exit ?_; repeat (first | with_reducible refine WK.thN ?_ | with_reducible refine WK.thR ?_ | with_reducible refine WK.thE ?_ | with_reducible refine WK.thP ?_ | with_reducible refine WK.blN ?_ | with_reducible refine WK.blR ?_ | with_reducible refine WK.blP ?_ | with_reducible refine WK.blE ?_ | with_reducible refine WK.blO rfl ?_ | with_reducible refine WK.thJ ?_)))
  refine WC.region ?_
  refine WL.p (Gp.move rfl) (by kernel_rfl) rfl ?_
  refine WL.p (Gp.move rfl) (by kernel_rfl) rfl ?_
  refine WL.p (Gp.mul rfl rfl) (by kernel_rfl) rfl ?_
  refine WL.p (Gp.fieldAddr rfl) (by kernel_rfl) rfl ?_
  refine WL.op (by kernel_rfl) (OW.store rfl rfl (by (repeat first | exact .here | apply At.there)) rfl (by rfl) (by rfl) (by kernel_rfl) (by rfl) ?_ rfl)
  refine WL.nil ?_
  repeat (first | with_reducible refine WK.thN ?_ | with_reducible refine WK.thR ?_ | with_reducible refine WK.thE ?_ | with_reducible refine WK.thP ?_ | with_reducible refine WK.blN ?_ | with_reducible refine WK.blR ?_ | with_reducible refine WK.blP ?_ | with_reducible refine WK.blE ?_ | with_reducible refine WK.blO rfl ?_ | with_reducible refine WK.thJ ?_)
  refine WC.seq ?_
  refine WC.region ?_
  refine WL.p (Gp.fieldAddr rfl) (by kernel_rfl) rfl ?_
  refine WL.v (Gv.load1 rfl (by (repeat first | exact .here | apply At.there)) rfl) (by kernel_rfl) rfl ?_
  (first | refine WL.p (Gp.eqI rfl rfl) (by kernel_rfl) rfl ?_ | refine WL.p (Gp.eqS rfl rfl) (by kernel_rfl) rfl ?_ | refine WL.p (Gp.nilSl rfl) (by kernel_rfl) rfl ?_ | refine WL.p (Gp.eqB rfl rfl) (by kernel_rfl) rfl ?_)
  refine WL.p (Gp.move rfl) (by kernel_rfl) rfl ?_
  refine WL.p (Gp.fieldAddr rfl) (by kernel_rfl) rfl ?_
  refine WL.v (Gv.loadN rfl (by (repeat first | exact .here | apply At.there)) rfl rfl) (by kernel_rfl) rfl ?_
  refine WL.v (Gv.loadN rfl (by (repeat first | exact .here | apply At.there)) rfl rfl) (by kernel_rfl) rfl ?_
  refine WL.p (Gp.eqVr (r := true) (u := numV (IntKind.i64.wrap (a * b))) (v := numV (IntKind.i64.wrap (a * b))) rfl rfl (by simp)) (by kernel_rfl) rfl ?_
  (first | refine WL.p (Gp.pickT rfl rfl) (by kernel_rfl) rfl ?_ | refine WL.p (Gp.pickF rfl rfl) (by kernel_rfl) rfl ?_)
  refine WL.p (Gp.move rfl) (by kernel_rfl) rfl ?_
  refine WL.op (by kernel_rfl) (OW.callR rfl (Pk.perm (by repeat (first | exact Pk.nil | exact Pk.all | exact Pk.app | exact Pk.appR | with_reducible apply Pk.na | (apply Pk.cons; (repeat first | exact .here | apply Rem.there | apply Rem.app)) | apply Pk.skip | apply Pk.skipA))) (awake_fn _) rfl (by intro e G' H' h; repeat (first | exact ⟨_, h.1⟩ | (obtain ⟨_, h⟩ := h))) fun v' G' H' h hg => ?_)
  obtain ⟨he, hg3, rfl⟩ := h
  cases he
  (first | refine WL.p (Gp.pickT rfl rfl) (by kernel_rfl) rfl ?_ | refine WL.p (Gp.pickF rfl rfl) (by kernel_rfl) rfl ?_)
  refine WL.p (Gp.assign rfl) (by kernel_rfl) rfl ?_
  refine WL.nil ?_
  repeat (first | with_reducible refine WK.thN ?_ | with_reducible refine WK.thR ?_ | with_reducible refine WK.thE ?_ | with_reducible refine WK.thP ?_ | with_reducible refine WK.blN ?_ | with_reducible refine WK.blR ?_ | with_reducible refine WK.blP ?_ | with_reducible refine WK.blE ?_ | with_reducible refine WK.blO rfl ?_ | with_reducible refine WK.thJ ?_)
  refine WC.ret ?_
  repeat (first | with_reducible refine WK.thN ?_ | with_reducible refine WK.thR ?_ | with_reducible refine WK.thE ?_ | with_reducible refine WK.thP ?_ | with_reducible refine WK.blN ?_ | with_reducible refine WK.blR ?_ | with_reducible refine WK.blP ?_ | with_reducible refine WK.blE ?_ | with_reducible refine WK.blO rfl ?_ | with_reducible refine WK.thJ ?_)
  exact QF.p1 (.inl rfl) rfl (.tmp rfl) (⟨rfl, Gh.le_trans hg1 (Gh.le_trans hg2 hg3), rfl⟩) (by repeat (first | exact Pk.nil | exact Pk.all | exact Pk.app | exact Pk.appR | with_reducible apply Pk.na | (apply Pk.cons; (repeat first | exact .here | apply Rem.there | apply Rem.app)) | apply Pk.skip | apply Pk.skipA))

theorem numbers_22 (G : Gh) (a b o : Int) (ho0 : 0 ≤ o) (ho1 : o ≤ 255) (hi : o.tmod 7 = 3) (hb : b ≠ 0) : Fn Try.prog 5 #[.int .i64 a, .int .i64 b, .int .u8 o] G [] fun e G' H' => e = .returned (.bool true) ∧ G.le G' ∧ H' = [] := by
  have hrun : runR (twoP (numV a) (numV b) 22 1) 0 9 [] = ⟨1, numV (IntKind.i64.wrap (a.tdiv b)), [], 4⟩ := run_two (vOK_num a) (vOK_num b) (by decide) (by simp [plainR, on2, ty2, pop2, recR, reckonS, numV, hb]) (by decide) rfl
  refine Fn.enter Try.func5 rfl rfl fun w0 => ?_
  refine WC.seq ?_
  refine WC.region ?_
  refine WL.p (Gp.assign rfl) (by kernel_rfl) rfl ?_
  refine WL.nil ?_
  repeat (first | with_reducible refine WK.thN ?_ | with_reducible refine WK.thR ?_ | with_reducible refine WK.thE ?_ | with_reducible refine WK.thP ?_ | with_reducible refine WK.blN ?_ | with_reducible refine WK.blR ?_ | with_reducible refine WK.blP ?_ | with_reducible refine WK.blE ?_ | with_reducible refine WK.blO rfl ?_ | with_reducible refine WK.thJ ?_)
  refine WC.seq ?_
  refine WC.region ?_
  refine WL.op (by kernel_rfl) (OW.buildSlice rfl (by kernel_rfl) (by kernel_rfl) (by rfl) rfl fun b1 => ?_)
  refine WL.p (Gp.assign rfl) (by kernel_rfl) rfl ?_
  refine WL.nil ?_
  repeat (first | with_reducible refine WK.thN ?_ | with_reducible refine WK.thR ?_ | with_reducible refine WK.thE ?_ | with_reducible refine WK.thP ?_ | with_reducible refine WK.blN ?_ | with_reducible refine WK.blR ?_ | with_reducible refine WK.blP ?_ | with_reducible refine WK.blE ?_ | with_reducible refine WK.blO rfl ?_ | with_reducible refine WK.thJ ?_)
  refine WC.seq ?_
  refine WC.region ?_
  refine WL.p (Gp.move rfl) (by kernel_rfl) rfl ?_
  refine WL.p (Gp.move rfl) (by kernel_rfl) rfl ?_
  refine WL.p (Gp.convI' rfl (wrap_small (x := o) (by omega) (by omega))) (by kernel_rfl) rfl ?_
  refine WL.p (Gp.move rfl) (by kernel_rfl) rfl ?_
  (first | refine WL.p (Gp.lenSl rfl) (by kernel_rfl) rfl ?_ | refine WL.p (Gp.lenS rfl) (by kernel_rfl) rfl ?_)
  refine WL.p (Gp.rem' rfl rfl (by decide) hi) (by kernel_rfl) rfl ?_
  refine WL.p (Gp.indexAddr rfl rfl (by first | assumption | omega | decide) (by first | assumption | omega | decide | (simp only [List.length_cons, List.length_nil]; decide))) (by kernel_rfl) rfl ?_
  refine WL.v (Gv.load1 rfl .here rfl) (by kernel_rfl) rfl ?_
  refine WL.p (Gp.assign rfl) (by kernel_rfl) rfl ?_
  refine WL.nil ?_
  repeat (first | with_reducible refine WK.thN ?_ | with_reducible refine WK.thR ?_ | with_reducible refine WK.thE ?_ | with_reducible refine WK.thP ?_ | with_reducible refine WK.blN ?_ | with_reducible refine WK.blR ?_ | with_reducible refine WK.blP ?_ | with_reducible refine WK.blE ?_ | with_reducible refine WK.blO rfl ?_ | with_reducible refine WK.thJ ?_)
  refine WC.seq ?_
  refine WC.region ?_
  refine WL.p (Gp.assign rfl) (by kernel_rfl) rfl ?_
  refine WL.nil ?_
  repeat (first | with_reducible refine WK.thN ?_ | with_reducible refine WK.thR ?_ | with_reducible refine WK.thE ?_ | with_reducible refine WK.thP ?_ | with_reducible refine WK.blN ?_ | with_reducible refine WK.blR ?_ | with_reducible refine WK.blP ?_ | with_reducible refine WK.blE ?_ | with_reducible refine WK.blO rfl ?_ | with_reducible refine WK.thJ ?_)
  refine WC.seq ?_
  refine WC.seq ?_
  refine WC.region ?_
  refine WL.p (Gp.move rfl) (by kernel_rfl) rfl ?_
  (first | refine WL.p (Gp.eqI rfl rfl) (by kernel_rfl) rfl ?_ | refine WL.p (Gp.eqS rfl rfl) (by kernel_rfl) rfl ?_ | refine WL.p (Gp.nilSl rfl) (by kernel_rfl) rfl ?_ | refine WL.p (Gp.eqB rfl rfl) (by kernel_rfl) rfl ?_)
  refine WL.p (Gp.move rfl) (by kernel_rfl) rfl ?_
  refine WL.p (Gp.move rfl) (by kernel_rfl) rfl ?_
  (first | refine WL.p (Gp.eqI rfl rfl) (by kernel_rfl) rfl ?_ | refine WL.p (Gp.eqS rfl rfl) (by kernel_rfl) rfl ?_ | refine WL.p (Gp.nilSl rfl) (by kernel_rfl) rfl ?_ | refine WL.p (Gp.eqB rfl rfl) (by kernel_rfl) rfl ?_)
  (first | refine WL.p (Gp.pickT rfl rfl) (by kernel_rfl) rfl ?_ | refine WL.p (Gp.pickF rfl rfl) (by kernel_rfl) rfl ?_)
  refine WL.nil ?_
  repeat (first | with_reducible refine WK.thN ?_ | with_reducible refine WK.thR ?_ | with_reducible refine WK.thE ?_ | with_reducible refine WK.thP ?_ | with_reducible refine WK.blN ?_ | with_reducible refine WK.blR ?_ | with_reducible refine WK.blP ?_ | with_reducible refine WK.blE ?_ | with_reducible refine WK.blO rfl ?_ | with_reducible refine WK.thJ ?_)
  refine WC.cond_false rfl ?_
  refine WC.skip ?_
  repeat (first | with_reducible refine WK.thN ?_ | with_reducible refine WK.thR ?_ | with_reducible refine WK.thE ?_ | with_reducible refine WK.thP ?_ | with_reducible refine WK.blN ?_ | with_reducible refine WK.blR ?_ | with_reducible refine WK.blP ?_ | with_reducible refine WK.blE ?_ | with_reducible refine WK.blO rfl ?_ | with_reducible refine WK.thJ ?_)
  refine WC.seq ?_
  refine WC.region ?_
  refine WL.p (Gp.move rfl) (by kernel_rfl) rfl ?_
  refine WL.op (by kernel_rfl) (OW.callR rfl (Hf := []) (List.Perm.refl _) (lnumber_fn G a) rfl (by rintro e G' H' ⟨h, _⟩; exact ⟨_, h⟩) fun v' G' H' h hg => ?_)
  obtain ⟨he, rfl, rfl⟩ := h
  cases he
  refine WL.p (Gp.move rfl) (by kernel_rfl) rfl ?_
  refine WL.op (by kernel_rfl) (OW.callR rfl (Hf := []) (List.Perm.refl _) (lnumber_fn G b) rfl (by rintro e G' H' ⟨h, _⟩; exact ⟨_, h⟩) fun v' G' H' h hg => ?_)
  obtain ⟨he, rfl, rfl⟩ := h
  cases he
  refine WL.p (Gp.move rfl) (by kernel_rfl) rfl ?_
  refine WL.p (Gp.move rfl) (by kernel_rfl) rfl ?_
  refine WL.op (by kernel_rfl) (OW.callR rfl (Pk.perm (by repeat (first | exact Pk.nil | exact Pk.all | exact Pk.app | exact Pk.appR | with_reducible apply Pk.na | (apply Pk.cons; (repeat first | exact .here | apply Rem.there | apply Rem.app)) | apply Pk.skip | apply Pk.skipA))) (two_fn G (numV a) (numV b) 22 1) rfl (by intro e G' H' h; repeat (first | exact ⟨_, h.1⟩ | (obtain ⟨_, h⟩ := h))) fun v' G' H' h hg => ?_)
  obtain ⟨CA, PA, he, hg1, hC, hP, rfl⟩ := h
  cases he
  refine WL.op (by kernel_rfl) (OW.callR rfl (Pk.perm (by repeat (first | exact Pk.nil | exact Pk.all | exact Pk.app | exact Pk.appR | with_reducible apply Pk.na | (apply Pk.cons; (repeat first | exact .here | apply Rem.there | apply Rem.app)) | apply Pk.skip | apply Pk.skipA))) (Run_two G' (twoP (numV a) (numV b) 22 1) CA PA 2 1 _ hC hP (twoP_B _ _ _ _) _ hrun) rfl (by intro e G' H' h; repeat (first | exact ⟨_, h.1⟩ | (obtain ⟨_, h⟩ := h))) fun v' G' H' h hg => ?_)
  obtain ⟨A1, cap1, x1, he, hg2, hx1, rfl⟩ := h
  cases he
  refine WL.op (by kernel_rfl) (OW.alloc rfl fun b3 => ?_)
  refine WL.op (by kernel_rfl) (OW.store rfl rfl (by (repeat first | exact .here | apply At.there)) rfl (by rfl) (by rfl) (by kernel_rfl) (by rfl) ?_ rfl)
  refine WL.nil ?_
  repeat (first | with_reducible refine WK.thN ?_ | with_reducible refine WK.thR ?_ | with_reducible refine WK.thE ?_ | with_reducible refine WK.thP ?_ | with_reducible refine WK.blN ?_ | with_reducible refine WK.blR ?_ | with_reducible refine WK.blP ?_ | with_reducible refine WK.blE ?_ | with_reducible refine WK.blO rfl ?_ | with_reducible refine WK.thJ ?_)
  refine WC.seq ?_
  refine WC.seq ?_
  refine WC.region ?_
  refine WL.p (Gp.move rfl) (by kernel_rfl) rfl ?_
  (first | refine WL.p (Gp.eqI rfl rfl) (by kernel_rfl) rfl ?_ | refine WL.p (Gp.eqS rfl rfl) (by kernel_rfl) rfl ?_ | refine WL.p (Gp.nilSl rfl) (by kernel_rfl) rfl ?_ | refine WL.p (Gp.eqB rfl rfl) (by kernel_rfl) rfl ?_)
  refine WL.p (Gp.move rfl) (by kernel_rfl) rfl ?_
  refine WL.skip (by kernel_rfl) rfl ?_
  refine WL.skip (by kernel_rfl) rfl ?_
  (first | refine WL.p (Gp.pickT rfl rfl) (by kernel_rfl) rfl ?_ | refine WL.p (Gp.pickF rfl rfl) (by kernel_rfl) rfl ?_)
  refine WL.p (Gp.move rfl) (by kernel_rfl) rfl ?_
  refine WL.p (Gp.move rfl) (by kernel_rfl) rfl ?_
  refine WL.p (Gp.eqI' rfl rfl (show (b == 0) = false by simpa using hb)) (by kernel_rfl) rfl ?_
  (first | refine WL.p (Gp.pickT rfl rfl) (by kernel_rfl) rfl ?_ | refine WL.p (Gp.pickF rfl rfl) (by kernel_rfl) rfl ?_)
  refine WL.nil ?_
  repeat (first | with_reducible refine WK.thN ?_ | with_reducible refine WK.thR ?_ | with_reducible refine WK.thE ?_ | with_reducible refine WK.thP ?_ | with_reducible refine WK.blN ?_ | with_reducible refine WK.blR ?_ | with_reducible refine WK.blP ?_ | with_reducible refine WK.blE ?_ | with_reducible refine WK.blO rfl ?_ | with_reducible refine WK.thJ ?_)
  refine WC.cond_false rfl ?_
  refine WC.skip ?_
  repeat (first | with_reducible refine WK.thN ?_ | with_reducible refine WK.thR ?_ | with_reducible refine WK.thE ?_ | with_reducible refine WK.thP ?_ | with_reducible refine WK.blN ?_ | with_reducible refine WK.blR ?_ | with_reducible refine WK.blP ?_ | with_reducible refine WK.blE ?_ | with_reducible refine WK.blO rfl ?_ | with_reducible refine WK.thJ ?_)
  refine WC.seq ?_
  refine WC.region ?_
  refine WL.p (Gp.move rfl) (by kernel_rfl) rfl ?_
  refine WL.p (Gp.build rfl rfl) (by kernel_rfl) rfl ?_
  refine WL.op (by kernel_rfl) (OW.alloc rfl fun b5 => ?_)
  refine WL.op (by kernel_rfl) (OW.store rfl rfl (by (repeat first | exact .here | apply At.there)) rfl (by rfl) (by rfl) (by kernel_rfl) (by rfl) ?_ rfl)
  refine WL.nil ?_
  repeat (first | with_reducible refine WK.thN ?_ | with_reducible refine WK.thR ?_ | with_reducible refine WK.thE ?_ | with_reducible refine WK.thP ?_ | with_reducible refine WK.blN ?_ | with_reducible refine WK.blR ?_ | with_reducible refine WK.blP ?_ | with_reducible refine WK.blE ?_ | with_reducible refine WK.blO rfl ?_ | with_reducible refine WK.thJ ?_)
  refine WC.seq ?_
  refine WC.seq ?_
  refine WC.region ?_
  refine WL.p (Gp.move rfl) (by kernel_rfl) rfl ?_
  refine WL.nil ?_
  repeat (first | with_reducible refine WK.thN ?_ | with_reducible refine WK.thR ?_ | with_reducible refine WK.thE ?_ | with_reducible refine WK.thP ?_ | with_reducible refine WK.blN ?_ | with_reducible refine WK.blR ?_ | with_reducible refine WK.blP ?_ | with_reducible refine WK.blE ?_ | with_reducible refine WK.blO rfl ?_ | with_reducible refine WK.thJ ?_)
  repeat (first | refine WC.seq ?_ | refine WC.block ?_ | (refine WC.region ?_; refine WL.p (Gp.eqI rfl rfl) (by kernel_rfl) rfl ?_; refine WL.p (Gp.assign rfl) (by kernel_rfl) rfl ?_; refine WL.nil ?_; repeat (first | with_reducible refine WK.thN ?_ | with_reducible refine WK.thR ?_ | with_reducible refine WK.thE ?_ | with_reducible refine WK.thP ?_ | with_reducible refine WK.blN ?_ | with_reducible refine WK.blR ?_ | with_reducible refine WK.blP ?_ | with_reducible refine WK.blE ?_ | with_reducible refine WK.blO rfl ?_ | with_reducible refine WK.thJ ?_)) | refine WC.cond_true rfl ?_ | refine WC.cond_false rfl ?_ | (refine WC.skip ?_; repeat (first | with_reducible refine WK.thN ?_ | with_reducible refine WK.thR ?_ | with_reducible refine WK.thE ?_ | with_reducible refine WK.thP ?_ | with_reducible refine WK.blN ?_ | with_reducible refine WK.blR ?_ | with_reducible refine WK.blP ?_ | with_reducible refine WK.blE ?_ | with_reducible refine WK.blO rfl ?_ | with_reducible refine WK.thJ ?_)) | (refine WC.exit ?_; repeat (first | with_reducible refine WK.thN ?_ | with_reducible refine WK.thR ?_ | with_reducible refine WK.thE ?_ | with_reducible refine WK.thP ?_ | with_reducible refine WK.blN ?_ | with_reducible refine WK.blR ?_ | with_reducible refine WK.blP ?_ | with_reducible refine WK.blE ?_ | with_reducible refine WK.blO rfl ?_ | with_reducible refine WK.thJ ?_)))
  refine WC.region ?_
  refine WL.p (Gp.move rfl) (by kernel_rfl) rfl ?_
  refine WL.p (Gp.move rfl) (by kernel_rfl) rfl ?_
  refine WL.p (Gp.quo rfl rfl hb) (by kernel_rfl) rfl ?_
  refine WL.p (Gp.fieldAddr rfl) (by kernel_rfl) rfl ?_
  refine WL.op (by kernel_rfl) (OW.store rfl rfl (by (repeat first | exact .here | apply At.there)) rfl (by rfl) (by rfl) (by kernel_rfl) (by rfl) ?_ rfl)
  refine WL.nil ?_
  repeat (first | with_reducible refine WK.thN ?_ | with_reducible refine WK.thR ?_ | with_reducible refine WK.thE ?_ | with_reducible refine WK.thP ?_ | with_reducible refine WK.blN ?_ | with_reducible refine WK.blR ?_ | with_reducible refine WK.blP ?_ | with_reducible refine WK.blE ?_ | with_reducible refine WK.blO rfl ?_ | with_reducible refine WK.thJ ?_)
  refine WC.seq ?_
  refine WC.region ?_
  refine WL.p (Gp.fieldAddr rfl) (by kernel_rfl) rfl ?_
  refine WL.v (Gv.load1 rfl (by (repeat first | exact .here | apply At.there)) rfl) (by kernel_rfl) rfl ?_
  (first | refine WL.p (Gp.eqI rfl rfl) (by kernel_rfl) rfl ?_ | refine WL.p (Gp.eqS rfl rfl) (by kernel_rfl) rfl ?_ | refine WL.p (Gp.nilSl rfl) (by kernel_rfl) rfl ?_ | refine WL.p (Gp.eqB rfl rfl) (by kernel_rfl) rfl ?_)
  refine WL.p (Gp.move rfl) (by kernel_rfl) rfl ?_
  refine WL.p (Gp.fieldAddr rfl) (by kernel_rfl) rfl ?_
  refine WL.v (Gv.loadN rfl (by (repeat first | exact .here | apply At.there)) rfl rfl) (by kernel_rfl) rfl ?_
  refine WL.v (Gv.loadN rfl (by (repeat first | exact .here | apply At.there)) rfl rfl) (by kernel_rfl) rfl ?_
  refine WL.p (Gp.eqVr (r := true) (u := numV (IntKind.i64.wrap (a.tdiv b))) (v := numV (IntKind.i64.wrap (a.tdiv b))) rfl rfl (by simp)) (by kernel_rfl) rfl ?_
  (first | refine WL.p (Gp.pickT rfl rfl) (by kernel_rfl) rfl ?_ | refine WL.p (Gp.pickF rfl rfl) (by kernel_rfl) rfl ?_)
  refine WL.p (Gp.move rfl) (by kernel_rfl) rfl ?_
  refine WL.op (by kernel_rfl) (OW.callR rfl (Pk.perm (by repeat (first | exact Pk.nil | exact Pk.all | exact Pk.app | exact Pk.appR | with_reducible apply Pk.na | (apply Pk.cons; (repeat first | exact .here | apply Rem.there | apply Rem.app)) | apply Pk.skip | apply Pk.skipA))) (awake_fn _) rfl (by intro e G' H' h; repeat (first | exact ⟨_, h.1⟩ | (obtain ⟨_, h⟩ := h))) fun v' G' H' h hg => ?_)
  obtain ⟨he, hg3, rfl⟩ := h
  cases he
  (first | refine WL.p (Gp.pickT rfl rfl) (by kernel_rfl) rfl ?_ | refine WL.p (Gp.pickF rfl rfl) (by kernel_rfl) rfl ?_)
  refine WL.p (Gp.assign rfl) (by kernel_rfl) rfl ?_
  refine WL.nil ?_
  repeat (first | with_reducible refine WK.thN ?_ | with_reducible refine WK.thR ?_ | with_reducible refine WK.thE ?_ | with_reducible refine WK.thP ?_ | with_reducible refine WK.blN ?_ | with_reducible refine WK.blR ?_ | with_reducible refine WK.blP ?_ | with_reducible refine WK.blE ?_ | with_reducible refine WK.blO rfl ?_ | with_reducible refine WK.thJ ?_)
  refine WC.ret ?_
  repeat (first | with_reducible refine WK.thN ?_ | with_reducible refine WK.thR ?_ | with_reducible refine WK.thE ?_ | with_reducible refine WK.thP ?_ | with_reducible refine WK.blN ?_ | with_reducible refine WK.blR ?_ | with_reducible refine WK.blP ?_ | with_reducible refine WK.blE ?_ | with_reducible refine WK.blO rfl ?_ | with_reducible refine WK.thJ ?_)
  exact QF.p1 (.inl rfl) rfl (.tmp rfl) (⟨rfl, Gh.le_trans hg1 (Gh.le_trans hg2 hg3), rfl⟩) (by repeat (first | exact Pk.nil | exact Pk.all | exact Pk.app | exact Pk.appR | with_reducible apply Pk.na | (apply Pk.cons; (repeat first | exact .here | apply Rem.there | apply Rem.app)) | apply Pk.skip | apply Pk.skipA))

theorem numbers_22z (G : Gh) (a b o : Int) (ho0 : 0 ≤ o) (ho1 : o ≤ 255) (hi : o.tmod 7 = 3) (hb : b = 0) : Fn Try.prog 5 #[.int .i64 a, .int .i64 b, .int .u8 o] G [] fun e G' H' => e = .returned (.bool true) ∧ G.le G' ∧ H' = [] := by
  have hrun : runR (twoP (numV a) (numV b) 22 1) 0 9 [] = ⟨2, V0, [], 3⟩ := run_twoH (vOK_num a) (vOK_num b) (by decide) (by simp [plainR, on2, ty2, pop2, recR, reckonS, numV, hb])
  refine Fn.enter Try.func5 rfl rfl fun w0 => ?_
  refine WC.seq ?_
  refine WC.region ?_
  refine WL.p (Gp.assign rfl) (by kernel_rfl) rfl ?_
  refine WL.nil ?_
  repeat (first | with_reducible refine WK.thN ?_ | with_reducible refine WK.thR ?_ | with_reducible refine WK.thE ?_ | with_reducible refine WK.thP ?_ | with_reducible refine WK.blN ?_ | with_reducible refine WK.blR ?_ | with_reducible refine WK.blP ?_ | with_reducible refine WK.blE ?_ | with_reducible refine WK.blO rfl ?_ | with_reducible refine WK.thJ ?_)
  refine WC.seq ?_
  refine WC.region ?_
  refine WL.op (by kernel_rfl) (OW.buildSlice rfl (by kernel_rfl) (by kernel_rfl) (by rfl) rfl fun b1 => ?_)
  refine WL.p (Gp.assign rfl) (by kernel_rfl) rfl ?_
  refine WL.nil ?_
  repeat (first | with_reducible refine WK.thN ?_ | with_reducible refine WK.thR ?_ | with_reducible refine WK.thE ?_ | with_reducible refine WK.thP ?_ | with_reducible refine WK.blN ?_ | with_reducible refine WK.blR ?_ | with_reducible refine WK.blP ?_ | with_reducible refine WK.blE ?_ | with_reducible refine WK.blO rfl ?_ | with_reducible refine WK.thJ ?_)
  refine WC.seq ?_
  refine WC.region ?_
  refine WL.p (Gp.move rfl) (by kernel_rfl) rfl ?_
  refine WL.p (Gp.move rfl) (by kernel_rfl) rfl ?_
  refine WL.p (Gp.convI' rfl (wrap_small (x := o) (by omega) (by omega))) (by kernel_rfl) rfl ?_
  refine WL.p (Gp.move rfl) (by kernel_rfl) rfl ?_
  (first | refine WL.p (Gp.lenSl rfl) (by kernel_rfl) rfl ?_ | refine WL.p (Gp.lenS rfl) (by kernel_rfl) rfl ?_)
  refine WL.p (Gp.rem' rfl rfl (by decide) hi) (by kernel_rfl) rfl ?_
  refine WL.p (Gp.indexAddr rfl rfl (by first | assumption | omega | decide) (by first | assumption | omega | decide | (simp only [List.length_cons, List.length_nil]; decide))) (by kernel_rfl) rfl ?_
  refine WL.v (Gv.load1 rfl .here rfl) (by kernel_rfl) rfl ?_
  refine WL.p (Gp.assign rfl) (by kernel_rfl) rfl ?_
  refine WL.nil ?_
  repeat (first | with_reducible refine WK.thN ?_ | with_reducible refine WK.thR ?_ | with_reducible refine WK.thE ?_ | with_reducible refine WK.thP ?_ | with_reducible refine WK.blN ?_ | with_reducible refine WK.blR ?_ | with_reducible refine WK.blP ?_ | with_reducible refine WK.blE ?_ | with_reducible refine WK.blO rfl ?_ | with_reducible refine WK.thJ ?_)
  refine WC.seq ?_
  refine WC.region ?_
  refine WL.p (Gp.assign rfl) (by kernel_rfl) rfl ?_
  refine WL.nil ?_
  repeat (first | with_reducible refine WK.thN ?_ | with_reducible refine WK.thR ?_ | with_reducible refine WK.thE ?_ | with_reducible refine WK.thP ?_ | with_reducible refine WK.blN ?_ | with_reducible refine WK.blR ?_ | with_reducible refine WK.blP ?_ | with_reducible refine WK.blE ?_ | with_reducible refine WK.blO rfl ?_ | with_reducible refine WK.thJ ?_)
  refine WC.seq ?_
  refine WC.seq ?_
  refine WC.region ?_
  refine WL.p (Gp.move rfl) (by kernel_rfl) rfl ?_
  (first | refine WL.p (Gp.eqI rfl rfl) (by kernel_rfl) rfl ?_ | refine WL.p (Gp.eqS rfl rfl) (by kernel_rfl) rfl ?_ | refine WL.p (Gp.nilSl rfl) (by kernel_rfl) rfl ?_ | refine WL.p (Gp.eqB rfl rfl) (by kernel_rfl) rfl ?_)
  refine WL.p (Gp.move rfl) (by kernel_rfl) rfl ?_
  refine WL.p (Gp.move rfl) (by kernel_rfl) rfl ?_
  (first | refine WL.p (Gp.eqI rfl rfl) (by kernel_rfl) rfl ?_ | refine WL.p (Gp.eqS rfl rfl) (by kernel_rfl) rfl ?_ | refine WL.p (Gp.nilSl rfl) (by kernel_rfl) rfl ?_ | refine WL.p (Gp.eqB rfl rfl) (by kernel_rfl) rfl ?_)
  (first | refine WL.p (Gp.pickT rfl rfl) (by kernel_rfl) rfl ?_ | refine WL.p (Gp.pickF rfl rfl) (by kernel_rfl) rfl ?_)
  refine WL.nil ?_
  repeat (first | with_reducible refine WK.thN ?_ | with_reducible refine WK.thR ?_ | with_reducible refine WK.thE ?_ | with_reducible refine WK.thP ?_ | with_reducible refine WK.blN ?_ | with_reducible refine WK.blR ?_ | with_reducible refine WK.blP ?_ | with_reducible refine WK.blE ?_ | with_reducible refine WK.blO rfl ?_ | with_reducible refine WK.thJ ?_)
  refine WC.cond_false rfl ?_
  refine WC.skip ?_
  repeat (first | with_reducible refine WK.thN ?_ | with_reducible refine WK.thR ?_ | with_reducible refine WK.thE ?_ | with_reducible refine WK.thP ?_ | with_reducible refine WK.blN ?_ | with_reducible refine WK.blR ?_ | with_reducible refine WK.blP ?_ | with_reducible refine WK.blE ?_ | with_reducible refine WK.blO rfl ?_ | with_reducible refine WK.thJ ?_)
  refine WC.seq ?_
  refine WC.region ?_
  refine WL.p (Gp.move rfl) (by kernel_rfl) rfl ?_
  refine WL.op (by kernel_rfl) (OW.callR rfl (Hf := []) (List.Perm.refl _) (lnumber_fn G a) rfl (by rintro e G' H' ⟨h, _⟩; exact ⟨_, h⟩) fun v' G' H' h hg => ?_)
  obtain ⟨he, rfl, rfl⟩ := h
  cases he
  refine WL.p (Gp.move rfl) (by kernel_rfl) rfl ?_
  refine WL.op (by kernel_rfl) (OW.callR rfl (Hf := []) (List.Perm.refl _) (lnumber_fn G b) rfl (by rintro e G' H' ⟨h, _⟩; exact ⟨_, h⟩) fun v' G' H' h hg => ?_)
  obtain ⟨he, rfl, rfl⟩ := h
  cases he
  refine WL.p (Gp.move rfl) (by kernel_rfl) rfl ?_
  refine WL.p (Gp.move rfl) (by kernel_rfl) rfl ?_
  refine WL.op (by kernel_rfl) (OW.callR rfl (Pk.perm (by repeat (first | exact Pk.nil | exact Pk.all | exact Pk.app | exact Pk.appR | with_reducible apply Pk.na | (apply Pk.cons; (repeat first | exact .here | apply Rem.there | apply Rem.app)) | apply Pk.skip | apply Pk.skipA))) (two_fn G (numV a) (numV b) 22 1) rfl (by intro e G' H' h; repeat (first | exact ⟨_, h.1⟩ | (obtain ⟨_, h⟩ := h))) fun v' G' H' h hg => ?_)
  obtain ⟨CA, PA, he, hg1, hC, hP, rfl⟩ := h
  cases he
  refine WL.op (by kernel_rfl) (OW.callR rfl (Pk.perm (by repeat (first | exact Pk.nil | exact Pk.all | exact Pk.app | exact Pk.appR | with_reducible apply Pk.na | (apply Pk.cons; (repeat first | exact .here | apply Rem.there | apply Rem.app)) | apply Pk.skip | apply Pk.skipA))) (Run_two G' (twoP (numV a) (numV b) 22 1) CA PA 2 1 _ hC hP (twoP_B _ _ _ _) _ hrun) rfl (by intro e G' H' h; repeat (first | exact ⟨_, h.1⟩ | (obtain ⟨_, h⟩ := h))) fun v' G' H' h hg => ?_)
  obtain ⟨A1, cap1, x1, he, hg2, hx1, rfl⟩ := h
  cases he
  refine WL.op (by kernel_rfl) (OW.alloc rfl fun b3 => ?_)
  refine WL.op (by kernel_rfl) (OW.store rfl rfl (by (repeat first | exact .here | apply At.there)) rfl (by rfl) (by rfl) (by kernel_rfl) (by rfl) ?_ rfl)
  refine WL.nil ?_
  repeat (first | with_reducible refine WK.thN ?_ | with_reducible refine WK.thR ?_ | with_reducible refine WK.thE ?_ | with_reducible refine WK.thP ?_ | with_reducible refine WK.blN ?_ | with_reducible refine WK.blR ?_ | with_reducible refine WK.blP ?_ | with_reducible refine WK.blE ?_ | with_reducible refine WK.blO rfl ?_ | with_reducible refine WK.thJ ?_)
  refine WC.seq ?_
  refine WC.seq ?_
  refine WC.region ?_
  refine WL.p (Gp.move rfl) (by kernel_rfl) rfl ?_
  (first | refine WL.p (Gp.eqI rfl rfl) (by kernel_rfl) rfl ?_ | refine WL.p (Gp.eqS rfl rfl) (by kernel_rfl) rfl ?_ | refine WL.p (Gp.nilSl rfl) (by kernel_rfl) rfl ?_ | refine WL.p (Gp.eqB rfl rfl) (by kernel_rfl) rfl ?_)
  refine WL.p (Gp.move rfl) (by kernel_rfl) rfl ?_
  refine WL.skip (by kernel_rfl) rfl ?_
  refine WL.skip (by kernel_rfl) rfl ?_
  (first | refine WL.p (Gp.pickT rfl rfl) (by kernel_rfl) rfl ?_ | refine WL.p (Gp.pickF rfl rfl) (by kernel_rfl) rfl ?_)
  refine WL.p (Gp.move rfl) (by kernel_rfl) rfl ?_
  refine WL.p (Gp.move rfl) (by kernel_rfl) rfl ?_
  refine WL.p (Gp.eqI' rfl rfl (show (b == 0) = true by simpa using hb)) (by kernel_rfl) rfl ?_
  (first | refine WL.p (Gp.pickT rfl rfl) (by kernel_rfl) rfl ?_ | refine WL.p (Gp.pickF rfl rfl) (by kernel_rfl) rfl ?_)
  refine WL.nil ?_
  repeat (first | with_reducible refine WK.thN ?_ | with_reducible refine WK.thR ?_ | with_reducible refine WK.thE ?_ | with_reducible refine WK.thP ?_ | with_reducible refine WK.blN ?_ | with_reducible refine WK.blR ?_ | with_reducible refine WK.blP ?_ | with_reducible refine WK.blE ?_ | with_reducible refine WK.blO rfl ?_ | with_reducible refine WK.thJ ?_)
  refine WC.cond_true rfl ?_
  refine WC.seq ?_
  refine WC.region ?_
  refine WL.p (Gp.fieldAddr rfl) (by kernel_rfl) rfl ?_
  refine WL.v (Gv.load1 rfl (by (repeat first | exact .here | apply At.there)) rfl) (by kernel_rfl) rfl ?_
  (first | refine WL.p (Gp.eqI rfl rfl) (by kernel_rfl) rfl ?_ | refine WL.p (Gp.eqS rfl rfl) (by kernel_rfl) rfl ?_ | refine WL.p (Gp.nilSl rfl) (by kernel_rfl) rfl ?_ | refine WL.p (Gp.eqB rfl rfl) (by kernel_rfl) rfl ?_)
  refine WL.p (Gp.move rfl) (by kernel_rfl) rfl ?_
  refine WL.p (Gp.fieldAddr rfl) (by kernel_rfl) rfl ?_
  refine WL.v (Gv.loadN rfl (by (repeat first | exact .here | apply At.there)) rfl rfl) (by kernel_rfl) rfl ?_
  refine WL.p (Gp.build rfl rfl) (by kernel_rfl) rfl ?_
  refine WL.p (Gp.eqVr (r := true) (u := V0) (v := V0) rfl rfl (by simp)) (by kernel_rfl) rfl ?_
  (first | refine WL.p (Gp.pickT rfl rfl) (by kernel_rfl) rfl ?_ | refine WL.p (Gp.pickF rfl rfl) (by kernel_rfl) rfl ?_)
  refine WL.p (Gp.move rfl) (by kernel_rfl) rfl ?_
  refine WL.op (by kernel_rfl) (OW.callR rfl (Pk.perm (by repeat (first | exact Pk.nil | exact Pk.all | exact Pk.app | exact Pk.appR | with_reducible apply Pk.na | (apply Pk.cons; (repeat first | exact .here | apply Rem.there | apply Rem.app)) | apply Pk.skip | apply Pk.skipA))) (awake_fn _) rfl (by intro e G' H' h; repeat (first | exact ⟨_, h.1⟩ | (obtain ⟨_, h⟩ := h))) fun v' G' H' h hg => ?_)
  obtain ⟨he, hg3, rfl⟩ := h
  cases he
  (first | refine WL.p (Gp.pickT rfl rfl) (by kernel_rfl) rfl ?_ | refine WL.p (Gp.pickF rfl rfl) (by kernel_rfl) rfl ?_)
  refine WL.p (Gp.assign rfl) (by kernel_rfl) rfl ?_
  refine WL.nil ?_
  repeat (first | with_reducible refine WK.thN ?_ | with_reducible refine WK.thR ?_ | with_reducible refine WK.thE ?_ | with_reducible refine WK.thP ?_ | with_reducible refine WK.blN ?_ | with_reducible refine WK.blR ?_ | with_reducible refine WK.blP ?_ | with_reducible refine WK.blE ?_ | with_reducible refine WK.blO rfl ?_ | with_reducible refine WK.thJ ?_)
  refine WC.ret ?_
  repeat (first | with_reducible refine WK.thN ?_ | with_reducible refine WK.thR ?_ | with_reducible refine WK.thE ?_ | with_reducible refine WK.thP ?_ | with_reducible refine WK.blN ?_ | with_reducible refine WK.blR ?_ | with_reducible refine WK.blP ?_ | with_reducible refine WK.blE ?_ | with_reducible refine WK.blO rfl ?_ | with_reducible refine WK.thJ ?_)
  exact QF.p1 (.inl rfl) rfl (.tmp rfl) (⟨rfl, Gh.le_trans hg1 (Gh.le_trans hg2 hg3), rfl⟩) (by repeat (first | exact Pk.nil | exact Pk.all | exact Pk.app | exact Pk.appR | with_reducible apply Pk.na | (apply Pk.cons; (repeat first | exact .here | apply Rem.there | apply Rem.app)) | apply Pk.skip | apply Pk.skipA))

theorem numbers_23 (G : Gh) (a b o : Int) (ho0 : 0 ≤ o) (ho1 : o ≤ 255) (hi : o.tmod 7 = 4) (hb : b ≠ 0) : Fn Try.prog 5 #[.int .i64 a, .int .i64 b, .int .u8 o] G [] fun e G' H' => e = .returned (.bool true) ∧ G.le G' ∧ H' = [] := by
  have hrun : runR (twoP (numV a) (numV b) 23 1) 0 9 [] = ⟨1, numV (a.tmod b), [], 4⟩ := run_two (vOK_num a) (vOK_num b) (by decide) (by simp [plainR, on2, ty2, pop2, recR, reckonS, numV, hb]) (by decide) rfl
  refine Fn.enter Try.func5 rfl rfl fun w0 => ?_
  refine WC.seq ?_
  refine WC.region ?_
  refine WL.p (Gp.assign rfl) (by kernel_rfl) rfl ?_
  refine WL.nil ?_
  repeat (first | with_reducible refine WK.thN ?_ | with_reducible refine WK.thR ?_ | with_reducible refine WK.thE ?_ | with_reducible refine WK.thP ?_ | with_reducible refine WK.blN ?_ | with_reducible refine WK.blR ?_ | with_reducible refine WK.blP ?_ | with_reducible refine WK.blE ?_ | with_reducible refine WK.blO rfl ?_ | with_reducible refine WK.thJ ?_)
  refine WC.seq ?_
  refine WC.region ?_
  refine WL.op (by kernel_rfl) (OW.buildSlice rfl (by kernel_rfl) (by kernel_rfl) (by rfl) rfl fun b1 => ?_)
  refine WL.p (Gp.assign rfl) (by kernel_rfl) rfl ?_
  refine WL.nil ?_
  repeat (first | with_reducible refine WK.thN ?_ | with_reducible refine WK.thR ?_ | with_reducible refine WK.thE ?_ | with_reducible refine WK.thP ?_ | with_reducible refine WK.blN ?_ | with_reducible refine WK.blR ?_ | with_reducible refine WK.blP ?_ | with_reducible refine WK.blE ?_ | with_reducible refine WK.blO rfl ?_ | with_reducible refine WK.thJ ?_)
  refine WC.seq ?_
  refine WC.region ?_
  refine WL.p (Gp.move rfl) (by kernel_rfl) rfl ?_
  refine WL.p (Gp.move rfl) (by kernel_rfl) rfl ?_
  refine WL.p (Gp.convI' rfl (wrap_small (x := o) (by omega) (by omega))) (by kernel_rfl) rfl ?_
  refine WL.p (Gp.move rfl) (by kernel_rfl) rfl ?_
  (first | refine WL.p (Gp.lenSl rfl) (by kernel_rfl) rfl ?_ | refine WL.p (Gp.lenS rfl) (by kernel_rfl) rfl ?_)
  refine WL.p (Gp.rem' rfl rfl (by decide) hi) (by kernel_rfl) rfl ?_
  refine WL.p (Gp.indexAddr rfl rfl (by first | assumption | omega | decide) (by first | assumption | omega | decide | (simp only [List.length_cons, List.length_nil]; decide))) (by kernel_rfl) rfl ?_
  refine WL.v (Gv.load1 rfl .here rfl) (by kernel_rfl) rfl ?_
  refine WL.p (Gp.assign rfl) (by kernel_rfl) rfl ?_
  refine WL.nil ?_
  repeat (first | with_reducible refine WK.thN ?_ | with_reducible refine WK.thR ?_ | with_reducible refine WK.thE ?_ | with_reducible refine WK.thP ?_ | with_reducible refine WK.blN ?_ | with_reducible refine WK.blR ?_ | with_reducible refine WK.blP ?_ | with_reducible refine WK.blE ?_ | with_reducible refine WK.blO rfl ?_ | with_reducible refine WK.thJ ?_)
  refine WC.seq ?_
  refine WC.region ?_
  refine WL.p (Gp.assign rfl) (by kernel_rfl) rfl ?_
  refine WL.nil ?_
  repeat (first | with_reducible refine WK.thN ?_ | with_reducible refine WK.thR ?_ | with_reducible refine WK.thE ?_ | with_reducible refine WK.thP ?_ | with_reducible refine WK.blN ?_ | with_reducible refine WK.blR ?_ | with_reducible refine WK.blP ?_ | with_reducible refine WK.blE ?_ | with_reducible refine WK.blO rfl ?_ | with_reducible refine WK.thJ ?_)
  refine WC.seq ?_
  refine WC.seq ?_
  refine WC.region ?_
  refine WL.p (Gp.move rfl) (by kernel_rfl) rfl ?_
  (first | refine WL.p (Gp.eqI rfl rfl) (by kernel_rfl) rfl ?_ | refine WL.p (Gp.eqS rfl rfl) (by kernel_rfl) rfl ?_ | refine WL.p (Gp.nilSl rfl) (by kernel_rfl) rfl ?_ | refine WL.p (Gp.eqB rfl rfl) (by kernel_rfl) rfl ?_)
  refine WL.p (Gp.move rfl) (by kernel_rfl) rfl ?_
  refine WL.p (Gp.move rfl) (by kernel_rfl) rfl ?_
  (first | refine WL.p (Gp.eqI rfl rfl) (by kernel_rfl) rfl ?_ | refine WL.p (Gp.eqS rfl rfl) (by kernel_rfl) rfl ?_ | refine WL.p (Gp.nilSl rfl) (by kernel_rfl) rfl ?_ | refine WL.p (Gp.eqB rfl rfl) (by kernel_rfl) rfl ?_)
  (first | refine WL.p (Gp.pickT rfl rfl) (by kernel_rfl) rfl ?_ | refine WL.p (Gp.pickF rfl rfl) (by kernel_rfl) rfl ?_)
  refine WL.nil ?_
  repeat (first | with_reducible refine WK.thN ?_ | with_reducible refine WK.thR ?_ | with_reducible refine WK.thE ?_ | with_reducible refine WK.thP ?_ | with_reducible refine WK.blN ?_ | with_reducible refine WK.blR ?_ | with_reducible refine WK.blP ?_ | with_reducible refine WK.blE ?_ | with_reducible refine WK.blO rfl ?_ | with_reducible refine WK.thJ ?_)
  refine WC.cond_false rfl ?_
  refine WC.skip ?_
  repeat (first | with_reducible refine WK.thN ?_ | with_reducible refine WK.thR ?_ | with_reducible refine WK.thE ?_ | with_reducible refine WK.thP ?_ | with_reducible refine WK.blN ?_ | with_reducible refine WK.blR ?_ | with_reducible refine WK.blP ?_ | with_reducible refine WK.blE ?_ | with_reducible refine WK.blO rfl ?_ | with_reducible refine WK.thJ ?_)
  refine WC.seq ?_
  refine WC.region ?_
  refine WL.p (Gp.move rfl) (by kernel_rfl) rfl ?_
  refine WL.op (by kernel_rfl) (OW.callR rfl (Hf := []) (List.Perm.refl _) (lnumber_fn G a) rfl (by rintro e G' H' ⟨h, _⟩; exact ⟨_, h⟩) fun v' G' H' h hg => ?_)
  obtain ⟨he, rfl, rfl⟩ := h
  cases he
  refine WL.p (Gp.move rfl) (by kernel_rfl) rfl ?_
  refine WL.op (by kernel_rfl) (OW.callR rfl (Hf := []) (List.Perm.refl _) (lnumber_fn G b) rfl (by rintro e G' H' ⟨h, _⟩; exact ⟨_, h⟩) fun v' G' H' h hg => ?_)
  obtain ⟨he, rfl, rfl⟩ := h
  cases he
  refine WL.p (Gp.move rfl) (by kernel_rfl) rfl ?_
  refine WL.p (Gp.move rfl) (by kernel_rfl) rfl ?_
  refine WL.op (by kernel_rfl) (OW.callR rfl (Pk.perm (by repeat (first | exact Pk.nil | exact Pk.all | exact Pk.app | exact Pk.appR | with_reducible apply Pk.na | (apply Pk.cons; (repeat first | exact .here | apply Rem.there | apply Rem.app)) | apply Pk.skip | apply Pk.skipA))) (two_fn G (numV a) (numV b) 23 1) rfl (by intro e G' H' h; repeat (first | exact ⟨_, h.1⟩ | (obtain ⟨_, h⟩ := h))) fun v' G' H' h hg => ?_)
  obtain ⟨CA, PA, he, hg1, hC, hP, rfl⟩ := h
  cases he
  refine WL.op (by kernel_rfl) (OW.callR rfl (Pk.perm (by repeat (first | exact Pk.nil | exact Pk.all | exact Pk.app | exact Pk.appR | with_reducible apply Pk.na | (apply Pk.cons; (repeat first | exact .here | apply Rem.there | apply Rem.app)) | apply Pk.skip | apply Pk.skipA))) (Run_two G' (twoP (numV a) (numV b) 23 1) CA PA 2 1 _ hC hP (twoP_B _ _ _ _) _ hrun) rfl (by intro e G' H' h; repeat (first | exact ⟨_, h.1⟩ | (obtain ⟨_, h⟩ := h))) fun v' G' H' h hg => ?_)
  obtain ⟨A1, cap1, x1, he, hg2, hx1, rfl⟩ := h
  cases he
  refine WL.op (by kernel_rfl) (OW.alloc rfl fun b3 => ?_)
  refine WL.op (by kernel_rfl) (OW.store rfl rfl (by (repeat first | exact .here | apply At.there)) rfl (by rfl) (by rfl) (by kernel_rfl) (by rfl) ?_ rfl)
  refine WL.nil ?_
  repeat (first | with_reducible refine WK.thN ?_ | with_reducible refine WK.thR ?_ | with_reducible refine WK.thE ?_ | with_reducible refine WK.thP ?_ | with_reducible refine WK.blN ?_ | with_reducible refine WK.blR ?_ | with_reducible refine WK.blP ?_ | with_reducible refine WK.blE ?_ | with_reducible refine WK.blO rfl ?_ | with_reducible refine WK.thJ ?_)
  refine WC.seq ?_
  refine WC.seq ?_
  refine WC.region ?_
  refine WL.p (Gp.move rfl) (by kernel_rfl) rfl ?_
  (first | refine WL.p (Gp.eqI rfl rfl) (by kernel_rfl) rfl ?_ | refine WL.p (Gp.eqS rfl rfl) (by kernel_rfl) rfl ?_ | refine WL.p (Gp.nilSl rfl) (by kernel_rfl) rfl ?_ | refine WL.p (Gp.eqB rfl rfl) (by kernel_rfl) rfl ?_)
  refine WL.p (Gp.move rfl) (by kernel_rfl) rfl ?_
  refine WL.p (Gp.move rfl) (by kernel_rfl) rfl ?_
  (first | refine WL.p (Gp.eqI rfl rfl) (by kernel_rfl) rfl ?_ | refine WL.p (Gp.eqS rfl rfl) (by kernel_rfl) rfl ?_ | refine WL.p (Gp.nilSl rfl) (by kernel_rfl) rfl ?_ | refine WL.p (Gp.eqB rfl rfl) (by kernel_rfl) rfl ?_)
  (first | refine WL.p (Gp.pickT rfl rfl) (by kernel_rfl) rfl ?_ | refine WL.p (Gp.pickF rfl rfl) (by kernel_rfl) rfl ?_)
  refine WL.p (Gp.move rfl) (by kernel_rfl) rfl ?_
  refine WL.p (Gp.move rfl) (by kernel_rfl) rfl ?_
  refine WL.p (Gp.eqI' rfl rfl (show (b == 0) = false by simpa using hb)) (by kernel_rfl) rfl ?_
  (first | refine WL.p (Gp.pickT rfl rfl) (by kernel_rfl) rfl ?_ | refine WL.p (Gp.pickF rfl rfl) (by kernel_rfl) rfl ?_)
  refine WL.nil ?_
  repeat (first | with_reducible refine WK.thN ?_ | with_reducible refine WK.thR ?_ | with_reducible refine WK.thE ?_ | with_reducible refine WK.thP ?_ | with_reducible refine WK.blN ?_ | with_reducible refine WK.blR ?_ | with_reducible refine WK.blP ?_ | with_reducible refine WK.blE ?_ | with_reducible refine WK.blO rfl ?_ | with_reducible refine WK.thJ ?_)
  refine WC.cond_false rfl ?_
  refine WC.skip ?_
  repeat (first | with_reducible refine WK.thN ?_ | with_reducible refine WK.thR ?_ | with_reducible refine WK.thE ?_ | with_reducible refine WK.thP ?_ | with_reducible refine WK.blN ?_ | with_reducible refine WK.blR ?_ | with_reducible refine WK.blP ?_ | with_reducible refine WK.blE ?_ | with_reducible refine WK.blO rfl ?_ | with_reducible refine WK.thJ ?_)
  refine WC.seq ?_
  refine WC.region ?_
  refine WL.p (Gp.move rfl) (by kernel_rfl) rfl ?_
  refine WL.p (Gp.build rfl rfl) (by kernel_rfl) rfl ?_
  refine WL.op (by kernel_rfl) (OW.alloc rfl fun b5 => ?_)
  refine WL.op (by kernel_rfl) (OW.store rfl rfl (by (repeat first | exact .here | apply At.there)) rfl (by rfl) (by rfl) (by kernel_rfl) (by rfl) ?_ rfl)
  refine WL.nil ?_
  repeat (first | with_reducible refine WK.thN ?_ | with_reducible refine WK.thR ?_ | with_reducible refine WK.thE ?_ | with_reducible refine WK.thP ?_ | with_reducible refine WK.blN ?_ | with_reducible refine WK.blR ?_ | with_reducible refine WK.blP ?_ | with_reducible refine WK.blE ?_ | with_reducible refine WK.blO rfl ?_ | with_reducible refine WK.thJ ?_)
  refine WC.seq ?_
  refine WC.seq ?_
  refine WC.region ?_
  refine WL.p (Gp.move rfl) (by kernel_rfl) rfl ?_
  refine WL.nil ?_
  repeat (first | with_reducible refine WK.thN ?_ | with_reducible refine WK.thR ?_ | with_reducible refine WK.thE ?_ | with_reducible refine WK.thP ?_ | with_reducible refine WK.blN ?_ | with_reducible refine WK.blR ?_ | with_reducible refine WK.blP ?_ | with_reducible refine WK.blE ?_ | with_reducible refine WK.blO rfl ?_ | with_reducible refine WK.thJ ?_)
  repeat (first | refine WC.seq ?_ | refine WC.block ?_ | (refine WC.region ?_; refine WL.p (Gp.eqI rfl rfl) (by kernel_rfl) rfl ?_; refine WL.p (Gp.assign rfl) (by kernel_rfl) rfl ?_; refine WL.nil ?_; repeat (first | with_reducible refine WK.thN ?_ | with_reducible refine WK.thR ?_ | with_reducible refine WK.thE ?_ | with_reducible refine WK.thP ?_ | with_reducible refine WK.blN ?_ | with_reducible refine WK.blR ?_ | with_reducible refine WK.blP ?_ | with_reducible refine WK.blE ?_ | with_reducible refine WK.blO rfl ?_ | with_reducible refine WK.thJ ?_)) | refine WC.cond_true rfl ?_ | refine WC.cond_false rfl ?_ | (refine WC.skip ?_; repeat (first | with_reducible refine WK.thN ?_ | with_reducible refine WK.thR ?_ | with_reducible refine WK.thE ?_ | with_reducible refine WK.thP ?_ | with_reducible refine WK.blN ?_ | with_reducible refine WK.blR ?_ | with_reducible refine WK.blP ?_ | with_reducible refine WK.blE ?_ | with_reducible refine WK.blO rfl ?_ | with_reducible refine WK.thJ ?_)) | (refine WC.exit ?_; repeat (first | with_reducible refine WK.thN ?_ | with_reducible refine WK.thR ?_ | with_reducible refine WK.thE ?_ | with_reducible refine WK.thP ?_ | with_reducible refine WK.blN ?_ | with_reducible refine WK.blR ?_ | with_reducible refine WK.blP ?_ | with_reducible refine WK.blE ?_ | with_reducible refine WK.blO rfl ?_ | with_reducible refine WK.thJ ?_)))
  refine WC.region ?_
  refine WL.p (Gp.move rfl) (by kernel_rfl) rfl ?_
  refine WL.p (Gp.move rfl) (by kernel_rfl) rfl ?_
  refine WL.p (Gp.rem rfl rfl hb) (by kernel_rfl) rfl ?_
  refine WL.p (Gp.fieldAddr rfl) (by kernel_rfl) rfl ?_
  refine WL.op (by kernel_rfl) (OW.store rfl rfl (by (repeat first | exact .here | apply At.there)) rfl (by rfl) (by rfl) (by kernel_rfl) (by rfl) ?_ rfl)
  refine WL.nil ?_
  repeat (first | with_reducible refine WK.thN ?_ | with_reducible refine WK.thR ?_ | with_reducible refine WK.thE ?_ | with_reducible refine WK.thP ?_ | with_reducible refine WK.blN ?_ | with_reducible refine WK.blR ?_ | with_reducible refine WK.blP ?_ | with_reducible refine WK.blE ?_ | with_reducible refine WK.blO rfl ?_ | with_reducible refine WK.thJ ?_)
  refine WC.seq ?_
  refine WC.region ?_
  refine WL.p (Gp.fieldAddr rfl) (by kernel_rfl) rfl ?_
  refine WL.v (Gv.load1 rfl (by (repeat first | exact .here | apply At.there)) rfl) (by kernel_rfl) rfl ?_
  (first | refine WL.p (Gp.eqI rfl rfl) (by kernel_rfl) rfl ?_ | refine WL.p (Gp.eqS rfl rfl) (by kernel_rfl) rfl ?_ | refine WL.p (Gp.nilSl rfl) (by kernel_rfl) rfl ?_ | refine WL.p (Gp.eqB rfl rfl) (by kernel_rfl) rfl ?_)
  refine WL.p (Gp.move rfl) (by kernel_rfl) rfl ?_
  refine WL.p (Gp.fieldAddr rfl) (by kernel_rfl) rfl ?_
  refine WL.v (Gv.loadN rfl (by (repeat first | exact .here | apply At.there)) rfl rfl) (by kernel_rfl) rfl ?_
  refine WL.v (Gv.loadN rfl (by (repeat first | exact .here | apply At.there)) rfl rfl) (by kernel_rfl) rfl ?_
  refine WL.p (Gp.eqVr (r := true) (u := numV (a.tmod b)) (v := numV (a.tmod b)) rfl rfl (by simp)) (by kernel_rfl) rfl ?_
  (first | refine WL.p (Gp.pickT rfl rfl) (by kernel_rfl) rfl ?_ | refine WL.p (Gp.pickF rfl rfl) (by kernel_rfl) rfl ?_)
  refine WL.p (Gp.move rfl) (by kernel_rfl) rfl ?_
  refine WL.op (by kernel_rfl) (OW.callR rfl (Pk.perm (by repeat (first | exact Pk.nil | exact Pk.all | exact Pk.app | exact Pk.appR | with_reducible apply Pk.na | (apply Pk.cons; (repeat first | exact .here | apply Rem.there | apply Rem.app)) | apply Pk.skip | apply Pk.skipA))) (awake_fn _) rfl (by intro e G' H' h; repeat (first | exact ⟨_, h.1⟩ | (obtain ⟨_, h⟩ := h))) fun v' G' H' h hg => ?_)
  obtain ⟨he, hg3, rfl⟩ := h
  cases he
  (first | refine WL.p (Gp.pickT rfl rfl) (by kernel_rfl) rfl ?_ | refine WL.p (Gp.pickF rfl rfl) (by kernel_rfl) rfl ?_)
  refine WL.p (Gp.assign rfl) (by kernel_rfl) rfl ?_
  refine WL.nil ?_
  repeat (first | with_reducible refine WK.thN ?_ | with_reducible refine WK.thR ?_ | with_reducible refine WK.thE ?_ | with_reducible refine WK.thP ?_ | with_reducible refine WK.blN ?_ | with_reducible refine WK.blR ?_ | with_reducible refine WK.blP ?_ | with_reducible refine WK.blE ?_ | with_reducible refine WK.blO rfl ?_ | with_reducible refine WK.thJ ?_)
  refine WC.ret ?_
  repeat (first | with_reducible refine WK.thN ?_ | with_reducible refine WK.thR ?_ | with_reducible refine WK.thE ?_ | with_reducible refine WK.thP ?_ | with_reducible refine WK.blN ?_ | with_reducible refine WK.blR ?_ | with_reducible refine WK.blP ?_ | with_reducible refine WK.blE ?_ | with_reducible refine WK.blO rfl ?_ | with_reducible refine WK.thJ ?_)
  exact QF.p1 (.inl rfl) rfl (.tmp rfl) (⟨rfl, Gh.le_trans hg1 (Gh.le_trans hg2 hg3), rfl⟩) (by repeat (first | exact Pk.nil | exact Pk.all | exact Pk.app | exact Pk.appR | with_reducible apply Pk.na | (apply Pk.cons; (repeat first | exact .here | apply Rem.there | apply Rem.app)) | apply Pk.skip | apply Pk.skipA))

theorem numbers_23z (G : Gh) (a b o : Int) (ho0 : 0 ≤ o) (ho1 : o ≤ 255) (hi : o.tmod 7 = 4) (hb : b = 0) : Fn Try.prog 5 #[.int .i64 a, .int .i64 b, .int .u8 o] G [] fun e G' H' => e = .returned (.bool true) ∧ G.le G' ∧ H' = [] := by
  have hrun : runR (twoP (numV a) (numV b) 23 1) 0 9 [] = ⟨2, V0, [], 3⟩ := run_twoH (vOK_num a) (vOK_num b) (by decide) (by simp [plainR, on2, ty2, pop2, recR, reckonS, numV, hb])
  refine Fn.enter Try.func5 rfl rfl fun w0 => ?_
  refine WC.seq ?_
  refine WC.region ?_
  refine WL.p (Gp.assign rfl) (by kernel_rfl) rfl ?_
  refine WL.nil ?_
  repeat (first | with_reducible refine WK.thN ?_ | with_reducible refine WK.thR ?_ | with_reducible refine WK.thE ?_ | with_reducible refine WK.thP ?_ | with_reducible refine WK.blN ?_ | with_reducible refine WK.blR ?_ | with_reducible refine WK.blP ?_ | with_reducible refine WK.blE ?_ | with_reducible refine WK.blO rfl ?_ | with_reducible refine WK.thJ ?_)
  refine WC.seq ?_
  refine WC.region ?_
  refine WL.op (by kernel_rfl) (OW.buildSlice rfl (by kernel_rfl) (by kernel_rfl) (by rfl) rfl fun b1 => ?_)
  refine WL.p (Gp.assign rfl) (by kernel_rfl) rfl ?_
  refine WL.nil ?_
  repeat (first | with_reducible refine WK.thN ?_ | with_reducible refine WK.thR ?_ | with_reducible refine WK.thE ?_ | with_reducible refine WK.thP ?_ | with_reducible refine WK.blN ?_ | with_reducible refine WK.blR ?_ | with_reducible refine WK.blP ?_ | with_reducible refine WK.blE ?_ | with_reducible refine WK.blO rfl ?_ | with_reducible refine WK.thJ ?_)
  refine WC.seq ?_
  refine WC.region ?_
  refine WL.p (Gp.move rfl) (by kernel_rfl) rfl ?_
  refine WL.p (Gp.move rfl) (by kernel_rfl) rfl ?_
  refine WL.p (Gp.convI' rfl (wrap_small (x := o) (by omega) (by omega))) (by kernel_rfl) rfl ?_
  refine WL.p (Gp.move rfl) (by kernel_rfl) rfl ?_
  (first | refine WL.p (Gp.lenSl rfl) (by kernel_rfl) rfl ?_ | refine WL.p (Gp.lenS rfl) (by kernel_rfl) rfl ?_)
  refine WL.p (Gp.rem' rfl rfl (by decide) hi) (by kernel_rfl) rfl ?_
  refine WL.p (Gp.indexAddr rfl rfl (by first | assumption | omega | decide) (by first | assumption | omega | decide | (simp only [List.length_cons, List.length_nil]; decide))) (by kernel_rfl) rfl ?_
  refine WL.v (Gv.load1 rfl .here rfl) (by kernel_rfl) rfl ?_
  refine WL.p (Gp.assign rfl) (by kernel_rfl) rfl ?_
  refine WL.nil ?_
  repeat (first | with_reducible refine WK.thN ?_ | with_reducible refine WK.thR ?_ | with_reducible refine WK.thE ?_ | with_reducible refine WK.thP ?_ | with_reducible refine WK.blN ?_ | with_reducible refine WK.blR ?_ | with_reducible refine WK.blP ?_ | with_reducible refine WK.blE ?_ | with_reducible refine WK.blO rfl ?_ | with_reducible refine WK.thJ ?_)
  refine WC.seq ?_
  refine WC.region ?_
  refine WL.p (Gp.assign rfl) (by kernel_rfl) rfl ?_
  refine WL.nil ?_
  repeat (first | with_reducible refine WK.thN ?_ | with_reducible refine WK.thR ?_ | with_reducible refine WK.thE ?_ | with_reducible refine WK.thP ?_ | with_reducible refine WK.blN ?_ | with_reducible refine WK.blR ?_ | with_reducible refine WK.blP ?_ | with_reducible refine WK.blE ?_ | with_reducible refine WK.blO rfl ?_ | with_reducible refine WK.thJ ?_)
  refine WC.seq ?_
  refine WC.seq ?_
  refine WC.region ?_
  refine WL.p (Gp.move rfl) (by kernel_rfl) rfl ?_
  (first | refine WL.p (Gp.eqI rfl rfl) (by kernel_rfl) rfl ?_ | refine WL.p (Gp.eqS rfl rfl) (by kernel_rfl) rfl ?_ | refine WL.p (Gp.nilSl rfl) (by kernel_rfl) rfl ?_ | refine WL.p (Gp.eqB rfl rfl) (by kernel_rfl) rfl ?_)
  refine WL.p (Gp.move rfl) (by kernel_rfl) rfl ?_
  refine WL.p (Gp.move rfl) (by kernel_rfl) rfl ?_
  (first | refine WL.p (Gp.eqI rfl rfl) (by kernel_rfl) rfl ?_ | refine WL.p (Gp.eqS rfl rfl) (by kernel_rfl) rfl ?_ | refine WL.p (Gp.nilSl rfl) (by kernel_rfl) rfl ?_ | refine WL.p (Gp.eqB rfl rfl) (by kernel_rfl) rfl ?_)
  (first | refine WL.p (Gp.pickT rfl rfl) (by kernel_rfl) rfl ?_ | refine WL.p (Gp.pickF rfl rfl) (by kernel_rfl) rfl ?_)
  refine WL.nil ?_
  repeat (first | with_reducible refine WK.thN ?_ | with_reducible refine WK.thR ?_ | with_reducible refine WK.thE ?_ | with_reducible refine WK.thP ?_ | with_reducible refine WK.blN ?_ | with_reducible refine WK.blR ?_ | with_reducible refine WK.blP ?_ | with_reducible refine WK.blE ?_ | with_reducible refine WK.blO rfl ?_ | with_reducible refine WK.thJ ?_)
  refine WC.cond_false rfl ?_
  refine WC.skip ?_
  repeat (first | with_reducible refine WK.thN ?_ | with_reducible refine WK.thR ?_ | with_reducible refine WK.thE ?_ | with_reducible refine WK.thP ?_ | with_reducible refine WK.blN ?_ | with_reducible refine WK.blR ?_ | with_reducible refine WK.blP ?_ | with_reducible refine WK.blE ?_ | with_reducible refine WK.blO rfl ?_ | with_reducible refine WK.thJ ?_)
  refine WC.seq ?_
  refine WC.region ?_
  refine WL.p (Gp.move rfl) (by kernel_rfl) rfl ?_
  refine WL.op (by kernel_rfl) (OW.callR rfl (Hf := []) (List.Perm.refl _) (lnumber_fn G a) rfl (by rintro e G' H' ⟨h, _⟩; exact ⟨_, h⟩) fun v' G' H' h hg => ?_)
  obtain ⟨he, rfl, rfl⟩ := h
  cases he
  refine WL.p (Gp.move rfl) (by kernel_rfl) rfl ?_
  refine WL.op (by kernel_rfl) (OW.callR rfl (Hf := []) (List.Perm.refl _) (lnumber_fn G b) rfl (by rintro e G' H' ⟨h, _⟩; exact ⟨_, h⟩) fun v' G' H' h hg => ?_)
  obtain ⟨he, rfl, rfl⟩ := h
  cases he
  refine WL.p (Gp.move rfl) (by kernel_rfl) rfl ?_
  refine WL.p (Gp.move rfl) (by kernel_rfl) rfl ?_
  refine WL.op (by kernel_rfl) (OW.callR rfl (Pk.perm (by repeat (first | exact Pk.nil | exact Pk.all | exact Pk.app | exact Pk.appR | with_reducible apply Pk.na | (apply Pk.cons; (repeat first | exact .here | apply Rem.there | apply Rem.app)) | apply Pk.skip | apply Pk.skipA))) (two_fn G (numV a) (numV b) 23 1) rfl (by intro e G' H' h; repeat (first | exact ⟨_, h.1⟩ | (obtain ⟨_, h⟩ := h))) fun v' G' H' h hg => ?_)
  obtain ⟨CA, PA, he, hg1, hC, hP, rfl⟩ := h
  cases he
  refine WL.op (by kernel_rfl) (OW.callR rfl (Pk.perm (by repeat (first | exact Pk.nil | exact Pk.all | exact Pk.app | exact Pk.appR | with_reducible apply Pk.na | (apply Pk.cons; (repeat first | exact .here | apply Rem.there | apply Rem.app)) | apply Pk.skip | apply Pk.skipA))) (Run_two G' (twoP (numV a) (numV b) 23 1) CA PA 2 1 _ hC hP (twoP_B _ _ _ _) _ hrun) rfl (by intro e G' H' h; repeat (first | exact ⟨_, h.1⟩ | (obtain ⟨_, h⟩ := h))) fun v' G' H' h hg => ?_)
  obtain ⟨A1, cap1, x1, he, hg2, hx1, rfl⟩ := h
  cases he
  refine WL.op (by kernel_rfl) (OW.alloc rfl fun b3 => ?_)
  refine WL.op (by kernel_rfl) (OW.store rfl rfl (by (repeat first | exact .here | apply At.there)) rfl (by rfl) (by rfl) (by kernel_rfl) (by rfl) ?_ rfl)
  refine WL.nil ?_
  repeat (first | with_reducible refine WK.thN ?_ | with_reducible refine WK.thR ?_ | with_reducible refine WK.thE ?_ | with_reducible refine WK.thP ?_ | with_reducible refine WK.blN ?_ | with_reducible refine WK.blR ?_ | with_reducible refine WK.blP ?_ | with_reducible refine WK.blE ?_ | with_reducible refine WK.blO rfl ?_ | with_reducible refine WK.thJ ?_)
  refine WC.seq ?_
  refine WC.seq ?_
  refine WC.region ?_
  refine WL.p (Gp.move rfl) (by kernel_rfl) rfl ?_
  (first | refine WL.p (Gp.eqI rfl rfl) (by kernel_rfl) rfl ?_ | refine WL.p (Gp.eqS rfl rfl) (by kernel_rfl) rfl ?_ | refine WL.p (Gp.nilSl rfl) (by kernel_rfl) rfl ?_ | refine WL.p (Gp.eqB rfl rfl) (by kernel_rfl) rfl ?_)
  refine WL.p (Gp.move rfl) (by kernel_rfl) rfl ?_
  refine WL.p (Gp.move rfl) (by kernel_rfl) rfl ?_
  (first | refine WL.p (Gp.eqI rfl rfl) (by kernel_rfl) rfl ?_ | refine WL.p (Gp.eqS rfl rfl) (by kernel_rfl) rfl ?_ | refine WL.p (Gp.nilSl rfl) (by kernel_rfl) rfl ?_ | refine WL.p (Gp.eqB rfl rfl) (by kernel_rfl) rfl ?_)
  (first | refine WL.p (Gp.pickT rfl rfl) (by kernel_rfl) rfl ?_ | refine WL.p (Gp.pickF rfl rfl) (by kernel_rfl) rfl ?_)
  refine WL.p (Gp.move rfl) (by kernel_rfl) rfl ?_
  refine WL.p (Gp.move rfl) (by kernel_rfl) rfl ?_
  refine WL.p (Gp.eqI' rfl rfl (show (b == 0) = true by simpa using hb)) (by kernel_rfl) rfl ?_
  (first | refine WL.p (Gp.pickT rfl rfl) (by kernel_rfl) rfl ?_ | refine WL.p (Gp.pickF rfl rfl) (by kernel_rfl) rfl ?_)
  refine WL.nil ?_
  repeat (first | with_reducible refine WK.thN ?_ | with_reducible refine WK.thR ?_ | with_reducible refine WK.thE ?_ | with_reducible refine WK.thP ?_ | with_reducible refine WK.blN ?_ | with_reducible refine WK.blR ?_ | with_reducible refine WK.blP ?_ | with_reducible refine WK.blE ?_ | with_reducible refine WK.blO rfl ?_ | with_reducible refine WK.thJ ?_)
  refine WC.cond_true rfl ?_
  refine WC.seq ?_
  refine WC.region ?_
  refine WL.p (Gp.fieldAddr rfl) (by kernel_rfl) rfl ?_
  refine WL.v (Gv.load1 rfl (by (repeat first | exact .here | apply At.there)) rfl) (by kernel_rfl) rfl ?_
  (first | refine WL.p (Gp.eqI rfl rfl) (by kernel_rfl) rfl ?_ | refine WL.p (Gp.eqS rfl rfl) (by kernel_rfl) rfl ?_ | refine WL.p (Gp.nilSl rfl) (by kernel_rfl) rfl ?_ | refine WL.p (Gp.eqB rfl rfl) (by kernel_rfl) rfl ?_)
  refine WL.p (Gp.move rfl) (by kernel_rfl) rfl ?_
  refine WL.p (Gp.fieldAddr rfl) (by kernel_rfl) rfl ?_
  refine WL.v (Gv.loadN rfl (by (repeat first | exact .here | apply At.there)) rfl rfl) (by kernel_rfl) rfl ?_
  refine WL.p (Gp.build rfl rfl) (by kernel_rfl) rfl ?_
  refine WL.p (Gp.eqVr (r := true) (u := V0) (v := V0) rfl rfl (by simp)) (by kernel_rfl) rfl ?_
  (first | refine WL.p (Gp.pickT rfl rfl) (by kernel_rfl) rfl ?_ | refine WL.p (Gp.pickF rfl rfl) (by kernel_rfl) rfl ?_)
  refine WL.p (Gp.move rfl) (by kernel_rfl) rfl ?_
  refine WL.op (by kernel_rfl) (OW.callR rfl (Pk.perm (by repeat (first | exact Pk.nil | exact Pk.all | exact Pk.app | exact Pk.appR | with_reducible apply Pk.na | (apply Pk.cons; (repeat first | exact .here | apply Rem.there | apply Rem.app)) | apply Pk.skip | apply Pk.skipA))) (awake_fn _) rfl (by intro e G' H' h; repeat (first | exact ⟨_, h.1⟩ | (obtain ⟨_, h⟩ := h))) fun v' G' H' h hg => ?_)
  obtain ⟨he, hg3, rfl⟩ := h
  cases he
  (first | refine WL.p (Gp.pickT rfl rfl) (by kernel_rfl) rfl ?_ | refine WL.p (Gp.pickF rfl rfl) (by kernel_rfl) rfl ?_)
  refine WL.p (Gp.assign rfl) (by kernel_rfl) rfl ?_
  refine WL.nil ?_
  repeat (first | with_reducible refine WK.thN ?_ | with_reducible refine WK.thR ?_ | with_reducible refine WK.thE ?_ | with_reducible refine WK.thP ?_ | with_reducible refine WK.blN ?_ | with_reducible refine WK.blR ?_ | with_reducible refine WK.blP ?_ | with_reducible refine WK.blE ?_ | with_reducible refine WK.blO rfl ?_ | with_reducible refine WK.thJ ?_)
  refine WC.ret ?_
  repeat (first | with_reducible refine WK.thN ?_ | with_reducible refine WK.thR ?_ | with_reducible refine WK.thE ?_ | with_reducible refine WK.thP ?_ | with_reducible refine WK.blN ?_ | with_reducible refine WK.blR ?_ | with_reducible refine WK.blP ?_ | with_reducible refine WK.blE ?_ | with_reducible refine WK.blO rfl ?_ | with_reducible refine WK.thJ ?_)
  exact QF.p1 (.inl rfl) rfl (.tmp rfl) (⟨rfl, Gh.le_trans hg1 (Gh.le_trans hg2 hg3), rfl⟩) (by repeat (first | exact Pk.nil | exact Pk.all | exact Pk.app | exact Pk.appR | with_reducible apply Pk.na | (apply Pk.cons; (repeat first | exact .here | apply Rem.there | apply Rem.app)) | apply Pk.skip | apply Pk.skipA))

theorem numbers_14 (G : Gh) (a b o : Int) (ho0 : 0 ≤ o) (ho1 : o ≤ 255) (hi : o.tmod 7 = 5) : Fn Try.prog 5 #[.int .i64 a, .int .i64 b, .int .u8 o] G [] fun e G' H' => e = .returned (.bool true) ∧ G.le G' ∧ H' = [] := by
  have hrun : runR (twoP (numV a) (numV b) 14 2) 0 9 [] = ⟨1, truthV (decide (a < b)), [], 4⟩ := run_two (vOK_num a) (vOK_num b) (by decide) (by rw [← ordN_num a b]; simp [plainR, onB, pop2, ordOK, ordS, numV]; congr) (by decide) rfl
  refine Fn.enter Try.func5 rfl rfl fun w0 => ?_
  refine WC.seq ?_
  refine WC.region ?_
  refine WL.p (Gp.assign rfl) (by kernel_rfl) rfl ?_
  refine WL.nil ?_
  repeat (first | with_reducible refine WK.thN ?_ | with_reducible refine WK.thR ?_ | with_reducible refine WK.thE ?_ | with_reducible refine WK.thP ?_ | with_reducible refine WK.blN ?_ | with_reducible refine WK.blR ?_ | with_reducible refine WK.blP ?_ | with_reducible refine WK.blE ?_ | with_reducible refine WK.blO rfl ?_ | with_reducible refine WK.thJ ?_)
  refine WC.seq ?_
  refine WC.region ?_
  refine WL.op (by kernel_rfl) (OW.buildSlice rfl (by kernel_rfl) (by kernel_rfl) (by rfl) rfl fun b1 => ?_)
  refine WL.p (Gp.assign rfl) (by kernel_rfl) rfl ?_
  refine WL.nil ?_
  repeat (first | with_reducible refine WK.thN ?_ | with_reducible refine WK.thR ?_ | with_reducible refine WK.thE ?_ | with_reducible refine WK.thP ?_ | with_reducible refine WK.blN ?_ | with_reducible refine WK.blR ?_ | with_reducible refine WK.blP ?_ | with_reducible refine WK.blE ?_ | with_reducible refine WK.blO rfl ?_ | with_reducible refine WK.thJ ?_)
  refine WC.seq ?_
  refine WC.region ?_
  refine WL.p (Gp.move rfl) (by kernel_rfl) rfl ?_
  refine WL.p (Gp.move rfl) (by kernel_rfl) rfl ?_
  refine WL.p (Gp.convI' rfl (wrap_small (x := o) (by omega) (by omega))) (by kernel_rfl) rfl ?_
  refine WL.p (Gp.move rfl) (by kernel_rfl) rfl ?_
  (first | refine WL.p (Gp.lenSl rfl) (by kernel_rfl) rfl ?_ | refine WL.p (Gp.lenS rfl) (by kernel_rfl) rfl ?_)
  refine WL.p (Gp.rem' rfl rfl (by decide) hi) (by kernel_rfl) rfl ?_
  refine WL.p (Gp.indexAddr rfl rfl (by first | assumption | omega | decide) (by first | assumption | omega | decide | (simp only [List.length_cons, List.length_nil]; decide))) (by kernel_rfl) rfl ?_
  refine WL.v (Gv.load1 rfl .here rfl) (by kernel_rfl) rfl ?_
  refine WL.p (Gp.assign rfl) (by kernel_rfl) rfl ?_
  refine WL.nil ?_
  repeat (first | with_reducible refine WK.thN ?_ | with_reducible refine WK.thR ?_ | with_reducible refine WK.thE ?_ | with_reducible refine WK.thP ?_ | with_reducible refine WK.blN ?_ | with_reducible refine WK.blR ?_ | with_reducible refine WK.blP ?_ | with_reducible refine WK.blE ?_ | with_reducible refine WK.blO rfl ?_ | with_reducible refine WK.thJ ?_)
  refine WC.seq ?_
  refine WC.region ?_
  refine WL.p (Gp.assign rfl) (by kernel_rfl) rfl ?_
  refine WL.nil ?_
  repeat (first | with_reducible refine WK.thN ?_ | with_reducible refine WK.thR ?_ | with_reducible refine WK.thE ?_ | with_reducible refine WK.thP ?_ | with_reducible refine WK.blN ?_ | with_reducible refine WK.blR ?_ | with_reducible refine WK.blP ?_ | with_reducible refine WK.blE ?_ | with_reducible refine WK.blO rfl ?_ | with_reducible refine WK.thJ ?_)
  refine WC.seq ?_
  refine WC.seq ?_
  refine WC.region ?_
  refine WL.p (Gp.move rfl) (by kernel_rfl) rfl ?_
  (first | refine WL.p (Gp.eqI rfl rfl) (by kernel_rfl) rfl ?_ | refine WL.p (Gp.eqS rfl rfl) (by kernel_rfl) rfl ?_ | refine WL.p (Gp.nilSl rfl) (by kernel_rfl) rfl ?_ | refine WL.p (Gp.eqB rfl rfl) (by kernel_rfl) rfl ?_)
  refine WL.p (Gp.move rfl) (by kernel_rfl) rfl ?_
  refine WL.skip (by kernel_rfl) rfl ?_
  refine WL.skip (by kernel_rfl) rfl ?_
  (first | refine WL.p (Gp.pickT rfl rfl) (by kernel_rfl) rfl ?_ | refine WL.p (Gp.pickF rfl rfl) (by kernel_rfl) rfl ?_)
  refine WL.nil ?_
  repeat (first | with_reducible refine WK.thN ?_ | with_reducible refine WK.thR ?_ | with_reducible refine WK.thE ?_ | with_reducible refine WK.thP ?_ | with_reducible refine WK.blN ?_ | with_reducible refine WK.blR ?_ | with_reducible refine WK.blP ?_ | with_reducible refine WK.blE ?_ | with_reducible refine WK.blO rfl ?_ | with_reducible refine WK.thJ ?_)
  refine WC.cond_true rfl ?_
  refine WC.region ?_
  refine WL.p (Gp.assign rfl) (by kernel_rfl) rfl ?_
  refine WL.nil ?_
  repeat (first | with_reducible refine WK.thN ?_ | with_reducible refine WK.thR ?_ | with_reducible refine WK.thE ?_ | with_reducible refine WK.thP ?_ | with_reducible refine WK.blN ?_ | with_reducible refine WK.blR ?_ | with_reducible refine WK.blP ?_ | with_reducible refine WK.blE ?_ | with_reducible refine WK.blO rfl ?_ | with_reducible refine WK.thJ ?_)
  refine WC.seq ?_
  refine WC.region ?_
  refine WL.p (Gp.move rfl) (by kernel_rfl) rfl ?_
  refine WL.op (by kernel_rfl) (OW.callR rfl (Hf := []) (List.Perm.refl _) (lnumber_fn G a) rfl (by rintro e G' H' ⟨h, _⟩; exact ⟨_, h⟩) fun v' G' H' h hg => ?_)
  obtain ⟨he, rfl, rfl⟩ := h
  cases he
  refine WL.p (Gp.move rfl) (by kernel_rfl) rfl ?_
  refine WL.op (by kernel_rfl) (OW.callR rfl (Hf := []) (List.Perm.refl _) (lnumber_fn G b) rfl (by rintro e G' H' ⟨h, _⟩; exact ⟨_, h⟩) fun v' G' H' h hg => ?_)
  obtain ⟨he, rfl, rfl⟩ := h
  cases he
  refine WL.p (Gp.move rfl) (by kernel_rfl) rfl ?_
  refine WL.p (Gp.move rfl) (by kernel_rfl) rfl ?_
  refine WL.op (by kernel_rfl) (OW.callR rfl (Pk.perm (by repeat (first | exact Pk.nil | exact Pk.all | exact Pk.app | exact Pk.appR | with_reducible apply Pk.na | (apply Pk.cons; (repeat first | exact .here | apply Rem.there | apply Rem.app)) | apply Pk.skip | apply Pk.skipA))) (two_fn G (numV a) (numV b) 14 2) rfl (by intro e G' H' h; repeat (first | exact ⟨_, h.1⟩ | (obtain ⟨_, h⟩ := h))) fun v' G' H' h hg => ?_)
  obtain ⟨CA, PA, he, hg1, hC, hP, rfl⟩ := h
  cases he
  refine WL.op (by kernel_rfl) (OW.callR rfl (Pk.perm (by repeat (first | exact Pk.nil | exact Pk.all | exact Pk.app | exact Pk.appR | with_reducible apply Pk.na | (apply Pk.cons; (repeat first | exact .here | apply Rem.there | apply Rem.app)) | apply Pk.skip | apply Pk.skipA))) (Run_two G' (twoP (numV a) (numV b) 14 2) CA PA 2 1 _ hC hP (twoP_B _ _ _ _) _ hrun) rfl (by intro e G' H' h; repeat (first | exact ⟨_, h.1⟩ | (obtain ⟨_, h⟩ := h))) fun v' G' H' h hg => ?_)
  obtain ⟨A1, cap1, x1, he, hg2, hx1, rfl⟩ := h
  cases he
  refine WL.op (by kernel_rfl) (OW.alloc rfl fun b3 => ?_)
  refine WL.op (by kernel_rfl) (OW.store rfl rfl (by (repeat first | exact .here | apply At.there)) rfl (by rfl) (by rfl) (by kernel_rfl) (by rfl) ?_ rfl)
  refine WL.nil ?_
  repeat (first | with_reducible refine WK.thN ?_ | with_reducible refine WK.thR ?_ | with_reducible refine WK.thE ?_ | with_reducible refine WK.thP ?_ | with_reducible refine WK.blN ?_ | with_reducible refine WK.blR ?_ | with_reducible refine WK.blP ?_ | with_reducible refine WK.blE ?_ | with_reducible refine WK.blO rfl ?_ | with_reducible refine WK.thJ ?_)
  refine WC.seq ?_
  refine WC.seq ?_
  refine WC.region ?_
  refine WL.p (Gp.move rfl) (by kernel_rfl) rfl ?_
  (first | refine WL.p (Gp.eqI rfl rfl) (by kernel_rfl) rfl ?_ | refine WL.p (Gp.eqS rfl rfl) (by kernel_rfl) rfl ?_ | refine WL.p (Gp.nilSl rfl) (by kernel_rfl) rfl ?_ | refine WL.p (Gp.eqB rfl rfl) (by kernel_rfl) rfl ?_)
  refine WL.p (Gp.move rfl) (by kernel_rfl) rfl ?_
  refine WL.p (Gp.move rfl) (by kernel_rfl) rfl ?_
  (first | refine WL.p (Gp.eqI rfl rfl) (by kernel_rfl) rfl ?_ | refine WL.p (Gp.eqS rfl rfl) (by kernel_rfl) rfl ?_ | refine WL.p (Gp.nilSl rfl) (by kernel_rfl) rfl ?_ | refine WL.p (Gp.eqB rfl rfl) (by kernel_rfl) rfl ?_)
  (first | refine WL.p (Gp.pickT rfl rfl) (by kernel_rfl) rfl ?_ | refine WL.p (Gp.pickF rfl rfl) (by kernel_rfl) rfl ?_)
  refine WL.p (Gp.move rfl) (by kernel_rfl) rfl ?_
  refine WL.skip (by kernel_rfl) rfl ?_
  refine WL.skip (by kernel_rfl) rfl ?_
  (first | refine WL.p (Gp.pickT rfl rfl) (by kernel_rfl) rfl ?_ | refine WL.p (Gp.pickF rfl rfl) (by kernel_rfl) rfl ?_)
  refine WL.nil ?_
  repeat (first | with_reducible refine WK.thN ?_ | with_reducible refine WK.thR ?_ | with_reducible refine WK.thE ?_ | with_reducible refine WK.thP ?_ | with_reducible refine WK.blN ?_ | with_reducible refine WK.blR ?_ | with_reducible refine WK.blP ?_ | with_reducible refine WK.blE ?_ | with_reducible refine WK.blO rfl ?_ | with_reducible refine WK.thJ ?_)
  refine WC.cond_false rfl ?_
  refine WC.skip ?_
  repeat (first | with_reducible refine WK.thN ?_ | with_reducible refine WK.thR ?_ | with_reducible refine WK.thE ?_ | with_reducible refine WK.thP ?_ | with_reducible refine WK.blN ?_ | with_reducible refine WK.blR ?_ | with_reducible refine WK.blP ?_ | with_reducible refine WK.blE ?_ | with_reducible refine WK.blO rfl ?_ | with_reducible refine WK.thJ ?_)
  refine WC.seq ?_
  refine WC.region ?_
  refine WL.p (Gp.move rfl) (by kernel_rfl) rfl ?_
  refine WL.p (Gp.build rfl rfl) (by kernel_rfl) rfl ?_
  refine WL.op (by kernel_rfl) (OW.alloc rfl fun b5 => ?_)
  refine WL.op (by kernel_rfl) (OW.store rfl rfl (by (repeat first | exact .here | apply At.there)) rfl (by rfl) (by rfl) (by kernel_rfl) (by rfl) ?_ rfl)
  refine WL.nil ?_
  repeat (first | with_reducible refine WK.thN ?_ | with_reducible refine WK.thR ?_ | with_reducible refine WK.thE ?_ | with_reducible refine WK.thP ?_ | with_reducible refine WK.blN ?_ | with_reducible refine WK.blR ?_ | with_reducible refine WK.blP ?_ | with_reducible refine WK.blE ?_ | with_reducible refine WK.blO rfl ?_ | with_reducible refine WK.thJ ?_)
  refine WC.seq ?_
  refine WC.seq ?_
  refine WC.region ?_
  refine WL.p (Gp.move rfl) (by kernel_rfl) rfl ?_
  refine WL.nil ?_
  repeat (first | with_reducible refine WK.thN ?_ | with_reducible refine WK.thR ?_ | with_reducible refine WK.thE ?_ | with_reducible refine WK.thP ?_ | with_reducible refine WK.blN ?_ | with_reducible refine WK.blR ?_ | with_reducible refine WK.blP ?_ | with_reducible refine WK.blE ?_ | with_reducible refine WK.blO rfl ?_ | with_reducible refine WK.thJ ?_)
  repeat (first | refine WC.seq ?_ | refine WC.block ?_ | (refine WC.region ?_; refine WL.p (Gp.eqI rfl rfl) (by kernel_rfl) rfl ?_; refine WL.p (Gp.assign rfl) (by kernel_rfl) rfl ?_; refine WL.nil ?_; repeat (first | with_reducible refine WK.thN ?_ | with_reducible refine WK.thR ?_ | with_reducible refine WK.thE ?_ | with_reducible refine WK.thP ?_ | with_reducible refine WK.blN ?_ | with_reducible refine WK.blR ?_ | with_reducible refine WK.blP ?_ | with_reducible refine WK.blE ?_ | with_reducible refine WK.blO rfl ?_ | with_reducible refine WK.thJ ?_)) | refine WC.cond_true rfl ?_ | refine WC.cond_false rfl ?_ | (refine WC.skip ?_; repeat (first | with_reducible refine WK.thN ?_ | with_reducible refine WK.thR ?_ | with_reducible refine WK.thE ?_ | with_reducible refine WK.thP ?_ | with_reducible refine WK.blN ?_ | with_reducible refine WK.blR ?_ | with_reducible refine WK.blP ?_ | with_reducible refine WK.blE ?_ | with_reducible refine WK.blO rfl ?_ | with_reducible refine WK.thJ ?_)) | (refine WC.exit ?_; repeat (first | with_reducible refine WK.thN ?_ | with_reducible refine WK.thR ?_ | with_reducible refine WK.thE ?_ | with_reducible refine WK.thP ?_ | with_reducible refine WK.blN ?_ | with_reducible refine WK.blR ?_ | with_reducible refine WK.blP ?_ | with_reducible refine WK.blE ?_ | with_reducible refine WK.blO rfl ?_ | with_reducible refine WK.thJ ?_)))
  refine WC.region ?_
  refine WL.p (Gp.move rfl) (by kernel_rfl) rfl ?_
  refine WL.p (Gp.move rfl) (by kernel_rfl) rfl ?_
  (first | refine WL.p (Gp.ltI rfl rfl) (by kernel_rfl) rfl ?_ | refine WL.p (Gp.ltS rfl rfl) (by kernel_rfl) rfl ?_)
  refine WL.p (Gp.fieldAddr rfl) (by kernel_rfl) rfl ?_
  refine WL.op (by kernel_rfl) (OW.store rfl rfl (by (repeat first | exact .here | apply At.there)) rfl (by rfl) (by rfl) (by kernel_rfl) (by rfl) ?_ rfl)
  refine WL.nil ?_
  repeat (first | with_reducible refine WK.thN ?_ | with_reducible refine WK.thR ?_ | with_reducible refine WK.thE ?_ | with_reducible refine WK.thP ?_ | with_reducible refine WK.blN ?_ | with_reducible refine WK.blR ?_ | with_reducible refine WK.blP ?_ | with_reducible refine WK.blE ?_ | with_reducible refine WK.blO rfl ?_ | with_reducible refine WK.thJ ?_)
  refine WC.seq ?_
  refine WC.region ?_
  refine WL.p (Gp.fieldAddr rfl) (by kernel_rfl) rfl ?_
  refine WL.v (Gv.load1 rfl (by (repeat first | exact .here | apply At.there)) rfl) (by kernel_rfl) rfl ?_
  (first | refine WL.p (Gp.eqI rfl rfl) (by kernel_rfl) rfl ?_ | refine WL.p (Gp.eqS rfl rfl) (by kernel_rfl) rfl ?_ | refine WL.p (Gp.nilSl rfl) (by kernel_rfl) rfl ?_ | refine WL.p (Gp.eqB rfl rfl) (by kernel_rfl) rfl ?_)
  refine WL.p (Gp.move rfl) (by kernel_rfl) rfl ?_
  refine WL.p (Gp.fieldAddr rfl) (by kernel_rfl) rfl ?_
  refine WL.v (Gv.loadN rfl (by (repeat first | exact .here | apply At.there)) rfl rfl) (by kernel_rfl) rfl ?_
  refine WL.v (Gv.loadN rfl (by (repeat first | exact .here | apply At.there)) rfl rfl) (by kernel_rfl) rfl ?_
  refine WL.p (Gp.eqVr (r := true) (u := truthV (decide (a < b))) (v := truthV (decide (a < b))) rfl rfl (by simp)) (by kernel_rfl) rfl ?_
  (first | refine WL.p (Gp.pickT rfl rfl) (by kernel_rfl) rfl ?_ | refine WL.p (Gp.pickF rfl rfl) (by kernel_rfl) rfl ?_)
  refine WL.p (Gp.move rfl) (by kernel_rfl) rfl ?_
  refine WL.op (by kernel_rfl) (OW.callR rfl (Pk.perm (by repeat (first | exact Pk.nil | exact Pk.all | exact Pk.app | exact Pk.appR | with_reducible apply Pk.na | (apply Pk.cons; (repeat first | exact .here | apply Rem.there | apply Rem.app)) | apply Pk.skip | apply Pk.skipA))) (awake_fn _) rfl (by intro e G' H' h; repeat (first | exact ⟨_, h.1⟩ | (obtain ⟨_, h⟩ := h))) fun v' G' H' h hg => ?_)
  obtain ⟨he, hg3, rfl⟩ := h
  cases he
  (first | refine WL.p (Gp.pickT rfl rfl) (by kernel_rfl) rfl ?_ | refine WL.p (Gp.pickF rfl rfl) (by kernel_rfl) rfl ?_)
  refine WL.p (Gp.assign rfl) (by kernel_rfl) rfl ?_
  refine WL.nil ?_
  repeat (first | with_reducible refine WK.thN ?_ | with_reducible refine WK.thR ?_ | with_reducible refine WK.thE ?_ | with_reducible refine WK.thP ?_ | with_reducible refine WK.blN ?_ | with_reducible refine WK.blR ?_ | with_reducible refine WK.blP ?_ | with_reducible refine WK.blE ?_ | with_reducible refine WK.blO rfl ?_ | with_reducible refine WK.thJ ?_)
  refine WC.ret ?_
  repeat (first | with_reducible refine WK.thN ?_ | with_reducible refine WK.thR ?_ | with_reducible refine WK.thE ?_ | with_reducible refine WK.thP ?_ | with_reducible refine WK.blN ?_ | with_reducible refine WK.blR ?_ | with_reducible refine WK.blP ?_ | with_reducible refine WK.blE ?_ | with_reducible refine WK.blO rfl ?_ | with_reducible refine WK.thJ ?_)
  exact QF.p1 (.inl rfl) rfl (.tmp rfl) (⟨rfl, Gh.le_trans hg1 (Gh.le_trans hg2 hg3), rfl⟩) (by repeat (first | exact Pk.nil | exact Pk.all | exact Pk.app | exact Pk.appR | with_reducible apply Pk.na | (apply Pk.cons; (repeat first | exact .here | apply Rem.there | apply Rem.app)) | apply Pk.skip | apply Pk.skipA))

theorem numbers_12 (G : Gh) (a b o : Int) (ho0 : 0 ≤ o) (ho1 : o ≤ 255) (hi : o.tmod 7 = 6) : Fn Try.prog 5 #[.int .i64 a, .int .i64 b, .int .u8 o] G [] fun e G' H' => e = .returned (.bool true) ∧ G.le G' ∧ H' = [] := by
  have hrun : runR (twoP (numV a) (numV b) 12 2) 0 9 [] = ⟨1, truthV (a == b), [], 4⟩ := run_two (vOK_num a) (vOK_num b) (by decide) (by rw [← eq_num a b]; simp [plainR, onB, pop2, numV]) (by decide) rfl
  refine Fn.enter Try.func5 rfl rfl fun w0 => ?_
  refine WC.seq ?_
  refine WC.region ?_
  refine WL.p (Gp.assign rfl) (by kernel_rfl) rfl ?_
  refine WL.nil ?_
  repeat (first | with_reducible refine WK.thN ?_ | with_reducible refine WK.thR ?_ | with_reducible refine WK.thE ?_ | with_reducible refine WK.thP ?_ | with_reducible refine WK.blN ?_ | with_reducible refine WK.blR ?_ | with_reducible refine WK.blP ?_ | with_reducible refine WK.blE ?_ | with_reducible refine WK.blO rfl ?_ | with_reducible refine WK.thJ ?_)
  refine WC.seq ?_
  refine WC.region ?_
  refine WL.op (by kernel_rfl) (OW.buildSlice rfl (by kernel_rfl) (by kernel_rfl) (by rfl) rfl fun b1 => ?_)
  refine WL.p (Gp.assign rfl) (by kernel_rfl) rfl ?_
  refine WL.nil ?_
  repeat (first | with_reducible refine WK.thN ?_ | with_reducible refine WK.thR ?_ | with_reducible refine WK.thE ?_ | with_reducible refine WK.thP ?_ | with_reducible refine WK.blN ?_ | with_reducible refine WK.blR ?_ | with_reducible refine WK.blP ?_ | with_reducible refine WK.blE ?_ | with_reducible refine WK.blO rfl ?_ | with_reducible refine WK.thJ ?_)
  refine WC.seq ?_
  refine WC.region ?_
  refine WL.p (Gp.move rfl) (by kernel_rfl) rfl ?_
  refine WL.p (Gp.move rfl) (by kernel_rfl) rfl ?_
  refine WL.p (Gp.convI' rfl (wrap_small (x := o) (by omega) (by omega))) (by kernel_rfl) rfl ?_
  refine WL.p (Gp.move rfl) (by kernel_rfl) rfl ?_
  (first | refine WL.p (Gp.lenSl rfl) (by kernel_rfl) rfl ?_ | refine WL.p (Gp.lenS rfl) (by kernel_rfl) rfl ?_)
  refine WL.p (Gp.rem' rfl rfl (by decide) hi) (by kernel_rfl) rfl ?_
  refine WL.p (Gp.indexAddr rfl rfl (by first | assumption | omega | decide) (by first | assumption | omega | decide | (simp only [List.length_cons, List.length_nil]; decide))) (by kernel_rfl) rfl ?_
  refine WL.v (Gv.load1 rfl .here rfl) (by kernel_rfl) rfl ?_
  refine WL.p (Gp.assign rfl) (by kernel_rfl) rfl ?_
  refine WL.nil ?_
  repeat (first | with_reducible refine WK.thN ?_ | with_reducible refine WK.thR ?_ | with_reducible refine WK.thE ?_ | with_reducible refine WK.thP ?_ | with_reducible refine WK.blN ?_ | with_reducible refine WK.blR ?_ | with_reducible refine WK.blP ?_ | with_reducible refine WK.blE ?_ | with_reducible refine WK.blO rfl ?_ | with_reducible refine WK.thJ ?_)
  refine WC.seq ?_
  refine WC.region ?_
  refine WL.p (Gp.assign rfl) (by kernel_rfl) rfl ?_
  refine WL.nil ?_
  repeat (first | with_reducible refine WK.thN ?_ | with_reducible refine WK.thR ?_ | with_reducible refine WK.thE ?_ | with_reducible refine WK.thP ?_ | with_reducible refine WK.blN ?_ | with_reducible refine WK.blR ?_ | with_reducible refine WK.blP ?_ | with_reducible refine WK.blE ?_ | with_reducible refine WK.blO rfl ?_ | with_reducible refine WK.thJ ?_)
  refine WC.seq ?_
  refine WC.seq ?_
  refine WC.region ?_
  refine WL.p (Gp.move rfl) (by kernel_rfl) rfl ?_
  (first | refine WL.p (Gp.eqI rfl rfl) (by kernel_rfl) rfl ?_ | refine WL.p (Gp.eqS rfl rfl) (by kernel_rfl) rfl ?_ | refine WL.p (Gp.nilSl rfl) (by kernel_rfl) rfl ?_ | refine WL.p (Gp.eqB rfl rfl) (by kernel_rfl) rfl ?_)
  refine WL.p (Gp.move rfl) (by kernel_rfl) rfl ?_
  refine WL.p (Gp.move rfl) (by kernel_rfl) rfl ?_
  (first | refine WL.p (Gp.eqI rfl rfl) (by kernel_rfl) rfl ?_ | refine WL.p (Gp.eqS rfl rfl) (by kernel_rfl) rfl ?_ | refine WL.p (Gp.nilSl rfl) (by kernel_rfl) rfl ?_ | refine WL.p (Gp.eqB rfl rfl) (by kernel_rfl) rfl ?_)
  (first | refine WL.p (Gp.pickT rfl rfl) (by kernel_rfl) rfl ?_ | refine WL.p (Gp.pickF rfl rfl) (by kernel_rfl) rfl ?_)
  refine WL.nil ?_
  repeat (first | with_reducible refine WK.thN ?_ | with_reducible refine WK.thR ?_ | with_reducible refine WK.thE ?_ | with_reducible refine WK.thP ?_ | with_reducible refine WK.blN ?_ | with_reducible refine WK.blR ?_ | with_reducible refine WK.blP ?_ | with_reducible refine WK.blE ?_ | with_reducible refine WK.blO rfl ?_ | with_reducible refine WK.thJ ?_)
  refine WC.cond_true rfl ?_
  refine WC.region ?_
  refine WL.p (Gp.assign rfl) (by kernel_rfl) rfl ?_
  refine WL.nil ?_
  repeat (first | with_reducible refine WK.thN ?_ | with_reducible refine WK.thR ?_ | with_reducible refine WK.thE ?_ | with_reducible refine WK.thP ?_ | with_reducible refine WK.blN ?_ | with_reducible refine WK.blR ?_ | with_reducible refine WK.blP ?_ | with_reducible refine WK.blE ?_ | with_reducible refine WK.blO rfl ?_ | with_reducible refine WK.thJ ?_)
  refine WC.seq ?_
  refine WC.region ?_
  refine WL.p (Gp.move rfl) (by kernel_rfl) rfl ?_
  refine WL.op (by kernel_rfl) (OW.callR rfl (Hf := []) (List.Perm.refl _) (lnumber_fn G a) rfl (by rintro e G' H' ⟨h, _⟩; exact ⟨_, h⟩) fun v' G' H' h hg => ?_)
  obtain ⟨he, rfl, rfl⟩ := h
  cases he
  refine WL.p (Gp.move rfl) (by kernel_rfl) rfl ?_
  refine WL.op (by kernel_rfl) (OW.callR rfl (Hf := []) (List.Perm.refl _) (lnumber_fn G b) rfl (by rintro e G' H' ⟨h, _⟩; exact ⟨_, h⟩) fun v' G' H' h hg => ?_)
  obtain ⟨he, rfl, rfl⟩ := h
  cases he
  refine WL.p (Gp.move rfl) (by kernel_rfl) rfl ?_
  refine WL.p (Gp.move rfl) (by kernel_rfl) rfl ?_
  refine WL.op (by kernel_rfl) (OW.callR rfl (Pk.perm (by repeat (first | exact Pk.nil | exact Pk.all | exact Pk.app | exact Pk.appR | with_reducible apply Pk.na | (apply Pk.cons; (repeat first | exact .here | apply Rem.there | apply Rem.app)) | apply Pk.skip | apply Pk.skipA))) (two_fn G (numV a) (numV b) 12 2) rfl (by intro e G' H' h; repeat (first | exact ⟨_, h.1⟩ | (obtain ⟨_, h⟩ := h))) fun v' G' H' h hg => ?_)
  obtain ⟨CA, PA, he, hg1, hC, hP, rfl⟩ := h
  cases he
  refine WL.op (by kernel_rfl) (OW.callR rfl (Pk.perm (by repeat (first | exact Pk.nil | exact Pk.all | exact Pk.app | exact Pk.appR | with_reducible apply Pk.na | (apply Pk.cons; (repeat first | exact .here | apply Rem.there | apply Rem.app)) | apply Pk.skip | apply Pk.skipA))) (Run_two G' (twoP (numV a) (numV b) 12 2) CA PA 2 1 _ hC hP (twoP_B _ _ _ _) _ hrun) rfl (by intro e G' H' h; repeat (first | exact ⟨_, h.1⟩ | (obtain ⟨_, h⟩ := h))) fun v' G' H' h hg => ?_)
  obtain ⟨A1, cap1, x1, he, hg2, hx1, rfl⟩ := h
  cases he
  refine WL.op (by kernel_rfl) (OW.alloc rfl fun b3 => ?_)
  refine WL.op (by kernel_rfl) (OW.store rfl rfl (by (repeat first | exact .here | apply At.there)) rfl (by rfl) (by rfl) (by kernel_rfl) (by rfl) ?_ rfl)
  refine WL.nil ?_
  repeat (first | with_reducible refine WK.thN ?_ | with_reducible refine WK.thR ?_ | with_reducible refine WK.thE ?_ | with_reducible refine WK.thP ?_ | with_reducible refine WK.blN ?_ | with_reducible refine WK.blR ?_ | with_reducible refine WK.blP ?_ | with_reducible refine WK.blE ?_ | with_reducible refine WK.blO rfl ?_ | with_reducible refine WK.thJ ?_)
  refine WC.seq ?_
  refine WC.seq ?_
  refine WC.region ?_
  refine WL.p (Gp.move rfl) (by kernel_rfl) rfl ?_
  (first | refine WL.p (Gp.eqI rfl rfl) (by kernel_rfl) rfl ?_ | refine WL.p (Gp.eqS rfl rfl) (by kernel_rfl) rfl ?_ | refine WL.p (Gp.nilSl rfl) (by kernel_rfl) rfl ?_ | refine WL.p (Gp.eqB rfl rfl) (by kernel_rfl) rfl ?_)
  refine WL.p (Gp.move rfl) (by kernel_rfl) rfl ?_
  refine WL.p (Gp.move rfl) (by kernel_rfl) rfl ?_
  (first | refine WL.p (Gp.eqI rfl rfl) (by kernel_rfl) rfl ?_ | refine WL.p (Gp.eqS rfl rfl) (by kernel_rfl) rfl ?_ | refine WL.p (Gp.nilSl rfl) (by kernel_rfl) rfl ?_ | refine WL.p (Gp.eqB rfl rfl) (by kernel_rfl) rfl ?_)
  (first | refine WL.p (Gp.pickT rfl rfl) (by kernel_rfl) rfl ?_ | refine WL.p (Gp.pickF rfl rfl) (by kernel_rfl) rfl ?_)
  refine WL.p (Gp.move rfl) (by kernel_rfl) rfl ?_
  refine WL.skip (by kernel_rfl) rfl ?_
  refine WL.skip (by kernel_rfl) rfl ?_
  (first | refine WL.p (Gp.pickT rfl rfl) (by kernel_rfl) rfl ?_ | refine WL.p (Gp.pickF rfl rfl) (by kernel_rfl) rfl ?_)
  refine WL.nil ?_
  repeat (first | with_reducible refine WK.thN ?_ | with_reducible refine WK.thR ?_ | with_reducible refine WK.thE ?_ | with_reducible refine WK.thP ?_ | with_reducible refine WK.blN ?_ | with_reducible refine WK.blR ?_ | with_reducible refine WK.blP ?_ | with_reducible refine WK.blE ?_ | with_reducible refine WK.blO rfl ?_ | with_reducible refine WK.thJ ?_)
  refine WC.cond_false rfl ?_
  refine WC.skip ?_
  repeat (first | with_reducible refine WK.thN ?_ | with_reducible refine WK.thR ?_ | with_reducible refine WK.thE ?_ | with_reducible refine WK.thP ?_ | with_reducible refine WK.blN ?_ | with_reducible refine WK.blR ?_ | with_reducible refine WK.blP ?_ | with_reducible refine WK.blE ?_ | with_reducible refine WK.blO rfl ?_ | with_reducible refine WK.thJ ?_)
  refine WC.seq ?_
  refine WC.region ?_
  refine WL.p (Gp.move rfl) (by kernel_rfl) rfl ?_
  refine WL.p (Gp.build rfl rfl) (by kernel_rfl) rfl ?_
  refine WL.op (by kernel_rfl) (OW.alloc rfl fun b5 => ?_)
  refine WL.op (by kernel_rfl) (OW.store rfl rfl (by (repeat first | exact .here | apply At.there)) rfl (by rfl) (by rfl) (by kernel_rfl) (by rfl) ?_ rfl)
  refine WL.nil ?_
  repeat (first | with_reducible refine WK.thN ?_ | with_reducible refine WK.thR ?_ | with_reducible refine WK.thE ?_ | with_reducible refine WK.thP ?_ | with_reducible refine WK.blN ?_ | with_reducible refine WK.blR ?_ | with_reducible refine WK.blP ?_ | with_reducible refine WK.blE ?_ | with_reducible refine WK.blO rfl ?_ | with_reducible refine WK.thJ ?_)
  refine WC.seq ?_
  refine WC.seq ?_
  refine WC.region ?_
  refine WL.p (Gp.move rfl) (by kernel_rfl) rfl ?_
  refine WL.nil ?_
  repeat (first | with_reducible refine WK.thN ?_ | with_reducible refine WK.thR ?_ | with_reducible refine WK.thE ?_ | with_reducible refine WK.thP ?_ | with_reducible refine WK.blN ?_ | with_reducible refine WK.blR ?_ | with_reducible refine WK.blP ?_ | with_reducible refine WK.blE ?_ | with_reducible refine WK.blO rfl ?_ | with_reducible refine WK.thJ ?_)
  repeat (first | refine WC.seq ?_ | refine WC.block ?_ | (refine WC.region ?_; refine WL.p (Gp.eqI rfl rfl) (by kernel_rfl) rfl ?_; refine WL.p (Gp.assign rfl) (by kernel_rfl) rfl ?_; refine WL.nil ?_; repeat (first | with_reducible refine WK.thN ?_ | with_reducible refine WK.thR ?_ | with_reducible refine WK.thE ?_ | with_reducible refine WK.thP ?_ | with_reducible refine WK.blN ?_ | with_reducible refine WK.blR ?_ | with_reducible refine WK.blP ?_ | with_reducible refine WK.blE ?_ | with_reducible refine WK.blO rfl ?_ | with_reducible refine WK.thJ ?_)) | refine WC.cond_true rfl ?_ | refine WC.cond_false rfl ?_ | (refine WC.skip ?_; repeat (first | with_reducible refine WK.thN ?_ | with_reducible refine WK.thR ?_ | with_reducible refine WK.thE ?_ | with_reducible refine WK.thP ?_ | with_reducible refine WK.blN ?_ | with_reducible refine WK.blR ?_ | with_reducible refine WK.blP ?_ | with_reducible refine WK.blE ?_ | with_reducible refine WK.blO rfl ?_ | with_reducible refine WK.thJ ?_)) | (refine WC.exit ?_; repeat (first | with_reducible refine WK.thN ?_ | with_reducible refine WK.thR ?_ | with_reducible refine WK.thE ?_ | with_reducible refine WK.thP ?_ | with_reducible refine WK.blN ?_ | with_reducible refine WK.blR ?_ | with_reducible refine WK.blP ?_ | with_reducible refine WK.blE ?_ | with_reducible refine WK.blO rfl ?_ | with_reducible refine WK.thJ ?_)))
  refine WC.region ?_
  refine WL.p (Gp.move rfl) (by kernel_rfl) rfl ?_
  refine WL.p (Gp.move rfl) (by kernel_rfl) rfl ?_
  (first | refine WL.p (Gp.eqI rfl rfl) (by kernel_rfl) rfl ?_ | refine WL.p (Gp.eqS rfl rfl) (by kernel_rfl) rfl ?_ | refine WL.p (Gp.nilSl rfl) (by kernel_rfl) rfl ?_ | refine WL.p (Gp.eqB rfl rfl) (by kernel_rfl) rfl ?_)
  refine WL.p (Gp.fieldAddr rfl) (by kernel_rfl) rfl ?_
  refine WL.op (by kernel_rfl) (OW.store rfl rfl (by (repeat first | exact .here | apply At.there)) rfl (by rfl) (by rfl) (by kernel_rfl) (by rfl) ?_ rfl)
  refine WL.nil ?_
  repeat (first | with_reducible refine WK.thN ?_ | with_reducible refine WK.thR ?_ | with_reducible refine WK.thE ?_ | with_reducible refine WK.thP ?_ | with_reducible refine WK.blN ?_ | with_reducible refine WK.blR ?_ | with_reducible refine WK.blP ?_ | with_reducible refine WK.blE ?_ | with_reducible refine WK.blO rfl ?_ | with_reducible refine WK.thJ ?_)
  refine WC.seq ?_
  refine WC.region ?_
  refine WL.p (Gp.fieldAddr rfl) (by kernel_rfl) rfl ?_
  refine WL.v (Gv.load1 rfl (by (repeat first | exact .here | apply At.there)) rfl) (by kernel_rfl) rfl ?_
  (first | refine WL.p (Gp.eqI rfl rfl) (by kernel_rfl) rfl ?_ | refine WL.p (Gp.eqS rfl rfl) (by kernel_rfl) rfl ?_ | refine WL.p (Gp.nilSl rfl) (by kernel_rfl) rfl ?_ | refine WL.p (Gp.eqB rfl rfl) (by kernel_rfl) rfl ?_)
  refine WL.p (Gp.move rfl) (by kernel_rfl) rfl ?_
  refine WL.p (Gp.fieldAddr rfl) (by kernel_rfl) rfl ?_
  refine WL.v (Gv.loadN rfl (by (repeat first | exact .here | apply At.there)) rfl rfl) (by kernel_rfl) rfl ?_
  refine WL.v (Gv.loadN rfl (by (repeat first | exact .here | apply At.there)) rfl rfl) (by kernel_rfl) rfl ?_
  refine WL.p (Gp.eqVr (r := true) (u := truthV (a == b)) (v := truthV (a == b)) rfl rfl (by simp)) (by kernel_rfl) rfl ?_
  (first | refine WL.p (Gp.pickT rfl rfl) (by kernel_rfl) rfl ?_ | refine WL.p (Gp.pickF rfl rfl) (by kernel_rfl) rfl ?_)
  refine WL.p (Gp.move rfl) (by kernel_rfl) rfl ?_
  refine WL.op (by kernel_rfl) (OW.callR rfl (Pk.perm (by repeat (first | exact Pk.nil | exact Pk.all | exact Pk.app | exact Pk.appR | with_reducible apply Pk.na | (apply Pk.cons; (repeat first | exact .here | apply Rem.there | apply Rem.app)) | apply Pk.skip | apply Pk.skipA))) (awake_fn _) rfl (by intro e G' H' h; repeat (first | exact ⟨_, h.1⟩ | (obtain ⟨_, h⟩ := h))) fun v' G' H' h hg => ?_)
  obtain ⟨he, hg3, rfl⟩ := h
  cases he
  (first | refine WL.p (Gp.pickT rfl rfl) (by kernel_rfl) rfl ?_ | refine WL.p (Gp.pickF rfl rfl) (by kernel_rfl) rfl ?_)
  refine WL.p (Gp.assign rfl) (by kernel_rfl) rfl ?_
  refine WL.nil ?_
  repeat (first | with_reducible refine WK.thN ?_ | with_reducible refine WK.thR ?_ | with_reducible refine WK.thE ?_ | with_reducible refine WK.thP ?_ | with_reducible refine WK.blN ?_ | with_reducible refine WK.blR ?_ | with_reducible refine WK.blP ?_ | with_reducible refine WK.blE ?_ | with_reducible refine WK.blO rfl ?_ | with_reducible refine WK.thJ ?_)
  refine WC.ret ?_
  repeat (first | with_reducible refine WK.thN ?_ | with_reducible refine WK.thR ?_ | with_reducible refine WK.thE ?_ | with_reducible refine WK.thP ?_ | with_reducible refine WK.blN ?_ | with_reducible refine WK.blR ?_ | with_reducible refine WK.blP ?_ | with_reducible refine WK.blE ?_ | with_reducible refine WK.blO rfl ?_ | with_reducible refine WK.thJ ?_)
  exact QF.p1 (.inl rfl) rfl (.tmp rfl) (⟨rfl, Gh.le_trans hg1 (Gh.le_trans hg2 hg3), rfl⟩) (by repeat (first | exact Pk.nil | exact Pk.all | exact Pk.app | exact Pk.appR | with_reducible apply Pk.na | (apply Pk.cons; (repeat first | exact .here | apply Rem.there | apply Rem.app)) | apply Pk.skip | apply Pk.skipA))


end Go.Proofs.Ytjgohbepageicaa.Gb
