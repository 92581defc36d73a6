/- Two texts, as the statement has them. -/
import Derived.Test.YtjgohbepageicaaXd
namespace Go.Proofs.Ytjgohbepageicaa.Gb
open Go Go.Proofs
set_option linter.unusedVariables false
set_option linter.unusedSimpArgs false
set_option linter.unusedSectionVars false

section
variable {L : List (Nat × Value)} {d : Option Tmp} {ty : TypeId} {pos : String} {af : Array Edge} {gu : Option (Nat × Bool)}
theorem Gp.eqVt {x y : Operand} {t' : TypeId} {u v : V} {r : Bool} (hx : ev L x = some (.agg #[.int .i64 u.t, .int .i64 u.i, .bool u.b, .string u.s])) (hy : ev L y = some (.agg #[.int .i64 v.t, .int .i64 v.i, .bool v.b, .string v.s])) (h : decide (u = v) = r) :
    Gp Try.prog L ⟨d, .binOp .eql 33 x y t', ty, pos, af, gu⟩ (.bool r) := h ▸ Gp.eqV hx hy
theorem Gp.remt {P : Program} {t t' : TypeId} {x y : Operand} {k : IntKind} {m n r : Int} (hx : ev L x = some (.int k m)) (hy : ev L y = some (.int k n)) (hn : n ≠ 0) (h : m.tmod n = r) : Gp P L ⟨d, .binOp .rem t x y t', ty, pos, af, gu⟩ (.int k r) := h ▸ Gp.rem hx hy hn
theorem Gp.convIt {P : Program} {s t : TypeId} {x : Operand} {k k' : IntKind} {m r : Int} {ds : TypeDesc} (hx : ev L x = some (.int k m)) [hs : Und P s ds] [ht : Und P t (.int k')] (h : k'.wrap m = r) : Gp P L ⟨d, .convert s t x, ty, pos, af, gu⟩ (.int k' r) := h ▸ Gp.convI hx
end
theorem ordN_textL (a b : ByteArray) : decide (ordN (textV a) (textV b) < 0) = Op.bytesLess a.toList b.toList := by
  unfold ordN cmpI cmpS textV
  simp only
  cases h1 : Op.bytesLess a.toList b.toList <;> cases h2 : Op.bytesLess b.toList a.toList <;> simp
theorem ordN_textG (a b : ByteArray) : decide (0 ≤ ordN (textV a) (textV b)) = !Op.bytesLess a.toList b.toList := by
  unfold ordN cmpI cmpS textV
  simp only
  cases h1 : Op.bytesLess a.toList b.toList <;> cases h2 : Op.bytesLess b.toList a.toList <;> simp
theorem ne_text (a b : ByteArray) : (!decide (textV a = textV b)) = !(a == b) := by
  by_cases h : a = b
  · subst h; simp [bytes_beq]
  · simp [textV, h, bytes_beq]
attribute [local irreducible] Try.prog

theorem texts_la (G : Gh) (a b : ByteArray) (o : Int) (ho0 : 0 ≤ o) (ho1 : o ≤ 255) (ha : 4096 < (a.size : Int)) : Fn Try.prog 6 #[.string a, .string b, .int .u8 o] G [] fun e G' H' => e = .returned (.bool true) ∧ G.le G' ∧ H' = [] := by
  refine Fn.enter Try.func6 rfl rfl fun w0 => ?_
  refine WC.seq ?_
  refine WC.region ?_
  refine WL.p (Gp.assign rfl) (by kernel_rfl) rfl ?_
  refine WL.nil ?_
  repeat (first | with_reducible refine WK.thN ?_ | with_reducible refine WK.thR ?_ | with_reducible refine WK.thE ?_ | with_reducible refine WK.thP ?_ | with_reducible refine WK.blN ?_ | with_reducible refine WK.blR ?_ | with_reducible refine WK.blP ?_ | with_reducible refine WK.blE ?_ | with_reducible refine WK.blO rfl ?_ | with_reducible refine WK.thJ ?_)
  refine WC.seq ?_
  refine WC.seq ?_
  refine WC.region ?_
  refine WL.p (Gp.move rfl) (by kernel_rfl) rfl ?_
  (first | refine WL.p (Gp.lenSl rfl) (by kernel_rfl) rfl ?_ | refine WL.p (Gp.lenS rfl) (by kernel_rfl) rfl ?_)
  refine WL.p (Gp.gtI' (r := true) rfl rfl (by simp; omega)) (by kernel_rfl) rfl ?_
  refine WL.p (Gp.move rfl) (by kernel_rfl) rfl ?_
  refine WL.skip (by kernel_rfl) rfl ?_
  refine WL.skip (by kernel_rfl) rfl ?_
  refine WL.skip (by kernel_rfl) rfl ?_
  (first | refine WL.p (Gp.pickT rfl rfl) (by kernel_rfl) rfl ?_ | refine WL.p (Gp.pickF rfl rfl) (by kernel_rfl) rfl ?_)
  refine WL.nil ?_
  repeat (first | with_reducible refine WK.thN ?_ | with_reducible refine WK.thR ?_ | with_reducible refine WK.thE ?_ | with_reducible refine WK.thP ?_ | with_reducible refine WK.blN ?_ | with_reducible refine WK.blR ?_ | with_reducible refine WK.blP ?_ | with_reducible refine WK.blE ?_ | with_reducible refine WK.blO rfl ?_ | with_reducible refine WK.thJ ?_)
  refine WC.cond_true rfl ?_
  refine WC.seq ?_
  refine WC.region ?_
  refine WL.op (by kernel_rfl) (OW.callR rfl (Pk.perm (by repeat (first | exact Pk.nil | exact Pk.all | exact Pk.app | exact Pk.appR | with_reducible apply Pk.na | (apply Pk.cons; (repeat first | exact .here | apply Rem.there | apply Rem.app)) | apply Pk.skip | apply Pk.skipA))) (awake_fn _) rfl (by intro e G' H' h; repeat (first | exact ⟨_, h.1⟩ | (obtain ⟨_, h⟩ := h))) fun v' G' H' h hg => ?_)
  obtain ⟨he, hg3, rfl⟩ := h
  cases he
  refine WL.p (Gp.assign rfl) (by kernel_rfl) rfl ?_
  refine WL.nil ?_
  repeat (first | with_reducible refine WK.thN ?_ | with_reducible refine WK.thR ?_ | with_reducible refine WK.thE ?_ | with_reducible refine WK.thP ?_ | with_reducible refine WK.blN ?_ | with_reducible refine WK.blR ?_ | with_reducible refine WK.blP ?_ | with_reducible refine WK.blE ?_ | with_reducible refine WK.blO rfl ?_ | with_reducible refine WK.thJ ?_)
  refine WC.ret ?_
  repeat (first | with_reducible refine WK.thN ?_ | with_reducible refine WK.thR ?_ | with_reducible refine WK.thE ?_ | with_reducible refine WK.thP ?_ | with_reducible refine WK.blN ?_ | with_reducible refine WK.blR ?_ | with_reducible refine WK.blP ?_ | with_reducible refine WK.blE ?_ | with_reducible refine WK.blO rfl ?_ | with_reducible refine WK.thJ ?_)
  exact QF.p1 (.inl rfl) rfl (.tmp rfl) (⟨rfl, hg3, rfl⟩) (by repeat (first | exact Pk.nil | exact Pk.all | exact Pk.app | exact Pk.appR | with_reducible apply Pk.na | (apply Pk.cons; (repeat first | exact .here | apply Rem.there | apply Rem.app)) | apply Pk.skip | apply Pk.skipA))

theorem texts_lb (G : Gh) (a b : ByteArray) (o : Int) (ho0 : 0 ≤ o) (ho1 : o ≤ 255) (ha : (a.size : Int) ≤ 4096) (hb : 4096 < (b.size : Int)) : Fn Try.prog 6 #[.string a, .string b, .int .u8 o] G [] fun e G' H' => e = .returned (.bool true) ∧ G.le G' ∧ H' = [] := by
  refine Fn.enter Try.func6 rfl rfl fun w0 => ?_
  refine WC.seq ?_
  refine WC.region ?_
  refine WL.p (Gp.assign rfl) (by kernel_rfl) rfl ?_
  refine WL.nil ?_
  repeat (first | with_reducible refine WK.thN ?_ | with_reducible refine WK.thR ?_ | with_reducible refine WK.thE ?_ | with_reducible refine WK.thP ?_ | with_reducible refine WK.blN ?_ | with_reducible refine WK.blR ?_ | with_reducible refine WK.blP ?_ | with_reducible refine WK.blE ?_ | with_reducible refine WK.blO rfl ?_ | with_reducible refine WK.thJ ?_)
  refine WC.seq ?_
  refine WC.seq ?_
  refine WC.region ?_
  refine WL.p (Gp.move rfl) (by kernel_rfl) rfl ?_
  (first | refine WL.p (Gp.lenSl rfl) (by kernel_rfl) rfl ?_ | refine WL.p (Gp.lenS rfl) (by kernel_rfl) rfl ?_)
  refine WL.p (Gp.gtI' (r := false) rfl rfl (by simp; omega)) (by kernel_rfl) rfl ?_
  refine WL.p (Gp.move rfl) (by kernel_rfl) rfl ?_
  refine WL.p (Gp.move rfl) (by kernel_rfl) rfl ?_
  (first | refine WL.p (Gp.lenSl rfl) (by kernel_rfl) rfl ?_ | refine WL.p (Gp.lenS rfl) (by kernel_rfl) rfl ?_)
  refine WL.p (Gp.gtI' (r := true) rfl rfl (by simp; omega)) (by kernel_rfl) rfl ?_
  (first | refine WL.p (Gp.pickT rfl rfl) (by kernel_rfl) rfl ?_ | refine WL.p (Gp.pickF rfl rfl) (by kernel_rfl) rfl ?_)
  refine WL.nil ?_
  repeat (first | with_reducible refine WK.thN ?_ | with_reducible refine WK.thR ?_ | with_reducible refine WK.thE ?_ | with_reducible refine WK.thP ?_ | with_reducible refine WK.blN ?_ | with_reducible refine WK.blR ?_ | with_reducible refine WK.blP ?_ | with_reducible refine WK.blE ?_ | with_reducible refine WK.blO rfl ?_ | with_reducible refine WK.thJ ?_)
  refine WC.cond_true rfl ?_
  refine WC.seq ?_
  refine WC.region ?_
  refine WL.op (by kernel_rfl) (OW.callR rfl (Pk.perm (by repeat (first | exact Pk.nil | exact Pk.all | exact Pk.app | exact Pk.appR | with_reducible apply Pk.na | (apply Pk.cons; (repeat first | exact .here | apply Rem.there | apply Rem.app)) | apply Pk.skip | apply Pk.skipA))) (awake_fn _) rfl (by intro e G' H' h; repeat (first | exact ⟨_, h.1⟩ | (obtain ⟨_, h⟩ := h))) fun v' G' H' h hg => ?_)
  obtain ⟨he, hg3, rfl⟩ := h
  cases he
  refine WL.p (Gp.assign rfl) (by kernel_rfl) rfl ?_
  refine WL.nil ?_
  repeat (first | with_reducible refine WK.thN ?_ | with_reducible refine WK.thR ?_ | with_reducible refine WK.thE ?_ | with_reducible refine WK.thP ?_ | with_reducible refine WK.blN ?_ | with_reducible refine WK.blR ?_ | with_reducible refine WK.blP ?_ | with_reducible refine WK.blE ?_ | with_reducible refine WK.blO rfl ?_ | with_reducible refine WK.thJ ?_)
  refine WC.ret ?_
  repeat (first | with_reducible refine WK.thN ?_ | with_reducible refine WK.thR ?_ | with_reducible refine WK.thE ?_ | with_reducible refine WK.thP ?_ | with_reducible refine WK.blN ?_ | with_reducible refine WK.blR ?_ | with_reducible refine WK.blP ?_ | with_reducible refine WK.blE ?_ | with_reducible refine WK.blO rfl ?_ | with_reducible refine WK.thJ ?_)
  exact QF.p1 (.inl rfl) rfl (.tmp rfl) (⟨rfl, hg3, rfl⟩) (by repeat (first | exact Pk.nil | exact Pk.all | exact Pk.app | exact Pk.appR | with_reducible apply Pk.na | (apply Pk.cons; (repeat first | exact .here | apply Rem.there | apply Rem.app)) | apply Pk.skip | apply Pk.skipA))

theorem texts_jh (G : Gh) (a b : ByteArray) (o : Int) (ho0 : 0 ≤ o) (ho1 : o ≤ 255) (ha : (a.size : Int) ≤ 4096) (hb : (b.size : Int) ≤ 4096) (hi : o.tmod 4 = 0) (hs : 4096 < (a.size : Int) + b.size) : Fn Try.prog 6 #[.string a, .string b, .int .u8 o] G [] fun e G' H' => e = .returned (.bool true) ∧ G.le G' ∧ H' = [] := by
  have hrun : runR (twoP (textV a) (textV b) 20 3) 0 9 [] = ⟨3, V0, [], 3⟩ := run_twoH (vOK_text (by omega)) (vOK_text (by omega)) (by decide) (by simp [plainR, on2, ty2, pop2, textV]; omega)
  refine Fn.enter Try.func6 rfl rfl fun w0 => ?_
  refine WC.seq ?_
  refine WC.region ?_
  refine WL.p (Gp.assign rfl) (by kernel_rfl) rfl ?_
  refine WL.nil ?_
  repeat (first | with_reducible refine WK.thN ?_ | with_reducible refine WK.thR ?_ | with_reducible refine WK.thE ?_ | with_reducible refine WK.thP ?_ | with_reducible refine WK.blN ?_ | with_reducible refine WK.blR ?_ | with_reducible refine WK.blP ?_ | with_reducible refine WK.blE ?_ | with_reducible refine WK.blO rfl ?_ | with_reducible refine WK.thJ ?_)
  refine WC.seq ?_
  refine WC.seq ?_
  refine WC.region ?_
  refine WL.p (Gp.move rfl) (by kernel_rfl) rfl ?_
  (first | refine WL.p (Gp.lenSl rfl) (by kernel_rfl) rfl ?_ | refine WL.p (Gp.lenS rfl) (by kernel_rfl) rfl ?_)
  refine WL.p (Gp.gtI' (r := false) rfl rfl (by simp; omega)) (by kernel_rfl) rfl ?_
  refine WL.p (Gp.move rfl) (by kernel_rfl) rfl ?_
  refine WL.p (Gp.move rfl) (by kernel_rfl) rfl ?_
  (first | refine WL.p (Gp.lenSl rfl) (by kernel_rfl) rfl ?_ | refine WL.p (Gp.lenS rfl) (by kernel_rfl) rfl ?_)
  refine WL.p (Gp.gtI' (r := false) rfl rfl (by simp; omega)) (by kernel_rfl) rfl ?_
  (first | refine WL.p (Gp.pickT rfl rfl) (by kernel_rfl) rfl ?_ | refine WL.p (Gp.pickF rfl rfl) (by kernel_rfl) rfl ?_)
  refine WL.nil ?_
  repeat (first | with_reducible refine WK.thN ?_ | with_reducible refine WK.thR ?_ | with_reducible refine WK.thE ?_ | with_reducible refine WK.thP ?_ | with_reducible refine WK.blN ?_ | with_reducible refine WK.blR ?_ | with_reducible refine WK.blP ?_ | with_reducible refine WK.blE ?_ | with_reducible refine WK.blO rfl ?_ | with_reducible refine WK.thJ ?_)
  refine WC.cond_false rfl ?_
  refine WC.skip ?_
  repeat (first | with_reducible refine WK.thN ?_ | with_reducible refine WK.thR ?_ | with_reducible refine WK.thE ?_ | with_reducible refine WK.thP ?_ | with_reducible refine WK.blN ?_ | with_reducible refine WK.blR ?_ | with_reducible refine WK.blP ?_ | with_reducible refine WK.blE ?_ | with_reducible refine WK.blO rfl ?_ | with_reducible refine WK.thJ ?_)
  refine WC.seq ?_
  refine WC.region ?_
  refine WL.op (by kernel_rfl) (OW.buildSlice rfl (by kernel_rfl) (by kernel_rfl) (by rfl) rfl fun b1 => ?_)
  refine WL.p (Gp.assign rfl) (by kernel_rfl) rfl ?_
  refine WL.nil ?_
  repeat (first | with_reducible refine WK.thN ?_ | with_reducible refine WK.thR ?_ | with_reducible refine WK.thE ?_ | with_reducible refine WK.thP ?_ | with_reducible refine WK.blN ?_ | with_reducible refine WK.blR ?_ | with_reducible refine WK.blP ?_ | with_reducible refine WK.blE ?_ | with_reducible refine WK.blO rfl ?_ | with_reducible refine WK.thJ ?_)
  refine WC.seq ?_
  refine WC.region ?_
  refine WL.p (Gp.move rfl) (by kernel_rfl) rfl ?_
  refine WL.p (Gp.move rfl) (by kernel_rfl) rfl ?_
  refine WL.p (Gp.convIt rfl (wrap_small (x := o) (by omega) (by omega))) (by kernel_rfl) rfl ?_
  refine WL.p (Gp.move rfl) (by kernel_rfl) rfl ?_
  (first | refine WL.p (Gp.lenSl rfl) (by kernel_rfl) rfl ?_ | refine WL.p (Gp.lenS rfl) (by kernel_rfl) rfl ?_)
  refine WL.p (Gp.remt rfl rfl (by decide) hi) (by kernel_rfl) rfl ?_
  refine WL.p (Gp.indexAddr rfl rfl (by first | assumption | omega | decide) (by first | assumption | omega | decide | (simp only [List.length_cons, List.length_nil]; decide))) (by kernel_rfl) rfl ?_
  refine WL.v (Gv.load1 rfl .here rfl) (by kernel_rfl) rfl ?_
  refine WL.p (Gp.assign rfl) (by kernel_rfl) rfl ?_
  refine WL.nil ?_
  repeat (first | with_reducible refine WK.thN ?_ | with_reducible refine WK.thR ?_ | with_reducible refine WK.thE ?_ | with_reducible refine WK.thP ?_ | with_reducible refine WK.blN ?_ | with_reducible refine WK.blR ?_ | with_reducible refine WK.blP ?_ | with_reducible refine WK.blE ?_ | with_reducible refine WK.blO rfl ?_ | with_reducible refine WK.thJ ?_)
  refine WC.seq ?_
  refine WC.region ?_
  refine WL.p (Gp.assign rfl) (by kernel_rfl) rfl ?_
  refine WL.nil ?_
  repeat (first | with_reducible refine WK.thN ?_ | with_reducible refine WK.thR ?_ | with_reducible refine WK.thE ?_ | with_reducible refine WK.thP ?_ | with_reducible refine WK.blN ?_ | with_reducible refine WK.blR ?_ | with_reducible refine WK.blP ?_ | with_reducible refine WK.blE ?_ | with_reducible refine WK.blO rfl ?_ | with_reducible refine WK.thJ ?_)
  refine WC.seq ?_
  refine WC.seq ?_
  refine WC.region ?_
  refine WL.p (Gp.move rfl) (by kernel_rfl) rfl ?_
  (first | refine WL.p (Gp.eqI rfl rfl) (by kernel_rfl) rfl ?_ | refine WL.p (Gp.eqS rfl rfl) (by kernel_rfl) rfl ?_ | refine WL.p (Gp.nilSl rfl) (by kernel_rfl) rfl ?_ | refine WL.p (Gp.eqB rfl rfl) (by kernel_rfl) rfl ?_)
  refine WL.nil ?_
  repeat (first | with_reducible refine WK.thN ?_ | with_reducible refine WK.thR ?_ | with_reducible refine WK.thE ?_ | with_reducible refine WK.thP ?_ | with_reducible refine WK.blN ?_ | with_reducible refine WK.blR ?_ | with_reducible refine WK.blP ?_ | with_reducible refine WK.blE ?_ | with_reducible refine WK.blO rfl ?_ | with_reducible refine WK.thJ ?_)
  refine WC.cond_true rfl ?_
  refine WC.region ?_
  refine WL.p (Gp.assign rfl) (by kernel_rfl) rfl ?_
  refine WL.nil ?_
  repeat (first | with_reducible refine WK.thN ?_ | with_reducible refine WK.thR ?_ | with_reducible refine WK.thE ?_ | with_reducible refine WK.thP ?_ | with_reducible refine WK.blN ?_ | with_reducible refine WK.blR ?_ | with_reducible refine WK.blP ?_ | with_reducible refine WK.blE ?_ | with_reducible refine WK.blO rfl ?_ | with_reducible refine WK.thJ ?_)
  refine WC.seq ?_
  refine WC.region ?_
  refine WL.p (Gp.move rfl) (by kernel_rfl) rfl ?_
  refine WL.op (by kernel_rfl) (OW.callR rfl (Hf := []) (List.Perm.refl _) (ltext_fn G a) rfl (by rintro e G' H' ⟨h, _⟩; exact ⟨_, h⟩) fun v' G' H' h hg => ?_)
  obtain ⟨he, rfl, rfl⟩ := h
  cases he
  refine WL.p (Gp.move rfl) (by kernel_rfl) rfl ?_
  refine WL.op (by kernel_rfl) (OW.callR rfl (Hf := []) (List.Perm.refl _) (ltext_fn G b) rfl (by rintro e G' H' ⟨h, _⟩; exact ⟨_, h⟩) fun v' G' H' h hg => ?_)
  obtain ⟨he, rfl, rfl⟩ := h
  cases he
  refine WL.p (Gp.move rfl) (by kernel_rfl) rfl ?_
  refine WL.p (Gp.move rfl) (by kernel_rfl) rfl ?_
  refine WL.op (by kernel_rfl) (OW.callR rfl (Pk.perm (by repeat (first | exact Pk.nil | exact Pk.all | exact Pk.app | exact Pk.appR | with_reducible apply Pk.na | (apply Pk.cons; (repeat first | exact .here | apply Rem.there | apply Rem.app)) | apply Pk.skip | apply Pk.skipA))) (two_fn G (textV a) (textV b) 20 3) rfl (by intro e G' H' h; repeat (first | exact ⟨_, h.1⟩ | (obtain ⟨_, h⟩ := h))) fun v' G' H' h hg => ?_)
  obtain ⟨CA, PA, he, hg1, hC, hP, rfl⟩ := h
  cases he
  refine WL.op (by kernel_rfl) (OW.callR rfl (Pk.perm (by repeat (first | exact Pk.nil | exact Pk.all | exact Pk.app | exact Pk.appR | with_reducible apply Pk.na | (apply Pk.cons; (repeat first | exact .here | apply Rem.there | apply Rem.app)) | apply Pk.skip | apply Pk.skipA))) (Run_two G' (twoP (textV a) (textV b) 20 3) CA PA 2 1 _ hC hP (twoP_B _ _ _ _) _ hrun) rfl (by intro e G' H' h; repeat (first | exact ⟨_, h.1⟩ | (obtain ⟨_, h⟩ := h))) fun v' G' H' h hg => ?_)
  obtain ⟨A1, cap1, x1, he, hg2, hx1, rfl⟩ := h
  cases he
  refine WL.op (by kernel_rfl) (OW.alloc rfl fun b3 => ?_)
  refine WL.op (by kernel_rfl) (OW.store rfl rfl (by (repeat first | exact .here | apply At.there)) rfl (by rfl) (by rfl) (by kernel_rfl) (by rfl) ?_ rfl)
  refine WL.nil ?_
  repeat (first | with_reducible refine WK.thN ?_ | with_reducible refine WK.thR ?_ | with_reducible refine WK.thE ?_ | with_reducible refine WK.thP ?_ | with_reducible refine WK.blN ?_ | with_reducible refine WK.blR ?_ | with_reducible refine WK.blP ?_ | with_reducible refine WK.blE ?_ | with_reducible refine WK.blO rfl ?_ | with_reducible refine WK.thJ ?_)
  refine WC.seq ?_
  refine WC.seq ?_
  refine WC.region ?_
  refine WL.p (Gp.move rfl) (by kernel_rfl) rfl ?_
  (first | refine WL.p (Gp.eqI rfl rfl) (by kernel_rfl) rfl ?_ | refine WL.p (Gp.eqS rfl rfl) (by kernel_rfl) rfl ?_ | refine WL.p (Gp.nilSl rfl) (by kernel_rfl) rfl ?_ | refine WL.p (Gp.eqB rfl rfl) (by kernel_rfl) rfl ?_)
  refine WL.p (Gp.move rfl) (by kernel_rfl) rfl ?_
  refine WL.p (Gp.move rfl) (by kernel_rfl) rfl ?_
  (first | refine WL.p (Gp.lenSl rfl) (by kernel_rfl) rfl ?_ | refine WL.p (Gp.lenS rfl) (by kernel_rfl) rfl ?_)
  refine WL.p (Gp.move rfl) (by kernel_rfl) rfl ?_
  (first | refine WL.p (Gp.lenSl rfl) (by kernel_rfl) rfl ?_ | refine WL.p (Gp.lenS rfl) (by kernel_rfl) rfl ?_)
  refine WL.p (Gp.add' rfl rfl (wrap_small (x := (a.size : Int) + b.size) (by omega) (by omega))) (by kernel_rfl) rfl ?_
  refine WL.p (Gp.gtI' (r := true) rfl rfl (by simp; omega)) (by kernel_rfl) rfl ?_
  (first | refine WL.p (Gp.pickT rfl rfl) (by kernel_rfl) rfl ?_ | refine WL.p (Gp.pickF rfl rfl) (by kernel_rfl) rfl ?_)
  refine WL.nil ?_
  repeat (first | with_reducible refine WK.thN ?_ | with_reducible refine WK.thR ?_ | with_reducible refine WK.thE ?_ | with_reducible refine WK.thP ?_ | with_reducible refine WK.blN ?_ | with_reducible refine WK.blR ?_ | with_reducible refine WK.blP ?_ | with_reducible refine WK.blE ?_ | with_reducible refine WK.blO rfl ?_ | with_reducible refine WK.thJ ?_)
  refine WC.cond_true rfl ?_
  refine WC.seq ?_
  refine WC.region ?_
  refine WL.p (Gp.fieldAddr rfl) (by kernel_rfl) rfl ?_
  refine WL.v (Gv.load1 rfl (by (repeat first | exact .here | apply At.there)) rfl) (by kernel_rfl) rfl ?_
  (first | refine WL.p (Gp.eqI rfl rfl) (by kernel_rfl) rfl ?_ | refine WL.p (Gp.eqS rfl rfl) (by kernel_rfl) rfl ?_ | refine WL.p (Gp.nilSl rfl) (by kernel_rfl) rfl ?_ | refine WL.p (Gp.eqB rfl rfl) (by kernel_rfl) rfl ?_)
  refine WL.p (Gp.move rfl) (by kernel_rfl) rfl ?_
  refine WL.op (by kernel_rfl) (OW.callR rfl (Pk.perm (by repeat (first | exact Pk.nil | exact Pk.all | exact Pk.app | exact Pk.appR | with_reducible apply Pk.na | (apply Pk.cons; (repeat first | exact .here | apply Rem.there | apply Rem.app)) | apply Pk.skip | apply Pk.skipA))) (awake_fn _) rfl (by intro e G' H' h; repeat (first | exact ⟨_, h.1⟩ | (obtain ⟨_, h⟩ := h))) fun v' G' H' h hg => ?_)
  obtain ⟨he, hg3, rfl⟩ := h
  cases he
  (first | refine WL.p (Gp.pickT rfl rfl) (by kernel_rfl) rfl ?_ | refine WL.p (Gp.pickF rfl rfl) (by kernel_rfl) rfl ?_)
  refine WL.p (Gp.assign rfl) (by kernel_rfl) rfl ?_
  refine WL.nil ?_
  repeat (first | with_reducible refine WK.thN ?_ | with_reducible refine WK.thR ?_ | with_reducible refine WK.thE ?_ | with_reducible refine WK.thP ?_ | with_reducible refine WK.blN ?_ | with_reducible refine WK.blR ?_ | with_reducible refine WK.blP ?_ | with_reducible refine WK.blE ?_ | with_reducible refine WK.blO rfl ?_ | with_reducible refine WK.thJ ?_)
  refine WC.ret ?_
  repeat (first | with_reducible refine WK.thN ?_ | with_reducible refine WK.thR ?_ | with_reducible refine WK.thE ?_ | with_reducible refine WK.thP ?_ | with_reducible refine WK.blN ?_ | with_reducible refine WK.blR ?_ | with_reducible refine WK.blP ?_ | with_reducible refine WK.blE ?_ | with_reducible refine WK.blO rfl ?_ | with_reducible refine WK.thJ ?_)
  exact QF.p1 (.inl rfl) rfl (.tmp rfl) (⟨rfl, Gh.le_trans hg1 (Gh.le_trans hg2 hg3), rfl⟩) (by repeat (first | exact Pk.nil | exact Pk.all | exact Pk.app | exact Pk.appR | with_reducible apply Pk.na | (apply Pk.cons; (repeat first | exact .here | apply Rem.there | apply Rem.app)) | apply Pk.skip | apply Pk.skipA))

theorem texts_j (G : Gh) (a b : ByteArray) (o : Int) (ho0 : 0 ≤ o) (ho1 : o ≤ 255) (ha : (a.size : Int) ≤ 4096) (hb : (b.size : Int) ≤ 4096) (hi : o.tmod 4 = 0) (hs : (a.size : Int) + b.size ≤ 4096) : Fn Try.prog 6 #[.string a, .string b, .int .u8 o] G [] fun e G' H' => e = .returned (.bool true) ∧ G.le G' ∧ H' = [] := by
  have hrun : runR (twoP (textV a) (textV b) 20 3) 0 9 [] = ⟨1, textV (a ++ b), [], 4⟩ := run_two (vOK_text (by omega)) (vOK_text (by omega)) (by decide) (by simp [plainR, on2, ty2, pop2, textV]; omega) (by decide) rfl
  refine Fn.enter Try.func6 rfl rfl fun w0 => ?_
  refine WC.seq ?_
  refine WC.region ?_
  refine WL.p (Gp.assign rfl) (by kernel_rfl) rfl ?_
  refine WL.nil ?_
  repeat (first | with_reducible refine WK.thN ?_ | with_reducible refine WK.thR ?_ | with_reducible refine WK.thE ?_ | with_reducible refine WK.thP ?_ | with_reducible refine WK.blN ?_ | with_reducible refine WK.blR ?_ | with_reducible refine WK.blP ?_ | with_reducible refine WK.blE ?_ | with_reducible refine WK.blO rfl ?_ | with_reducible refine WK.thJ ?_)
  refine WC.seq ?_
  refine WC.seq ?_
  refine WC.region ?_
  refine WL.p (Gp.move rfl) (by kernel_rfl) rfl ?_
  (first | refine WL.p (Gp.lenSl rfl) (by kernel_rfl) rfl ?_ | refine WL.p (Gp.lenS rfl) (by kernel_rfl) rfl ?_)
  refine WL.p (Gp.gtI' (r := false) rfl rfl (by simp; omega)) (by kernel_rfl) rfl ?_
  refine WL.p (Gp.move rfl) (by kernel_rfl) rfl ?_
  refine WL.p (Gp.move rfl) (by kernel_rfl) rfl ?_
  (first | refine WL.p (Gp.lenSl rfl) (by kernel_rfl) rfl ?_ | refine WL.p (Gp.lenS rfl) (by kernel_rfl) rfl ?_)
  refine WL.p (Gp.gtI' (r := false) rfl rfl (by simp; omega)) (by kernel_rfl) rfl ?_
  (first | refine WL.p (Gp.pickT rfl rfl) (by kernel_rfl) rfl ?_ | refine WL.p (Gp.pickF rfl rfl) (by kernel_rfl) rfl ?_)
  refine WL.nil ?_
  repeat (first | with_reducible refine WK.thN ?_ | with_reducible refine WK.thR ?_ | with_reducible refine WK.thE ?_ | with_reducible refine WK.thP ?_ | with_reducible refine WK.blN ?_ | with_reducible refine WK.blR ?_ | with_reducible refine WK.blP ?_ | with_reducible refine WK.blE ?_ | with_reducible refine WK.blO rfl ?_ | with_reducible refine WK.thJ ?_)
  refine WC.cond_false rfl ?_
  refine WC.skip ?_
  repeat (first | with_reducible refine WK.thN ?_ | with_reducible refine WK.thR ?_ | with_reducible refine WK.thE ?_ | with_reducible refine WK.thP ?_ | with_reducible refine WK.blN ?_ | with_reducible refine WK.blR ?_ | with_reducible refine WK.blP ?_ | with_reducible refine WK.blE ?_ | with_reducible refine WK.blO rfl ?_ | with_reducible refine WK.thJ ?_)
  refine WC.seq ?_
  refine WC.region ?_
  refine WL.op (by kernel_rfl) (OW.buildSlice rfl (by kernel_rfl) (by kernel_rfl) (by rfl) rfl fun b1 => ?_)
  refine WL.p (Gp.assign rfl) (by kernel_rfl) rfl ?_
  refine WL.nil ?_
  repeat (first | with_reducible refine WK.thN ?_ | with_reducible refine WK.thR ?_ | with_reducible refine WK.thE ?_ | with_reducible refine WK.thP ?_ | with_reducible refine WK.blN ?_ | with_reducible refine WK.blR ?_ | with_reducible refine WK.blP ?_ | with_reducible refine WK.blE ?_ | with_reducible refine WK.blO rfl ?_ | with_reducible refine WK.thJ ?_)
  refine WC.seq ?_
  refine WC.region ?_
  refine WL.p (Gp.move rfl) (by kernel_rfl) rfl ?_
  refine WL.p (Gp.move rfl) (by kernel_rfl) rfl ?_
  refine WL.p (Gp.convIt rfl (wrap_small (x := o) (by omega) (by omega))) (by kernel_rfl) rfl ?_
  refine WL.p (Gp.move rfl) (by kernel_rfl) rfl ?_
  (first | refine WL.p (Gp.lenSl rfl) (by kernel_rfl) rfl ?_ | refine WL.p (Gp.lenS rfl) (by kernel_rfl) rfl ?_)
  refine WL.p (Gp.remt rfl rfl (by decide) hi) (by kernel_rfl) rfl ?_
  refine WL.p (Gp.indexAddr rfl rfl (by first | assumption | omega | decide) (by first | assumption | omega | decide | (simp only [List.length_cons, List.length_nil]; decide))) (by kernel_rfl) rfl ?_
  refine WL.v (Gv.load1 rfl .here rfl) (by kernel_rfl) rfl ?_
  refine WL.p (Gp.assign rfl) (by kernel_rfl) rfl ?_
  refine WL.nil ?_
  repeat (first | with_reducible refine WK.thN ?_ | with_reducible refine WK.thR ?_ | with_reducible refine WK.thE ?_ | with_reducible refine WK.thP ?_ | with_reducible refine WK.blN ?_ | with_reducible refine WK.blR ?_ | with_reducible refine WK.blP ?_ | with_reducible refine WK.blE ?_ | with_reducible refine WK.blO rfl ?_ | with_reducible refine WK.thJ ?_)
  refine WC.seq ?_
  refine WC.region ?_
  refine WL.p (Gp.assign rfl) (by kernel_rfl) rfl ?_
  refine WL.nil ?_
  repeat (first | with_reducible refine WK.thN ?_ | with_reducible refine WK.thR ?_ | with_reducible refine WK.thE ?_ | with_reducible refine WK.thP ?_ | with_reducible refine WK.blN ?_ | with_reducible refine WK.blR ?_ | with_reducible refine WK.blP ?_ | with_reducible refine WK.blE ?_ | with_reducible refine WK.blO rfl ?_ | with_reducible refine WK.thJ ?_)
  refine WC.seq ?_
  refine WC.seq ?_
  refine WC.region ?_
  refine WL.p (Gp.move rfl) (by kernel_rfl) rfl ?_
  (first | refine WL.p (Gp.eqI rfl rfl) (by kernel_rfl) rfl ?_ | refine WL.p (Gp.eqS rfl rfl) (by kernel_rfl) rfl ?_ | refine WL.p (Gp.nilSl rfl) (by kernel_rfl) rfl ?_ | refine WL.p (Gp.eqB rfl rfl) (by kernel_rfl) rfl ?_)
  refine WL.nil ?_
  repeat (first | with_reducible refine WK.thN ?_ | with_reducible refine WK.thR ?_ | with_reducible refine WK.thE ?_ | with_reducible refine WK.thP ?_ | with_reducible refine WK.blN ?_ | with_reducible refine WK.blR ?_ | with_reducible refine WK.blP ?_ | with_reducible refine WK.blE ?_ | with_reducible refine WK.blO rfl ?_ | with_reducible refine WK.thJ ?_)
  refine WC.cond_true rfl ?_
  refine WC.region ?_
  refine WL.p (Gp.assign rfl) (by kernel_rfl) rfl ?_
  refine WL.nil ?_
  repeat (first | with_reducible refine WK.thN ?_ | with_reducible refine WK.thR ?_ | with_reducible refine WK.thE ?_ | with_reducible refine WK.thP ?_ | with_reducible refine WK.blN ?_ | with_reducible refine WK.blR ?_ | with_reducible refine WK.blP ?_ | with_reducible refine WK.blE ?_ | with_reducible refine WK.blO rfl ?_ | with_reducible refine WK.thJ ?_)
  refine WC.seq ?_
  refine WC.region ?_
  refine WL.p (Gp.move rfl) (by kernel_rfl) rfl ?_
  refine WL.op (by kernel_rfl) (OW.callR rfl (Hf := []) (List.Perm.refl _) (ltext_fn G a) rfl (by rintro e G' H' ⟨h, _⟩; exact ⟨_, h⟩) fun v' G' H' h hg => ?_)
  obtain ⟨he, rfl, rfl⟩ := h
  cases he
  refine WL.p (Gp.move rfl) (by kernel_rfl) rfl ?_
  refine WL.op (by kernel_rfl) (OW.callR rfl (Hf := []) (List.Perm.refl _) (ltext_fn G b) rfl (by rintro e G' H' ⟨h, _⟩; exact ⟨_, h⟩) fun v' G' H' h hg => ?_)
  obtain ⟨he, rfl, rfl⟩ := h
  cases he
  refine WL.p (Gp.move rfl) (by kernel_rfl) rfl ?_
  refine WL.p (Gp.move rfl) (by kernel_rfl) rfl ?_
  refine WL.op (by kernel_rfl) (OW.callR rfl (Pk.perm (by repeat (first | exact Pk.nil | exact Pk.all | exact Pk.app | exact Pk.appR | with_reducible apply Pk.na | (apply Pk.cons; (repeat first | exact .here | apply Rem.there | apply Rem.app)) | apply Pk.skip | apply Pk.skipA))) (two_fn G (textV a) (textV b) 20 3) rfl (by intro e G' H' h; repeat (first | exact ⟨_, h.1⟩ | (obtain ⟨_, h⟩ := h))) fun v' G' H' h hg => ?_)
  obtain ⟨CA, PA, he, hg1, hC, hP, rfl⟩ := h
  cases he
  refine WL.op (by kernel_rfl) (OW.callR rfl (Pk.perm (by repeat (first | exact Pk.nil | exact Pk.all | exact Pk.app | exact Pk.appR | with_reducible apply Pk.na | (apply Pk.cons; (repeat first | exact .here | apply Rem.there | apply Rem.app)) | apply Pk.skip | apply Pk.skipA))) (Run_two G' (twoP (textV a) (textV b) 20 3) CA PA 2 1 _ hC hP (twoP_B _ _ _ _) _ hrun) rfl (by intro e G' H' h; repeat (first | exact ⟨_, h.1⟩ | (obtain ⟨_, h⟩ := h))) fun v' G' H' h hg => ?_)
  obtain ⟨A1, cap1, x1, he, hg2, hx1, rfl⟩ := h
  cases he
  refine WL.op (by kernel_rfl) (OW.alloc rfl fun b3 => ?_)
  refine WL.op (by kernel_rfl) (OW.store rfl rfl (by (repeat first | exact .here | apply At.there)) rfl (by rfl) (by rfl) (by kernel_rfl) (by rfl) ?_ rfl)
  refine WL.nil ?_
  repeat (first | with_reducible refine WK.thN ?_ | with_reducible refine WK.thR ?_ | with_reducible refine WK.thE ?_ | with_reducible refine WK.thP ?_ | with_reducible refine WK.blN ?_ | with_reducible refine WK.blR ?_ | with_reducible refine WK.blP ?_ | with_reducible refine WK.blE ?_ | with_reducible refine WK.blO rfl ?_ | with_reducible refine WK.thJ ?_)
  refine WC.seq ?_
  refine WC.seq ?_
  refine WC.region ?_
  refine WL.p (Gp.move rfl) (by kernel_rfl) rfl ?_
  (first | refine WL.p (Gp.eqI rfl rfl) (by kernel_rfl) rfl ?_ | refine WL.p (Gp.eqS rfl rfl) (by kernel_rfl) rfl ?_ | refine WL.p (Gp.nilSl rfl) (by kernel_rfl) rfl ?_ | refine WL.p (Gp.eqB rfl rfl) (by kernel_rfl) rfl ?_)
  refine WL.p (Gp.move rfl) (by kernel_rfl) rfl ?_
  refine WL.p (Gp.move rfl) (by kernel_rfl) rfl ?_
  (first | refine WL.p (Gp.lenSl rfl) (by kernel_rfl) rfl ?_ | refine WL.p (Gp.lenS rfl) (by kernel_rfl) rfl ?_)
  refine WL.p (Gp.move rfl) (by kernel_rfl) rfl ?_
  (first | refine WL.p (Gp.lenSl rfl) (by kernel_rfl) rfl ?_ | refine WL.p (Gp.lenS rfl) (by kernel_rfl) rfl ?_)
  refine WL.p (Gp.add' rfl rfl (wrap_small (x := (a.size : Int) + b.size) (by omega) (by omega))) (by kernel_rfl) rfl ?_
  refine WL.p (Gp.gtI' (r := false) rfl rfl (by simp; omega)) (by kernel_rfl) rfl ?_
  (first | refine WL.p (Gp.pickT rfl rfl) (by kernel_rfl) rfl ?_ | refine WL.p (Gp.pickF rfl rfl) (by kernel_rfl) rfl ?_)
  refine WL.nil ?_
  repeat (first | with_reducible refine WK.thN ?_ | with_reducible refine WK.thR ?_ | with_reducible refine WK.thE ?_ | with_reducible refine WK.thP ?_ | with_reducible refine WK.blN ?_ | with_reducible refine WK.blR ?_ | with_reducible refine WK.blP ?_ | with_reducible refine WK.blE ?_ | with_reducible refine WK.blO rfl ?_ | with_reducible refine WK.thJ ?_)
  refine WC.cond_false rfl ?_
  refine WC.skip ?_
  repeat (first | with_reducible refine WK.thN ?_ | with_reducible refine WK.thR ?_ | with_reducible refine WK.thE ?_ | with_reducible refine WK.thP ?_ | with_reducible refine WK.blN ?_ | with_reducible refine WK.blR ?_ | with_reducible refine WK.blP ?_ | with_reducible refine WK.blE ?_ | with_reducible refine WK.blO rfl ?_ | with_reducible refine WK.thJ ?_)
  refine WC.seq ?_
  refine WC.region ?_
  refine WL.p (Gp.move rfl) (by kernel_rfl) rfl ?_
  refine WL.p (Gp.build rfl rfl) (by kernel_rfl) rfl ?_
  refine WL.op (by kernel_rfl) (OW.alloc rfl fun b5 => ?_)
  refine WL.op (by kernel_rfl) (OW.store rfl rfl (by (repeat first | exact .here | apply At.there)) rfl (by rfl) (by rfl) (by kernel_rfl) (by rfl) ?_ rfl)
  refine WL.nil ?_
  repeat (first | with_reducible refine WK.thN ?_ | with_reducible refine WK.thR ?_ | with_reducible refine WK.thE ?_ | with_reducible refine WK.thP ?_ | with_reducible refine WK.blN ?_ | with_reducible refine WK.blR ?_ | with_reducible refine WK.blP ?_ | with_reducible refine WK.blE ?_ | with_reducible refine WK.blO rfl ?_ | with_reducible refine WK.thJ ?_)
  refine WC.seq ?_
  refine WC.seq ?_
  refine WC.region ?_
  refine WL.p (Gp.move rfl) (by kernel_rfl) rfl ?_
  refine WL.nil ?_
  repeat (first | with_reducible refine WK.thN ?_ | with_reducible refine WK.thR ?_ | with_reducible refine WK.thE ?_ | with_reducible refine WK.thP ?_ | with_reducible refine WK.blN ?_ | with_reducible refine WK.blR ?_ | with_reducible refine WK.blP ?_ | with_reducible refine WK.blE ?_ | with_reducible refine WK.blO rfl ?_ | with_reducible refine WK.thJ ?_)
  repeat (first | refine WC.seq ?_ | refine WC.block ?_ | (refine WC.region ?_; refine WL.p (Gp.eqI rfl rfl) (by kernel_rfl) rfl ?_; refine WL.p (Gp.assign rfl) (by kernel_rfl) rfl ?_; refine WL.nil ?_; repeat (first | with_reducible refine WK.thN ?_ | with_reducible refine WK.thR ?_ | with_reducible refine WK.thE ?_ | with_reducible refine WK.thP ?_ | with_reducible refine WK.blN ?_ | with_reducible refine WK.blR ?_ | with_reducible refine WK.blP ?_ | with_reducible refine WK.blE ?_ | with_reducible refine WK.blO rfl ?_ | with_reducible refine WK.thJ ?_)) | refine WC.cond_true rfl ?_ | refine WC.cond_false rfl ?_ | (refine WC.skip ?_; repeat (first | with_reducible refine WK.thN ?_ | with_reducible refine WK.thR ?_ | with_reducible refine WK.thE ?_ | with_reducible refine WK.thP ?_ | with_reducible refine WK.blN ?_ | with_reducible refine WK.blR ?_ | with_reducible refine WK.blP ?_ | with_reducible refine WK.blE ?_ | with_reducible refine WK.blO rfl ?_ | with_reducible refine WK.thJ ?_)) | (refine WC.exit ?_; repeat (first | with_reducible refine WK.thN ?_ | with_reducible refine WK.thR ?_ | with_reducible refine WK.thE ?_ | with_reducible refine WK.thP ?_ | with_reducible refine WK.blN ?_ | with_reducible refine WK.blR ?_ | with_reducible refine WK.blP ?_ | with_reducible refine WK.blE ?_ | with_reducible refine WK.blO rfl ?_ | with_reducible refine WK.thJ ?_)))
  refine WC.region ?_
  refine WL.p (Gp.move rfl) (by kernel_rfl) rfl ?_
  refine WL.p (Gp.move rfl) (by kernel_rfl) rfl ?_
  refine WL.p (Gp.addS rfl rfl (by omega)) (by kernel_rfl) rfl ?_
  refine WL.p (Gp.fieldAddr rfl) (by kernel_rfl) rfl ?_
  refine WL.op (by kernel_rfl) (OW.store rfl rfl (by (repeat first | exact .here | apply At.there)) rfl (by rfl) (by rfl) (by kernel_rfl) (by rfl) ?_ rfl)
  refine WL.nil ?_
  repeat (first | with_reducible refine WK.thN ?_ | with_reducible refine WK.thR ?_ | with_reducible refine WK.thE ?_ | with_reducible refine WK.thP ?_ | with_reducible refine WK.blN ?_ | with_reducible refine WK.blR ?_ | with_reducible refine WK.blP ?_ | with_reducible refine WK.blE ?_ | with_reducible refine WK.blO rfl ?_ | with_reducible refine WK.thJ ?_)
  refine WC.seq ?_
  refine WC.region ?_
  refine WL.p (Gp.fieldAddr rfl) (by kernel_rfl) rfl ?_
  refine WL.v (Gv.load1 rfl (by (repeat first | exact .here | apply At.there)) rfl) (by kernel_rfl) rfl ?_
  (first | refine WL.p (Gp.eqI rfl rfl) (by kernel_rfl) rfl ?_ | refine WL.p (Gp.eqS rfl rfl) (by kernel_rfl) rfl ?_ | refine WL.p (Gp.nilSl rfl) (by kernel_rfl) rfl ?_ | refine WL.p (Gp.eqB rfl rfl) (by kernel_rfl) rfl ?_)
  refine WL.p (Gp.move rfl) (by kernel_rfl) rfl ?_
  refine WL.p (Gp.fieldAddr rfl) (by kernel_rfl) rfl ?_
  refine WL.v (Gv.loadN rfl (by (repeat first | exact .here | apply At.there)) rfl rfl) (by kernel_rfl) rfl ?_
  refine WL.v (Gv.loadN rfl (by (repeat first | exact .here | apply At.there)) rfl rfl) (by kernel_rfl) rfl ?_
  refine WL.p (Gp.eqVt (r := true) (u := textV (a ++ b)) (v := textV (a ++ b)) rfl rfl (by simp)) (by kernel_rfl) rfl ?_
  (first | refine WL.p (Gp.pickT rfl rfl) (by kernel_rfl) rfl ?_ | refine WL.p (Gp.pickF rfl rfl) (by kernel_rfl) rfl ?_)
  refine WL.p (Gp.move rfl) (by kernel_rfl) rfl ?_
  refine WL.op (by kernel_rfl) (OW.callR rfl (Pk.perm (by repeat (first | exact Pk.nil | exact Pk.all | exact Pk.app | exact Pk.appR | with_reducible apply Pk.na | (apply Pk.cons; (repeat first | exact .here | apply Rem.there | apply Rem.app)) | apply Pk.skip | apply Pk.skipA))) (awake_fn _) rfl (by intro e G' H' h; repeat (first | exact ⟨_, h.1⟩ | (obtain ⟨_, h⟩ := h))) fun v' G' H' h hg => ?_)
  obtain ⟨he, hg3, rfl⟩ := h
  cases he
  (first | refine WL.p (Gp.pickT rfl rfl) (by kernel_rfl) rfl ?_ | refine WL.p (Gp.pickF rfl rfl) (by kernel_rfl) rfl ?_)
  refine WL.p (Gp.assign rfl) (by kernel_rfl) rfl ?_
  refine WL.nil ?_
  repeat (first | with_reducible refine WK.thN ?_ | with_reducible refine WK.thR ?_ | with_reducible refine WK.thE ?_ | with_reducible refine WK.thP ?_ | with_reducible refine WK.blN ?_ | with_reducible refine WK.blR ?_ | with_reducible refine WK.blP ?_ | with_reducible refine WK.blE ?_ | with_reducible refine WK.blO rfl ?_ | with_reducible refine WK.thJ ?_)
  refine WC.ret ?_
  repeat (first | with_reducible refine WK.thN ?_ | with_reducible refine WK.thR ?_ | with_reducible refine WK.thE ?_ | with_reducible refine WK.thP ?_ | with_reducible refine WK.blN ?_ | with_reducible refine WK.blR ?_ | with_reducible refine WK.blP ?_ | with_reducible refine WK.blE ?_ | with_reducible refine WK.blO rfl ?_ | with_reducible refine WK.thJ ?_)
  exact QF.p1 (.inl rfl) rfl (.tmp rfl) (⟨rfl, Gh.le_trans hg1 (Gh.le_trans hg2 hg3), rfl⟩) (by repeat (first | exact Pk.nil | exact Pk.all | exact Pk.app | exact Pk.appR | with_reducible apply Pk.na | (apply Pk.cons; (repeat first | exact .here | apply Rem.there | apply Rem.app)) | apply Pk.skip | apply Pk.skipA))

theorem texts_lt (G : Gh) (a b : ByteArray) (o : Int) (ho0 : 0 ≤ o) (ho1 : o ≤ 255) (ha : (a.size : Int) ≤ 4096) (hb : (b.size : Int) ≤ 4096) (hi : o.tmod 4 = 1) : Fn Try.prog 6 #[.string a, .string b, .int .u8 o] G [] fun e G' H' => e = .returned (.bool true) ∧ G.le G' ∧ H' = [] := by
  have hrun : runR (twoP (textV a) (textV b) 14 2) 0 9 [] = ⟨1, truthV (Op.bytesLess a.toList b.toList), [], 4⟩ := run_two (vOK_text (by omega)) (vOK_text (by omega)) (by decide) (by rw [← ordN_textL a b]; simp [plainR, onB, pop2, ordOK, ordS, textV]; congr) (by decide) rfl
  refine Fn.enter Try.func6 rfl rfl fun w0 => ?_
  refine WC.seq ?_
  refine WC.region ?_
  refine WL.p (Gp.assign rfl) (by kernel_rfl) rfl ?_
  refine WL.nil ?_
  repeat (first | with_reducible refine WK.thN ?_ | with_reducible refine WK.thR ?_ | with_reducible refine WK.thE ?_ | with_reducible refine WK.thP ?_ | with_reducible refine WK.blN ?_ | with_reducible refine WK.blR ?_ | with_reducible refine WK.blP ?_ | with_reducible refine WK.blE ?_ | with_reducible refine WK.blO rfl ?_ | with_reducible refine WK.thJ ?_)
  refine WC.seq ?_
  refine WC.seq ?_
  refine WC.region ?_
  refine WL.p (Gp.move rfl) (by kernel_rfl) rfl ?_
  (first | refine WL.p (Gp.lenSl rfl) (by kernel_rfl) rfl ?_ | refine WL.p (Gp.lenS rfl) (by kernel_rfl) rfl ?_)
  refine WL.p (Gp.gtI' (r := false) rfl rfl (by simp; omega)) (by kernel_rfl) rfl ?_
  refine WL.p (Gp.move rfl) (by kernel_rfl) rfl ?_
  refine WL.p (Gp.move rfl) (by kernel_rfl) rfl ?_
  (first | refine WL.p (Gp.lenSl rfl) (by kernel_rfl) rfl ?_ | refine WL.p (Gp.lenS rfl) (by kernel_rfl) rfl ?_)
  refine WL.p (Gp.gtI' (r := false) rfl rfl (by simp; omega)) (by kernel_rfl) rfl ?_
  (first | refine WL.p (Gp.pickT rfl rfl) (by kernel_rfl) rfl ?_ | refine WL.p (Gp.pickF rfl rfl) (by kernel_rfl) rfl ?_)
  refine WL.nil ?_
  repeat (first | with_reducible refine WK.thN ?_ | with_reducible refine WK.thR ?_ | with_reducible refine WK.thE ?_ | with_reducible refine WK.thP ?_ | with_reducible refine WK.blN ?_ | with_reducible refine WK.blR ?_ | with_reducible refine WK.blP ?_ | with_reducible refine WK.blE ?_ | with_reducible refine WK.blO rfl ?_ | with_reducible refine WK.thJ ?_)
  refine WC.cond_false rfl ?_
  refine WC.skip ?_
  repeat (first | with_reducible refine WK.thN ?_ | with_reducible refine WK.thR ?_ | with_reducible refine WK.thE ?_ | with_reducible refine WK.thP ?_ | with_reducible refine WK.blN ?_ | with_reducible refine WK.blR ?_ | with_reducible refine WK.blP ?_ | with_reducible refine WK.blE ?_ | with_reducible refine WK.blO rfl ?_ | with_reducible refine WK.thJ ?_)
  refine WC.seq ?_
  refine WC.region ?_
  refine WL.op (by kernel_rfl) (OW.buildSlice rfl (by kernel_rfl) (by kernel_rfl) (by rfl) rfl fun b1 => ?_)
  refine WL.p (Gp.assign rfl) (by kernel_rfl) rfl ?_
  refine WL.nil ?_
  repeat (first | with_reducible refine WK.thN ?_ | with_reducible refine WK.thR ?_ | with_reducible refine WK.thE ?_ | with_reducible refine WK.thP ?_ | with_reducible refine WK.blN ?_ | with_reducible refine WK.blR ?_ | with_reducible refine WK.blP ?_ | with_reducible refine WK.blE ?_ | with_reducible refine WK.blO rfl ?_ | with_reducible refine WK.thJ ?_)
  refine WC.seq ?_
  refine WC.region ?_
  refine WL.p (Gp.move rfl) (by kernel_rfl) rfl ?_
  refine WL.p (Gp.move rfl) (by kernel_rfl) rfl ?_
  refine WL.p (Gp.convIt rfl (wrap_small (x := o) (by omega) (by omega))) (by kernel_rfl) rfl ?_
  refine WL.p (Gp.move rfl) (by kernel_rfl) rfl ?_
  (first | refine WL.p (Gp.lenSl rfl) (by kernel_rfl) rfl ?_ | refine WL.p (Gp.lenS rfl) (by kernel_rfl) rfl ?_)
  refine WL.p (Gp.remt rfl rfl (by decide) hi) (by kernel_rfl) rfl ?_
  refine WL.p (Gp.indexAddr rfl rfl (by first | assumption | omega | decide) (by first | assumption | omega | decide | (simp only [List.length_cons, List.length_nil]; decide))) (by kernel_rfl) rfl ?_
  refine WL.v (Gv.load1 rfl .here rfl) (by kernel_rfl) rfl ?_
  refine WL.p (Gp.assign rfl) (by kernel_rfl) rfl ?_
  refine WL.nil ?_
  repeat (first | with_reducible refine WK.thN ?_ | with_reducible refine WK.thR ?_ | with_reducible refine WK.thE ?_ | with_reducible refine WK.thP ?_ | with_reducible refine WK.blN ?_ | with_reducible refine WK.blR ?_ | with_reducible refine WK.blP ?_ | with_reducible refine WK.blE ?_ | with_reducible refine WK.blO rfl ?_ | with_reducible refine WK.thJ ?_)
  refine WC.seq ?_
  refine WC.region ?_
  refine WL.p (Gp.assign rfl) (by kernel_rfl) rfl ?_
  refine WL.nil ?_
  repeat (first | with_reducible refine WK.thN ?_ | with_reducible refine WK.thR ?_ | with_reducible refine WK.thE ?_ | with_reducible refine WK.thP ?_ | with_reducible refine WK.blN ?_ | with_reducible refine WK.blR ?_ | with_reducible refine WK.blP ?_ | with_reducible refine WK.blE ?_ | with_reducible refine WK.blO rfl ?_ | with_reducible refine WK.thJ ?_)
  refine WC.seq ?_
  refine WC.seq ?_
  refine WC.region ?_
  refine WL.p (Gp.move rfl) (by kernel_rfl) rfl ?_
  (first | refine WL.p (Gp.eqI rfl rfl) (by kernel_rfl) rfl ?_ | refine WL.p (Gp.eqS rfl rfl) (by kernel_rfl) rfl ?_ | refine WL.p (Gp.nilSl rfl) (by kernel_rfl) rfl ?_ | refine WL.p (Gp.eqB rfl rfl) (by kernel_rfl) rfl ?_)
  refine WL.nil ?_
  repeat (first | with_reducible refine WK.thN ?_ | with_reducible refine WK.thR ?_ | with_reducible refine WK.thE ?_ | with_reducible refine WK.thP ?_ | with_reducible refine WK.blN ?_ | with_reducible refine WK.blR ?_ | with_reducible refine WK.blP ?_ | with_reducible refine WK.blE ?_ | with_reducible refine WK.blO rfl ?_ | with_reducible refine WK.thJ ?_)
  refine WC.cond_false rfl ?_
  refine WC.skip ?_
  repeat (first | with_reducible refine WK.thN ?_ | with_reducible refine WK.thR ?_ | with_reducible refine WK.thE ?_ | with_reducible refine WK.thP ?_ | with_reducible refine WK.blN ?_ | with_reducible refine WK.blR ?_ | with_reducible refine WK.blP ?_ | with_reducible refine WK.blE ?_ | with_reducible refine WK.blO rfl ?_ | with_reducible refine WK.thJ ?_)
  refine WC.seq ?_
  refine WC.region ?_
  refine WL.p (Gp.move rfl) (by kernel_rfl) rfl ?_
  refine WL.op (by kernel_rfl) (OW.callR rfl (Hf := []) (List.Perm.refl _) (ltext_fn G a) rfl (by rintro e G' H' ⟨h, _⟩; exact ⟨_, h⟩) fun v' G' H' h hg => ?_)
  obtain ⟨he, rfl, rfl⟩ := h
  cases he
  refine WL.p (Gp.move rfl) (by kernel_rfl) rfl ?_
  refine WL.op (by kernel_rfl) (OW.callR rfl (Hf := []) (List.Perm.refl _) (ltext_fn G b) rfl (by rintro e G' H' ⟨h, _⟩; exact ⟨_, h⟩) fun v' G' H' h hg => ?_)
  obtain ⟨he, rfl, rfl⟩ := h
  cases he
  refine WL.p (Gp.move rfl) (by kernel_rfl) rfl ?_
  refine WL.p (Gp.move rfl) (by kernel_rfl) rfl ?_
  refine WL.op (by kernel_rfl) (OW.callR rfl (Pk.perm (by repeat (first | exact Pk.nil | exact Pk.all | exact Pk.app | exact Pk.appR | with_reducible apply Pk.na | (apply Pk.cons; (repeat first | exact .here | apply Rem.there | apply Rem.app)) | apply Pk.skip | apply Pk.skipA))) (two_fn G (textV a) (textV b) 14 2) rfl (by intro e G' H' h; repeat (first | exact ⟨_, h.1⟩ | (obtain ⟨_, h⟩ := h))) fun v' G' H' h hg => ?_)
  obtain ⟨CA, PA, he, hg1, hC, hP, rfl⟩ := h
  cases he
  refine WL.op (by kernel_rfl) (OW.callR rfl (Pk.perm (by repeat (first | exact Pk.nil | exact Pk.all | exact Pk.app | exact Pk.appR | with_reducible apply Pk.na | (apply Pk.cons; (repeat first | exact .here | apply Rem.there | apply Rem.app)) | apply Pk.skip | apply Pk.skipA))) (Run_two G' (twoP (textV a) (textV b) 14 2) CA PA 2 1 _ hC hP (twoP_B _ _ _ _) _ hrun) rfl (by intro e G' H' h; repeat (first | exact ⟨_, h.1⟩ | (obtain ⟨_, h⟩ := h))) fun v' G' H' h hg => ?_)
  obtain ⟨A1, cap1, x1, he, hg2, hx1, rfl⟩ := h
  cases he
  refine WL.op (by kernel_rfl) (OW.alloc rfl fun b3 => ?_)
  refine WL.op (by kernel_rfl) (OW.store rfl rfl (by (repeat first | exact .here | apply At.there)) rfl (by rfl) (by rfl) (by kernel_rfl) (by rfl) ?_ rfl)
  refine WL.nil ?_
  repeat (first | with_reducible refine WK.thN ?_ | with_reducible refine WK.thR ?_ | with_reducible refine WK.thE ?_ | with_reducible refine WK.thP ?_ | with_reducible refine WK.blN ?_ | with_reducible refine WK.blR ?_ | with_reducible refine WK.blP ?_ | with_reducible refine WK.blE ?_ | with_reducible refine WK.blO rfl ?_ | with_reducible refine WK.thJ ?_)
  refine WC.seq ?_
  refine WC.seq ?_
  refine WC.region ?_
  refine WL.p (Gp.move rfl) (by kernel_rfl) rfl ?_
  (first | refine WL.p (Gp.eqI rfl rfl) (by kernel_rfl) rfl ?_ | refine WL.p (Gp.eqS rfl rfl) (by kernel_rfl) rfl ?_ | refine WL.p (Gp.nilSl rfl) (by kernel_rfl) rfl ?_ | refine WL.p (Gp.eqB rfl rfl) (by kernel_rfl) rfl ?_)
  refine WL.p (Gp.move rfl) (by kernel_rfl) rfl ?_
  refine WL.skip (by kernel_rfl) rfl ?_
  refine WL.skip (by kernel_rfl) rfl ?_
  refine WL.skip (by kernel_rfl) rfl ?_
  refine WL.skip (by kernel_rfl) rfl ?_
  refine WL.skip (by kernel_rfl) rfl ?_
  refine WL.skip (by kernel_rfl) rfl ?_
  (first | refine WL.p (Gp.pickT rfl rfl) (by kernel_rfl) rfl ?_ | refine WL.p (Gp.pickF rfl rfl) (by kernel_rfl) rfl ?_)
  refine WL.nil ?_
  repeat (first | with_reducible refine WK.thN ?_ | with_reducible refine WK.thR ?_ | with_reducible refine WK.thE ?_ | with_reducible refine WK.thP ?_ | with_reducible refine WK.blN ?_ | with_reducible refine WK.blR ?_ | with_reducible refine WK.blP ?_ | with_reducible refine WK.blE ?_ | with_reducible refine WK.blO rfl ?_ | with_reducible refine WK.thJ ?_)
  refine WC.cond_false rfl ?_
  refine WC.skip ?_
  repeat (first | with_reducible refine WK.thN ?_ | with_reducible refine WK.thR ?_ | with_reducible refine WK.thE ?_ | with_reducible refine WK.thP ?_ | with_reducible refine WK.blN ?_ | with_reducible refine WK.blR ?_ | with_reducible refine WK.blP ?_ | with_reducible refine WK.blE ?_ | with_reducible refine WK.blO rfl ?_ | with_reducible refine WK.thJ ?_)
  refine WC.seq ?_
  refine WC.region ?_
  refine WL.p (Gp.move rfl) (by kernel_rfl) rfl ?_
  refine WL.p (Gp.build rfl rfl) (by kernel_rfl) rfl ?_
  refine WL.op (by kernel_rfl) (OW.alloc rfl fun b5 => ?_)
  refine WL.op (by kernel_rfl) (OW.store rfl rfl (by (repeat first | exact .here | apply At.there)) rfl (by rfl) (by rfl) (by kernel_rfl) (by rfl) ?_ rfl)
  refine WL.nil ?_
  repeat (first | with_reducible refine WK.thN ?_ | with_reducible refine WK.thR ?_ | with_reducible refine WK.thE ?_ | with_reducible refine WK.thP ?_ | with_reducible refine WK.blN ?_ | with_reducible refine WK.blR ?_ | with_reducible refine WK.blP ?_ | with_reducible refine WK.blE ?_ | with_reducible refine WK.blO rfl ?_ | with_reducible refine WK.thJ ?_)
  refine WC.seq ?_
  refine WC.seq ?_
  refine WC.region ?_
  refine WL.p (Gp.move rfl) (by kernel_rfl) rfl ?_
  refine WL.nil ?_
  repeat (first | with_reducible refine WK.thN ?_ | with_reducible refine WK.thR ?_ | with_reducible refine WK.thE ?_ | with_reducible refine WK.thP ?_ | with_reducible refine WK.blN ?_ | with_reducible refine WK.blR ?_ | with_reducible refine WK.blP ?_ | with_reducible refine WK.blE ?_ | with_reducible refine WK.blO rfl ?_ | with_reducible refine WK.thJ ?_)
  repeat (first | refine WC.seq ?_ | refine WC.block ?_ | (refine WC.region ?_; refine WL.p (Gp.eqI rfl rfl) (by kernel_rfl) rfl ?_; refine WL.p (Gp.assign rfl) (by kernel_rfl) rfl ?_; refine WL.nil ?_; repeat (first | with_reducible refine WK.thN ?_ | with_reducible refine WK.thR ?_ | with_reducible refine WK.thE ?_ | with_reducible refine WK.thP ?_ | with_reducible refine WK.blN ?_ | with_reducible refine WK.blR ?_ | with_reducible refine WK.blP ?_ | with_reducible refine WK.blE ?_ | with_reducible refine WK.blO rfl ?_ | with_reducible refine WK.thJ ?_)) | refine WC.cond_true rfl ?_ | refine WC.cond_false rfl ?_ | (refine WC.skip ?_; repeat (first | with_reducible refine WK.thN ?_ | with_reducible refine WK.thR ?_ | with_reducible refine WK.thE ?_ | with_reducible refine WK.thP ?_ | with_reducible refine WK.blN ?_ | with_reducible refine WK.blR ?_ | with_reducible refine WK.blP ?_ | with_reducible refine WK.blE ?_ | with_reducible refine WK.blO rfl ?_ | with_reducible refine WK.thJ ?_)) | (refine WC.exit ?_; repeat (first | with_reducible refine WK.thN ?_ | with_reducible refine WK.thR ?_ | with_reducible refine WK.thE ?_ | with_reducible refine WK.thP ?_ | with_reducible refine WK.blN ?_ | with_reducible refine WK.blR ?_ | with_reducible refine WK.blP ?_ | with_reducible refine WK.blE ?_ | with_reducible refine WK.blO rfl ?_ | with_reducible refine WK.thJ ?_)))
  refine WC.region ?_
  refine WL.p (Gp.move rfl) (by kernel_rfl) rfl ?_
  refine WL.p (Gp.move rfl) (by kernel_rfl) rfl ?_
  refine WL.p (Gp.ltS rfl rfl) (by kernel_rfl) rfl ?_
  refine WL.p (Gp.fieldAddr rfl) (by kernel_rfl) rfl ?_
  refine WL.op (by kernel_rfl) (OW.store rfl rfl (by (repeat first | exact .here | apply At.there)) rfl (by rfl) (by rfl) (by kernel_rfl) (by rfl) ?_ rfl)
  refine WL.nil ?_
  repeat (first | with_reducible refine WK.thN ?_ | with_reducible refine WK.thR ?_ | with_reducible refine WK.thE ?_ | with_reducible refine WK.thP ?_ | with_reducible refine WK.blN ?_ | with_reducible refine WK.blR ?_ | with_reducible refine WK.blP ?_ | with_reducible refine WK.blE ?_ | with_reducible refine WK.blO rfl ?_ | with_reducible refine WK.thJ ?_)
  refine WC.seq ?_
  refine WC.region ?_
  refine WL.p (Gp.fieldAddr rfl) (by kernel_rfl) rfl ?_
  refine WL.v (Gv.load1 rfl (by (repeat first | exact .here | apply At.there)) rfl) (by kernel_rfl) rfl ?_
  (first | refine WL.p (Gp.eqI rfl rfl) (by kernel_rfl) rfl ?_ | refine WL.p (Gp.eqS rfl rfl) (by kernel_rfl) rfl ?_ | refine WL.p (Gp.nilSl rfl) (by kernel_rfl) rfl ?_ | refine WL.p (Gp.eqB rfl rfl) (by kernel_rfl) rfl ?_)
  refine WL.p (Gp.move rfl) (by kernel_rfl) rfl ?_
  refine WL.p (Gp.fieldAddr rfl) (by kernel_rfl) rfl ?_
  refine WL.v (Gv.loadN rfl (by (repeat first | exact .here | apply At.there)) rfl rfl) (by kernel_rfl) rfl ?_
  refine WL.v (Gv.loadN rfl (by (repeat first | exact .here | apply At.there)) rfl rfl) (by kernel_rfl) rfl ?_
  refine WL.p (Gp.eqVt (r := true) (u := truthV (Op.bytesLess a.toList b.toList)) (v := truthV (Op.bytesLess a.toList b.toList)) rfl rfl (by simp)) (by kernel_rfl) rfl ?_
  (first | refine WL.p (Gp.pickT rfl rfl) (by kernel_rfl) rfl ?_ | refine WL.p (Gp.pickF rfl rfl) (by kernel_rfl) rfl ?_)
  refine WL.p (Gp.move rfl) (by kernel_rfl) rfl ?_
  refine WL.op (by kernel_rfl) (OW.callR rfl (Pk.perm (by repeat (first | exact Pk.nil | exact Pk.all | exact Pk.app | exact Pk.appR | with_reducible apply Pk.na | (apply Pk.cons; (repeat first | exact .here | apply Rem.there | apply Rem.app)) | apply Pk.skip | apply Pk.skipA))) (awake_fn _) rfl (by intro e G' H' h; repeat (first | exact ⟨_, h.1⟩ | (obtain ⟨_, h⟩ := h))) fun v' G' H' h hg => ?_)
  obtain ⟨he, hg3, rfl⟩ := h
  cases he
  (first | refine WL.p (Gp.pickT rfl rfl) (by kernel_rfl) rfl ?_ | refine WL.p (Gp.pickF rfl rfl) (by kernel_rfl) rfl ?_)
  refine WL.p (Gp.assign rfl) (by kernel_rfl) rfl ?_
  refine WL.nil ?_
  repeat (first | with_reducible refine WK.thN ?_ | with_reducible refine WK.thR ?_ | with_reducible refine WK.thE ?_ | with_reducible refine WK.thP ?_ | with_reducible refine WK.blN ?_ | with_reducible refine WK.blR ?_ | with_reducible refine WK.blP ?_ | with_reducible refine WK.blE ?_ | with_reducible refine WK.blO rfl ?_ | with_reducible refine WK.thJ ?_)
  refine WC.ret ?_
  repeat (first | with_reducible refine WK.thN ?_ | with_reducible refine WK.thR ?_ | with_reducible refine WK.thE ?_ | with_reducible refine WK.thP ?_ | with_reducible refine WK.blN ?_ | with_reducible refine WK.blR ?_ | with_reducible refine WK.blP ?_ | with_reducible refine WK.blE ?_ | with_reducible refine WK.blO rfl ?_ | with_reducible refine WK.thJ ?_)
  exact QF.p1 (.inl rfl) rfl (.tmp rfl) (⟨rfl, Gh.le_trans hg1 (Gh.le_trans hg2 hg3), rfl⟩) (by repeat (first | exact Pk.nil | exact Pk.all | exact Pk.app | exact Pk.appR | with_reducible apply Pk.na | (apply Pk.cons; (repeat first | exact .here | apply Rem.there | apply Rem.app)) | apply Pk.skip | apply Pk.skipA))

theorem texts_ge (G : Gh) (a b : ByteArray) (o : Int) (ho0 : 0 ≤ o) (ho1 : o ≤ 255) (ha : (a.size : Int) ≤ 4096) (hb : (b.size : Int) ≤ 4096) (hi : o.tmod 4 = 2) : Fn Try.prog 6 #[.string a, .string b, .int .u8 o] G [] fun e G' H' => e = .returned (.bool true) ∧ G.le G' ∧ H' = [] := by
  have hrun : runR (twoP (textV a) (textV b) 17 2) 0 9 [] = ⟨1, truthV (!Op.bytesLess a.toList b.toList), [], 4⟩ := run_two (vOK_text (by omega)) (vOK_text (by omega)) (by decide) (by rw [← ordN_textG a b]; simp [plainR, onB, pop2, ordOK, ordS, textV]; congr) (by decide) rfl
  refine Fn.enter Try.func6 rfl rfl fun w0 => ?_
  refine WC.seq ?_
  refine WC.region ?_
  refine WL.p (Gp.assign rfl) (by kernel_rfl) rfl ?_
  refine WL.nil ?_
  repeat (first | with_reducible refine WK.thN ?_ | with_reducible refine WK.thR ?_ | with_reducible refine WK.thE ?_ | with_reducible refine WK.thP ?_ | with_reducible refine WK.blN ?_ | with_reducible refine WK.blR ?_ | with_reducible refine WK.blP ?_ | with_reducible refine WK.blE ?_ | with_reducible refine WK.blO rfl ?_ | with_reducible refine WK.thJ ?_)
  refine WC.seq ?_
  refine WC.seq ?_
  refine WC.region ?_
  refine WL.p (Gp.move rfl) (by kernel_rfl) rfl ?_
  (first | refine WL.p (Gp.lenSl rfl) (by kernel_rfl) rfl ?_ | refine WL.p (Gp.lenS rfl) (by kernel_rfl) rfl ?_)
  refine WL.p (Gp.gtI' (r := false) rfl rfl (by simp; omega)) (by kernel_rfl) rfl ?_
  refine WL.p (Gp.move rfl) (by kernel_rfl) rfl ?_
  refine WL.p (Gp.move rfl) (by kernel_rfl) rfl ?_
  (first | refine WL.p (Gp.lenSl rfl) (by kernel_rfl) rfl ?_ | refine WL.p (Gp.lenS rfl) (by kernel_rfl) rfl ?_)
  refine WL.p (Gp.gtI' (r := false) rfl rfl (by simp; omega)) (by kernel_rfl) rfl ?_
  (first | refine WL.p (Gp.pickT rfl rfl) (by kernel_rfl) rfl ?_ | refine WL.p (Gp.pickF rfl rfl) (by kernel_rfl) rfl ?_)
  refine WL.nil ?_
  repeat (first | with_reducible refine WK.thN ?_ | with_reducible refine WK.thR ?_ | with_reducible refine WK.thE ?_ | with_reducible refine WK.thP ?_ | with_reducible refine WK.blN ?_ | with_reducible refine WK.blR ?_ | with_reducible refine WK.blP ?_ | with_reducible refine WK.blE ?_ | with_reducible refine WK.blO rfl ?_ | with_reducible refine WK.thJ ?_)
  refine WC.cond_false rfl ?_
  refine WC.skip ?_
  repeat (first | with_reducible refine WK.thN ?_ | with_reducible refine WK.thR ?_ | with_reducible refine WK.thE ?_ | with_reducible refine WK.thP ?_ | with_reducible refine WK.blN ?_ | with_reducible refine WK.blR ?_ | with_reducible refine WK.blP ?_ | with_reducible refine WK.blE ?_ | with_reducible refine WK.blO rfl ?_ | with_reducible refine WK.thJ ?_)
  refine WC.seq ?_
  refine WC.region ?_
  refine WL.op (by kernel_rfl) (OW.buildSlice rfl (by kernel_rfl) (by kernel_rfl) (by rfl) rfl fun b1 => ?_)
  refine WL.p (Gp.assign rfl) (by kernel_rfl) rfl ?_
  refine WL.nil ?_
  repeat (first | with_reducible refine WK.thN ?_ | with_reducible refine WK.thR ?_ | with_reducible refine WK.thE ?_ | with_reducible refine WK.thP ?_ | with_reducible refine WK.blN ?_ | with_reducible refine WK.blR ?_ | with_reducible refine WK.blP ?_ | with_reducible refine WK.blE ?_ | with_reducible refine WK.blO rfl ?_ | with_reducible refine WK.thJ ?_)
  refine WC.seq ?_
  refine WC.region ?_
  refine WL.p (Gp.move rfl) (by kernel_rfl) rfl ?_
  refine WL.p (Gp.move rfl) (by kernel_rfl) rfl ?_
  refine WL.p (Gp.convIt rfl (wrap_small (x := o) (by omega) (by omega))) (by kernel_rfl) rfl ?_
  refine WL.p (Gp.move rfl) (by kernel_rfl) rfl ?_
  (first | refine WL.p (Gp.lenSl rfl) (by kernel_rfl) rfl ?_ | refine WL.p (Gp.lenS rfl) (by kernel_rfl) rfl ?_)
  refine WL.p (Gp.remt rfl rfl (by decide) hi) (by kernel_rfl) rfl ?_
  refine WL.p (Gp.indexAddr rfl rfl (by first | assumption | omega | decide) (by first | assumption | omega | decide | (simp only [List.length_cons, List.length_nil]; decide))) (by kernel_rfl) rfl ?_
  refine WL.v (Gv.load1 rfl .here rfl) (by kernel_rfl) rfl ?_
  refine WL.p (Gp.assign rfl) (by kernel_rfl) rfl ?_
  refine WL.nil ?_
  repeat (first | with_reducible refine WK.thN ?_ | with_reducible refine WK.thR ?_ | with_reducible refine WK.thE ?_ | with_reducible refine WK.thP ?_ | with_reducible refine WK.blN ?_ | with_reducible refine WK.blR ?_ | with_reducible refine WK.blP ?_ | with_reducible refine WK.blE ?_ | with_reducible refine WK.blO rfl ?_ | with_reducible refine WK.thJ ?_)
  refine WC.seq ?_
  refine WC.region ?_
  refine WL.p (Gp.assign rfl) (by kernel_rfl) rfl ?_
  refine WL.nil ?_
  repeat (first | with_reducible refine WK.thN ?_ | with_reducible refine WK.thR ?_ | with_reducible refine WK.thE ?_ | with_reducible refine WK.thP ?_ | with_reducible refine WK.blN ?_ | with_reducible refine WK.blR ?_ | with_reducible refine WK.blP ?_ | with_reducible refine WK.blE ?_ | with_reducible refine WK.blO rfl ?_ | with_reducible refine WK.thJ ?_)
  refine WC.seq ?_
  refine WC.seq ?_
  refine WC.region ?_
  refine WL.p (Gp.move rfl) (by kernel_rfl) rfl ?_
  (first | refine WL.p (Gp.eqI rfl rfl) (by kernel_rfl) rfl ?_ | refine WL.p (Gp.eqS rfl rfl) (by kernel_rfl) rfl ?_ | refine WL.p (Gp.nilSl rfl) (by kernel_rfl) rfl ?_ | refine WL.p (Gp.eqB rfl rfl) (by kernel_rfl) rfl ?_)
  refine WL.nil ?_
  repeat (first | with_reducible refine WK.thN ?_ | with_reducible refine WK.thR ?_ | with_reducible refine WK.thE ?_ | with_reducible refine WK.thP ?_ | with_reducible refine WK.blN ?_ | with_reducible refine WK.blR ?_ | with_reducible refine WK.blP ?_ | with_reducible refine WK.blE ?_ | with_reducible refine WK.blO rfl ?_ | with_reducible refine WK.thJ ?_)
  refine WC.cond_false rfl ?_
  refine WC.skip ?_
  repeat (first | with_reducible refine WK.thN ?_ | with_reducible refine WK.thR ?_ | with_reducible refine WK.thE ?_ | with_reducible refine WK.thP ?_ | with_reducible refine WK.blN ?_ | with_reducible refine WK.blR ?_ | with_reducible refine WK.blP ?_ | with_reducible refine WK.blE ?_ | with_reducible refine WK.blO rfl ?_ | with_reducible refine WK.thJ ?_)
  refine WC.seq ?_
  refine WC.region ?_
  refine WL.p (Gp.move rfl) (by kernel_rfl) rfl ?_
  refine WL.op (by kernel_rfl) (OW.callR rfl (Hf := []) (List.Perm.refl _) (ltext_fn G a) rfl (by rintro e G' H' ⟨h, _⟩; exact ⟨_, h⟩) fun v' G' H' h hg => ?_)
  obtain ⟨he, rfl, rfl⟩ := h
  cases he
  refine WL.p (Gp.move rfl) (by kernel_rfl) rfl ?_
  refine WL.op (by kernel_rfl) (OW.callR rfl (Hf := []) (List.Perm.refl _) (ltext_fn G b) rfl (by rintro e G' H' ⟨h, _⟩; exact ⟨_, h⟩) fun v' G' H' h hg => ?_)
  obtain ⟨he, rfl, rfl⟩ := h
  cases he
  refine WL.p (Gp.move rfl) (by kernel_rfl) rfl ?_
  refine WL.p (Gp.move rfl) (by kernel_rfl) rfl ?_
  refine WL.op (by kernel_rfl) (OW.callR rfl (Pk.perm (by repeat (first | exact Pk.nil | exact Pk.all | exact Pk.app | exact Pk.appR | with_reducible apply Pk.na | (apply Pk.cons; (repeat first | exact .here | apply Rem.there | apply Rem.app)) | apply Pk.skip | apply Pk.skipA))) (two_fn G (textV a) (textV b) 17 2) rfl (by intro e G' H' h; repeat (first | exact ⟨_, h.1⟩ | (obtain ⟨_, h⟩ := h))) fun v' G' H' h hg => ?_)
  obtain ⟨CA, PA, he, hg1, hC, hP, rfl⟩ := h
  cases he
  refine WL.op (by kernel_rfl) (OW.callR rfl (Pk.perm (by repeat (first | exact Pk.nil | exact Pk.all | exact Pk.app | exact Pk.appR | with_reducible apply Pk.na | (apply Pk.cons; (repeat first | exact .here | apply Rem.there | apply Rem.app)) | apply Pk.skip | apply Pk.skipA))) (Run_two G' (twoP (textV a) (textV b) 17 2) CA PA 2 1 _ hC hP (twoP_B _ _ _ _) _ hrun) rfl (by intro e G' H' h; repeat (first | exact ⟨_, h.1⟩ | (obtain ⟨_, h⟩ := h))) fun v' G' H' h hg => ?_)
  obtain ⟨A1, cap1, x1, he, hg2, hx1, rfl⟩ := h
  cases he
  refine WL.op (by kernel_rfl) (OW.alloc rfl fun b3 => ?_)
  refine WL.op (by kernel_rfl) (OW.store rfl rfl (by (repeat first | exact .here | apply At.there)) rfl (by rfl) (by rfl) (by kernel_rfl) (by rfl) ?_ rfl)
  refine WL.nil ?_
  repeat (first | with_reducible refine WK.thN ?_ | with_reducible refine WK.thR ?_ | with_reducible refine WK.thE ?_ | with_reducible refine WK.thP ?_ | with_reducible refine WK.blN ?_ | with_reducible refine WK.blR ?_ | with_reducible refine WK.blP ?_ | with_reducible refine WK.blE ?_ | with_reducible refine WK.blO rfl ?_ | with_reducible refine WK.thJ ?_)
  refine WC.seq ?_
  refine WC.seq ?_
  refine WC.region ?_
  refine WL.p (Gp.move rfl) (by kernel_rfl) rfl ?_
  (first | refine WL.p (Gp.eqI rfl rfl) (by kernel_rfl) rfl ?_ | refine WL.p (Gp.eqS rfl rfl) (by kernel_rfl) rfl ?_ | refine WL.p (Gp.nilSl rfl) (by kernel_rfl) rfl ?_ | refine WL.p (Gp.eqB rfl rfl) (by kernel_rfl) rfl ?_)
  refine WL.p (Gp.move rfl) (by kernel_rfl) rfl ?_
  refine WL.skip (by kernel_rfl) rfl ?_
  refine WL.skip (by kernel_rfl) rfl ?_
  refine WL.skip (by kernel_rfl) rfl ?_
  refine WL.skip (by kernel_rfl) rfl ?_
  refine WL.skip (by kernel_rfl) rfl ?_
  refine WL.skip (by kernel_rfl) rfl ?_
  (first | refine WL.p (Gp.pickT rfl rfl) (by kernel_rfl) rfl ?_ | refine WL.p (Gp.pickF rfl rfl) (by kernel_rfl) rfl ?_)
  refine WL.nil ?_
  repeat (first | with_reducible refine WK.thN ?_ | with_reducible refine WK.thR ?_ | with_reducible refine WK.thE ?_ | with_reducible refine WK.thP ?_ | with_reducible refine WK.blN ?_ | with_reducible refine WK.blR ?_ | with_reducible refine WK.blP ?_ | with_reducible refine WK.blE ?_ | with_reducible refine WK.blO rfl ?_ | with_reducible refine WK.thJ ?_)
  refine WC.cond_false rfl ?_
  refine WC.skip ?_
  repeat (first | with_reducible refine WK.thN ?_ | with_reducible refine WK.thR ?_ | with_reducible refine WK.thE ?_ | with_reducible refine WK.thP ?_ | with_reducible refine WK.blN ?_ | with_reducible refine WK.blR ?_ | with_reducible refine WK.blP ?_ | with_reducible refine WK.blE ?_ | with_reducible refine WK.blO rfl ?_ | with_reducible refine WK.thJ ?_)
  refine WC.seq ?_
  refine WC.region ?_
  refine WL.p (Gp.move rfl) (by kernel_rfl) rfl ?_
  refine WL.p (Gp.build rfl rfl) (by kernel_rfl) rfl ?_
  refine WL.op (by kernel_rfl) (OW.alloc rfl fun b5 => ?_)
  refine WL.op (by kernel_rfl) (OW.store rfl rfl (by (repeat first | exact .here | apply At.there)) rfl (by rfl) (by rfl) (by kernel_rfl) (by rfl) ?_ rfl)
  refine WL.nil ?_
  repeat (first | with_reducible refine WK.thN ?_ | with_reducible refine WK.thR ?_ | with_reducible refine WK.thE ?_ | with_reducible refine WK.thP ?_ | with_reducible refine WK.blN ?_ | with_reducible refine WK.blR ?_ | with_reducible refine WK.blP ?_ | with_reducible refine WK.blE ?_ | with_reducible refine WK.blO rfl ?_ | with_reducible refine WK.thJ ?_)
  refine WC.seq ?_
  refine WC.seq ?_
  refine WC.region ?_
  refine WL.p (Gp.move rfl) (by kernel_rfl) rfl ?_
  refine WL.nil ?_
  repeat (first | with_reducible refine WK.thN ?_ | with_reducible refine WK.thR ?_ | with_reducible refine WK.thE ?_ | with_reducible refine WK.thP ?_ | with_reducible refine WK.blN ?_ | with_reducible refine WK.blR ?_ | with_reducible refine WK.blP ?_ | with_reducible refine WK.blE ?_ | with_reducible refine WK.blO rfl ?_ | with_reducible refine WK.thJ ?_)
  repeat (first | refine WC.seq ?_ | refine WC.block ?_ | (refine WC.region ?_; refine WL.p (Gp.eqI rfl rfl) (by kernel_rfl) rfl ?_; refine WL.p (Gp.assign rfl) (by kernel_rfl) rfl ?_; refine WL.nil ?_; repeat (first | with_reducible refine WK.thN ?_ | with_reducible refine WK.thR ?_ | with_reducible refine WK.thE ?_ | with_reducible refine WK.thP ?_ | with_reducible refine WK.blN ?_ | with_reducible refine WK.blR ?_ | with_reducible refine WK.blP ?_ | with_reducible refine WK.blE ?_ | with_reducible refine WK.blO rfl ?_ | with_reducible refine WK.thJ ?_)) | refine WC.cond_true rfl ?_ | refine WC.cond_false rfl ?_ | (refine WC.skip ?_; repeat (first | with_reducible refine WK.thN ?_ | with_reducible refine WK.thR ?_ | with_reducible refine WK.thE ?_ | with_reducible refine WK.thP ?_ | with_reducible refine WK.blN ?_ | with_reducible refine WK.blR ?_ | with_reducible refine WK.blP ?_ | with_reducible refine WK.blE ?_ | with_reducible refine WK.blO rfl ?_ | with_reducible refine WK.thJ ?_)) | (refine WC.exit ?_; repeat (first | with_reducible refine WK.thN ?_ | with_reducible refine WK.thR ?_ | with_reducible refine WK.thE ?_ | with_reducible refine WK.thP ?_ | with_reducible refine WK.blN ?_ | with_reducible refine WK.blR ?_ | with_reducible refine WK.blP ?_ | with_reducible refine WK.blE ?_ | with_reducible refine WK.blO rfl ?_ | with_reducible refine WK.thJ ?_)))
  refine WC.region ?_
  refine WL.p (Gp.move rfl) (by kernel_rfl) rfl ?_
  refine WL.p (Gp.move rfl) (by kernel_rfl) rfl ?_
  refine WL.p (Gp.geS rfl rfl) (by kernel_rfl) rfl ?_
  refine WL.p (Gp.fieldAddr rfl) (by kernel_rfl) rfl ?_
  refine WL.op (by kernel_rfl) (OW.store rfl rfl (by (repeat first | exact .here | apply At.there)) rfl (by rfl) (by rfl) (by kernel_rfl) (by rfl) ?_ rfl)
  refine WL.nil ?_
  repeat (first | with_reducible refine WK.thN ?_ | with_reducible refine WK.thR ?_ | with_reducible refine WK.thE ?_ | with_reducible refine WK.thP ?_ | with_reducible refine WK.blN ?_ | with_reducible refine WK.blR ?_ | with_reducible refine WK.blP ?_ | with_reducible refine WK.blE ?_ | with_reducible refine WK.blO rfl ?_ | with_reducible refine WK.thJ ?_)
  refine WC.seq ?_
  refine WC.region ?_
  refine WL.p (Gp.fieldAddr rfl) (by kernel_rfl) rfl ?_
  refine WL.v (Gv.load1 rfl (by (repeat first | exact .here | apply At.there)) rfl) (by kernel_rfl) rfl ?_
  (first | refine WL.p (Gp.eqI rfl rfl) (by kernel_rfl) rfl ?_ | refine WL.p (Gp.eqS rfl rfl) (by kernel_rfl) rfl ?_ | refine WL.p (Gp.nilSl rfl) (by kernel_rfl) rfl ?_ | refine WL.p (Gp.eqB rfl rfl) (by kernel_rfl) rfl ?_)
  refine WL.p (Gp.move rfl) (by kernel_rfl) rfl ?_
  refine WL.p (Gp.fieldAddr rfl) (by kernel_rfl) rfl ?_
  refine WL.v (Gv.loadN rfl (by (repeat first | exact .here | apply At.there)) rfl rfl) (by kernel_rfl) rfl ?_
  refine WL.v (Gv.loadN rfl (by (repeat first | exact .here | apply At.there)) rfl rfl) (by kernel_rfl) rfl ?_
  refine WL.p (Gp.eqVt (r := true) (u := truthV (!Op.bytesLess a.toList b.toList)) (v := truthV (!Op.bytesLess a.toList b.toList)) rfl rfl (by simp)) (by kernel_rfl) rfl ?_
  (first | refine WL.p (Gp.pickT rfl rfl) (by kernel_rfl) rfl ?_ | refine WL.p (Gp.pickF rfl rfl) (by kernel_rfl) rfl ?_)
  refine WL.p (Gp.move rfl) (by kernel_rfl) rfl ?_
  refine WL.op (by kernel_rfl) (OW.callR rfl (Pk.perm (by repeat (first | exact Pk.nil | exact Pk.all | exact Pk.app | exact Pk.appR | with_reducible apply Pk.na | (apply Pk.cons; (repeat first | exact .here | apply Rem.there | apply Rem.app)) | apply Pk.skip | apply Pk.skipA))) (awake_fn _) rfl (by intro e G' H' h; repeat (first | exact ⟨_, h.1⟩ | (obtain ⟨_, h⟩ := h))) fun v' G' H' h hg => ?_)
  obtain ⟨he, hg3, rfl⟩ := h
  cases he
  (first | refine WL.p (Gp.pickT rfl rfl) (by kernel_rfl) rfl ?_ | refine WL.p (Gp.pickF rfl rfl) (by kernel_rfl) rfl ?_)
  refine WL.p (Gp.assign rfl) (by kernel_rfl) rfl ?_
  refine WL.nil ?_
  repeat (first | with_reducible refine WK.thN ?_ | with_reducible refine WK.thR ?_ | with_reducible refine WK.thE ?_ | with_reducible refine WK.thP ?_ | with_reducible refine WK.blN ?_ | with_reducible refine WK.blR ?_ | with_reducible refine WK.blP ?_ | with_reducible refine WK.blE ?_ | with_reducible refine WK.blO rfl ?_ | with_reducible refine WK.thJ ?_)
  refine WC.ret ?_
  repeat (first | with_reducible refine WK.thN ?_ | with_reducible refine WK.thR ?_ | with_reducible refine WK.thE ?_ | with_reducible refine WK.thP ?_ | with_reducible refine WK.blN ?_ | with_reducible refine WK.blR ?_ | with_reducible refine WK.blP ?_ | with_reducible refine WK.blE ?_ | with_reducible refine WK.blO rfl ?_ | with_reducible refine WK.thJ ?_)
  exact QF.p1 (.inl rfl) rfl (.tmp rfl) (⟨rfl, Gh.le_trans hg1 (Gh.le_trans hg2 hg3), rfl⟩) (by repeat (first | exact Pk.nil | exact Pk.all | exact Pk.app | exact Pk.appR | with_reducible apply Pk.na | (apply Pk.cons; (repeat first | exact .here | apply Rem.there | apply Rem.app)) | apply Pk.skip | apply Pk.skipA))

theorem texts_ne (G : Gh) (a b : ByteArray) (o : Int) (ho0 : 0 ≤ o) (ho1 : o ≤ 255) (ha : (a.size : Int) ≤ 4096) (hb : (b.size : Int) ≤ 4096) (hi : o.tmod 4 = 3) : Fn Try.prog 6 #[.string a, .string b, .int .u8 o] G [] fun e G' H' => e = .returned (.bool true) ∧ G.le G' ∧ H' = [] := by
  have hrun : runR (twoP (textV a) (textV b) 13 2) 0 9 [] = ⟨1, truthV (!(a == b)), [], 4⟩ := run_two (vOK_text (by omega)) (vOK_text (by omega)) (by decide) (by rw [← ne_text a b]; simp [plainR, onB, pop2, textV]) (by decide) rfl
  refine Fn.enter Try.func6 rfl rfl fun w0 => ?_
  refine WC.seq ?_
  refine WC.region ?_
  refine WL.p (Gp.assign rfl) (by kernel_rfl) rfl ?_
  refine WL.nil ?_
  repeat (first | with_reducible refine WK.thN ?_ | with_reducible refine WK.thR ?_ | with_reducible refine WK.thE ?_ | with_reducible refine WK.thP ?_ | with_reducible refine WK.blN ?_ | with_reducible refine WK.blR ?_ | with_reducible refine WK.blP ?_ | with_reducible refine WK.blE ?_ | with_reducible refine WK.blO rfl ?_ | with_reducible refine WK.thJ ?_)
  refine WC.seq ?_
  refine WC.seq ?_
  refine WC.region ?_
  refine WL.p (Gp.move rfl) (by kernel_rfl) rfl ?_
  (first | refine WL.p (Gp.lenSl rfl) (by kernel_rfl) rfl ?_ | refine WL.p (Gp.lenS rfl) (by kernel_rfl) rfl ?_)
  refine WL.p (Gp.gtI' (r := false) rfl rfl (by simp; omega)) (by kernel_rfl) rfl ?_
  refine WL.p (Gp.move rfl) (by kernel_rfl) rfl ?_
  refine WL.p (Gp.move rfl) (by kernel_rfl) rfl ?_
  (first | refine WL.p (Gp.lenSl rfl) (by kernel_rfl) rfl ?_ | refine WL.p (Gp.lenS rfl) (by kernel_rfl) rfl ?_)
  refine WL.p (Gp.gtI' (r := false) rfl rfl (by simp; omega)) (by kernel_rfl) rfl ?_
  (first | refine WL.p (Gp.pickT rfl rfl) (by kernel_rfl) rfl ?_ | refine WL.p (Gp.pickF rfl rfl) (by kernel_rfl) rfl ?_)
  refine WL.nil ?_
  repeat (first | with_reducible refine WK.thN ?_ | with_reducible refine WK.thR ?_ | with_reducible refine WK.thE ?_ | with_reducible refine WK.thP ?_ | with_reducible refine WK.blN ?_ | with_reducible refine WK.blR ?_ | with_reducible refine WK.blP ?_ | with_reducible refine WK.blE ?_ | with_reducible refine WK.blO rfl ?_ | with_reducible refine WK.thJ ?_)
  refine WC.cond_false rfl ?_
  refine WC.skip ?_
  repeat (first | with_reducible refine WK.thN ?_ | with_reducible refine WK.thR ?_ | with_reducible refine WK.thE ?_ | with_reducible refine WK.thP ?_ | with_reducible refine WK.blN ?_ | with_reducible refine WK.blR ?_ | with_reducible refine WK.blP ?_ | with_reducible refine WK.blE ?_ | with_reducible refine WK.blO rfl ?_ | with_reducible refine WK.thJ ?_)
  refine WC.seq ?_
  refine WC.region ?_
  refine WL.op (by kernel_rfl) (OW.buildSlice rfl (by kernel_rfl) (by kernel_rfl) (by rfl) rfl fun b1 => ?_)
  refine WL.p (Gp.assign rfl) (by kernel_rfl) rfl ?_
  refine WL.nil ?_
  repeat (first | with_reducible refine WK.thN ?_ | with_reducible refine WK.thR ?_ | with_reducible refine WK.thE ?_ | with_reducible refine WK.thP ?_ | with_reducible refine WK.blN ?_ | with_reducible refine WK.blR ?_ | with_reducible refine WK.blP ?_ | with_reducible refine WK.blE ?_ | with_reducible refine WK.blO rfl ?_ | with_reducible refine WK.thJ ?_)
  refine WC.seq ?_
  refine WC.region ?_
  refine WL.p (Gp.move rfl) (by kernel_rfl) rfl ?_
  refine WL.p (Gp.move rfl) (by kernel_rfl) rfl ?_
  refine WL.p (Gp.convIt rfl (wrap_small (x := o) (by omega) (by omega))) (by kernel_rfl) rfl ?_
  refine WL.p (Gp.move rfl) (by kernel_rfl) rfl ?_
  (first | refine WL.p (Gp.lenSl rfl) (by kernel_rfl) rfl ?_ | refine WL.p (Gp.lenS rfl) (by kernel_rfl) rfl ?_)
  refine WL.p (Gp.remt rfl rfl (by decide) hi) (by kernel_rfl) rfl ?_
  refine WL.p (Gp.indexAddr rfl rfl (by first | assumption | omega | decide) (by first | assumption | omega | decide | (simp only [List.length_cons, List.length_nil]; decide))) (by kernel_rfl) rfl ?_
  refine WL.v (Gv.load1 rfl .here rfl) (by kernel_rfl) rfl ?_
  refine WL.p (Gp.assign rfl) (by kernel_rfl) rfl ?_
  refine WL.nil ?_
  repeat (first | with_reducible refine WK.thN ?_ | with_reducible refine WK.thR ?_ | with_reducible refine WK.thE ?_ | with_reducible refine WK.thP ?_ | with_reducible refine WK.blN ?_ | with_reducible refine WK.blR ?_ | with_reducible refine WK.blP ?_ | with_reducible refine WK.blE ?_ | with_reducible refine WK.blO rfl ?_ | with_reducible refine WK.thJ ?_)
  refine WC.seq ?_
  refine WC.region ?_
  refine WL.p (Gp.assign rfl) (by kernel_rfl) rfl ?_
  refine WL.nil ?_
  repeat (first | with_reducible refine WK.thN ?_ | with_reducible refine WK.thR ?_ | with_reducible refine WK.thE ?_ | with_reducible refine WK.thP ?_ | with_reducible refine WK.blN ?_ | with_reducible refine WK.blR ?_ | with_reducible refine WK.blP ?_ | with_reducible refine WK.blE ?_ | with_reducible refine WK.blO rfl ?_ | with_reducible refine WK.thJ ?_)
  refine WC.seq ?_
  refine WC.seq ?_
  refine WC.region ?_
  refine WL.p (Gp.move rfl) (by kernel_rfl) rfl ?_
  (first | refine WL.p (Gp.eqI rfl rfl) (by kernel_rfl) rfl ?_ | refine WL.p (Gp.eqS rfl rfl) (by kernel_rfl) rfl ?_ | refine WL.p (Gp.nilSl rfl) (by kernel_rfl) rfl ?_ | refine WL.p (Gp.eqB rfl rfl) (by kernel_rfl) rfl ?_)
  refine WL.nil ?_
  repeat (first | with_reducible refine WK.thN ?_ | with_reducible refine WK.thR ?_ | with_reducible refine WK.thE ?_ | with_reducible refine WK.thP ?_ | with_reducible refine WK.blN ?_ | with_reducible refine WK.blR ?_ | with_reducible refine WK.blP ?_ | with_reducible refine WK.blE ?_ | with_reducible refine WK.blO rfl ?_ | with_reducible refine WK.thJ ?_)
  refine WC.cond_false rfl ?_
  refine WC.skip ?_
  repeat (first | with_reducible refine WK.thN ?_ | with_reducible refine WK.thR ?_ | with_reducible refine WK.thE ?_ | with_reducible refine WK.thP ?_ | with_reducible refine WK.blN ?_ | with_reducible refine WK.blR ?_ | with_reducible refine WK.blP ?_ | with_reducible refine WK.blE ?_ | with_reducible refine WK.blO rfl ?_ | with_reducible refine WK.thJ ?_)
  refine WC.seq ?_
  refine WC.region ?_
  refine WL.p (Gp.move rfl) (by kernel_rfl) rfl ?_
  refine WL.op (by kernel_rfl) (OW.callR rfl (Hf := []) (List.Perm.refl _) (ltext_fn G a) rfl (by rintro e G' H' ⟨h, _⟩; exact ⟨_, h⟩) fun v' G' H' h hg => ?_)
  obtain ⟨he, rfl, rfl⟩ := h
  cases he
  refine WL.p (Gp.move rfl) (by kernel_rfl) rfl ?_
  refine WL.op (by kernel_rfl) (OW.callR rfl (Hf := []) (List.Perm.refl _) (ltext_fn G b) rfl (by rintro e G' H' ⟨h, _⟩; exact ⟨_, h⟩) fun v' G' H' h hg => ?_)
  obtain ⟨he, rfl, rfl⟩ := h
  cases he
  refine WL.p (Gp.move rfl) (by kernel_rfl) rfl ?_
  refine WL.p (Gp.move rfl) (by kernel_rfl) rfl ?_
  refine WL.op (by kernel_rfl) (OW.callR rfl (Pk.perm (by repeat (first | exact Pk.nil | exact Pk.all | exact Pk.app | exact Pk.appR | with_reducible apply Pk.na | (apply Pk.cons; (repeat first | exact .here | apply Rem.there | apply Rem.app)) | apply Pk.skip | apply Pk.skipA))) (two_fn G (textV a) (textV b) 13 2) rfl (by intro e G' H' h; repeat (first | exact ⟨_, h.1⟩ | (obtain ⟨_, h⟩ := h))) fun v' G' H' h hg => ?_)
  obtain ⟨CA, PA, he, hg1, hC, hP, rfl⟩ := h
  cases he
  refine WL.op (by kernel_rfl) (OW.callR rfl (Pk.perm (by repeat (first | exact Pk.nil | exact Pk.all | exact Pk.app | exact Pk.appR | with_reducible apply Pk.na | (apply Pk.cons; (repeat first | exact .here | apply Rem.there | apply Rem.app)) | apply Pk.skip | apply Pk.skipA))) (Run_two G' (twoP (textV a) (textV b) 13 2) CA PA 2 1 _ hC hP (twoP_B _ _ _ _) _ hrun) rfl (by intro e G' H' h; repeat (first | exact ⟨_, h.1⟩ | (obtain ⟨_, h⟩ := h))) fun v' G' H' h hg => ?_)
  obtain ⟨A1, cap1, x1, he, hg2, hx1, rfl⟩ := h
  cases he
  refine WL.op (by kernel_rfl) (OW.alloc rfl fun b3 => ?_)
  refine WL.op (by kernel_rfl) (OW.store rfl rfl (by (repeat first | exact .here | apply At.there)) rfl (by rfl) (by rfl) (by kernel_rfl) (by rfl) ?_ rfl)
  refine WL.nil ?_
  repeat (first | with_reducible refine WK.thN ?_ | with_reducible refine WK.thR ?_ | with_reducible refine WK.thE ?_ | with_reducible refine WK.thP ?_ | with_reducible refine WK.blN ?_ | with_reducible refine WK.blR ?_ | with_reducible refine WK.blP ?_ | with_reducible refine WK.blE ?_ | with_reducible refine WK.blO rfl ?_ | with_reducible refine WK.thJ ?_)
  refine WC.seq ?_
  refine WC.seq ?_
  refine WC.region ?_
  refine WL.p (Gp.move rfl) (by kernel_rfl) rfl ?_
  (first | refine WL.p (Gp.eqI rfl rfl) (by kernel_rfl) rfl ?_ | refine WL.p (Gp.eqS rfl rfl) (by kernel_rfl) rfl ?_ | refine WL.p (Gp.nilSl rfl) (by kernel_rfl) rfl ?_ | refine WL.p (Gp.eqB rfl rfl) (by kernel_rfl) rfl ?_)
  refine WL.p (Gp.move rfl) (by kernel_rfl) rfl ?_
  refine WL.skip (by kernel_rfl) rfl ?_
  refine WL.skip (by kernel_rfl) rfl ?_
  refine WL.skip (by kernel_rfl) rfl ?_
  refine WL.skip (by kernel_rfl) rfl ?_
  refine WL.skip (by kernel_rfl) rfl ?_
  refine WL.skip (by kernel_rfl) rfl ?_
  (first | refine WL.p (Gp.pickT rfl rfl) (by kernel_rfl) rfl ?_ | refine WL.p (Gp.pickF rfl rfl) (by kernel_rfl) rfl ?_)
  refine WL.nil ?_
  repeat (first | with_reducible refine WK.thN ?_ | with_reducible refine WK.thR ?_ | with_reducible refine WK.thE ?_ | with_reducible refine WK.thP ?_ | with_reducible refine WK.blN ?_ | with_reducible refine WK.blR ?_ | with_reducible refine WK.blP ?_ | with_reducible refine WK.blE ?_ | with_reducible refine WK.blO rfl ?_ | with_reducible refine WK.thJ ?_)
  refine WC.cond_false rfl ?_
  refine WC.skip ?_
  repeat (first | with_reducible refine WK.thN ?_ | with_reducible refine WK.thR ?_ | with_reducible refine WK.thE ?_ | with_reducible refine WK.thP ?_ | with_reducible refine WK.blN ?_ | with_reducible refine WK.blR ?_ | with_reducible refine WK.blP ?_ | with_reducible refine WK.blE ?_ | with_reducible refine WK.blO rfl ?_ | with_reducible refine WK.thJ ?_)
  refine WC.seq ?_
  refine WC.region ?_
  refine WL.p (Gp.move rfl) (by kernel_rfl) rfl ?_
  refine WL.p (Gp.build rfl rfl) (by kernel_rfl) rfl ?_
  refine WL.op (by kernel_rfl) (OW.alloc rfl fun b5 => ?_)
  refine WL.op (by kernel_rfl) (OW.store rfl rfl (by (repeat first | exact .here | apply At.there)) rfl (by rfl) (by rfl) (by kernel_rfl) (by rfl) ?_ rfl)
  refine WL.nil ?_
  repeat (first | with_reducible refine WK.thN ?_ | with_reducible refine WK.thR ?_ | with_reducible refine WK.thE ?_ | with_reducible refine WK.thP ?_ | with_reducible refine WK.blN ?_ | with_reducible refine WK.blR ?_ | with_reducible refine WK.blP ?_ | with_reducible refine WK.blE ?_ | with_reducible refine WK.blO rfl ?_ | with_reducible refine WK.thJ ?_)
  refine WC.seq ?_
  refine WC.seq ?_
  refine WC.region ?_
  refine WL.p (Gp.move rfl) (by kernel_rfl) rfl ?_
  refine WL.nil ?_
  repeat (first | with_reducible refine WK.thN ?_ | with_reducible refine WK.thR ?_ | with_reducible refine WK.thE ?_ | with_reducible refine WK.thP ?_ | with_reducible refine WK.blN ?_ | with_reducible refine WK.blR ?_ | with_reducible refine WK.blP ?_ | with_reducible refine WK.blE ?_ | with_reducible refine WK.blO rfl ?_ | with_reducible refine WK.thJ ?_)
  repeat (first | refine WC.seq ?_ | refine WC.block ?_ | (refine WC.region ?_; refine WL.p (Gp.eqI rfl rfl) (by kernel_rfl) rfl ?_; refine WL.p (Gp.assign rfl) (by kernel_rfl) rfl ?_; refine WL.nil ?_; repeat (first | with_reducible refine WK.thN ?_ | with_reducible refine WK.thR ?_ | with_reducible refine WK.thE ?_ | with_reducible refine WK.thP ?_ | with_reducible refine WK.blN ?_ | with_reducible refine WK.blR ?_ | with_reducible refine WK.blP ?_ | with_reducible refine WK.blE ?_ | with_reducible refine WK.blO rfl ?_ | with_reducible refine WK.thJ ?_)) | refine WC.cond_true rfl ?_ | refine WC.cond_false rfl ?_ | (refine WC.skip ?_; repeat (first | with_reducible refine WK.thN ?_ | with_reducible refine WK.thR ?_ | with_reducible refine WK.thE ?_ | with_reducible refine WK.thP ?_ | with_reducible refine WK.blN ?_ | with_reducible refine WK.blR ?_ | with_reducible refine WK.blP ?_ | with_reducible refine WK.blE ?_ | with_reducible refine WK.blO rfl ?_ | with_reducible refine WK.thJ ?_)) | (refine WC.exit ?_; repeat (first | with_reducible refine WK.thN ?_ | with_reducible refine WK.thR ?_ | with_reducible refine WK.thE ?_ | with_reducible refine WK.thP ?_ | with_reducible refine WK.blN ?_ | with_reducible refine WK.blR ?_ | with_reducible refine WK.blP ?_ | with_reducible refine WK.blE ?_ | with_reducible refine WK.blO rfl ?_ | with_reducible refine WK.thJ ?_)))
  refine WC.region ?_
  refine WL.p (Gp.move rfl) (by kernel_rfl) rfl ?_
  refine WL.p (Gp.move rfl) (by kernel_rfl) rfl ?_
  refine WL.p (Gp.neS rfl rfl) (by kernel_rfl) rfl ?_
  refine WL.p (Gp.fieldAddr rfl) (by kernel_rfl) rfl ?_
  refine WL.op (by kernel_rfl) (OW.store rfl rfl (by (repeat first | exact .here | apply At.there)) rfl (by rfl) (by rfl) (by kernel_rfl) (by rfl) ?_ rfl)
  refine WL.nil ?_
  repeat (first | with_reducible refine WK.thN ?_ | with_reducible refine WK.thR ?_ | with_reducible refine WK.thE ?_ | with_reducible refine WK.thP ?_ | with_reducible refine WK.blN ?_ | with_reducible refine WK.blR ?_ | with_reducible refine WK.blP ?_ | with_reducible refine WK.blE ?_ | with_reducible refine WK.blO rfl ?_ | with_reducible refine WK.thJ ?_)
  refine WC.seq ?_
  refine WC.region ?_
  refine WL.p (Gp.fieldAddr rfl) (by kernel_rfl) rfl ?_
  refine WL.v (Gv.load1 rfl (by (repeat first | exact .here | apply At.there)) rfl) (by kernel_rfl) rfl ?_
  (first | refine WL.p (Gp.eqI rfl rfl) (by kernel_rfl) rfl ?_ | refine WL.p (Gp.eqS rfl rfl) (by kernel_rfl) rfl ?_ | refine WL.p (Gp.nilSl rfl) (by kernel_rfl) rfl ?_ | refine WL.p (Gp.eqB rfl rfl) (by kernel_rfl) rfl ?_)
  refine WL.p (Gp.move rfl) (by kernel_rfl) rfl ?_
  refine WL.p (Gp.fieldAddr rfl) (by kernel_rfl) rfl ?_
  refine WL.v (Gv.loadN rfl (by (repeat first | exact .here | apply At.there)) rfl rfl) (by kernel_rfl) rfl ?_
  refine WL.v (Gv.loadN rfl (by (repeat first | exact .here | apply At.there)) rfl rfl) (by kernel_rfl) rfl ?_
  refine WL.p (Gp.eqVt (r := true) (u := truthV (!(a == b))) (v := truthV (!(a == b))) rfl rfl (by simp)) (by kernel_rfl) rfl ?_
  (first | refine WL.p (Gp.pickT rfl rfl) (by kernel_rfl) rfl ?_ | refine WL.p (Gp.pickF rfl rfl) (by kernel_rfl) rfl ?_)
  refine WL.p (Gp.move rfl) (by kernel_rfl) rfl ?_
  refine WL.op (by kernel_rfl) (OW.callR rfl (Pk.perm (by repeat (first | exact Pk.nil | exact Pk.all | exact Pk.app | exact Pk.appR | with_reducible apply Pk.na | (apply Pk.cons; (repeat first | exact .here | apply Rem.there | apply Rem.app)) | apply Pk.skip | apply Pk.skipA))) (awake_fn _) rfl (by intro e G' H' h; repeat (first | exact ⟨_, h.1⟩ | (obtain ⟨_, h⟩ := h))) fun v' G' H' h hg => ?_)
  obtain ⟨he, hg3, rfl⟩ := h
  cases he
  (first | refine WL.p (Gp.pickT rfl rfl) (by kernel_rfl) rfl ?_ | refine WL.p (Gp.pickF rfl rfl) (by kernel_rfl) rfl ?_)
  refine WL.p (Gp.assign rfl) (by kernel_rfl) rfl ?_
  refine WL.nil ?_
  repeat (first | with_reducible refine WK.thN ?_ | with_reducible refine WK.thR ?_ | with_reducible refine WK.thE ?_ | with_reducible refine WK.thP ?_ | with_reducible refine WK.blN ?_ | with_reducible refine WK.blR ?_ | with_reducible refine WK.blP ?_ | with_reducible refine WK.blE ?_ | with_reducible refine WK.blO rfl ?_ | with_reducible refine WK.thJ ?_)
  refine WC.ret ?_
  repeat (first | with_reducible refine WK.thN ?_ | with_reducible refine WK.thR ?_ | with_reducible refine WK.thE ?_ | with_reducible refine WK.thP ?_ | with_reducible refine WK.blN ?_ | with_reducible refine WK.blR ?_ | with_reducible refine WK.blP ?_ | with_reducible refine WK.blE ?_ | with_reducible refine WK.blO rfl ?_ | with_reducible refine WK.thJ ?_)
  exact QF.p1 (.inl rfl) rfl (.tmp rfl) (⟨rfl, Gh.le_trans hg1 (Gh.le_trans hg2 hg3), rfl⟩) (by repeat (first | exact Pk.nil | exact Pk.all | exact Pk.app | exact Pk.appR | with_reducible apply Pk.na | (apply Pk.cons; (repeat first | exact .here | apply Rem.there | apply Rem.app)) | apply Pk.skip | apply Pk.skipA))

end Go.Proofs.Ytjgohbepageicaa.Gb
