/- Two values are held against one another; too few for an operation; what an instruction without a number comes to. -/
import Derived.Test.YtjgohbepageicaaVk
namespace Go.Proofs.Ytjgohbepageicaa.Gb
open Go Go.Proofs
set_option linter.unusedVariables false
set_option linter.unusedSimpArgs false

deriving instance DecidableEq for V
theorem bytes_beq (a b : ByteArray) : (a == b) = decide (a = b) := by
  rw [beq_toListBytes, ByteArray.toList_eq, ByteArray.toList_eq]
  obtain ⟨⟨a⟩⟩ := a
  obtain ⟨⟨b⟩⟩ := b
  rw [Bool.eq_iff_iff]
  simp

section
variable {L : List (Nat × Value)} {d : Option Tmp} {ty : TypeId} {pos : String} {af : Array Edge} {gu : Option (Nat × Bool)}
theorem Gp.eqV {x y : Operand} {t' : TypeId} {u v : V} (hx : ev L x = some (.agg #[.int .i64 u.t, .int .i64 u.i, .bool u.b, .string u.s])) (hy : ev L y = some (.agg #[.int .i64 v.t, .int .i64 v.i, .bool v.b, .string v.s])) :
    Gp Try.prog L ⟨d, .binOp .eql 33 x y t', ty, pos, af, gu⟩ (.bool (decide (u = v))) := fun a st w => by
  have h1 : Try.prog.eqGuardType Try.prog.depth 33 = false := by kernel_rfl
  have h2 : Try.prog.underlying 33 = some (.struct (Try.prog.fieldsOf 33)) := by kernel_rfl
  have h3 : Try.prog.stoodInHeld 33 = false := by kernel_rfl
  have key : (Op.eqFields 9999 #[.int .i64 u.t, .int .i64 u.i, .bool u.b, .string u.s] #[.int .i64 v.t, .int .i64 v.i, .bool v.b, .string v.s] (Try.prog.fieldsOf 33).toList).run Try.prog w = .ok (decide (u = v)) w := by
    have a0 := fun w => (inferInstance : Agg Try.prog 31 false).h w
    have a1 := fun w => (inferInstance : Agg Try.prog 2 false).h w
    have a2 := fun w => (inferInstance : Agg Try.prog 4 false).h w
    have a3 := fun w => (inferInstance : Agg Try.prog 9 false).h w
    have u0 : Try.prog.underlying 31 = some (.int .i64) := Und.h
    have u1 : Try.prog.underlying 2 = some (.int .i64) := Und.h
    have u2 : Try.prog.underlying 4 = some .bool := Und.h
    have u3 : Try.prog.underlying 9 = some .string := Und.h
    have e : decide (u = v) = (u.t == v.t && (u.i == v.i && (u.b == v.b && (u.s.toList == v.s.toList)))) := by
      rw [← beq_toListBytes, bytes_beq]
      obtain ⟨t, i, b, s⟩ := u
      obtain ⟨t', i', b', s'⟩ := v
      rw [Bool.eq_iff_iff]
      simp
    rw [e]
    simp only [Program.fieldsOf, Try.underlying33]
    simp only [Op.eqFields, part, Sem.run_bind, a0, a1, a2, a3, Result.andThen_ok, Sem.run_ite]
    simp [run_equalIn_int _ _ _ _ _ _ _ u0, run_equalIn_int _ _ _ _ _ _ _ u1, run_equalIn_bool' _ _ _ _ _ u2, run_equalIn_string _ _ _ _ _ u3]
    by_cases q0 : u.t = v.t <;> by_cases q1 : u.i = v.i <;> by_cases q2 : u.b = v.b <;> by_cases q3 : u.s.toList = v.s.toList <;> simp [q0, q1, q2, q3]
  simp only [execOp, Sem.run_bind, st.eval hx, st.eval hy, run_eqGuard_agg w .eql _ x y _ _ h1, Result.andThen_ok, run_eql_struct, run_equalIn_agg w 9999 _ _ _ h2 h3, key]
  rfl
end

attribute [local irreducible] Try.prog
theorem typed_no (G : Gh) (mv : Value) (b : Nat) (A : Option Addr) (n cap : Nat) (p a : Int) (B : Option Addr) (m cm : Nat) (k t : Int) (hb : (n : Int) < k) :
    Fn Try.prog 67 #[mv, .pointer (some ⟨b, 0, none⟩), .int .i64 k, .int .i64 t] G [frB b A n cap p a B m cm]
      fun e G' H' => e = halted 6 ∧ G = G' ∧ Left b H' := by
  refine Fn.enter Try.func67 rfl rfl fun w0 => ?_
  refine WC.seq ?_
  refine WC.region ?_
  refine WL.p (Gp.assign rfl) (by kernel_rfl) rfl ?_
  refine WL.nil ?_
  refine WK.un ?_
  refine WC.seq ?_
  refine WC.region ?_
  refine WL.p (Gp.move rfl) (by kernel_rfl) rfl ?_
  refine WL.p (Gp.move rfl) (by kernel_rfl) rfl ?_
  refine WL.p (Gp.move rfl) (by kernel_rfl) rfl ?_
  refine WL.op (by kernel_rfl) (OW.call rfl (Pk.perm (by repeat (first | exact Pk.nil | exact Pk.all | exact Pk.app | exact Pk.appR | with_reducible apply Pk.na | (apply Pk.cons; (repeat first | exact .here | apply Rem.there | apply Rem.app)) | apply Pk.skip | apply Pk.skipA))) (take_no G mv b A n cap p a B m cm k hb) rfl (fun v' G' H' h hg => by cases h.1) (fun ch G' H' h hg => ?_) (fun G' H' h => by repeat (first | (cases h.1; done) | (cases h; done) | (obtain ⟨_, h⟩ := h) | (rcases h with h | h))))
  obtain ⟨he, rfl, c, hc, rfl⟩ := h
  cases he
  refine WK.un ?_
  exact QF.panicP ⟨rfl, rfl, c, hc, rfl⟩ (by repeat (first | exact Pk.nil | exact Pk.all | exact Pk.app | exact Pk.appR | with_reducible apply Pk.na | (apply Pk.cons; (repeat first | exact .here | apply Rem.there | apply Rem.app)) | apply Pk.skip | apply Pk.skipA))
theorem ordered_no (G : Gh) (mv : Value) (b : Nat) (A : Option Addr) (n cap : Nat) (p a : Int) (B : Option Addr) (m cm : Nat) (c : Int) (hb : n < 2) :
    Fn Try.prog 84 #[mv, .pointer (some ⟨b, 0, none⟩), .int .i64 c] G [frB b A n cap p a B m cm]
      fun e G' H' => e = halted 6 ∧ G = G' ∧ Left b H' := by
  refine Fn.enter Try.func84 rfl rfl fun w0 => ?_
  refine WC.seq ?_
  refine WC.region ?_
  refine WL.p (Gp.assign rfl) (by kernel_rfl) rfl ?_
  refine WL.nil ?_
  refine WK.un ?_
  refine WC.seq ?_
  refine WC.region ?_
  refine WL.p (Gp.move rfl) (by kernel_rfl) rfl ?_
  refine WL.p (Gp.move rfl) (by kernel_rfl) rfl ?_
  refine WL.op (by kernel_rfl) (OW.call rfl (Pk.perm (by repeat (first | exact Pk.nil | exact Pk.all | exact Pk.app | exact Pk.appR | with_reducible apply Pk.na | (apply Pk.cons; (repeat first | exact .here | apply Rem.there | apply Rem.app)) | apply Pk.skip | apply Pk.skipA))) (take_no G mv b A n cap p a B m cm 2 (by omega)) rfl (fun v' G' H' h hg => by cases h.1) (fun ch G' H' h hg => ?_) (fun G' H' h => by repeat (first | (cases h.1; done) | (cases h; done) | (obtain ⟨_, h⟩ := h) | (rcases h with h | h))))
  obtain ⟨he, rfl, c, hc, rfl⟩ := h
  cases he
  refine WK.un ?_
  exact QF.panicP ⟨rfl, rfl, c, hc, rfl⟩ (by repeat (first | exact Pk.nil | exact Pk.all | exact Pk.app | exact Pk.appR | with_reducible apply Pk.na | (apply Pk.cons; (repeat first | exact .here | apply Rem.there | apply Rem.app)) | apply Pk.skip | apply Pk.skipA))

theorem WK.swap {K : Act → World → Prop} {cx : Cx} {L : List (Nat × Value)} {G : Gh} {H F : List Own} (h : WK K cx L G (F ++ H)) : WK K cx L G (H ++ F) := fun a w st => h a w (st.perm List.perm_append_comm)
theorem VVec.snoc {A : Option Addr} {cap : Nat} {l : List V} {v : V} {x : Own} (h : Vec 33 4 A (l.length + 1) cap (vflat l ++ vcells v) x) : VVec A cap (l ++ [v]) x := by
  have e1 : vflat (l ++ [v]) = vflat l ++ vcells v := by rw [vflat_append]; simp [vflat]
  have e2 : (l ++ [v]).length = l.length + 1 := by simp
  unfold VVec; rw [e1, e2]; exact h
theorem pushV_fn (G : Gh) (b : Nat) (A : Option Addr) (cap : Nat) (p a : Int) (B : Option Addr) (m cm : Nat) (l : List V) (x : Own) (v : V) (hv : VVec A cap l x) (hb : l.length ≤ 1000000000) :
    Fn Try.prog 79 #[.pointer (some ⟨b, 0, none⟩), .agg #[.int .i64 v.t, .int .i64 v.i, .bool v.b, .string v.s]] G [frB b A l.length cap p a B m cm, x]
      fun e G' H' => ∃ A' cap' x', e = .returned (.tuple #[]) ∧ G = G' ∧ H' = [frB b A' (l ++ [v]).length cap' p a B m cm, x'] ∧ VVec A' cap' (l ++ [v]) x' :=
  (push_fn G b A l.length cap p a B m cm (vflat l) x v hv hb).mono fun e G' H' ⟨A', cap', x', h1, h2, h3, h4⟩ => ⟨A', cap', x', h1, h2, by rw [h3, List.length_append]; rfl, VVec.snoc h4⟩

/-! #### what an instruction without a number comes to -/
def pop1 (l : List V) : Option (List V × V) := match l.reverse with
  | [] => none
  | v :: r => some (r.reverse, v)
def pop2 (l : List V) : Option (List V × V × V) := match l.reverse with
  | v :: u :: r => some (r.reverse, u, v)
  | _ => none
theorem pop1_snoc (r : List V) (v : V) : pop1 (r ++ [v]) = some (r, v) := by simp [pop1]
theorem pop2_snoc (r : List V) (u v : V) : pop2 (r ++ [u, v]) = some (r, u, v) := by simp [pop2]
theorem pop1_none {l : List V} (h : l.length < 1) : pop1 l = none := by
  have : l = [] := List.eq_nil_of_length_eq_zero (by omega)
  subst this; rfl
theorem pop2_none {l : List V} (h : l.length < 2) : pop2 l = none := by
  match l, h with
  | [], _ => rfl
  | [v], _ => rfl
theorem one_or {l : List V} : l.length < 1 ∨ ∃ r v, l = r ++ [v] := by
  rcases Nat.lt_or_ge l.length 1 with h | h
  · exact .inl h
  · obtain ⟨l1, l2, rfl, h2, _, _⟩ := cut_list l 1 h
    match l2, h2 with
    | [v], _ => exact .inr ⟨l1, v, rfl⟩
theorem two_or {l : List V} : l.length < 2 ∨ ∃ r u v, l = r ++ [u, v] := by
  rcases Nat.lt_or_ge l.length 2 with h | h
  · exact .inl h
  · obtain ⟨l1, l2, rfl, h2, _, _⟩ := cut_list l 2 h
    match l2, h2 with
    | [u, v], _ => exact .inr ⟨l1, u, v, rfl⟩

instance (u v : V) : Decidable (ordOK u v) := by unfold ordOK; infer_instance
inductive PR where
  | halt (n : Int)
  | set (l : List V)
  | print (l : List V) (v : V)
  | leave (l : List V) (g : List V)
def truthV (b : Bool) : V := ⟨2, 0, b, ⟨#[]⟩⟩
def numV (n : Int) : V := ⟨1, n, false, ⟨#[]⟩⟩
def textV (s : ByteArray) : V := ⟨3, 0, false, s⟩
def ty1 (l : List V) (t : Int) : Option (List V × V) := match pop1 l with
  | none => none
  | some (r, v) => if v.t = t then some (r, v) else none
def ty2 (l : List V) (t : Int) : Option (List V × V × V) := match pop2 l with
  | none => none
  | some (r, u, v) => if u.t = t ∧ v.t = t then some (r, u, v) else none
/-- one value of a type is taken -/
def on1 (l : List V) (t : Int) (f : List V → V → PR) : PR := match ty1 l t with
  | none => .halt 6
  | some (r, v) => f r v
def on2 (l : List V) (t : Int) (f : List V → V → V → PR) : PR := match ty2 l t with
  | none => .halt 6
  | some (r, u, v) => f r u v
theorem pop1_some {l r : List V} {v : V} (h : pop1 l = some (r, v)) : l = r ++ [v] := by
  rcases @one_or l with h1 | ⟨r', v', rfl⟩
  · rw [pop1_none h1] at h; cases h
  · rw [pop1_snoc] at h; cases h; rfl
theorem pop2_some {l r : List V} {u v : V} (h : pop2 l = some (r, u, v)) : l = r ++ [u, v] := by
  rcases @two_or l with h1 | ⟨r', u', v', rfl⟩
  · rw [pop2_none h1] at h; cases h
  · rw [pop2_snoc] at h; cases h; rfl
theorem pop1_len {l : List V} (h : pop1 l = none) : l.length < 1 := by
  rcases @one_or l with h1 | ⟨r', v', rfl⟩
  · exact h1
  · rw [pop1_snoc] at h; cases h
theorem pop2_len {l : List V} (h : pop2 l = none) : l.length < 2 := by
  rcases @two_or l with h1 | ⟨r', u', v', rfl⟩
  · exact h1
  · rw [pop2_snoc] at h; cases h
theorem ty1_some {l r : List V} {t : Int} {v : V} (h : ty1 l t = some (r, v)) : l = r ++ [v] ∧ v.t = t := by
  unfold ty1 at h
  split at h
  · cases h
  · rename_i r' v' hp
    split at h
    · cases h; exact ⟨pop1_some hp, ‹_›⟩
    · cases h
theorem ty2_some {l r : List V} {t : Int} {u v : V} (h : ty2 l t = some (r, u, v)) : l = r ++ [u, v] ∧ u.t = t ∧ v.t = t := by
  unfold ty2 at h
  split at h
  · cases h
  · rename_i r' u' v' hp
    split at h
    · cases h; exact ⟨pop2_some hp, ‹_›⟩
    · cases h
theorem ty1_none {l : List V} {t : Int} (h : ty1 l t = none) : l.length < 1 ∨ ∃ r v, l = r ++ [v] ∧ v.t ≠ t := by
  rcases @one_or l with h1 | ⟨r', v', rfl⟩
  · exact .inl h1
  · refine .inr ⟨r', v', rfl, fun hv => ?_⟩
    rw [ty1, pop1_snoc] at h; simp [hv] at h
theorem ty2_none {l : List V} {t : Int} (h : ty2 l t = none) : l.length < 2 ∨ ∃ r u v, l = r ++ [u, v] ∧ ¬ (u.t = t ∧ v.t = t) := by
  rcases @two_or l with h1 | ⟨r', u', v', rfl⟩
  · exact .inl h1
  · refine .inr ⟨r', u', v', rfl, fun hv => ?_⟩
    rw [ty2, pop2_snoc] at h; simp [hv] at h

/-- the same as a rule for what of ours is left -/
theorem Fn.pk {P : Program} {f : FuncId} {vs : Array Value} {G : Gh} {H H' F : List Own} {R : Ending → Gh → List Own → Prop} (h : Fn P f vs G H' R) (p : Pk H H' F) : Fn P f vs G H fun e G' H1 => ∃ H2, R e G' H2 ∧ H1 = H2 ++ F := by
  intro w hs
  have hs' := hs.perm p.perm
  refine (h w (hs'.sub (List.sublist_append_left _ _))).mono fun e w' ⟨G', H2, r, s, st⟩ => ⟨G', H2 ++ F, ⟨H2, r, rfl⟩, hs'.frame s st, ?_⟩
  have := st.frame (F := F)
  exact ⟨this.size, fun b hb => (this.keep b hb).mono fun o ⟨x, hx, hc⟩ => ⟨x, p.perm.mem_iff.2 hx, hc⟩, this.gle, fun b o v e => (this.gnew b o v e).imp_right fun h => h.imp_left fun ⟨x, hx, hc⟩ => ⟨x, p.perm.mem_iff.2 hx, hc⟩, fun x hx b o hc => (this.own x hx b o hc).imp_left fun ⟨y, hy, hc⟩ => ⟨y, p.perm.mem_iff.2 hy, hc⟩, this.weq⟩

theorem Fn.drop {P : Program} {f : FuncId} {vs : Array Value} {G : Gh} {H : List Own} {R R' : Ending → Gh → List Own → Prop} (h : Fn P f vs G H R) (hr : ∀ e G' H', R e G' H' → ∃ H2, H2.Sublist H' ∧ R' e G' H2) : Fn P f vs G H R' :=
  fun w hs => (h w hs).mono fun e w' ⟨G', H', r, s, st⟩ => by
    obtain ⟨H2, h1, h2⟩ := hr _ _ _ r
    exact ⟨G', H2, h2, s.sub h1, ⟨st.size, st.keep, st.gle, st.gnew, fun x hx => st.own x (h1.subset hx), st.weq⟩⟩

section
variable (G : Gh) (mv : Value) (b : Nat) (A : Option Addr) (cap : Nat) (p a : Int) (B : Option Addr) (m cm : Nat) (x : Own)
theorem take1_ok (r : List V) (v : V) (hv : VVec A cap (r ++ [v]) x) (hb : (r ++ [v]).length ≤ 1000000) :
    Fn Try.prog 66 #[mv, .pointer (some ⟨b, 0, none⟩), .int .i64 1] G [frB b A (r ++ [v]).length cap p a B m cm, x]
      fun e G' H' => ∃ A' cap' x', e = .returned (.slice A' 1 cap') ∧ G = G' ∧ H' = [x', frB b A r.length cap p a B m cm, x] ∧ VVec A' cap' [v] x' ∧ VVec A cap r x :=
  take_ok G mv b A cap p a B m cm r [v] x hv (by simp at hb ⊢; omega)
theorem take2_ok (r : List V) (u v : V) (hv : VVec A cap (r ++ [u, v]) x) (hb : (r ++ [u, v]).length ≤ 1000000) :
    Fn Try.prog 66 #[mv, .pointer (some ⟨b, 0, none⟩), .int .i64 2] G [frB b A (r ++ [u, v]).length cap p a B m cm, x]
      fun e G' H' => ∃ A' cap' x', e = .returned (.slice A' 2 cap') ∧ G = G' ∧ H' = [x', frB b A r.length cap p a B m cm, x] ∧ VVec A' cap' [u, v] x' ∧ VVec A cap r x :=
  take_ok G mv b A cap p a B m cm r [u, v] x hv (by simp at hb ⊢; omega)
theorem typed1_ok (r : List V) (v : V) (t : Int) (ht : v.t = t) (hv : VVec A cap (r ++ [v]) x) (hb : (r ++ [v]).length ≤ 1000000) :
    Fn Try.prog 67 #[mv, .pointer (some ⟨b, 0, none⟩), .int .i64 1, .int .i64 t] G [frB b A (r ++ [v]).length cap p a B m cm, x]
      fun e G' H' => ∃ A' cap' x', e = .returned (.slice A' 1 cap') ∧ G = G' ∧ H' = [x', frB b A r.length cap p a B m cm, x] ∧ VVec A' cap' [v] x' ∧ VVec A cap r x :=
  (typed_fn G mv b A cap p a B m cm r [v] x t hv (by simp at hb ⊢; omega)).mono fun e G' H' ⟨h1, h2⟩ => by
    rcases h2 with ⟨A', cap', x', h3, _, h5, h6, h7⟩ | ⟨_, ⟨u, hu, hne⟩, _⟩
    · exact ⟨A', cap', x', h3, h1, h5, h6, h7⟩
    · rw [List.mem_singleton] at hu; subst hu; exact absurd ht hne
theorem typed2_ok (r : List V) (u v : V) (t : Int) (hu : u.t = t) (ht : v.t = t) (hv : VVec A cap (r ++ [u, v]) x) (hb : (r ++ [u, v]).length ≤ 1000000) :
    Fn Try.prog 67 #[mv, .pointer (some ⟨b, 0, none⟩), .int .i64 2, .int .i64 t] G [frB b A (r ++ [u, v]).length cap p a B m cm, x]
      fun e G' H' => ∃ A' cap' x', e = .returned (.slice A' 2 cap') ∧ G = G' ∧ H' = [x', frB b A r.length cap p a B m cm, x] ∧ VVec A' cap' [u, v] x' ∧ VVec A cap r x :=
  (typed_fn G mv b A cap p a B m cm r [u, v] x t hv (by simp at hb ⊢; omega)).mono fun e G' H' ⟨h1, h2⟩ => by
    rcases h2 with ⟨A', cap', x', h3, _, h5, h6, h7⟩ | ⟨_, ⟨y, hy, hne⟩, _⟩
    · exact ⟨A', cap', x', h3, h1, h5, h6, h7⟩
    · simp only [List.mem_cons, List.not_mem_nil, or_false] at hy
      rcases hy with rfl | rfl
      · exact absurd hu hne
      · exact absurd ht hne
theorem typed1_no (l : List V) (t : Int) (hn : ty1 l t = none) (hv : VVec A cap l x) (hb : l.length ≤ 1000000) :
    Fn Try.prog 67 #[mv, .pointer (some ⟨b, 0, none⟩), .int .i64 1, .int .i64 t] G [frB b A l.length cap p a B m cm, x]
      fun e G' H' => e = halted 6 ∧ G = G' ∧ Left b H' := by
  rcases ty1_none hn with h | ⟨r, v, rfl, hne⟩
  · refine ((typed_no G mv b A l.length cap p a B m cm 1 t (by omega)).pk (F := [x]) (.cons .here .nil)).drop fun e G' H' ⟨H2, ⟨h1, h2, h3⟩, h4⟩ => ⟨H2, by rw [h4]; exact List.sublist_append_left _ _, h1, h2, h3⟩
  · refine (typed_fn G mv b A cap p a B m cm r [v] x t hv (by simp at hb ⊢; omega)).mono fun e G' H' ⟨h1, h2⟩ => ?_
    rcases h2 with ⟨A', cap', x', h3, h4, _⟩ | ⟨h3, _, h4⟩
    · exact absurd (h4 v (by simp)) hne
    · exact ⟨h3, h1, h4⟩
theorem typed2_no (l : List V) (t : Int) (hn : ty2 l t = none) (hv : VVec A cap l x) (hb : l.length ≤ 1000000) :
    Fn Try.prog 67 #[mv, .pointer (some ⟨b, 0, none⟩), .int .i64 2, .int .i64 t] G [frB b A l.length cap p a B m cm, x]
      fun e G' H' => e = halted 6 ∧ G = G' ∧ Left b H' := by
  rcases ty2_none hn with h | ⟨r, u, v, rfl, hne⟩
  · refine ((typed_no G mv b A l.length cap p a B m cm 2 t (by omega)).pk (F := [x]) (.cons .here .nil)).drop fun e G' H' ⟨H2, ⟨h1, h2, h3⟩, h4⟩ => ⟨H2, by rw [h4]; exact List.sublist_append_left _ _, h1, h2, h3⟩
  · refine (typed_fn G mv b A cap p a B m cm r [u, v] x t hv (by simp at hb ⊢; omega)).mono fun e G' H' ⟨h1, h2⟩ => ?_
    rcases h2 with ⟨A', cap', x', h3, h4, _⟩ | ⟨h3, _, h4⟩
    · exact absurd ⟨h4 u (by simp), h4 v (by simp)⟩ hne
    · exact ⟨h3, h1, h4⟩
theorem ordered_ok (r : List V) (u v : V) (c : Int) (hk : ordOK u v) (hv : VVec A cap (r ++ [u, v]) x) (hb : (r ++ [u, v]).length ≤ 1000000) :
    Fn Try.prog 84 #[mv, .pointer (some ⟨b, 0, none⟩), .int .i64 c] G [frB b A (r ++ [u, v]).length cap p a B m cm, x]
      fun e G' H' => e = .returned (.bool (ordS c u v)) ∧ G = G' ∧ H' = [frB b A r.length cap p a B m cm, x] ∧ VVec A cap r x := by
  refine (ordered_fn G mv b A cap p a B m cm r u v x c hv (by simp at hb; omega)).mono fun e G' H' ⟨h1, h2⟩ => ?_
  rcases h2 with ⟨h3, _, h5, h6⟩ | ⟨_, h, _⟩
  · exact ⟨h3, h1, h5, h6⟩
  · exact absurd hk h
theorem ordered_bad (l : List V) (c : Int) (hn : ∀ r u v, l = r ++ [u, v] → ¬ ordOK u v) (hv : VVec A cap l x) (hb : l.length ≤ 1000000) :
    Fn Try.prog 84 #[mv, .pointer (some ⟨b, 0, none⟩), .int .i64 c] G [frB b A l.length cap p a B m cm, x]
      fun e G' H' => e = halted 6 ∧ G = G' ∧ Left b H' := by
  rcases @two_or l with h | ⟨r, u, v, rfl⟩
  · exact ((ordered_no G mv b A l.length cap p a B m cm c h).pk (F := [x]) (.cons .here .nil)).drop fun e G' H' ⟨H2, ⟨h1, h2, h3⟩, h4⟩ => ⟨H2, by rw [h4]; exact List.sublist_append_left _ _, h1, h2, h3⟩
  · refine (ordered_fn G mv b A cap p a B m cm r u v x c hv (by simp at hb; omega)).mono fun e G' H' ⟨h1, h2⟩ => ?_
    rcases h2 with ⟨_, h, _⟩ | ⟨h3, _, h4⟩
    · exact absurd h (hn r u v rfl)
    · exact ⟨h3, h1, h4⟩
end
def onA (l : List V) (f : List V → V → PR) : PR := match pop1 l with
  | none => .halt 6
  | some (r, v) => f r v
def onB (l : List V) (f : List V → V → V → PR) : PR := match pop2 l with
  | none => .halt 6
  | some (r, u, v) => f r u v
def recR (c : Int) (r : List V) (u v : V) : PR := match reckonS c u.i v.i with
  | none => .halt 2
  | some n => .set (r ++ [numV n])
def plainR (res : Int) (l : List V) (c : Int) (outn : Nat) : PR :=
  if c = 4 then onA l fun r _ => .set r
  else if c = 9 then if res = 0 then .leave l [] else .halt 6
  else if c = 10 then if res = 0 then .halt 6 else on1 l res fun r v => .leave r [v]
  else if c = 11 then onA l fun r v => if 4096 ≤ outn then .halt 7 else .print r v
  else if c = 12 then onB l fun r u v => if u.t = v.t then .set (r ++ [truthV (decide (u = v))]) else .halt 6
  else if c = 13 then onB l fun r u v => if u.t = v.t then .set (r ++ [truthV (!decide (u = v))]) else .halt 6
  else if c = 25 then on1 l 2 fun r v => .set (r ++ [truthV (!v.b)])
  else if c = 26 then on1 l 3 fun r v => .set (r ++ [numV v.s.size])
  else if c = 20 then on2 l 3 fun r u v => if 4096 < u.s.size + v.s.size then .halt 3 else .set (r ++ [textV (u.s ++ v.s)])
  else if c = 14 ∨ c = 15 ∨ c = 16 ∨ c = 17 then onB l fun r u v => if ordOK u v then .set (r ++ [truthV (ordS c u v)]) else .halt 6
  else if c = 24 then on1 l 1 fun r v => .set (r ++ [numV (IntKind.i64.wrap (0 - v.i))])
  else if c = 18 ∨ c = 19 ∨ c = 21 ∨ c = 22 ∨ c = 23 then on2 l 1 (recR c)
  else .halt 6
end Go.Proofs.Ytjgohbepageicaa.Gb
