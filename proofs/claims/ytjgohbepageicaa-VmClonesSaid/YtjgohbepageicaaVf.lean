/- Values of a type are taken; two are compared. -/
import Derived.Test.YtjgohbepageicaaVe
namespace Go.Proofs.Ytjgohbepageicaa.Gb
open Go Go.Proofs
set_option linter.unusedVariables false
attribute [local irreducible] Try.prog

theorem vflat_elem : ∀ (l : List V) (i : Nat) (v : V), l[i]? = some v → ((vflat l).drop (i * 4)).take 4 = vcells v
  | [], i, v, h => by simp at h
  | u :: l, 0, v, h => by simp at h; subst h; simp [vflat, vcells]
  | u :: l, i + 1, v, h => by
    have ih := vflat_elem l i v (by simpa using h)
    have e : vflat (u :: l) = vcells u ++ vflat l := by simp [vflat]
    rw [e, List.drop_append, List.drop_eq_nil_of_le (by simp [vcells]; omega), List.nil_append]
    rw [show (i + 1) * 4 - (vcells u).length = i * 4 by simp [vcells]; omega]
    exact ih
theorem take_drop_of_take {α : Type} (c l : List α) (n i k : Nat) (h : c.take n = l) (hk : i + k ≤ n) : (c.drop i).take k = (l.drop i).take k := by
  subst h
  apply List.ext_getElem?
  intro j
  simp only [List.getElem?_take, List.getElem?_drop]
  by_cases hj : j < k
  · simp [hj, show i + j < n by omega]
  · simp [hj]
theorem VVec.elem {A : Option Addr} {cap : Nat} {l : List V} {b : Nat} {c : Array Value} {i : Nat} {v : V} (hl : c.toList.take (l.length * 4) = vflat l) (hi : l[i]? = some v) : (c.toList.drop (0 + ((i : Nat) : Int).toNat * 4)).take 4 = vcells v := by
  have hlt : i < l.length := (List.getElem?_eq_some_iff.1 hi).1
  rw [Int.toNat_natCast, Nat.zero_add, take_drop_of_take _ _ _ _ _ hl (by omega)]
  exact vflat_elem l i v hi

theorem typed_fn (G : Gh) (mv : Value) (b : Nat) (A : Option Addr) (cap : Nat) (p a : Int) (B : Option Addr) (m cm : Nat) (l1 l2 : List V) (x : Own) (t : Int) (hv : VVec A cap (l1 ++ l2) x) (hb : l1.length + l2.length ≤ 1000000000) :
    Fn Try.prog 67 #[mv, .pointer (some ⟨b, 0, none⟩), .int .i64 l2.length, .int .i64 t] G [frB b A (l1 ++ l2).length cap p a B m cm, x]
      fun e G' H' => G = G' ∧ ((∃ A' cap' x', e = .returned (.slice A' l2.length cap') ∧ (∀ v ∈ l2, v.t = t) ∧ H' = [x', frB b A l1.length cap p a B m cm, x] ∧ VVec A' cap' l2 x' ∧ VVec A cap l1 x) ∨ (e = halted 6 ∧ (∃ v ∈ l2, v.t ≠ t) ∧ Left b H')) := by
  refine Fn.enter Try.func67 rfl rfl fun w0 => ?_
  refine WC.seq ?_
  refine WC.region ?_
  refine WL.p (Gp.assign rfl) (by kernel_rfl) rfl ?_
  refine WL.nil ?_
  refine WK.un ?_
  refine WC.seq ?_
  refine WC.region ?_
  refine WL.p (Gp.move rfl) (by kernel_rfl) rfl ?_
  refine WL.p (Gp.move rfl) (by kernel_rfl) rfl ?_
  refine WL.p (Gp.move rfl) (by kernel_rfl) rfl ?_
  refine WL.op (by kernel_rfl) (OW.callR rfl (perm_all _) (take_ok G mv b A cap p a B m cm l1 l2 x hv hb) rfl (by rintro e G' H' ⟨_, _, _, h, _⟩; exact ⟨_, h⟩) fun v' G' H' h hg => ?_)
  obtain ⟨A', cap', x', he, rfl, rfl, hv1, hv2⟩ := h
  cases he
  refine WL.p (Gp.assign rfl) (by kernel_rfl) rfl ?_
  refine WL.nil ?_
  refine WK.un ?_
  refine WC.seq ?_
  refine WC.seq ?_
  refine WC.region ?_
  refine WL.p (Gp.move rfl) (by kernel_rfl) rfl ?_
  (first | refine WL.p (Gp.lenSl rfl) (by kernel_rfl) rfl ?_ | refine WL.p (Gp.lenS rfl) (by kernel_rfl) rfl ?_)
  refine WL.p (Gp.move rfl) (by kernel_rfl) rfl ?_
  refine WL.nil ?_
  refine WK.un ?_
  refine WC.block ?_  -- 0
  refine WC.loop (X := Nat) (fun i => [(18, .int .i64 (i : Int)), (17, .int .i64 l2.length), (16, .slice A' l2.length cap'), (9, .slice A' l2.length cap'), (3, .int .i64 t)]) (fun _ => G) (fun _ => [x', frB b A l1.length cap p a B m cm, x]) (fun i => l2.length - i) (fun i => i ≤ l2.length ∧ ∀ j u, j < i → l2[j]? = some u → u.t = t) 0 ⟨Nat.zero_le _, fun j u h => by omega⟩ (by exact ⟨rfl, rfl, rfl, rfl, rfl, trivial⟩) rfl (List.Sublist.refl _) fun i hx => ?_
  obtain ⟨hi, hall⟩ := hx
  refine WC.seq ?_
  refine WC.region ?_
  (first | refine WL.p (Gp.ltI rfl rfl) (by kernel_rfl) rfl ?_ | refine WL.p (Gp.ltS rfl rfl) (by kernel_rfl) rfl ?_)
  refine WL.nil ?_
  refine WK.un ?_
  refine WC.seq ?_
  refine WC.cond rfl (fun hc2 => ?_) (fun hc2 => ?_)
  · -- yes
    have hlt : i < l2.length := by have h := hc2; simp at h; omega
    obtain ⟨v, hvi⟩ : ∃ v, l2[i]? = some v := ⟨_, List.getElem?_eq_getElem hlt⟩
    refine WC.skip ?_
    refine WK.un ?_
    refine WC.seq ?_
    refine WC.block ?_  -- 1
    refine WC.seq ?_
    refine WC.region ?_
    obtain ⟨hl, ⟨h1, h2, h3, h4⟩ | ⟨b', c, rfl, rfl, h1, h2, h3⟩⟩ := hv1
    · omega
    refine WL.p (Gp.indexAddr rfl rfl (by first | assumption | omega | decide) (by first | assumption | omega | decide | (simp only [List.length_cons, List.length_nil]; decide))) (by kernel_rfl) rfl ?_
    refine WL.v (Gv.loadN rfl .here (VVec.elem (A := none) (cap := 0) (b := 0) h3 hvi) rfl) (by kernel_rfl) rfl ?_
    refine WL.op (by kernel_rfl) (OW.alloc rfl fun b3 => ?_)
    refine WL.op (by kernel_rfl) (OW.store rfl rfl (by (repeat first | exact .here | apply At.there)) rfl (by rfl) (by rfl) (by kernel_rfl) (by rfl) ?_ rfl)
    refine WL.nil ?_
    refine WK.un ?_
    refine WC.region ?_
    refine WL.p (Gp.fieldAddr rfl) (by kernel_rfl) rfl ?_
    (first | (refine WL.v (Gv.load1 rfl (by (repeat first | exact .here | apply At.there)) (by first | rfl | assumption)) (by kernel_rfl) rfl ?_) | (refine WL.v (Gv.loadN rfl (by (repeat first | exact .here | apply At.there)) (by rfl) (by rfl)) (by kernel_rfl) rfl ?_) | (refine WL.v (Gv.loadG1 rfl (by assumption) rfl) (by kernel_rfl) rfl ?_) | (refine WL.v (Gv.loadG0 rfl (by assumption) rfl) (by kernel_rfl) rfl ?_) | (refine WL.v (Gv.loadGN rfl (by assumption) rfl) (by kernel_rfl) rfl ?_))
    refine WL.p (Gp.move rfl) (by kernel_rfl) rfl ?_
    (first | refine WL.p (Gp.eqI rfl rfl) (by kernel_rfl) rfl ?_ | refine WL.p (Gp.eqS rfl rfl) (by kernel_rfl) rfl ?_ | refine WL.p (Gp.nilSl rfl) (by kernel_rfl) rfl ?_ | refine WL.p (Gp.eqB rfl rfl) (by kernel_rfl) rfl ?_)
    by_cases ht : v.t = t
    · rw [show (v.t == t) = true by simpa using ht]
      refine WL.op (by kernel_rfl) (OW.callR rfl (Hf := []) (List.Perm.refl _) (need_ok G) rfl (by rintro e G' H' ⟨h, _⟩; exact ⟨_, h⟩) fun v' G' H' h hg => ?_)
      obtain ⟨he, rfl, rfl⟩ := h
      cases he
      refine WL.nil ?_
      refine WK.un ?_
      refine WC.region ?_
      (first | refine WL.p (Gp.add rfl rfl) (by kernel_rfl) rfl ?_ | refine WL.p (Gp.addS rfl rfl (by first | assumption | omega)) (by kernel_rfl) rfl ?_)
      refine WL.p (Gp.move rfl) (by kernel_rfl) rfl ?_
      refine WL.nil ?_
      refine WK.un ?_
      exact WK.again (i + 1) (by omega) ⟨by omega, fun j u hj hu => by
        rcases Nat.lt_or_ge j i with h | h
        · exact hall j u h hu
        · obtain rfl : j = i := by omega
          rw [hvi] at hu; cases hu; exact ht⟩ (by refine ⟨?_, rfl, rfl, rfl, rfl, trivial⟩; show some _ = some _; rw [wrap_small (by omega) (by omega)]; rfl) rfl (by exact .cons _ (List.Sublist.refl _))
    · rw [show (v.t == t) = false by simpa using ht]
      refine WL.op (by kernel_rfl) (OW.call rfl (Hf := []) (List.Perm.refl _) (need_no G) rfl (fun v G' H' h _ => by cases h.1) (fun ch G' H' h _ => ?_) (fun G' H' h => by cases h.1))
      obtain ⟨he, rfl, rfl⟩ := h
      cases he
      refine WK.un ?_
      exact QF.panic (H' := [frB b A l1.length cap p a B m cm]) (by exact .cons _ (.cons _ (.cons_cons _ (List.nil_sublist _)))) ⟨rfl, .inr ⟨rfl, ⟨v, List.mem_of_getElem? hvi, ht⟩, Left.of ..⟩⟩
  · -- no
    have hge : i = l2.length := by have h := hc2; simp at h; omega
    refine WC.exit ?_
    refine WK.un ?_
    refine WC.seq ?_
    refine WC.region ?_
    refine WL.p (Gp.move rfl) (by kernel_rfl) rfl ?_
    refine WL.p (Gp.assign rfl) (by kernel_rfl) rfl ?_
    refine WL.nil ?_
    refine WK.un ?_
    refine WC.ret ?_
    (refine WK.un ?_)
    exact QF.ret1 (.inl rfl) rfl (.tmp rfl) (List.Sublist.refl _) ⟨rfl, .inl ⟨A', cap', x', rfl, fun v hvm => by obtain ⟨j, hj, rfl⟩ := List.getElem_of_mem hvm; exact hall j _ (by omega) (List.getElem?_eq_getElem hj), rfl, hv1, hv2⟩⟩
end Go.Proofs.Ytjgohbepageicaa.Gb
