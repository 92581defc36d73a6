/- A procedure is called. -/
import Derived.Test.YtjgohbepageicaaVi
namespace Go.Proofs.Ytjgohbepageicaa.Gb
open Go Go.Proofs
set_option linter.unusedVariables false
set_option linter.unusedSimpArgs false
attribute [local irreducible] Try.prog

def tys (l : List V) : List Int := l.map (·.t)
/-- what a call comes to: an end, or the procedure, what is left on the stack, and the arguments -/
def callR (procs : List Pr) (l : List V) (n : Int) (depth : Nat) : Except Int (Pr × List V × List V) :=
  if n < 0 then .error 6 else
  match procs[n.toNat]? with
  | none => .error 6
  | some q =>
    if sizedP q = false then .error 6
    else if l.length < q.params.length then .error 6
    else if tys (l.drop (l.length - q.params.length)) ≠ q.params then .error 6
    else if q.result ≠ 0 ∧ 128 ≤ l.length - q.params.length then .error 6
    else if 64 ≤ depth then .error 4
    else .ok (q, l.take (l.length - q.params.length), l.drop (l.length - q.params.length))

theorem cut_list {α : Type} (l : List α) (k : Nat) (h : k ≤ l.length) : ∃ l1 l2, l = l1 ++ l2 ∧ l2.length = k ∧ l.take (l.length - k) = l1 ∧ l.drop (l.length - k) = l2 :=
  ⟨_, _, (List.take_append_drop (l.length - k) l).symm, by simp; omega, rfl, rfl⟩

theorem call_fn (G : Gh) (mb : Nat) (c1 c3 : Value) (PA : Option Addr) (pc : Nat) (procs : List Pr) (FA : Option Addr) (fcap : Nat) (en : Int) (v : V) (OA : Option Addr) (on ocap : Nat) (st : Int) (ed : Bool) (bs : List Nat) (fx : Own)
    (hG : Sl Kd.prc G PA procs) (hfv : PVec FA fcap bs fx) (hbs : bs.length ≤ 1000000000)
    (b : Nat) (A : Option Addr) (cap : Nat) (p a : Int) (B : Option Addr) (m cm : Nat) (l : List V) (x : Own) (hv : VVec A cap l x) (hl : l.length ≤ 1000000) (n : Int) :
    Fn Try.prog 68 #[.pointer (some ⟨mb, 0, none⟩), .pointer (some ⟨b, 0, none⟩), .int .i64 n] G [mcB mb c1 (.slice PA procs.length pc) c3 FA bs.length fcap en v OA on ocap st ed, fx, frB b A l.length cap p a B m cm, x]
      fun e G' H' => G = G' ∧ match callR procs l n bs.length with
        | .error k => e = halted k ∧ ∃ H1, Left b H1 ∧ H' = mcB mb c1 (.slice PA procs.length pc) c3 FA bs.length fcap en v OA on ocap st ed :: fx :: H1
        | .ok (q, r, args) => ∃ FA' fcap' b' VA x' y, e = .returned (.tuple #[]) ∧ H' = [mcB mb c1 (.slice PA procs.length pc) c3 FA' (bs ++ [b']).length fcap' en v OA on ocap st ed, x', frB b A r.length cap p a B m cm, x, frB b' none 0 0 n 0 VA (padded args q.locals).length (padded args q.locals).length, .spare 0 0 0, y] ∧
            PVec FA' fcap' (bs ++ [b']) x' ∧ VVec VA (padded args q.locals).length (padded args q.locals) y ∧ VVec A cap r x := by
  refine Fn.enter Try.func68 rfl rfl fun w0 => ?_
  refine WC.seq ?_
  refine WC.region ?_
  refine WL.p (Gp.move rfl) (by kernel_rfl) rfl ?_
  (first | refine WL.p (Gp.geI rfl rfl) (by kernel_rfl) rfl ?_ | refine WL.p (Gp.geS rfl rfl) (by kernel_rfl) rfl ?_)
  refine WL.p (Gp.move rfl) (by kernel_rfl) rfl ?_
  by_cases hn0 : n < 0
  · rw [show decide ((0 : Int) ≤ n) = false by simpa using hn0]
    refine WL.skip (by kernel_rfl) rfl ?_
    refine WL.skip (by kernel_rfl) rfl ?_
    refine WL.skip (by kernel_rfl) rfl ?_
    refine WL.skip (by kernel_rfl) rfl ?_
    refine WL.skip (by kernel_rfl) rfl ?_
    refine WL.skip (by kernel_rfl) rfl ?_
    refine WL.skip (by kernel_rfl) rfl ?_
    refine WL.skip (by kernel_rfl) rfl ?_
    (first | refine WL.p (Gp.pickT rfl rfl) (by kernel_rfl) rfl ?_ | refine WL.p (Gp.pickF rfl rfl) (by kernel_rfl) rfl ?_)
    refine WL.p (Gp.move rfl) (by kernel_rfl) rfl ?_
    refine WL.skip (by kernel_rfl) rfl ?_
    refine WL.skip (by kernel_rfl) rfl ?_
    refine WL.skip (by kernel_rfl) rfl ?_
    refine WL.skip (by kernel_rfl) rfl ?_
    refine WL.skip (by kernel_rfl) rfl ?_
    refine WL.skip (by kernel_rfl) rfl ?_
    refine WL.skip (by kernel_rfl) rfl ?_
    refine WL.skip (by kernel_rfl) rfl ?_
    refine WL.skip (by kernel_rfl) rfl ?_
    (first | refine WL.p (Gp.pickT rfl rfl) (by kernel_rfl) rfl ?_ | refine WL.p (Gp.pickF rfl rfl) (by kernel_rfl) rfl ?_)
    refine WL.op (by kernel_rfl) (OW.call rfl (Hf := []) (List.Perm.refl _) (need_no _) rfl (fun v G' H' h _ => by cases h.1) (fun ch G' H' h _ => ?_) (fun G' H' h => by cases h.1))
    obtain ⟨he, rfl, rfl⟩ := h
    cases he
    refine WK.un ?_
    exact QF.panicP (⟨rfl, by rw [callR, if_pos hn0]; exact ⟨rfl, _, Left.of b A l.length cap p a B m cm, rfl⟩⟩)
  obtain ⟨i, rfl⟩ := Int.eq_ofNat_of_zero_le (Int.not_lt.1 hn0)
  rw [show decide ((0 : Int) ≤ (i : Int)) = true by simp]
  refine WL.p (Gp.move rfl) (by kernel_rfl) rfl ?_
  refine WL.p (Gp.move rfl) (by kernel_rfl) rfl ?_
  refine WL.p (Gp.nilCheck rfl) (by kernel_rfl) rfl ?_
  refine WL.p (Gp.fieldAddr rfl) (by kernel_rfl) rfl ?_
  refine WL.p (Gp.fieldAddr rfl) (by kernel_rfl) rfl ?_
  (first | (refine WL.v (Gv.load1 rfl (by (repeat first | exact .here | apply At.there)) (by first | rfl | assumption)) (by kernel_rfl) rfl ?_) | (refine WL.v (Gv.loadN rfl (by (repeat first | exact .here | apply At.there)) (by rfl) (by rfl)) (by kernel_rfl) rfl ?_) | (refine WL.v (Gv.loadG1 rfl (by assumption) rfl) (by kernel_rfl) rfl ?_) | (refine WL.v (Gv.loadG0 rfl (by assumption) rfl) (by kernel_rfl) rfl ?_) | (refine WL.v (Gv.loadGN rfl (by assumption) rfl) (by kernel_rfl) rfl ?_))
  (first | refine WL.p (Gp.lenSl rfl) (by kernel_rfl) rfl ?_ | refine WL.p (Gp.lenS rfl) (by kernel_rfl) rfl ?_)
  (first | refine WL.p (Gp.ltI rfl rfl) (by kernel_rfl) rfl ?_ | refine WL.p (Gp.ltS rfl rfl) (by kernel_rfl) rfl ?_)
  by_cases hn1 : i < procs.length
  rotate_left
  · rw [show decide ((i : Int) < (procs.length : Int)) = false by simp; omega]
    (first | refine WL.p (Gp.pickT rfl rfl) (by kernel_rfl) rfl ?_ | refine WL.p (Gp.pickF rfl rfl) (by kernel_rfl) rfl ?_)
    refine WL.p (Gp.move rfl) (by kernel_rfl) rfl ?_
    refine WL.skip (by kernel_rfl) rfl ?_
    refine WL.skip (by kernel_rfl) rfl ?_
    refine WL.skip (by kernel_rfl) rfl ?_
    refine WL.skip (by kernel_rfl) rfl ?_
    refine WL.skip (by kernel_rfl) rfl ?_
    refine WL.skip (by kernel_rfl) rfl ?_
    refine WL.skip (by kernel_rfl) rfl ?_
    refine WL.skip (by kernel_rfl) rfl ?_
    refine WL.skip (by kernel_rfl) rfl ?_
    (first | refine WL.p (Gp.pickT rfl rfl) (by kernel_rfl) rfl ?_ | refine WL.p (Gp.pickF rfl rfl) (by kernel_rfl) rfl ?_)
    refine WL.op (by kernel_rfl) (OW.call rfl (Hf := []) (List.Perm.refl _) (need_no _) rfl (fun v G' H' h _ => by cases h.1) (fun ch G' H' h _ => ?_) (fun G' H' h => by cases h.1))
    obtain ⟨he, rfl, rfl⟩ := h
    cases he
    refine WK.un ?_
    exact QF.panicP (⟨rfl, by rw [callR, if_neg hn0, Int.toNat_natCast, List.getElem?_eq_none (by omega)]; exact ⟨rfl, _, Left.of b A l.length cap p a B m cm, rfl⟩⟩)
  rw [show decide ((i : Int) < (procs.length : Int)) = true by simp; omega]
  obtain ⟨q, hq⟩ : ∃ q, procs[i]? = some q := ⟨_, List.getElem?_eq_getElem hn1⟩
  obtain ⟨pb, po, cs, rfl, ⟨QA, qc, CA, cc, rfl, hQ, hC⟩, hcs⟩ := hG i q hq
  have hcR : callR procs l (i : Int) bs.length = if sizedP q = false then .error 6 else if l.length < q.params.length then .error 6 else if tys (l.drop (l.length - q.params.length)) ≠ q.params then .error 6 else if q.result ≠ 0 ∧ 128 ≤ l.length - q.params.length then .error 6 else if 64 ≤ bs.length then .error 4 else .ok (q, l.take (l.length - q.params.length), l.drop (l.length - q.params.length)) := by
    rw [callR, if_neg hn0, Int.toNat_natCast, hq]
  rw [hcR]
  (first | refine WL.p (Gp.pickT rfl rfl) (by kernel_rfl) rfl ?_ | refine WL.p (Gp.pickF rfl rfl) (by kernel_rfl) rfl ?_)
  refine WL.p (Gp.move rfl) (by kernel_rfl) rfl ?_
  refine WL.p (Gp.move rfl) (by kernel_rfl) rfl ?_
  refine WL.p (Gp.nilCheck rfl) (by kernel_rfl) rfl ?_
  refine WL.p (Gp.fieldAddr rfl) (by kernel_rfl) rfl ?_
  refine WL.p (Gp.fieldAddr rfl) (by kernel_rfl) rfl ?_
  (first | (refine WL.v (Gv.load1 rfl (by (repeat first | exact .here | apply At.there)) (by first | rfl | assumption)) (by kernel_rfl) rfl ?_) | (refine WL.v (Gv.loadN rfl (by (repeat first | exact .here | apply At.there)) (by rfl) (by rfl)) (by kernel_rfl) rfl ?_) | (refine WL.v (Gv.loadG1 rfl (by assumption) rfl) (by kernel_rfl) rfl ?_) | (refine WL.v (Gv.loadG0 rfl (by assumption) rfl) (by kernel_rfl) rfl ?_) | (refine WL.v (Gv.loadGN rfl (by assumption) rfl) (by kernel_rfl) rfl ?_))
  refine WL.p (Gp.move rfl) (by kernel_rfl) rfl ?_
  refine WL.p (Gp.indexAddr rfl rfl (by first | assumption | omega | decide) (by first | assumption | omega | decide | (simp only [List.length_cons, List.length_nil]; decide))) (by kernel_rfl) rfl ?_
  refine WL.v (Gv.loadGN rfl hcs rfl) (by kernel_rfl) rfl ?_
  refine WL.op (by kernel_rfl) (OW.callR rfl (Hf := []) (List.Perm.refl _) (sized_fn G q.name q.exp QA q.params.length qc q.locals q.result (.slice CA q.code.length cc)) rfl (by rintro e G' H' ⟨h, _⟩; exact ⟨_, h⟩) fun v' G' H' h hg => ?_)
  obtain ⟨he, rfl, rfl⟩ := h
  cases he
  (first | refine WL.p (Gp.pickT rfl rfl) (by kernel_rfl) rfl ?_ | refine WL.p (Gp.pickF rfl rfl) (by kernel_rfl) rfl ?_)
  by_cases hs : sizedP q = false
  · rw [show (decide ((q.params.length : Int) ≤ q.locals) && decide (q.locals ≤ 64)) = false from hs]
    refine WL.op (by kernel_rfl) (OW.call rfl (Hf := []) (List.Perm.refl _) (need_no _) rfl (fun v G' H' h _ => by cases h.1) (fun ch G' H' h _ => ?_) (fun G' H' h => by cases h.1))
    obtain ⟨he, rfl, rfl⟩ := h
    cases he
    refine WK.un ?_
    exact QF.panicP (⟨rfl, by rw [if_pos hs]; exact ⟨rfl, _, Left.of b A l.length cap p a B m cm, rfl⟩⟩)
  rw [show (decide ((q.params.length : Int) ≤ q.locals) && decide (q.locals ≤ 64)) = true by have h := hs; unfold sizedP at h; simpa using h]
  rw [if_neg hs]
  have hs' : (q.params.length : Int) ≤ q.locals ∧ q.locals ≤ 64 := by have h := hs; unfold sizedP at h; simpa using h
  refine WL.op (by kernel_rfl) (OW.callR rfl (Hf := []) (List.Perm.refl _) (need_ok G) rfl (by rintro e G' H' ⟨h, _⟩; exact ⟨_, h⟩) fun v' G' H' h hg => ?_)
  obtain ⟨he, rfl, rfl⟩ := h
  cases he
  refine WL.nil ?_
  refine WK.un ?_
  refine WC.seq ?_
  refine WC.region ?_
  refine WL.p (Gp.move rfl) (by kernel_rfl) rfl ?_
  refine WL.p (Gp.nilCheck rfl) (by kernel_rfl) rfl ?_
  refine WL.p (Gp.fieldAddr rfl) (by kernel_rfl) rfl ?_
  refine WL.p (Gp.fieldAddr rfl) (by kernel_rfl) rfl ?_
  (first | (refine WL.v (Gv.load1 rfl (by (repeat first | exact .here | apply At.there)) (by first | rfl | assumption)) (by kernel_rfl) rfl ?_) | (refine WL.v (Gv.loadN rfl (by (repeat first | exact .here | apply At.there)) (by rfl) (by rfl)) (by kernel_rfl) rfl ?_) | (refine WL.v (Gv.loadG1 rfl (by assumption) rfl) (by kernel_rfl) rfl ?_) | (refine WL.v (Gv.loadG0 rfl (by assumption) rfl) (by kernel_rfl) rfl ?_) | (refine WL.v (Gv.loadGN rfl (by assumption) rfl) (by kernel_rfl) rfl ?_))
  refine WL.p (Gp.move rfl) (by kernel_rfl) rfl ?_
  refine WL.p (Gp.indexAddr rfl rfl (by first | assumption | omega | decide) (by first | assumption | omega | decide | (simp only [List.length_cons, List.length_nil]; decide))) (by kernel_rfl) rfl ?_
  refine WL.v (Gv.loadGN rfl hcs rfl) (by kernel_rfl) rfl ?_
  refine WL.op (by kernel_rfl) (OW.alloc rfl fun b1 => ?_)
  refine WL.op (by kernel_rfl) (OW.store rfl rfl (by (repeat first | exact .here | apply At.there)) rfl (by rfl) (by rfl) (by kernel_rfl) (by rfl) ?_ rfl)
  refine WL.nil ?_
  refine WK.un ?_
  refine WC.seq ?_
  refine WC.region ?_
  refine WL.p (Gp.move rfl) (by kernel_rfl) rfl ?_
  refine WL.p (Gp.move rfl) (by kernel_rfl) rfl ?_
  refine WL.p (Gp.fieldAddr rfl) (by kernel_rfl) rfl ?_
  (first | (refine WL.v (Gv.load1 rfl (by (repeat first | exact .here | apply At.there)) (by first | rfl | assumption)) (by kernel_rfl) rfl ?_) | (refine WL.v (Gv.loadN rfl (by (repeat first | exact .here | apply At.there)) (by rfl) (by rfl)) (by kernel_rfl) rfl ?_) | (refine WL.v (Gv.loadG1 rfl (by assumption) rfl) (by kernel_rfl) rfl ?_) | (refine WL.v (Gv.loadG0 rfl (by assumption) rfl) (by kernel_rfl) rfl ?_) | (refine WL.v (Gv.loadGN rfl (by assumption) rfl) (by kernel_rfl) rfl ?_))
  (first | refine WL.p (Gp.lenSl rfl) (by kernel_rfl) rfl ?_ | refine WL.p (Gp.lenS rfl) (by kernel_rfl) rfl ?_)
  by_cases hk : l.length < q.params.length
  · rw [if_pos hk]
    refine WL.op (by kernel_rfl) (OW.call rfl (Pk.perm (by repeat (first | exact Pk.nil | exact Pk.all | exact Pk.app | exact Pk.appR | with_reducible apply Pk.na | (apply Pk.cons; (repeat first | exact .here | apply Rem.there | apply Rem.app)) | apply Pk.skip | apply Pk.skipA))) (take_no G _ b A l.length cap p a B m cm q.params.length (by omega)) rfl (fun v' G' H' h hg => by cases h.1) (fun ch G' H' h hg => ?_) (fun G' H' h => by repeat (first | (cases h.1; done) | (cases h; done) | (obtain ⟨_, h⟩ := h) | (rcases h with h | h))))
    obtain ⟨he, rfl, c, hc, rfl⟩ := h
    cases he
    refine WK.un ?_
    exact QF.panicP ⟨rfl, rfl, _, ⟨c, hc, rfl⟩, rfl⟩ (by repeat (first | exact Pk.nil | exact Pk.all | exact Pk.app | exact Pk.appR | with_reducible apply Pk.na | (apply Pk.cons; (repeat first | exact .here | apply Rem.there | apply Rem.app)) | apply Pk.skip | apply Pk.skipA))
  rw [if_neg hk]
  obtain ⟨l1, l2, rfl, hl2, ht, hd⟩ := cut_list l q.params.length (by omega)
  rw [ht, hd]
  have hl1 : (l1 ++ l2).length - q.params.length = l1.length := by rw [← hl2]; simp
  rw [hl1]
  rw [← hl2]
  refine WL.op (by kernel_rfl) (OW.callK rfl (take_ok G _ b A cap p a B m cm l1 l2 x hv (by simp at hl; omega)) rfl fun v' G' H' h hg => ?_)
  obtain ⟨A', cap', x', he, rfl, rfl, hv1, hv2⟩ := h
  cases he
  refine WL.p (Gp.assign rfl) (by kernel_rfl) rfl ?_
  refine WL.nil ?_
  refine WK.un ?_
  refine WC.seq ?_
  refine WC.seq ?_
  refine WC.region ?_
  refine WL.p (Gp.move rfl) (by kernel_rfl) rfl ?_
  (first | refine WL.p (Gp.lenSl rfl) (by kernel_rfl) rfl ?_ | refine WL.p (Gp.lenS rfl) (by kernel_rfl) rfl ?_)
  refine WL.p (Gp.move rfl) (by kernel_rfl) rfl ?_
  refine WL.nil ?_
  refine WK.un ?_
  refine WC.block ?_  -- 0
  refine WC.pk (H' := [x', frB b A l1.length cap p a B m cm, x, .blk b1 (.cells #[.string q.name, .bool q.exp, .slice QA l2.length qc, .int .i64 q.locals, .int .i64 q.result, .slice CA q.code.length cc] 55 (0, 0)), mcB mb c1 (.slice (some ⟨pb, po, none⟩) procs.length pc) c3 FA bs.length fcap en v OA on ocap st ed, fx]) (by repeat (first | exact Pk.nil | exact Pk.all | exact Pk.app | exact Pk.appR | with_reducible apply Pk.na | (apply Pk.cons; (repeat first | exact .here | apply Rem.there | apply Rem.app)) | apply Pk.skip | apply Pk.skipA)) ?_
  refine WC.loop (X := Nat) (fun j => [(50, .int .i64 j), (49, .int .i64 l2.length), (48, .slice A' l2.length cap'), (7, .slice A' l2.length cap'), (6, .pointer (some ⟨b1, 0, none⟩)), (0, .pointer (some ⟨mb, 0, none⟩)), (1, .pointer (some ⟨b, 0, none⟩)), (2, .int .i64 i)]) (fun j => G) (fun j => [x', frB b A l1.length cap p a B m cm, x, .blk b1 (.cells #[.string q.name, .bool q.exp, .slice QA l2.length qc, .int .i64 q.locals, .int .i64 q.result, .slice CA q.code.length cc] 55 (0, 0)), mcB mb c1 (.slice (some ⟨pb, po, none⟩) procs.length pc) c3 FA bs.length fcap en v OA on ocap st ed, fx]) (fun j => l2.length - j) (fun j => j ≤ l2.length ∧ ∀ k (u : V) t, k < j → l2[k]? = some u → q.params[k]? = some t → u.t = t) 0 ⟨by omega, fun k u t h => by omega⟩ (by exact ⟨rfl, rfl, rfl, rfl, rfl, rfl, rfl, rfl, trivial⟩) rfl (List.Sublist.refl _) fun j hx => ?_
  obtain ⟨hj, hall⟩ := hx
  refine WC.seq ?_
  refine WC.region ?_
  (first | refine WL.p (Gp.ltI rfl rfl) (by kernel_rfl) rfl ?_ | refine WL.p (Gp.ltS rfl rfl) (by kernel_rfl) rfl ?_)
  refine WL.nil ?_
  refine WK.un ?_
  refine WC.seq ?_
  refine WC.cond rfl (fun hc2 => ?_) (fun hc2 => ?_)
  · -- yes
    have hlt : j < l2.length := by have h := hc2; simp at h; omega
    obtain ⟨u, hu⟩ : ∃ u, l2[j]? = some u := ⟨_, List.getElem?_eq_getElem hlt⟩
    obtain ⟨t, ht⟩ : ∃ t, q.params[j]? = some t := ⟨_, List.getElem?_eq_getElem (by omega)⟩
    obtain ⟨qb, qo, cs, rfl, hK, hcsq⟩ := hQ j t ht
    obtain rfl : cs = [.int .i64 t] := hK
    obtain ⟨hlv, ⟨h1, h2, h3, h4⟩ | ⟨b', c, rfl, rfl, h1, h2, h3⟩⟩ := hv1
    · omega
    refine WC.skip ?_
    refine WK.un ?_
    refine WC.seq ?_
    refine WC.block ?_  -- 1
    refine WC.seq ?_
    refine WC.region ?_
    refine WL.p (Gp.move rfl) (by kernel_rfl) rfl ?_
    refine WL.p (Gp.indexAddr rfl rfl (by first | assumption | omega | decide) (by first | assumption | omega | decide | (simp only [List.length_cons, List.length_nil]; decide))) (by kernel_rfl) rfl ?_
    refine WL.v (Gv.loadN rfl .here (VVec.elem (A := none) (cap := 0) (b := 0) h3 hu) rfl) (by kernel_rfl) rfl ?_
    refine WL.op (by kernel_rfl) (OW.alloc rfl fun b3 => ?_)
    refine WL.p (Gp.assign rfl) (by kernel_rfl) rfl ?_
    refine WL.op (by kernel_rfl) (OW.store rfl rfl (by (repeat first | exact .here | apply At.there)) rfl (by rfl) (by rfl) (by kernel_rfl) (by rfl) ?_ rfl)
    refine WL.nil ?_
    refine WK.un ?_
    refine WC.draw mixed ?_
    refine WA.tp (i := 0) rfl (by kernel_rfl) (by kernel_rfl) rfl (Gp.fieldAddr rfl) ?_
    (first | (refine WA.tv (i := 1) rfl (by kernel_rfl) (by kernel_rfl) rfl (Gv.load1 rfl (by (repeat first | exact .here | apply At.there)) (by first | rfl | assumption)) ?_) | (refine WA.tv (i := 1) rfl (by kernel_rfl) (by kernel_rfl) rfl (Gv.loadN rfl (by (repeat first | exact .here | apply At.there)) (by rfl) (by rfl)) ?_) | (refine WA.tv (i := 1) rfl (by kernel_rfl) (by kernel_rfl) rfl (Gv.loadG1 rfl (by assumption) rfl) ?_) | (refine WA.tv (i := 1) rfl (by kernel_rfl) (by kernel_rfl) rfl (Gv.loadG0 rfl (by assumption) rfl) ?_) | (refine WA.tv (i := 1) rfl (by kernel_rfl) (by kernel_rfl) rfl (Gv.loadGN rfl (by assumption) rfl) ?_))
    refine WA.tp (i := 2) rfl (by kernel_rfl) (by kernel_rfl) rfl (Gp.fieldAddr rfl) ?_
    (first | (refine WA.tv (i := 3) rfl (by kernel_rfl) (by kernel_rfl) rfl (Gv.load1 rfl (by (repeat first | exact .here | apply At.there)) (by first | rfl | assumption)) ?_) | (refine WA.tv (i := 3) rfl (by kernel_rfl) (by kernel_rfl) rfl (Gv.loadN rfl (by (repeat first | exact .here | apply At.there)) (by rfl) (by rfl)) ?_) | (refine WA.tv (i := 3) rfl (by kernel_rfl) (by kernel_rfl) rfl (Gv.loadG1 rfl (by assumption) rfl) ?_) | (refine WA.tv (i := 3) rfl (by kernel_rfl) (by kernel_rfl) rfl (Gv.loadG0 rfl (by assumption) rfl) ?_) | (refine WA.tv (i := 3) rfl (by kernel_rfl) (by kernel_rfl) rfl (Gv.loadGN rfl (by assumption) rfl) ?_))
    refine WA.tp (i := 4) rfl (by kernel_rfl) (by kernel_rfl) rfl (Gp.move rfl) ?_
    refine WA.tp (i := 5) rfl (by kernel_rfl) (by kernel_rfl) rfl (Gp.indexAddr rfl rfl (by first | assumption | omega | decide) (by first | assumption | omega | decide | (simp only [List.length_cons, List.length_nil]; decide))) ?_
    refine WA.tv (i := 6) rfl (by kernel_rfl) (by kernel_rfl) rfl (Gv.loadG0 rfl hcsq rfl) ?_
    (first | refine WA.tp (i := 7) rfl (by kernel_rfl) (by kernel_rfl) rfl (Gp.eqI rfl rfl) ?_ | refine WA.tp (i := 7) rfl (by kernel_rfl) (by kernel_rfl) rfl (Gp.eqS rfl rfl) ?_ | refine WA.tp (i := 7) rfl (by kernel_rfl) (by kernel_rfl) rfl (Gp.nilSl rfl) ?_ | refine WA.tp (i := 7) rfl (by kernel_rfl) (by kernel_rfl) rfl (Gp.eqB rfl rfl) ?_)
    by_cases htt : u.t = t
    · rw [show (u.t == t) = true by simpa using htt]
      refine WA.one (i := 8) (by kernel_rfl) rfl (by kernel_rfl) (OW.callR rfl (Hf := []) (List.Perm.refl _) (need_ok G) rfl (by rintro e G' H' ⟨h, _⟩; exact ⟨_, h⟩) fun v' G' H' h hg => ?_)
      obtain ⟨he, rfl, rfl⟩ := h
      cases he
      refine WA.done (by kernel_rfl) ?_
      refine WK.un ?_
      refine WC.region ?_
      (first | refine WL.p (Gp.add rfl rfl) (by kernel_rfl) rfl ?_ | refine WL.p (Gp.addS rfl rfl (by first | assumption | omega)) (by kernel_rfl) rfl ?_)
      refine WL.p (Gp.move rfl) (by kernel_rfl) rfl ?_
      refine WL.nil ?_
      refine WK.un ?_
      exact WK.again (j + 1) (by omega) ⟨by omega, fun k u' t' hk hu' ht' => by
        rcases Nat.lt_or_ge k j with h | h
        · exact hall k u' t' h hu' ht'
        · obtain rfl : k = j := by omega
          rw [hu] at hu'; rw [ht] at ht'; cases hu'; cases ht'; exact htt⟩ (by refine ⟨?_, rfl, rfl, rfl, rfl, rfl, rfl, rfl, trivial⟩; show some _ = some _; rw [wrap_small (by omega) (by simp at hl; omega)]; rfl) rfl (by exact .cons _ (List.Sublist.refl _))
    · rw [show (u.t == t) = false by simpa using htt]
      have hne : tys l2 ≠ q.params := fun h => htt (by
        have h1 := congrArg (fun l => l[j]?) h
        simp only [tys, List.getElem?_map, hu, ht, Option.map_some, Option.some.injEq] at h1
        exact h1)
      rw [if_pos hne]
      refine WA.one (i := 8) (by kernel_rfl) rfl (by kernel_rfl) (OW.call rfl (Hf := []) (List.Perm.refl _) (need_no _) rfl (fun v G' H' h _ => by cases h.1) (fun ch G' H' h _ => ?_) (fun G' H' h => by cases h.1))
      obtain ⟨he, rfl, rfl⟩ := h
      cases he
      refine WK.un ?_
      exact QF.panicP (⟨rfl, rfl, _, Left.of b A l1.length cap p a B m cm, rfl⟩)
  · -- no
    have hge : j = l2.length := by have h := hc2; simp at h; omega
    have heq : tys l2 = q.params := by
      apply List.ext_getElem?
      intro k
      rcases Nat.lt_or_ge k l2.length with hk' | hk'
      · obtain ⟨u, hu⟩ : ∃ u, l2[k]? = some u := ⟨_, List.getElem?_eq_getElem hk'⟩
        obtain ⟨t, ht⟩ : ∃ t, q.params[k]? = some t := ⟨_, List.getElem?_eq_getElem (by omega)⟩
        rw [tys, List.getElem?_map, hu, ht, Option.map_some, hall k u t (by omega) hu ht]
      · rw [List.getElem?_eq_none (by simpa [tys] using hk'), List.getElem?_eq_none (by omega)]
    rw [if_neg (show ¬ tys l2 ≠ q.params from fun h => h heq)]
    refine WC.exit ?_
    refine WK.un ?_
    refine WC.join (X := Unit) (fun _ => [(7, .slice A' l2.length cap'), (0, .pointer (some ⟨mb, 0, none⟩)), (1, .pointer (some ⟨b, 0, none⟩)), (2, .int .i64 i)]) (fun _ => G) (fun _ => [x', frB b A l1.length cap p a B m cm, x, mcB mb c1 (.slice (some ⟨pb, po, none⟩) procs.length pc) c3 FA bs.length fcap en v OA on ocap st ed, fx]) (fun _ => ¬ (q.result ≠ 0 ∧ 128 ≤ l1.length)) ?_ fun _ hok => ?_
    · refine WC.seq ?_
      refine WC.region ?_
      refine WL.p (Gp.fieldAddr rfl) (by kernel_rfl) rfl ?_
      (first | (refine WL.v (Gv.load1 rfl (by (repeat first | exact .here | apply At.there)) (by first | rfl | assumption)) (by kernel_rfl) rfl ?_) | (refine WL.v (Gv.loadN rfl (by (repeat first | exact .here | apply At.there)) (by rfl) (by rfl)) (by kernel_rfl) rfl ?_) | (refine WL.v (Gv.loadG1 rfl (by assumption) rfl) (by kernel_rfl) rfl ?_) | (refine WL.v (Gv.loadG0 rfl (by assumption) rfl) (by kernel_rfl) rfl ?_) | (refine WL.v (Gv.loadGN rfl (by assumption) rfl) (by kernel_rfl) rfl ?_))
      (first | refine WL.p (Gp.neI rfl rfl) (by kernel_rfl) rfl ?_ | refine WL.p (Gp.neS rfl rfl) (by kernel_rfl) rfl ?_ | refine WL.p (Gp.neB rfl rfl) (by kernel_rfl) rfl ?_)
      refine WL.nil ?_
      refine WK.un ?_
      refine WC.cond rfl (fun hc4 => ?_) (fun hc4 => ?_)
      · -- yes
        have hr0 : q.result ≠ 0 := by simpa using hc4
        refine WC.region ?_
        refine WL.p (Gp.move rfl) (by kernel_rfl) rfl ?_
        refine WL.p (Gp.nilCheck rfl) (by kernel_rfl) rfl ?_
        refine WL.p (Gp.fieldAddr rfl) (by kernel_rfl) rfl ?_
        refine WL.op (by kernel_rfl) (OW.callK rfl (high_fn G b A l1.length cap p a B m cm) rfl fun v' G' H' h hg => ?_)
        obtain ⟨he, rfl, rfl⟩ := h
        cases he
        (first | refine WL.p (Gp.ltI rfl rfl) (by kernel_rfl) rfl ?_ | refine WL.p (Gp.ltS rfl rfl) (by kernel_rfl) rfl ?_)
        by_cases h128 : 128 ≤ l1.length
        · rw [show decide ((l1.length : Int) < 128) = false by simp; omega]
          rw [if_pos ⟨hr0, h128⟩]
          refine WL.op (by kernel_rfl) (OW.call rfl (Hf := []) (List.Perm.refl _) (need_no _) rfl (fun v G' H' h _ => by cases h.1) (fun ch G' H' h _ => ?_) (fun G' H' h => by cases h.1))
          obtain ⟨he, rfl, rfl⟩ := h
          cases he
          refine WK.un ?_
          exact QF.panicP (⟨rfl, rfl, _, Left.of b A l1.length cap p a B m cm, rfl⟩)
        · rw [show decide ((l1.length : Int) < 128) = true by simp; omega]
          refine WL.op (by kernel_rfl) (OW.callR rfl (Hf := []) (List.Perm.refl _) (need_ok G) rfl (by rintro e G' H' ⟨h, _⟩; exact ⟨_, h⟩) fun v' G' H' h hg => ?_)
          obtain ⟨he, rfl, rfl⟩ := h
          cases he
          refine WL.nil ?_
          refine WK.un ?_
          refine WK.pk (H' := [x', frB b A l1.length cap p a B m cm, x, mcB mb c1 (.slice (some ⟨pb, po, none⟩) procs.length pc) c3 FA bs.length fcap en v OA on ocap st ed, fx]) (by repeat (first | exact Pk.nil | exact Pk.all | exact Pk.app | exact Pk.appR | with_reducible apply Pk.na | (apply Pk.cons; (repeat first | exact .here | apply Rem.there | apply Rem.app)) | apply Pk.skip | apply Pk.skipA)) ?_
          exact WK.meet () (fun h => h128 h.2) (by exact ⟨rfl, rfl, rfl, rfl, trivial⟩) rfl (List.Sublist.refl _)
      · -- no
        have hr0 : q.result = 0 := by simpa using hc4
        refine WC.skip ?_
        refine WK.un ?_
        refine WK.pk (H' := [x', frB b A l1.length cap p a B m cm, x, mcB mb c1 (.slice (some ⟨pb, po, none⟩) procs.length pc) c3 FA bs.length fcap en v OA on ocap st ed, fx]) (by repeat (first | exact Pk.nil | exact Pk.all | exact Pk.app | exact Pk.appR | with_reducible apply Pk.na | (apply Pk.cons; (repeat first | exact .here | apply Rem.there | apply Rem.app)) | apply Pk.skip | apply Pk.skipA)) ?_
        exact WK.meet () (fun h => h.1 hr0) (by exact ⟨rfl, rfl, rfl, rfl, trivial⟩) rfl (List.Sublist.refl _)
    rw [if_neg hok]
    refine WC.seq ?_
    refine WC.seq ?_
    refine WC.region ?_
    refine WL.p (Gp.move rfl) (by kernel_rfl) rfl ?_
    refine WL.p (Gp.nilCheck rfl) (by kernel_rfl) rfl ?_
    refine WL.p (Gp.fieldAddr rfl) (by kernel_rfl) rfl ?_
    (first | (refine WL.v (Gv.load1 rfl (by (repeat first | exact .here | apply At.there)) (by first | rfl | assumption)) (by kernel_rfl) rfl ?_) | (refine WL.v (Gv.loadN rfl (by (repeat first | exact .here | apply At.there)) (by rfl) (by rfl)) (by kernel_rfl) rfl ?_) | (refine WL.v (Gv.loadG1 rfl (by assumption) rfl) (by kernel_rfl) rfl ?_) | (refine WL.v (Gv.loadG0 rfl (by assumption) rfl) (by kernel_rfl) rfl ?_) | (refine WL.v (Gv.loadGN rfl (by assumption) rfl) (by kernel_rfl) rfl ?_))
    (first | refine WL.p (Gp.lenSl rfl) (by kernel_rfl) rfl ?_ | refine WL.p (Gp.lenS rfl) (by kernel_rfl) rfl ?_)
    (first | refine WL.p (Gp.geI rfl rfl) (by kernel_rfl) rfl ?_ | refine WL.p (Gp.geS rfl rfl) (by kernel_rfl) rfl ?_)
    refine WL.nil ?_
    refine WK.un ?_
    refine WC.cond rfl (fun hc5 => ?_) (fun hc5 => ?_)
    · -- yes
      have h64 : 64 ≤ bs.length := by have h := hc5; simp at h; omega
      refine WC.region ?_
      refine WL.p (Gp.build rfl rfl) (by kernel_rfl) rfl ?_
      refine WL.p (Gp.mkIface rfl (by kernel_rfl)) (by kernel_rfl) rfl ?_
      rw [if_pos h64]
      refine WL.op (by kernel_rfl) (OW.panic rfl ?_)
      refine WK.un ?_
      exact QF.panicP ⟨rfl, rfl, _, Left.of b A l1.length cap p a B m cm, rfl⟩ (by repeat (first | exact Pk.nil | exact Pk.all | exact Pk.app | exact Pk.appR | with_reducible apply Pk.na | (apply Pk.cons; (repeat first | exact .here | apply Rem.there | apply Rem.app)) | apply Pk.skip | apply Pk.skipA))
    · -- no
      have h64 : ¬ 64 ≤ bs.length := by have h := hc5; simp at h; omega
      rw [if_neg h64]
      refine WC.skip ?_
      refine WK.un ?_
      refine WC.region ?_
      refine WL.p (Gp.move rfl) (by kernel_rfl) rfl ?_
      refine WL.p (Gp.move rfl) (by kernel_rfl) rfl ?_
      refine WL.p (Gp.move rfl) (by kernel_rfl) rfl ?_
      refine WL.op (by kernel_rfl) (OW.callK rfl (enter_fn G mb c1 c3 (some ⟨pb, po, none⟩) procs.length pc procs FA fcap en v OA on ocap st ed bs fx i q hq rfl hG hfv hbs A' cap' l2 [x'] (hv1.rds .here) (by omega) hs'.2) rfl fun v' G' H' h hg => ?_)
      obtain ⟨FA', fcap', b', VA, x'', y, he, rfl, rfl, hx2, hy2⟩ := h
      cases he
      refine WL.nil ?_
      refine WK.un ?_
      exact QF.p0 (.inr rfl) rfl  (⟨rfl, FA', fcap', b', VA, x'', y, rfl, rfl, hx2, hy2, hv2⟩)
end Go.Proofs.Ytjgohbepageicaa.Gb
