/- Instructions without a number: held against one another, turned, joined. Any instruction without a number. -/
import Derived.Test.YtbfgljcjblfleaaGreatDoorMh
set_option linter.unusedVariables false
set_option linter.unusedSimpArgs false
set_option linter.unusedSectionVars false
namespace Go.Proofs.YtbfgljcjblfleaaGreatDoor.Gb
open Go Go.Proofs
attribute [local irreducible] Tryz.prog
theorem one_lo {c : Array Value} {v : V} {n j : Nat} {w : Value} (h : c.toList.take n = vflat [v]) (hw : (vcells v)[j]? = some w) : c[0 + (0 : Int).toNat * 4 + j]? = some w := by
  have hj : j < (vcells v).length := (List.getElem?_eq_some_iff.1 hw).1
  have e : (0 + (0 : Int).toNat * 4 + j) = j := by simp
  rw [e]
  refine two_at h ?_
  show (vcells v ++ [])[j]? = _
  rw [List.append_nil]; exact hw
theorem two_val0 {c : Array Value} {u v : V} (h : c.toList.take ([u, v].length * 4) = vflat [u, v]) : (c.toList.drop (0 + (0 : Int).toNat * 4)).take 4 = vcells u := VVec.elem (A := none) (cap := 0) (b := 0) (i := 0) (v := u) h rfl
theorem two_val1 {c : Array Value} {u v : V} (h : c.toList.take ([u, v].length * 4) = vflat [u, v]) : (c.toList.drop (0 + (1 : Int).toNat * 4)).take 4 = vcells v := VVec.elem (A := none) (cap := 0) (b := 0) (i := 1) (v := v) h rfl
section
variable (G : Gh) (mb : Nat) (c1 c2 c3 : Value) (FA : Option Addr) (fn fcap : Nat) (en : Int) (w : V) (OA : Option Addr) (ocap : Nat) (st : Int) (ed : Bool) (out : List V) (ox fx : Own) (Hx : List Own) (RL : List V → List Own → Prop)
    (b : Nat) (A : Option Addr) (cap : Nat) (p a : Int) (B : Option Addr) (m cm : Nat) (x : Own) (l : List V) (nm : ByteArray) (ex : Bool) (qv cv : Value) (lo res : Int)
theorem plain_not (hv : VVec A cap l x) (hl : l.length ≤ 1000000) : Fn Tryz.prog 60 #[.pointer (some ⟨mb, 0, none⟩), .pointer (some ⟨b, 0, none⟩), .agg #[.string nm, .bool ex, qv, .int .i64 lo, .int .i64 res, cv], .int .i64 25] G
    (mcB mb c1 c2 c3 FA fn fcap en w OA out.length ocap st ed :: ox :: frB b A l.length cap p a B m cm :: x :: fx :: Hx) (PlR G mb c1 c2 c3 FA fn fcap en w OA ocap st ed out ox fx Hx RL b A cap p a B m cm x (plainR res l 25 out.length)) := by
  refine Fn.enter Tryz.func60 rfl rfl fun w0 => ?_
  rw [show plainR res l 25 out.length = on1 l 2 fun r v => .set (r ++ [truthV (!v.b)]) by simp [plainR]]
  refine WC.seq ?_
  refine WC.region ?_
  refine WL.op (by kernel_rfl) (OW.box rfl rfl fun b1 => ?_)
  refine WL.nil ?_
  refine WK.un ?_
  refine WC.seq ?_
  refine WC.region ?_
  refine WL.p (Gp.move rfl) (by kernel_rfl) rfl ?_
  refine WL.nil ?_
  refine WK.un ?_
  repeat (first | refine WC.seq ?_ | refine WC.block ?_ | (refine WC.region ?_; refine WL.p (Gp.eqI rfl rfl) (by kernel_rfl) rfl ?_; refine WL.p (Gp.assign rfl) (by kernel_rfl) rfl ?_; refine WL.nil ?_; refine WK.un ?_) | refine WC.cond_true rfl ?_ | refine WC.cond_false rfl ?_ | (refine WC.skip ?_; refine WK.un ?_) | (refine WC.exit ?_; refine WK.un ?_))
  refine WC.draw mixed ?_
  refine WA.tp (i := 0) rfl (by kernel_rfl) (by kernel_rfl) rfl (Gp.move rfl) ?_
  refine WA.tp (i := 1) rfl (by kernel_rfl) (by kernel_rfl) rfl (Gp.nilCheck rfl) ?_
  refine WA.tp (i := 2) rfl (by kernel_rfl) (by kernel_rfl) rfl (Gp.fieldAddr rfl) ?_
  refine WA.tp (i := 3) rfl (by kernel_rfl) (by kernel_rfl) rfl (Gp.move rfl) ?_
  refine WA.tp (i := 4) rfl (by kernel_rfl) (by kernel_rfl) rfl (Gp.move rfl) ?_
  cases ht : ty1 l 2 with
  | none =>
    rw [show on1 l 2 _ = .halt 6 by rw [on1, ht]]
    refine WA.one (i := 5) (by kernel_rfl) rfl (by kernel_rfl) (OW.call rfl (Pk.perm (by repeat (first | exact Pk.nil | exact Pk.all | exact Pk.app | exact Pk.appR | with_reducible apply Pk.na | (apply Pk.cons; (repeat first | exact .here | apply Rem.there | apply Rem.app)) | apply Pk.skip | apply Pk.skipA))) (typed1_no G _ b A cap p a B m cm x l 2 ht hv hl) rfl (fun v' G' H' h hg => by cases h.1) (fun ch G' H' h hg => ?_) (fun G' H' h => by repeat (first | (cases h.1; done) | (cases h; done) | (obtain ⟨_, h⟩ := h) | (rcases h with h | h))))
    obtain ⟨he, rfl, c, hc, rfl⟩ := h
    cases he
    refine WK.un ?_
    exact QF.panicP ⟨rfl, rfl, _, ⟨c, hc, rfl⟩, rfl⟩
  | some rv =>
    obtain ⟨r, v⟩ := rv
    obtain ⟨rfl, hvt⟩ := ty1_some ht
    rw [show on1 (r ++ [v]) 2 _ = .set (r ++ [truthV (!v.b)]) by rw [on1, ht]]
    refine WA.one (i := 5) (by kernel_rfl) rfl (by kernel_rfl) (OW.callK rfl (typed1_ok G _ b A cap p a B m cm x r v 2 hvt hv hl) rfl fun v' G' H' h hg => ?_)
    obtain ⟨A', cap', x', he, rfl, rfl, hv1, hv2⟩ := h
    cases he
    obtain ⟨hlv, ⟨h1, h2, h3, h4⟩ | ⟨b', c', rfl, rfl, h1, h2, h3⟩⟩ := hv1
    · simp at h2
    have hc0 : ∀ (j : Nat) (w : Value), (vcells v)[j]? = some w → c'[0 + (0 : Int).toNat * 4 + j]? = some w := fun j w hw => one_lo h3 hw
    refine WA.tp (i := 6) rfl (by kernel_rfl) (by kernel_rfl) rfl (Gp.indexAddr rfl rfl (by first | assumption | omega | decide) (by first | assumption | omega | decide | (simp only [List.length_cons, List.length_nil]; decide))) ?_
    refine WA.tp (i := 7) rfl (by kernel_rfl) (by kernel_rfl) rfl (Gp.fieldAddr rfl) ?_
    refine WA.tv (i := 8) rfl (by kernel_rfl) (by kernel_rfl) rfl (Gv.load1 rfl .here (hc0 2 _ rfl)) ?_
    refine WA.tp (i := 9) rfl (by kernel_rfl) (by kernel_rfl) rfl (Gp.notB rfl) ?_
    refine WA.one (i := 10) (by kernel_rfl) rfl (by kernel_rfl) (OW.callR rfl (Hf := []) (List.Perm.refl _) (truth_fn G (!v.b)) rfl (by rintro e G' H' ⟨h, _⟩; exact ⟨_, h⟩) fun v' G' H' h hg => ?_)
    obtain ⟨he, rfl, rfl⟩ := h
    cases he
    refine WA.one (i := 11) (by kernel_rfl) rfl (by kernel_rfl) (OW.callK rfl (pushV_fn G b A cap p a B m cm r x (truthV (!v.b)) hv2 (by simp at hl; omega)) rfl fun v' G' H' h hg => ?_)
    obtain ⟨A2, cap2, x2, he, rfl, rfl, hv3⟩ := h
    cases he
    refine WA.done (by kernel_rfl) ?_
    refine WK.un ?_
    refine WC.exit ?_
    refine WK.un ?_
    exact QF.p0 (.inr rfl) rfl ⟨rfl, A2, cap2, x2, rfl, hv3, rfl⟩ (by repeat (first | exact Pk.nil | exact Pk.all | exact Pk.app | exact Pk.appR | with_reducible apply Pk.na | (apply Pk.cons; (repeat first | exact .here | apply Rem.there | apply Rem.app)) | apply Pk.skip | apply Pk.skipA))
theorem plain_len (hv : VVec A cap l x) (hl : l.length ≤ 1000000) : Fn Tryz.prog 60 #[.pointer (some ⟨mb, 0, none⟩), .pointer (some ⟨b, 0, none⟩), .agg #[.string nm, .bool ex, qv, .int .i64 lo, .int .i64 res, cv], .int .i64 26] G
    (mcB mb c1 c2 c3 FA fn fcap en w OA out.length ocap st ed :: ox :: frB b A l.length cap p a B m cm :: x :: fx :: Hx) (PlR G mb c1 c2 c3 FA fn fcap en w OA ocap st ed out ox fx Hx RL b A cap p a B m cm x (plainR res l 26 out.length)) := by
  refine Fn.enter Tryz.func60 rfl rfl fun w0 => ?_
  rw [show plainR res l 26 out.length = on1 l 3 fun r v => .set (r ++ [numV v.s.size]) by simp [plainR]]
  refine WC.seq ?_
  refine WC.region ?_
  refine WL.op (by kernel_rfl) (OW.box rfl rfl fun b1 => ?_)
  refine WL.nil ?_
  refine WK.un ?_
  refine WC.seq ?_
  refine WC.region ?_
  refine WL.p (Gp.move rfl) (by kernel_rfl) rfl ?_
  refine WL.nil ?_
  refine WK.un ?_
  repeat (first | refine WC.seq ?_ | refine WC.block ?_ | (refine WC.region ?_; refine WL.p (Gp.eqI rfl rfl) (by kernel_rfl) rfl ?_; refine WL.p (Gp.assign rfl) (by kernel_rfl) rfl ?_; refine WL.nil ?_; refine WK.un ?_) | refine WC.cond_true rfl ?_ | refine WC.cond_false rfl ?_ | (refine WC.skip ?_; refine WK.un ?_) | (refine WC.exit ?_; refine WK.un ?_))
  refine WC.draw mixed ?_
  refine WA.tp (i := 0) rfl (by kernel_rfl) (by kernel_rfl) rfl (Gp.move rfl) ?_
  refine WA.tp (i := 1) rfl (by kernel_rfl) (by kernel_rfl) rfl (Gp.nilCheck rfl) ?_
  refine WA.tp (i := 2) rfl (by kernel_rfl) (by kernel_rfl) rfl (Gp.fieldAddr rfl) ?_
  refine WA.tp (i := 3) rfl (by kernel_rfl) (by kernel_rfl) rfl (Gp.move rfl) ?_
  refine WA.tp (i := 4) rfl (by kernel_rfl) (by kernel_rfl) rfl (Gp.move rfl) ?_
  cases ht : ty1 l 3 with
  | none =>
    rw [show on1 l 3 _ = .halt 6 by rw [on1, ht]]
    refine WA.one (i := 5) (by kernel_rfl) rfl (by kernel_rfl) (OW.call rfl (Pk.perm (by repeat (first | exact Pk.nil | exact Pk.all | exact Pk.app | exact Pk.appR | with_reducible apply Pk.na | (apply Pk.cons; (repeat first | exact .here | apply Rem.there | apply Rem.app)) | apply Pk.skip | apply Pk.skipA))) (typed1_no G _ b A cap p a B m cm x l 3 ht hv hl) rfl (fun v' G' H' h hg => by cases h.1) (fun ch G' H' h hg => ?_) (fun G' H' h => by repeat (first | (cases h.1; done) | (cases h; done) | (obtain ⟨_, h⟩ := h) | (rcases h with h | h))))
    obtain ⟨he, rfl, c, hc, rfl⟩ := h
    cases he
    refine WK.un ?_
    exact QF.panicP ⟨rfl, rfl, _, ⟨c, hc, rfl⟩, rfl⟩
  | some rv =>
    obtain ⟨r, v⟩ := rv
    obtain ⟨rfl, hvt⟩ := ty1_some ht
    rw [show on1 (r ++ [v]) 3 _ = .set (r ++ [numV v.s.size]) by rw [on1, ht]]
    refine WA.one (i := 5) (by kernel_rfl) rfl (by kernel_rfl) (OW.callK rfl (typed1_ok G _ b A cap p a B m cm x r v 3 hvt hv hl) rfl fun v' G' H' h hg => ?_)
    obtain ⟨A', cap', x', he, rfl, rfl, hv1, hv2⟩ := h
    cases he
    obtain ⟨hlv, ⟨h1, h2, h3, h4⟩ | ⟨b', c', rfl, rfl, h1, h2, h3⟩⟩ := hv1
    · simp at h2
    have hc0 : ∀ (j : Nat) (w : Value), (vcells v)[j]? = some w → c'[0 + (0 : Int).toNat * 4 + j]? = some w := fun j w hw => one_lo h3 hw
    refine WA.tp (i := 6) rfl (by kernel_rfl) (by kernel_rfl) rfl (Gp.indexAddr rfl rfl (by first | assumption | omega | decide) (by first | assumption | omega | decide | (simp only [List.length_cons, List.length_nil]; decide))) ?_
    refine WA.tp (i := 7) rfl (by kernel_rfl) (by kernel_rfl) rfl (Gp.fieldAddr rfl) ?_
    refine WA.tv (i := 8) rfl (by kernel_rfl) (by kernel_rfl) rfl (Gv.load1 rfl .here (hc0 3 _ rfl)) ?_
    (first | refine WA.tp (i := 9) rfl (by kernel_rfl) (by kernel_rfl) rfl (Gp.lenSl rfl) ?_ | refine WA.tp (i := 9) rfl (by kernel_rfl) (by kernel_rfl) rfl (Gp.lenS rfl) ?_)
    refine WA.one (i := 10) (by kernel_rfl) rfl (by kernel_rfl) (OW.callR rfl (Hf := []) (List.Perm.refl _) (number_fnQ G v.s.size) rfl (by rintro e G' H' ⟨h, _⟩; exact ⟨_, h⟩) fun v' G' H' h hg => ?_)
    obtain ⟨he, rfl, rfl⟩ := h
    cases he
    refine WA.one (i := 11) (by kernel_rfl) rfl (by kernel_rfl) (OW.callK rfl (pushV_fn G b A cap p a B m cm r x (numV v.s.size) hv2 (by simp at hl; omega)) rfl fun v' G' H' h hg => ?_)
    obtain ⟨A2, cap2, x2, he, rfl, rfl, hv3⟩ := h
    cases he
    refine WA.done (by kernel_rfl) ?_
    refine WK.un ?_
    refine WC.exit ?_
    refine WK.un ?_
    exact QF.p0 (.inr rfl) rfl ⟨rfl, A2, cap2, x2, rfl, hv3, rfl⟩ (by repeat (first | exact Pk.nil | exact Pk.all | exact Pk.app | exact Pk.appR | with_reducible apply Pk.na | (apply Pk.cons; (repeat first | exact .here | apply Rem.there | apply Rem.app)) | apply Pk.skip | apply Pk.skipA))
theorem plain_neg (hv : VVec A cap l x) (hl : l.length ≤ 1000000) : Fn Tryz.prog 60 #[.pointer (some ⟨mb, 0, none⟩), .pointer (some ⟨b, 0, none⟩), .agg #[.string nm, .bool ex, qv, .int .i64 lo, .int .i64 res, cv], .int .i64 24] G
    (mcB mb c1 c2 c3 FA fn fcap en w OA out.length ocap st ed :: ox :: frB b A l.length cap p a B m cm :: x :: fx :: Hx) (PlR G mb c1 c2 c3 FA fn fcap en w OA ocap st ed out ox fx Hx RL b A cap p a B m cm x (plainR res l 24 out.length)) := by
  refine Fn.enter Tryz.func60 rfl rfl fun w0 => ?_
  rw [show plainR res l 24 out.length = on1 l 1 fun r v => .set (r ++ [numV (IntKind.i64.wrap (0 - v.i))]) by simp [plainR]]
  refine WC.seq ?_
  refine WC.region ?_
  refine WL.op (by kernel_rfl) (OW.box rfl rfl fun b1 => ?_)
  refine WL.nil ?_
  refine WK.un ?_
  refine WC.seq ?_
  refine WC.region ?_
  refine WL.p (Gp.move rfl) (by kernel_rfl) rfl ?_
  refine WL.nil ?_
  refine WK.un ?_
  repeat (first | refine WC.seq ?_ | refine WC.block ?_ | (refine WC.region ?_; refine WL.p (Gp.eqI rfl rfl) (by kernel_rfl) rfl ?_; refine WL.p (Gp.assign rfl) (by kernel_rfl) rfl ?_; refine WL.nil ?_; refine WK.un ?_) | refine WC.cond_true rfl ?_ | refine WC.cond_false rfl ?_ | (refine WC.skip ?_; refine WK.un ?_) | (refine WC.exit ?_; refine WK.un ?_))
  refine WC.draw mixed ?_
  refine WA.tp (i := 0) rfl (by kernel_rfl) (by kernel_rfl) rfl (Gp.move rfl) ?_
  refine WA.tp (i := 1) rfl (by kernel_rfl) (by kernel_rfl) rfl (Gp.nilCheck rfl) ?_
  refine WA.tp (i := 2) rfl (by kernel_rfl) (by kernel_rfl) rfl (Gp.fieldAddr rfl) ?_
  refine WA.tp (i := 3) rfl (by kernel_rfl) (by kernel_rfl) rfl (Gp.move rfl) ?_
  refine WA.tp (i := 4) rfl (by kernel_rfl) (by kernel_rfl) rfl (Gp.move rfl) ?_
  cases ht : ty1 l 1 with
  | none =>
    rw [show on1 l 1 _ = .halt 6 by rw [on1, ht]]
    refine WA.one (i := 5) (by kernel_rfl) rfl (by kernel_rfl) (OW.call rfl (Pk.perm (by repeat (first | exact Pk.nil | exact Pk.all | exact Pk.app | exact Pk.appR | with_reducible apply Pk.na | (apply Pk.cons; (repeat first | exact .here | apply Rem.there | apply Rem.app)) | apply Pk.skip | apply Pk.skipA))) (typed1_no G _ b A cap p a B m cm x l 1 ht hv hl) rfl (fun v' G' H' h hg => by cases h.1) (fun ch G' H' h hg => ?_) (fun G' H' h => by repeat (first | (cases h.1; done) | (cases h; done) | (obtain ⟨_, h⟩ := h) | (rcases h with h | h))))
    obtain ⟨he, rfl, c, hc, rfl⟩ := h
    cases he
    refine WK.un ?_
    exact QF.panicP ⟨rfl, rfl, _, ⟨c, hc, rfl⟩, rfl⟩
  | some rv =>
    obtain ⟨r, v⟩ := rv
    obtain ⟨rfl, hvt⟩ := ty1_some ht
    rw [show on1 (r ++ [v]) 1 _ = .set (r ++ [numV (IntKind.i64.wrap (0 - v.i))]) by rw [on1, ht]]
    refine WA.one (i := 5) (by kernel_rfl) rfl (by kernel_rfl) (OW.callK rfl (typed1_ok G _ b A cap p a B m cm x r v 1 hvt hv hl) rfl fun v' G' H' h hg => ?_)
    obtain ⟨A', cap', x', he, rfl, rfl, hv1, hv2⟩ := h
    cases he
    obtain ⟨hlv, ⟨h1, h2, h3, h4⟩ | ⟨b', c', rfl, rfl, h1, h2, h3⟩⟩ := hv1
    · simp at h2
    have hc0 : ∀ (j : Nat) (w : Value), (vcells v)[j]? = some w → c'[0 + (0 : Int).toNat * 4 + j]? = some w := fun j w hw => one_lo h3 hw
    refine WA.tp (i := 6) rfl (by kernel_rfl) (by kernel_rfl) rfl (Gp.indexAddr rfl rfl (by first | assumption | omega | decide) (by first | assumption | omega | decide | (simp only [List.length_cons, List.length_nil]; decide))) ?_
    refine WA.tp (i := 7) rfl (by kernel_rfl) (by kernel_rfl) rfl (Gp.fieldAddr rfl) ?_
    refine WA.tv (i := 8) rfl (by kernel_rfl) (by kernel_rfl) rfl (Gv.load1 rfl .here (hc0 1 _ rfl)) ?_
    refine WA.tp (i := 9) rfl (by kernel_rfl) (by kernel_rfl) rfl (Gp.negI rfl) ?_
    refine WA.one (i := 10) (by kernel_rfl) rfl (by kernel_rfl) (OW.callR rfl (Hf := []) (List.Perm.refl _) (number_fnQ G (IntKind.i64.wrap (0 - v.i))) rfl (by rintro e G' H' ⟨h, _⟩; exact ⟨_, h⟩) fun v' G' H' h hg => ?_)
    obtain ⟨he, rfl, rfl⟩ := h
    cases he
    refine WA.one (i := 11) (by kernel_rfl) rfl (by kernel_rfl) (OW.callK rfl (pushV_fn G b A cap p a B m cm r x (numV (IntKind.i64.wrap (0 - v.i))) hv2 (by simp at hl; omega)) rfl fun v' G' H' h hg => ?_)
    obtain ⟨A2, cap2, x2, he, rfl, rfl, hv3⟩ := h
    cases he
    refine WA.done (by kernel_rfl) ?_
    refine WK.un ?_
    refine WC.exit ?_
    refine WK.un ?_
    exact QF.p0 (.inr rfl) rfl ⟨rfl, A2, cap2, x2, rfl, hv3, rfl⟩ (by repeat (first | exact Pk.nil | exact Pk.all | exact Pk.app | exact Pk.appR | with_reducible apply Pk.na | (apply Pk.cons; (repeat first | exact .here | apply Rem.there | apply Rem.app)) | apply Pk.skip | apply Pk.skipA))
theorem plain_eq (hv : VVec A cap l x) (hl : l.length ≤ 1000000) : Fn Tryz.prog 60 #[.pointer (some ⟨mb, 0, none⟩), .pointer (some ⟨b, 0, none⟩), .agg #[.string nm, .bool ex, qv, .int .i64 lo, .int .i64 res, cv], .int .i64 12] G
    (mcB mb c1 c2 c3 FA fn fcap en w OA out.length ocap st ed :: ox :: frB b A l.length cap p a B m cm :: x :: fx :: Hx) (PlR G mb c1 c2 c3 FA fn fcap en w OA ocap st ed out ox fx Hx RL b A cap p a B m cm x (plainR res l 12 out.length)) := by
  refine Fn.enter Tryz.func60 rfl rfl fun w0 => ?_
  rw [show plainR res l 12 out.length = onB l fun r u v => if u.t = v.t then .set (r ++ [truthV (decide (u = v))]) else .halt 6 by simp [plainR]]
  refine WC.seq ?_
  refine WC.region ?_
  refine WL.op (by kernel_rfl) (OW.box rfl rfl fun b1 => ?_)
  refine WL.nil ?_
  refine WK.un ?_
  refine WC.seq ?_
  refine WC.region ?_
  refine WL.p (Gp.move rfl) (by kernel_rfl) rfl ?_
  refine WL.nil ?_
  refine WK.un ?_
  repeat (first | refine WC.seq ?_ | refine WC.block ?_ | (refine WC.region ?_; refine WL.p (Gp.eqI rfl rfl) (by kernel_rfl) rfl ?_; refine WL.p (Gp.assign rfl) (by kernel_rfl) rfl ?_; refine WL.nil ?_; refine WK.un ?_) | refine WC.cond_true rfl ?_ | refine WC.cond_false rfl ?_ | (refine WC.skip ?_; refine WK.un ?_) | (refine WC.exit ?_; refine WK.un ?_))
  refine WC.region ?_
  refine WL.p (Gp.move rfl) (by kernel_rfl) rfl ?_
  refine WL.p (Gp.move rfl) (by kernel_rfl) rfl ?_
  cases ht : pop2 l with
  | none =>
    have h1 := pop2_len ht
    rw [show onB l _ = .halt 6 by rw [onB, ht]]
    refine WL.op (by kernel_rfl) (OW.call rfl (Pk.perm (by repeat (first | exact Pk.nil | exact Pk.all | exact Pk.app | exact Pk.appR | with_reducible apply Pk.na | (apply Pk.cons; (repeat first | exact .here | apply Rem.there | apply Rem.app)) | apply Pk.skip | apply Pk.skipA))) (((take_no G _ b A l.length cap p a B m cm 2 (by omega)).pk (F := [x]) (.cons .here .nil)).drop fun e G' H' ⟨H2, ⟨h1, h2, h3⟩, h4⟩ => ⟨H2, by rw [h4]; exact List.sublist_append_left _ _, (⟨h1, h2, h3⟩ : e = halted 6 ∧ G = G' ∧ Left b H2)⟩) rfl (fun v' G' H' h hg => by cases h.1) (fun ch G' H' h hg => ?_) (fun G' H' h => by repeat (first | (cases h.1; done) | (cases h; done) | (obtain ⟨_, h⟩ := h) | (rcases h with h | h))))
    obtain ⟨he, rfl, c, hc, rfl⟩ := h
    cases he
    refine WK.un ?_
    exact QF.panicP ⟨rfl, rfl, _, ⟨c, hc, rfl⟩, rfl⟩
  | some rv =>
    obtain ⟨r, u, v⟩ := rv
    rw [show onB l _ = (if u.t = v.t then .set (r ++ [truthV (decide (u = v))]) else .halt 6) by rw [onB, ht]]
    obtain rfl := pop2_some ht
    refine WL.op (by kernel_rfl) (OW.callK rfl (take2_ok G _ b A cap p a B m cm x r u v hv hl) rfl fun v' G' H' h hg => ?_)
    obtain ⟨A', cap', x', he, rfl, rfl, hv1, hv2⟩ := h
    cases he
    obtain ⟨hlv, ⟨h1, h2, h3, h4⟩ | ⟨b', c', rfl, rfl, h1, h2, h3⟩⟩ := hv1
    · simp at h2
    have hc0 : ∀ (j : Nat) (w : Value), (vcells u)[j]? = some w → c'[0 + (0 : Int).toNat * 4 + j]? = some w := fun j w hw => two_lo h3 hw
    have hc1 : ∀ (j : Nat) (w : Value), (vcells v)[j]? = some w → c'[0 + (1 : Int).toNat * 4 + j]? = some w := fun j w hw => two_hi h3 hw
    refine WL.p (Gp.assign rfl) (by kernel_rfl) rfl ?_
    refine WL.nil ?_
    refine WK.un ?_
    refine WC.seq ?_
    refine WC.draw mixed ?_
    refine WA.tp (i := 0) rfl (by kernel_rfl) (by kernel_rfl) rfl (Gp.move rfl) ?_
    refine WA.tp (i := 1) rfl (by kernel_rfl) (by kernel_rfl) rfl (Gp.indexAddr rfl rfl (by first | assumption | omega | decide) (by first | assumption | omega | decide | (simp only [List.length_cons, List.length_nil]; decide))) ?_
    refine WA.tp (i := 2) rfl (by kernel_rfl) (by kernel_rfl) rfl (Gp.fieldAddr rfl) ?_
    refine WA.tv (i := 3) rfl (by kernel_rfl) (by kernel_rfl) rfl (Gv.load1 rfl .here (hc0 0 _ rfl)) ?_
    refine WA.tp (i := 4) rfl (by kernel_rfl) (by kernel_rfl) rfl (Gp.move rfl) ?_
    refine WA.tp (i := 5) rfl (by kernel_rfl) (by kernel_rfl) rfl (Gp.indexAddr rfl rfl (by first | assumption | omega | decide) (by first | assumption | omega | decide | (simp only [List.length_cons, List.length_nil]; decide))) ?_
    refine WA.tp (i := 6) rfl (by kernel_rfl) (by kernel_rfl) rfl (Gp.fieldAddr rfl) ?_
    refine WA.tv (i := 7) rfl (by kernel_rfl) (by kernel_rfl) rfl (Gv.load1 rfl .here (hc1 0 _ rfl)) ?_
    (first | refine WA.tp (i := 8) rfl (by kernel_rfl) (by kernel_rfl) rfl (Gp.eqI rfl rfl) ?_ | refine WA.tp (i := 8) rfl (by kernel_rfl) (by kernel_rfl) rfl (Gp.eqS rfl rfl) ?_ | refine WA.tp (i := 8) rfl (by kernel_rfl) (by kernel_rfl) rfl (Gp.nilSl rfl) ?_ | refine WA.tp (i := 8) rfl (by kernel_rfl) (by kernel_rfl) rfl (Gp.eqB rfl rfl) ?_)
    by_cases e1 : u.t = v.t
    rotate_left
    · rw [show (u.t == v.t) = false by simpa using e1, if_neg e1]
      refine WA.one (i := 9) (by kernel_rfl) rfl (by kernel_rfl) (OW.call rfl (Hf := []) (List.Perm.refl _) (need_no _) rfl (fun v G' H' h _ => by cases h.1) (fun ch G' H' h _ => ?_) (fun G' H' h => by cases h.1))
      obtain ⟨he, rfl, rfl⟩ := h
      cases he
      refine WK.un ?_
      exact QF.panicP (⟨rfl, rfl, _, Left.of b A r.length cap p a B m cm, rfl⟩)
    rw [show (u.t == v.t) = true by simpa using e1, if_pos e1]
    refine WA.one (i := 9) (by kernel_rfl) rfl (by kernel_rfl) (OW.callR rfl (Hf := []) (List.Perm.refl _) (need_ok G) rfl (by rintro e G' H' ⟨h, _⟩; exact ⟨_, h⟩) fun v' G' H' h hg => ?_)
    obtain ⟨he, rfl, rfl⟩ := h
    cases he
    refine WA.done (by kernel_rfl) ?_
    refine WK.un ?_
    refine WC.draw mixed ?_
    refine WA.tp (i := 0) rfl (by kernel_rfl) (by kernel_rfl) rfl (Gp.move rfl) ?_
    refine WA.tp (i := 1) rfl (by kernel_rfl) (by kernel_rfl) rfl (Gp.nilCheck rfl) ?_
    refine WA.tp (i := 2) rfl (by kernel_rfl) (by kernel_rfl) rfl (Gp.fieldAddr rfl) ?_
    refine WA.tp (i := 3) rfl (by kernel_rfl) (by kernel_rfl) rfl (Gp.move rfl) ?_
    refine WA.tp (i := 4) rfl (by kernel_rfl) (by kernel_rfl) rfl (Gp.indexAddr rfl rfl (by first | assumption | omega | decide) (by first | assumption | omega | decide | (simp only [List.length_cons, List.length_nil]; decide))) ?_
    refine WA.tp (i := 6) rfl (by kernel_rfl) (by kernel_rfl) rfl (Gp.move rfl) ?_
    refine WA.tp (i := 7) rfl (by kernel_rfl) (by kernel_rfl) rfl (Gp.indexAddr rfl rfl (by first | assumption | omega | decide) (by first | assumption | omega | decide | (simp only [List.length_cons, List.length_nil]; decide))) ?_
    refine WA.tp (i := 10) rfl (by kernel_rfl) (by kernel_rfl) rfl (Gp.move rfl) ?_
    (first | refine WA.tp (i := 11) rfl (by kernel_rfl) (by kernel_rfl) rfl (Gp.eqI rfl rfl) ?_ | refine WA.tp (i := 11) rfl (by kernel_rfl) (by kernel_rfl) rfl (Gp.eqS rfl rfl) ?_ | refine WA.tp (i := 11) rfl (by kernel_rfl) (by kernel_rfl) rfl (Gp.nilSl rfl) ?_ | refine WA.tp (i := 11) rfl (by kernel_rfl) (by kernel_rfl) rfl (Gp.eqB rfl rfl) ?_)
    refine WA.tv (i := 5) rfl (by kernel_rfl) (by kernel_rfl) rfl (Gv.loadN rfl .here (two_val0 h3) rfl) ?_
    refine WA.tv (i := 8) rfl (by kernel_rfl) (by kernel_rfl) rfl (Gv.loadN rfl .here (two_val1 h3) rfl) ?_
    refine WA.tp (i := 9) rfl (by kernel_rfl) (by kernel_rfl) rfl (Gp.eqV (u := u) (v := v) rfl rfl) ?_
    refine WA.tp (i := 12) rfl (by kernel_rfl) (by kernel_rfl) rfl (Gp.eqB rfl rfl) ?_
    rw [show (decide (u = v) == ((12 : Int) == 12)) = (decide (u = v)) by cases decide (u = v) <;> rfl]
    refine WA.one (i := 13) (by kernel_rfl) rfl (by kernel_rfl) (OW.callR rfl (Hf := []) (List.Perm.refl _) (truth_fn G (decide (u = v))) rfl (by rintro e G' H' ⟨h, _⟩; exact ⟨_, h⟩) fun v' G' H' h hg => ?_)
    obtain ⟨he, rfl, rfl⟩ := h
    cases he
    refine WA.one (i := 14) (by kernel_rfl) rfl (by kernel_rfl) (OW.callK rfl (pushV_fn G b A cap p a B m cm r x (truthV (decide (u = v))) hv2 (by simp at hl; omega)) rfl fun v' G' H' h hg => ?_)
    obtain ⟨A2, cap2, x2, he, rfl, rfl, hv3⟩ := h
    cases he
    refine WA.done (by kernel_rfl) ?_
    refine WK.un ?_
    refine WC.exit ?_
    refine WK.un ?_
    exact QF.p0 (.inr rfl) rfl ⟨rfl, A2, cap2, x2, rfl, hv3, rfl⟩ (by repeat (first | exact Pk.nil | exact Pk.all | exact Pk.app | exact Pk.appR | with_reducible apply Pk.na | (apply Pk.cons; (repeat first | exact .here | apply Rem.there | apply Rem.app)) | apply Pk.skip | apply Pk.skipA))
theorem plain_ne (hv : VVec A cap l x) (hl : l.length ≤ 1000000) : Fn Tryz.prog 60 #[.pointer (some ⟨mb, 0, none⟩), .pointer (some ⟨b, 0, none⟩), .agg #[.string nm, .bool ex, qv, .int .i64 lo, .int .i64 res, cv], .int .i64 13] G
    (mcB mb c1 c2 c3 FA fn fcap en w OA out.length ocap st ed :: ox :: frB b A l.length cap p a B m cm :: x :: fx :: Hx) (PlR G mb c1 c2 c3 FA fn fcap en w OA ocap st ed out ox fx Hx RL b A cap p a B m cm x (plainR res l 13 out.length)) := by
  refine Fn.enter Tryz.func60 rfl rfl fun w0 => ?_
  rw [show plainR res l 13 out.length = onB l fun r u v => if u.t = v.t then .set (r ++ [truthV (!decide (u = v))]) else .halt 6 by simp [plainR]]
  refine WC.seq ?_
  refine WC.region ?_
  refine WL.op (by kernel_rfl) (OW.box rfl rfl fun b1 => ?_)
  refine WL.nil ?_
  refine WK.un ?_
  refine WC.seq ?_
  refine WC.region ?_
  refine WL.p (Gp.move rfl) (by kernel_rfl) rfl ?_
  refine WL.nil ?_
  refine WK.un ?_
  repeat (first | refine WC.seq ?_ | refine WC.block ?_ | (refine WC.region ?_; refine WL.p (Gp.eqI rfl rfl) (by kernel_rfl) rfl ?_; refine WL.p (Gp.assign rfl) (by kernel_rfl) rfl ?_; refine WL.nil ?_; refine WK.un ?_) | refine WC.cond_true rfl ?_ | refine WC.cond_false rfl ?_ | (refine WC.skip ?_; refine WK.un ?_) | (refine WC.exit ?_; refine WK.un ?_))
  refine WC.region ?_
  refine WL.p (Gp.move rfl) (by kernel_rfl) rfl ?_
  refine WL.p (Gp.move rfl) (by kernel_rfl) rfl ?_
  cases ht : pop2 l with
  | none =>
    have h1 := pop2_len ht
    rw [show onB l _ = .halt 6 by rw [onB, ht]]
    refine WL.op (by kernel_rfl) (OW.call rfl (Pk.perm (by repeat (first | exact Pk.nil | exact Pk.all | exact Pk.app | exact Pk.appR | with_reducible apply Pk.na | (apply Pk.cons; (repeat first | exact .here | apply Rem.there | apply Rem.app)) | apply Pk.skip | apply Pk.skipA))) (((take_no G _ b A l.length cap p a B m cm 2 (by omega)).pk (F := [x]) (.cons .here .nil)).drop fun e G' H' ⟨H2, ⟨h1, h2, h3⟩, h4⟩ => ⟨H2, by rw [h4]; exact List.sublist_append_left _ _, (⟨h1, h2, h3⟩ : e = halted 6 ∧ G = G' ∧ Left b H2)⟩) rfl (fun v' G' H' h hg => by cases h.1) (fun ch G' H' h hg => ?_) (fun G' H' h => by repeat (first | (cases h.1; done) | (cases h; done) | (obtain ⟨_, h⟩ := h) | (rcases h with h | h))))
    obtain ⟨he, rfl, c, hc, rfl⟩ := h
    cases he
    refine WK.un ?_
    exact QF.panicP ⟨rfl, rfl, _, ⟨c, hc, rfl⟩, rfl⟩
  | some rv =>
    obtain ⟨r, u, v⟩ := rv
    rw [show onB l _ = (if u.t = v.t then .set (r ++ [truthV (!decide (u = v))]) else .halt 6) by rw [onB, ht]]
    obtain rfl := pop2_some ht
    refine WL.op (by kernel_rfl) (OW.callK rfl (take2_ok G _ b A cap p a B m cm x r u v hv hl) rfl fun v' G' H' h hg => ?_)
    obtain ⟨A', cap', x', he, rfl, rfl, hv1, hv2⟩ := h
    cases he
    obtain ⟨hlv, ⟨h1, h2, h3, h4⟩ | ⟨b', c', rfl, rfl, h1, h2, h3⟩⟩ := hv1
    · simp at h2
    have hc0 : ∀ (j : Nat) (w : Value), (vcells u)[j]? = some w → c'[0 + (0 : Int).toNat * 4 + j]? = some w := fun j w hw => two_lo h3 hw
    have hc1 : ∀ (j : Nat) (w : Value), (vcells v)[j]? = some w → c'[0 + (1 : Int).toNat * 4 + j]? = some w := fun j w hw => two_hi h3 hw
    refine WL.p (Gp.assign rfl) (by kernel_rfl) rfl ?_
    refine WL.nil ?_
    refine WK.un ?_
    refine WC.seq ?_
    refine WC.draw mixed ?_
    refine WA.tp (i := 0) rfl (by kernel_rfl) (by kernel_rfl) rfl (Gp.move rfl) ?_
    refine WA.tp (i := 1) rfl (by kernel_rfl) (by kernel_rfl) rfl (Gp.indexAddr rfl rfl (by first | assumption | omega | decide) (by first | assumption | omega | decide | (simp only [List.length_cons, List.length_nil]; decide))) ?_
    refine WA.tp (i := 2) rfl (by kernel_rfl) (by kernel_rfl) rfl (Gp.fieldAddr rfl) ?_
    refine WA.tv (i := 3) rfl (by kernel_rfl) (by kernel_rfl) rfl (Gv.load1 rfl .here (hc0 0 _ rfl)) ?_
    refine WA.tp (i := 4) rfl (by kernel_rfl) (by kernel_rfl) rfl (Gp.move rfl) ?_
    refine WA.tp (i := 5) rfl (by kernel_rfl) (by kernel_rfl) rfl (Gp.indexAddr rfl rfl (by first | assumption | omega | decide) (by first | assumption | omega | decide | (simp only [List.length_cons, List.length_nil]; decide))) ?_
    refine WA.tp (i := 6) rfl (by kernel_rfl) (by kernel_rfl) rfl (Gp.fieldAddr rfl) ?_
    refine WA.tv (i := 7) rfl (by kernel_rfl) (by kernel_rfl) rfl (Gv.load1 rfl .here (hc1 0 _ rfl)) ?_
    (first | refine WA.tp (i := 8) rfl (by kernel_rfl) (by kernel_rfl) rfl (Gp.eqI rfl rfl) ?_ | refine WA.tp (i := 8) rfl (by kernel_rfl) (by kernel_rfl) rfl (Gp.eqS rfl rfl) ?_ | refine WA.tp (i := 8) rfl (by kernel_rfl) (by kernel_rfl) rfl (Gp.nilSl rfl) ?_ | refine WA.tp (i := 8) rfl (by kernel_rfl) (by kernel_rfl) rfl (Gp.eqB rfl rfl) ?_)
    by_cases e1 : u.t = v.t
    rotate_left
    · rw [show (u.t == v.t) = false by simpa using e1, if_neg e1]
      refine WA.one (i := 9) (by kernel_rfl) rfl (by kernel_rfl) (OW.call rfl (Hf := []) (List.Perm.refl _) (need_no _) rfl (fun v G' H' h _ => by cases h.1) (fun ch G' H' h _ => ?_) (fun G' H' h => by cases h.1))
      obtain ⟨he, rfl, rfl⟩ := h
      cases he
      refine WK.un ?_
      exact QF.panicP (⟨rfl, rfl, _, Left.of b A r.length cap p a B m cm, rfl⟩)
    rw [show (u.t == v.t) = true by simpa using e1, if_pos e1]
    refine WA.one (i := 9) (by kernel_rfl) rfl (by kernel_rfl) (OW.callR rfl (Hf := []) (List.Perm.refl _) (need_ok G) rfl (by rintro e G' H' ⟨h, _⟩; exact ⟨_, h⟩) fun v' G' H' h hg => ?_)
    obtain ⟨he, rfl, rfl⟩ := h
    cases he
    refine WA.done (by kernel_rfl) ?_
    refine WK.un ?_
    refine WC.draw mixed ?_
    refine WA.tp (i := 0) rfl (by kernel_rfl) (by kernel_rfl) rfl (Gp.move rfl) ?_
    refine WA.tp (i := 1) rfl (by kernel_rfl) (by kernel_rfl) rfl (Gp.nilCheck rfl) ?_
    refine WA.tp (i := 2) rfl (by kernel_rfl) (by kernel_rfl) rfl (Gp.fieldAddr rfl) ?_
    refine WA.tp (i := 3) rfl (by kernel_rfl) (by kernel_rfl) rfl (Gp.move rfl) ?_
    refine WA.tp (i := 4) rfl (by kernel_rfl) (by kernel_rfl) rfl (Gp.indexAddr rfl rfl (by first | assumption | omega | decide) (by first | assumption | omega | decide | (simp only [List.length_cons, List.length_nil]; decide))) ?_
    refine WA.tp (i := 6) rfl (by kernel_rfl) (by kernel_rfl) rfl (Gp.move rfl) ?_
    refine WA.tp (i := 7) rfl (by kernel_rfl) (by kernel_rfl) rfl (Gp.indexAddr rfl rfl (by first | assumption | omega | decide) (by first | assumption | omega | decide | (simp only [List.length_cons, List.length_nil]; decide))) ?_
    refine WA.tp (i := 10) rfl (by kernel_rfl) (by kernel_rfl) rfl (Gp.move rfl) ?_
    (first | refine WA.tp (i := 11) rfl (by kernel_rfl) (by kernel_rfl) rfl (Gp.eqI rfl rfl) ?_ | refine WA.tp (i := 11) rfl (by kernel_rfl) (by kernel_rfl) rfl (Gp.eqS rfl rfl) ?_ | refine WA.tp (i := 11) rfl (by kernel_rfl) (by kernel_rfl) rfl (Gp.nilSl rfl) ?_ | refine WA.tp (i := 11) rfl (by kernel_rfl) (by kernel_rfl) rfl (Gp.eqB rfl rfl) ?_)
    refine WA.tv (i := 5) rfl (by kernel_rfl) (by kernel_rfl) rfl (Gv.loadN rfl .here (two_val0 h3) rfl) ?_
    refine WA.tv (i := 8) rfl (by kernel_rfl) (by kernel_rfl) rfl (Gv.loadN rfl .here (two_val1 h3) rfl) ?_
    refine WA.tp (i := 9) rfl (by kernel_rfl) (by kernel_rfl) rfl (Gp.eqV (u := u) (v := v) rfl rfl) ?_
    refine WA.tp (i := 12) rfl (by kernel_rfl) (by kernel_rfl) rfl (Gp.eqB rfl rfl) ?_
    rw [show (decide (u = v) == ((13 : Int) == 12)) = (!decide (u = v)) by cases decide (u = v) <;> rfl]
    refine WA.one (i := 13) (by kernel_rfl) rfl (by kernel_rfl) (OW.callR rfl (Hf := []) (List.Perm.refl _) (truth_fn G (!decide (u = v))) rfl (by rintro e G' H' ⟨h, _⟩; exact ⟨_, h⟩) fun v' G' H' h hg => ?_)
    obtain ⟨he, rfl, rfl⟩ := h
    cases he
    refine WA.one (i := 14) (by kernel_rfl) rfl (by kernel_rfl) (OW.callK rfl (pushV_fn G b A cap p a B m cm r x (truthV (!decide (u = v))) hv2 (by simp at hl; omega)) rfl fun v' G' H' h hg => ?_)
    obtain ⟨A2, cap2, x2, he, rfl, rfl, hv3⟩ := h
    cases he
    refine WA.done (by kernel_rfl) ?_
    refine WK.un ?_
    refine WC.exit ?_
    refine WK.un ?_
    exact QF.p0 (.inr rfl) rfl ⟨rfl, A2, cap2, x2, rfl, hv3, rfl⟩ (by repeat (first | exact Pk.nil | exact Pk.all | exact Pk.app | exact Pk.appR | with_reducible apply Pk.na | (apply Pk.cons; (repeat first | exact .here | apply Rem.there | apply Rem.app)) | apply Pk.skip | apply Pk.skipA))
theorem plain_join (hv : VVec A cap l x) (hl : l.length ≤ 1000000) (hz : ∀ v ∈ l, v.s.size ≤ 400000000000) : Fn Tryz.prog 60 #[.pointer (some ⟨mb, 0, none⟩), .pointer (some ⟨b, 0, none⟩), .agg #[.string nm, .bool ex, qv, .int .i64 lo, .int .i64 res, cv], .int .i64 20] G
    (mcB mb c1 c2 c3 FA fn fcap en w OA out.length ocap st ed :: ox :: frB b A l.length cap p a B m cm :: x :: fx :: Hx) (PlR G mb c1 c2 c3 FA fn fcap en w OA ocap st ed out ox fx Hx RL b A cap p a B m cm x (plainR res l 20 out.length)) := by
  refine Fn.enter Tryz.func60 rfl rfl fun w0 => ?_
  rw [show plainR res l 20 out.length = on2 l 3 fun r u v => if 4096 < u.s.size + v.s.size then .halt 3 else .set (r ++ [textV (u.s ++ v.s)]) by simp [plainR]]
  refine WC.seq ?_
  refine WC.region ?_
  refine WL.op (by kernel_rfl) (OW.box rfl rfl fun b1 => ?_)
  refine WL.nil ?_
  refine WK.un ?_
  refine WC.seq ?_
  refine WC.region ?_
  refine WL.p (Gp.move rfl) (by kernel_rfl) rfl ?_
  refine WL.nil ?_
  refine WK.un ?_
  repeat (first | refine WC.seq ?_ | refine WC.block ?_ | (refine WC.region ?_; refine WL.p (Gp.eqI rfl rfl) (by kernel_rfl) rfl ?_; refine WL.p (Gp.assign rfl) (by kernel_rfl) rfl ?_; refine WL.nil ?_; refine WK.un ?_) | refine WC.cond_true rfl ?_ | refine WC.cond_false rfl ?_ | (refine WC.skip ?_; refine WK.un ?_) | (refine WC.exit ?_; refine WK.un ?_))
  refine WC.region ?_
  refine WL.p (Gp.move rfl) (by kernel_rfl) rfl ?_
  refine WL.p (Gp.move rfl) (by kernel_rfl) rfl ?_
  cases ht : ty2 l 3 with
  | none =>
    rw [show on2 l 3 _ = .halt 6 by rw [on2, ht]]
    refine WL.op (by kernel_rfl) (OW.call rfl (Pk.perm (by repeat (first | exact Pk.nil | exact Pk.all | exact Pk.app | exact Pk.appR | with_reducible apply Pk.na | (apply Pk.cons; (repeat first | exact .here | apply Rem.there | apply Rem.app)) | apply Pk.skip | apply Pk.skipA))) (typed2_no G _ b A cap p a B m cm x l 3 ht hv hl) rfl (fun v' G' H' h hg => by cases h.1) (fun ch G' H' h hg => ?_) (fun G' H' h => by repeat (first | (cases h.1; done) | (cases h; done) | (obtain ⟨_, h⟩ := h) | (rcases h with h | h))))
    obtain ⟨he, rfl, c, hc, rfl⟩ := h
    cases he
    refine WK.un ?_
    exact QF.panicP ⟨rfl, rfl, _, ⟨c, hc, rfl⟩, rfl⟩
  | some rv =>
    obtain ⟨r, u, v⟩ := rv
    rw [show on2 l 3 _ = (if 4096 < u.s.size + v.s.size then .halt 3 else .set (r ++ [textV (u.s ++ v.s)])) by rw [on2, ht]]
    obtain ⟨rfl, hut, hvt⟩ := ty2_some ht
    have hzu := hz u (by simp)
    have hzv := hz v (by simp)
    refine WL.op (by kernel_rfl) (OW.callK rfl (typed2_ok G _ b A cap p a B m cm x r u v 3 hut hvt hv hl) rfl fun v' G' H' h hg => ?_)
    obtain ⟨A', cap', x', he, rfl, rfl, hv1, hv2⟩ := h
    cases he
    obtain ⟨hlv, ⟨h1, h2, h3, h4⟩ | ⟨b', c', rfl, rfl, h1, h2, h3⟩⟩ := hv1
    · simp at h2
    have hc0 : ∀ (j : Nat) (w : Value), (vcells u)[j]? = some w → c'[0 + (0 : Int).toNat * 4 + j]? = some w := fun j w hw => two_lo h3 hw
    have hc1 : ∀ (j : Nat) (w : Value), (vcells v)[j]? = some w → c'[0 + (1 : Int).toNat * 4 + j]? = some w := fun j w hw => two_hi h3 hw
    refine WL.p (Gp.assign rfl) (by kernel_rfl) rfl ?_
    refine WL.nil ?_
    refine WK.un ?_
    refine WC.seq ?_
    refine WC.seq ?_
    refine WC.draw mixed ?_
    refine WA.tp (i := 0) rfl (by kernel_rfl) (by kernel_rfl) rfl (Gp.move rfl) ?_
    refine WA.tp (i := 1) rfl (by kernel_rfl) (by kernel_rfl) rfl (Gp.indexAddr rfl rfl (by first | assumption | omega | decide) (by first | assumption | omega | decide | (simp only [List.length_cons, List.length_nil]; decide))) ?_
    refine WA.tp (i := 2) rfl (by kernel_rfl) (by kernel_rfl) rfl (Gp.fieldAddr rfl) ?_
    refine WA.tv (i := 3) rfl (by kernel_rfl) (by kernel_rfl) rfl (Gv.load1 rfl .here (hc0 3 _ rfl)) ?_
    (first | refine WA.tp (i := 4) rfl (by kernel_rfl) (by kernel_rfl) rfl (Gp.lenSl rfl) ?_ | refine WA.tp (i := 4) rfl (by kernel_rfl) (by kernel_rfl) rfl (Gp.lenS rfl) ?_)
    refine WA.tp (i := 5) rfl (by kernel_rfl) (by kernel_rfl) rfl (Gp.move rfl) ?_
    refine WA.tp (i := 6) rfl (by kernel_rfl) (by kernel_rfl) rfl (Gp.indexAddr rfl rfl (by first | assumption | omega | decide) (by first | assumption | omega | decide | (simp only [List.length_cons, List.length_nil]; decide))) ?_
    refine WA.tp (i := 7) rfl (by kernel_rfl) (by kernel_rfl) rfl (Gp.fieldAddr rfl) ?_
    refine WA.tv (i := 8) rfl (by kernel_rfl) (by kernel_rfl) rfl (Gv.load1 rfl .here (hc1 3 _ rfl)) ?_
    (first | refine WA.tp (i := 9) rfl (by kernel_rfl) (by kernel_rfl) rfl (Gp.lenSl rfl) ?_ | refine WA.tp (i := 9) rfl (by kernel_rfl) (by kernel_rfl) rfl (Gp.lenS rfl) ?_)
    (first | refine WA.tp (i := 10) rfl (by kernel_rfl) (by kernel_rfl) rfl (Gp.add rfl rfl) ?_ | refine WA.tp (i := 10) rfl (by kernel_rfl) (by kernel_rfl) rfl (Gp.addS rfl rfl (by first | assumption | omega)) ?_)
    rw [show IntKind.i64.wrap ((u.s.size : Int) + (v.s.size : Int)) = ((u.s.size + v.s.size : Nat) : Int) by rw [wrap_small (by omega) (by omega)]; omega]
    (first | refine WA.tp (i := 11) rfl (by kernel_rfl) (by kernel_rfl) rfl (Gp.gtI rfl rfl) ?_ | refine WA.tp (i := 11) rfl (by kernel_rfl) (by kernel_rfl) rfl (Gp.gtS rfl rfl) ?_)
    refine WA.done (by kernel_rfl) ?_
    refine WK.un ?_
    refine WC.cond rfl (fun hc => ?_) (fun hc => ?_)
    · have h4 : 4096 < u.s.size + v.s.size := by have h := hc; simp at h; omega
      rw [if_pos h4]
      refine WC.region ?_
      refine WL.p (Gp.build rfl rfl) (by kernel_rfl) rfl ?_
      refine WL.p (Gp.mkIface rfl (by kernel_rfl)) (by kernel_rfl) rfl ?_
      refine WL.op (by kernel_rfl) (OW.panic rfl ?_)
      refine WK.un ?_
      exact QF.panicP ⟨rfl, rfl, _, Left.of b A r.length cap p a B m cm, rfl⟩ (by repeat (first | exact Pk.nil | exact Pk.all | exact Pk.app | exact Pk.appR | with_reducible apply Pk.na | (apply Pk.cons; (repeat first | exact .here | apply Rem.there | apply Rem.app)) | apply Pk.skip | apply Pk.skipA))
    · have h4 : ¬ 4096 < u.s.size + v.s.size := by have h := hc; simp at h; omega
      rw [if_neg h4]
      refine WC.skip ?_
      refine WK.un ?_
      refine WC.draw mixed ?_
      refine WA.tp (i := 0) rfl (by kernel_rfl) (by kernel_rfl) rfl (Gp.move rfl) ?_
      refine WA.tp (i := 1) rfl (by kernel_rfl) (by kernel_rfl) rfl (Gp.nilCheck rfl) ?_
      refine WA.tp (i := 2) rfl (by kernel_rfl) (by kernel_rfl) rfl (Gp.fieldAddr rfl) ?_
      refine WA.tp (i := 3) rfl (by kernel_rfl) (by kernel_rfl) rfl (Gp.move rfl) ?_
      refine WA.tp (i := 4) rfl (by kernel_rfl) (by kernel_rfl) rfl (Gp.indexAddr rfl rfl (by first | assumption | omega | decide) (by first | assumption | omega | decide | (simp only [List.length_cons, List.length_nil]; decide))) ?_
      refine WA.tp (i := 5) rfl (by kernel_rfl) (by kernel_rfl) rfl (Gp.fieldAddr rfl) ?_
      refine WA.tv (i := 6) rfl (by kernel_rfl) (by kernel_rfl) rfl (Gv.load1 rfl .here (hc0 3 _ rfl)) ?_
      refine WA.tp (i := 7) rfl (by kernel_rfl) (by kernel_rfl) rfl (Gp.move rfl) ?_
      refine WA.tp (i := 8) rfl (by kernel_rfl) (by kernel_rfl) rfl (Gp.indexAddr rfl rfl (by first | assumption | omega | decide) (by first | assumption | omega | decide | (simp only [List.length_cons, List.length_nil]; decide))) ?_
      refine WA.tp (i := 9) rfl (by kernel_rfl) (by kernel_rfl) rfl (Gp.fieldAddr rfl) ?_
      refine WA.tv (i := 10) rfl (by kernel_rfl) (by kernel_rfl) rfl (Gv.load1 rfl .here (hc1 3 _ rfl)) ?_
      refine WA.tp (i := 11) rfl (by kernel_rfl) (by kernel_rfl) rfl (Gp.addS rfl rfl (by omega)) ?_
      refine WA.tp (i := 12) rfl (by kernel_rfl) (by kernel_rfl) rfl (Gp.build rfl rfl) ?_
      refine WA.one (i := 13) (by kernel_rfl) rfl (by kernel_rfl) (OW.callK rfl (pushV_fn G b A cap p a B m cm r x (textV (u.s ++ v.s)) hv2 (by simp at hl; omega)) rfl fun v' G' H' h hg => ?_)
      obtain ⟨A2, cap2, x2, he, rfl, rfl, hv3⟩ := h
      cases he
      refine WA.done (by kernel_rfl) ?_
      refine WK.un ?_
      refine WC.exit ?_
      refine WK.un ?_
      exact QF.p0 (.inr rfl) rfl ⟨rfl, A2, cap2, x2, rfl, hv3, rfl⟩ (by repeat (first | exact Pk.nil | exact Pk.all | exact Pk.app | exact Pk.appR | with_reducible apply Pk.na | (apply Pk.cons; (repeat first | exact .here | apply Rem.there | apply Rem.app)) | apply Pk.skip | apply Pk.skipA))
theorem plain_ord14 (hv : VVec A cap l x) (hl : l.length ≤ 1000000) : Fn Tryz.prog 60 #[.pointer (some ⟨mb, 0, none⟩), .pointer (some ⟨b, 0, none⟩), .agg #[.string nm, .bool ex, qv, .int .i64 lo, .int .i64 res, cv], .int .i64 14] G
    (mcB mb c1 c2 c3 FA fn fcap en w OA out.length ocap st ed :: ox :: frB b A l.length cap p a B m cm :: x :: fx :: Hx) (PlR G mb c1 c2 c3 FA fn fcap en w OA ocap st ed out ox fx Hx RL b A cap p a B m cm x (plainR res l 14 out.length)) := by
  refine Fn.enter Tryz.func60 rfl rfl fun w0 => ?_
  rw [show plainR res l 14 out.length = onB l fun r u v => if ordOK u v then .set (r ++ [truthV (ordS 14 u v)]) else .halt 6 by simp [plainR]]
  refine WC.seq ?_
  refine WC.region ?_
  refine WL.op (by kernel_rfl) (OW.box rfl rfl fun b1 => ?_)
  refine WL.nil ?_
  refine WK.un ?_
  refine WC.seq ?_
  refine WC.region ?_
  refine WL.p (Gp.move rfl) (by kernel_rfl) rfl ?_
  refine WL.nil ?_
  refine WK.un ?_
  repeat (first | refine WC.seq ?_ | refine WC.block ?_ | (refine WC.region ?_; refine WL.p (Gp.eqI rfl rfl) (by kernel_rfl) rfl ?_; refine WL.p (Gp.assign rfl) (by kernel_rfl) rfl ?_; refine WL.nil ?_; refine WK.un ?_) | refine WC.cond_true rfl ?_ | refine WC.cond_false rfl ?_ | (refine WC.skip ?_; refine WK.un ?_) | (refine WC.exit ?_; refine WK.un ?_))
  refine WC.draw mixed ?_
  refine WA.tp (i := 0) rfl (by kernel_rfl) (by kernel_rfl) rfl (Gp.move rfl) ?_
  refine WA.tp (i := 1) rfl (by kernel_rfl) (by kernel_rfl) rfl (Gp.nilCheck rfl) ?_
  refine WA.tp (i := 2) rfl (by kernel_rfl) (by kernel_rfl) rfl (Gp.fieldAddr rfl) ?_
  refine WA.tp (i := 3) rfl (by kernel_rfl) (by kernel_rfl) rfl (Gp.move rfl) ?_
  refine WA.tp (i := 4) rfl (by kernel_rfl) (by kernel_rfl) rfl (Gp.move rfl) ?_
  refine WA.tp (i := 5) rfl (by kernel_rfl) (by kernel_rfl) rfl (Gp.move rfl) ?_
  cases ht : pop2 l with
  | none =>
    have h1 := pop2_len ht
    rw [show onB l _ = .halt 6 by rw [onB, ht]]
    refine WA.one (i := 6) (by kernel_rfl) rfl (by kernel_rfl) (OW.call rfl (Pk.perm (by repeat (first | exact Pk.nil | exact Pk.all | exact Pk.app | exact Pk.appR | with_reducible apply Pk.na | (apply Pk.cons; (repeat first | exact .here | apply Rem.there | apply Rem.app)) | apply Pk.skip | apply Pk.skipA))) (ordered_bad G _ b A cap p a B m cm x l 14 (fun r u v e => by have h5 := congrArg List.length e; simp only [List.length_append, List.length_cons, List.length_nil] at h5; omega) hv hl) rfl (fun v' G' H' h hg => by cases h.1) (fun ch G' H' h hg => ?_) (fun G' H' h => by repeat (first | (cases h.1; done) | (cases h; done) | (obtain ⟨_, h⟩ := h) | (rcases h with h | h))))
    obtain ⟨he, rfl, c, hc, rfl⟩ := h
    cases he
    refine WK.un ?_
    exact QF.panicP ⟨rfl, rfl, _, ⟨c, hc, rfl⟩, rfl⟩
  | some rv =>
    obtain ⟨r, u, v⟩ := rv
    rw [show onB l _ = (if ordOK u v then .set (r ++ [truthV (ordS 14 u v)]) else .halt 6) by rw [onB, ht]]
    obtain rfl := pop2_some ht
    by_cases hk : ordOK u v
    rotate_left
    · rw [if_neg hk]
      refine WA.one (i := 6) (by kernel_rfl) rfl (by kernel_rfl) (OW.call rfl (Pk.perm (by repeat (first | exact Pk.nil | exact Pk.all | exact Pk.app | exact Pk.appR | with_reducible apply Pk.na | (apply Pk.cons; (repeat first | exact .here | apply Rem.there | apply Rem.app)) | apply Pk.skip | apply Pk.skipA))) (ordered_bad G _ b A cap p a B m cm x (r ++ [u, v]) 14 (fun r' u' v' e => by rw [pop2_snoc] at ht; have := pop2_snoc r' u' v'; rw [← e, pop2_snoc] at this; cases this; exact hk) hv hl) rfl (fun v' G' H' h hg => by cases h.1) (fun ch G' H' h hg => ?_) (fun G' H' h => by repeat (first | (cases h.1; done) | (cases h; done) | (obtain ⟨_, h⟩ := h) | (rcases h with h | h))))
      obtain ⟨he, rfl, c, hc, rfl⟩ := h
      cases he
      refine WK.un ?_
      exact QF.panicP ⟨rfl, rfl, _, ⟨c, hc, rfl⟩, rfl⟩
    rw [if_pos hk]
    refine WA.one (i := 6) (by kernel_rfl) rfl (by kernel_rfl) (OW.callK rfl (ordered_ok G _ b A cap p a B m cm x r u v 14 hk hv hl) rfl fun v' G' H' h hg => ?_)
    obtain ⟨he, rfl, rfl, hv2⟩ := h
    cases he
    refine WA.one (i := 7) (by kernel_rfl) rfl (by kernel_rfl) (OW.callR rfl (Hf := []) (List.Perm.refl _) (truth_fn G (ordS 14 u v)) rfl (by rintro e G' H' ⟨h, _⟩; exact ⟨_, h⟩) fun v' G' H' h hg => ?_)
    obtain ⟨he, rfl, rfl⟩ := h
    cases he
    refine WA.one (i := 8) (by kernel_rfl) rfl (by kernel_rfl) (OW.callK rfl (pushV_fn G b A cap p a B m cm r x (truthV (ordS 14 u v)) hv2 (by simp at hl; omega)) rfl fun v' G' H' h hg => ?_)
    obtain ⟨A2, cap2, x2, he, rfl, rfl, hv3⟩ := h
    cases he
    refine WA.done (by kernel_rfl) ?_
    refine WK.un ?_
    refine WC.exit ?_
    refine WK.un ?_
    exact QF.p0 (.inr rfl) rfl ⟨rfl, A2, cap2, x2, rfl, hv3, rfl⟩ (by repeat (first | exact Pk.nil | exact Pk.all | exact Pk.app | exact Pk.appR | with_reducible apply Pk.na | (apply Pk.cons; (repeat first | exact .here | apply Rem.there | apply Rem.app)) | apply Pk.skip | apply Pk.skipA))
theorem plain_ord15 (hv : VVec A cap l x) (hl : l.length ≤ 1000000) : Fn Tryz.prog 60 #[.pointer (some ⟨mb, 0, none⟩), .pointer (some ⟨b, 0, none⟩), .agg #[.string nm, .bool ex, qv, .int .i64 lo, .int .i64 res, cv], .int .i64 15] G
    (mcB mb c1 c2 c3 FA fn fcap en w OA out.length ocap st ed :: ox :: frB b A l.length cap p a B m cm :: x :: fx :: Hx) (PlR G mb c1 c2 c3 FA fn fcap en w OA ocap st ed out ox fx Hx RL b A cap p a B m cm x (plainR res l 15 out.length)) := by
  refine Fn.enter Tryz.func60 rfl rfl fun w0 => ?_
  rw [show plainR res l 15 out.length = onB l fun r u v => if ordOK u v then .set (r ++ [truthV (ordS 15 u v)]) else .halt 6 by simp [plainR]]
  refine WC.seq ?_
  refine WC.region ?_
  refine WL.op (by kernel_rfl) (OW.box rfl rfl fun b1 => ?_)
  refine WL.nil ?_
  refine WK.un ?_
  refine WC.seq ?_
  refine WC.region ?_
  refine WL.p (Gp.move rfl) (by kernel_rfl) rfl ?_
  refine WL.nil ?_
  refine WK.un ?_
  repeat (first | refine WC.seq ?_ | refine WC.block ?_ | (refine WC.region ?_; refine WL.p (Gp.eqI rfl rfl) (by kernel_rfl) rfl ?_; refine WL.p (Gp.assign rfl) (by kernel_rfl) rfl ?_; refine WL.nil ?_; refine WK.un ?_) | refine WC.cond_true rfl ?_ | refine WC.cond_false rfl ?_ | (refine WC.skip ?_; refine WK.un ?_) | (refine WC.exit ?_; refine WK.un ?_))
  refine WC.draw mixed ?_
  refine WA.tp (i := 0) rfl (by kernel_rfl) (by kernel_rfl) rfl (Gp.move rfl) ?_
  refine WA.tp (i := 1) rfl (by kernel_rfl) (by kernel_rfl) rfl (Gp.nilCheck rfl) ?_
  refine WA.tp (i := 2) rfl (by kernel_rfl) (by kernel_rfl) rfl (Gp.fieldAddr rfl) ?_
  refine WA.tp (i := 3) rfl (by kernel_rfl) (by kernel_rfl) rfl (Gp.move rfl) ?_
  refine WA.tp (i := 4) rfl (by kernel_rfl) (by kernel_rfl) rfl (Gp.move rfl) ?_
  refine WA.tp (i := 5) rfl (by kernel_rfl) (by kernel_rfl) rfl (Gp.move rfl) ?_
  cases ht : pop2 l with
  | none =>
    have h1 := pop2_len ht
    rw [show onB l _ = .halt 6 by rw [onB, ht]]
    refine WA.one (i := 6) (by kernel_rfl) rfl (by kernel_rfl) (OW.call rfl (Pk.perm (by repeat (first | exact Pk.nil | exact Pk.all | exact Pk.app | exact Pk.appR | with_reducible apply Pk.na | (apply Pk.cons; (repeat first | exact .here | apply Rem.there | apply Rem.app)) | apply Pk.skip | apply Pk.skipA))) (ordered_bad G _ b A cap p a B m cm x l 15 (fun r u v e => by have h5 := congrArg List.length e; simp only [List.length_append, List.length_cons, List.length_nil] at h5; omega) hv hl) rfl (fun v' G' H' h hg => by cases h.1) (fun ch G' H' h hg => ?_) (fun G' H' h => by repeat (first | (cases h.1; done) | (cases h; done) | (obtain ⟨_, h⟩ := h) | (rcases h with h | h))))
    obtain ⟨he, rfl, c, hc, rfl⟩ := h
    cases he
    refine WK.un ?_
    exact QF.panicP ⟨rfl, rfl, _, ⟨c, hc, rfl⟩, rfl⟩
  | some rv =>
    obtain ⟨r, u, v⟩ := rv
    rw [show onB l _ = (if ordOK u v then .set (r ++ [truthV (ordS 15 u v)]) else .halt 6) by rw [onB, ht]]
    obtain rfl := pop2_some ht
    by_cases hk : ordOK u v
    rotate_left
    · rw [if_neg hk]
      refine WA.one (i := 6) (by kernel_rfl) rfl (by kernel_rfl) (OW.call rfl (Pk.perm (by repeat (first | exact Pk.nil | exact Pk.all | exact Pk.app | exact Pk.appR | with_reducible apply Pk.na | (apply Pk.cons; (repeat first | exact .here | apply Rem.there | apply Rem.app)) | apply Pk.skip | apply Pk.skipA))) (ordered_bad G _ b A cap p a B m cm x (r ++ [u, v]) 15 (fun r' u' v' e => by rw [pop2_snoc] at ht; have := pop2_snoc r' u' v'; rw [← e, pop2_snoc] at this; cases this; exact hk) hv hl) rfl (fun v' G' H' h hg => by cases h.1) (fun ch G' H' h hg => ?_) (fun G' H' h => by repeat (first | (cases h.1; done) | (cases h; done) | (obtain ⟨_, h⟩ := h) | (rcases h with h | h))))
      obtain ⟨he, rfl, c, hc, rfl⟩ := h
      cases he
      refine WK.un ?_
      exact QF.panicP ⟨rfl, rfl, _, ⟨c, hc, rfl⟩, rfl⟩
    rw [if_pos hk]
    refine WA.one (i := 6) (by kernel_rfl) rfl (by kernel_rfl) (OW.callK rfl (ordered_ok G _ b A cap p a B m cm x r u v 15 hk hv hl) rfl fun v' G' H' h hg => ?_)
    obtain ⟨he, rfl, rfl, hv2⟩ := h
    cases he
    refine WA.one (i := 7) (by kernel_rfl) rfl (by kernel_rfl) (OW.callR rfl (Hf := []) (List.Perm.refl _) (truth_fn G (ordS 15 u v)) rfl (by rintro e G' H' ⟨h, _⟩; exact ⟨_, h⟩) fun v' G' H' h hg => ?_)
    obtain ⟨he, rfl, rfl⟩ := h
    cases he
    refine WA.one (i := 8) (by kernel_rfl) rfl (by kernel_rfl) (OW.callK rfl (pushV_fn G b A cap p a B m cm r x (truthV (ordS 15 u v)) hv2 (by simp at hl; omega)) rfl fun v' G' H' h hg => ?_)
    obtain ⟨A2, cap2, x2, he, rfl, rfl, hv3⟩ := h
    cases he
    refine WA.done (by kernel_rfl) ?_
    refine WK.un ?_
    refine WC.exit ?_
    refine WK.un ?_
    exact QF.p0 (.inr rfl) rfl ⟨rfl, A2, cap2, x2, rfl, hv3, rfl⟩ (by repeat (first | exact Pk.nil | exact Pk.all | exact Pk.app | exact Pk.appR | with_reducible apply Pk.na | (apply Pk.cons; (repeat first | exact .here | apply Rem.there | apply Rem.app)) | apply Pk.skip | apply Pk.skipA))
theorem plain_ord16 (hv : VVec A cap l x) (hl : l.length ≤ 1000000) : Fn Tryz.prog 60 #[.pointer (some ⟨mb, 0, none⟩), .pointer (some ⟨b, 0, none⟩), .agg #[.string nm, .bool ex, qv, .int .i64 lo, .int .i64 res, cv], .int .i64 16] G
    (mcB mb c1 c2 c3 FA fn fcap en w OA out.length ocap st ed :: ox :: frB b A l.length cap p a B m cm :: x :: fx :: Hx) (PlR G mb c1 c2 c3 FA fn fcap en w OA ocap st ed out ox fx Hx RL b A cap p a B m cm x (plainR res l 16 out.length)) := by
  refine Fn.enter Tryz.func60 rfl rfl fun w0 => ?_
  rw [show plainR res l 16 out.length = onB l fun r u v => if ordOK u v then .set (r ++ [truthV (ordS 16 u v)]) else .halt 6 by simp [plainR]]
  refine WC.seq ?_
  refine WC.region ?_
  refine WL.op (by kernel_rfl) (OW.box rfl rfl fun b1 => ?_)
  refine WL.nil ?_
  refine WK.un ?_
  refine WC.seq ?_
  refine WC.region ?_
  refine WL.p (Gp.move rfl) (by kernel_rfl) rfl ?_
  refine WL.nil ?_
  refine WK.un ?_
  repeat (first | refine WC.seq ?_ | refine WC.block ?_ | (refine WC.region ?_; refine WL.p (Gp.eqI rfl rfl) (by kernel_rfl) rfl ?_; refine WL.p (Gp.assign rfl) (by kernel_rfl) rfl ?_; refine WL.nil ?_; refine WK.un ?_) | refine WC.cond_true rfl ?_ | refine WC.cond_false rfl ?_ | (refine WC.skip ?_; refine WK.un ?_) | (refine WC.exit ?_; refine WK.un ?_))
  refine WC.draw mixed ?_
  refine WA.tp (i := 0) rfl (by kernel_rfl) (by kernel_rfl) rfl (Gp.move rfl) ?_
  refine WA.tp (i := 1) rfl (by kernel_rfl) (by kernel_rfl) rfl (Gp.nilCheck rfl) ?_
  refine WA.tp (i := 2) rfl (by kernel_rfl) (by kernel_rfl) rfl (Gp.fieldAddr rfl) ?_
  refine WA.tp (i := 3) rfl (by kernel_rfl) (by kernel_rfl) rfl (Gp.move rfl) ?_
  refine WA.tp (i := 4) rfl (by kernel_rfl) (by kernel_rfl) rfl (Gp.move rfl) ?_
  refine WA.tp (i := 5) rfl (by kernel_rfl) (by kernel_rfl) rfl (Gp.move rfl) ?_
  cases ht : pop2 l with
  | none =>
    have h1 := pop2_len ht
    rw [show onB l _ = .halt 6 by rw [onB, ht]]
    refine WA.one (i := 6) (by kernel_rfl) rfl (by kernel_rfl) (OW.call rfl (Pk.perm (by repeat (first | exact Pk.nil | exact Pk.all | exact Pk.app | exact Pk.appR | with_reducible apply Pk.na | (apply Pk.cons; (repeat first | exact .here | apply Rem.there | apply Rem.app)) | apply Pk.skip | apply Pk.skipA))) (ordered_bad G _ b A cap p a B m cm x l 16 (fun r u v e => by have h5 := congrArg List.length e; simp only [List.length_append, List.length_cons, List.length_nil] at h5; omega) hv hl) rfl (fun v' G' H' h hg => by cases h.1) (fun ch G' H' h hg => ?_) (fun G' H' h => by repeat (first | (cases h.1; done) | (cases h; done) | (obtain ⟨_, h⟩ := h) | (rcases h with h | h))))
    obtain ⟨he, rfl, c, hc, rfl⟩ := h
    cases he
    refine WK.un ?_
    exact QF.panicP ⟨rfl, rfl, _, ⟨c, hc, rfl⟩, rfl⟩
  | some rv =>
    obtain ⟨r, u, v⟩ := rv
    rw [show onB l _ = (if ordOK u v then .set (r ++ [truthV (ordS 16 u v)]) else .halt 6) by rw [onB, ht]]
    obtain rfl := pop2_some ht
    by_cases hk : ordOK u v
    rotate_left
    · rw [if_neg hk]
      refine WA.one (i := 6) (by kernel_rfl) rfl (by kernel_rfl) (OW.call rfl (Pk.perm (by repeat (first | exact Pk.nil | exact Pk.all | exact Pk.app | exact Pk.appR | with_reducible apply Pk.na | (apply Pk.cons; (repeat first | exact .here | apply Rem.there | apply Rem.app)) | apply Pk.skip | apply Pk.skipA))) (ordered_bad G _ b A cap p a B m cm x (r ++ [u, v]) 16 (fun r' u' v' e => by rw [pop2_snoc] at ht; have := pop2_snoc r' u' v'; rw [← e, pop2_snoc] at this; cases this; exact hk) hv hl) rfl (fun v' G' H' h hg => by cases h.1) (fun ch G' H' h hg => ?_) (fun G' H' h => by repeat (first | (cases h.1; done) | (cases h; done) | (obtain ⟨_, h⟩ := h) | (rcases h with h | h))))
      obtain ⟨he, rfl, c, hc, rfl⟩ := h
      cases he
      refine WK.un ?_
      exact QF.panicP ⟨rfl, rfl, _, ⟨c, hc, rfl⟩, rfl⟩
    rw [if_pos hk]
    refine WA.one (i := 6) (by kernel_rfl) rfl (by kernel_rfl) (OW.callK rfl (ordered_ok G _ b A cap p a B m cm x r u v 16 hk hv hl) rfl fun v' G' H' h hg => ?_)
    obtain ⟨he, rfl, rfl, hv2⟩ := h
    cases he
    refine WA.one (i := 7) (by kernel_rfl) rfl (by kernel_rfl) (OW.callR rfl (Hf := []) (List.Perm.refl _) (truth_fn G (ordS 16 u v)) rfl (by rintro e G' H' ⟨h, _⟩; exact ⟨_, h⟩) fun v' G' H' h hg => ?_)
    obtain ⟨he, rfl, rfl⟩ := h
    cases he
    refine WA.one (i := 8) (by kernel_rfl) rfl (by kernel_rfl) (OW.callK rfl (pushV_fn G b A cap p a B m cm r x (truthV (ordS 16 u v)) hv2 (by simp at hl; omega)) rfl fun v' G' H' h hg => ?_)
    obtain ⟨A2, cap2, x2, he, rfl, rfl, hv3⟩ := h
    cases he
    refine WA.done (by kernel_rfl) ?_
    refine WK.un ?_
    refine WC.exit ?_
    refine WK.un ?_
    exact QF.p0 (.inr rfl) rfl ⟨rfl, A2, cap2, x2, rfl, hv3, rfl⟩ (by repeat (first | exact Pk.nil | exact Pk.all | exact Pk.app | exact Pk.appR | with_reducible apply Pk.na | (apply Pk.cons; (repeat first | exact .here | apply Rem.there | apply Rem.app)) | apply Pk.skip | apply Pk.skipA))
theorem plain_ord17 (hv : VVec A cap l x) (hl : l.length ≤ 1000000) : Fn Tryz.prog 60 #[.pointer (some ⟨mb, 0, none⟩), .pointer (some ⟨b, 0, none⟩), .agg #[.string nm, .bool ex, qv, .int .i64 lo, .int .i64 res, cv], .int .i64 17] G
    (mcB mb c1 c2 c3 FA fn fcap en w OA out.length ocap st ed :: ox :: frB b A l.length cap p a B m cm :: x :: fx :: Hx) (PlR G mb c1 c2 c3 FA fn fcap en w OA ocap st ed out ox fx Hx RL b A cap p a B m cm x (plainR res l 17 out.length)) := by
  refine Fn.enter Tryz.func60 rfl rfl fun w0 => ?_
  rw [show plainR res l 17 out.length = onB l fun r u v => if ordOK u v then .set (r ++ [truthV (ordS 17 u v)]) else .halt 6 by simp [plainR]]
  refine WC.seq ?_
  refine WC.region ?_
  refine WL.op (by kernel_rfl) (OW.box rfl rfl fun b1 => ?_)
  refine WL.nil ?_
  refine WK.un ?_
  refine WC.seq ?_
  refine WC.region ?_
  refine WL.p (Gp.move rfl) (by kernel_rfl) rfl ?_
  refine WL.nil ?_
  refine WK.un ?_
  repeat (first | refine WC.seq ?_ | refine WC.block ?_ | (refine WC.region ?_; refine WL.p (Gp.eqI rfl rfl) (by kernel_rfl) rfl ?_; refine WL.p (Gp.assign rfl) (by kernel_rfl) rfl ?_; refine WL.nil ?_; refine WK.un ?_) | refine WC.cond_true rfl ?_ | refine WC.cond_false rfl ?_ | (refine WC.skip ?_; refine WK.un ?_) | (refine WC.exit ?_; refine WK.un ?_))
  refine WC.draw mixed ?_
  refine WA.tp (i := 0) rfl (by kernel_rfl) (by kernel_rfl) rfl (Gp.move rfl) ?_
  refine WA.tp (i := 1) rfl (by kernel_rfl) (by kernel_rfl) rfl (Gp.nilCheck rfl) ?_
  refine WA.tp (i := 2) rfl (by kernel_rfl) (by kernel_rfl) rfl (Gp.fieldAddr rfl) ?_
  refine WA.tp (i := 3) rfl (by kernel_rfl) (by kernel_rfl) rfl (Gp.move rfl) ?_
  refine WA.tp (i := 4) rfl (by kernel_rfl) (by kernel_rfl) rfl (Gp.move rfl) ?_
  refine WA.tp (i := 5) rfl (by kernel_rfl) (by kernel_rfl) rfl (Gp.move rfl) ?_
  cases ht : pop2 l with
  | none =>
    have h1 := pop2_len ht
    rw [show onB l _ = .halt 6 by rw [onB, ht]]
    refine WA.one (i := 6) (by kernel_rfl) rfl (by kernel_rfl) (OW.call rfl (Pk.perm (by repeat (first | exact Pk.nil | exact Pk.all | exact Pk.app | exact Pk.appR | with_reducible apply Pk.na | (apply Pk.cons; (repeat first | exact .here | apply Rem.there | apply Rem.app)) | apply Pk.skip | apply Pk.skipA))) (ordered_bad G _ b A cap p a B m cm x l 17 (fun r u v e => by have h5 := congrArg List.length e; simp only [List.length_append, List.length_cons, List.length_nil] at h5; omega) hv hl) rfl (fun v' G' H' h hg => by cases h.1) (fun ch G' H' h hg => ?_) (fun G' H' h => by repeat (first | (cases h.1; done) | (cases h; done) | (obtain ⟨_, h⟩ := h) | (rcases h with h | h))))
    obtain ⟨he, rfl, c, hc, rfl⟩ := h
    cases he
    refine WK.un ?_
    exact QF.panicP ⟨rfl, rfl, _, ⟨c, hc, rfl⟩, rfl⟩
  | some rv =>
    obtain ⟨r, u, v⟩ := rv
    rw [show onB l _ = (if ordOK u v then .set (r ++ [truthV (ordS 17 u v)]) else .halt 6) by rw [onB, ht]]
    obtain rfl := pop2_some ht
    by_cases hk : ordOK u v
    rotate_left
    · rw [if_neg hk]
      refine WA.one (i := 6) (by kernel_rfl) rfl (by kernel_rfl) (OW.call rfl (Pk.perm (by repeat (first | exact Pk.nil | exact Pk.all | exact Pk.app | exact Pk.appR | with_reducible apply Pk.na | (apply Pk.cons; (repeat first | exact .here | apply Rem.there | apply Rem.app)) | apply Pk.skip | apply Pk.skipA))) (ordered_bad G _ b A cap p a B m cm x (r ++ [u, v]) 17 (fun r' u' v' e => by rw [pop2_snoc] at ht; have := pop2_snoc r' u' v'; rw [← e, pop2_snoc] at this; cases this; exact hk) hv hl) rfl (fun v' G' H' h hg => by cases h.1) (fun ch G' H' h hg => ?_) (fun G' H' h => by repeat (first | (cases h.1; done) | (cases h; done) | (obtain ⟨_, h⟩ := h) | (rcases h with h | h))))
      obtain ⟨he, rfl, c, hc, rfl⟩ := h
      cases he
      refine WK.un ?_
      exact QF.panicP ⟨rfl, rfl, _, ⟨c, hc, rfl⟩, rfl⟩
    rw [if_pos hk]
    refine WA.one (i := 6) (by kernel_rfl) rfl (by kernel_rfl) (OW.callK rfl (ordered_ok G _ b A cap p a B m cm x r u v 17 hk hv hl) rfl fun v' G' H' h hg => ?_)
    obtain ⟨he, rfl, rfl, hv2⟩ := h
    cases he
    refine WA.one (i := 7) (by kernel_rfl) rfl (by kernel_rfl) (OW.callR rfl (Hf := []) (List.Perm.refl _) (truth_fn G (ordS 17 u v)) rfl (by rintro e G' H' ⟨h, _⟩; exact ⟨_, h⟩) fun v' G' H' h hg => ?_)
    obtain ⟨he, rfl, rfl⟩ := h
    cases he
    refine WA.one (i := 8) (by kernel_rfl) rfl (by kernel_rfl) (OW.callK rfl (pushV_fn G b A cap p a B m cm r x (truthV (ordS 17 u v)) hv2 (by simp at hl; omega)) rfl fun v' G' H' h hg => ?_)
    obtain ⟨A2, cap2, x2, he, rfl, rfl, hv3⟩ := h
    cases he
    refine WA.done (by kernel_rfl) ?_
    refine WK.un ?_
    refine WC.exit ?_
    refine WK.un ?_
    exact QF.p0 (.inr rfl) rfl ⟨rfl, A2, cap2, x2, rfl, hv3, rfl⟩ (by repeat (first | exact Pk.nil | exact Pk.all | exact Pk.app | exact Pk.appR | with_reducible apply Pk.na | (apply Pk.cons; (repeat first | exact .here | apply Rem.there | apply Rem.app)) | apply Pk.skip | apply Pk.skipA))
theorem plain_rec18 (hv : VVec A cap l x) (hl : l.length ≤ 1000000) : Fn Tryz.prog 60 #[.pointer (some ⟨mb, 0, none⟩), .pointer (some ⟨b, 0, none⟩), .agg #[.string nm, .bool ex, qv, .int .i64 lo, .int .i64 res, cv], .int .i64 18] G
    (mcB mb c1 c2 c3 FA fn fcap en w OA out.length ocap st ed :: ox :: frB b A l.length cap p a B m cm :: x :: fx :: Hx) (PlR G mb c1 c2 c3 FA fn fcap en w OA ocap st ed out ox fx Hx RL b A cap p a B m cm x (plainR res l 18 out.length)) := by
  refine Fn.enter Tryz.func60 rfl rfl fun w0 => ?_
  rw [show plainR res l 18 out.length = on2 l 1 (recR 18) by simp [plainR]]
  refine WC.seq ?_
  refine WC.region ?_
  refine WL.op (by kernel_rfl) (OW.box rfl rfl fun b1 => ?_)
  refine WL.nil ?_
  refine WK.un ?_
  refine WC.seq ?_
  refine WC.region ?_
  refine WL.p (Gp.move rfl) (by kernel_rfl) rfl ?_
  refine WL.nil ?_
  refine WK.un ?_
  repeat (first | refine WC.seq ?_ | refine WC.block ?_ | (refine WC.region ?_; refine WL.p (Gp.eqI rfl rfl) (by kernel_rfl) rfl ?_; refine WL.p (Gp.assign rfl) (by kernel_rfl) rfl ?_; refine WL.nil ?_; refine WK.un ?_) | refine WC.cond_true rfl ?_ | refine WC.cond_false rfl ?_ | (refine WC.skip ?_; refine WK.un ?_) | (refine WC.exit ?_; refine WK.un ?_))
  refine WC.region ?_
  refine WL.p (Gp.move rfl) (by kernel_rfl) rfl ?_
  refine WL.p (Gp.move rfl) (by kernel_rfl) rfl ?_
  cases ht : ty2 l 1 with
  | none =>
    rw [show on2 l 1 _ = .halt 6 by rw [on2, ht]]
    refine WL.op (by kernel_rfl) (OW.call rfl (Pk.perm (by repeat (first | exact Pk.nil | exact Pk.all | exact Pk.app | exact Pk.appR | with_reducible apply Pk.na | (apply Pk.cons; (repeat first | exact .here | apply Rem.there | apply Rem.app)) | apply Pk.skip | apply Pk.skipA))) (typed2_no G _ b A cap p a B m cm x l 1 ht hv hl) rfl (fun v' G' H' h hg => by cases h.1) (fun ch G' H' h hg => ?_) (fun G' H' h => by repeat (first | (cases h.1; done) | (cases h; done) | (obtain ⟨_, h⟩ := h) | (rcases h with h | h))))
    obtain ⟨he, rfl, c, hc, rfl⟩ := h
    cases he
    refine WK.un ?_
    exact QF.panicP ⟨rfl, rfl, _, ⟨c, hc, rfl⟩, rfl⟩
  | some rv =>
    obtain ⟨r, u, v⟩ := rv
    rw [show on2 l 1 _ = recR 18 r u v by rw [on2, ht]]
    obtain ⟨rfl, hut, hvt⟩ := ty2_some ht
    refine WL.op (by kernel_rfl) (OW.callK rfl (typed2_ok G _ b A cap p a B m cm x r u v 1 hut hvt hv hl) rfl fun v' G' H' h hg => ?_)
    obtain ⟨A', cap', x', he, rfl, rfl, hv1, hv2⟩ := h
    cases he
    obtain ⟨hlv, ⟨h1, h2, h3, h4⟩ | ⟨b', c', rfl, rfl, h1, h2, h3⟩⟩ := hv1
    · simp at h2
    have hc0 : ∀ (j : Nat) (w : Value), (vcells u)[j]? = some w → c'[0 + (0 : Int).toNat * 4 + j]? = some w := fun j w hw => two_lo h3 hw
    have hc1 : ∀ (j : Nat) (w : Value), (vcells v)[j]? = some w → c'[0 + (1 : Int).toNat * 4 + j]? = some w := fun j w hw => two_hi h3 hw
    refine WL.p (Gp.assign rfl) (by kernel_rfl) rfl ?_
    refine WL.nil ?_
    refine WK.un ?_
    refine WC.draw mixed ?_
    refine WA.tp (i := 0) rfl (by kernel_rfl) (by kernel_rfl) rfl (Gp.move rfl) ?_
    refine WA.tp (i := 1) rfl (by kernel_rfl) (by kernel_rfl) rfl (Gp.nilCheck rfl) ?_
    refine WA.tp (i := 2) rfl (by kernel_rfl) (by kernel_rfl) rfl (Gp.fieldAddr rfl) ?_
    refine WA.tp (i := 3) rfl (by kernel_rfl) (by kernel_rfl) rfl (Gp.move rfl) ?_
    refine WA.tp (i := 4) rfl (by kernel_rfl) (by kernel_rfl) rfl (Gp.move rfl) ?_
    refine WA.tp (i := 5) rfl (by kernel_rfl) (by kernel_rfl) rfl (Gp.indexAddr rfl rfl (by first | assumption | omega | decide) (by first | assumption | omega | decide | (simp only [List.length_cons, List.length_nil]; decide))) ?_
    refine WA.tp (i := 6) rfl (by kernel_rfl) (by kernel_rfl) rfl (Gp.fieldAddr rfl) ?_
    refine WA.tv (i := 7) rfl (by kernel_rfl) (by kernel_rfl) rfl (Gv.load1 rfl .here (hc0 1 _ rfl)) ?_
    refine WA.tp (i := 8) rfl (by kernel_rfl) (by kernel_rfl) rfl (Gp.move rfl) ?_
    refine WA.tp (i := 9) rfl (by kernel_rfl) (by kernel_rfl) rfl (Gp.indexAddr rfl rfl (by first | assumption | omega | decide) (by first | assumption | omega | decide | (simp only [List.length_cons, List.length_nil]; decide))) ?_
    refine WA.tp (i := 10) rfl (by kernel_rfl) (by kernel_rfl) rfl (Gp.fieldAddr rfl) ?_
    refine WA.tv (i := 11) rfl (by kernel_rfl) (by kernel_rfl) rfl (Gv.load1 rfl .here (hc1 1 _ rfl)) ?_
    cases hq : reckonS 18 u.i v.i with
    | none =>
      rw [show recR 18 r u v = .halt 2 by rw [recR, hq]]
      refine WA.one (i := 12) (by kernel_rfl) rfl (by kernel_rfl) (OW.call rfl (Hf := []) (List.Perm.refl _) ((reckon_fn G 18 u.i v.i).mono fun e G' H' h => (by rw [hq] at h; exact h : e = halted 2 ∧ G = G' ∧ H' = [])) rfl (fun v G' H' h _ => by cases h.1) (fun ch G' H' h _ => ?_) (fun G' H' h => by cases h.1))
      obtain ⟨he, rfl, rfl⟩ := h
      cases he
      refine WK.un ?_
      exact QF.panicP ⟨rfl, rfl, _, Left.of b A r.length cap p a B m cm, rfl⟩ (by repeat (first | exact Pk.nil | exact Pk.all | exact Pk.app | exact Pk.appR | with_reducible apply Pk.na | (apply Pk.cons; (repeat first | exact .here | apply Rem.there | apply Rem.app)) | apply Pk.skip | apply Pk.skipA))
    | some n =>
      rw [show recR 18 r u v = .set (r ++ [numV n]) by rw [recR, hq]]
      refine WA.one (i := 12) (by kernel_rfl) rfl (by kernel_rfl) (OW.callR rfl (Hf := []) (List.Perm.refl _) ((reckon_fn G 18 u.i v.i).mono fun e G' H' h => (by rw [hq] at h; exact h : e = .returned (.int .i64 n) ∧ G = G' ∧ H' = [])) rfl (by rintro e G' H' ⟨h, _⟩; exact ⟨_, h⟩) fun v' G' H' h hg => ?_)
      obtain ⟨he, rfl, rfl⟩ := h
      cases he
      refine WA.one (i := 13) (by kernel_rfl) rfl (by kernel_rfl) (OW.callR rfl (Hf := []) (List.Perm.refl _) (number_fnQ G n) rfl (by rintro e G' H' ⟨h, _⟩; exact ⟨_, h⟩) fun v' G' H' h hg => ?_)
      obtain ⟨he, rfl, rfl⟩ := h
      cases he
      refine WA.one (i := 14) (by kernel_rfl) rfl (by kernel_rfl) (OW.callK rfl (pushV_fn G b A cap p a B m cm r x (numV n) hv2 (by simp at hl; omega)) rfl fun v' G' H' h hg => ?_)
      obtain ⟨A2, cap2, x2, he, rfl, rfl, hv3⟩ := h
      cases he
      refine WA.done (by kernel_rfl) ?_
      refine WK.un ?_
      refine WC.exit ?_
      refine WK.un ?_
      exact QF.p0 (.inr rfl) rfl ⟨rfl, A2, cap2, x2, rfl, hv3, rfl⟩ (by repeat (first | exact Pk.nil | exact Pk.all | exact Pk.app | exact Pk.appR | with_reducible apply Pk.na | (apply Pk.cons; (repeat first | exact .here | apply Rem.there | apply Rem.app)) | apply Pk.skip | apply Pk.skipA))
theorem plain_rec19 (hv : VVec A cap l x) (hl : l.length ≤ 1000000) : Fn Tryz.prog 60 #[.pointer (some ⟨mb, 0, none⟩), .pointer (some ⟨b, 0, none⟩), .agg #[.string nm, .bool ex, qv, .int .i64 lo, .int .i64 res, cv], .int .i64 19] G
    (mcB mb c1 c2 c3 FA fn fcap en w OA out.length ocap st ed :: ox :: frB b A l.length cap p a B m cm :: x :: fx :: Hx) (PlR G mb c1 c2 c3 FA fn fcap en w OA ocap st ed out ox fx Hx RL b A cap p a B m cm x (plainR res l 19 out.length)) := by
  refine Fn.enter Tryz.func60 rfl rfl fun w0 => ?_
  rw [show plainR res l 19 out.length = on2 l 1 (recR 19) by simp [plainR]]
  refine WC.seq ?_
  refine WC.region ?_
  refine WL.op (by kernel_rfl) (OW.box rfl rfl fun b1 => ?_)
  refine WL.nil ?_
  refine WK.un ?_
  refine WC.seq ?_
  refine WC.region ?_
  refine WL.p (Gp.move rfl) (by kernel_rfl) rfl ?_
  refine WL.nil ?_
  refine WK.un ?_
  repeat (first | refine WC.seq ?_ | refine WC.block ?_ | (refine WC.region ?_; refine WL.p (Gp.eqI rfl rfl) (by kernel_rfl) rfl ?_; refine WL.p (Gp.assign rfl) (by kernel_rfl) rfl ?_; refine WL.nil ?_; refine WK.un ?_) | refine WC.cond_true rfl ?_ | refine WC.cond_false rfl ?_ | (refine WC.skip ?_; refine WK.un ?_) | (refine WC.exit ?_; refine WK.un ?_))
  refine WC.region ?_
  refine WL.p (Gp.move rfl) (by kernel_rfl) rfl ?_
  refine WL.p (Gp.move rfl) (by kernel_rfl) rfl ?_
  cases ht : ty2 l 1 with
  | none =>
    rw [show on2 l 1 _ = .halt 6 by rw [on2, ht]]
    refine WL.op (by kernel_rfl) (OW.call rfl (Pk.perm (by repeat (first | exact Pk.nil | exact Pk.all | exact Pk.app | exact Pk.appR | with_reducible apply Pk.na | (apply Pk.cons; (repeat first | exact .here | apply Rem.there | apply Rem.app)) | apply Pk.skip | apply Pk.skipA))) (typed2_no G _ b A cap p a B m cm x l 1 ht hv hl) rfl (fun v' G' H' h hg => by cases h.1) (fun ch G' H' h hg => ?_) (fun G' H' h => by repeat (first | (cases h.1; done) | (cases h; done) | (obtain ⟨_, h⟩ := h) | (rcases h with h | h))))
    obtain ⟨he, rfl, c, hc, rfl⟩ := h
    cases he
    refine WK.un ?_
    exact QF.panicP ⟨rfl, rfl, _, ⟨c, hc, rfl⟩, rfl⟩
  | some rv =>
    obtain ⟨r, u, v⟩ := rv
    rw [show on2 l 1 _ = recR 19 r u v by rw [on2, ht]]
    obtain ⟨rfl, hut, hvt⟩ := ty2_some ht
    refine WL.op (by kernel_rfl) (OW.callK rfl (typed2_ok G _ b A cap p a B m cm x r u v 1 hut hvt hv hl) rfl fun v' G' H' h hg => ?_)
    obtain ⟨A', cap', x', he, rfl, rfl, hv1, hv2⟩ := h
    cases he
    obtain ⟨hlv, ⟨h1, h2, h3, h4⟩ | ⟨b', c', rfl, rfl, h1, h2, h3⟩⟩ := hv1
    · simp at h2
    have hc0 : ∀ (j : Nat) (w : Value), (vcells u)[j]? = some w → c'[0 + (0 : Int).toNat * 4 + j]? = some w := fun j w hw => two_lo h3 hw
    have hc1 : ∀ (j : Nat) (w : Value), (vcells v)[j]? = some w → c'[0 + (1 : Int).toNat * 4 + j]? = some w := fun j w hw => two_hi h3 hw
    refine WL.p (Gp.assign rfl) (by kernel_rfl) rfl ?_
    refine WL.nil ?_
    refine WK.un ?_
    refine WC.draw mixed ?_
    refine WA.tp (i := 0) rfl (by kernel_rfl) (by kernel_rfl) rfl (Gp.move rfl) ?_
    refine WA.tp (i := 1) rfl (by kernel_rfl) (by kernel_rfl) rfl (Gp.nilCheck rfl) ?_
    refine WA.tp (i := 2) rfl (by kernel_rfl) (by kernel_rfl) rfl (Gp.fieldAddr rfl) ?_
    refine WA.tp (i := 3) rfl (by kernel_rfl) (by kernel_rfl) rfl (Gp.move rfl) ?_
    refine WA.tp (i := 4) rfl (by kernel_rfl) (by kernel_rfl) rfl (Gp.move rfl) ?_
    refine WA.tp (i := 5) rfl (by kernel_rfl) (by kernel_rfl) rfl (Gp.indexAddr rfl rfl (by first | assumption | omega | decide) (by first | assumption | omega | decide | (simp only [List.length_cons, List.length_nil]; decide))) ?_
    refine WA.tp (i := 6) rfl (by kernel_rfl) (by kernel_rfl) rfl (Gp.fieldAddr rfl) ?_
    refine WA.tv (i := 7) rfl (by kernel_rfl) (by kernel_rfl) rfl (Gv.load1 rfl .here (hc0 1 _ rfl)) ?_
    refine WA.tp (i := 8) rfl (by kernel_rfl) (by kernel_rfl) rfl (Gp.move rfl) ?_
    refine WA.tp (i := 9) rfl (by kernel_rfl) (by kernel_rfl) rfl (Gp.indexAddr rfl rfl (by first | assumption | omega | decide) (by first | assumption | omega | decide | (simp only [List.length_cons, List.length_nil]; decide))) ?_
    refine WA.tp (i := 10) rfl (by kernel_rfl) (by kernel_rfl) rfl (Gp.fieldAddr rfl) ?_
    refine WA.tv (i := 11) rfl (by kernel_rfl) (by kernel_rfl) rfl (Gv.load1 rfl .here (hc1 1 _ rfl)) ?_
    cases hq : reckonS 19 u.i v.i with
    | none =>
      rw [show recR 19 r u v = .halt 2 by rw [recR, hq]]
      refine WA.one (i := 12) (by kernel_rfl) rfl (by kernel_rfl) (OW.call rfl (Hf := []) (List.Perm.refl _) ((reckon_fn G 19 u.i v.i).mono fun e G' H' h => (by rw [hq] at h; exact h : e = halted 2 ∧ G = G' ∧ H' = [])) rfl (fun v G' H' h _ => by cases h.1) (fun ch G' H' h _ => ?_) (fun G' H' h => by cases h.1))
      obtain ⟨he, rfl, rfl⟩ := h
      cases he
      refine WK.un ?_
      exact QF.panicP ⟨rfl, rfl, _, Left.of b A r.length cap p a B m cm, rfl⟩ (by repeat (first | exact Pk.nil | exact Pk.all | exact Pk.app | exact Pk.appR | with_reducible apply Pk.na | (apply Pk.cons; (repeat first | exact .here | apply Rem.there | apply Rem.app)) | apply Pk.skip | apply Pk.skipA))
    | some n =>
      rw [show recR 19 r u v = .set (r ++ [numV n]) by rw [recR, hq]]
      refine WA.one (i := 12) (by kernel_rfl) rfl (by kernel_rfl) (OW.callR rfl (Hf := []) (List.Perm.refl _) ((reckon_fn G 19 u.i v.i).mono fun e G' H' h => (by rw [hq] at h; exact h : e = .returned (.int .i64 n) ∧ G = G' ∧ H' = [])) rfl (by rintro e G' H' ⟨h, _⟩; exact ⟨_, h⟩) fun v' G' H' h hg => ?_)
      obtain ⟨he, rfl, rfl⟩ := h
      cases he
      refine WA.one (i := 13) (by kernel_rfl) rfl (by kernel_rfl) (OW.callR rfl (Hf := []) (List.Perm.refl _) (number_fnQ G n) rfl (by rintro e G' H' ⟨h, _⟩; exact ⟨_, h⟩) fun v' G' H' h hg => ?_)
      obtain ⟨he, rfl, rfl⟩ := h
      cases he
      refine WA.one (i := 14) (by kernel_rfl) rfl (by kernel_rfl) (OW.callK rfl (pushV_fn G b A cap p a B m cm r x (numV n) hv2 (by simp at hl; omega)) rfl fun v' G' H' h hg => ?_)
      obtain ⟨A2, cap2, x2, he, rfl, rfl, hv3⟩ := h
      cases he
      refine WA.done (by kernel_rfl) ?_
      refine WK.un ?_
      refine WC.exit ?_
      refine WK.un ?_
      exact QF.p0 (.inr rfl) rfl ⟨rfl, A2, cap2, x2, rfl, hv3, rfl⟩ (by repeat (first | exact Pk.nil | exact Pk.all | exact Pk.app | exact Pk.appR | with_reducible apply Pk.na | (apply Pk.cons; (repeat first | exact .here | apply Rem.there | apply Rem.app)) | apply Pk.skip | apply Pk.skipA))
theorem plain_rec21 (hv : VVec A cap l x) (hl : l.length ≤ 1000000) : Fn Tryz.prog 60 #[.pointer (some ⟨mb, 0, none⟩), .pointer (some ⟨b, 0, none⟩), .agg #[.string nm, .bool ex, qv, .int .i64 lo, .int .i64 res, cv], .int .i64 21] G
    (mcB mb c1 c2 c3 FA fn fcap en w OA out.length ocap st ed :: ox :: frB b A l.length cap p a B m cm :: x :: fx :: Hx) (PlR G mb c1 c2 c3 FA fn fcap en w OA ocap st ed out ox fx Hx RL b A cap p a B m cm x (plainR res l 21 out.length)) := by
  refine Fn.enter Tryz.func60 rfl rfl fun w0 => ?_
  rw [show plainR res l 21 out.length = on2 l 1 (recR 21) by simp [plainR]]
  refine WC.seq ?_
  refine WC.region ?_
  refine WL.op (by kernel_rfl) (OW.box rfl rfl fun b1 => ?_)
  refine WL.nil ?_
  refine WK.un ?_
  refine WC.seq ?_
  refine WC.region ?_
  refine WL.p (Gp.move rfl) (by kernel_rfl) rfl ?_
  refine WL.nil ?_
  refine WK.un ?_
  repeat (first | refine WC.seq ?_ | refine WC.block ?_ | (refine WC.region ?_; refine WL.p (Gp.eqI rfl rfl) (by kernel_rfl) rfl ?_; refine WL.p (Gp.assign rfl) (by kernel_rfl) rfl ?_; refine WL.nil ?_; refine WK.un ?_) | refine WC.cond_true rfl ?_ | refine WC.cond_false rfl ?_ | (refine WC.skip ?_; refine WK.un ?_) | (refine WC.exit ?_; refine WK.un ?_))
  refine WC.region ?_
  refine WL.p (Gp.move rfl) (by kernel_rfl) rfl ?_
  refine WL.p (Gp.move rfl) (by kernel_rfl) rfl ?_
  cases ht : ty2 l 1 with
  | none =>
    rw [show on2 l 1 _ = .halt 6 by rw [on2, ht]]
    refine WL.op (by kernel_rfl) (OW.call rfl (Pk.perm (by repeat (first | exact Pk.nil | exact Pk.all | exact Pk.app | exact Pk.appR | with_reducible apply Pk.na | (apply Pk.cons; (repeat first | exact .here | apply Rem.there | apply Rem.app)) | apply Pk.skip | apply Pk.skipA))) (typed2_no G _ b A cap p a B m cm x l 1 ht hv hl) rfl (fun v' G' H' h hg => by cases h.1) (fun ch G' H' h hg => ?_) (fun G' H' h => by repeat (first | (cases h.1; done) | (cases h; done) | (obtain ⟨_, h⟩ := h) | (rcases h with h | h))))
    obtain ⟨he, rfl, c, hc, rfl⟩ := h
    cases he
    refine WK.un ?_
    exact QF.panicP ⟨rfl, rfl, _, ⟨c, hc, rfl⟩, rfl⟩
  | some rv =>
    obtain ⟨r, u, v⟩ := rv
    rw [show on2 l 1 _ = recR 21 r u v by rw [on2, ht]]
    obtain ⟨rfl, hut, hvt⟩ := ty2_some ht
    refine WL.op (by kernel_rfl) (OW.callK rfl (typed2_ok G _ b A cap p a B m cm x r u v 1 hut hvt hv hl) rfl fun v' G' H' h hg => ?_)
    obtain ⟨A', cap', x', he, rfl, rfl, hv1, hv2⟩ := h
    cases he
    obtain ⟨hlv, ⟨h1, h2, h3, h4⟩ | ⟨b', c', rfl, rfl, h1, h2, h3⟩⟩ := hv1
    · simp at h2
    have hc0 : ∀ (j : Nat) (w : Value), (vcells u)[j]? = some w → c'[0 + (0 : Int).toNat * 4 + j]? = some w := fun j w hw => two_lo h3 hw
    have hc1 : ∀ (j : Nat) (w : Value), (vcells v)[j]? = some w → c'[0 + (1 : Int).toNat * 4 + j]? = some w := fun j w hw => two_hi h3 hw
    refine WL.p (Gp.assign rfl) (by kernel_rfl) rfl ?_
    refine WL.nil ?_
    refine WK.un ?_
    refine WC.draw mixed ?_
    refine WA.tp (i := 0) rfl (by kernel_rfl) (by kernel_rfl) rfl (Gp.move rfl) ?_
    refine WA.tp (i := 1) rfl (by kernel_rfl) (by kernel_rfl) rfl (Gp.nilCheck rfl) ?_
    refine WA.tp (i := 2) rfl (by kernel_rfl) (by kernel_rfl) rfl (Gp.fieldAddr rfl) ?_
    refine WA.tp (i := 3) rfl (by kernel_rfl) (by kernel_rfl) rfl (Gp.move rfl) ?_
    refine WA.tp (i := 4) rfl (by kernel_rfl) (by kernel_rfl) rfl (Gp.move rfl) ?_
    refine WA.tp (i := 5) rfl (by kernel_rfl) (by kernel_rfl) rfl (Gp.indexAddr rfl rfl (by first | assumption | omega | decide) (by first | assumption | omega | decide | (simp only [List.length_cons, List.length_nil]; decide))) ?_
    refine WA.tp (i := 6) rfl (by kernel_rfl) (by kernel_rfl) rfl (Gp.fieldAddr rfl) ?_
    refine WA.tv (i := 7) rfl (by kernel_rfl) (by kernel_rfl) rfl (Gv.load1 rfl .here (hc0 1 _ rfl)) ?_
    refine WA.tp (i := 8) rfl (by kernel_rfl) (by kernel_rfl) rfl (Gp.move rfl) ?_
    refine WA.tp (i := 9) rfl (by kernel_rfl) (by kernel_rfl) rfl (Gp.indexAddr rfl rfl (by first | assumption | omega | decide) (by first | assumption | omega | decide | (simp only [List.length_cons, List.length_nil]; decide))) ?_
    refine WA.tp (i := 10) rfl (by kernel_rfl) (by kernel_rfl) rfl (Gp.fieldAddr rfl) ?_
    refine WA.tv (i := 11) rfl (by kernel_rfl) (by kernel_rfl) rfl (Gv.load1 rfl .here (hc1 1 _ rfl)) ?_
    cases hq : reckonS 21 u.i v.i with
    | none =>
      rw [show recR 21 r u v = .halt 2 by rw [recR, hq]]
      refine WA.one (i := 12) (by kernel_rfl) rfl (by kernel_rfl) (OW.call rfl (Hf := []) (List.Perm.refl _) ((reckon_fn G 21 u.i v.i).mono fun e G' H' h => (by rw [hq] at h; exact h : e = halted 2 ∧ G = G' ∧ H' = [])) rfl (fun v G' H' h _ => by cases h.1) (fun ch G' H' h _ => ?_) (fun G' H' h => by cases h.1))
      obtain ⟨he, rfl, rfl⟩ := h
      cases he
      refine WK.un ?_
      exact QF.panicP ⟨rfl, rfl, _, Left.of b A r.length cap p a B m cm, rfl⟩ (by repeat (first | exact Pk.nil | exact Pk.all | exact Pk.app | exact Pk.appR | with_reducible apply Pk.na | (apply Pk.cons; (repeat first | exact .here | apply Rem.there | apply Rem.app)) | apply Pk.skip | apply Pk.skipA))
    | some n =>
      rw [show recR 21 r u v = .set (r ++ [numV n]) by rw [recR, hq]]
      refine WA.one (i := 12) (by kernel_rfl) rfl (by kernel_rfl) (OW.callR rfl (Hf := []) (List.Perm.refl _) ((reckon_fn G 21 u.i v.i).mono fun e G' H' h => (by rw [hq] at h; exact h : e = .returned (.int .i64 n) ∧ G = G' ∧ H' = [])) rfl (by rintro e G' H' ⟨h, _⟩; exact ⟨_, h⟩) fun v' G' H' h hg => ?_)
      obtain ⟨he, rfl, rfl⟩ := h
      cases he
      refine WA.one (i := 13) (by kernel_rfl) rfl (by kernel_rfl) (OW.callR rfl (Hf := []) (List.Perm.refl _) (number_fnQ G n) rfl (by rintro e G' H' ⟨h, _⟩; exact ⟨_, h⟩) fun v' G' H' h hg => ?_)
      obtain ⟨he, rfl, rfl⟩ := h
      cases he
      refine WA.one (i := 14) (by kernel_rfl) rfl (by kernel_rfl) (OW.callK rfl (pushV_fn G b A cap p a B m cm r x (numV n) hv2 (by simp at hl; omega)) rfl fun v' G' H' h hg => ?_)
      obtain ⟨A2, cap2, x2, he, rfl, rfl, hv3⟩ := h
      cases he
      refine WA.done (by kernel_rfl) ?_
      refine WK.un ?_
      refine WC.exit ?_
      refine WK.un ?_
      exact QF.p0 (.inr rfl) rfl ⟨rfl, A2, cap2, x2, rfl, hv3, rfl⟩ (by repeat (first | exact Pk.nil | exact Pk.all | exact Pk.app | exact Pk.appR | with_reducible apply Pk.na | (apply Pk.cons; (repeat first | exact .here | apply Rem.there | apply Rem.app)) | apply Pk.skip | apply Pk.skipA))
theorem plain_rec22 (hv : VVec A cap l x) (hl : l.length ≤ 1000000) : Fn Tryz.prog 60 #[.pointer (some ⟨mb, 0, none⟩), .pointer (some ⟨b, 0, none⟩), .agg #[.string nm, .bool ex, qv, .int .i64 lo, .int .i64 res, cv], .int .i64 22] G
    (mcB mb c1 c2 c3 FA fn fcap en w OA out.length ocap st ed :: ox :: frB b A l.length cap p a B m cm :: x :: fx :: Hx) (PlR G mb c1 c2 c3 FA fn fcap en w OA ocap st ed out ox fx Hx RL b A cap p a B m cm x (plainR res l 22 out.length)) := by
  refine Fn.enter Tryz.func60 rfl rfl fun w0 => ?_
  rw [show plainR res l 22 out.length = on2 l 1 (recR 22) by simp [plainR]]
  refine WC.seq ?_
  refine WC.region ?_
  refine WL.op (by kernel_rfl) (OW.box rfl rfl fun b1 => ?_)
  refine WL.nil ?_
  refine WK.un ?_
  refine WC.seq ?_
  refine WC.region ?_
  refine WL.p (Gp.move rfl) (by kernel_rfl) rfl ?_
  refine WL.nil ?_
  refine WK.un ?_
  repeat (first | refine WC.seq ?_ | refine WC.block ?_ | (refine WC.region ?_; refine WL.p (Gp.eqI rfl rfl) (by kernel_rfl) rfl ?_; refine WL.p (Gp.assign rfl) (by kernel_rfl) rfl ?_; refine WL.nil ?_; refine WK.un ?_) | refine WC.cond_true rfl ?_ | refine WC.cond_false rfl ?_ | (refine WC.skip ?_; refine WK.un ?_) | (refine WC.exit ?_; refine WK.un ?_))
  refine WC.region ?_
  refine WL.p (Gp.move rfl) (by kernel_rfl) rfl ?_
  refine WL.p (Gp.move rfl) (by kernel_rfl) rfl ?_
  cases ht : ty2 l 1 with
  | none =>
    rw [show on2 l 1 _ = .halt 6 by rw [on2, ht]]
    refine WL.op (by kernel_rfl) (OW.call rfl (Pk.perm (by repeat (first | exact Pk.nil | exact Pk.all | exact Pk.app | exact Pk.appR | with_reducible apply Pk.na | (apply Pk.cons; (repeat first | exact .here | apply Rem.there | apply Rem.app)) | apply Pk.skip | apply Pk.skipA))) (typed2_no G _ b A cap p a B m cm x l 1 ht hv hl) rfl (fun v' G' H' h hg => by cases h.1) (fun ch G' H' h hg => ?_) (fun G' H' h => by repeat (first | (cases h.1; done) | (cases h; done) | (obtain ⟨_, h⟩ := h) | (rcases h with h | h))))
    obtain ⟨he, rfl, c, hc, rfl⟩ := h
    cases he
    refine WK.un ?_
    exact QF.panicP ⟨rfl, rfl, _, ⟨c, hc, rfl⟩, rfl⟩
  | some rv =>
    obtain ⟨r, u, v⟩ := rv
    rw [show on2 l 1 _ = recR 22 r u v by rw [on2, ht]]
    obtain ⟨rfl, hut, hvt⟩ := ty2_some ht
    refine WL.op (by kernel_rfl) (OW.callK rfl (typed2_ok G _ b A cap p a B m cm x r u v 1 hut hvt hv hl) rfl fun v' G' H' h hg => ?_)
    obtain ⟨A', cap', x', he, rfl, rfl, hv1, hv2⟩ := h
    cases he
    obtain ⟨hlv, ⟨h1, h2, h3, h4⟩ | ⟨b', c', rfl, rfl, h1, h2, h3⟩⟩ := hv1
    · simp at h2
    have hc0 : ∀ (j : Nat) (w : Value), (vcells u)[j]? = some w → c'[0 + (0 : Int).toNat * 4 + j]? = some w := fun j w hw => two_lo h3 hw
    have hc1 : ∀ (j : Nat) (w : Value), (vcells v)[j]? = some w → c'[0 + (1 : Int).toNat * 4 + j]? = some w := fun j w hw => two_hi h3 hw
    refine WL.p (Gp.assign rfl) (by kernel_rfl) rfl ?_
    refine WL.nil ?_
    refine WK.un ?_
    refine WC.draw mixed ?_
    refine WA.tp (i := 0) rfl (by kernel_rfl) (by kernel_rfl) rfl (Gp.move rfl) ?_
    refine WA.tp (i := 1) rfl (by kernel_rfl) (by kernel_rfl) rfl (Gp.nilCheck rfl) ?_
    refine WA.tp (i := 2) rfl (by kernel_rfl) (by kernel_rfl) rfl (Gp.fieldAddr rfl) ?_
    refine WA.tp (i := 3) rfl (by kernel_rfl) (by kernel_rfl) rfl (Gp.move rfl) ?_
    refine WA.tp (i := 4) rfl (by kernel_rfl) (by kernel_rfl) rfl (Gp.move rfl) ?_
    refine WA.tp (i := 5) rfl (by kernel_rfl) (by kernel_rfl) rfl (Gp.indexAddr rfl rfl (by first | assumption | omega | decide) (by first | assumption | omega | decide | (simp only [List.length_cons, List.length_nil]; decide))) ?_
    refine WA.tp (i := 6) rfl (by kernel_rfl) (by kernel_rfl) rfl (Gp.fieldAddr rfl) ?_
    refine WA.tv (i := 7) rfl (by kernel_rfl) (by kernel_rfl) rfl (Gv.load1 rfl .here (hc0 1 _ rfl)) ?_
    refine WA.tp (i := 8) rfl (by kernel_rfl) (by kernel_rfl) rfl (Gp.move rfl) ?_
    refine WA.tp (i := 9) rfl (by kernel_rfl) (by kernel_rfl) rfl (Gp.indexAddr rfl rfl (by first | assumption | omega | decide) (by first | assumption | omega | decide | (simp only [List.length_cons, List.length_nil]; decide))) ?_
    refine WA.tp (i := 10) rfl (by kernel_rfl) (by kernel_rfl) rfl (Gp.fieldAddr rfl) ?_
    refine WA.tv (i := 11) rfl (by kernel_rfl) (by kernel_rfl) rfl (Gv.load1 rfl .here (hc1 1 _ rfl)) ?_
    cases hq : reckonS 22 u.i v.i with
    | none =>
      rw [show recR 22 r u v = .halt 2 by rw [recR, hq]]
      refine WA.one (i := 12) (by kernel_rfl) rfl (by kernel_rfl) (OW.call rfl (Hf := []) (List.Perm.refl _) ((reckon_fn G 22 u.i v.i).mono fun e G' H' h => (by rw [hq] at h; exact h : e = halted 2 ∧ G = G' ∧ H' = [])) rfl (fun v G' H' h _ => by cases h.1) (fun ch G' H' h _ => ?_) (fun G' H' h => by cases h.1))
      obtain ⟨he, rfl, rfl⟩ := h
      cases he
      refine WK.un ?_
      exact QF.panicP ⟨rfl, rfl, _, Left.of b A r.length cap p a B m cm, rfl⟩ (by repeat (first | exact Pk.nil | exact Pk.all | exact Pk.app | exact Pk.appR | with_reducible apply Pk.na | (apply Pk.cons; (repeat first | exact .here | apply Rem.there | apply Rem.app)) | apply Pk.skip | apply Pk.skipA))
    | some n =>
      rw [show recR 22 r u v = .set (r ++ [numV n]) by rw [recR, hq]]
      refine WA.one (i := 12) (by kernel_rfl) rfl (by kernel_rfl) (OW.callR rfl (Hf := []) (List.Perm.refl _) ((reckon_fn G 22 u.i v.i).mono fun e G' H' h => (by rw [hq] at h; exact h : e = .returned (.int .i64 n) ∧ G = G' ∧ H' = [])) rfl (by rintro e G' H' ⟨h, _⟩; exact ⟨_, h⟩) fun v' G' H' h hg => ?_)
      obtain ⟨he, rfl, rfl⟩ := h
      cases he
      refine WA.one (i := 13) (by kernel_rfl) rfl (by kernel_rfl) (OW.callR rfl (Hf := []) (List.Perm.refl _) (number_fnQ G n) rfl (by rintro e G' H' ⟨h, _⟩; exact ⟨_, h⟩) fun v' G' H' h hg => ?_)
      obtain ⟨he, rfl, rfl⟩ := h
      cases he
      refine WA.one (i := 14) (by kernel_rfl) rfl (by kernel_rfl) (OW.callK rfl (pushV_fn G b A cap p a B m cm r x (numV n) hv2 (by simp at hl; omega)) rfl fun v' G' H' h hg => ?_)
      obtain ⟨A2, cap2, x2, he, rfl, rfl, hv3⟩ := h
      cases he
      refine WA.done (by kernel_rfl) ?_
      refine WK.un ?_
      refine WC.exit ?_
      refine WK.un ?_
      exact QF.p0 (.inr rfl) rfl ⟨rfl, A2, cap2, x2, rfl, hv3, rfl⟩ (by repeat (first | exact Pk.nil | exact Pk.all | exact Pk.app | exact Pk.appR | with_reducible apply Pk.na | (apply Pk.cons; (repeat first | exact .here | apply Rem.there | apply Rem.app)) | apply Pk.skip | apply Pk.skipA))
theorem plain_rec23 (hv : VVec A cap l x) (hl : l.length ≤ 1000000) : Fn Tryz.prog 60 #[.pointer (some ⟨mb, 0, none⟩), .pointer (some ⟨b, 0, none⟩), .agg #[.string nm, .bool ex, qv, .int .i64 lo, .int .i64 res, cv], .int .i64 23] G
    (mcB mb c1 c2 c3 FA fn fcap en w OA out.length ocap st ed :: ox :: frB b A l.length cap p a B m cm :: x :: fx :: Hx) (PlR G mb c1 c2 c3 FA fn fcap en w OA ocap st ed out ox fx Hx RL b A cap p a B m cm x (plainR res l 23 out.length)) := by
  refine Fn.enter Tryz.func60 rfl rfl fun w0 => ?_
  rw [show plainR res l 23 out.length = on2 l 1 (recR 23) by simp [plainR]]
  refine WC.seq ?_
  refine WC.region ?_
  refine WL.op (by kernel_rfl) (OW.box rfl rfl fun b1 => ?_)
  refine WL.nil ?_
  refine WK.un ?_
  refine WC.seq ?_
  refine WC.region ?_
  refine WL.p (Gp.move rfl) (by kernel_rfl) rfl ?_
  refine WL.nil ?_
  refine WK.un ?_
  repeat (first | refine WC.seq ?_ | refine WC.block ?_ | (refine WC.region ?_; refine WL.p (Gp.eqI rfl rfl) (by kernel_rfl) rfl ?_; refine WL.p (Gp.assign rfl) (by kernel_rfl) rfl ?_; refine WL.nil ?_; refine WK.un ?_) | refine WC.cond_true rfl ?_ | refine WC.cond_false rfl ?_ | (refine WC.skip ?_; refine WK.un ?_) | (refine WC.exit ?_; refine WK.un ?_))
  refine WC.region ?_
  refine WL.p (Gp.move rfl) (by kernel_rfl) rfl ?_
  refine WL.p (Gp.move rfl) (by kernel_rfl) rfl ?_
  cases ht : ty2 l 1 with
  | none =>
    rw [show on2 l 1 _ = .halt 6 by rw [on2, ht]]
    refine WL.op (by kernel_rfl) (OW.call rfl (Pk.perm (by repeat (first | exact Pk.nil | exact Pk.all | exact Pk.app | exact Pk.appR | with_reducible apply Pk.na | (apply Pk.cons; (repeat first | exact .here | apply Rem.there | apply Rem.app)) | apply Pk.skip | apply Pk.skipA))) (typed2_no G _ b A cap p a B m cm x l 1 ht hv hl) rfl (fun v' G' H' h hg => by cases h.1) (fun ch G' H' h hg => ?_) (fun G' H' h => by repeat (first | (cases h.1; done) | (cases h; done) | (obtain ⟨_, h⟩ := h) | (rcases h with h | h))))
    obtain ⟨he, rfl, c, hc, rfl⟩ := h
    cases he
    refine WK.un ?_
    exact QF.panicP ⟨rfl, rfl, _, ⟨c, hc, rfl⟩, rfl⟩
  | some rv =>
    obtain ⟨r, u, v⟩ := rv
    rw [show on2 l 1 _ = recR 23 r u v by rw [on2, ht]]
    obtain ⟨rfl, hut, hvt⟩ := ty2_some ht
    refine WL.op (by kernel_rfl) (OW.callK rfl (typed2_ok G _ b A cap p a B m cm x r u v 1 hut hvt hv hl) rfl fun v' G' H' h hg => ?_)
    obtain ⟨A', cap', x', he, rfl, rfl, hv1, hv2⟩ := h
    cases he
    obtain ⟨hlv, ⟨h1, h2, h3, h4⟩ | ⟨b', c', rfl, rfl, h1, h2, h3⟩⟩ := hv1
    · simp at h2
    have hc0 : ∀ (j : Nat) (w : Value), (vcells u)[j]? = some w → c'[0 + (0 : Int).toNat * 4 + j]? = some w := fun j w hw => two_lo h3 hw
    have hc1 : ∀ (j : Nat) (w : Value), (vcells v)[j]? = some w → c'[0 + (1 : Int).toNat * 4 + j]? = some w := fun j w hw => two_hi h3 hw
    refine WL.p (Gp.assign rfl) (by kernel_rfl) rfl ?_
    refine WL.nil ?_
    refine WK.un ?_
    refine WC.draw mixed ?_
    refine WA.tp (i := 0) rfl (by kernel_rfl) (by kernel_rfl) rfl (Gp.move rfl) ?_
    refine WA.tp (i := 1) rfl (by kernel_rfl) (by kernel_rfl) rfl (Gp.nilCheck rfl) ?_
    refine WA.tp (i := 2) rfl (by kernel_rfl) (by kernel_rfl) rfl (Gp.fieldAddr rfl) ?_
    refine WA.tp (i := 3) rfl (by kernel_rfl) (by kernel_rfl) rfl (Gp.move rfl) ?_
    refine WA.tp (i := 4) rfl (by kernel_rfl) (by kernel_rfl) rfl (Gp.move rfl) ?_
    refine WA.tp (i := 5) rfl (by kernel_rfl) (by kernel_rfl) rfl (Gp.indexAddr rfl rfl (by first | assumption | omega | decide) (by first | assumption | omega | decide | (simp only [List.length_cons, List.length_nil]; decide))) ?_
    refine WA.tp (i := 6) rfl (by kernel_rfl) (by kernel_rfl) rfl (Gp.fieldAddr rfl) ?_
    refine WA.tv (i := 7) rfl (by kernel_rfl) (by kernel_rfl) rfl (Gv.load1 rfl .here (hc0 1 _ rfl)) ?_
    refine WA.tp (i := 8) rfl (by kernel_rfl) (by kernel_rfl) rfl (Gp.move rfl) ?_
    refine WA.tp (i := 9) rfl (by kernel_rfl) (by kernel_rfl) rfl (Gp.indexAddr rfl rfl (by first | assumption | omega | decide) (by first | assumption | omega | decide | (simp only [List.length_cons, List.length_nil]; decide))) ?_
    refine WA.tp (i := 10) rfl (by kernel_rfl) (by kernel_rfl) rfl (Gp.fieldAddr rfl) ?_
    refine WA.tv (i := 11) rfl (by kernel_rfl) (by kernel_rfl) rfl (Gv.load1 rfl .here (hc1 1 _ rfl)) ?_
    cases hq : reckonS 23 u.i v.i with
    | none =>
      rw [show recR 23 r u v = .halt 2 by rw [recR, hq]]
      refine WA.one (i := 12) (by kernel_rfl) rfl (by kernel_rfl) (OW.call rfl (Hf := []) (List.Perm.refl _) ((reckon_fn G 23 u.i v.i).mono fun e G' H' h => (by rw [hq] at h; exact h : e = halted 2 ∧ G = G' ∧ H' = [])) rfl (fun v G' H' h _ => by cases h.1) (fun ch G' H' h _ => ?_) (fun G' H' h => by cases h.1))
      obtain ⟨he, rfl, rfl⟩ := h
      cases he
      refine WK.un ?_
      exact QF.panicP ⟨rfl, rfl, _, Left.of b A r.length cap p a B m cm, rfl⟩ (by repeat (first | exact Pk.nil | exact Pk.all | exact Pk.app | exact Pk.appR | with_reducible apply Pk.na | (apply Pk.cons; (repeat first | exact .here | apply Rem.there | apply Rem.app)) | apply Pk.skip | apply Pk.skipA))
    | some n =>
      rw [show recR 23 r u v = .set (r ++ [numV n]) by rw [recR, hq]]
      refine WA.one (i := 12) (by kernel_rfl) rfl (by kernel_rfl) (OW.callR rfl (Hf := []) (List.Perm.refl _) ((reckon_fn G 23 u.i v.i).mono fun e G' H' h => (by rw [hq] at h; exact h : e = .returned (.int .i64 n) ∧ G = G' ∧ H' = [])) rfl (by rintro e G' H' ⟨h, _⟩; exact ⟨_, h⟩) fun v' G' H' h hg => ?_)
      obtain ⟨he, rfl, rfl⟩ := h
      cases he
      refine WA.one (i := 13) (by kernel_rfl) rfl (by kernel_rfl) (OW.callR rfl (Hf := []) (List.Perm.refl _) (number_fnQ G n) rfl (by rintro e G' H' ⟨h, _⟩; exact ⟨_, h⟩) fun v' G' H' h hg => ?_)
      obtain ⟨he, rfl, rfl⟩ := h
      cases he
      refine WA.one (i := 14) (by kernel_rfl) rfl (by kernel_rfl) (OW.callK rfl (pushV_fn G b A cap p a B m cm r x (numV n) hv2 (by simp at hl; omega)) rfl fun v' G' H' h hg => ?_)
      obtain ⟨A2, cap2, x2, he, rfl, rfl, hv3⟩ := h
      cases he
      refine WA.done (by kernel_rfl) ?_
      refine WK.un ?_
      refine WC.exit ?_
      refine WK.un ?_
      exact QF.p0 (.inr rfl) rfl ⟨rfl, A2, cap2, x2, rfl, hv3, rfl⟩ (by repeat (first | exact Pk.nil | exact Pk.all | exact Pk.app | exact Pk.appR | with_reducible apply Pk.na | (apply Pk.cons; (repeat first | exact .here | apply Rem.there | apply Rem.app)) | apply Pk.skip | apply Pk.skipA))
end
end Go.Proofs.YtbfgljcjblfleaaGreatDoor.Gb
namespace Go.Proofs.YtbfgljcjblfleaaGreatDoor.Gb
open Go Go.Proofs
attribute [local irreducible] Tryz.prog
section
variable (G : Gh) (mb : Nat) (c1 c2 c3 : Value) (FA : Option Addr) (fn fcap : Nat) (en : Int) (w : V) (OA : Option Addr) (ocap : Nat) (st : Int) (ed : Bool) (out : List V) (ox fx : Own) (Hx : List Own) (RL : List V → List Own → Prop)
    (b : Nat) (A : Option Addr) (cap : Nat) (p a : Int) (B : Option Addr) (m cm : Nat) (x : Own) (l : List V) (nm : ByteArray) (ex : Bool) (qv cv : Value) (lo res : Int)
def plainC (c : Int) : Prop := c = 4 ∨ c = 9 ∨ c = 10 ∨ c = 11 ∨ c = 12 ∨ c = 13 ∨ c = 25 ∨ c = 26 ∨ c = 20 ∨ c = 14 ∨ c = 15 ∨ c = 16 ∨ c = 17 ∨ c = 24 ∨ c = 18 ∨ c = 19 ∨ c = 21 ∨ c = 22 ∨ c = 23
theorem plain_other (c : Int) (hc : ¬ plainC c) : Fn Tryz.prog 60 #[.pointer (some ⟨mb, 0, none⟩), .pointer (some ⟨b, 0, none⟩), .agg #[.string nm, .bool ex, qv, .int .i64 lo, .int .i64 res, cv], .int .i64 c] G
    (mcB mb c1 c2 c3 FA fn fcap en w OA out.length ocap st ed :: ox :: frB b A l.length cap p a B m cm :: x :: fx :: Hx) (PlR G mb c1 c2 c3 FA fn fcap en w OA ocap st ed out ox fx Hx RL b A cap p a B m cm x (plainR res l c out.length)) := by
  unfold plainC at hc
  simp only [not_or] at hc
  obtain ⟨h4, h9, h10, h11, h12, h13, h25, h26, h20, h14, h15, h16, h17, h24, h18, h19, h21, h22, h23⟩ := hc
  refine Fn.enter Tryz.func60 rfl rfl fun w0 => ?_
  rw [show plainR res l c out.length = .halt 6 by simp [plainR, *]]
  refine WC.seq ?_
  refine WC.region ?_
  refine WL.op (by kernel_rfl) (OW.box rfl rfl fun b1 => ?_)
  refine WL.nil ?_
  refine WK.un ?_
  refine WC.seq ?_
  refine WC.region ?_
  refine WL.p (Gp.move rfl) (by kernel_rfl) rfl ?_
  refine WL.nil ?_
  refine WK.un ?_
  repeat (first | refine WC.seq ?_ | refine WC.block ?_ | (refine WC.skip ?_; refine WK.un ?_) | (refine WC.exit ?_; refine WK.un ?_))
  refine WC.region ?_
  (first | refine WL.p (Gp.eqI rfl rfl) (by kernel_rfl) rfl ?_ | refine WL.p (Gp.eqS rfl rfl) (by kernel_rfl) rfl ?_ | refine WL.p (Gp.nilSl rfl) (by kernel_rfl) rfl ?_ | refine WL.p (Gp.eqB rfl rfl) (by kernel_rfl) rfl ?_)
  refine WL.p (Gp.assign rfl) (by kernel_rfl) rfl ?_
  refine WL.nil ?_
  refine WK.un ?_
  refine WC.cond rfl (fun hc => absurd (by simpa using hc) h4) (fun _ => ?_)
  repeat (first | refine WC.seq ?_ | refine WC.block ?_ | (refine WC.skip ?_; refine WK.un ?_) | (refine WC.exit ?_; refine WK.un ?_))
  repeat (first | refine WC.seq ?_ | refine WC.block ?_ | (refine WC.skip ?_; refine WK.un ?_) | (refine WC.exit ?_; refine WK.un ?_))
  refine WC.region ?_
  (first | refine WL.p (Gp.eqI rfl rfl) (by kernel_rfl) rfl ?_ | refine WL.p (Gp.eqS rfl rfl) (by kernel_rfl) rfl ?_ | refine WL.p (Gp.nilSl rfl) (by kernel_rfl) rfl ?_ | refine WL.p (Gp.eqB rfl rfl) (by kernel_rfl) rfl ?_)
  refine WL.p (Gp.assign rfl) (by kernel_rfl) rfl ?_
  refine WL.nil ?_
  refine WK.un ?_
  refine WC.cond rfl (fun hc => absurd (by simpa using hc) h9) (fun _ => ?_)
  repeat (first | refine WC.seq ?_ | refine WC.block ?_ | (refine WC.skip ?_; refine WK.un ?_) | (refine WC.exit ?_; refine WK.un ?_))
  repeat (first | refine WC.seq ?_ | refine WC.block ?_ | (refine WC.skip ?_; refine WK.un ?_) | (refine WC.exit ?_; refine WK.un ?_))
  refine WC.region ?_
  (first | refine WL.p (Gp.eqI rfl rfl) (by kernel_rfl) rfl ?_ | refine WL.p (Gp.eqS rfl rfl) (by kernel_rfl) rfl ?_ | refine WL.p (Gp.nilSl rfl) (by kernel_rfl) rfl ?_ | refine WL.p (Gp.eqB rfl rfl) (by kernel_rfl) rfl ?_)
  refine WL.p (Gp.assign rfl) (by kernel_rfl) rfl ?_
  refine WL.nil ?_
  refine WK.un ?_
  refine WC.cond rfl (fun hc => absurd (by simpa using hc) h10) (fun _ => ?_)
  repeat (first | refine WC.seq ?_ | refine WC.block ?_ | (refine WC.skip ?_; refine WK.un ?_) | (refine WC.exit ?_; refine WK.un ?_))
  repeat (first | refine WC.seq ?_ | refine WC.block ?_ | (refine WC.skip ?_; refine WK.un ?_) | (refine WC.exit ?_; refine WK.un ?_))
  refine WC.region ?_
  (first | refine WL.p (Gp.eqI rfl rfl) (by kernel_rfl) rfl ?_ | refine WL.p (Gp.eqS rfl rfl) (by kernel_rfl) rfl ?_ | refine WL.p (Gp.nilSl rfl) (by kernel_rfl) rfl ?_ | refine WL.p (Gp.eqB rfl rfl) (by kernel_rfl) rfl ?_)
  refine WL.p (Gp.assign rfl) (by kernel_rfl) rfl ?_
  refine WL.nil ?_
  refine WK.un ?_
  refine WC.cond rfl (fun hc => absurd (by simpa using hc) h11) (fun _ => ?_)
  repeat (first | refine WC.seq ?_ | refine WC.block ?_ | (refine WC.skip ?_; refine WK.un ?_) | (refine WC.exit ?_; refine WK.un ?_))
  repeat (first | refine WC.seq ?_ | refine WC.block ?_ | (refine WC.skip ?_; refine WK.un ?_) | (refine WC.exit ?_; refine WK.un ?_))
  refine WC.region ?_
  (first | refine WL.p (Gp.eqI rfl rfl) (by kernel_rfl) rfl ?_ | refine WL.p (Gp.eqS rfl rfl) (by kernel_rfl) rfl ?_ | refine WL.p (Gp.nilSl rfl) (by kernel_rfl) rfl ?_ | refine WL.p (Gp.eqB rfl rfl) (by kernel_rfl) rfl ?_)
  refine WL.p (Gp.assign rfl) (by kernel_rfl) rfl ?_
  refine WL.nil ?_
  refine WK.un ?_
  refine WC.cond rfl (fun hc => absurd (by simpa using hc) h12) (fun _ => ?_)
  repeat (first | refine WC.seq ?_ | refine WC.block ?_ | (refine WC.skip ?_; refine WK.un ?_) | (refine WC.exit ?_; refine WK.un ?_))
  repeat (first | refine WC.seq ?_ | refine WC.block ?_ | (refine WC.skip ?_; refine WK.un ?_) | (refine WC.exit ?_; refine WK.un ?_))
  refine WC.region ?_
  (first | refine WL.p (Gp.eqI rfl rfl) (by kernel_rfl) rfl ?_ | refine WL.p (Gp.eqS rfl rfl) (by kernel_rfl) rfl ?_ | refine WL.p (Gp.nilSl rfl) (by kernel_rfl) rfl ?_ | refine WL.p (Gp.eqB rfl rfl) (by kernel_rfl) rfl ?_)
  refine WL.p (Gp.assign rfl) (by kernel_rfl) rfl ?_
  refine WL.nil ?_
  refine WK.un ?_
  refine WC.cond rfl (fun hc => absurd (by simpa using hc) h13) (fun _ => ?_)
  repeat (first | refine WC.seq ?_ | refine WC.block ?_ | (refine WC.skip ?_; refine WK.un ?_) | (refine WC.exit ?_; refine WK.un ?_))
  repeat (first | refine WC.seq ?_ | refine WC.block ?_ | (refine WC.skip ?_; refine WK.un ?_) | (refine WC.exit ?_; refine WK.un ?_))
  refine WC.region ?_
  (first | refine WL.p (Gp.eqI rfl rfl) (by kernel_rfl) rfl ?_ | refine WL.p (Gp.eqS rfl rfl) (by kernel_rfl) rfl ?_ | refine WL.p (Gp.nilSl rfl) (by kernel_rfl) rfl ?_ | refine WL.p (Gp.eqB rfl rfl) (by kernel_rfl) rfl ?_)
  refine WL.p (Gp.assign rfl) (by kernel_rfl) rfl ?_
  refine WL.nil ?_
  refine WK.un ?_
  refine WC.cond rfl (fun hc => absurd (by simpa using hc) h25) (fun _ => ?_)
  repeat (first | refine WC.seq ?_ | refine WC.block ?_ | (refine WC.skip ?_; refine WK.un ?_) | (refine WC.exit ?_; refine WK.un ?_))
  repeat (first | refine WC.seq ?_ | refine WC.block ?_ | (refine WC.skip ?_; refine WK.un ?_) | (refine WC.exit ?_; refine WK.un ?_))
  refine WC.region ?_
  (first | refine WL.p (Gp.eqI rfl rfl) (by kernel_rfl) rfl ?_ | refine WL.p (Gp.eqS rfl rfl) (by kernel_rfl) rfl ?_ | refine WL.p (Gp.nilSl rfl) (by kernel_rfl) rfl ?_ | refine WL.p (Gp.eqB rfl rfl) (by kernel_rfl) rfl ?_)
  refine WL.p (Gp.assign rfl) (by kernel_rfl) rfl ?_
  refine WL.nil ?_
  refine WK.un ?_
  refine WC.cond rfl (fun hc => absurd (by simpa using hc) h26) (fun _ => ?_)
  repeat (first | refine WC.seq ?_ | refine WC.block ?_ | (refine WC.skip ?_; refine WK.un ?_) | (refine WC.exit ?_; refine WK.un ?_))
  repeat (first | refine WC.seq ?_ | refine WC.block ?_ | (refine WC.skip ?_; refine WK.un ?_) | (refine WC.exit ?_; refine WK.un ?_))
  refine WC.region ?_
  (first | refine WL.p (Gp.eqI rfl rfl) (by kernel_rfl) rfl ?_ | refine WL.p (Gp.eqS rfl rfl) (by kernel_rfl) rfl ?_ | refine WL.p (Gp.nilSl rfl) (by kernel_rfl) rfl ?_ | refine WL.p (Gp.eqB rfl rfl) (by kernel_rfl) rfl ?_)
  refine WL.p (Gp.assign rfl) (by kernel_rfl) rfl ?_
  refine WL.nil ?_
  refine WK.un ?_
  refine WC.cond rfl (fun hc => absurd (by simpa using hc) h20) (fun _ => ?_)
  repeat (first | refine WC.seq ?_ | refine WC.block ?_ | (refine WC.skip ?_; refine WK.un ?_) | (refine WC.exit ?_; refine WK.un ?_))
  repeat (first | refine WC.seq ?_ | refine WC.block ?_ | (refine WC.skip ?_; refine WK.un ?_) | (refine WC.exit ?_; refine WK.un ?_))
  refine WC.region ?_
  (first | refine WL.p (Gp.eqI rfl rfl) (by kernel_rfl) rfl ?_ | refine WL.p (Gp.eqS rfl rfl) (by kernel_rfl) rfl ?_ | refine WL.p (Gp.nilSl rfl) (by kernel_rfl) rfl ?_ | refine WL.p (Gp.eqB rfl rfl) (by kernel_rfl) rfl ?_)
  refine WL.p (Gp.assign rfl) (by kernel_rfl) rfl ?_
  refine WL.nil ?_
  refine WK.un ?_
  refine WC.cond rfl (fun hc => absurd (by simpa using hc) h14) (fun _ => ?_)
  repeat (first | refine WC.seq ?_ | refine WC.block ?_ | (refine WC.skip ?_; refine WK.un ?_) | (refine WC.exit ?_; refine WK.un ?_))
  repeat (first | refine WC.seq ?_ | refine WC.block ?_ | (refine WC.skip ?_; refine WK.un ?_) | (refine WC.exit ?_; refine WK.un ?_))
  refine WC.region ?_
  (first | refine WL.p (Gp.eqI rfl rfl) (by kernel_rfl) rfl ?_ | refine WL.p (Gp.eqS rfl rfl) (by kernel_rfl) rfl ?_ | refine WL.p (Gp.nilSl rfl) (by kernel_rfl) rfl ?_ | refine WL.p (Gp.eqB rfl rfl) (by kernel_rfl) rfl ?_)
  refine WL.p (Gp.assign rfl) (by kernel_rfl) rfl ?_
  refine WL.nil ?_
  refine WK.un ?_
  refine WC.cond rfl (fun hc => absurd (by simpa using hc) h15) (fun _ => ?_)
  repeat (first | refine WC.seq ?_ | refine WC.block ?_ | (refine WC.skip ?_; refine WK.un ?_) | (refine WC.exit ?_; refine WK.un ?_))
  repeat (first | refine WC.seq ?_ | refine WC.block ?_ | (refine WC.skip ?_; refine WK.un ?_) | (refine WC.exit ?_; refine WK.un ?_))
  refine WC.region ?_
  (first | refine WL.p (Gp.eqI rfl rfl) (by kernel_rfl) rfl ?_ | refine WL.p (Gp.eqS rfl rfl) (by kernel_rfl) rfl ?_ | refine WL.p (Gp.nilSl rfl) (by kernel_rfl) rfl ?_ | refine WL.p (Gp.eqB rfl rfl) (by kernel_rfl) rfl ?_)
  refine WL.p (Gp.assign rfl) (by kernel_rfl) rfl ?_
  refine WL.nil ?_
  refine WK.un ?_
  refine WC.cond rfl (fun hc => absurd (by simpa using hc) h16) (fun _ => ?_)
  repeat (first | refine WC.seq ?_ | refine WC.block ?_ | (refine WC.skip ?_; refine WK.un ?_) | (refine WC.exit ?_; refine WK.un ?_))
  repeat (first | refine WC.seq ?_ | refine WC.block ?_ | (refine WC.skip ?_; refine WK.un ?_) | (refine WC.exit ?_; refine WK.un ?_))
  refine WC.region ?_
  (first | refine WL.p (Gp.eqI rfl rfl) (by kernel_rfl) rfl ?_ | refine WL.p (Gp.eqS rfl rfl) (by kernel_rfl) rfl ?_ | refine WL.p (Gp.nilSl rfl) (by kernel_rfl) rfl ?_ | refine WL.p (Gp.eqB rfl rfl) (by kernel_rfl) rfl ?_)
  refine WL.p (Gp.assign rfl) (by kernel_rfl) rfl ?_
  refine WL.nil ?_
  refine WK.un ?_
  refine WC.cond rfl (fun hc => absurd (by simpa using hc) h17) (fun _ => ?_)
  repeat (first | refine WC.seq ?_ | refine WC.block ?_ | (refine WC.skip ?_; refine WK.un ?_) | (refine WC.exit ?_; refine WK.un ?_))
  repeat (first | refine WC.seq ?_ | refine WC.block ?_ | (refine WC.skip ?_; refine WK.un ?_) | (refine WC.exit ?_; refine WK.un ?_))
  refine WC.region ?_
  (first | refine WL.p (Gp.eqI rfl rfl) (by kernel_rfl) rfl ?_ | refine WL.p (Gp.eqS rfl rfl) (by kernel_rfl) rfl ?_ | refine WL.p (Gp.nilSl rfl) (by kernel_rfl) rfl ?_ | refine WL.p (Gp.eqB rfl rfl) (by kernel_rfl) rfl ?_)
  refine WL.p (Gp.assign rfl) (by kernel_rfl) rfl ?_
  refine WL.nil ?_
  refine WK.un ?_
  refine WC.cond rfl (fun hc => absurd (by simpa using hc) h24) (fun _ => ?_)
  repeat (first | refine WC.seq ?_ | refine WC.block ?_ | (refine WC.skip ?_; refine WK.un ?_) | (refine WC.exit ?_; refine WK.un ?_))
  repeat (first | refine WC.seq ?_ | refine WC.block ?_ | (refine WC.skip ?_; refine WK.un ?_) | (refine WC.exit ?_; refine WK.un ?_))
  refine WC.region ?_
  (first | refine WL.p (Gp.eqI rfl rfl) (by kernel_rfl) rfl ?_ | refine WL.p (Gp.eqS rfl rfl) (by kernel_rfl) rfl ?_ | refine WL.p (Gp.nilSl rfl) (by kernel_rfl) rfl ?_ | refine WL.p (Gp.eqB rfl rfl) (by kernel_rfl) rfl ?_)
  refine WL.p (Gp.assign rfl) (by kernel_rfl) rfl ?_
  refine WL.nil ?_
  refine WK.un ?_
  refine WC.cond rfl (fun hc => absurd (by simpa using hc) h18) (fun _ => ?_)
  repeat (first | refine WC.seq ?_ | refine WC.block ?_ | (refine WC.skip ?_; refine WK.un ?_) | (refine WC.exit ?_; refine WK.un ?_))
  repeat (first | refine WC.seq ?_ | refine WC.block ?_ | (refine WC.skip ?_; refine WK.un ?_) | (refine WC.exit ?_; refine WK.un ?_))
  refine WC.region ?_
  (first | refine WL.p (Gp.eqI rfl rfl) (by kernel_rfl) rfl ?_ | refine WL.p (Gp.eqS rfl rfl) (by kernel_rfl) rfl ?_ | refine WL.p (Gp.nilSl rfl) (by kernel_rfl) rfl ?_ | refine WL.p (Gp.eqB rfl rfl) (by kernel_rfl) rfl ?_)
  refine WL.p (Gp.assign rfl) (by kernel_rfl) rfl ?_
  refine WL.nil ?_
  refine WK.un ?_
  refine WC.cond rfl (fun hc => absurd (by simpa using hc) h19) (fun _ => ?_)
  repeat (first | refine WC.seq ?_ | refine WC.block ?_ | (refine WC.skip ?_; refine WK.un ?_) | (refine WC.exit ?_; refine WK.un ?_))
  repeat (first | refine WC.seq ?_ | refine WC.block ?_ | (refine WC.skip ?_; refine WK.un ?_) | (refine WC.exit ?_; refine WK.un ?_))
  refine WC.region ?_
  (first | refine WL.p (Gp.eqI rfl rfl) (by kernel_rfl) rfl ?_ | refine WL.p (Gp.eqS rfl rfl) (by kernel_rfl) rfl ?_ | refine WL.p (Gp.nilSl rfl) (by kernel_rfl) rfl ?_ | refine WL.p (Gp.eqB rfl rfl) (by kernel_rfl) rfl ?_)
  refine WL.p (Gp.assign rfl) (by kernel_rfl) rfl ?_
  refine WL.nil ?_
  refine WK.un ?_
  refine WC.cond rfl (fun hc => absurd (by simpa using hc) h21) (fun _ => ?_)
  repeat (first | refine WC.seq ?_ | refine WC.block ?_ | (refine WC.skip ?_; refine WK.un ?_) | (refine WC.exit ?_; refine WK.un ?_))
  repeat (first | refine WC.seq ?_ | refine WC.block ?_ | (refine WC.skip ?_; refine WK.un ?_) | (refine WC.exit ?_; refine WK.un ?_))
  refine WC.region ?_
  (first | refine WL.p (Gp.eqI rfl rfl) (by kernel_rfl) rfl ?_ | refine WL.p (Gp.eqS rfl rfl) (by kernel_rfl) rfl ?_ | refine WL.p (Gp.nilSl rfl) (by kernel_rfl) rfl ?_ | refine WL.p (Gp.eqB rfl rfl) (by kernel_rfl) rfl ?_)
  refine WL.p (Gp.assign rfl) (by kernel_rfl) rfl ?_
  refine WL.nil ?_
  refine WK.un ?_
  refine WC.cond rfl (fun hc => absurd (by simpa using hc) h22) (fun _ => ?_)
  repeat (first | refine WC.seq ?_ | refine WC.block ?_ | (refine WC.skip ?_; refine WK.un ?_) | (refine WC.exit ?_; refine WK.un ?_))
  repeat (first | refine WC.seq ?_ | refine WC.block ?_ | (refine WC.skip ?_; refine WK.un ?_) | (refine WC.exit ?_; refine WK.un ?_))
  refine WC.region ?_
  (first | refine WL.p (Gp.eqI rfl rfl) (by kernel_rfl) rfl ?_ | refine WL.p (Gp.eqS rfl rfl) (by kernel_rfl) rfl ?_ | refine WL.p (Gp.nilSl rfl) (by kernel_rfl) rfl ?_ | refine WL.p (Gp.eqB rfl rfl) (by kernel_rfl) rfl ?_)
  refine WL.p (Gp.assign rfl) (by kernel_rfl) rfl ?_
  refine WL.nil ?_
  refine WK.un ?_
  refine WC.cond rfl (fun hc => absurd (by simpa using hc) h23) (fun _ => ?_)
  repeat (first | refine WC.seq ?_ | refine WC.block ?_ | (refine WC.skip ?_; refine WK.un ?_) | (refine WC.exit ?_; refine WK.un ?_))
  refine WC.region ?_
  refine WL.op (by kernel_rfl) (OW.call rfl (Hf := []) (List.Perm.refl _) (stuck_fn _) rfl (fun v G' H' h _ => by cases h.1) (fun ch G' H' h _ => ?_) (fun G' H' h => by cases h.1))
  obtain ⟨he, rfl, rfl⟩ := h
  cases he
  refine WK.un ?_
  exact QF.panicP ⟨rfl, rfl, _, Left.of b A l.length cap p a B m cm, rfl⟩ (by repeat (first | exact Pk.nil | exact Pk.all | exact Pk.app | exact Pk.appR | with_reducible apply Pk.na | (apply Pk.cons; (repeat first | exact .here | apply Rem.there | apply Rem.app)) | apply Pk.skip | apply Pk.skipA))
theorem plain_fn (c : Int) (hv : VVec A cap l x) (hl : l.length ≤ 1000000) (hz : ∀ v ∈ l, v.s.size ≤ 400000000000) (ho : VVec OA ocap out ox) (hL : Lv G mb (mcB mb c1 c2 c3 FA fn fcap en w OA out.length ocap st ed) fx Hx RL) :
    Fn Tryz.prog 60 #[.pointer (some ⟨mb, 0, none⟩), .pointer (some ⟨b, 0, none⟩), .agg #[.string nm, .bool ex, qv, .int .i64 lo, .int .i64 res, cv], .int .i64 c] G
    (mcB mb c1 c2 c3 FA fn fcap en w OA out.length ocap st ed :: ox :: frB b A l.length cap p a B m cm :: x :: fx :: Hx) (PlR G mb c1 c2 c3 FA fn fcap en w OA ocap st ed out ox fx Hx RL b A cap p a B m cm x (plainR res l c out.length)) := by
  by_cases hc : plainC c
  rotate_left
  · exact plain_other G mb c1 c2 c3 FA fn fcap en w OA ocap st ed out ox fx Hx RL b A cap p a B m cm x l nm ex qv cv lo res c hc
  rcases hc with rfl | rfl | rfl | rfl | rfl | rfl | rfl | rfl | rfl | rfl | rfl | rfl | rfl | rfl | rfl | rfl | rfl | rfl | rfl
  · exact plain_drop G mb c1 c2 c3 FA fn fcap en w OA ocap st ed out ox fx Hx RL b A cap p a B m cm x l nm ex qv cv lo res hv hl
  · exact plain_return G mb c1 c2 c3 FA fn fcap en w OA ocap st ed out ox fx Hx RL b A cap p a B m cm x l nm ex qv cv lo res hv hl hL
  · exact plain_give G mb c1 c2 c3 FA fn fcap en w OA ocap st ed out ox fx Hx RL b A cap p a B m cm x l nm ex qv cv lo res hv hl hL
  · exact plain_print G mb c1 c2 c3 FA fn fcap en w OA ocap st ed out ox fx Hx RL b A cap p a B m cm x l nm ex qv cv lo res hv hl ho
  · exact plain_eq G mb c1 c2 c3 FA fn fcap en w OA ocap st ed out ox fx Hx RL b A cap p a B m cm x l nm ex qv cv lo res hv hl
  · exact plain_ne G mb c1 c2 c3 FA fn fcap en w OA ocap st ed out ox fx Hx RL b A cap p a B m cm x l nm ex qv cv lo res hv hl
  · exact plain_not G mb c1 c2 c3 FA fn fcap en w OA ocap st ed out ox fx Hx RL b A cap p a B m cm x l nm ex qv cv lo res hv hl
  · exact plain_len G mb c1 c2 c3 FA fn fcap en w OA ocap st ed out ox fx Hx RL b A cap p a B m cm x l nm ex qv cv lo res hv hl
  · exact plain_join G mb c1 c2 c3 FA fn fcap en w OA ocap st ed out ox fx Hx RL b A cap p a B m cm x l nm ex qv cv lo res hv hl hz
  · exact plain_ord14 G mb c1 c2 c3 FA fn fcap en w OA ocap st ed out ox fx Hx RL b A cap p a B m cm x l nm ex qv cv lo res hv hl
  · exact plain_ord15 G mb c1 c2 c3 FA fn fcap en w OA ocap st ed out ox fx Hx RL b A cap p a B m cm x l nm ex qv cv lo res hv hl
  · exact plain_ord16 G mb c1 c2 c3 FA fn fcap en w OA ocap st ed out ox fx Hx RL b A cap p a B m cm x l nm ex qv cv lo res hv hl
  · exact plain_ord17 G mb c1 c2 c3 FA fn fcap en w OA ocap st ed out ox fx Hx RL b A cap p a B m cm x l nm ex qv cv lo res hv hl
  · exact plain_neg G mb c1 c2 c3 FA fn fcap en w OA ocap st ed out ox fx Hx RL b A cap p a B m cm x l nm ex qv cv lo res hv hl
  · exact plain_rec18 G mb c1 c2 c3 FA fn fcap en w OA ocap st ed out ox fx Hx RL b A cap p a B m cm x l nm ex qv cv lo res hv hl
  · exact plain_rec19 G mb c1 c2 c3 FA fn fcap en w OA ocap st ed out ox fx Hx RL b A cap p a B m cm x l nm ex qv cv lo res hv hl
  · exact plain_rec21 G mb c1 c2 c3 FA fn fcap en w OA ocap st ed out ox fx Hx RL b A cap p a B m cm x l nm ex qv cv lo res hv hl
  · exact plain_rec22 G mb c1 c2 c3 FA fn fcap en w OA ocap st ed out ox fx Hx RL b A cap p a B m cm x l nm ex qv cv lo res hv hl
  · exact plain_rec23 G mb c1 c2 c3 FA fn fcap en w OA ocap st ed out ox fx Hx RL b A cap p a B m cm x l nm ex qv cv lo res hv hl
end
end Go.Proofs.YtbfgljcjblfleaaGreatDoor.Gb
