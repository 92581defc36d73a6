/- Instructions without a number: held against one another, turned, joined. Any instruction without a number. An instruction is carried out, 1: constants, variables. An instruction is carried out, 2. -/
import Derived.Test.YtcnlkfocbbkdhaaGreatDoorOh
set_option linter.unusedVariables false
set_option linter.unusedSimpArgs false
set_option linter.unusedSectionVars false
namespace Go.Proofs.YtcnlkfocbbkdhaaGreatDoor.Gb
open Go Go.Proofs
section
attribute [local irreducible] Tryz.prog
theorem one_lo {c : Array Value} {v : V} {n j : Nat} {w : Value} (h : c.toList.take n = vflat [v]) (hw : (vcells v)[j]? = some w) : c[0 + (0 : Int).toNat * 4 + j]? = some w := by
 have hj : j < (vcells v).length := (List.getElem?_eq_some_iff.1 hw).1
 have e : (0 + (0 : Int).toNat * 4 + j) = j := by simp
 rw [e]
 refine two_at h ?_
 show (vcells v ++ [])[j]? = _
 rw [List.append_nil]; exact hw
theorem two_val0 {c : Array Value} {u v : V} (h : c.toList.take ([u, v].length * 4) = vflat [u, v]) : (c.toList.drop (0 + (0 : Int).toNat * 4)).take 4 = vcells u := VVec.elem (A := none) (cap := 0) (b := 0) (i := 0) (v := u) h rfl
theorem two_val1 {c : Array Value} {u v : V} (h : c.toList.take ([u, v].length * 4) = vflat [u, v]) : (c.toList.drop (0 + (1 : Int).toNat * 4)).take 4 = vcells v := VVec.elem (A := none) (cap := 0) (b := 0) (i := 1) (v := v) h rfl
section
variable (G : Gh) (mb : Nat) (c1 c2 c3 : Value) (FA : Option Addr) (fn fcap : Nat) (en : Int) (w : V) (OA : Option Addr) (ocap : Nat) (st : Int) (ed : Bool) (out : List V) (ox fx : Own) (Hx : List Own) (RL : List V → List Own → Prop)
  (b : Nat) (A : Option Addr) (cap : Nat) (p a : Int) (B : Option Addr) (m cm : Nat) (x : Own) (l : List V) (nm : ByteArray) (ex : Bool) (qv cv : Value) (lo res : Int)
theorem plain_not (hv : VVec A cap l x) (hl : l.length ≤ 1000000) : Fn Tryz.prog 198 #[.pointer (some ⟨mb, 0, none⟩), .pointer (some ⟨b, 0, none⟩), .agg #[.string nm, .bool ex, qv, .int .i64 lo, .int .i64 res, cv], .int .i64 25] G
  (mcB mb c1 c2 c3 FA fn fcap en w OA out.length ocap st ed :: ox :: frB b A l.length cap p a B m cm :: x :: fx :: Hx) (PlR G mb c1 c2 c3 FA fn fcap en w OA ocap st ed out ox fx Hx RL b A cap p a B m cm x (plainR res l 25 out.length)) := by
 refine Fn.enter Tryz.func198 rfl rfl fun w0 => ?_
 rw [show plainR res l 25 out.length = on1 l 2 fun r v => .set (r ++ [truthV (!v.b)]) by simp [plainR]]
 refine WC.seq ?_
 refine WC.region ?_
 refine WL.oo (OW.box rfl rfl fun b1 => ?_)
 refine WL.nil ?_
 refine WK.un ?_
 refine WC.seq ?_
 refine WC.region ?_
 refine zw.move ?_
 refine WL.nil ?_
 refine WK.un ?_
 repeat (first | refine WC.seq ?_ | refine WC.block ?_ | (refine WC.region ?_; refine WL.p (Gp.eqI rfl rfl) kr rfl ?_; refine WL.p (Gp.assign rfl) kr rfl ?_; refine WL.nil ?_; refine WK.un ?_) | refine WC.cond_true rfl ?_ | refine WC.cond_false rfl ?_ | (refine WC.skip ?_; refine WK.un ?_) | (refine WC.exit ?_; refine WK.un ?_))
 refine WC.draw mixed ?_
 refine za.move 0 ?_
 refine za.nil 1 ?_
 refine za.fa 2 ?_
 refine za.move 3 ?_
 refine za.move 4 ?_
 cases ht : ty1 l 2 with
 | none =>
  rw [show on1 l 2 _ = .halt 6 by rw [on1, ht]]
  refine WA.oo 5 rfl (OW.call rfl (Pk.perm pkA) (typed1_no G _ b A cap p a B m cm x l 2 ht hv hl) rfl (fun v' G' H' h hg => by cases h.1) (fun ch G' H' h hg => ?_) (fun G' H' h => by repeat (first | (cases h.1; done) | (cases h; done) | (obtain ⟨_, h⟩ := h) | (rcases h with h | h))))
  obtain ⟨he, rfl, c, hc, rfl⟩ := h
  cases he
  refine WK.un ?_
  exact QF.panicP ⟨rfl, rfl, _, ⟨c, hc, rfl⟩, rfl⟩
 | some rv =>
  obtain ⟨r, v⟩ := rv
  obtain ⟨rfl, hvt⟩ := ty1_some ht
  rw [show on1 (r ++ [v]) 2 _ = .set (r ++ [truthV (!v.b)]) by rw [on1, ht]]
  refine WA.oo 5 rfl (OW.callK rfl (typed1_ok G _ b A cap p a B m cm x r v 2 hvt hv hl) rfl fun v' G' H' h hg => ?_)
  obtain ⟨A', cap', x', he, rfl, rfl, hv1, hv2⟩ := h
  cases he
  obtain ⟨hlv, ⟨h1, h2, h3, h4⟩ | ⟨b', c', rfl, rfl, h1, h2, h3⟩⟩ := hv1
  ·simp at h2
  have hc0 : ∀ (j : Nat) (w : Value), (vcells v)[j]? = some w → c'[0 + (0 : Int).toNat * 4 + j]? = some w := fun j w hw => one_lo h3 hw
  refine za.ix 6 ?_
  refine za.fa 7 ?_
  refine WA.vv 8 rfl (Gv.load1 rfl .here (hc0 2 _ rfl)) ?_
  refine za.not 9 ?_
  refine WA.oo 10 rfl (OW.callR rfl (Hf := []) (List.Perm.refl _) (truth_fn G (!v.b)) rfl (by rintro e G' H' ⟨h, _⟩; exact ⟨_, h⟩) fun v' G' H' h hg => ?_)
  obtain ⟨he, rfl, rfl⟩ := h
  cases he
  refine WA.oo 11 rfl (OW.callK rfl (pushV_fn G b A cap p a B m cm r x (truthV (!v.b)) hv2 (by simp at hl; omega)) rfl fun v' G' H' h hg => ?_)
  obtain ⟨A2, cap2, x2, he, rfl, rfl, hv3⟩ := h
  cases he
  refine WA.done kr ?_
  refine WK.un ?_
  refine WC.exit ?_
  refine WK.un ?_
  exact QF.p0 (.inr rfl) rfl ⟨rfl, A2, cap2, x2, rfl, hv3, rfl⟩ pkA
theorem plain_len (hv : VVec A cap l x) (hl : l.length ≤ 1000000) : Fn Tryz.prog 198 #[.pointer (some ⟨mb, 0, none⟩), .pointer (some ⟨b, 0, none⟩), .agg #[.string nm, .bool ex, qv, .int .i64 lo, .int .i64 res, cv], .int .i64 26] G
  (mcB mb c1 c2 c3 FA fn fcap en w OA out.length ocap st ed :: ox :: frB b A l.length cap p a B m cm :: x :: fx :: Hx) (PlR G mb c1 c2 c3 FA fn fcap en w OA ocap st ed out ox fx Hx RL b A cap p a B m cm x (plainR res l 26 out.length)) := by
 refine Fn.enter Tryz.func198 rfl rfl fun w0 => ?_
 rw [show plainR res l 26 out.length = on1 l 3 fun r v => .set (r ++ [numV v.s.size]) by simp [plainR]]
 refine WC.seq ?_
 refine WC.region ?_
 refine WL.oo (OW.box rfl rfl fun b1 => ?_)
 refine WL.nil ?_
 refine WK.un ?_
 refine WC.seq ?_
 refine WC.region ?_
 refine zw.move ?_
 refine WL.nil ?_
 refine WK.un ?_
 repeat (first | refine WC.seq ?_ | refine WC.block ?_ | (refine WC.region ?_; refine WL.p (Gp.eqI rfl rfl) kr rfl ?_; refine WL.p (Gp.assign rfl) kr rfl ?_; refine WL.nil ?_; refine WK.un ?_) | refine WC.cond_true rfl ?_ | refine WC.cond_false rfl ?_ | (refine WC.skip ?_; refine WK.un ?_) | (refine WC.exit ?_; refine WK.un ?_))
 refine WC.draw mixed ?_
 refine za.move 0 ?_
 refine za.nil 1 ?_
 refine za.fa 2 ?_
 refine za.move 3 ?_
 refine za.move 4 ?_
 cases ht : ty1 l 3 with
 | none =>
  rw [show on1 l 3 _ = .halt 6 by rw [on1, ht]]
  refine WA.oo 5 rfl (OW.call rfl (Pk.perm pkA) (typed1_no G _ b A cap p a B m cm x l 3 ht hv hl) rfl (fun v' G' H' h hg => by cases h.1) (fun ch G' H' h hg => ?_) (fun G' H' h => by repeat (first | (cases h.1; done) | (cases h; done) | (obtain ⟨_, h⟩ := h) | (rcases h with h | h))))
  obtain ⟨he, rfl, c, hc, rfl⟩ := h
  cases he
  refine WK.un ?_
  exact QF.panicP ⟨rfl, rfl, _, ⟨c, hc, rfl⟩, rfl⟩
 | some rv =>
  obtain ⟨r, v⟩ := rv
  obtain ⟨rfl, hvt⟩ := ty1_some ht
  rw [show on1 (r ++ [v]) 3 _ = .set (r ++ [numV v.s.size]) by rw [on1, ht]]
  refine WA.oo 5 rfl (OW.callK rfl (typed1_ok G _ b A cap p a B m cm x r v 3 hvt hv hl) rfl fun v' G' H' h hg => ?_)
  obtain ⟨A', cap', x', he, rfl, rfl, hv1, hv2⟩ := h
  cases he
  obtain ⟨hlv, ⟨h1, h2, h3, h4⟩ | ⟨b', c', rfl, rfl, h1, h2, h3⟩⟩ := hv1
  ·simp at h2
  have hc0 : ∀ (j : Nat) (w : Value), (vcells v)[j]? = some w → c'[0 + (0 : Int).toNat * 4 + j]? = some w := fun j w hw => one_lo h3 hw
  refine za.ix 6 ?_
  refine za.fa 7 ?_
  refine WA.vv 8 rfl (Gv.load1 rfl .here (hc0 3 _ rfl)) ?_
  refine za.len 9 ?_
  refine WA.oo 10 rfl (OW.callR rfl (Hf := []) (List.Perm.refl _) (number_fnQ G v.s.size) rfl (by rintro e G' H' ⟨h, _⟩; exact ⟨_, h⟩) fun v' G' H' h hg => ?_)
  obtain ⟨he, rfl, rfl⟩ := h
  cases he
  refine WA.oo 11 rfl (OW.callK rfl (pushV_fn G b A cap p a B m cm r x (numV v.s.size) hv2 (by simp at hl; omega)) rfl fun v' G' H' h hg => ?_)
  obtain ⟨A2, cap2, x2, he, rfl, rfl, hv3⟩ := h
  cases he
  refine WA.done kr ?_
  refine WK.un ?_
  refine WC.exit ?_
  refine WK.un ?_
  exact QF.p0 (.inr rfl) rfl ⟨rfl, A2, cap2, x2, rfl, hv3, rfl⟩ pkA
theorem plain_neg (hv : VVec A cap l x) (hl : l.length ≤ 1000000) : Fn Tryz.prog 198 #[.pointer (some ⟨mb, 0, none⟩), .pointer (some ⟨b, 0, none⟩), .agg #[.string nm, .bool ex, qv, .int .i64 lo, .int .i64 res, cv], .int .i64 24] G
  (mcB mb c1 c2 c3 FA fn fcap en w OA out.length ocap st ed :: ox :: frB b A l.length cap p a B m cm :: x :: fx :: Hx) (PlR G mb c1 c2 c3 FA fn fcap en w OA ocap st ed out ox fx Hx RL b A cap p a B m cm x (plainR res l 24 out.length)) := by
 refine Fn.enter Tryz.func198 rfl rfl fun w0 => ?_
 rw [show plainR res l 24 out.length = on1 l 1 fun r v => .set (r ++ [numV (IntKind.i64.wrap (0 - v.i))]) by simp [plainR]]
 refine WC.seq ?_
 refine WC.region ?_
 refine WL.oo (OW.box rfl rfl fun b1 => ?_)
 refine WL.nil ?_
 refine WK.un ?_
 refine WC.seq ?_
 refine WC.region ?_
 refine zw.move ?_
 refine WL.nil ?_
 refine WK.un ?_
 repeat (first | refine WC.seq ?_ | refine WC.block ?_ | (refine WC.region ?_; refine WL.p (Gp.eqI rfl rfl) kr rfl ?_; refine WL.p (Gp.assign rfl) kr rfl ?_; refine WL.nil ?_; refine WK.un ?_) | refine WC.cond_true rfl ?_ | refine WC.cond_false rfl ?_ | (refine WC.skip ?_; refine WK.un ?_) | (refine WC.exit ?_; refine WK.un ?_))
 refine WC.draw mixed ?_
 refine za.move 0 ?_
 refine za.nil 1 ?_
 refine za.fa 2 ?_
 refine za.move 3 ?_
 refine za.move 4 ?_
 cases ht : ty1 l 1 with
 | none =>
  rw [show on1 l 1 _ = .halt 6 by rw [on1, ht]]
  refine WA.oo 5 rfl (OW.call rfl (Pk.perm pkA) (typed1_no G _ b A cap p a B m cm x l 1 ht hv hl) rfl (fun v' G' H' h hg => by cases h.1) (fun ch G' H' h hg => ?_) (fun G' H' h => by repeat (first | (cases h.1; done) | (cases h; done) | (obtain ⟨_, h⟩ := h) | (rcases h with h | h))))
  obtain ⟨he, rfl, c, hc, rfl⟩ := h
  cases he
  refine WK.un ?_
  exact QF.panicP ⟨rfl, rfl, _, ⟨c, hc, rfl⟩, rfl⟩
 | some rv =>
  obtain ⟨r, v⟩ := rv
  obtain ⟨rfl, hvt⟩ := ty1_some ht
  rw [show on1 (r ++ [v]) 1 _ = .set (r ++ [numV (IntKind.i64.wrap (0 - v.i))]) by rw [on1, ht]]
  refine WA.oo 5 rfl (OW.callK rfl (typed1_ok G _ b A cap p a B m cm x r v 1 hvt hv hl) rfl fun v' G' H' h hg => ?_)
  obtain ⟨A', cap', x', he, rfl, rfl, hv1, hv2⟩ := h
  cases he
  obtain ⟨hlv, ⟨h1, h2, h3, h4⟩ | ⟨b', c', rfl, rfl, h1, h2, h3⟩⟩ := hv1
  ·simp at h2
  have hc0 : ∀ (j : Nat) (w : Value), (vcells v)[j]? = some w → c'[0 + (0 : Int).toNat * 4 + j]? = some w := fun j w hw => one_lo h3 hw
  refine za.ix 6 ?_
  refine za.fa 7 ?_
  refine WA.vv 8 rfl (Gv.load1 rfl .here (hc0 1 _ rfl)) ?_
  refine za.neg 9 ?_
  refine WA.oo 10 rfl (OW.callR rfl (Hf := []) (List.Perm.refl _) (number_fnQ G (IntKind.i64.wrap (0 - v.i))) rfl (by rintro e G' H' ⟨h, _⟩; exact ⟨_, h⟩) fun v' G' H' h hg => ?_)
  obtain ⟨he, rfl, rfl⟩ := h
  cases he
  refine WA.oo 11 rfl (OW.callK rfl (pushV_fn G b A cap p a B m cm r x (numV (IntKind.i64.wrap (0 - v.i))) hv2 (by simp at hl; omega)) rfl fun v' G' H' h hg => ?_)
  obtain ⟨A2, cap2, x2, he, rfl, rfl, hv3⟩ := h
  cases he
  refine WA.done kr ?_
  refine WK.un ?_
  refine WC.exit ?_
  refine WK.un ?_
  exact QF.p0 (.inr rfl) rfl ⟨rfl, A2, cap2, x2, rfl, hv3, rfl⟩ pkA
theorem plain_eq (hv : VVec A cap l x) (hl : l.length ≤ 1000000) : Fn Tryz.prog 198 #[.pointer (some ⟨mb, 0, none⟩), .pointer (some ⟨b, 0, none⟩), .agg #[.string nm, .bool ex, qv, .int .i64 lo, .int .i64 res, cv], .int .i64 12] G
  (mcB mb c1 c2 c3 FA fn fcap en w OA out.length ocap st ed :: ox :: frB b A l.length cap p a B m cm :: x :: fx :: Hx) (PlR G mb c1 c2 c3 FA fn fcap en w OA ocap st ed out ox fx Hx RL b A cap p a B m cm x (plainR res l 12 out.length)) := by
 refine Fn.enter Tryz.func198 rfl rfl fun w0 => ?_
 rw [show plainR res l 12 out.length = onB l fun r u v => if u.t = v.t then .set (r ++ [truthV (decide (u = v))]) else .halt 6 by simp [plainR]]
 refine WC.seq ?_
 refine WC.region ?_
 refine WL.oo (OW.box rfl rfl fun b1 => ?_)
 refine WL.nil ?_
 refine WK.un ?_
 refine WC.seq ?_
 refine WC.region ?_
 refine zw.move ?_
 refine WL.nil ?_
 refine WK.un ?_
 repeat (first | refine WC.seq ?_ | refine WC.block ?_ | (refine WC.region ?_; refine WL.p (Gp.eqI rfl rfl) kr rfl ?_; refine WL.p (Gp.assign rfl) kr rfl ?_; refine WL.nil ?_; refine WK.un ?_) | refine WC.cond_true rfl ?_ | refine WC.cond_false rfl ?_ | (refine WC.skip ?_; refine WK.un ?_) | (refine WC.exit ?_; refine WK.un ?_))
 refine WC.region ?_
 refine zw.move ?_
 refine zw.move ?_
 cases ht : pop2 l with
 | none =>
  have h1 := pop2_len ht
  rw [show onB l _ = .halt 6 by rw [onB, ht]]
  refine WL.oo (OW.call rfl (Pk.perm pkA) (((take_no G _ b A l.length cap p a B m cm 2 (by omega)).pk (F := [x]) (.cons .here .nil)).drop fun e G' H' ⟨H2, ⟨h1, h2, h3⟩, h4⟩ => ⟨H2, by rw [h4]; exact List.sublist_append_left _ _, (⟨h1, h2, h3⟩ : e = halted 6 ∧ G = G' ∧ Left b H2)⟩) rfl (fun v' G' H' h hg => by cases h.1) (fun ch G' H' h hg => ?_) (fun G' H' h => by repeat (first | (cases h.1; done) | (cases h; done) | (obtain ⟨_, h⟩ := h) | (rcases h with h | h))))
  obtain ⟨he, rfl, c, hc, rfl⟩ := h
  cases he
  refine WK.un ?_
  exact QF.panicP ⟨rfl, rfl, _, ⟨c, hc, rfl⟩, rfl⟩
 | some rv =>
  obtain ⟨r, u, v⟩ := rv
  rw [show onB l _ = (if u.t = v.t then .set (r ++ [truthV (decide (u = v))]) else .halt 6) by rw [onB, ht]]
  obtain rfl := pop2_some ht
  refine WL.oo (OW.callK rfl (take2_ok G _ b A cap p a B m cm x r u v hv hl) rfl fun v' G' H' h hg => ?_)
  obtain ⟨A', cap', x', he, rfl, rfl, hv1, hv2⟩ := h
  cases he
  obtain ⟨hlv, ⟨h1, h2, h3, h4⟩ | ⟨b', c', rfl, rfl, h1, h2, h3⟩⟩ := hv1
  ·simp at h2
  have hc0 : ∀ (j : Nat) (w : Value), (vcells u)[j]? = some w → c'[0 + (0 : Int).toNat * 4 + j]? = some w := fun j w hw => two_lo h3 hw
  have hc1 : ∀ (j : Nat) (w : Value), (vcells v)[j]? = some w → c'[0 + (1 : Int).toNat * 4 + j]? = some w := fun j w hw => two_hi h3 hw
  refine zw.assign ?_
  refine WL.nil ?_
  refine WK.un ?_
  refine WC.seq ?_
  refine WC.draw mixed ?_
  refine za.move 0 ?_
  refine za.ix 1 ?_
  refine za.fa 2 ?_
  refine WA.vv 3 rfl (Gv.load1 rfl .here (hc0 0 _ rfl)) ?_
  refine za.move 4 ?_
  refine za.ix 5 ?_
  refine za.fa 6 ?_
  refine WA.vv 7 rfl (Gv.load1 rfl .here (hc1 0 _ rfl)) ?_
  refine za.eq 8 ?_
  by_cases e1 : u.t = v.t
  rotate_left
  ·rw [show (u.t == v.t) = false by simpa using e1, if_neg e1]
   refine WA.oo 9 rfl (OW.call rfl (Hf := []) (List.Perm.refl _) (need_no _) rfl (fun v G' H' h _ => by cases h.1) (fun ch G' H' h _ => ?_) (fun G' H' h => by cases h.1))
   obtain ⟨he, rfl, rfl⟩ := h
   cases he
   refine WK.un ?_
   exact QF.panicP (⟨rfl, rfl, _, Left.of b A r.length cap p a B m cm, rfl⟩)
  rw [show (u.t == v.t) = true by simpa using e1, if_pos e1]
  refine WA.oo 9 rfl (OW.callR rfl (Hf := []) (List.Perm.refl _) (need_ok G) rfl (by rintro e G' H' ⟨h, _⟩; exact ⟨_, h⟩) fun v' G' H' h hg => ?_)
  obtain ⟨he, rfl, rfl⟩ := h
  cases he
  refine WA.done kr ?_
  refine WK.un ?_
  refine WC.draw mixed ?_
  refine za.move 0 ?_
  refine za.nil 1 ?_
  refine za.fa 2 ?_
  refine za.move 3 ?_
  refine za.ix 4 ?_
  refine za.move 6 ?_
  refine za.ix 7 ?_
  refine za.move 10 ?_
  refine za.eq 11 ?_
  refine WA.vv 5 rfl (Gv.loadN rfl .here (two_val0 h3) rfl) ?_
  refine WA.vv 8 rfl (Gv.loadN rfl .here (two_val1 h3) rfl) ?_
  refine WA.pp 9 rfl (Gp.eqV (u := u) (v := v) rfl rfl) ?_
  refine WA.pp 12 rfl (Gp.eqB rfl rfl) ?_
  rw [show (decide (u = v) == ((12 : Int) == 12)) = (decide (u = v)) by cases decide (u = v) <;> rfl]
  refine WA.oo 13 rfl (OW.callR rfl (Hf := []) (List.Perm.refl _) (truth_fn G (decide (u = v))) rfl (by rintro e G' H' ⟨h, _⟩; exact ⟨_, h⟩) fun v' G' H' h hg => ?_)
  obtain ⟨he, rfl, rfl⟩ := h
  cases he
  refine WA.oo 14 rfl (OW.callK rfl (pushV_fn G b A cap p a B m cm r x (truthV (decide (u = v))) hv2 (by simp at hl; omega)) rfl fun v' G' H' h hg => ?_)
  obtain ⟨A2, cap2, x2, he, rfl, rfl, hv3⟩ := h
  cases he
  refine WA.done kr ?_
  refine WK.un ?_
  refine WC.exit ?_
  refine WK.un ?_
  exact QF.p0 (.inr rfl) rfl ⟨rfl, A2, cap2, x2, rfl, hv3, rfl⟩ pkA
theorem plain_ne (hv : VVec A cap l x) (hl : l.length ≤ 1000000) : Fn Tryz.prog 198 #[.pointer (some ⟨mb, 0, none⟩), .pointer (some ⟨b, 0, none⟩), .agg #[.string nm, .bool ex, qv, .int .i64 lo, .int .i64 res, cv], .int .i64 13] G
  (mcB mb c1 c2 c3 FA fn fcap en w OA out.length ocap st ed :: ox :: frB b A l.length cap p a B m cm :: x :: fx :: Hx) (PlR G mb c1 c2 c3 FA fn fcap en w OA ocap st ed out ox fx Hx RL b A cap p a B m cm x (plainR res l 13 out.length)) := by
 refine Fn.enter Tryz.func198 rfl rfl fun w0 => ?_
 rw [show plainR res l 13 out.length = onB l fun r u v => if u.t = v.t then .set (r ++ [truthV (!decide (u = v))]) else .halt 6 by simp [plainR]]
 refine WC.seq ?_
 refine WC.region ?_
 refine WL.oo (OW.box rfl rfl fun b1 => ?_)
 refine WL.nil ?_
 refine WK.un ?_
 refine WC.seq ?_
 refine WC.region ?_
 refine zw.move ?_
 refine WL.nil ?_
 refine WK.un ?_
 repeat (first | refine WC.seq ?_ | refine WC.block ?_ | (refine WC.region ?_; refine WL.p (Gp.eqI rfl rfl) kr rfl ?_; refine WL.p (Gp.assign rfl) kr rfl ?_; refine WL.nil ?_; refine WK.un ?_) | refine WC.cond_true rfl ?_ | refine WC.cond_false rfl ?_ | (refine WC.skip ?_; refine WK.un ?_) | (refine WC.exit ?_; refine WK.un ?_))
 refine WC.region ?_
 refine zw.move ?_
 refine zw.move ?_
 cases ht : pop2 l with
 | none =>
  have h1 := pop2_len ht
  rw [show onB l _ = .halt 6 by rw [onB, ht]]
  refine WL.oo (OW.call rfl (Pk.perm pkA) (((take_no G _ b A l.length cap p a B m cm 2 (by omega)).pk (F := [x]) (.cons .here .nil)).drop fun e G' H' ⟨H2, ⟨h1, h2, h3⟩, h4⟩ => ⟨H2, by rw [h4]; exact List.sublist_append_left _ _, (⟨h1, h2, h3⟩ : e = halted 6 ∧ G = G' ∧ Left b H2)⟩) rfl (fun v' G' H' h hg => by cases h.1) (fun ch G' H' h hg => ?_) (fun G' H' h => by repeat (first | (cases h.1; done) | (cases h; done) | (obtain ⟨_, h⟩ := h) | (rcases h with h | h))))
  obtain ⟨he, rfl, c, hc, rfl⟩ := h
  cases he
  refine WK.un ?_
  exact QF.panicP ⟨rfl, rfl, _, ⟨c, hc, rfl⟩, rfl⟩
 | some rv =>
  obtain ⟨r, u, v⟩ := rv
  rw [show onB l _ = (if u.t = v.t then .set (r ++ [truthV (!decide (u = v))]) else .halt 6) by rw [onB, ht]]
  obtain rfl := pop2_some ht
  refine WL.oo (OW.callK rfl (take2_ok G _ b A cap p a B m cm x r u v hv hl) rfl fun v' G' H' h hg => ?_)
  obtain ⟨A', cap', x', he, rfl, rfl, hv1, hv2⟩ := h
  cases he
  obtain ⟨hlv, ⟨h1, h2, h3, h4⟩ | ⟨b', c', rfl, rfl, h1, h2, h3⟩⟩ := hv1
  ·simp at h2
  have hc0 : ∀ (j : Nat) (w : Value), (vcells u)[j]? = some w → c'[0 + (0 : Int).toNat * 4 + j]? = some w := fun j w hw => two_lo h3 hw
  have hc1 : ∀ (j : Nat) (w : Value), (vcells v)[j]? = some w → c'[0 + (1 : Int).toNat * 4 + j]? = some w := fun j w hw => two_hi h3 hw
  refine zw.assign ?_
  refine WL.nil ?_
  refine WK.un ?_
  refine WC.seq ?_
  refine WC.draw mixed ?_
  refine za.move 0 ?_
  refine za.ix 1 ?_
  refine za.fa 2 ?_
  refine WA.vv 3 rfl (Gv.load1 rfl .here (hc0 0 _ rfl)) ?_
  refine za.move 4 ?_
  refine za.ix 5 ?_
  refine za.fa 6 ?_
  refine WA.vv 7 rfl (Gv.load1 rfl .here (hc1 0 _ rfl)) ?_
  refine za.eq 8 ?_
  by_cases e1 : u.t = v.t
  rotate_left
  ·rw [show (u.t == v.t) = false by simpa using e1, if_neg e1]
   refine WA.oo 9 rfl (OW.call rfl (Hf := []) (List.Perm.refl _) (need_no _) rfl (fun v G' H' h _ => by cases h.1) (fun ch G' H' h _ => ?_) (fun G' H' h => by cases h.1))
   obtain ⟨he, rfl, rfl⟩ := h
   cases he
   refine WK.un ?_
   exact QF.panicP (⟨rfl, rfl, _, Left.of b A r.length cap p a B m cm, rfl⟩)
  rw [show (u.t == v.t) = true by simpa using e1, if_pos e1]
  refine WA.oo 9 rfl (OW.callR rfl (Hf := []) (List.Perm.refl _) (need_ok G) rfl (by rintro e G' H' ⟨h, _⟩; exact ⟨_, h⟩) fun v' G' H' h hg => ?_)
  obtain ⟨he, rfl, rfl⟩ := h
  cases he
  refine WA.done kr ?_
  refine WK.un ?_
  refine WC.draw mixed ?_
  refine za.move 0 ?_
  refine za.nil 1 ?_
  refine za.fa 2 ?_
  refine za.move 3 ?_
  refine za.ix 4 ?_
  refine za.move 6 ?_
  refine za.ix 7 ?_
  refine za.move 10 ?_
  refine za.eq 11 ?_
  refine WA.vv 5 rfl (Gv.loadN rfl .here (two_val0 h3) rfl) ?_
  refine WA.vv 8 rfl (Gv.loadN rfl .here (two_val1 h3) rfl) ?_
  refine WA.pp 9 rfl (Gp.eqV (u := u) (v := v) rfl rfl) ?_
  refine WA.pp 12 rfl (Gp.eqB rfl rfl) ?_
  rw [show (decide (u = v) == ((13 : Int) == 12)) = (!decide (u = v)) by cases decide (u = v) <;> rfl]
  refine WA.oo 13 rfl (OW.callR rfl (Hf := []) (List.Perm.refl _) (truth_fn G (!decide (u = v))) rfl (by rintro e G' H' ⟨h, _⟩; exact ⟨_, h⟩) fun v' G' H' h hg => ?_)
  obtain ⟨he, rfl, rfl⟩ := h
  cases he
  refine WA.oo 14 rfl (OW.callK rfl (pushV_fn G b A cap p a B m cm r x (truthV (!decide (u = v))) hv2 (by simp at hl; omega)) rfl fun v' G' H' h hg => ?_)
  obtain ⟨A2, cap2, x2, he, rfl, rfl, hv3⟩ := h
  cases he
  refine WA.done kr ?_
  refine WK.un ?_
  refine WC.exit ?_
  refine WK.un ?_
  exact QF.p0 (.inr rfl) rfl ⟨rfl, A2, cap2, x2, rfl, hv3, rfl⟩ pkA
theorem plain_join (hv : VVec A cap l x) (hl : l.length ≤ 1000000) (hz : ∀ v ∈ l, v.s.size ≤ 400000000000) : Fn Tryz.prog 198 #[.pointer (some ⟨mb, 0, none⟩), .pointer (some ⟨b, 0, none⟩), .agg #[.string nm, .bool ex, qv, .int .i64 lo, .int .i64 res, cv], .int .i64 20] G
  (mcB mb c1 c2 c3 FA fn fcap en w OA out.length ocap st ed :: ox :: frB b A l.length cap p a B m cm :: x :: fx :: Hx) (PlR G mb c1 c2 c3 FA fn fcap en w OA ocap st ed out ox fx Hx RL b A cap p a B m cm x (plainR res l 20 out.length)) := by
 refine Fn.enter Tryz.func198 rfl rfl fun w0 => ?_
 rw [show plainR res l 20 out.length = on2 l 3 fun r u v => if 4096 < u.s.size + v.s.size then .halt 3 else .set (r ++ [textV (u.s ++ v.s)]) by simp [plainR]]
 refine WC.seq ?_
 refine WC.region ?_
 refine WL.oo (OW.box rfl rfl fun b1 => ?_)
 refine WL.nil ?_
 refine WK.un ?_
 refine WC.seq ?_
 refine WC.region ?_
 refine zw.move ?_
 refine WL.nil ?_
 refine WK.un ?_
 repeat (first | refine WC.seq ?_ | refine WC.block ?_ | (refine WC.region ?_; refine WL.p (Gp.eqI rfl rfl) kr rfl ?_; refine WL.p (Gp.assign rfl) kr rfl ?_; refine WL.nil ?_; refine WK.un ?_) | refine WC.cond_true rfl ?_ | refine WC.cond_false rfl ?_ | (refine WC.skip ?_; refine WK.un ?_) | (refine WC.exit ?_; refine WK.un ?_))
 refine WC.region ?_
 refine zw.move ?_
 refine zw.move ?_
 cases ht : ty2 l 3 with
 | none =>
  rw [show on2 l 3 _ = .halt 6 by rw [on2, ht]]
  refine WL.oo (OW.call rfl (Pk.perm pkA) (typed2_no G _ b A cap p a B m cm x l 3 ht hv hl) rfl (fun v' G' H' h hg => by cases h.1) (fun ch G' H' h hg => ?_) (fun G' H' h => by repeat (first | (cases h.1; done) | (cases h; done) | (obtain ⟨_, h⟩ := h) | (rcases h with h | h))))
  obtain ⟨he, rfl, c, hc, rfl⟩ := h
  cases he
  refine WK.un ?_
  exact QF.panicP ⟨rfl, rfl, _, ⟨c, hc, rfl⟩, rfl⟩
 | some rv =>
  obtain ⟨r, u, v⟩ := rv
  rw [show on2 l 3 _ = (if 4096 < u.s.size + v.s.size then .halt 3 else .set (r ++ [textV (u.s ++ v.s)])) by rw [on2, ht]]
  obtain ⟨rfl, hut, hvt⟩ := ty2_some ht
  have hzu := hz u (by simp)
  have hzv := hz v (by simp)
  refine WL.oo (OW.callK rfl (typed2_ok G _ b A cap p a B m cm x r u v 3 hut hvt hv hl) rfl fun v' G' H' h hg => ?_)
  obtain ⟨A', cap', x', he, rfl, rfl, hv1, hv2⟩ := h
  cases he
  obtain ⟨hlv, ⟨h1, h2, h3, h4⟩ | ⟨b', c', rfl, rfl, h1, h2, h3⟩⟩ := hv1
  ·simp at h2
  have hc0 : ∀ (j : Nat) (w : Value), (vcells u)[j]? = some w → c'[0 + (0 : Int).toNat * 4 + j]? = some w := fun j w hw => two_lo h3 hw
  have hc1 : ∀ (j : Nat) (w : Value), (vcells v)[j]? = some w → c'[0 + (1 : Int).toNat * 4 + j]? = some w := fun j w hw => two_hi h3 hw
  refine zw.assign ?_
  refine WL.nil ?_
  refine WK.un ?_
  refine WC.seq ?_
  refine WC.seq ?_
  refine WC.draw mixed ?_
  refine za.move 0 ?_
  refine za.ix 1 ?_
  refine za.fa 2 ?_
  refine WA.vv 3 rfl (Gv.load1 rfl .here (hc0 3 _ rfl)) ?_
  refine za.len 4 ?_
  refine za.move 5 ?_
  refine za.ix 6 ?_
  refine za.fa 7 ?_
  refine WA.vv 8 rfl (Gv.load1 rfl .here (hc1 3 _ rfl)) ?_
  refine za.len 9 ?_
  refine za.add 10 ?_
  rw [show IntKind.i64.wrap ((u.s.size : Int) + (v.s.size : Int)) = ((u.s.size + v.s.size : Nat) : Int) by rw [wrap_small (by omega) (by omega)]; omega]
  refine za.gt 11 ?_
  refine WA.done kr ?_
  refine WK.un ?_
  refine WC.cond rfl (fun hc => ?_) (fun hc => ?_)
  ·have h4 : 4096 < u.s.size + v.s.size := by have h := hc; simp at h; omega
   rw [if_pos h4]
   refine WC.region ?_
   refine zw.build ?_
   refine zw.iface ?_
   refine WL.oo (OW.panic rfl ?_)
   refine WK.un ?_
   exact QF.panicP ⟨rfl, rfl, _, Left.of b A r.length cap p a B m cm, rfl⟩ pkA
  ·have h4 : ¬ 4096 < u.s.size + v.s.size := by have h := hc; simp at h; omega
   rw [if_neg h4]
   refine WC.skip ?_
   refine WK.un ?_
   refine WC.draw mixed ?_
   refine za.move 0 ?_
   refine za.nil 1 ?_
   refine za.fa 2 ?_
   refine za.move 3 ?_
   refine za.ix 4 ?_
   refine za.fa 5 ?_
   refine WA.vv 6 rfl (Gv.load1 rfl .here (hc0 3 _ rfl)) ?_
   refine za.move 7 ?_
   refine za.ix 8 ?_
   refine za.fa 9 ?_
   refine WA.vv 10 rfl (Gv.load1 rfl .here (hc1 3 _ rfl)) ?_
   refine WA.pp 11 rfl (Gp.addS rfl rfl (by omega)) ?_
   refine za.build 12 ?_
   refine WA.oo 13 rfl (OW.callK rfl (pushV_fn G b A cap p a B m cm r x (textV (u.s ++ v.s)) hv2 (by simp at hl; omega)) rfl fun v' G' H' h hg => ?_)
   obtain ⟨A2, cap2, x2, he, rfl, rfl, hv3⟩ := h
   cases he
   refine WA.done kr ?_
   refine WK.un ?_
   refine WC.exit ?_
   refine WK.un ?_
   exact QF.p0 (.inr rfl) rfl ⟨rfl, A2, cap2, x2, rfl, hv3, rfl⟩ pkA
theorem plain_ord14 (hv : VVec A cap l x) (hl : l.length ≤ 1000000) : Fn Tryz.prog 198 #[.pointer (some ⟨mb, 0, none⟩), .pointer (some ⟨b, 0, none⟩), .agg #[.string nm, .bool ex, qv, .int .i64 lo, .int .i64 res, cv], .int .i64 14] G
  (mcB mb c1 c2 c3 FA fn fcap en w OA out.length ocap st ed :: ox :: frB b A l.length cap p a B m cm :: x :: fx :: Hx) (PlR G mb c1 c2 c3 FA fn fcap en w OA ocap st ed out ox fx Hx RL b A cap p a B m cm x (plainR res l 14 out.length)) := by
 refine Fn.enter Tryz.func198 rfl rfl fun w0 => ?_
 rw [show plainR res l 14 out.length = onB l fun r u v => if ordOK u v then .set (r ++ [truthV (ordS 14 u v)]) else .halt 6 by simp [plainR]]
 refine WC.seq ?_
 refine WC.region ?_
 refine WL.oo (OW.box rfl rfl fun b1 => ?_)
 refine WL.nil ?_
 refine WK.un ?_
 refine WC.seq ?_
 refine WC.region ?_
 refine zw.move ?_
 refine WL.nil ?_
 refine WK.un ?_
 repeat (first | refine WC.seq ?_ | refine WC.block ?_ | (refine WC.region ?_; refine WL.p (Gp.eqI rfl rfl) kr rfl ?_; refine WL.p (Gp.assign rfl) kr rfl ?_; refine WL.nil ?_; refine WK.un ?_) | refine WC.cond_true rfl ?_ | refine WC.cond_false rfl ?_ | (refine WC.skip ?_; refine WK.un ?_) | (refine WC.exit ?_; refine WK.un ?_))
 refine WC.draw mixed ?_
 refine za.move 0 ?_
 refine za.nil 1 ?_
 refine za.fa 2 ?_
 refine za.move 3 ?_
 refine za.move 4 ?_
 refine za.move 5 ?_
 cases ht : pop2 l with
 | none =>
  have h1 := pop2_len ht
  rw [show onB l _ = .halt 6 by rw [onB, ht]]
  refine WA.oo 6 rfl (OW.call rfl (Pk.perm pkA) (ordered_bad G _ b A cap p a B m cm x l 14 (fun r u v e => by have h5 := congrArg List.length e; simp only [List.length_append, List.length_cons, List.length_nil] at h5; omega) hv hl) rfl (fun v' G' H' h hg => by cases h.1) (fun ch G' H' h hg => ?_) (fun G' H' h => by repeat (first | (cases h.1; done) | (cases h; done) | (obtain ⟨_, h⟩ := h) | (rcases h with h | h))))
  obtain ⟨he, rfl, c, hc, rfl⟩ := h
  cases he
  refine WK.un ?_
  exact QF.panicP ⟨rfl, rfl, _, ⟨c, hc, rfl⟩, rfl⟩
 | some rv =>
  obtain ⟨r, u, v⟩ := rv
  rw [show onB l _ = (if ordOK u v then .set (r ++ [truthV (ordS 14 u v)]) else .halt 6) by rw [onB, ht]]
  obtain rfl := pop2_some ht
  by_cases hk : ordOK u v
  rotate_left
  ·rw [if_neg hk]
   refine WA.oo 6 rfl (OW.call rfl (Pk.perm pkA) (ordered_bad G _ b A cap p a B m cm x (r ++ [u, v]) 14 (fun r' u' v' e => by rw [pop2_snoc] at ht; have := pop2_snoc r' u' v'; rw [← e, pop2_snoc] at this; cases this; exact hk) hv hl) rfl (fun v' G' H' h hg => by cases h.1) (fun ch G' H' h hg => ?_) (fun G' H' h => by repeat (first | (cases h.1; done) | (cases h; done) | (obtain ⟨_, h⟩ := h) | (rcases h with h | h))))
   obtain ⟨he, rfl, c, hc, rfl⟩ := h
   cases he
   refine WK.un ?_
   exact QF.panicP ⟨rfl, rfl, _, ⟨c, hc, rfl⟩, rfl⟩
  rw [if_pos hk]
  refine WA.oo 6 rfl (OW.callK rfl (ordered_ok G _ b A cap p a B m cm x r u v 14 hk hv hl) rfl fun v' G' H' h hg => ?_)
  obtain ⟨he, rfl, rfl, hv2⟩ := h
  cases he
  refine WA.oo 7 rfl (OW.callR rfl (Hf := []) (List.Perm.refl _) (truth_fn G (ordS 14 u v)) rfl (by rintro e G' H' ⟨h, _⟩; exact ⟨_, h⟩) fun v' G' H' h hg => ?_)
  obtain ⟨he, rfl, rfl⟩ := h
  cases he
  refine WA.oo 8 rfl (OW.callK rfl (pushV_fn G b A cap p a B m cm r x (truthV (ordS 14 u v)) hv2 (by simp at hl; omega)) rfl fun v' G' H' h hg => ?_)
  obtain ⟨A2, cap2, x2, he, rfl, rfl, hv3⟩ := h
  cases he
  refine WA.done kr ?_
  refine WK.un ?_
  refine WC.exit ?_
  refine WK.un ?_
  exact QF.p0 (.inr rfl) rfl ⟨rfl, A2, cap2, x2, rfl, hv3, rfl⟩ pkA
theorem plain_ord15 (hv : VVec A cap l x) (hl : l.length ≤ 1000000) : Fn Tryz.prog 198 #[.pointer (some ⟨mb, 0, none⟩), .pointer (some ⟨b, 0, none⟩), .agg #[.string nm, .bool ex, qv, .int .i64 lo, .int .i64 res, cv], .int .i64 15] G
  (mcB mb c1 c2 c3 FA fn fcap en w OA out.length ocap st ed :: ox :: frB b A l.length cap p a B m cm :: x :: fx :: Hx) (PlR G mb c1 c2 c3 FA fn fcap en w OA ocap st ed out ox fx Hx RL b A cap p a B m cm x (plainR res l 15 out.length)) := by
 refine Fn.enter Tryz.func198 rfl rfl fun w0 => ?_
 rw [show plainR res l 15 out.length = onB l fun r u v => if ordOK u v then .set (r ++ [truthV (ordS 15 u v)]) else .halt 6 by simp [plainR]]
 refine WC.seq ?_
 refine WC.region ?_
 refine WL.oo (OW.box rfl rfl fun b1 => ?_)
 refine WL.nil ?_
 refine WK.un ?_
 refine WC.seq ?_
 refine WC.region ?_
 refine zw.move ?_
 refine WL.nil ?_
 refine WK.un ?_
 repeat (first | refine WC.seq ?_ | refine WC.block ?_ | (refine WC.region ?_; refine WL.p (Gp.eqI rfl rfl) kr rfl ?_; refine WL.p (Gp.assign rfl) kr rfl ?_; refine WL.nil ?_; refine WK.un ?_) | refine WC.cond_true rfl ?_ | refine WC.cond_false rfl ?_ | (refine WC.skip ?_; refine WK.un ?_) | (refine WC.exit ?_; refine WK.un ?_))
 refine WC.draw mixed ?_
 refine za.move 0 ?_
 refine za.nil 1 ?_
 refine za.fa 2 ?_
 refine za.move 3 ?_
 refine za.move 4 ?_
 refine za.move 5 ?_
 cases ht : pop2 l with
 | none =>
  have h1 := pop2_len ht
  rw [show onB l _ = .halt 6 by rw [onB, ht]]
  refine WA.oo 6 rfl (OW.call rfl (Pk.perm pkA) (ordered_bad G _ b A cap p a B m cm x l 15 (fun r u v e => by have h5 := congrArg List.length e; simp only [List.length_append, List.length_cons, List.length_nil] at h5; omega) hv hl) rfl (fun v' G' H' h hg => by cases h.1) (fun ch G' H' h hg => ?_) (fun G' H' h => by repeat (first | (cases h.1; done) | (cases h; done) | (obtain ⟨_, h⟩ := h) | (rcases h with h | h))))
  obtain ⟨he, rfl, c, hc, rfl⟩ := h
  cases he
  refine WK.un ?_
  exact QF.panicP ⟨rfl, rfl, _, ⟨c, hc, rfl⟩, rfl⟩
 | some rv =>
  obtain ⟨r, u, v⟩ := rv
  rw [show onB l _ = (if ordOK u v then .set (r ++ [truthV (ordS 15 u v)]) else .halt 6) by rw [onB, ht]]
  obtain rfl := pop2_some ht
  by_cases hk : ordOK u v
  rotate_left
  ·rw [if_neg hk]
   refine WA.oo 6 rfl (OW.call rfl (Pk.perm pkA) (ordered_bad G _ b A cap p a B m cm x (r ++ [u, v]) 15 (fun r' u' v' e => by rw [pop2_snoc] at ht; have := pop2_snoc r' u' v'; rw [← e, pop2_snoc] at this; cases this; exact hk) hv hl) rfl (fun v' G' H' h hg => by cases h.1) (fun ch G' H' h hg => ?_) (fun G' H' h => by repeat (first | (cases h.1; done) | (cases h; done) | (obtain ⟨_, h⟩ := h) | (rcases h with h | h))))
   obtain ⟨he, rfl, c, hc, rfl⟩ := h
   cases he
   refine WK.un ?_
   exact QF.panicP ⟨rfl, rfl, _, ⟨c, hc, rfl⟩, rfl⟩
  rw [if_pos hk]
  refine WA.oo 6 rfl (OW.callK rfl (ordered_ok G _ b A cap p a B m cm x r u v 15 hk hv hl) rfl fun v' G' H' h hg => ?_)
  obtain ⟨he, rfl, rfl, hv2⟩ := h
  cases he
  refine WA.oo 7 rfl (OW.callR rfl (Hf := []) (List.Perm.refl _) (truth_fn G (ordS 15 u v)) rfl (by rintro e G' H' ⟨h, _⟩; exact ⟨_, h⟩) fun v' G' H' h hg => ?_)
  obtain ⟨he, rfl, rfl⟩ := h
  cases he
  refine WA.oo 8 rfl (OW.callK rfl (pushV_fn G b A cap p a B m cm r x (truthV (ordS 15 u v)) hv2 (by simp at hl; omega)) rfl fun v' G' H' h hg => ?_)
  obtain ⟨A2, cap2, x2, he, rfl, rfl, hv3⟩ := h
  cases he
  refine WA.done kr ?_
  refine WK.un ?_
  refine WC.exit ?_
  refine WK.un ?_
  exact QF.p0 (.inr rfl) rfl ⟨rfl, A2, cap2, x2, rfl, hv3, rfl⟩ pkA
theorem plain_ord16 (hv : VVec A cap l x) (hl : l.length ≤ 1000000) : Fn Tryz.prog 198 #[.pointer (some ⟨mb, 0, none⟩), .pointer (some ⟨b, 0, none⟩), .agg #[.string nm, .bool ex, qv, .int .i64 lo, .int .i64 res, cv], .int .i64 16] G
  (mcB mb c1 c2 c3 FA fn fcap en w OA out.length ocap st ed :: ox :: frB b A l.length cap p a B m cm :: x :: fx :: Hx) (PlR G mb c1 c2 c3 FA fn fcap en w OA ocap st ed out ox fx Hx RL b A cap p a B m cm x (plainR res l 16 out.length)) := by
 refine Fn.enter Tryz.func198 rfl rfl fun w0 => ?_
 rw [show plainR res l 16 out.length = onB l fun r u v => if ordOK u v then .set (r ++ [truthV (ordS 16 u v)]) else .halt 6 by simp [plainR]]
 refine WC.seq ?_
 refine WC.region ?_
 refine WL.oo (OW.box rfl rfl fun b1 => ?_)
 refine WL.nil ?_
 refine WK.un ?_
 refine WC.seq ?_
 refine WC.region ?_
 refine zw.move ?_
 refine WL.nil ?_
 refine WK.un ?_
 repeat (first | refine WC.seq ?_ | refine WC.block ?_ | (refine WC.region ?_; refine WL.p (Gp.eqI rfl rfl) kr rfl ?_; refine WL.p (Gp.assign rfl) kr rfl ?_; refine WL.nil ?_; refine WK.un ?_) | refine WC.cond_true rfl ?_ | refine WC.cond_false rfl ?_ | (refine WC.skip ?_; refine WK.un ?_) | (refine WC.exit ?_; refine WK.un ?_))
 refine WC.draw mixed ?_
 refine za.move 0 ?_
 refine za.nil 1 ?_
 refine za.fa 2 ?_
 refine za.move 3 ?_
 refine za.move 4 ?_
 refine za.move 5 ?_
 cases ht : pop2 l with
 | none =>
  have h1 := pop2_len ht
  rw [show onB l _ = .halt 6 by rw [onB, ht]]
  refine WA.oo 6 rfl (OW.call rfl (Pk.perm pkA) (ordered_bad G _ b A cap p a B m cm x l 16 (fun r u v e => by have h5 := congrArg List.length e; simp only [List.length_append, List.length_cons, List.length_nil] at h5; omega) hv hl) rfl (fun v' G' H' h hg => by cases h.1) (fun ch G' H' h hg => ?_) (fun G' H' h => by repeat (first | (cases h.1; done) | (cases h; done) | (obtain ⟨_, h⟩ := h) | (rcases h with h | h))))
  obtain ⟨he, rfl, c, hc, rfl⟩ := h
  cases he
  refine WK.un ?_
  exact QF.panicP ⟨rfl, rfl, _, ⟨c, hc, rfl⟩, rfl⟩
 | some rv =>
  obtain ⟨r, u, v⟩ := rv
  rw [show onB l _ = (if ordOK u v then .set (r ++ [truthV (ordS 16 u v)]) else .halt 6) by rw [onB, ht]]
  obtain rfl := pop2_some ht
  by_cases hk : ordOK u v
  rotate_left
  ·rw [if_neg hk]
   refine WA.oo 6 rfl (OW.call rfl (Pk.perm pkA) (ordered_bad G _ b A cap p a B m cm x (r ++ [u, v]) 16 (fun r' u' v' e => by rw [pop2_snoc] at ht; have := pop2_snoc r' u' v'; rw [← e, pop2_snoc] at this; cases this; exact hk) hv hl) rfl (fun v' G' H' h hg => by cases h.1) (fun ch G' H' h hg => ?_) (fun G' H' h => by repeat (first | (cases h.1; done) | (cases h; done) | (obtain ⟨_, h⟩ := h) | (rcases h with h | h))))
   obtain ⟨he, rfl, c, hc, rfl⟩ := h
   cases he
   refine WK.un ?_
   exact QF.panicP ⟨rfl, rfl, _, ⟨c, hc, rfl⟩, rfl⟩
  rw [if_pos hk]
  refine WA.oo 6 rfl (OW.callK rfl (ordered_ok G _ b A cap p a B m cm x r u v 16 hk hv hl) rfl fun v' G' H' h hg => ?_)
  obtain ⟨he, rfl, rfl, hv2⟩ := h
  cases he
  refine WA.oo 7 rfl (OW.callR rfl (Hf := []) (List.Perm.refl _) (truth_fn G (ordS 16 u v)) rfl (by rintro e G' H' ⟨h, _⟩; exact ⟨_, h⟩) fun v' G' H' h hg => ?_)
  obtain ⟨he, rfl, rfl⟩ := h
  cases he
  refine WA.oo 8 rfl (OW.callK rfl (pushV_fn G b A cap p a B m cm r x (truthV (ordS 16 u v)) hv2 (by simp at hl; omega)) rfl fun v' G' H' h hg => ?_)
  obtain ⟨A2, cap2, x2, he, rfl, rfl, hv3⟩ := h
  cases he
  refine WA.done kr ?_
  refine WK.un ?_
  refine WC.exit ?_
  refine WK.un ?_
  exact QF.p0 (.inr rfl) rfl ⟨rfl, A2, cap2, x2, rfl, hv3, rfl⟩ pkA
theorem plain_ord17 (hv : VVec A cap l x) (hl : l.length ≤ 1000000) : Fn Tryz.prog 198 #[.pointer (some ⟨mb, 0, none⟩), .pointer (some ⟨b, 0, none⟩), .agg #[.string nm, .bool ex, qv, .int .i64 lo, .int .i64 res, cv], .int .i64 17] G
  (mcB mb c1 c2 c3 FA fn fcap en w OA out.length ocap st ed :: ox :: frB b A l.length cap p a B m cm :: x :: fx :: Hx) (PlR G mb c1 c2 c3 FA fn fcap en w OA ocap st ed out ox fx Hx RL b A cap p a B m cm x (plainR res l 17 out.length)) := by
 refine Fn.enter Tryz.func198 rfl rfl fun w0 => ?_
 rw [show plainR res l 17 out.length = onB l fun r u v => if ordOK u v then .set (r ++ [truthV (ordS 17 u v)]) else .halt 6 by simp [plainR]]
 refine WC.seq ?_
 refine WC.region ?_
 refine WL.oo (OW.box rfl rfl fun b1 => ?_)
 refine WL.nil ?_
 refine WK.un ?_
 refine WC.seq ?_
 refine WC.region ?_
 refine zw.move ?_
 refine WL.nil ?_
 refine WK.un ?_
 repeat (first | refine WC.seq ?_ | refine WC.block ?_ | (refine WC.region ?_; refine WL.p (Gp.eqI rfl rfl) kr rfl ?_; refine WL.p (Gp.assign rfl) kr rfl ?_; refine WL.nil ?_; refine WK.un ?_) | refine WC.cond_true rfl ?_ | refine WC.cond_false rfl ?_ | (refine WC.skip ?_; refine WK.un ?_) | (refine WC.exit ?_; refine WK.un ?_))
 refine WC.draw mixed ?_
 refine za.move 0 ?_
 refine za.nil 1 ?_
 refine za.fa 2 ?_
 refine za.move 3 ?_
 refine za.move 4 ?_
 refine za.move 5 ?_
 cases ht : pop2 l with
 | none =>
  have h1 := pop2_len ht
  rw [show onB l _ = .halt 6 by rw [onB, ht]]
  refine WA.oo 6 rfl (OW.call rfl (Pk.perm pkA) (ordered_bad G _ b A cap p a B m cm x l 17 (fun r u v e => by have h5 := congrArg List.length e; simp only [List.length_append, List.length_cons, List.length_nil] at h5; omega) hv hl) rfl (fun v' G' H' h hg => by cases h.1) (fun ch G' H' h hg => ?_) (fun G' H' h => by repeat (first | (cases h.1; done) | (cases h; done) | (obtain ⟨_, h⟩ := h) | (rcases h with h | h))))
  obtain ⟨he, rfl, c, hc, rfl⟩ := h
  cases he
  refine WK.un ?_
  exact QF.panicP ⟨rfl, rfl, _, ⟨c, hc, rfl⟩, rfl⟩
 | some rv =>
  obtain ⟨r, u, v⟩ := rv
  rw [show onB l _ = (if ordOK u v then .set (r ++ [truthV (ordS 17 u v)]) else .halt 6) by rw [onB, ht]]
  obtain rfl := pop2_some ht
  by_cases hk : ordOK u v
  rotate_left
  ·rw [if_neg hk]
   refine WA.oo 6 rfl (OW.call rfl (Pk.perm pkA) (ordered_bad G _ b A cap p a B m cm x (r ++ [u, v]) 17 (fun r' u' v' e => by rw [pop2_snoc] at ht; have := pop2_snoc r' u' v'; rw [← e, pop2_snoc] at this; cases this; exact hk) hv hl) rfl (fun v' G' H' h hg => by cases h.1) (fun ch G' H' h hg => ?_) (fun G' H' h => by repeat (first | (cases h.1; done) | (cases h; done) | (obtain ⟨_, h⟩ := h) | (rcases h with h | h))))
   obtain ⟨he, rfl, c, hc, rfl⟩ := h
   cases he
   refine WK.un ?_
   exact QF.panicP ⟨rfl, rfl, _, ⟨c, hc, rfl⟩, rfl⟩
  rw [if_pos hk]
  refine WA.oo 6 rfl (OW.callK rfl (ordered_ok G _ b A cap p a B m cm x r u v 17 hk hv hl) rfl fun v' G' H' h hg => ?_)
  obtain ⟨he, rfl, rfl, hv2⟩ := h
  cases he
  refine WA.oo 7 rfl (OW.callR rfl (Hf := []) (List.Perm.refl _) (truth_fn G (ordS 17 u v)) rfl (by rintro e G' H' ⟨h, _⟩; exact ⟨_, h⟩) fun v' G' H' h hg => ?_)
  obtain ⟨he, rfl, rfl⟩ := h
  cases he
  refine WA.oo 8 rfl (OW.callK rfl (pushV_fn G b A cap p a B m cm r x (truthV (ordS 17 u v)) hv2 (by simp at hl; omega)) rfl fun v' G' H' h hg => ?_)
  obtain ⟨A2, cap2, x2, he, rfl, rfl, hv3⟩ := h
  cases he
  refine WA.done kr ?_
  refine WK.un ?_
  refine WC.exit ?_
  refine WK.un ?_
  exact QF.p0 (.inr rfl) rfl ⟨rfl, A2, cap2, x2, rfl, hv3, rfl⟩ pkA
theorem plain_rec18 (hv : VVec A cap l x) (hl : l.length ≤ 1000000) : Fn Tryz.prog 198 #[.pointer (some ⟨mb, 0, none⟩), .pointer (some ⟨b, 0, none⟩), .agg #[.string nm, .bool ex, qv, .int .i64 lo, .int .i64 res, cv], .int .i64 18] G
  (mcB mb c1 c2 c3 FA fn fcap en w OA out.length ocap st ed :: ox :: frB b A l.length cap p a B m cm :: x :: fx :: Hx) (PlR G mb c1 c2 c3 FA fn fcap en w OA ocap st ed out ox fx Hx RL b A cap p a B m cm x (plainR res l 18 out.length)) := by
 refine Fn.enter Tryz.func198 rfl rfl fun w0 => ?_
 rw [show plainR res l 18 out.length = on2 l 1 (recR 18) by simp [plainR]]
 refine WC.seq ?_
 refine WC.region ?_
 refine WL.oo (OW.box rfl rfl fun b1 => ?_)
 refine WL.nil ?_
 refine WK.un ?_
 refine WC.seq ?_
 refine WC.region ?_
 refine zw.move ?_
 refine WL.nil ?_
 refine WK.un ?_
 repeat (first | refine WC.seq ?_ | refine WC.block ?_ | (refine WC.region ?_; refine WL.p (Gp.eqI rfl rfl) kr rfl ?_; refine WL.p (Gp.assign rfl) kr rfl ?_; refine WL.nil ?_; refine WK.un ?_) | refine WC.cond_true rfl ?_ | refine WC.cond_false rfl ?_ | (refine WC.skip ?_; refine WK.un ?_) | (refine WC.exit ?_; refine WK.un ?_))
 refine WC.region ?_
 refine zw.move ?_
 refine zw.move ?_
 cases ht : ty2 l 1 with
 | none =>
  rw [show on2 l 1 _ = .halt 6 by rw [on2, ht]]
  refine WL.oo (OW.call rfl (Pk.perm pkA) (typed2_no G _ b A cap p a B m cm x l 1 ht hv hl) rfl (fun v' G' H' h hg => by cases h.1) (fun ch G' H' h hg => ?_) (fun G' H' h => by repeat (first | (cases h.1; done) | (cases h; done) | (obtain ⟨_, h⟩ := h) | (rcases h with h | h))))
  obtain ⟨he, rfl, c, hc, rfl⟩ := h
  cases he
  refine WK.un ?_
  exact QF.panicP ⟨rfl, rfl, _, ⟨c, hc, rfl⟩, rfl⟩
 | some rv =>
  obtain ⟨r, u, v⟩ := rv
  rw [show on2 l 1 _ = recR 18 r u v by rw [on2, ht]]
  obtain ⟨rfl, hut, hvt⟩ := ty2_some ht
  refine WL.oo (OW.callK rfl (typed2_ok G _ b A cap p a B m cm x r u v 1 hut hvt hv hl) rfl fun v' G' H' h hg => ?_)
  obtain ⟨A', cap', x', he, rfl, rfl, hv1, hv2⟩ := h
  cases he
  obtain ⟨hlv, ⟨h1, h2, h3, h4⟩ | ⟨b', c', rfl, rfl, h1, h2, h3⟩⟩ := hv1
  ·simp at h2
  have hc0 : ∀ (j : Nat) (w : Value), (vcells u)[j]? = some w → c'[0 + (0 : Int).toNat * 4 + j]? = some w := fun j w hw => two_lo h3 hw
  have hc1 : ∀ (j : Nat) (w : Value), (vcells v)[j]? = some w → c'[0 + (1 : Int).toNat * 4 + j]? = some w := fun j w hw => two_hi h3 hw
  refine zw.assign ?_
  refine WL.nil ?_
  refine WK.un ?_
  refine WC.draw mixed ?_
  refine za.move 0 ?_
  refine za.nil 1 ?_
  refine za.fa 2 ?_
  refine za.move 3 ?_
  refine za.move 4 ?_
  refine za.ix 5 ?_
  refine za.fa 6 ?_
  refine WA.vv 7 rfl (Gv.load1 rfl .here (hc0 1 _ rfl)) ?_
  refine za.move 8 ?_
  refine za.ix 9 ?_
  refine za.fa 10 ?_
  refine WA.vv 11 rfl (Gv.load1 rfl .here (hc1 1 _ rfl)) ?_
  cases hq : reckonS 18 u.i v.i with
  | none =>
   rw [show recR 18 r u v = .halt 2 by rw [recR, hq]]
   refine WA.oo 12 rfl (OW.call rfl (Hf := []) (List.Perm.refl _) ((reckon_fn G 18 u.i v.i).mono fun e G' H' h => (by rw [hq] at h; exact h : e = halted 2 ∧ G = G' ∧ H' = [])) rfl (fun v G' H' h _ => by cases h.1) (fun ch G' H' h _ => ?_) (fun G' H' h => by cases h.1))
   obtain ⟨he, rfl, rfl⟩ := h
   cases he
   refine WK.un ?_
   exact QF.panicP ⟨rfl, rfl, _, Left.of b A r.length cap p a B m cm, rfl⟩ pkA
  | some n =>
   rw [show recR 18 r u v = .set (r ++ [numV n]) by rw [recR, hq]]
   refine WA.oo 12 rfl (OW.callR rfl (Hf := []) (List.Perm.refl _) ((reckon_fn G 18 u.i v.i).mono fun e G' H' h => (by rw [hq] at h; exact h : e = .returned (.int .i64 n) ∧ G = G' ∧ H' = [])) rfl (by rintro e G' H' ⟨h, _⟩; exact ⟨_, h⟩) fun v' G' H' h hg => ?_)
   obtain ⟨he, rfl, rfl⟩ := h
   cases he
   refine WA.oo 13 rfl (OW.callR rfl (Hf := []) (List.Perm.refl _) (number_fnQ G n) rfl (by rintro e G' H' ⟨h, _⟩; exact ⟨_, h⟩) fun v' G' H' h hg => ?_)
   obtain ⟨he, rfl, rfl⟩ := h
   cases he
   refine WA.oo 14 rfl (OW.callK rfl (pushV_fn G b A cap p a B m cm r x (numV n) hv2 (by simp at hl; omega)) rfl fun v' G' H' h hg => ?_)
   obtain ⟨A2, cap2, x2, he, rfl, rfl, hv3⟩ := h
   cases he
   refine WA.done kr ?_
   refine WK.un ?_
   refine WC.exit ?_
   refine WK.un ?_
   exact QF.p0 (.inr rfl) rfl ⟨rfl, A2, cap2, x2, rfl, hv3, rfl⟩ pkA
theorem plain_rec19 (hv : VVec A cap l x) (hl : l.length ≤ 1000000) : Fn Tryz.prog 198 #[.pointer (some ⟨mb, 0, none⟩), .pointer (some ⟨b, 0, none⟩), .agg #[.string nm, .bool ex, qv, .int .i64 lo, .int .i64 res, cv], .int .i64 19] G
  (mcB mb c1 c2 c3 FA fn fcap en w OA out.length ocap st ed :: ox :: frB b A l.length cap p a B m cm :: x :: fx :: Hx) (PlR G mb c1 c2 c3 FA fn fcap en w OA ocap st ed out ox fx Hx RL b A cap p a B m cm x (plainR res l 19 out.length)) := by
 refine Fn.enter Tryz.func198 rfl rfl fun w0 => ?_
 rw [show plainR res l 19 out.length = on2 l 1 (recR 19) by simp [plainR]]
 refine WC.seq ?_
 refine WC.region ?_
 refine WL.oo (OW.box rfl rfl fun b1 => ?_)
 refine WL.nil ?_
 refine WK.un ?_
 refine WC.seq ?_
 refine WC.region ?_
 refine zw.move ?_
 refine WL.nil ?_
 refine WK.un ?_
 repeat (first | refine WC.seq ?_ | refine WC.block ?_ | (refine WC.region ?_; refine WL.p (Gp.eqI rfl rfl) kr rfl ?_; refine WL.p (Gp.assign rfl) kr rfl ?_; refine WL.nil ?_; refine WK.un ?_) | refine WC.cond_true rfl ?_ | refine WC.cond_false rfl ?_ | (refine WC.skip ?_; refine WK.un ?_) | (refine WC.exit ?_; refine WK.un ?_))
 refine WC.region ?_
 refine zw.move ?_
 refine zw.move ?_
 cases ht : ty2 l 1 with
 | none =>
  rw [show on2 l 1 _ = .halt 6 by rw [on2, ht]]
  refine WL.oo (OW.call rfl (Pk.perm pkA) (typed2_no G _ b A cap p a B m cm x l 1 ht hv hl) rfl (fun v' G' H' h hg => by cases h.1) (fun ch G' H' h hg => ?_) (fun G' H' h => by repeat (first | (cases h.1; done) | (cases h; done) | (obtain ⟨_, h⟩ := h) | (rcases h with h | h))))
  obtain ⟨he, rfl, c, hc, rfl⟩ := h
  cases he
  refine WK.un ?_
  exact QF.panicP ⟨rfl, rfl, _, ⟨c, hc, rfl⟩, rfl⟩
 | some rv =>
  obtain ⟨r, u, v⟩ := rv
  rw [show on2 l 1 _ = recR 19 r u v by rw [on2, ht]]
  obtain ⟨rfl, hut, hvt⟩ := ty2_some ht
  refine WL.oo (OW.callK rfl (typed2_ok G _ b A cap p a B m cm x r u v 1 hut hvt hv hl) rfl fun v' G' H' h hg => ?_)
  obtain ⟨A', cap', x', he, rfl, rfl, hv1, hv2⟩ := h
  cases he
  obtain ⟨hlv, ⟨h1, h2, h3, h4⟩ | ⟨b', c', rfl, rfl, h1, h2, h3⟩⟩ := hv1
  ·simp at h2
  have hc0 : ∀ (j : Nat) (w : Value), (vcells u)[j]? = some w → c'[0 + (0 : Int).toNat * 4 + j]? = some w := fun j w hw => two_lo h3 hw
  have hc1 : ∀ (j : Nat) (w : Value), (vcells v)[j]? = some w → c'[0 + (1 : Int).toNat * 4 + j]? = some w := fun j w hw => two_hi h3 hw
  refine zw.assign ?_
  refine WL.nil ?_
  refine WK.un ?_
  refine WC.draw mixed ?_
  refine za.move 0 ?_
  refine za.nil 1 ?_
  refine za.fa 2 ?_
  refine za.move 3 ?_
  refine za.move 4 ?_
  refine za.ix 5 ?_
  refine za.fa 6 ?_
  refine WA.vv 7 rfl (Gv.load1 rfl .here (hc0 1 _ rfl)) ?_
  refine za.move 8 ?_
  refine za.ix 9 ?_
  refine za.fa 10 ?_
  refine WA.vv 11 rfl (Gv.load1 rfl .here (hc1 1 _ rfl)) ?_
  cases hq : reckonS 19 u.i v.i with
  | none =>
   rw [show recR 19 r u v = .halt 2 by rw [recR, hq]]
   refine WA.oo 12 rfl (OW.call rfl (Hf := []) (List.Perm.refl _) ((reckon_fn G 19 u.i v.i).mono fun e G' H' h => (by rw [hq] at h; exact h : e = halted 2 ∧ G = G' ∧ H' = [])) rfl (fun v G' H' h _ => by cases h.1) (fun ch G' H' h _ => ?_) (fun G' H' h => by cases h.1))
   obtain ⟨he, rfl, rfl⟩ := h
   cases he
   refine WK.un ?_
   exact QF.panicP ⟨rfl, rfl, _, Left.of b A r.length cap p a B m cm, rfl⟩ pkA
  | some n =>
   rw [show recR 19 r u v = .set (r ++ [numV n]) by rw [recR, hq]]
   refine WA.oo 12 rfl (OW.callR rfl (Hf := []) (List.Perm.refl _) ((reckon_fn G 19 u.i v.i).mono fun e G' H' h => (by rw [hq] at h; exact h : e = .returned (.int .i64 n) ∧ G = G' ∧ H' = [])) rfl (by rintro e G' H' ⟨h, _⟩; exact ⟨_, h⟩) fun v' G' H' h hg => ?_)
   obtain ⟨he, rfl, rfl⟩ := h
   cases he
   refine WA.oo 13 rfl (OW.callR rfl (Hf := []) (List.Perm.refl _) (number_fnQ G n) rfl (by rintro e G' H' ⟨h, _⟩; exact ⟨_, h⟩) fun v' G' H' h hg => ?_)
   obtain ⟨he, rfl, rfl⟩ := h
   cases he
   refine WA.oo 14 rfl (OW.callK rfl (pushV_fn G b A cap p a B m cm r x (numV n) hv2 (by simp at hl; omega)) rfl fun v' G' H' h hg => ?_)
   obtain ⟨A2, cap2, x2, he, rfl, rfl, hv3⟩ := h
   cases he
   refine WA.done kr ?_
   refine WK.un ?_
   refine WC.exit ?_
   refine WK.un ?_
   exact QF.p0 (.inr rfl) rfl ⟨rfl, A2, cap2, x2, rfl, hv3, rfl⟩ pkA
theorem plain_rec21 (hv : VVec A cap l x) (hl : l.length ≤ 1000000) : Fn Tryz.prog 198 #[.pointer (some ⟨mb, 0, none⟩), .pointer (some ⟨b, 0, none⟩), .agg #[.string nm, .bool ex, qv, .int .i64 lo, .int .i64 res, cv], .int .i64 21] G
  (mcB mb c1 c2 c3 FA fn fcap en w OA out.length ocap st ed :: ox :: frB b A l.length cap p a B m cm :: x :: fx :: Hx) (PlR G mb c1 c2 c3 FA fn fcap en w OA ocap st ed out ox fx Hx RL b A cap p a B m cm x (plainR res l 21 out.length)) := by
 refine Fn.enter Tryz.func198 rfl rfl fun w0 => ?_
 rw [show plainR res l 21 out.length = on2 l 1 (recR 21) by simp [plainR]]
 refine WC.seq ?_
 refine WC.region ?_
 refine WL.oo (OW.box rfl rfl fun b1 => ?_)
 refine WL.nil ?_
 refine WK.un ?_
 refine WC.seq ?_
 refine WC.region ?_
 refine zw.move ?_
 refine WL.nil ?_
 refine WK.un ?_
 repeat (first | refine WC.seq ?_ | refine WC.block ?_ | (refine WC.region ?_; refine WL.p (Gp.eqI rfl rfl) kr rfl ?_; refine WL.p (Gp.assign rfl) kr rfl ?_; refine WL.nil ?_; refine WK.un ?_) | refine WC.cond_true rfl ?_ | refine WC.cond_false rfl ?_ | (refine WC.skip ?_; refine WK.un ?_) | (refine WC.exit ?_; refine WK.un ?_))
 refine WC.region ?_
 refine zw.move ?_
 refine zw.move ?_
 cases ht : ty2 l 1 with
 | none =>
  rw [show on2 l 1 _ = .halt 6 by rw [on2, ht]]
  refine WL.oo (OW.call rfl (Pk.perm pkA) (typed2_no G _ b A cap p a B m cm x l 1 ht hv hl) rfl (fun v' G' H' h hg => by cases h.1) (fun ch G' H' h hg => ?_) (fun G' H' h => by repeat (first | (cases h.1; done) | (cases h; done) | (obtain ⟨_, h⟩ := h) | (rcases h with h | h))))
  obtain ⟨he, rfl, c, hc, rfl⟩ := h
  cases he
  refine WK.un ?_
  exact QF.panicP ⟨rfl, rfl, _, ⟨c, hc, rfl⟩, rfl⟩
 | some rv =>
  obtain ⟨r, u, v⟩ := rv
  rw [show on2 l 1 _ = recR 21 r u v by rw [on2, ht]]
  obtain ⟨rfl, hut, hvt⟩ := ty2_some ht
  refine WL.oo (OW.callK rfl (typed2_ok G _ b A cap p a B m cm x r u v 1 hut hvt hv hl) rfl fun v' G' H' h hg => ?_)
  obtain ⟨A', cap', x', he, rfl, rfl, hv1, hv2⟩ := h
  cases he
  obtain ⟨hlv, ⟨h1, h2, h3, h4⟩ | ⟨b', c', rfl, rfl, h1, h2, h3⟩⟩ := hv1
  ·simp at h2
  have hc0 : ∀ (j : Nat) (w : Value), (vcells u)[j]? = some w → c'[0 + (0 : Int).toNat * 4 + j]? = some w := fun j w hw => two_lo h3 hw
  have hc1 : ∀ (j : Nat) (w : Value), (vcells v)[j]? = some w → c'[0 + (1 : Int).toNat * 4 + j]? = some w := fun j w hw => two_hi h3 hw
  refine zw.assign ?_
  refine WL.nil ?_
  refine WK.un ?_
  refine WC.draw mixed ?_
  refine za.move 0 ?_
  refine za.nil 1 ?_
  refine za.fa 2 ?_
  refine za.move 3 ?_
  refine za.move 4 ?_
  refine za.ix 5 ?_
  refine za.fa 6 ?_
  refine WA.vv 7 rfl (Gv.load1 rfl .here (hc0 1 _ rfl)) ?_
  refine za.move 8 ?_
  refine za.ix 9 ?_
  refine za.fa 10 ?_
  refine WA.vv 11 rfl (Gv.load1 rfl .here (hc1 1 _ rfl)) ?_
  cases hq : reckonS 21 u.i v.i with
  | none =>
   rw [show recR 21 r u v = .halt 2 by rw [recR, hq]]
   refine WA.oo 12 rfl (OW.call rfl (Hf := []) (List.Perm.refl _) ((reckon_fn G 21 u.i v.i).mono fun e G' H' h => (by rw [hq] at h; exact h : e = halted 2 ∧ G = G' ∧ H' = [])) rfl (fun v G' H' h _ => by cases h.1) (fun ch G' H' h _ => ?_) (fun G' H' h => by cases h.1))
   obtain ⟨he, rfl, rfl⟩ := h
   cases he
   refine WK.un ?_
   exact QF.panicP ⟨rfl, rfl, _, Left.of b A r.length cap p a B m cm, rfl⟩ pkA
  | some n =>
   rw [show recR 21 r u v = .set (r ++ [numV n]) by rw [recR, hq]]
   refine WA.oo 12 rfl (OW.callR rfl (Hf := []) (List.Perm.refl _) ((reckon_fn G 21 u.i v.i).mono fun e G' H' h => (by rw [hq] at h; exact h : e = .returned (.int .i64 n) ∧ G = G' ∧ H' = [])) rfl (by rintro e G' H' ⟨h, _⟩; exact ⟨_, h⟩) fun v' G' H' h hg => ?_)
   obtain ⟨he, rfl, rfl⟩ := h
   cases he
   refine WA.oo 13 rfl (OW.callR rfl (Hf := []) (List.Perm.refl _) (number_fnQ G n) rfl (by rintro e G' H' ⟨h, _⟩; exact ⟨_, h⟩) fun v' G' H' h hg => ?_)
   obtain ⟨he, rfl, rfl⟩ := h
   cases he
   refine WA.oo 14 rfl (OW.callK rfl (pushV_fn G b A cap p a B m cm r x (numV n) hv2 (by simp at hl; omega)) rfl fun v' G' H' h hg => ?_)
   obtain ⟨A2, cap2, x2, he, rfl, rfl, hv3⟩ := h
   cases he
   refine WA.done kr ?_
   refine WK.un ?_
   refine WC.exit ?_
   refine WK.un ?_
   exact QF.p0 (.inr rfl) rfl ⟨rfl, A2, cap2, x2, rfl, hv3, rfl⟩ pkA
theorem plain_rec22 (hv : VVec A cap l x) (hl : l.length ≤ 1000000) : Fn Tryz.prog 198 #[.pointer (some ⟨mb, 0, none⟩), .pointer (some ⟨b, 0, none⟩), .agg #[.string nm, .bool ex, qv, .int .i64 lo, .int .i64 res, cv], .int .i64 22] G
  (mcB mb c1 c2 c3 FA fn fcap en w OA out.length ocap st ed :: ox :: frB b A l.length cap p a B m cm :: x :: fx :: Hx) (PlR G mb c1 c2 c3 FA fn fcap en w OA ocap st ed out ox fx Hx RL b A cap p a B m cm x (plainR res l 22 out.length)) := by
 refine Fn.enter Tryz.func198 rfl rfl fun w0 => ?_
 rw [show plainR res l 22 out.length = on2 l 1 (recR 22) by simp [plainR]]
 refine WC.seq ?_
 refine WC.region ?_
 refine WL.oo (OW.box rfl rfl fun b1 => ?_)
 refine WL.nil ?_
 refine WK.un ?_
 refine WC.seq ?_
 refine WC.region ?_
 refine zw.move ?_
 refine WL.nil ?_
 refine WK.un ?_
 repeat (first | refine WC.seq ?_ | refine WC.block ?_ | (refine WC.region ?_; refine WL.p (Gp.eqI rfl rfl) kr rfl ?_; refine WL.p (Gp.assign rfl) kr rfl ?_; refine WL.nil ?_; refine WK.un ?_) | refine WC.cond_true rfl ?_ | refine WC.cond_false rfl ?_ | (refine WC.skip ?_; refine WK.un ?_) | (refine WC.exit ?_; refine WK.un ?_))
 refine WC.region ?_
 refine zw.move ?_
 refine zw.move ?_
 cases ht : ty2 l 1 with
 | none =>
  rw [show on2 l 1 _ = .halt 6 by rw [on2, ht]]
  refine WL.oo (OW.call rfl (Pk.perm pkA) (typed2_no G _ b A cap p a B m cm x l 1 ht hv hl) rfl (fun v' G' H' h hg => by cases h.1) (fun ch G' H' h hg => ?_) (fun G' H' h => by repeat (first | (cases h.1; done) | (cases h; done) | (obtain ⟨_, h⟩ := h) | (rcases h with h | h))))
  obtain ⟨he, rfl, c, hc, rfl⟩ := h
  cases he
  refine WK.un ?_
  exact QF.panicP ⟨rfl, rfl, _, ⟨c, hc, rfl⟩, rfl⟩
 | some rv =>
  obtain ⟨r, u, v⟩ := rv
  rw [show on2 l 1 _ = recR 22 r u v by rw [on2, ht]]
  obtain ⟨rfl, hut, hvt⟩ := ty2_some ht
  refine WL.oo (OW.callK rfl (typed2_ok G _ b A cap p a B m cm x r u v 1 hut hvt hv hl) rfl fun v' G' H' h hg => ?_)
  obtain ⟨A', cap', x', he, rfl, rfl, hv1, hv2⟩ := h
  cases he
  obtain ⟨hlv, ⟨h1, h2, h3, h4⟩ | ⟨b', c', rfl, rfl, h1, h2, h3⟩⟩ := hv1
  ·simp at h2
  have hc0 : ∀ (j : Nat) (w : Value), (vcells u)[j]? = some w → c'[0 + (0 : Int).toNat * 4 + j]? = some w := fun j w hw => two_lo h3 hw
  have hc1 : ∀ (j : Nat) (w : Value), (vcells v)[j]? = some w → c'[0 + (1 : Int).toNat * 4 + j]? = some w := fun j w hw => two_hi h3 hw
  refine zw.assign ?_
  refine WL.nil ?_
  refine WK.un ?_
  refine WC.draw mixed ?_
  refine za.move 0 ?_
  refine za.nil 1 ?_
  refine za.fa 2 ?_
  refine za.move 3 ?_
  refine za.move 4 ?_
  refine za.ix 5 ?_
  refine za.fa 6 ?_
  refine WA.vv 7 rfl (Gv.load1 rfl .here (hc0 1 _ rfl)) ?_
  refine za.move 8 ?_
  refine za.ix 9 ?_
  refine za.fa 10 ?_
  refine WA.vv 11 rfl (Gv.load1 rfl .here (hc1 1 _ rfl)) ?_
  cases hq : reckonS 22 u.i v.i with
  | none =>
   rw [show recR 22 r u v = .halt 2 by rw [recR, hq]]
   refine WA.oo 12 rfl (OW.call rfl (Hf := []) (List.Perm.refl _) ((reckon_fn G 22 u.i v.i).mono fun e G' H' h => (by rw [hq] at h; exact h : e = halted 2 ∧ G = G' ∧ H' = [])) rfl (fun v G' H' h _ => by cases h.1) (fun ch G' H' h _ => ?_) (fun G' H' h => by cases h.1))
   obtain ⟨he, rfl, rfl⟩ := h
   cases he
   refine WK.un ?_
   exact QF.panicP ⟨rfl, rfl, _, Left.of b A r.length cap p a B m cm, rfl⟩ pkA
  | some n =>
   rw [show recR 22 r u v = .set (r ++ [numV n]) by rw [recR, hq]]
   refine WA.oo 12 rfl (OW.callR rfl (Hf := []) (List.Perm.refl _) ((reckon_fn G 22 u.i v.i).mono fun e G' H' h => (by rw [hq] at h; exact h : e = .returned (.int .i64 n) ∧ G = G' ∧ H' = [])) rfl (by rintro e G' H' ⟨h, _⟩; exact ⟨_, h⟩) fun v' G' H' h hg => ?_)
   obtain ⟨he, rfl, rfl⟩ := h
   cases he
   refine WA.oo 13 rfl (OW.callR rfl (Hf := []) (List.Perm.refl _) (number_fnQ G n) rfl (by rintro e G' H' ⟨h, _⟩; exact ⟨_, h⟩) fun v' G' H' h hg => ?_)
   obtain ⟨he, rfl, rfl⟩ := h
   cases he
   refine WA.oo 14 rfl (OW.callK rfl (pushV_fn G b A cap p a B m cm r x (numV n) hv2 (by simp at hl; omega)) rfl fun v' G' H' h hg => ?_)
   obtain ⟨A2, cap2, x2, he, rfl, rfl, hv3⟩ := h
   cases he
   refine WA.done kr ?_
   refine WK.un ?_
   refine WC.exit ?_
   refine WK.un ?_
   exact QF.p0 (.inr rfl) rfl ⟨rfl, A2, cap2, x2, rfl, hv3, rfl⟩ pkA
theorem plain_rec23 (hv : VVec A cap l x) (hl : l.length ≤ 1000000) : Fn Tryz.prog 198 #[.pointer (some ⟨mb, 0, none⟩), .pointer (some ⟨b, 0, none⟩), .agg #[.string nm, .bool ex, qv, .int .i64 lo, .int .i64 res, cv], .int .i64 23] G
  (mcB mb c1 c2 c3 FA fn fcap en w OA out.length ocap st ed :: ox :: frB b A l.length cap p a B m cm :: x :: fx :: Hx) (PlR G mb c1 c2 c3 FA fn fcap en w OA ocap st ed out ox fx Hx RL b A cap p a B m cm x (plainR res l 23 out.length)) := by
 refine Fn.enter Tryz.func198 rfl rfl fun w0 => ?_
 rw [show plainR res l 23 out.length = on2 l 1 (recR 23) by simp [plainR]]
 refine WC.seq ?_
 refine WC.region ?_
 refine WL.oo (OW.box rfl rfl fun b1 => ?_)
 refine WL.nil ?_
 refine WK.un ?_
 refine WC.seq ?_
 refine WC.region ?_
 refine zw.move ?_
 refine WL.nil ?_
 refine WK.un ?_
 repeat (first | refine WC.seq ?_ | refine WC.block ?_ | (refine WC.region ?_; refine WL.p (Gp.eqI rfl rfl) kr rfl ?_; refine WL.p (Gp.assign rfl) kr rfl ?_; refine WL.nil ?_; refine WK.un ?_) | refine WC.cond_true rfl ?_ | refine WC.cond_false rfl ?_ | (refine WC.skip ?_; refine WK.un ?_) | (refine WC.exit ?_; refine WK.un ?_))
 refine WC.region ?_
 refine zw.move ?_
 refine zw.move ?_
 cases ht : ty2 l 1 with
 | none =>
  rw [show on2 l 1 _ = .halt 6 by rw [on2, ht]]
  refine WL.oo (OW.call rfl (Pk.perm pkA) (typed2_no G _ b A cap p a B m cm x l 1 ht hv hl) rfl (fun v' G' H' h hg => by cases h.1) (fun ch G' H' h hg => ?_) (fun G' H' h => by repeat (first | (cases h.1; done) | (cases h; done) | (obtain ⟨_, h⟩ := h) | (rcases h with h | h))))
  obtain ⟨he, rfl, c, hc, rfl⟩ := h
  cases he
  refine WK.un ?_
  exact QF.panicP ⟨rfl, rfl, _, ⟨c, hc, rfl⟩, rfl⟩
 | some rv =>
  obtain ⟨r, u, v⟩ := rv
  rw [show on2 l 1 _ = recR 23 r u v by rw [on2, ht]]
  obtain ⟨rfl, hut, hvt⟩ := ty2_some ht
  refine WL.oo (OW.callK rfl (typed2_ok G _ b A cap p a B m cm x r u v 1 hut hvt hv hl) rfl fun v' G' H' h hg => ?_)
  obtain ⟨A', cap', x', he, rfl, rfl, hv1, hv2⟩ := h
  cases he
  obtain ⟨hlv, ⟨h1, h2, h3, h4⟩ | ⟨b', c', rfl, rfl, h1, h2, h3⟩⟩ := hv1
  ·simp at h2
  have hc0 : ∀ (j : Nat) (w : Value), (vcells u)[j]? = some w → c'[0 + (0 : Int).toNat * 4 + j]? = some w := fun j w hw => two_lo h3 hw
  have hc1 : ∀ (j : Nat) (w : Value), (vcells v)[j]? = some w → c'[0 + (1 : Int).toNat * 4 + j]? = some w := fun j w hw => two_hi h3 hw
  refine zw.assign ?_
  refine WL.nil ?_
  refine WK.un ?_
  refine WC.draw mixed ?_
  refine za.move 0 ?_
  refine za.nil 1 ?_
  refine za.fa 2 ?_
  refine za.move 3 ?_
  refine za.move 4 ?_
  refine za.ix 5 ?_
  refine za.fa 6 ?_
  refine WA.vv 7 rfl (Gv.load1 rfl .here (hc0 1 _ rfl)) ?_
  refine za.move 8 ?_
  refine za.ix 9 ?_
  refine za.fa 10 ?_
  refine WA.vv 11 rfl (Gv.load1 rfl .here (hc1 1 _ rfl)) ?_
  cases hq : reckonS 23 u.i v.i with
  | none =>
   rw [show recR 23 r u v = .halt 2 by rw [recR, hq]]
   refine WA.oo 12 rfl (OW.call rfl (Hf := []) (List.Perm.refl _) ((reckon_fn G 23 u.i v.i).mono fun e G' H' h => (by rw [hq] at h; exact h : e = halted 2 ∧ G = G' ∧ H' = [])) rfl (fun v G' H' h _ => by cases h.1) (fun ch G' H' h _ => ?_) (fun G' H' h => by cases h.1))
   obtain ⟨he, rfl, rfl⟩ := h
   cases he
   refine WK.un ?_
   exact QF.panicP ⟨rfl, rfl, _, Left.of b A r.length cap p a B m cm, rfl⟩ pkA
  | some n =>
   rw [show recR 23 r u v = .set (r ++ [numV n]) by rw [recR, hq]]
   refine WA.oo 12 rfl (OW.callR rfl (Hf := []) (List.Perm.refl _) ((reckon_fn G 23 u.i v.i).mono fun e G' H' h => (by rw [hq] at h; exact h : e = .returned (.int .i64 n) ∧ G = G' ∧ H' = [])) rfl (by rintro e G' H' ⟨h, _⟩; exact ⟨_, h⟩) fun v' G' H' h hg => ?_)
   obtain ⟨he, rfl, rfl⟩ := h
   cases he
   refine WA.oo 13 rfl (OW.callR rfl (Hf := []) (List.Perm.refl _) (number_fnQ G n) rfl (by rintro e G' H' ⟨h, _⟩; exact ⟨_, h⟩) fun v' G' H' h hg => ?_)
   obtain ⟨he, rfl, rfl⟩ := h
   cases he
   refine WA.oo 14 rfl (OW.callK rfl (pushV_fn G b A cap p a B m cm r x (numV n) hv2 (by simp at hl; omega)) rfl fun v' G' H' h hg => ?_)
   obtain ⟨A2, cap2, x2, he, rfl, rfl, hv3⟩ := h
   cases he
   refine WA.done kr ?_
   refine WK.un ?_
   refine WC.exit ?_
   refine WK.un ?_
   exact QF.p0 (.inr rfl) rfl ⟨rfl, A2, cap2, x2, rfl, hv3, rfl⟩ pkA
end
end
section
attribute [local irreducible] Tryz.prog
section
variable (G : Gh) (mb : Nat) (c1 c2 c3 : Value) (FA : Option Addr) (fn fcap : Nat) (en : Int) (w : V) (OA : Option Addr) (ocap : Nat) (st : Int) (ed : Bool) (out : List V) (ox fx : Own) (Hx : List Own) (RL : List V → List Own → Prop)
  (b : Nat) (A : Option Addr) (cap : Nat) (p a : Int) (B : Option Addr) (m cm : Nat) (x : Own) (l : List V) (nm : ByteArray) (ex : Bool) (qv cv : Value) (lo res : Int)
def plainC (c : Int) : Prop := c = 4 ∨ c = 9 ∨ c = 10 ∨ c = 11 ∨ c = 12 ∨ c = 13 ∨ c = 25 ∨ c = 26 ∨ c = 20 ∨ c = 14 ∨ c = 15 ∨ c = 16 ∨ c = 17 ∨ c = 24 ∨ c = 18 ∨ c = 19 ∨ c = 21 ∨ c = 22 ∨ c = 23
theorem plain_other (c : Int) (hc : ¬ plainC c) : Fn Tryz.prog 198 #[.pointer (some ⟨mb, 0, none⟩), .pointer (some ⟨b, 0, none⟩), .agg #[.string nm, .bool ex, qv, .int .i64 lo, .int .i64 res, cv], .int .i64 c] G
  (mcB mb c1 c2 c3 FA fn fcap en w OA out.length ocap st ed :: ox :: frB b A l.length cap p a B m cm :: x :: fx :: Hx) (PlR G mb c1 c2 c3 FA fn fcap en w OA ocap st ed out ox fx Hx RL b A cap p a B m cm x (plainR res l c out.length)) := by
 unfold plainC at hc
 simp only [not_or] at hc
 obtain ⟨h4, h9, h10, h11, h12, h13, h25, h26, h20, h14, h15, h16, h17, h24, h18, h19, h21, h22, h23⟩ := hc
 refine Fn.enter Tryz.func198 rfl rfl fun w0 => ?_
 rw [show plainR res l c out.length = .halt 6 by simp [plainR, *]]
 refine WC.seq ?_
 refine WC.region ?_
 refine WL.oo (OW.box rfl rfl fun b1 => ?_)
 refine WL.nil ?_
 refine WK.un ?_
 refine WC.seq ?_
 refine WC.region ?_
 refine zw.move ?_
 refine WL.nil ?_
 refine WK.un ?_
 repeat (first | refine WC.seq ?_ | refine WC.block ?_ | (refine WC.skip ?_; refine WK.un ?_) | (refine WC.exit ?_; refine WK.un ?_))
 refine WC.region ?_
 refine zw.eq ?_
 refine zw.assign ?_
 refine WL.nil ?_
 refine WK.un ?_
 refine WC.cond rfl (fun hc => absurd (by simpa using hc) h4) (fun _ => ?_)
 repeat (first | refine WC.seq ?_ | refine WC.block ?_ | (refine WC.skip ?_; refine WK.un ?_) | (refine WC.exit ?_; refine WK.un ?_))
 repeat (first | refine WC.seq ?_ | refine WC.block ?_ | (refine WC.skip ?_; refine WK.un ?_) | (refine WC.exit ?_; refine WK.un ?_))
 refine WC.region ?_
 refine zw.eq ?_
 refine zw.assign ?_
 refine WL.nil ?_
 refine WK.un ?_
 refine WC.cond rfl (fun hc => absurd (by simpa using hc) h9) (fun _ => ?_)
 repeat (first | refine WC.seq ?_ | refine WC.block ?_ | (refine WC.skip ?_; refine WK.un ?_) | (refine WC.exit ?_; refine WK.un ?_))
 repeat (first | refine WC.seq ?_ | refine WC.block ?_ | (refine WC.skip ?_; refine WK.un ?_) | (refine WC.exit ?_; refine WK.un ?_))
 refine WC.region ?_
 refine zw.eq ?_
 refine zw.assign ?_
 refine WL.nil ?_
 refine WK.un ?_
 refine WC.cond rfl (fun hc => absurd (by simpa using hc) h10) (fun _ => ?_)
 repeat (first | refine WC.seq ?_ | refine WC.block ?_ | (refine WC.skip ?_; refine WK.un ?_) | (refine WC.exit ?_; refine WK.un ?_))
 repeat (first | refine WC.seq ?_ | refine WC.block ?_ | (refine WC.skip ?_; refine WK.un ?_) | (refine WC.exit ?_; refine WK.un ?_))
 refine WC.region ?_
 refine zw.eq ?_
 refine zw.assign ?_
 refine WL.nil ?_
 refine WK.un ?_
 refine WC.cond rfl (fun hc => absurd (by simpa using hc) h11) (fun _ => ?_)
 repeat (first | refine WC.seq ?_ | refine WC.block ?_ | (refine WC.skip ?_; refine WK.un ?_) | (refine WC.exit ?_; refine WK.un ?_))
 repeat (first | refine WC.seq ?_ | refine WC.block ?_ | (refine WC.skip ?_; refine WK.un ?_) | (refine WC.exit ?_; refine WK.un ?_))
 refine WC.region ?_
 refine zw.eq ?_
 refine zw.assign ?_
 refine WL.nil ?_
 refine WK.un ?_
 refine WC.cond rfl (fun hc => absurd (by simpa using hc) h12) (fun _ => ?_)
 repeat (first | refine WC.seq ?_ | refine WC.block ?_ | (refine WC.skip ?_; refine WK.un ?_) | (refine WC.exit ?_; refine WK.un ?_))
 repeat (first | refine WC.seq ?_ | refine WC.block ?_ | (refine WC.skip ?_; refine WK.un ?_) | (refine WC.exit ?_; refine WK.un ?_))
 refine WC.region ?_
 refine zw.eq ?_
 refine zw.assign ?_
 refine WL.nil ?_
 refine WK.un ?_
 refine WC.cond rfl (fun hc => absurd (by simpa using hc) h13) (fun _ => ?_)
 repeat (first | refine WC.seq ?_ | refine WC.block ?_ | (refine WC.skip ?_; refine WK.un ?_) | (refine WC.exit ?_; refine WK.un ?_))
 repeat (first | refine WC.seq ?_ | refine WC.block ?_ | (refine WC.skip ?_; refine WK.un ?_) | (refine WC.exit ?_; refine WK.un ?_))
 refine WC.region ?_
 refine zw.eq ?_
 refine zw.assign ?_
 refine WL.nil ?_
 refine WK.un ?_
 refine WC.cond rfl (fun hc => absurd (by simpa using hc) h25) (fun _ => ?_)
 repeat (first | refine WC.seq ?_ | refine WC.block ?_ | (refine WC.skip ?_; refine WK.un ?_) | (refine WC.exit ?_; refine WK.un ?_))
 repeat (first | refine WC.seq ?_ | refine WC.block ?_ | (refine WC.skip ?_; refine WK.un ?_) | (refine WC.exit ?_; refine WK.un ?_))
 refine WC.region ?_
 refine zw.eq ?_
 refine zw.assign ?_
 refine WL.nil ?_
 refine WK.un ?_
 refine WC.cond rfl (fun hc => absurd (by simpa using hc) h26) (fun _ => ?_)
 repeat (first | refine WC.seq ?_ | refine WC.block ?_ | (refine WC.skip ?_; refine WK.un ?_) | (refine WC.exit ?_; refine WK.un ?_))
 repeat (first | refine WC.seq ?_ | refine WC.block ?_ | (refine WC.skip ?_; refine WK.un ?_) | (refine WC.exit ?_; refine WK.un ?_))
 refine WC.region ?_
 refine zw.eq ?_
 refine zw.assign ?_
 refine WL.nil ?_
 refine WK.un ?_
 refine WC.cond rfl (fun hc => absurd (by simpa using hc) h20) (fun _ => ?_)
 repeat (first | refine WC.seq ?_ | refine WC.block ?_ | (refine WC.skip ?_; refine WK.un ?_) | (refine WC.exit ?_; refine WK.un ?_))
 repeat (first | refine WC.seq ?_ | refine WC.block ?_ | (refine WC.skip ?_; refine WK.un ?_) | (refine WC.exit ?_; refine WK.un ?_))
 refine WC.region ?_
 refine zw.eq ?_
 refine zw.assign ?_
 refine WL.nil ?_
 refine WK.un ?_
 refine WC.cond rfl (fun hc => absurd (by simpa using hc) h14) (fun _ => ?_)
 repeat (first | refine WC.seq ?_ | refine WC.block ?_ | (refine WC.skip ?_; refine WK.un ?_) | (refine WC.exit ?_; refine WK.un ?_))
 repeat (first | refine WC.seq ?_ | refine WC.block ?_ | (refine WC.skip ?_; refine WK.un ?_) | (refine WC.exit ?_; refine WK.un ?_))
 refine WC.region ?_
 refine zw.eq ?_
 refine zw.assign ?_
 refine WL.nil ?_
 refine WK.un ?_
 refine WC.cond rfl (fun hc => absurd (by simpa using hc) h15) (fun _ => ?_)
 repeat (first | refine WC.seq ?_ | refine WC.block ?_ | (refine WC.skip ?_; refine WK.un ?_) | (refine WC.exit ?_; refine WK.un ?_))
 repeat (first | refine WC.seq ?_ | refine WC.block ?_ | (refine WC.skip ?_; refine WK.un ?_) | (refine WC.exit ?_; refine WK.un ?_))
 refine WC.region ?_
 refine zw.eq ?_
 refine zw.assign ?_
 refine WL.nil ?_
 refine WK.un ?_
 refine WC.cond rfl (fun hc => absurd (by simpa using hc) h16) (fun _ => ?_)
 repeat (first | refine WC.seq ?_ | refine WC.block ?_ | (refine WC.skip ?_; refine WK.un ?_) | (refine WC.exit ?_; refine WK.un ?_))
 repeat (first | refine WC.seq ?_ | refine WC.block ?_ | (refine WC.skip ?_; refine WK.un ?_) | (refine WC.exit ?_; refine WK.un ?_))
 refine WC.region ?_
 refine zw.eq ?_
 refine zw.assign ?_
 refine WL.nil ?_
 refine WK.un ?_
 refine WC.cond rfl (fun hc => absurd (by simpa using hc) h17) (fun _ => ?_)
 repeat (first | refine WC.seq ?_ | refine WC.block ?_ | (refine WC.skip ?_; refine WK.un ?_) | (refine WC.exit ?_; refine WK.un ?_))
 repeat (first | refine WC.seq ?_ | refine WC.block ?_ | (refine WC.skip ?_; refine WK.un ?_) | (refine WC.exit ?_; refine WK.un ?_))
 refine WC.region ?_
 refine zw.eq ?_
 refine zw.assign ?_
 refine WL.nil ?_
 refine WK.un ?_
 refine WC.cond rfl (fun hc => absurd (by simpa using hc) h24) (fun _ => ?_)
 repeat (first | refine WC.seq ?_ | refine WC.block ?_ | (refine WC.skip ?_; refine WK.un ?_) | (refine WC.exit ?_; refine WK.un ?_))
 repeat (first | refine WC.seq ?_ | refine WC.block ?_ | (refine WC.skip ?_; refine WK.un ?_) | (refine WC.exit ?_; refine WK.un ?_))
 refine WC.region ?_
 refine zw.eq ?_
 refine zw.assign ?_
 refine WL.nil ?_
 refine WK.un ?_
 refine WC.cond rfl (fun hc => absurd (by simpa using hc) h18) (fun _ => ?_)
 repeat (first | refine WC.seq ?_ | refine WC.block ?_ | (refine WC.skip ?_; refine WK.un ?_) | (refine WC.exit ?_; refine WK.un ?_))
 repeat (first | refine WC.seq ?_ | refine WC.block ?_ | (refine WC.skip ?_; refine WK.un ?_) | (refine WC.exit ?_; refine WK.un ?_))
 refine WC.region ?_
 refine zw.eq ?_
 refine zw.assign ?_
 refine WL.nil ?_
 refine WK.un ?_
 refine WC.cond rfl (fun hc => absurd (by simpa using hc) h19) (fun _ => ?_)
 repeat (first | refine WC.seq ?_ | refine WC.block ?_ | (refine WC.skip ?_; refine WK.un ?_) | (refine WC.exit ?_; refine WK.un ?_))
 repeat (first | refine WC.seq ?_ | refine WC.block ?_ | (refine WC.skip ?_; refine WK.un ?_) | (refine WC.exit ?_; refine WK.un ?_))
 refine WC.region ?_
 refine zw.eq ?_
 refine zw.assign ?_
 refine WL.nil ?_
 refine WK.un ?_
 refine WC.cond rfl (fun hc => absurd (by simpa using hc) h21) (fun _ => ?_)
 repeat (first | refine WC.seq ?_ | refine WC.block ?_ | (refine WC.skip ?_; refine WK.un ?_) | (refine WC.exit ?_; refine WK.un ?_))
 repeat (first | refine WC.seq ?_ | refine WC.block ?_ | (refine WC.skip ?_; refine WK.un ?_) | (refine WC.exit ?_; refine WK.un ?_))
 refine WC.region ?_
 refine zw.eq ?_
 refine zw.assign ?_
 refine WL.nil ?_
 refine WK.un ?_
 refine WC.cond rfl (fun hc => absurd (by simpa using hc) h22) (fun _ => ?_)
 repeat (first | refine WC.seq ?_ | refine WC.block ?_ | (refine WC.skip ?_; refine WK.un ?_) | (refine WC.exit ?_; refine WK.un ?_))
 repeat (first | refine WC.seq ?_ | refine WC.block ?_ | (refine WC.skip ?_; refine WK.un ?_) | (refine WC.exit ?_; refine WK.un ?_))
 refine WC.region ?_
 refine zw.eq ?_
 refine zw.assign ?_
 refine WL.nil ?_
 refine WK.un ?_
 refine WC.cond rfl (fun hc => absurd (by simpa using hc) h23) (fun _ => ?_)
 repeat (first | refine WC.seq ?_ | refine WC.block ?_ | (refine WC.skip ?_; refine WK.un ?_) | (refine WC.exit ?_; refine WK.un ?_))
 refine WC.region ?_
 refine WL.oo (OW.call rfl (Hf := []) (List.Perm.refl _) (stuck_fn _) rfl (fun v G' H' h _ => by cases h.1) (fun ch G' H' h _ => ?_) (fun G' H' h => by cases h.1))
 obtain ⟨he, rfl, rfl⟩ := h
 cases he
 refine WK.un ?_
 exact QF.panicP ⟨rfl, rfl, _, Left.of b A l.length cap p a B m cm, rfl⟩ pkA
theorem plain_fn (c : Int) (hv : VVec A cap l x) (hl : l.length ≤ 1000000) (hz : ∀ v ∈ l, v.s.size ≤ 400000000000) (ho : VVec OA ocap out ox) (hL : Lv G mb (mcB mb c1 c2 c3 FA fn fcap en w OA out.length ocap st ed) fx Hx RL) :
  Fn Tryz.prog 198 #[.pointer (some ⟨mb, 0, none⟩), .pointer (some ⟨b, 0, none⟩), .agg #[.string nm, .bool ex, qv, .int .i64 lo, .int .i64 res, cv], .int .i64 c] G
  (mcB mb c1 c2 c3 FA fn fcap en w OA out.length ocap st ed :: ox :: frB b A l.length cap p a B m cm :: x :: fx :: Hx) (PlR G mb c1 c2 c3 FA fn fcap en w OA ocap st ed out ox fx Hx RL b A cap p a B m cm x (plainR res l c out.length)) := by
 by_cases hc : plainC c
 rotate_left
 ·exact plain_other G mb c1 c2 c3 FA fn fcap en w OA ocap st ed out ox fx Hx RL b A cap p a B m cm x l nm ex qv cv lo res c hc
 rcases hc with rfl | rfl | rfl | rfl | rfl | rfl | rfl | rfl | rfl | rfl | rfl | rfl | rfl | rfl | rfl | rfl | rfl | rfl | rfl
 ·exact plain_drop G mb c1 c2 c3 FA fn fcap en w OA ocap st ed out ox fx Hx RL b A cap p a B m cm x l nm ex qv cv lo res hv hl
 ·exact plain_return G mb c1 c2 c3 FA fn fcap en w OA ocap st ed out ox fx Hx RL b A cap p a B m cm x l nm ex qv cv lo res hv hl hL
 ·exact plain_give G mb c1 c2 c3 FA fn fcap en w OA ocap st ed out ox fx Hx RL b A cap p a B m cm x l nm ex qv cv lo res hv hl hL
 ·exact plain_print G mb c1 c2 c3 FA fn fcap en w OA ocap st ed out ox fx Hx RL b A cap p a B m cm x l nm ex qv cv lo res hv hl ho
 ·exact plain_eq G mb c1 c2 c3 FA fn fcap en w OA ocap st ed out ox fx Hx RL b A cap p a B m cm x l nm ex qv cv lo res hv hl
 ·exact plain_ne G mb c1 c2 c3 FA fn fcap en w OA ocap st ed out ox fx Hx RL b A cap p a B m cm x l nm ex qv cv lo res hv hl
 ·exact plain_not G mb c1 c2 c3 FA fn fcap en w OA ocap st ed out ox fx Hx RL b A cap p a B m cm x l nm ex qv cv lo res hv hl
 ·exact plain_len G mb c1 c2 c3 FA fn fcap en w OA ocap st ed out ox fx Hx RL b A cap p a B m cm x l nm ex qv cv lo res hv hl
 ·exact plain_join G mb c1 c2 c3 FA fn fcap en w OA ocap st ed out ox fx Hx RL b A cap p a B m cm x l nm ex qv cv lo res hv hl hz
 ·exact plain_ord14 G mb c1 c2 c3 FA fn fcap en w OA ocap st ed out ox fx Hx RL b A cap p a B m cm x l nm ex qv cv lo res hv hl
 ·exact plain_ord15 G mb c1 c2 c3 FA fn fcap en w OA ocap st ed out ox fx Hx RL b A cap p a B m cm x l nm ex qv cv lo res hv hl
 ·exact plain_ord16 G mb c1 c2 c3 FA fn fcap en w OA ocap st ed out ox fx Hx RL b A cap p a B m cm x l nm ex qv cv lo res hv hl
 ·exact plain_ord17 G mb c1 c2 c3 FA fn fcap en w OA ocap st ed out ox fx Hx RL b A cap p a B m cm x l nm ex qv cv lo res hv hl
 ·exact plain_neg G mb c1 c2 c3 FA fn fcap en w OA ocap st ed out ox fx Hx RL b A cap p a B m cm x l nm ex qv cv lo res hv hl
 ·exact plain_rec18 G mb c1 c2 c3 FA fn fcap en w OA ocap st ed out ox fx Hx RL b A cap p a B m cm x l nm ex qv cv lo res hv hl
 ·exact plain_rec19 G mb c1 c2 c3 FA fn fcap en w OA ocap st ed out ox fx Hx RL b A cap p a B m cm x l nm ex qv cv lo res hv hl
 ·exact plain_rec21 G mb c1 c2 c3 FA fn fcap en w OA ocap st ed out ox fx Hx RL b A cap p a B m cm x l nm ex qv cv lo res hv hl
 ·exact plain_rec22 G mb c1 c2 c3 FA fn fcap en w OA ocap st ed out ox fx Hx RL b A cap p a B m cm x l nm ex qv cv lo res hv hl
 ·exact plain_rec23 G mb c1 c2 c3 FA fn fcap en w OA ocap st ed out ox fx Hx RL b A cap p a B m cm x l nm ex qv cv lo res hv hl
end
end
section
attribute [local irreducible] Tryz.prog
inductive DR where
 | halt (n : Int)
 | go (l : List V) (k : Nat) (vars : List V)
 | print (l : List V) (v : V)
 | call (q : Pr) (r args : List V) (n : Int)
 | leave (l g : List V)
def layRQ (l : List V) (k : Nat) (vars : List V) (v : V) : DR := if 128 ≤ l.length then .halt 6 else .go (l ++ [v]) (k + 1) vars
def constR (consts : List V) (l : List V) (k : Nat) (vars : List V) (n : Int) : DR := if n < 0 then .halt 6 else match consts[n.toNat]? with
 | none => .halt 6
 | some v => if vOK v = true then layRQ l k vars v else .halt 6
def loadR (l : List V) (k : Nat) (vars : List V) (n : Int) : DR := if n < 0 then .halt 6 else match vars[n.toNat]? with
 | none => .halt 6
 | some v => if v.t = 0 then .halt 6 else layRQ l k vars v
def storeR (l : List V) (k : Nat) (vars : List V) (n : Int) : DR := if n < 0 ∨ vars.length ≤ n.toNat then .halt 6 else match pop1 l with
 | none => .halt 6
 | some (r, v) => .go r (k + 1) (vars.set n.toNat v)
def jumpR (cl : Nat) (l : List V) (vars : List V) (n : Int) : DR := if n < 0 ∨ cl ≤ n.toNat then .halt 6 else .go l n.toNat vars
def unlessR (cl : Nat) (l : List V) (k : Nat) (vars : List V) (n : Int) : DR := if n < 0 ∨ cl ≤ n.toNat then .halt 6 else match ty1 l 2 with
 | none => .halt 6
 | some (r, v) => .go r (if v.b then k + 1 else n.toNat) vars
def callD (procs : List Pr) (l : List V) (n : Int) (depth : Nat) : DR := match callR procs l n depth with
 | .error e => .halt e
 | .ok (q, r, a) => .call q r a n
def plainD (res : Int) (l : List V) (k : Nat) (vars : List V) (c : Int) (outn : Nat) : DR := match plainR res l c outn with
 | .halt m => .halt m
 | .set r => .go r (k + 1) vars
 | .print r v => .print r v
 | .leave r g => .leave r g
def doR (pg : Pg) (pr : Pr) (l : List V) (k : Nat) (vars : List V) (depth outn : Nat) : DR := match pr.code[k]? with
 | none => .halt 6
 | some (c, n) =>
  if c = 1 then constR pg.consts l k vars n
  else if c = 2 then loadR l k vars n
  else if c = 3 then storeR l k vars n
  else if c = 5 then jumpR pr.code.length l vars n
  else if c = 6 then unlessR pr.code.length l k vars n
  else if c = 7 then callD pg.procs l n depth
  else if n ≠ 0 then .halt 6
  else plainD pr.result l k vars c outn
def DoR (G : Gh) (mb : Nat) (c1 c2 c3 : Value) (FA : Option Addr) (fcap : Nat) (en : Int) (w : V) (OA : Option Addr) (ocap : Nat) (st : Int) (ed : Bool) (out : List V) (ox fx : Own) (Hx : List Own) (RL : List V → List Own → Prop)
  (b : Nat) (A : Option Addr) (cap pi : Nat) (B : Option Addr) (vars : List V) (cm : Nat) (x y : Own) (bs : List Nat) (k1 : Nat) (r : DR) : Ending → Gh → List Own → Prop := fun e G' H' => G = G' ∧ match r with
 | .halt n => e = halted n ∧ ∃ z, Left b [z] ∧ H' = mcB mb c1 c2 c3 FA bs.length fcap en w OA out.length ocap st ed :: ox :: z :: fx :: Hx
 | .go l' k' vars' => ∃ A' cap' x' y', e = .returned (.tuple #[]) ∧ VVec A' cap' l' x' ∧ VVec B cm vars' y' ∧ H' = mcB mb c1 c2 c3 FA bs.length fcap en w OA out.length ocap st ed :: ox :: frB b A' l'.length cap' pi k' B vars'.length cm :: x' :: y' :: fx :: Hx
 | .print l' v => ∃ OA' ocap' ox', e = .returned (.tuple #[]) ∧ VVec OA' ocap' (out ++ [v]) ox' ∧ VVec A cap l' x ∧ H' = mcB mb c1 c2 c3 FA bs.length fcap en w OA' (out ++ [v]).length ocap' st ed :: ox' :: frB b A l'.length cap pi k1 B vars.length cm :: x :: y :: fx :: Hx
 | .call q l' args n => ∃ FA' fcap' b' VA fx' yv, e = .returned (.tuple #[]) ∧ PVec FA' fcap' (bs ++ [b']) fx' ∧ VVec VA (padded args q.locals).length (padded args q.locals) yv ∧ VVec A cap l' x ∧
   H' = mcB mb c1 c2 c3 FA' (bs ++ [b']).length fcap' en w OA out.length ocap st ed :: ox :: frB b A l'.length cap pi k1 B vars.length cm :: x :: y :: fx' :: frB b' none 0 0 n 0 VA (padded args q.locals).length (padded args q.locals).length :: .spare 0 0 0 :: yv :: Hx
 | .leave l' g => ∃ H1, e = .returned (.tuple #[]) ∧ RL g H1 ∧ H' = ox :: H1
section
variable (G : Gh) (pg : Pg) (CA PA : Option Addr) (cc pc : Nat) (hC : Sl Kd.val G CA pg.consts) (hP : Sl Kd.prc G PA pg.procs)
  (mb : Nat) (c3 : Value) (FA : Option Addr) (fcap : Nat) (en : Int) (w : V) (OA : Option Addr) (ocap : Nat) (st : Int) (ed : Bool) (out : List V) (ox fx : Own) (Hx : List Own) (RL : List V → List Own → Prop)
  (b : Nat) (A : Option Addr) (cap pi : Nat) (pr : Pr) (hpr : pg.procs[pi]? = some pr) (B : Option Addr) (vars : List V) (cm : Nat) (x y : Own) (bs : List Nat) (l : List V) (k : Nat) (hkb : k ≤ 100000000000000)
include hC hP hpr hkb
theorem do_const (n : Int) (hi : pr.code[k]? = some (1, n)) (hv : VVec A cap l x) (hl : l.length ≤ 1000000) (hy : VVec B cm vars y) : Fn Tryz.prog 167 #[.pointer (some ⟨mb, 0, none⟩), .pointer (some ⟨b, 0, none⟩)] G
  (mcB mb (.slice CA pg.consts.length cc) (.slice PA pg.procs.length pc) c3 FA bs.length fcap en w OA out.length ocap st ed :: ox :: frB b A l.length cap pi k B vars.length cm :: x :: y :: fx :: Hx)
  (DoR G mb (.slice CA pg.consts.length cc) (.slice PA pg.procs.length pc) c3 FA fcap en w OA ocap st ed out ox fx Hx RL b A cap pi B vars cm x y bs (k + 1) (doR pg pr l k vars bs.length out.length)) := by
 rw [show doR pg pr l k vars bs.length out.length = constR pg.consts l k vars n by simp [doR, hi]]
 obtain ⟨pb, po, cs, hPA, ⟨QA, qc, IA, ic, rfl, hQ, hI⟩, hcs⟩ := hP pi pr hpr
 obtain ⟨ib, io, cs2, rfl, hK, hcs2⟩ := hI k (1, n) hi
 obtain rfl : cs2 = [.int .i64 1, .int .i64 n] := hK
 have hk : k < pr.code.length := (List.getElem?_eq_some_iff.1 hi).1
 have hpl : pi < pg.procs.length := (List.getElem?_eq_some_iff.1 hpr).1
 subst hPA
 refine Fn.enter Tryz.func167 rfl rfl fun w0 => ?_
 refine WC.seq ?_
 refine WC.draw mixed ?_
 refine za.move 0 ?_
 refine za.nil 1 ?_
 refine za.fa 2 ?_
 refine za.fa 3 ?_
 refine za.ld 4 ?_
 refine za.move 5 ?_
 refine za.nil 6 ?_
 refine za.fa 7 ?_
 refine za.ld 8 ?_
 refine za.ix 9 ?_
 refine WA.vv 10 rfl (Gv.loadGN rfl hcs rfl) ?_
 refine WA.oo 11 rfl (OW.alloc rfl fun b1 => ?_)
 refine za.st 12 ?_
 refine WA.done kr ?_
 refine WK.un ?_
 refine WC.seq ?_
 refine WC.draw mixed ?_
 refine za.move 0 ?_
 refine za.nil 1 ?_
 refine za.fa 2 ?_
 refine za.ld 3 ?_
 refine WA.pp 4 rfl (Gp.geI' rfl rfl (show decide ((0 : Int) ≤ (k : Int)) = true by simp)) ?_
 refine za.move 5 ?_
 refine za.move 6 ?_
 refine za.nil 7 ?_
 refine za.fa 8 ?_
 refine za.ld 9 ?_
 refine za.fa 10 ?_
 refine za.ld 11 ?_
 refine za.len 12 ?_
 refine WA.pp 13 rfl (Gp.ltI' rfl rfl (show decide ((k : Int) < (pr.code.length : Int)) = true by simp; omega)) ?_
 refine za.pick 14 ?_
 refine WA.oo 15 rfl (OW.callR rfl (Hf := []) (List.Perm.refl _) (need_ok G) rfl (by rintro e G' H' ⟨h, _⟩; exact ⟨_, h⟩) fun v' G' H' h hg => ?_)
 obtain ⟨he, rfl, rfl⟩ := h
 cases he
 refine WA.done kr ?_
 refine WK.un ?_
 refine WC.seq ?_
 refine WC.draw mixed ?_
 refine za.fa 0 ?_
 refine za.ld 1 ?_
 refine za.move 2 ?_
 refine za.nil 3 ?_
 refine za.fa 4 ?_
 refine za.ld 5 ?_
 refine za.ix 6 ?_
 refine WA.vv 7 rfl (Gv.loadGN rfl hcs2 rfl) ?_
 refine WA.oo 8 rfl (OW.alloc rfl fun b2 => ?_)
 refine za.st 9 ?_
 refine WA.done kr ?_
 refine WK.un ?_
 refine WC.seq ?_
 refine WC.region ?_
 refine zw.move ?_
 refine zw.nil ?_
 refine zw.fa ?_
 refine zw.ld ?_
 refine WL.pp (Gp.add' rfl rfl (show IntKind.i64.wrap ((k : Int) + 1) = ((k + 1 : Nat) : Int) by rw [wrap_small (by omega) (by omega)]; omega)) ?_
 refine zw.nil ?_
 refine zw.fa ?_
 refine zw.st ?_
 refine WL.nil ?_
 refine WK.un ?_
 refine WC.seq ?_
 refine WC.region ?_
 refine zw.fa ?_
 refine zw.ld ?_
 refine WL.nil ?_
 refine WK.un ?_
 refine WC.pk (H' := .blk b2 (.cells #[.int .i64 1, .int .i64 n] 50 (0, 0)) :: .blk b1 (.cells #[.string pr.name, .bool pr.exp, .slice QA pr.params.length qc, .int .i64 pr.locals, .int .i64 pr.result, .slice (some ⟨ib, io, none⟩) pr.code.length ic] 47 (0, 0)) :: mcB mb (.slice CA pg.consts.length cc) (.slice (some ⟨pb, po, none⟩) pg.procs.length pc) c3 FA bs.length fcap en w OA out.length ocap st ed :: ox :: frB b A l.length cap pi (k + 1 : Nat) B vars.length cm :: x :: y :: fx :: Hx) pkA ?_
 repeat (first | refine WC.seq ?_ | refine WC.block ?_ | (refine WC.region ?_; refine WL.p (Gp.eqI rfl rfl) kr rfl ?_; refine WL.p (Gp.assign rfl) kr rfl ?_; refine WL.nil ?_; refine WK.un ?_) | refine WC.cond_true rfl ?_ | refine WC.cond_false rfl ?_ | (refine WC.skip ?_; refine WK.un ?_) | (refine WC.exit ?_; refine WK.un ?_))
 refine WC.draw mixed ?_
 refine za.fa 0 ?_
 refine za.ld 1 ?_
 by_cases hn0 : n < 0
 ·rw [show constR pg.consts l k vars n = .halt 6 by rw [constR, if_pos hn0]]
  refine WA.pp 2 rfl (Gp.geI' rfl rfl (show decide ((0 : Int) ≤ n) = false by simpa using hn0)) ?_
  refine za.move 3 ?_
  refine za.skip 4 ?_
  refine za.skip 5 ?_
  refine za.skip 6 ?_
  refine za.skip 7 ?_
  refine za.skip 8 ?_
  refine za.skip 9 ?_
  refine za.skip 10 ?_
  refine za.skip 11 ?_
  refine za.skip 12 ?_
  refine za.pick 13 ?_
  refine za.move 14 ?_
  refine za.skip 15 ?_
  refine za.skip 16 ?_
  refine za.skip 17 ?_
  refine za.skip 18 ?_
  refine za.skip 19 ?_
  refine za.skip 20 ?_
  refine za.skip 21 ?_
  refine za.skip 22 ?_
  refine za.skip 23 ?_
  refine za.skip 24 ?_
  refine za.pick 25 ?_
  refine WA.oo 26 rfl (OW.call rfl (Hf := []) (List.Perm.refl _) (need_no _) rfl (fun v G' H' h _ => by cases h.1) (fun ch G' H' h _ => ?_) (fun G' H' h => by cases h.1))
  obtain ⟨he, rfl, rfl⟩ := h
  cases he
  refine WK.un ?_
  exact QF.panicP (⟨rfl, rfl, _, Left.of b A l.length cap pi (k + 1 : Nat) B vars.length cm, rfl⟩)
 obtain ⟨i, rfl⟩ := Int.eq_ofNat_of_zero_le (Int.not_lt.1 hn0)
 refine WA.pp 2 rfl (Gp.geI' rfl rfl (show decide ((0 : Int) ≤ (i : Int)) = true by simp)) ?_
 refine za.move 3 ?_
 refine za.fa 4 ?_
 refine za.ld 5 ?_
 refine za.move 6 ?_
 refine za.nil 7 ?_
 refine za.fa 8 ?_
 refine za.fa 9 ?_
 refine za.ld 10 ?_
 refine za.len 11 ?_
 cases hc : pg.consts[i]? with
 | none =>
  rw [show constR pg.consts l k vars (i : Int) = .halt 6 by rw [constR, if_neg hn0, Int.toNat_natCast, hc]]
  refine WA.pp 12 rfl (Gp.ltI' rfl rfl (show decide ((i : Int) < (pg.consts.length : Int)) = false by have := List.getElem?_eq_none_iff.1 hc; simp; omega)) ?_
  refine za.pick 13 ?_
  refine za.move 14 ?_
  refine za.skip 15 ?_
  refine za.skip 16 ?_
  refine za.skip 17 ?_
  refine za.skip 18 ?_
  refine za.skip 19 ?_
  refine za.skip 20 ?_
  refine za.skip 21 ?_
  refine za.skip 22 ?_
  refine za.skip 23 ?_
  refine za.skip 24 ?_
  refine za.pick 25 ?_
  refine WA.oo 26 rfl (OW.call rfl (Hf := []) (List.Perm.refl _) (need_no _) rfl (fun v G' H' h _ => by cases h.1) (fun ch G' H' h _ => ?_) (fun G' H' h => by cases h.1))
  obtain ⟨he, rfl, rfl⟩ := h
  cases he
  refine WK.un ?_
  exact QF.panicP (⟨rfl, rfl, _, Left.of b A l.length cap pi (k + 1 : Nat) B vars.length cm, rfl⟩)
 | some v =>
 obtain ⟨cb, co, cs3, rfl, hK3, hcs3⟩ := hC i v hc
 obtain rfl : cs3 = vcells v := hK3
 have hic : i < pg.consts.length := (List.getElem?_eq_some_iff.1 hc).1
 refine WA.pp 12 rfl (Gp.ltI' rfl rfl (show decide ((i : Int) < (pg.consts.length : Int)) = true by simp; omega)) ?_
 refine za.pick 13 ?_
 refine za.move 14 ?_
 refine za.move 15 ?_
 refine za.nil 16 ?_
 refine za.fa 17 ?_
 refine za.fa 18 ?_
 refine za.ld 19 ?_
 refine za.fa 20 ?_
 refine za.ld 21 ?_
 refine za.ix 22 ?_
 refine WA.vv 23 rfl (Gv.loadGN rfl hcs3 rfl) ?_
 refine WA.oo 24 rfl (OW.callR rfl (Hf := []) (List.Perm.refl _) (value_fnQ G v) rfl (by rintro e G' H' ⟨h, _⟩; exact ⟨_, h⟩) fun v' G' H' h hg => ?_)
 obtain ⟨he, rfl, rfl⟩ := h
 cases he
 refine za.pick 25 ?_
 by_cases hok : vOK v = true
 rotate_left
 ·rw [show constR pg.consts l k vars (i : Int) = .halt 6 by rw [constR, if_neg hn0, Int.toNat_natCast, hc]; exact if_neg hok]
  rw [show vOK v = false by simpa using hok]
  refine WA.oo 26 rfl (OW.call rfl (Hf := []) (List.Perm.refl _) (need_no _) rfl (fun v G' H' h _ => by cases h.1) (fun ch G' H' h _ => ?_) (fun G' H' h => by cases h.1))
  obtain ⟨he, rfl, rfl⟩ := h
  cases he
  refine WK.un ?_
  exact QF.panicP (⟨rfl, rfl, _, Left.of b A l.length cap pi (k + 1 : Nat) B vars.length cm, rfl⟩)
 rw [show constR pg.consts l k vars (i : Int) = layRQ l k vars v by rw [constR, if_neg hn0, Int.toNat_natCast, hc]; exact if_pos hok]
 rw [hok]
 refine WA.oo 26 rfl (OW.callR rfl (Hf := []) (List.Perm.refl _) (need_ok G) rfl (by rintro e G' H' ⟨h, _⟩; exact ⟨_, h⟩) fun v' G' H' h hg => ?_)
 obtain ⟨he, rfl, rfl⟩ := h
 cases he
 refine WA.done kr ?_
 refine WK.un ?_
 refine WC.draw mixed ?_
 refine za.move 0 ?_
 refine za.move 1 ?_
 refine za.move 2 ?_
 refine za.nil 3 ?_
 refine za.fa 4 ?_
 refine za.fa 5 ?_
 refine za.ld 6 ?_
 refine za.fa 7 ?_
 refine za.ld 8 ?_
 refine za.ix 9 ?_
 refine WA.vv 10 rfl (Gv.loadGN rfl hcs3 rfl) ?_
 by_cases hf : 128 ≤ l.length
 ·rw [show layRQ l k vars v = .halt 6 by rw [layRQ, if_pos hf]]
  refine WA.oo 11 rfl (OW.call rfl (Pk.perm pkA) (lay_no G _ b A l.length cap pi (k + 1 : Nat) B vars.length cm _ hf) rfl (fun v' G' H' h hg => by cases h.1) (fun ch G' H' h hg => ?_) (fun G' H' h => by repeat (first | (cases h.1; done) | (cases h; done) | (obtain ⟨_, h⟩ := h) | (rcases h with h | h))))
  obtain ⟨he, rfl, c, hc, rfl⟩ := h
  cases he
  refine WK.un ?_
  exact QF.panicP ⟨rfl, rfl, _, ⟨c, hc, rfl⟩, rfl⟩
 rw [show layRQ l k vars v = .go (l ++ [v]) (k + 1) vars by rw [layRQ, if_neg hf]]
 refine WA.oo 11 rfl (OW.callK rfl (lay_ok G _ b A cap pi (k + 1 : Nat) B vars.length cm l x v hv (by omega)) rfl fun v' G' H' h hg => ?_)
 obtain ⟨A', cap', x', he, rfl, rfl, hv'⟩ := h
 cases he
 refine WA.done kr ?_
 refine WK.un ?_
 exact QF.p0 (.inr rfl) rfl ⟨rfl, A', cap', x', y, rfl, hv', hy, rfl⟩ pkA
end
end
section
attribute [local irreducible] Tryz.prog
theorem VVec.cell {l : List V} {c : Array Value} {i j : Nat} {v : V} {w : Value} (hl : c.toList.take (l.length * 4) = vflat l) (hi : l[i]? = some v) (hw : (vcells v)[j]? = some w) : c[0 + ((i : Nat) : Int).toNat * 4 + j]? = some w := by
 have h := VVec.elem (A := none) (cap := 0) (b := 0) hl hi
 rw [← h, List.getElem?_take] at hw
 split at hw
 ·rw [List.getElem?_drop] at hw; simpa using hw
 ·cases hw
theorem vflat_set : ∀ (l : List V) (i : Nat) (v : V), i < l.length → (vflat l).take (i * 4) ++ vcells v ++ (vflat l).drop (i * 4 + 4) = vflat (l.set i v)
 | [], i, v, h => by simp at h
 | u :: l, 0, v, h => by simp [vflat, vcells]
 | u :: l, i + 1, v, h => by
  have ih := vflat_set l i v (by simpa using h)
  have e : ∀ (u : V) (l : List V), vflat (u :: l) = vcells u ++ vflat l := fun u l => by simp [vflat]
  rw [List.set_cons_succ, e, e, ← ih]
  have h4 : (vcells u).length = 4 := rfl
  have h1 : (i + 1) * 4 = (vcells u).length + i * 4 := by rw [h4]; omega
  rw [h1, List.take_append, List.drop_append, List.take_of_length_le (by omega), List.drop_eq_nil_of_le (by omega)]
  simp only [Nat.add_sub_cancel_left, List.nil_append, List.append_assoc]
  congr 4
  omega
section
variable (G : Gh) (pg : Pg) (CA PA : Option Addr) (cc pc : Nat) (hC : Sl Kd.val G CA pg.consts) (hP : Sl Kd.prc G PA pg.procs)
  (mb : Nat) (c3 : Value) (FA : Option Addr) (fcap : Nat) (en : Int) (w : V) (OA : Option Addr) (ocap : Nat) (st : Int) (ed : Bool) (out : List V) (ox fx : Own) (Hx : List Own) (RL : List V → List Own → Prop)
  (b : Nat) (A : Option Addr) (cap pi : Nat) (pr : Pr) (hpr : pg.procs[pi]? = some pr) (B : Option Addr) (vars : List V) (cm : Nat) (x y : Own) (bs : List Nat) (l : List V) (k : Nat) (hkb : k ≤ 100000000000000)
include hC hP hpr hkb
theorem do_load (n : Int) (hi : pr.code[k]? = some (2, n)) (hv : VVec A cap l x) (hl : l.length ≤ 1000000) (hy : VVec B cm vars y) : Fn Tryz.prog 167 #[.pointer (some ⟨mb, 0, none⟩), .pointer (some ⟨b, 0, none⟩)] G
  (mcB mb (.slice CA pg.consts.length cc) (.slice PA pg.procs.length pc) c3 FA bs.length fcap en w OA out.length ocap st ed :: ox :: frB b A l.length cap pi k B vars.length cm :: x :: y :: fx :: Hx)
  (DoR G mb (.slice CA pg.consts.length cc) (.slice PA pg.procs.length pc) c3 FA fcap en w OA ocap st ed out ox fx Hx RL b A cap pi B vars cm x y bs (k + 1) (doR pg pr l k vars bs.length out.length)) := by
 rw [show doR pg pr l k vars bs.length out.length = loadR l k vars n by simp [doR, hi]]
 obtain ⟨pb, po, cs, hPA, ⟨QA, qc, IA, ic, rfl, hQ, hI⟩, hcs⟩ := hP pi pr hpr
 obtain ⟨ib, io, cs2, rfl, hK, hcs2⟩ := hI k (2, n) hi
 obtain rfl : cs2 = [.int .i64 2, .int .i64 n] := hK
 have hk : k < pr.code.length := (List.getElem?_eq_some_iff.1 hi).1
 have hpl : pi < pg.procs.length := (List.getElem?_eq_some_iff.1 hpr).1
 subst hPA
 refine Fn.enter Tryz.func167 rfl rfl fun w0 => ?_
 refine WC.seq ?_
 refine WC.draw mixed ?_
 refine za.move 0 ?_
 refine za.nil 1 ?_
 refine za.fa 2 ?_
 refine za.fa 3 ?_
 refine za.ld 4 ?_
 refine za.move 5 ?_
 refine za.nil 6 ?_
 refine za.fa 7 ?_
 refine za.ld 8 ?_
 refine za.ix 9 ?_
 refine WA.vv 10 rfl (Gv.loadGN rfl hcs rfl) ?_
 refine WA.oo 11 rfl (OW.alloc rfl fun b1 => ?_)
 refine za.st 12 ?_
 refine WA.done kr ?_
 refine WK.un ?_
 refine WC.seq ?_
 refine WC.draw mixed ?_
 refine za.move 0 ?_
 refine za.nil 1 ?_
 refine za.fa 2 ?_
 refine za.ld 3 ?_
 refine WA.pp 4 rfl (Gp.geI' rfl rfl (show decide ((0 : Int) ≤ (k : Int)) = true by simp)) ?_
 refine za.move 5 ?_
 refine za.move 6 ?_
 refine za.nil 7 ?_
 refine za.fa 8 ?_
 refine za.ld 9 ?_
 refine za.fa 10 ?_
 refine za.ld 11 ?_
 refine za.len 12 ?_
 refine WA.pp 13 rfl (Gp.ltI' rfl rfl (show decide ((k : Int) < (pr.code.length : Int)) = true by simp; omega)) ?_
 refine za.pick 14 ?_
 refine WA.oo 15 rfl (OW.callR rfl (Hf := []) (List.Perm.refl _) (need_ok G) rfl (by rintro e G' H' ⟨h, _⟩; exact ⟨_, h⟩) fun v' G' H' h hg => ?_)
 obtain ⟨he, rfl, rfl⟩ := h
 cases he
 refine WA.done kr ?_
 refine WK.un ?_
 refine WC.seq ?_
 refine WC.draw mixed ?_
 refine za.fa 0 ?_
 refine za.ld 1 ?_
 refine za.move 2 ?_
 refine za.nil 3 ?_
 refine za.fa 4 ?_
 refine za.ld 5 ?_
 refine za.ix 6 ?_
 refine WA.vv 7 rfl (Gv.loadGN rfl hcs2 rfl) ?_
 refine WA.oo 8 rfl (OW.alloc rfl fun b2 => ?_)
 refine za.st 9 ?_
 refine WA.done kr ?_
 refine WK.un ?_
 refine WC.seq ?_
 refine WC.region ?_
 refine zw.move ?_
 refine zw.nil ?_
 refine zw.fa ?_
 refine zw.ld ?_
 refine WL.pp (Gp.add' rfl rfl (show IntKind.i64.wrap ((k : Int) + 1) = ((k + 1 : Nat) : Int) by rw [wrap_small (by omega) (by omega)]; omega)) ?_
 refine zw.nil ?_
 refine zw.fa ?_
 refine zw.st ?_
 refine WL.nil ?_
 refine WK.un ?_
 refine WC.seq ?_
 refine WC.region ?_
 refine zw.fa ?_
 refine zw.ld ?_
 refine WL.nil ?_
 refine WK.un ?_
 refine WC.pk (H' := .blk b2 (.cells #[.int .i64 2, .int .i64 n] 50 (0, 0)) :: .blk b1 (.cells #[.string pr.name, .bool pr.exp, .slice QA pr.params.length qc, .int .i64 pr.locals, .int .i64 pr.result, .slice (some ⟨ib, io, none⟩) pr.code.length ic] 47 (0, 0)) :: mcB mb (.slice CA pg.consts.length cc) (.slice (some ⟨pb, po, none⟩) pg.procs.length pc) c3 FA bs.length fcap en w OA out.length ocap st ed :: ox :: frB b A l.length cap pi (k + 1 : Nat) B vars.length cm :: x :: y :: fx :: Hx) pkA ?_
 repeat (first | refine WC.seq ?_ | refine WC.block ?_ | (refine WC.region ?_; refine WL.p (Gp.eqI rfl rfl) kr rfl ?_; refine WL.p (Gp.assign rfl) kr rfl ?_; refine WL.nil ?_; refine WK.un ?_) | refine WC.cond_true rfl ?_ | refine WC.cond_false rfl ?_ | (refine WC.skip ?_; refine WK.un ?_) | (refine WC.exit ?_; refine WK.un ?_))
 refine WC.draw mixed ?_
 refine za.fa 0 ?_
 refine za.ld 1 ?_
 by_cases hn0 : n < 0
 ·rw [show loadR l k vars n = .halt 6 by rw [loadR, if_pos hn0]]
  refine WA.pp 2 rfl (Gp.geI' rfl rfl (show decide ((0 : Int) ≤ n) = false by simpa using hn0)) ?_
  refine za.move 3 ?_
  refine za.skip 4 ?_
  refine za.skip 5 ?_
  refine za.skip 6 ?_
  refine za.skip 7 ?_
  refine za.skip 8 ?_
  refine za.skip 9 ?_
  refine za.skip 10 ?_
  refine za.skip 11 ?_
  refine za.pick 12 ?_
  refine za.move 13 ?_
  refine za.skip 14 ?_
  refine za.skip 15 ?_
  refine za.skip 16 ?_
  refine za.skip 17 ?_
  refine za.skip 18 ?_
  refine za.skip 19 ?_
  refine za.skip 20 ?_
  refine za.skip 21 ?_
  refine za.skip 22 ?_
  refine za.skip 23 ?_
  refine za.pick 24 ?_
  refine WA.oo 25 rfl (OW.call rfl (Hf := []) (List.Perm.refl _) (need_no _) rfl (fun v G' H' h _ => by cases h.1) (fun ch G' H' h _ => ?_) (fun G' H' h => by cases h.1))
  obtain ⟨he, rfl, rfl⟩ := h
  cases he
  refine WK.un ?_
  exact QF.panicP (⟨rfl, rfl, _, Left.of b A l.length cap pi (k + 1 : Nat) B vars.length cm, rfl⟩)
 obtain ⟨i, rfl⟩ := Int.eq_ofNat_of_zero_le (Int.not_lt.1 hn0)
 refine WA.pp 2 rfl (Gp.geI' rfl rfl (show decide ((0 : Int) ≤ (i : Int)) = true by simp)) ?_
 refine za.move 3 ?_
 refine za.fa 4 ?_
 refine za.ld 5 ?_
 refine za.move 6 ?_
 refine za.nil 7 ?_
 refine za.fa 8 ?_
 refine za.ld 9 ?_
 refine za.len 10 ?_
 cases hc : vars[i]? with
 | none =>
  rw [show loadR l k vars (i : Int) = .halt 6 by rw [loadR, if_neg hn0, Int.toNat_natCast, hc]]
  refine WA.pp 11 rfl (Gp.ltI' rfl rfl (show decide ((i : Int) < (vars.length : Int)) = false by have := List.getElem?_eq_none_iff.1 hc; simp; omega)) ?_
  refine za.pick 12 ?_
  refine za.move 13 ?_
  refine za.skip 14 ?_
  refine za.skip 15 ?_
  refine za.skip 16 ?_
  refine za.skip 17 ?_
  refine za.skip 18 ?_
  refine za.skip 19 ?_
  refine za.skip 20 ?_
  refine za.skip 21 ?_
  refine za.skip 22 ?_
  refine za.skip 23 ?_
  refine za.pick 24 ?_
  refine WA.oo 25 rfl (OW.call rfl (Hf := []) (List.Perm.refl _) (need_no _) rfl (fun v G' H' h _ => by cases h.1) (fun ch G' H' h _ => ?_) (fun G' H' h => by cases h.1))
  obtain ⟨he, rfl, rfl⟩ := h
  cases he
  refine WK.un ?_
  exact QF.panicP (⟨rfl, rfl, _, Left.of b A l.length cap pi (k + 1 : Nat) B vars.length cm, rfl⟩)
 | some v =>
 have hic : i < vars.length := (List.getElem?_eq_some_iff.1 hc).1
 obtain ⟨hly, ⟨h1, h2, h3, h4⟩ | ⟨yb, yc, rfl, rfl, hy1, hy2, hy3⟩⟩ := id hy
 ·omega
 refine WA.pp 11 rfl (Gp.ltI' rfl rfl (show decide ((i : Int) < (vars.length : Int)) = true by simp; omega)) ?_
 refine za.pick 12 ?_
 refine za.move 13 ?_
 refine za.move 14 ?_
 refine za.nil 15 ?_
 refine za.fa 16 ?_
 refine za.ld 17 ?_
 refine za.fa 18 ?_
 refine za.ld 19 ?_
 refine za.ix 20 ?_
 refine za.fa 21 ?_
 refine WA.vv 22 rfl (Gv.load1 rfl atA (VVec.cell (j := 0) hy3 hc rfl)) ?_
 by_cases hz : v.t = 0
 ·rw [show loadR l k vars (i : Int) = .halt 6 by rw [loadR, if_neg hn0, Int.toNat_natCast, hc]; exact if_pos hz]
  refine WA.pp 23 rfl (Gp.neI' rfl rfl (show (v.t != 0) = false by simpa using hz)) ?_
  refine za.pick 24 ?_
  refine WA.oo 25 rfl (OW.call rfl (Hf := []) (List.Perm.refl _) (need_no _) rfl (fun v G' H' h _ => by cases h.1) (fun ch G' H' h _ => ?_) (fun G' H' h => by cases h.1))
  obtain ⟨he, rfl, rfl⟩ := h
  cases he
  refine WK.un ?_
  exact QF.panicP (⟨rfl, rfl, _, Left.of b A l.length cap pi (k + 1 : Nat) (some ⟨yb, 0, none⟩) vars.length cm, rfl⟩)
 rw [show loadR l k vars (i : Int) = layRQ l k vars v by rw [loadR, if_neg hn0, Int.toNat_natCast, hc]; exact if_neg hz]
 refine WA.pp 23 rfl (Gp.neI' rfl rfl (show (v.t != 0) = true by simpa using hz)) ?_
 refine za.pick 24 ?_
 refine WA.oo 25 rfl (OW.callR rfl (Hf := []) (List.Perm.refl _) (need_ok G) rfl (by rintro e G' H' ⟨h, _⟩; exact ⟨_, h⟩) fun v' G' H' h hg => ?_)
 obtain ⟨he, rfl, rfl⟩ := h
 cases he
 refine WA.done kr ?_
 refine WK.un ?_
 refine WC.draw mixed ?_
 refine za.move 0 ?_
 refine za.move 1 ?_
 refine za.move 2 ?_
 refine za.nil 3 ?_
 refine za.fa 4 ?_
 refine za.ld 5 ?_
 refine za.fa 6 ?_
 refine za.ld 7 ?_
 refine za.ix 8 ?_
 refine WA.vv 9 rfl (Gv.loadN rfl atA (VVec.elem (A := none) (cap := 0) (b := 0) hy3 hc) rfl) ?_
 by_cases hf : 128 ≤ l.length
 ·rw [show layRQ l k vars v = .halt 6 by rw [layRQ, if_pos hf]]
  refine WA.oo 10 rfl (OW.call rfl (Pk.perm pkA) (lay_no G _ b A l.length cap pi (k + 1 : Nat) _ vars.length cm _ hf) rfl (fun v' G' H' h hg => by cases h.1) (fun ch G' H' h hg => ?_) (fun G' H' h => by repeat (first | (cases h.1; done) | (cases h; done) | (obtain ⟨_, h⟩ := h) | (rcases h with h | h))))
  obtain ⟨he, rfl, c, hc, rfl⟩ := h
  cases he
  refine WK.un ?_
  exact QF.panicP ⟨rfl, rfl, _, ⟨c, hc, rfl⟩, rfl⟩
 rw [show layRQ l k vars v = .go (l ++ [v]) (k + 1) vars by rw [layRQ, if_neg hf]]
 refine WA.oo 10 rfl (OW.callK rfl (lay_ok G _ b A cap pi (k + 1 : Nat) _ vars.length cm l x v hv (by omega)) rfl fun v' G' H' h hg => ?_)
 obtain ⟨A', cap', x', he, rfl, rfl, hv'⟩ := h
 cases he
 refine WA.done kr ?_
 refine WK.un ?_
 exact QF.p0 (.inr rfl) rfl ⟨rfl, A', cap', x', _, rfl, hv', hy, rfl⟩ pkA
theorem do_store (n : Int) (hi : pr.code[k]? = some (3, n)) (hv : VVec A cap l x) (hl : l.length ≤ 1000000) (hy : VVec B cm vars y) : Fn Tryz.prog 167 #[.pointer (some ⟨mb, 0, none⟩), .pointer (some ⟨b, 0, none⟩)] G
  (mcB mb (.slice CA pg.consts.length cc) (.slice PA pg.procs.length pc) c3 FA bs.length fcap en w OA out.length ocap st ed :: ox :: frB b A l.length cap pi k B vars.length cm :: x :: y :: fx :: Hx)
  (DoR G mb (.slice CA pg.consts.length cc) (.slice PA pg.procs.length pc) c3 FA fcap en w OA ocap st ed out ox fx Hx RL b A cap pi B vars cm x y bs (k + 1) (doR pg pr l k vars bs.length out.length)) := by
 rw [show doR pg pr l k vars bs.length out.length = storeR l k vars n by simp [doR, hi]]
 obtain ⟨pb, po, cs, hPA, ⟨QA, qc, IA, ic, rfl, hQ, hI⟩, hcs⟩ := hP pi pr hpr
 obtain ⟨ib, io, cs2, rfl, hK, hcs2⟩ := hI k (3, n) hi
 obtain rfl : cs2 = [.int .i64 3, .int .i64 n] := hK
 have hk : k < pr.code.length := (List.getElem?_eq_some_iff.1 hi).1
 have hpl : pi < pg.procs.length := (List.getElem?_eq_some_iff.1 hpr).1
 subst hPA
 refine Fn.enter Tryz.func167 rfl rfl fun w0 => ?_
 refine WC.seq ?_
 refine WC.draw mixed ?_
 refine za.move 0 ?_
 refine za.nil 1 ?_
 refine za.fa 2 ?_
 refine za.fa 3 ?_
 refine za.ld 4 ?_
 refine za.move 5 ?_
 refine za.nil 6 ?_
 refine za.fa 7 ?_
 refine za.ld 8 ?_
 refine za.ix 9 ?_
 refine WA.vv 10 rfl (Gv.loadGN rfl hcs rfl) ?_
 refine WA.oo 11 rfl (OW.alloc rfl fun b1 => ?_)
 refine za.st 12 ?_
 refine WA.done kr ?_
 refine WK.un ?_
 refine WC.seq ?_
 refine WC.draw mixed ?_
 refine za.move 0 ?_
 refine za.nil 1 ?_
 refine za.fa 2 ?_
 refine za.ld 3 ?_
 refine WA.pp 4 rfl (Gp.geI' rfl rfl (show decide ((0 : Int) ≤ (k : Int)) = true by simp)) ?_
 refine za.move 5 ?_
 refine za.move 6 ?_
 refine za.nil 7 ?_
 refine za.fa 8 ?_
 refine za.ld 9 ?_
 refine za.fa 10 ?_
 refine za.ld 11 ?_
 refine za.len 12 ?_
 refine WA.pp 13 rfl (Gp.ltI' rfl rfl (show decide ((k : Int) < (pr.code.length : Int)) = true by simp; omega)) ?_
 refine za.pick 14 ?_
 refine WA.oo 15 rfl (OW.callR rfl (Hf := []) (List.Perm.refl _) (need_ok G) rfl (by rintro e G' H' ⟨h, _⟩; exact ⟨_, h⟩) fun v' G' H' h hg => ?_)
 obtain ⟨he, rfl, rfl⟩ := h
 cases he
 refine WA.done kr ?_
 refine WK.un ?_
 refine WC.seq ?_
 refine WC.draw mixed ?_
 refine za.fa 0 ?_
 refine za.ld 1 ?_
 refine za.move 2 ?_
 refine za.nil 3 ?_
 refine za.fa 4 ?_
 refine za.ld 5 ?_
 refine za.ix 6 ?_
 refine WA.vv 7 rfl (Gv.loadGN rfl hcs2 rfl) ?_
 refine WA.oo 8 rfl (OW.alloc rfl fun b2 => ?_)
 refine za.st 9 ?_
 refine WA.done kr ?_
 refine WK.un ?_
 refine WC.seq ?_
 refine WC.region ?_
 refine zw.move ?_
 refine zw.nil ?_
 refine zw.fa ?_
 refine zw.ld ?_
 refine WL.pp (Gp.add' rfl rfl (show IntKind.i64.wrap ((k : Int) + 1) = ((k + 1 : Nat) : Int) by rw [wrap_small (by omega) (by omega)]; omega)) ?_
 refine zw.nil ?_
 refine zw.fa ?_
 refine zw.st ?_
 refine WL.nil ?_
 refine WK.un ?_
 refine WC.seq ?_
 refine WC.region ?_
 refine zw.fa ?_
 refine zw.ld ?_
 refine WL.nil ?_
 refine WK.un ?_
 refine WC.pk (H' := .blk b2 (.cells #[.int .i64 3, .int .i64 n] 50 (0, 0)) :: .blk b1 (.cells #[.string pr.name, .bool pr.exp, .slice QA pr.params.length qc, .int .i64 pr.locals, .int .i64 pr.result, .slice (some ⟨ib, io, none⟩) pr.code.length ic] 47 (0, 0)) :: mcB mb (.slice CA pg.consts.length cc) (.slice (some ⟨pb, po, none⟩) pg.procs.length pc) c3 FA bs.length fcap en w OA out.length ocap st ed :: ox :: frB b A l.length cap pi (k + 1 : Nat) B vars.length cm :: x :: y :: fx :: Hx) pkA ?_
 repeat (first | refine WC.seq ?_ | refine WC.block ?_ | (refine WC.region ?_; refine WL.p (Gp.eqI rfl rfl) kr rfl ?_; refine WL.p (Gp.assign rfl) kr rfl ?_; refine WL.nil ?_; refine WK.un ?_) | refine WC.cond_true rfl ?_ | refine WC.cond_false rfl ?_ | (refine WC.skip ?_; refine WK.un ?_) | (refine WC.exit ?_; refine WK.un ?_))
 refine WC.draw mixed ?_
 refine za.fa 0 ?_
 refine za.ld 1 ?_
 by_cases hn0 : n < 0
 ·rw [show storeR l k vars n = .halt 6 by rw [storeR, if_pos (.inl hn0)]]
  refine WA.pp 2 rfl (Gp.geI' rfl rfl (show decide ((0 : Int) ≤ n) = false by simpa using hn0)) ?_
  refine za.move 3 ?_
  refine za.skip 4 ?_
  refine za.skip 5 ?_
  refine za.skip 6 ?_
  refine za.skip 7 ?_
  refine za.skip 8 ?_
  refine za.skip 9 ?_
  refine za.skip 10 ?_
  refine za.skip 11 ?_
  refine za.pick 12 ?_
  refine WA.oo 13 rfl (OW.call rfl (Hf := []) (List.Perm.refl _) (need_no _) rfl (fun v G' H' h _ => by cases h.1) (fun ch G' H' h _ => ?_) (fun G' H' h => by cases h.1))
  obtain ⟨he, rfl, rfl⟩ := h
  cases he
  refine WK.un ?_
  exact QF.panicP (⟨rfl, rfl, _, Left.of b A l.length cap pi (k + 1 : Nat) B vars.length cm, rfl⟩)
 obtain ⟨i, rfl⟩ := Int.eq_ofNat_of_zero_le (Int.not_lt.1 hn0)
 refine WA.pp 2 rfl (Gp.geI' rfl rfl (show decide ((0 : Int) ≤ (i : Int)) = true by simp)) ?_
 refine za.move 3 ?_
 refine za.fa 4 ?_
 refine za.ld 5 ?_
 refine za.move 6 ?_
 refine za.nil 7 ?_
 refine za.fa 8 ?_
 refine za.ld 9 ?_
 refine za.len 10 ?_
 by_cases hic : i < vars.length
 rotate_left
 ·rw [show storeR l k vars (i : Int) = .halt 6 by rw [storeR, if_pos (.inr (by simp; omega))]]
  refine WA.pp 11 rfl (Gp.ltI' rfl rfl (show decide ((i : Int) < (vars.length : Int)) = false by simp; omega)) ?_
  refine za.pick 12 ?_
  refine WA.oo 13 rfl (OW.call rfl (Hf := []) (List.Perm.refl _) (need_no _) rfl (fun v G' H' h _ => by cases h.1) (fun ch G' H' h _ => ?_) (fun G' H' h => by cases h.1))
  obtain ⟨he, rfl, rfl⟩ := h
  cases he
  refine WK.un ?_
  exact QF.panicP (⟨rfl, rfl, _, Left.of b A l.length cap pi (k + 1 : Nat) B vars.length cm, rfl⟩)
 obtain ⟨hly, ⟨h1, h2, h3, h4⟩ | ⟨yb, yc, rfl, rfl, hy1, hy2, hy3⟩⟩ := id hy
 ·omega
 refine WA.pp 11 rfl (Gp.ltI' rfl rfl (show decide ((i : Int) < (vars.length : Int)) = true by simp; omega)) ?_
 refine za.pick 12 ?_
 refine WA.oo 13 rfl (OW.callR rfl (Hf := []) (List.Perm.refl _) (need_ok G) rfl (by rintro e G' H' ⟨h, _⟩; exact ⟨_, h⟩) fun v' G' H' h hg => ?_)
 obtain ⟨he, rfl, rfl⟩ := h
 cases he
 refine WA.done kr ?_
 refine WK.un ?_
 refine WC.drawW (S := fun w => Sat G [.blk b2 (.cells #[.int .i64 3, .int .i64 i] 50 (0, 0))] w ∧ w.cell? ⟨b, 3, none⟩ = some (.slice (some ⟨yb, 0, none⟩) vars.length cm)) mixed (fun w hw => ⟨hw.pk pkA, (hw.cell (o := 3) (b := b) atA).trans rfl⟩) ?_
 refine WS.tp (i := 0) rfl kr kr rfl (Gp.move rfl) ?_
 refine WS.tp (i := 1) rfl kr kr rfl (Gp.nilCheck rfl) ?_
 refine WS.tp (i := 2) rfl kr kr rfl (Gp.fieldAddr rfl) ?_
 refine WS.tp (i := 4) rfl kr kr rfl (Gp.fieldAddr rfl) ?_
 refine WS.tp (i := 6) rfl kr kr rfl (Gp.move rfl) ?_
 refine WS.tp (i := 7) rfl kr kr rfl (Gp.move rfl) ?_
 refine WS.tv (i := 3) rfl kr kr rfl (fun a w sk hw => load1_cell rfl sk hw.2) ?_
 refine WS.tv (i := 5) rfl kr kr rfl (fun a w sk hw => Gv.load1 rfl .here rfl a w sk hw.1) ?_
 cases ht : pop1 l with
 | none =>
  have h1 := pop1_len ht
  rw [show storeR l k vars (i : Int) = .halt 6 by rw [storeR, if_neg (by simp; omega), ht]]
  refine WS.one (i := 8) kr rfl kr (OW.call rfl (Pk.perm pkA) (((take_no G _ b A l.length cap pi (k + 1 : Nat) (some ⟨yb, 0, none⟩) vars.length cm 1 (by omega)).pk (F := [x]) (.cons .here .nil)).drop fun e G' H' ⟨H2, ⟨h1, h2, h3⟩, h4⟩ => ⟨H2, by rw [h4]; exact List.sublist_append_left _ _, (⟨h1, h2, h3⟩ : e = halted 6 ∧ G = G' ∧ Left b H2)⟩) rfl (fun v' G' H' h hg => by cases h.1) (fun ch G' H' h hg => ?_) (fun G' H' h => by repeat (first | (cases h.1; done) | (cases h; done) | (obtain ⟨_, h⟩ := h) | (rcases h with h | h))))
  obtain ⟨he, rfl, c, hc, rfl⟩ := h
  cases he
  refine WK.un ?_
  exact QF.panicP ⟨rfl, rfl, _, ⟨c, hc, rfl⟩, rfl⟩
 | some rv =>
  obtain ⟨r, v⟩ := rv
  rw [show storeR l k vars (i : Int) = .go r (k + 1) (vars.set i v) by rw [storeR, if_neg (by simp; omega), ht, Int.toNat_natCast]]
  obtain rfl := pop1_some ht
  refine WS.one (i := 8) kr rfl kr (OW.callK rfl (take1_ok G _ b A cap pi (k + 1 : Nat) (some ⟨yb, 0, none⟩) vars.length cm x r v hv hl) rfl fun v' G' H' h hg => ?_)
  obtain ⟨A', cap', x', he, rfl, rfl, hv1, hv2⟩ := h
  cases he
  refine ⟨fun w hw => ⟨hw.pk pkA, (hw.cell (o := 3) (b := b) atA).trans rfl⟩, ?_⟩
  obtain ⟨hlv, ⟨h1, h2, h3, h4⟩ | ⟨xb, xc, rfl, rfl, h1, h2, h3⟩⟩ := hv1
  ·simp at h2
  obtain ⟨_, hfit, hput⟩ := Vec.put hy hic (vcells v) rfl
  refine WS.tp (i := 9) rfl kr kr rfl (Gp.indexAddr rfl rfl (by first | assumption | omega | decide) (by first | assumption | omega | decide | (simp only [List.length_cons, List.length_nil]; decide))) ?_
  refine WS.one (i := 10) kr rfl kr (OW.gv (Gv.loadN rfl atA (VVec.elem (A := none) (cap := 0) (b := 0) (i := 0) (v := v) h3 rfl) rfl) rfl ?_)
  refine ⟨fun w hw => ⟨hw.pk pkA, (hw.cell (o := 3) (b := b) atA).trans rfl⟩, ?_⟩
  refine WS.tp (i := 11) rfl kr kr rfl (Gp.indexAddr rfl rfl (by first | assumption | omega | decide) (by first | assumption | omega | decide | (simp only [List.length_cons, List.length_nil]; decide))) ?_
  refine WS.one (i := 12) kr rfl kr (OW.store (n := 4) (c' := splice yc (i * 4) (vcells v)) rfl rfl atA rfl rfl rfl (by have : (vcells v).length = 4 := rfl; exact Nat.ble_eq_true_of_le (by simp; omega)) (by simp; rfl) ?_ rfl)
  refine ⟨fun w hw => ⟨hw.pk pkA, (hw.cell (o := 3) (b := b) atA).trans rfl⟩, ?_⟩
  refine WS.done kr ?_
  refine WK.un ?_
  have e : vflat vars = vflat vars := rfl
  rw [show (vflat vars).take (i * 4) ++ vcells v ++ (vflat vars).drop (i * 4 + (vcells v).length) = vflat (vars.set i v) from vflat_set vars i v hic] at hput
  have el : (vars.set i v).length = vars.length := List.length_set
  exact QF.p0 (.inr rfl) rfl ⟨rfl, A, cap, x, _, rfl, hv2, by unfold VVec; rw [el]; exact hput, by rw [el]⟩ pkA
theorem do_jump (n : Int) (hi : pr.code[k]? = some (5, n)) (hv : VVec A cap l x) (hl : l.length ≤ 1000000) (hy : VVec B cm vars y) : Fn Tryz.prog 167 #[.pointer (some ⟨mb, 0, none⟩), .pointer (some ⟨b, 0, none⟩)] G
  (mcB mb (.slice CA pg.consts.length cc) (.slice PA pg.procs.length pc) c3 FA bs.length fcap en w OA out.length ocap st ed :: ox :: frB b A l.length cap pi k B vars.length cm :: x :: y :: fx :: Hx)
  (DoR G mb (.slice CA pg.consts.length cc) (.slice PA pg.procs.length pc) c3 FA fcap en w OA ocap st ed out ox fx Hx RL b A cap pi B vars cm x y bs (k + 1) (doR pg pr l k vars bs.length out.length)) := by
 rw [show doR pg pr l k vars bs.length out.length = jumpR pr.code.length l vars n by simp [doR, hi]]
 obtain ⟨pb, po, cs, hPA, ⟨QA, qc, IA, ic, rfl, hQ, hI⟩, hcs⟩ := hP pi pr hpr
 obtain ⟨ib, io, cs2, rfl, hK, hcs2⟩ := hI k (5, n) hi
 obtain rfl : cs2 = [.int .i64 5, .int .i64 n] := hK
 have hk : k < pr.code.length := (List.getElem?_eq_some_iff.1 hi).1
 have hpl : pi < pg.procs.length := (List.getElem?_eq_some_iff.1 hpr).1
 subst hPA
 refine Fn.enter Tryz.func167 rfl rfl fun w0 => ?_
 refine WC.seq ?_
 refine WC.draw mixed ?_
 refine za.move 0 ?_
 refine za.nil 1 ?_
 refine za.fa 2 ?_
 refine za.fa 3 ?_
 refine za.ld 4 ?_
 refine za.move 5 ?_
 refine za.nil 6 ?_
 refine za.fa 7 ?_
 refine za.ld 8 ?_
 refine za.ix 9 ?_
 refine WA.vv 10 rfl (Gv.loadGN rfl hcs rfl) ?_
 refine WA.oo 11 rfl (OW.alloc rfl fun b1 => ?_)
 refine za.st 12 ?_
 refine WA.done kr ?_
 refine WK.un ?_
 refine WC.seq ?_
 refine WC.draw mixed ?_
 refine za.move 0 ?_
 refine za.nil 1 ?_
 refine za.fa 2 ?_
 refine za.ld 3 ?_
 refine WA.pp 4 rfl (Gp.geI' rfl rfl (show decide ((0 : Int) ≤ (k : Int)) = true by simp)) ?_
 refine za.move 5 ?_
 refine za.move 6 ?_
 refine za.nil 7 ?_
 refine za.fa 8 ?_
 refine za.ld 9 ?_
 refine za.fa 10 ?_
 refine za.ld 11 ?_
 refine za.len 12 ?_
 refine WA.pp 13 rfl (Gp.ltI' rfl rfl (show decide ((k : Int) < (pr.code.length : Int)) = true by simp; omega)) ?_
 refine za.pick 14 ?_
 refine WA.oo 15 rfl (OW.callR rfl (Hf := []) (List.Perm.refl _) (need_ok G) rfl (by rintro e G' H' ⟨h, _⟩; exact ⟨_, h⟩) fun v' G' H' h hg => ?_)
 obtain ⟨he, rfl, rfl⟩ := h
 cases he
 refine WA.done kr ?_
 refine WK.un ?_
 refine WC.seq ?_
 refine WC.draw mixed ?_
 refine za.fa 0 ?_
 refine za.ld 1 ?_
 refine za.move 2 ?_
 refine za.nil 3 ?_
 refine za.fa 4 ?_
 refine za.ld 5 ?_
 refine za.ix 6 ?_
 refine WA.vv 7 rfl (Gv.loadGN rfl hcs2 rfl) ?_
 refine WA.oo 8 rfl (OW.alloc rfl fun b2 => ?_)
 refine za.st 9 ?_
 refine WA.done kr ?_
 refine WK.un ?_
 refine WC.seq ?_
 refine WC.region ?_
 refine zw.move ?_
 refine zw.nil ?_
 refine zw.fa ?_
 refine zw.ld ?_
 refine WL.pp (Gp.add' rfl rfl (show IntKind.i64.wrap ((k : Int) + 1) = ((k + 1 : Nat) : Int) by rw [wrap_small (by omega) (by omega)]; omega)) ?_
 refine zw.nil ?_
 refine zw.fa ?_
 refine zw.st ?_
 refine WL.nil ?_
 refine WK.un ?_
 refine WC.seq ?_
 refine WC.region ?_
 refine zw.fa ?_
 refine zw.ld ?_
 refine WL.nil ?_
 refine WK.un ?_
 refine WC.pk (H' := .blk b2 (.cells #[.int .i64 5, .int .i64 n] 50 (0, 0)) :: .blk b1 (.cells #[.string pr.name, .bool pr.exp, .slice QA pr.params.length qc, .int .i64 pr.locals, .int .i64 pr.result, .slice (some ⟨ib, io, none⟩) pr.code.length ic] 47 (0, 0)) :: mcB mb (.slice CA pg.consts.length cc) (.slice (some ⟨pb, po, none⟩) pg.procs.length pc) c3 FA bs.length fcap en w OA out.length ocap st ed :: ox :: frB b A l.length cap pi (k + 1 : Nat) B vars.length cm :: x :: y :: fx :: Hx) pkA ?_
 repeat (first | refine WC.seq ?_ | refine WC.block ?_ | (refine WC.region ?_; refine WL.p (Gp.eqI rfl rfl) kr rfl ?_; refine WL.p (Gp.assign rfl) kr rfl ?_; refine WL.nil ?_; refine WK.un ?_) | refine WC.cond_true rfl ?_ | refine WC.cond_false rfl ?_ | (refine WC.skip ?_; refine WK.un ?_) | (refine WC.exit ?_; refine WK.un ?_))
 refine WC.region ?_
 refine zw.fa ?_
 refine zw.ld ?_
 by_cases hn0 : n < 0
 ·rw [show jumpR pr.code.length l vars n = .halt 6 by rw [jumpR, if_pos (.inl hn0)]]
  refine WL.pp (Gp.geI' rfl rfl (show decide ((0 : Int) ≤ n) = false by simpa using hn0)) ?_
  refine zw.move ?_
  refine zw.skip ?_
  refine zw.skip ?_
  refine zw.skip ?_
  refine zw.skip ?_
  refine zw.skip ?_
  refine zw.skip ?_
  refine zw.pick ?_
  refine WL.oo (OW.call rfl (Hf := []) (List.Perm.refl _) (need_no _) rfl (fun v G' H' h _ => by cases h.1) (fun ch G' H' h _ => ?_) (fun G' H' h => by cases h.1))
  obtain ⟨he, rfl, rfl⟩ := h
  cases he
  refine WK.un ?_
  exact QF.panicP (⟨rfl, rfl, _, Left.of b A l.length cap pi (k + 1 : Nat) B vars.length cm, rfl⟩)
 obtain ⟨i, rfl⟩ := Int.eq_ofNat_of_zero_le (Int.not_lt.1 hn0)
 refine WL.pp (Gp.geI' rfl rfl (show decide ((0 : Int) ≤ (i : Int)) = true by simp)) ?_
 refine zw.move ?_
 refine zw.fa ?_
 refine zw.ld ?_
 refine zw.fa ?_
 refine zw.ld ?_
 refine zw.len ?_
 by_cases hic : i < pr.code.length
 rotate_left
 ·rw [show jumpR pr.code.length l vars (i : Int) = .halt 6 by rw [jumpR, if_pos (.inr (by simp; omega))]]
  refine WL.pp (Gp.ltI' rfl rfl (show decide ((i : Int) < (pr.code.length : Int)) = false by simp; omega)) ?_
  refine zw.pick ?_
  refine WL.oo (OW.call rfl (Hf := []) (List.Perm.refl _) (need_no _) rfl (fun v G' H' h _ => by cases h.1) (fun ch G' H' h _ => ?_) (fun G' H' h => by cases h.1))
  obtain ⟨he, rfl, rfl⟩ := h
  cases he
  refine WK.un ?_
  exact QF.panicP (⟨rfl, rfl, _, Left.of b A l.length cap pi (k + 1 : Nat) B vars.length cm, rfl⟩)
 refine WL.pp (Gp.ltI' rfl rfl (show decide ((i : Int) < (pr.code.length : Int)) = true by simp; omega)) ?_
 refine zw.pick ?_
 refine WL.oo (OW.callR rfl (Hf := []) (List.Perm.refl _) (need_ok G) rfl (by rintro e G' H' ⟨h, _⟩; exact ⟨_, h⟩) fun v' G' H' h hg => ?_)
 obtain ⟨he, rfl, rfl⟩ := h
 cases he
 refine WL.nil ?_
 refine WK.un ?_
 refine WC.seq ?_
 refine WC.region ?_
 refine zw.fa ?_
 refine zw.ld ?_
 refine zw.eq ?_
 refine zw.move ?_
 refine zw.skip ?_
 refine zw.skip ?_
 refine zw.skip ?_
 refine zw.skip ?_
 refine zw.skip ?_
 refine zw.skip ?_
 refine zw.skip ?_
 refine zw.pick ?_
 refine WL.nil ?_
 refine WK.un ?_
 refine WC.cond_true rfl ?_
 refine WC.region ?_
 refine zw.move ?_
 refine zw.fa ?_
 refine zw.ld ?_
 refine zw.nil ?_
 refine zw.fa ?_
 refine zw.st ?_
 refine WL.nil ?_
 refine WK.un ?_
 rw [show jumpR pr.code.length l vars (i : Int) = .go l i vars by rw [jumpR, if_neg (by simp; omega), Int.toNat_natCast]]
 exact QF.p0 (.inr rfl) rfl ⟨rfl, A, cap, x, y, rfl, hv, hy, rfl⟩ pkA
theorem do_unless (n : Int) (hi : pr.code[k]? = some (6, n)) (hv : VVec A cap l x) (hl : l.length ≤ 1000000) (hy : VVec B cm vars y) : Fn Tryz.prog 167 #[.pointer (some ⟨mb, 0, none⟩), .pointer (some ⟨b, 0, none⟩)] G
  (mcB mb (.slice CA pg.consts.length cc) (.slice PA pg.procs.length pc) c3 FA bs.length fcap en w OA out.length ocap st ed :: ox :: frB b A l.length cap pi k B vars.length cm :: x :: y :: fx :: Hx)
  (DoR G mb (.slice CA pg.consts.length cc) (.slice PA pg.procs.length pc) c3 FA fcap en w OA ocap st ed out ox fx Hx RL b A cap pi B vars cm x y bs (k + 1) (doR pg pr l k vars bs.length out.length)) := by
 rw [show doR pg pr l k vars bs.length out.length = unlessR pr.code.length l k vars n by simp [doR, hi]]
 obtain ⟨pb, po, cs, hPA, ⟨QA, qc, IA, ic, rfl, hQ, hI⟩, hcs⟩ := hP pi pr hpr
 obtain ⟨ib, io, cs2, rfl, hK, hcs2⟩ := hI k (6, n) hi
 obtain rfl : cs2 = [.int .i64 6, .int .i64 n] := hK
 have hk : k < pr.code.length := (List.getElem?_eq_some_iff.1 hi).1
 have hpl : pi < pg.procs.length := (List.getElem?_eq_some_iff.1 hpr).1
 subst hPA
 refine Fn.enter Tryz.func167 rfl rfl fun w0 => ?_
 refine WC.seq ?_
 refine WC.draw mixed ?_
 refine za.move 0 ?_
 refine za.nil 1 ?_
 refine za.fa 2 ?_
 refine za.fa 3 ?_
 refine za.ld 4 ?_
 refine za.move 5 ?_
 refine za.nil 6 ?_
 refine za.fa 7 ?_
 refine za.ld 8 ?_
 refine za.ix 9 ?_
 refine WA.vv 10 rfl (Gv.loadGN rfl hcs rfl) ?_
 refine WA.oo 11 rfl (OW.alloc rfl fun b1 => ?_)
 refine za.st 12 ?_
 refine WA.done kr ?_
 refine WK.un ?_
 refine WC.seq ?_
 refine WC.draw mixed ?_
 refine za.move 0 ?_
 refine za.nil 1 ?_
 refine za.fa 2 ?_
 refine za.ld 3 ?_
 refine WA.pp 4 rfl (Gp.geI' rfl rfl (show decide ((0 : Int) ≤ (k : Int)) = true by simp)) ?_
 refine za.move 5 ?_
 refine za.move 6 ?_
 refine za.nil 7 ?_
 refine za.fa 8 ?_
 refine za.ld 9 ?_
 refine za.fa 10 ?_
 refine za.ld 11 ?_
 refine za.len 12 ?_
 refine WA.pp 13 rfl (Gp.ltI' rfl rfl (show decide ((k : Int) < (pr.code.length : Int)) = true by simp; omega)) ?_
 refine za.pick 14 ?_
 refine WA.oo 15 rfl (OW.callR rfl (Hf := []) (List.Perm.refl _) (need_ok G) rfl (by rintro e G' H' ⟨h, _⟩; exact ⟨_, h⟩) fun v' G' H' h hg => ?_)
 obtain ⟨he, rfl, rfl⟩ := h
 cases he
 refine WA.done kr ?_
 refine WK.un ?_
 refine WC.seq ?_
 refine WC.draw mixed ?_
 refine za.fa 0 ?_
 refine za.ld 1 ?_
 refine za.move 2 ?_
 refine za.nil 3 ?_
 refine za.fa 4 ?_
 refine za.ld 5 ?_
 refine za.ix 6 ?_
 refine WA.vv 7 rfl (Gv.loadGN rfl hcs2 rfl) ?_
 refine WA.oo 8 rfl (OW.alloc rfl fun b2 => ?_)
 refine za.st 9 ?_
 refine WA.done kr ?_
 refine WK.un ?_
 refine WC.seq ?_
 refine WC.region ?_
 refine zw.move ?_
 refine zw.nil ?_
 refine zw.fa ?_
 refine zw.ld ?_
 refine WL.pp (Gp.add' rfl rfl (show IntKind.i64.wrap ((k : Int) + 1) = ((k + 1 : Nat) : Int) by rw [wrap_small (by omega) (by omega)]; omega)) ?_
 refine zw.nil ?_
 refine zw.fa ?_
 refine zw.st ?_
 refine WL.nil ?_
 refine WK.un ?_
 refine WC.seq ?_
 refine WC.region ?_
 refine zw.fa ?_
 refine zw.ld ?_
 refine WL.nil ?_
 refine WK.un ?_
 refine WC.pk (H' := .blk b2 (.cells #[.int .i64 6, .int .i64 n] 50 (0, 0)) :: .blk b1 (.cells #[.string pr.name, .bool pr.exp, .slice QA pr.params.length qc, .int .i64 pr.locals, .int .i64 pr.result, .slice (some ⟨ib, io, none⟩) pr.code.length ic] 47 (0, 0)) :: mcB mb (.slice CA pg.consts.length cc) (.slice (some ⟨pb, po, none⟩) pg.procs.length pc) c3 FA bs.length fcap en w OA out.length ocap st ed :: ox :: frB b A l.length cap pi (k + 1 : Nat) B vars.length cm :: x :: y :: fx :: Hx) pkA ?_
 repeat (first | refine WC.seq ?_ | refine WC.block ?_ | (refine WC.region ?_; refine WL.p (Gp.eqI rfl rfl) kr rfl ?_; refine WL.p (Gp.assign rfl) kr rfl ?_; refine WL.nil ?_; refine WK.un ?_) | refine WC.cond_true rfl ?_ | refine WC.cond_false rfl ?_ | (refine WC.skip ?_; refine WK.un ?_) | (refine WC.exit ?_; refine WK.un ?_))
 refine WC.region ?_
 refine zw.fa ?_
 refine zw.ld ?_
 by_cases hn0 : n < 0
 ·rw [show unlessR pr.code.length l k vars n = .halt 6 by rw [unlessR, if_pos (.inl hn0)]]
  refine WL.pp (Gp.geI' rfl rfl (show decide ((0 : Int) ≤ n) = false by simpa using hn0)) ?_
  refine zw.move ?_
  refine zw.skip ?_
  refine zw.skip ?_
  refine zw.skip ?_
  refine zw.skip ?_
  refine zw.skip ?_
  refine zw.skip ?_
  refine zw.pick ?_
  refine WL.oo (OW.call rfl (Hf := []) (List.Perm.refl _) (need_no _) rfl (fun v G' H' h _ => by cases h.1) (fun ch G' H' h _ => ?_) (fun G' H' h => by cases h.1))
  obtain ⟨he, rfl, rfl⟩ := h
  cases he
  refine WK.un ?_
  exact QF.panicP (⟨rfl, rfl, _, Left.of b A l.length cap pi (k + 1 : Nat) B vars.length cm, rfl⟩)
 obtain ⟨i, rfl⟩ := Int.eq_ofNat_of_zero_le (Int.not_lt.1 hn0)
 refine WL.pp (Gp.geI' rfl rfl (show decide ((0 : Int) ≤ (i : Int)) = true by simp)) ?_
 refine zw.move ?_
 refine zw.fa ?_
 refine zw.ld ?_
 refine zw.fa ?_
 refine zw.ld ?_
 refine zw.len ?_
 by_cases hic : i < pr.code.length
 rotate_left
 ·rw [show unlessR pr.code.length l k vars (i : Int) = .halt 6 by rw [unlessR, if_pos (.inr (by simp; omega))]]
  refine WL.pp (Gp.ltI' rfl rfl (show decide ((i : Int) < (pr.code.length : Int)) = false by simp; omega)) ?_
  refine zw.pick ?_
  refine WL.oo (OW.call rfl (Hf := []) (List.Perm.refl _) (need_no _) rfl (fun v G' H' h _ => by cases h.1) (fun ch G' H' h _ => ?_) (fun G' H' h => by cases h.1))
  obtain ⟨he, rfl, rfl⟩ := h
  cases he
  refine WK.un ?_
  exact QF.panicP (⟨rfl, rfl, _, Left.of b A l.length cap pi (k + 1 : Nat) B vars.length cm, rfl⟩)
 refine WL.pp (Gp.ltI' rfl rfl (show decide ((i : Int) < (pr.code.length : Int)) = true by simp; omega)) ?_
 refine zw.pick ?_
 refine WL.oo (OW.callR rfl (Hf := []) (List.Perm.refl _) (need_ok G) rfl (by rintro e G' H' ⟨h, _⟩; exact ⟨_, h⟩) fun v' G' H' h hg => ?_)
 obtain ⟨he, rfl, rfl⟩ := h
 cases he
 refine WL.nil ?_
 refine WK.un ?_
 refine WC.seq ?_
 refine WC.region ?_
 refine zw.fa ?_
 refine zw.ld ?_
 refine zw.eq ?_
 refine zw.move ?_
 refine zw.move ?_
 refine zw.move ?_
 cases ht : ty1 l 2 with
 | none =>
  rw [show unlessR pr.code.length l k vars (i : Int) = .halt 6 by rw [unlessR, if_neg (by simp; omega), ht]]
  refine WL.oo (OW.call rfl (Pk.perm pkA) (typed1_no G _ b A cap pi (k + 1 : Nat) B vars.length cm x l 2 ht hv hl) rfl (fun v' G' H' h hg => by cases h.1) (fun ch G' H' h hg => ?_) (fun G' H' h => by repeat (first | (cases h.1; done) | (cases h; done) | (obtain ⟨_, h⟩ := h) | (rcases h with h | h))))
  obtain ⟨he, rfl, c, hc, rfl⟩ := h
  cases he
  refine WK.un ?_
  exact QF.panicP ⟨rfl, rfl, _, ⟨c, hc, rfl⟩, rfl⟩
 | some rv =>
  obtain ⟨r, v⟩ := rv
  rw [show unlessR pr.code.length l k vars (i : Int) = .go r (if v.b then k + 1 else i) vars by rw [unlessR, if_neg (by simp; omega), ht, Int.toNat_natCast]]
  obtain ⟨rfl, hvt⟩ := ty1_some ht
  refine WL.oo (OW.callK rfl (typed1_ok G _ b A cap pi (k + 1 : Nat) B vars.length cm x r v 2 hvt hv hl) rfl fun v' G' H' h hg => ?_)
  obtain ⟨A', cap', x', he, rfl, rfl, hv1, hv2⟩ := h
  cases he
  obtain ⟨hlv, ⟨h1, h2, h3, h4⟩ | ⟨b', c', rfl, rfl, h1, h2, h3⟩⟩ := hv1
  ·simp at h2
  refine zw.ix ?_
  refine zw.fa ?_
  refine WL.vv (Gv.load1 rfl .here (one_lo (v := v) (j := 2) h3 rfl)) ?_
  refine zw.not ?_
  refine zw.pick ?_
  refine WL.nil ?_
  refine WK.un ?_
  cases hb : v.b with
  | false =>
   refine WC.cond_true rfl ?_
   refine WC.region ?_
   refine zw.move ?_
   refine zw.fa ?_
   refine zw.ld ?_
   refine zw.nil ?_
   refine zw.fa ?_
   refine zw.st ?_
   refine WL.nil ?_
   refine WK.un ?_
   exact QF.p0 (.inr rfl) rfl ⟨rfl, A, cap, x, y, rfl, hv2, hy, rfl⟩ pkA
  | true =>
   refine WC.cond_false rfl ?_
   refine WC.skip ?_
   refine WK.un ?_
   exact QF.p0 (.inr rfl) rfl ⟨rfl, A, cap, x, y, rfl, hv2, hy, rfl⟩ pkA
theorem do_call (n : Int) (hi : pr.code[k]? = some (7, n)) (hv : VVec A cap l x) (hl : l.length ≤ 1000000) (hfv : PVec FA fcap bs fx) (hbs : bs.length ≤ 1000000000) : Fn Tryz.prog 167 #[.pointer (some ⟨mb, 0, none⟩), .pointer (some ⟨b, 0, none⟩)] G
  (mcB mb (.slice CA pg.consts.length cc) (.slice PA pg.procs.length pc) c3 FA bs.length fcap en w OA out.length ocap st ed :: ox :: frB b A l.length cap pi k B vars.length cm :: x :: y :: fx :: Hx)
  (DoR G mb (.slice CA pg.consts.length cc) (.slice PA pg.procs.length pc) c3 FA fcap en w OA ocap st ed out ox fx Hx RL b A cap pi B vars cm x y bs (k + 1) (doR pg pr l k vars bs.length out.length)) := by
 rw [show doR pg pr l k vars bs.length out.length = callD pg.procs l n bs.length by simp [doR, hi]]
 obtain ⟨pb, po, cs, hPA, ⟨QA, qc, IA, ic, rfl, hQ, hI⟩, hcs⟩ := hP pi pr hpr
 obtain ⟨ib, io, cs2, rfl, hK, hcs2⟩ := hI k (7, n) hi
 obtain rfl : cs2 = [.int .i64 7, .int .i64 n] := hK
 have hk : k < pr.code.length := (List.getElem?_eq_some_iff.1 hi).1
 have hpl : pi < pg.procs.length := (List.getElem?_eq_some_iff.1 hpr).1
 subst hPA
 refine Fn.enter Tryz.func167 rfl rfl fun w0 => ?_
 refine WC.seq ?_
 refine WC.draw mixed ?_
 refine za.move 0 ?_
 refine za.nil 1 ?_
 refine za.fa 2 ?_
 refine za.fa 3 ?_
 refine za.ld 4 ?_
 refine za.move 5 ?_
 refine za.nil 6 ?_
 refine za.fa 7 ?_
 refine za.ld 8 ?_
 refine za.ix 9 ?_
 refine WA.vv 10 rfl (Gv.loadGN rfl hcs rfl) ?_
 refine WA.oo 11 rfl (OW.alloc rfl fun b1 => ?_)
 refine za.st 12 ?_
 refine WA.done kr ?_
 refine WK.un ?_
 refine WC.seq ?_
 refine WC.draw mixed ?_
 refine za.move 0 ?_
 refine za.nil 1 ?_
 refine za.fa 2 ?_
 refine za.ld 3 ?_
 refine WA.pp 4 rfl (Gp.geI' rfl rfl (show decide ((0 : Int) ≤ (k : Int)) = true by simp)) ?_
 refine za.move 5 ?_
 refine za.move 6 ?_
 refine za.nil 7 ?_
 refine za.fa 8 ?_
 refine za.ld 9 ?_
 refine za.fa 10 ?_
 refine za.ld 11 ?_
 refine za.len 12 ?_
 refine WA.pp 13 rfl (Gp.ltI' rfl rfl (show decide ((k : Int) < (pr.code.length : Int)) = true by simp; omega)) ?_
 refine za.pick 14 ?_
 refine WA.oo 15 rfl (OW.callR rfl (Hf := []) (List.Perm.refl _) (need_ok G) rfl (by rintro e G' H' ⟨h, _⟩; exact ⟨_, h⟩) fun v' G' H' h hg => ?_)
 obtain ⟨he, rfl, rfl⟩ := h
 cases he
 refine WA.done kr ?_
 refine WK.un ?_
 refine WC.seq ?_
 refine WC.draw mixed ?_
 refine za.fa 0 ?_
 refine za.ld 1 ?_
 refine za.move 2 ?_
 refine za.nil 3 ?_
 refine za.fa 4 ?_
 refine za.ld 5 ?_
 refine za.ix 6 ?_
 refine WA.vv 7 rfl (Gv.loadGN rfl hcs2 rfl) ?_
 refine WA.oo 8 rfl (OW.alloc rfl fun b2 => ?_)
 refine za.st 9 ?_
 refine WA.done kr ?_
 refine WK.un ?_
 refine WC.seq ?_
 refine WC.region ?_
 refine zw.move ?_
 refine zw.nil ?_
 refine zw.fa ?_
 refine zw.ld ?_
 refine WL.pp (Gp.add' rfl rfl (show IntKind.i64.wrap ((k : Int) + 1) = ((k + 1 : Nat) : Int) by rw [wrap_small (by omega) (by omega)]; omega)) ?_
 refine zw.nil ?_
 refine zw.fa ?_
 refine zw.st ?_
 refine WL.nil ?_
 refine WK.un ?_
 refine WC.seq ?_
 refine WC.region ?_
 refine zw.fa ?_
 refine zw.ld ?_
 refine WL.nil ?_
 refine WK.un ?_
 refine WC.pk (H' := .blk b2 (.cells #[.int .i64 7, .int .i64 n] 50 (0, 0)) :: .blk b1 (.cells #[.string pr.name, .bool pr.exp, .slice QA pr.params.length qc, .int .i64 pr.locals, .int .i64 pr.result, .slice (some ⟨ib, io, none⟩) pr.code.length ic] 47 (0, 0)) :: mcB mb (.slice CA pg.consts.length cc) (.slice (some ⟨pb, po, none⟩) pg.procs.length pc) c3 FA bs.length fcap en w OA out.length ocap st ed :: ox :: frB b A l.length cap pi (k + 1 : Nat) B vars.length cm :: x :: y :: fx :: Hx) pkA ?_
 repeat (first | refine WC.seq ?_ | refine WC.block ?_ | (refine WC.region ?_; refine WL.p (Gp.eqI rfl rfl) kr rfl ?_; refine WL.p (Gp.assign rfl) kr rfl ?_; refine WL.nil ?_; refine WK.un ?_) | refine WC.cond_true rfl ?_ | refine WC.cond_false rfl ?_ | (refine WC.skip ?_; refine WK.un ?_) | (refine WC.exit ?_; refine WK.un ?_))
 refine WC.region ?_
 refine zw.move ?_
 refine zw.move ?_
 refine zw.fa ?_
 refine zw.ld ?_
 cases hq : callR pg.procs l n bs.length with
 | error e =>
  rw [show callD pg.procs l n bs.length = .halt e by rw [callD, hq]]
  refine WL.oo (OW.call rfl (Pk.perm pkA) ((call_fn G mb (.slice CA pg.consts.length cc) c3 (some ⟨pb, po, none⟩) pc pg.procs FA fcap en w OA out.length ocap st ed bs fx hP hfv hbs b A cap pi (k + 1 : Nat) B vars.length cm l x hv hl n).mono fun e' G' H' h => (by rw [hq] at h; exact h : G = G' ∧ e' = halted e ∧ ∃ H1, Left b H1 ∧ H' = mcB mb (.slice CA pg.consts.length cc) (.slice (some ⟨pb, po, none⟩) pg.procs.length pc) c3 FA bs.length fcap en w OA out.length ocap st ed :: fx :: H1)) rfl (fun v' G' H' h hg => by cases h.2.1) (fun ch G' H' h hg => ?_) (fun G' H' h => by cases h.2.1))
  obtain ⟨rfl, he, H1, ⟨c, hc, rfl⟩, rfl⟩ := h
  cases he
  refine WK.un ?_
  exact QF.panicP ⟨rfl, rfl, _, ⟨c, hc, rfl⟩, rfl⟩ pkA
 | ok t =>
  obtain ⟨q, r, args⟩ := t
  rw [show callD pg.procs l n bs.length = .call q r args n by rw [callD, hq]]
  refine WL.oo (OW.callR rfl (Pk.perm pkA) ((call_fn G mb (.slice CA pg.consts.length cc) c3 (some ⟨pb, po, none⟩) pc pg.procs FA fcap en w OA out.length ocap st ed bs fx hP hfv hbs b A cap pi (k + 1 : Nat) B vars.length cm l x hv hl n).mono fun e' G' H' h => (by rw [hq] at h; exact h)) rfl (by rintro e G' H' ⟨_, _, _, _, _, _, _, h, _⟩; exact ⟨_, h⟩) fun v' G' H' h hg => ?_)
  obtain ⟨rfl, FA', fcap', b', VA, x', yv, he, rfl, hx2, hy2, hv2⟩ := h
  cases he
  refine WL.nil ?_
  refine WK.un ?_
  exact QF.p0 (.inr rfl) rfl ⟨rfl, FA', fcap', b', VA, x', yv, rfl, hx2, hy2, hv2, rfl⟩ pkA
end
end
end Go.Proofs.YtcnlkfocbbkdhaaGreatDoor.Gb
