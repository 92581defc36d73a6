/- Instructions without a number: dropped, left, printed. -/
import Derived.Test.YtjgohbepageicaaVl
namespace Go.Proofs.Ytjgohbepageicaa.Gb
open Go Go.Proofs
set_option linter.unusedVariables false
set_option linter.unusedSimpArgs false
attribute [local irreducible] Try.prog

/-- what a procedure's leaving does -/
def Lv (G : Gh) (mb : Nat) (M fx : Own) (Hx : List Own) (RL : List V → List Own → Prop) : Prop :=
  (Fn Try.prog 81 #[.pointer (some ⟨mb, 0, none⟩), .slice none 0 0] G (M :: fx :: Hx) fun e G' H' => e = .returned (.tuple #[]) ∧ G = G' ∧ RL [] H') ∧
  ∀ A' cap' y v, VVec A' cap' [v] y → Fn Try.prog 81 #[.pointer (some ⟨mb, 0, none⟩), .slice A' 1 cap'] G (y :: M :: fx :: Hx) fun e G' H' => e = .returned (.tuple #[]) ∧ G = G' ∧ RL [v] H'

/-- how an instruction without a number ends -/
def PlR (G : Gh) (mb : Nat) (c1 c2 c3 : Value) (FA : Option Addr) (fn fcap : Nat) (en : Int) (w : V) (OA : Option Addr) (ocap : Nat) (st : Int) (ed : Bool) (out : List V) (ox fx : Own) (Hx : List Own) (RL : List V → List Own → Prop)
    (b : Nat) (A : Option Addr) (cap : Nat) (p a : Int) (B : Option Addr) (m cm : Nat) (x : Own) (r : PR) : Ending → Gh → List Own → Prop := fun e G' H' => G = G' ∧ match r with
  | .halt k => e = halted k ∧ ∃ y, Left b [y] ∧ H' = mcB mb c1 c2 c3 FA fn fcap en w OA out.length ocap st ed :: ox :: y :: fx :: Hx
  | .set r => ∃ A' cap' x', e = .returned (.tuple #[]) ∧ VVec A' cap' r x' ∧ H' = mcB mb c1 c2 c3 FA fn fcap en w OA out.length ocap st ed :: ox :: frB b A' r.length cap' p a B m cm :: x' :: fx :: Hx
  | .print r v => ∃ OA' ocap' ox', e = .returned (.tuple #[]) ∧ VVec OA' ocap' (out ++ [v]) ox' ∧ VVec A cap r x ∧ H' = mcB mb c1 c2 c3 FA fn fcap en w OA' (out ++ [v]).length ocap' st ed :: ox' :: frB b A r.length cap p a B m cm :: x :: fx :: Hx
  | .leave r g => ∃ H1, e = .returned (.tuple #[]) ∧ VVec A cap r x ∧ RL g H1 ∧ H' = ox :: frB b A r.length cap p a B m cm :: x :: H1

section
variable (G : Gh) (mb : Nat) (c1 c2 c3 : Value) (FA : Option Addr) (fn fcap : Nat) (en : Int) (w : V) (OA : Option Addr) (ocap : Nat) (st : Int) (ed : Bool) (out : List V) (ox fx : Own) (Hx : List Own) (RL : List V → List Own → Prop)
    (b : Nat) (A : Option Addr) (cap : Nat) (p a : Int) (B : Option Addr) (m cm : Nat) (x : Own) (l : List V) (nm : ByteArray) (ex : Bool) (qv cv : Value) (lo res : Int)

theorem plain_drop (hv : VVec A cap l x) (hl : l.length ≤ 1000000) : Fn Try.prog 69 #[.pointer (some ⟨mb, 0, none⟩), .pointer (some ⟨b, 0, none⟩), .agg #[.string nm, .bool ex, qv, .int .i64 lo, .int .i64 res, cv], .int .i64 4] G
    (mcB mb c1 c2 c3 FA fn fcap en w OA out.length ocap st ed :: ox :: frB b A l.length cap p a B m cm :: x :: fx :: Hx) (PlR G mb c1 c2 c3 FA fn fcap en w OA ocap st ed out ox fx Hx RL b A cap p a B m cm x (plainR res l 4 out.length)) := by
  refine Fn.enter Try.func69 rfl rfl fun w0 => ?_
  refine WC.seq ?_
  refine WC.region ?_
  refine WL.op (by kernel_rfl) (OW.box rfl rfl fun b1 => ?_)
  refine WL.nil ?_
  refine WK.un ?_
  refine WC.seq ?_
  refine WC.region ?_
  refine WL.p (Gp.move rfl) (by kernel_rfl) rfl ?_
  refine WL.nil ?_
  refine WK.un ?_
  repeat (first | refine WC.seq ?_ | refine WC.block ?_ | (refine WC.region ?_; refine WL.p (Gp.eqI rfl rfl) (by kernel_rfl) rfl ?_; refine WL.p (Gp.assign rfl) (by kernel_rfl) rfl ?_; refine WL.nil ?_; refine WK.un ?_) | refine WC.cond_true rfl ?_ | refine WC.cond_false rfl ?_ | (refine WC.skip ?_; refine WK.un ?_) | (refine WC.exit ?_; refine WK.un ?_))
  refine WC.region ?_
  refine WL.p (Gp.move rfl) (by kernel_rfl) rfl ?_
  refine WL.p (Gp.move rfl) (by kernel_rfl) rfl ?_
  rcases @one_or l with h1 | ⟨r, v, rfl⟩
  ·
    refine WL.op (by kernel_rfl) (OW.call rfl (Pk.perm (by repeat (first | exact Pk.nil | exact Pk.all | exact Pk.app | exact Pk.appR | with_reducible apply Pk.na | (apply Pk.cons; (repeat first | exact .here | apply Rem.there | apply Rem.app)) | apply Pk.skip | apply Pk.skipA))) (take_no G _ b A l.length cap p a B m cm 1 (by omega)) rfl (fun v' G' H' h hg => by cases h.1) (fun ch G' H' h hg => ?_) (fun G' H' h => by repeat (first | (cases h.1; done) | (cases h; done) | (obtain ⟨_, h⟩ := h) | (rcases h with h | h))))
    obtain ⟨he, rfl, c, hc, rfl⟩ := h
    cases he
    refine WK.un ?_
    exact QF.panicP ⟨rfl, by rw [show plainR res l 4 out.length = .halt 6 by rw [plainR, if_pos rfl, onA, pop1_none h1]]; exact ⟨rfl, _, ⟨c, hc, rfl⟩, rfl⟩⟩ (by repeat (first | exact Pk.nil | exact Pk.all | exact Pk.app | exact Pk.appR | with_reducible apply Pk.na | (apply Pk.cons; (repeat first | exact .here | apply Rem.there | apply Rem.app)) | apply Pk.skip | apply Pk.skipA))
  ·
    refine WL.op (by kernel_rfl) (OW.callK rfl (take_ok G _ b A cap p a B m cm r [v] x hv (by simp at hl ⊢; omega)) rfl fun v' G' H' h hg => ?_)
    obtain ⟨A', cap', x', he, rfl, rfl, hv1, hv2⟩ := h
    cases he
    refine WL.nil ?_
    refine WK.un ?_
    refine WC.exit ?_
    refine WK.un ?_
    refine WK.un ?_
    exact QF.p0 (.inr rfl) rfl  (⟨rfl, by rw [show plainR res (r ++ [v]) 4 out.length = .set r by rw [plainR, if_pos rfl, onA, pop1_snoc]]; exact ⟨A, cap, x, rfl, hv2, rfl⟩⟩)

theorem plain_return (hv : VVec A cap l x) (hl : l.length ≤ 1000000) (hL : Lv G mb (mcB mb c1 c2 c3 FA fn fcap en w OA out.length ocap st ed) fx Hx RL) : Fn Try.prog 69 #[.pointer (some ⟨mb, 0, none⟩), .pointer (some ⟨b, 0, none⟩), .agg #[.string nm, .bool ex, qv, .int .i64 lo, .int .i64 res, cv], .int .i64 9] G
    (mcB mb c1 c2 c3 FA fn fcap en w OA out.length ocap st ed :: ox :: frB b A l.length cap p a B m cm :: x :: fx :: Hx) (PlR G mb c1 c2 c3 FA fn fcap en w OA ocap st ed out ox fx Hx RL b A cap p a B m cm x (plainR res l 9 out.length)) := by
  refine Fn.enter Try.func69 rfl rfl fun w0 => ?_
  refine WC.seq ?_
  refine WC.region ?_
  refine WL.op (by kernel_rfl) (OW.box rfl rfl fun b1 => ?_)
  refine WL.nil ?_
  refine WK.un ?_
  refine WC.seq ?_
  refine WC.region ?_
  refine WL.p (Gp.move rfl) (by kernel_rfl) rfl ?_
  refine WL.nil ?_
  refine WK.un ?_
  repeat (first | refine WC.seq ?_ | refine WC.block ?_ | (refine WC.region ?_; refine WL.p (Gp.eqI rfl rfl) (by kernel_rfl) rfl ?_; refine WL.p (Gp.assign rfl) (by kernel_rfl) rfl ?_; refine WL.nil ?_; refine WK.un ?_) | refine WC.cond_true rfl ?_ | refine WC.cond_false rfl ?_ | (refine WC.skip ?_; refine WK.un ?_) | (refine WC.exit ?_; refine WK.un ?_))
  refine WC.region ?_
  refine WL.p (Gp.fieldAddr rfl) (by kernel_rfl) rfl ?_
  (first | (refine WL.v (Gv.load1 rfl (by (repeat first | exact .here | apply At.there)) (by first | rfl | assumption)) (by kernel_rfl) rfl ?_) | (refine WL.v (Gv.loadN rfl (by (repeat first | exact .here | apply At.there)) (by rfl) (by rfl)) (by kernel_rfl) rfl ?_) | (refine WL.v (Gv.loadG1 rfl (by assumption) rfl) (by kernel_rfl) rfl ?_) | (refine WL.v (Gv.loadG0 rfl (by assumption) rfl) (by kernel_rfl) rfl ?_) | (refine WL.v (Gv.loadGN rfl (by assumption) rfl) (by kernel_rfl) rfl ?_))
  (first | refine WL.p (Gp.eqI rfl rfl) (by kernel_rfl) rfl ?_ | refine WL.p (Gp.eqS rfl rfl) (by kernel_rfl) rfl ?_ | refine WL.p (Gp.nilSl rfl) (by kernel_rfl) rfl ?_ | refine WL.p (Gp.eqB rfl rfl) (by kernel_rfl) rfl ?_)
  by_cases hr : res = 0
  · rw [show (res == 0) = true by simpa using hr]
    refine WL.op (by kernel_rfl) (OW.callR rfl (Hf := []) (List.Perm.refl _) (need_ok G) rfl (by rintro e G' H' ⟨h, _⟩; exact ⟨_, h⟩) fun v' G' H' h hg => ?_)
    obtain ⟨he, rfl, rfl⟩ := h
    cases he
    refine WL.nil ?_
    refine WK.un ?_
    refine WC.region ?_
    refine WL.p (Gp.move rfl) (by kernel_rfl) rfl ?_
    refine WL.op (by kernel_rfl) (OW.callK rfl (hL.1) rfl fun v' G' H' h hg => ?_)
    obtain ⟨he, rfl, hR⟩ := h
    cases he
    refine WL.nil ?_
    refine WK.un ?_
    refine WC.exit ?_
    refine WK.un ?_
    refine WK.un ?_
    refine WK.swap ?_
    exact QF.p0 (.inr rfl) rfl ⟨rfl, by rw [show plainR res l 9 out.length = .leave l [] by rw [plainR, if_neg (by decide), if_pos rfl, if_pos hr]]; exact ⟨H', rfl, hv, hR, rfl⟩⟩ (by repeat (first | exact Pk.nil | exact Pk.all | exact Pk.app | exact Pk.appR | with_reducible apply Pk.na | (apply Pk.cons; (repeat first | exact .here | apply Rem.there | apply Rem.app)) | apply Pk.skip | apply Pk.skipA))
  · rw [show (res == 0) = false by simpa using hr]
    refine WL.op (by kernel_rfl) (OW.call rfl (Hf := []) (List.Perm.refl _) (need_no _) rfl (fun v G' H' h _ => by cases h.1) (fun ch G' H' h _ => ?_) (fun G' H' h => by cases h.1))
    obtain ⟨he, rfl, rfl⟩ := h
    cases he
    refine WK.un ?_
    exact QF.panicP (⟨rfl, by rw [show plainR res l 9 out.length = .halt 6 by rw [plainR, if_neg (by decide), if_pos rfl, if_neg hr]]; exact ⟨rfl, _, Left.of b A l.length cap p a B m cm, rfl⟩⟩)
theorem plain_give (hv : VVec A cap l x) (hl : l.length ≤ 1000000) (hL : Lv G mb (mcB mb c1 c2 c3 FA fn fcap en w OA out.length ocap st ed) fx Hx RL) : Fn Try.prog 69 #[.pointer (some ⟨mb, 0, none⟩), .pointer (some ⟨b, 0, none⟩), .agg #[.string nm, .bool ex, qv, .int .i64 lo, .int .i64 res, cv], .int .i64 10] G
    (mcB mb c1 c2 c3 FA fn fcap en w OA out.length ocap st ed :: ox :: frB b A l.length cap p a B m cm :: x :: fx :: Hx) (PlR G mb c1 c2 c3 FA fn fcap en w OA ocap st ed out ox fx Hx RL b A cap p a B m cm x (plainR res l 10 out.length)) := by
  refine Fn.enter Try.func69 rfl rfl fun w0 => ?_
  rw [show plainR res l 10 out.length = if res = 0 then .halt 6 else on1 l res fun r v => .leave r [v] by simp [plainR]]
  refine WC.seq ?_
  refine WC.region ?_
  refine WL.op (by kernel_rfl) (OW.box rfl rfl fun b1 => ?_)
  refine WL.nil ?_
  refine WK.un ?_
  refine WC.seq ?_
  refine WC.region ?_
  refine WL.p (Gp.move rfl) (by kernel_rfl) rfl ?_
  refine WL.nil ?_
  refine WK.un ?_
  repeat (first | refine WC.seq ?_ | refine WC.block ?_ | (refine WC.region ?_; refine WL.p (Gp.eqI rfl rfl) (by kernel_rfl) rfl ?_; refine WL.p (Gp.assign rfl) (by kernel_rfl) rfl ?_; refine WL.nil ?_; refine WK.un ?_) | refine WC.cond_true rfl ?_ | refine WC.cond_false rfl ?_ | (refine WC.skip ?_; refine WK.un ?_) | (refine WC.exit ?_; refine WK.un ?_))
  refine WC.region ?_
  refine WL.p (Gp.fieldAddr rfl) (by kernel_rfl) rfl ?_
  (first | (refine WL.v (Gv.load1 rfl (by (repeat first | exact .here | apply At.there)) (by first | rfl | assumption)) (by kernel_rfl) rfl ?_) | (refine WL.v (Gv.loadN rfl (by (repeat first | exact .here | apply At.there)) (by rfl) (by rfl)) (by kernel_rfl) rfl ?_) | (refine WL.v (Gv.loadG1 rfl (by assumption) rfl) (by kernel_rfl) rfl ?_) | (refine WL.v (Gv.loadG0 rfl (by assumption) rfl) (by kernel_rfl) rfl ?_) | (refine WL.v (Gv.loadGN rfl (by assumption) rfl) (by kernel_rfl) rfl ?_))
  (first | refine WL.p (Gp.neI rfl rfl) (by kernel_rfl) rfl ?_ | refine WL.p (Gp.neS rfl rfl) (by kernel_rfl) rfl ?_ | refine WL.p (Gp.neB rfl rfl) (by kernel_rfl) rfl ?_)
  by_cases hr : res = 0
  · rw [show (res != 0) = false by simpa using hr, if_pos hr]
    refine WL.op (by kernel_rfl) (OW.call rfl (Hf := []) (List.Perm.refl _) (need_no _) rfl (fun v G' H' h _ => by cases h.1) (fun ch G' H' h _ => ?_) (fun G' H' h => by cases h.1))
    obtain ⟨he, rfl, rfl⟩ := h
    cases he
    refine WK.un ?_
    exact QF.panicP (⟨rfl, rfl, _, Left.of b A l.length cap p a B m cm, rfl⟩)
  rw [show (res != 0) = true by simpa using hr, if_neg hr]
  refine WL.op (by kernel_rfl) (OW.callR rfl (Hf := []) (List.Perm.refl _) (need_ok G) rfl (by rintro e G' H' ⟨h, _⟩; exact ⟨_, h⟩) fun v' G' H' h hg => ?_)
  obtain ⟨he, rfl, rfl⟩ := h
  cases he
  refine WL.nil ?_
  refine WK.un ?_
  refine WC.region ?_
  refine WL.p (Gp.move rfl) (by kernel_rfl) rfl ?_
  refine WL.p (Gp.move rfl) (by kernel_rfl) rfl ?_
  refine WL.p (Gp.move rfl) (by kernel_rfl) rfl ?_
  refine WL.p (Gp.fieldAddr rfl) (by kernel_rfl) rfl ?_
  (first | (refine WL.v (Gv.load1 rfl (by (repeat first | exact .here | apply At.there)) (by first | rfl | assumption)) (by kernel_rfl) rfl ?_) | (refine WL.v (Gv.loadN rfl (by (repeat first | exact .here | apply At.there)) (by rfl) (by rfl)) (by kernel_rfl) rfl ?_) | (refine WL.v (Gv.loadG1 rfl (by assumption) rfl) (by kernel_rfl) rfl ?_) | (refine WL.v (Gv.loadG0 rfl (by assumption) rfl) (by kernel_rfl) rfl ?_) | (refine WL.v (Gv.loadGN rfl (by assumption) rfl) (by kernel_rfl) rfl ?_))
  cases ht : ty1 l res with
  | none =>
    rw [show on1 l res _ = .halt 6 by rw [on1, ht]]
    refine WL.op (by kernel_rfl) (OW.call rfl (Pk.perm (by repeat (first | exact Pk.nil | exact Pk.all | exact Pk.app | exact Pk.appR | with_reducible apply Pk.na | (apply Pk.cons; (repeat first | exact .here | apply Rem.there | apply Rem.app)) | apply Pk.skip | apply Pk.skipA))) (typed1_no G _ b A cap p a B m cm x l res ht hv hl) rfl (fun v' G' H' h hg => by cases h.1) (fun ch G' H' h hg => ?_) (fun G' H' h => by repeat (first | (cases h.1; done) | (cases h; done) | (obtain ⟨_, h⟩ := h) | (rcases h with h | h))))
    obtain ⟨he, rfl, c, hc, rfl⟩ := h
    cases he
    refine WK.un ?_
    exact QF.panicP ⟨rfl, rfl, _, ⟨c, hc, rfl⟩, rfl⟩
  | some rv =>
    obtain ⟨r, v⟩ := rv
    rw [show on1 l res _ = .leave r [v] by rw [on1, ht]]
    obtain ⟨rfl, hvt⟩ := ty1_some ht
    refine WL.op (by kernel_rfl) (OW.callK rfl (typed1_ok G _ b A cap p a B m cm x r v res hvt hv hl) rfl fun v' G' H' h hg => ?_)
    obtain ⟨A', cap', x', he, rfl, rfl, hv1, hv2⟩ := h
    cases he
    refine WL.op (by kernel_rfl) (OW.callK rfl (hL.2 A' cap' x' v hv1) rfl fun v' G' H' h hg => ?_)
    obtain ⟨he, rfl, hR⟩ := h
    cases he
    refine WL.nil ?_
    refine WK.un ?_
    refine WC.exit ?_
    refine WK.un ?_
    refine WK.un ?_
    refine WK.swap ?_
    exact QF.p0 (.inr rfl) rfl ⟨rfl, H', rfl, hv2, hR, rfl⟩ (by repeat (first | exact Pk.nil | exact Pk.all | exact Pk.app | exact Pk.appR | with_reducible apply Pk.na | (apply Pk.cons; (repeat first | exact .here | apply Rem.there | apply Rem.app)) | apply Pk.skip | apply Pk.skipA))

theorem plain_print (hv : VVec A cap l x) (hl : l.length ≤ 1000000) (ho : VVec OA ocap out ox) : Fn Try.prog 69 #[.pointer (some ⟨mb, 0, none⟩), .pointer (some ⟨b, 0, none⟩), .agg #[.string nm, .bool ex, qv, .int .i64 lo, .int .i64 res, cv], .int .i64 11] G
    (mcB mb c1 c2 c3 FA fn fcap en w OA out.length ocap st ed :: ox :: frB b A l.length cap p a B m cm :: x :: fx :: Hx) (PlR G mb c1 c2 c3 FA fn fcap en w OA ocap st ed out ox fx Hx RL b A cap p a B m cm x (plainR res l 11 out.length)) := by
  refine Fn.enter Try.func69 rfl rfl fun w0 => ?_
  rw [show plainR res l 11 out.length = onA l fun r v => if 4096 ≤ out.length then .halt 7 else .print r v by simp [plainR]]
  refine WC.seq ?_
  refine WC.region ?_
  refine WL.op (by kernel_rfl) (OW.box rfl rfl fun b1 => ?_)
  refine WL.nil ?_
  refine WK.un ?_
  refine WC.seq ?_
  refine WC.region ?_
  refine WL.p (Gp.move rfl) (by kernel_rfl) rfl ?_
  refine WL.nil ?_
  refine WK.un ?_
  repeat (first | refine WC.seq ?_ | refine WC.block ?_ | (refine WC.region ?_; refine WL.p (Gp.eqI rfl rfl) (by kernel_rfl) rfl ?_; refine WL.p (Gp.assign rfl) (by kernel_rfl) rfl ?_; refine WL.nil ?_; refine WK.un ?_) | refine WC.cond_true rfl ?_ | refine WC.cond_false rfl ?_ | (refine WC.skip ?_; refine WK.un ?_) | (refine WC.exit ?_; refine WK.un ?_))
  refine WC.region ?_
  refine WL.p (Gp.move rfl) (by kernel_rfl) rfl ?_
  refine WL.p (Gp.move rfl) (by kernel_rfl) rfl ?_
  cases ht : pop1 l with
  | none =>
    have h1 := pop1_len ht
    rw [show onA l _ = .halt 6 by rw [onA, ht]]
    refine WL.op (by kernel_rfl) (OW.call rfl (Pk.perm (by repeat (first | exact Pk.nil | exact Pk.all | exact Pk.app | exact Pk.appR | with_reducible apply Pk.na | (apply Pk.cons; (repeat first | exact .here | apply Rem.there | apply Rem.app)) | apply Pk.skip | apply Pk.skipA))) (((take_no G _ b A l.length cap p a B m cm 1 (by omega)).pk (F := [x]) (.cons .here .nil)).drop fun e G' H' ⟨H2, ⟨h1, h2, h3⟩, h4⟩ => ⟨H2, by rw [h4]; exact List.sublist_append_left _ _, (⟨h1, h2, h3⟩ : e = halted 6 ∧ G = G' ∧ Left b H2)⟩) rfl (fun v' G' H' h hg => by cases h.1) (fun ch G' H' h hg => ?_) (fun G' H' h => by repeat (first | (cases h.1; done) | (cases h; done) | (obtain ⟨_, h⟩ := h) | (rcases h with h | h))))
    obtain ⟨he, rfl, c, hc, rfl⟩ := h
    cases he
    refine WK.un ?_
    exact QF.panicP ⟨rfl, rfl, _, ⟨c, hc, rfl⟩, rfl⟩
  | some rv =>
    obtain ⟨r, v⟩ := rv
    rw [show onA l _ = (if 4096 ≤ out.length then .halt 7 else .print r v) by rw [onA, ht]]
    obtain rfl := pop1_some ht
    refine WL.op (by kernel_rfl) (OW.callK rfl (take1_ok G _ b A cap p a B m cm x r v hv hl) rfl fun v' G' H' h hg => ?_)
    obtain ⟨A', cap', x', he, rfl, rfl, hv1, hv2⟩ := h
    cases he
    obtain ⟨hlv, ⟨h1, h2, h3, h4⟩ | ⟨b', c, rfl, rfl, h1, h2, h3⟩⟩ := hv1
    · simp at h2
    refine WL.p (Gp.indexAddr rfl rfl (by first | assumption | omega | decide) (by first | assumption | omega | decide | (simp only [List.length_cons, List.length_nil]; decide))) (by kernel_rfl) rfl ?_
    refine WL.v (Gv.loadN rfl .here (VVec.elem (A := none) (cap := 0) (b := 0) (i := 0) (v := v) h3 rfl) rfl) (by kernel_rfl) rfl ?_
    refine WL.op (by kernel_rfl) (OW.alloc rfl fun b2 => ?_)
    refine WL.op (by kernel_rfl) (OW.store rfl rfl (by (repeat first | exact .here | apply At.there)) rfl (by rfl) (by rfl) (by kernel_rfl) (by rfl) ?_ rfl)
    refine WL.nil ?_
    refine WK.un ?_
    refine WC.seq ?_
    refine WC.seq ?_
    refine WC.region ?_
    refine WL.p (Gp.move rfl) (by kernel_rfl) rfl ?_
    refine WL.p (Gp.nilCheck rfl) (by kernel_rfl) rfl ?_
    refine WL.p (Gp.fieldAddr rfl) (by kernel_rfl) rfl ?_
    refine WL.p (Gp.fieldAddr rfl) (by kernel_rfl) rfl ?_
    (first | (refine WL.v (Gv.load1 rfl (by (repeat first | exact .here | apply At.there)) (by first | rfl | assumption)) (by kernel_rfl) rfl ?_) | (refine WL.v (Gv.loadN rfl (by (repeat first | exact .here | apply At.there)) (by rfl) (by rfl)) (by kernel_rfl) rfl ?_) | (refine WL.v (Gv.loadG1 rfl (by assumption) rfl) (by kernel_rfl) rfl ?_) | (refine WL.v (Gv.loadG0 rfl (by assumption) rfl) (by kernel_rfl) rfl ?_) | (refine WL.v (Gv.loadGN rfl (by assumption) rfl) (by kernel_rfl) rfl ?_))
    (first | refine WL.p (Gp.lenSl rfl) (by kernel_rfl) rfl ?_ | refine WL.p (Gp.lenS rfl) (by kernel_rfl) rfl ?_)
    (first | refine WL.p (Gp.geI rfl rfl) (by kernel_rfl) rfl ?_ | refine WL.p (Gp.geS rfl rfl) (by kernel_rfl) rfl ?_)
    refine WL.nil ?_
    refine WK.un ?_
    refine WC.cond rfl (fun hc => ?_) (fun hc => ?_)
    · have h4 : 4096 ≤ out.length := by have h := hc; simp at h; omega
      rw [if_pos h4]
      refine WC.region ?_
      refine WL.p (Gp.build rfl rfl) (by kernel_rfl) rfl ?_
      refine WL.p (Gp.mkIface rfl (by kernel_rfl)) (by kernel_rfl) rfl ?_
      refine WL.op (by kernel_rfl) (OW.panic rfl ?_)
      refine WK.un ?_
      exact QF.panicP ⟨rfl, rfl, _, Left.of b A r.length cap p a B m cm, rfl⟩ (by repeat (first | exact Pk.nil | exact Pk.all | exact Pk.app | exact Pk.appR | with_reducible apply Pk.na | (apply Pk.cons; (repeat first | exact .here | apply Rem.there | apply Rem.app)) | apply Pk.skip | apply Pk.skipA))
    · have h4 : ¬ 4096 ≤ out.length := by have h := hc; simp at h; omega
      rw [if_neg h4]
      refine WC.skip ?_
      refine WK.un ?_
      refine WC.draw mixed ?_
      refine WA.tp (i := 0) rfl (by kernel_rfl) (by kernel_rfl) rfl (Gp.move rfl) ?_
      refine WA.tp (i := 1) rfl (by kernel_rfl) (by kernel_rfl) rfl (Gp.move rfl) ?_
      refine WA.tp (i := 2) rfl (by kernel_rfl) (by kernel_rfl) rfl (Gp.nilCheck rfl) ?_
      refine WA.tp (i := 3) rfl (by kernel_rfl) (by kernel_rfl) rfl (Gp.fieldAddr rfl) ?_
      refine WA.tp (i := 4) rfl (by kernel_rfl) (by kernel_rfl) rfl (Gp.fieldAddr rfl) ?_
      (first | (refine WA.tv (i := 5) rfl (by kernel_rfl) (by kernel_rfl) rfl (Gv.load1 rfl (by (repeat first | exact .here | apply At.there)) (by first | rfl | assumption)) ?_) | (refine WA.tv (i := 5) rfl (by kernel_rfl) (by kernel_rfl) rfl (Gv.loadN rfl (by (repeat first | exact .here | apply At.there)) (by rfl) (by rfl)) ?_) | (refine WA.tv (i := 5) rfl (by kernel_rfl) (by kernel_rfl) rfl (Gv.loadG1 rfl (by assumption) rfl) ?_) | (refine WA.tv (i := 5) rfl (by kernel_rfl) (by kernel_rfl) rfl (Gv.loadG0 rfl (by assumption) rfl) ?_) | (refine WA.tv (i := 5) rfl (by kernel_rfl) (by kernel_rfl) rfl (Gv.loadGN rfl (by assumption) rfl) ?_))
      (first | (refine WA.tv (i := 6) rfl (by kernel_rfl) (by kernel_rfl) rfl (Gv.load1 rfl (by (repeat first | exact .here | apply At.there)) (by first | rfl | assumption)) ?_) | (refine WA.tv (i := 6) rfl (by kernel_rfl) (by kernel_rfl) rfl (Gv.loadN rfl (by (repeat first | exact .here | apply At.there)) (by rfl) (by rfl)) ?_) | (refine WA.tv (i := 6) rfl (by kernel_rfl) (by kernel_rfl) rfl (Gv.loadG1 rfl (by assumption) rfl) ?_) | (refine WA.tv (i := 6) rfl (by kernel_rfl) (by kernel_rfl) rfl (Gv.loadG0 rfl (by assumption) rfl) ?_) | (refine WA.tv (i := 6) rfl (by kernel_rfl) (by kernel_rfl) rfl (Gv.loadGN rfl (by assumption) rfl) ?_))
      refine WA.one (i := 7) (by kernel_rfl) rfl (by kernel_rfl) (OW.buildSlice rfl (by kernel_rfl) (by kernel_rfl) (by rfl) rfl fun b3 => ?_)
      refine WA.one (i := 8) (by kernel_rfl) rfl (by kernel_rfl) (OW.append rfl rfl (by kernel_rfl) (by kernel_rfl) ho (by (repeat first | exact .here | apply At.there)) (Rds.blk0 (cs := vcells v) .here rfl) rfl rfl (by omega) (by omega) rfl fun OA' ocap' ox' ho' => ?_)
      refine WA.tp (i := 9) rfl (by kernel_rfl) (by kernel_rfl) rfl (Gp.nilCheck rfl) ?_
      refine WA.tp (i := 10) rfl (by kernel_rfl) (by kernel_rfl) rfl (Gp.fieldAddr rfl) ?_
      refine WA.tp (i := 11) rfl (by kernel_rfl) (by kernel_rfl) rfl (Gp.fieldAddr rfl) ?_
      refine WA.one (i := 12) (by kernel_rfl) rfl (by kernel_rfl) (OW.store rfl rfl (by (repeat first | exact .here | apply At.there)) rfl (by rfl) (by rfl) (by kernel_rfl) (by rfl) ?_ rfl)
      refine WA.done (by kernel_rfl) ?_
      refine WK.un ?_
      refine WC.exit ?_
      refine WK.un ?_
      have e0 : (out ++ [v]).length = out.length + 1 := by simp
      exact QF.p0 (.inr rfl) rfl ⟨rfl, OA', ocap', ox', rfl, VVec.snoc ho', hv2, by rw [e0]⟩ (by repeat (first | exact Pk.nil | exact Pk.all | exact Pk.app | exact Pk.appR | with_reducible apply Pk.na | (apply Pk.cons; (repeat first | exact .here | apply Rem.there | apply Rem.app)) | apply Pk.skip | apply Pk.skipA))

end
end Go.Proofs.Ytjgohbepageicaa.Gb
