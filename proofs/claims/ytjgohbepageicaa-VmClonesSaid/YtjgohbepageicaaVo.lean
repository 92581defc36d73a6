/- Any instruction without a number. -/
import Derived.Test.YtjgohbepageicaaVn
namespace Go.Proofs.Ytjgohbepageicaa.Gb
open Go Go.Proofs
set_option linter.unusedVariables false
set_option linter.unusedSimpArgs false
attribute [local irreducible] Try.prog

section
variable (G : Gh) (mb : Nat) (c1 c2 c3 : Value) (FA : Option Addr) (fn fcap : Nat) (en : Int) (w : V) (OA : Option Addr) (ocap : Nat) (st : Int) (ed : Bool) (out : List V) (ox fx : Own) (Hx : List Own) (RL : List V → List Own → Prop)
    (b : Nat) (A : Option Addr) (cap : Nat) (p a : Int) (B : Option Addr) (m cm : Nat) (x : Own) (l : List V) (nm : ByteArray) (ex : Bool) (qv cv : Value) (lo res : Int)

def plainC (c : Int) : Prop := c = 4 ∨ c = 9 ∨ c = 10 ∨ c = 11 ∨ c = 12 ∨ c = 13 ∨ c = 25 ∨ c = 26 ∨ c = 20 ∨ c = 14 ∨ c = 15 ∨ c = 16 ∨ c = 17 ∨ c = 24 ∨ c = 18 ∨ c = 19 ∨ c = 21 ∨ c = 22 ∨ c = 23

theorem plain_other (c : Int) (hc : ¬ plainC c) : Fn Try.prog 69 #[.pointer (some ⟨mb, 0, none⟩), .pointer (some ⟨b, 0, none⟩), .agg #[.string nm, .bool ex, qv, .int .i64 lo, .int .i64 res, cv], .int .i64 c] G
    (mcB mb c1 c2 c3 FA fn fcap en w OA out.length ocap st ed :: ox :: frB b A l.length cap p a B m cm :: x :: fx :: Hx) (PlR G mb c1 c2 c3 FA fn fcap en w OA ocap st ed out ox fx Hx RL b A cap p a B m cm x (plainR res l c out.length)) := by
  unfold plainC at hc
  simp only [not_or] at hc
  obtain ⟨h4, h9, h10, h11, h12, h13, h25, h26, h20, h14, h15, h16, h17, h24, h18, h19, h21, h22, h23⟩ := hc
  refine Fn.enter Try.func69 rfl rfl fun w0 => ?_
  rw [show plainR res l c out.length = .halt 6 by simp [plainR, *]]
  refine WC.seq ?_
  refine WC.region ?_
  refine WL.op (by kernel_rfl) (OW.box rfl rfl fun b1 => ?_)
  refine WL.nil ?_
  refine WK.un ?_
  refine WC.seq ?_
  refine WC.region ?_
  refine WL.p (Gp.move rfl) (by kernel_rfl) rfl ?_
  refine WL.nil ?_
  refine WK.un ?_
  repeat (first | refine WC.seq ?_ | refine WC.block ?_ | (refine WC.skip ?_; refine WK.un ?_) | (refine WC.exit ?_; refine WK.un ?_))
  refine WC.region ?_
  (first | refine WL.p (Gp.eqI rfl rfl) (by kernel_rfl) rfl ?_ | refine WL.p (Gp.eqS rfl rfl) (by kernel_rfl) rfl ?_ | refine WL.p (Gp.nilSl rfl) (by kernel_rfl) rfl ?_ | refine WL.p (Gp.eqB rfl rfl) (by kernel_rfl) rfl ?_)
  refine WL.p (Gp.assign rfl) (by kernel_rfl) rfl ?_
  refine WL.nil ?_
  refine WK.un ?_
  refine WC.cond rfl (fun hc => absurd (by simpa using hc) h4) (fun _ => ?_)
  repeat (first | refine WC.seq ?_ | refine WC.block ?_ | (refine WC.skip ?_; refine WK.un ?_) | (refine WC.exit ?_; refine WK.un ?_))
  repeat (first | refine WC.seq ?_ | refine WC.block ?_ | (refine WC.skip ?_; refine WK.un ?_) | (refine WC.exit ?_; refine WK.un ?_))
  refine WC.region ?_
  (first | refine WL.p (Gp.eqI rfl rfl) (by kernel_rfl) rfl ?_ | refine WL.p (Gp.eqS rfl rfl) (by kernel_rfl) rfl ?_ | refine WL.p (Gp.nilSl rfl) (by kernel_rfl) rfl ?_ | refine WL.p (Gp.eqB rfl rfl) (by kernel_rfl) rfl ?_)
  refine WL.p (Gp.assign rfl) (by kernel_rfl) rfl ?_
  refine WL.nil ?_
  refine WK.un ?_
  refine WC.cond rfl (fun hc => absurd (by simpa using hc) h9) (fun _ => ?_)
  repeat (first | refine WC.seq ?_ | refine WC.block ?_ | (refine WC.skip ?_; refine WK.un ?_) | (refine WC.exit ?_; refine WK.un ?_))
  repeat (first | refine WC.seq ?_ | refine WC.block ?_ | (refine WC.skip ?_; refine WK.un ?_) | (refine WC.exit ?_; refine WK.un ?_))
  refine WC.region ?_
  (first | refine WL.p (Gp.eqI rfl rfl) (by kernel_rfl) rfl ?_ | refine WL.p (Gp.eqS rfl rfl) (by kernel_rfl) rfl ?_ | refine WL.p (Gp.nilSl rfl) (by kernel_rfl) rfl ?_ | refine WL.p (Gp.eqB rfl rfl) (by kernel_rfl) rfl ?_)
  refine WL.p (Gp.assign rfl) (by kernel_rfl) rfl ?_
  refine WL.nil ?_
  refine WK.un ?_
  refine WC.cond rfl (fun hc => absurd (by simpa using hc) h10) (fun _ => ?_)
  repeat (first | refine WC.seq ?_ | refine WC.block ?_ | (refine WC.skip ?_; refine WK.un ?_) | (refine WC.exit ?_; refine WK.un ?_))
  repeat (first | refine WC.seq ?_ | refine WC.block ?_ | (refine WC.skip ?_; refine WK.un ?_) | (refine WC.exit ?_; refine WK.un ?_))
  refine WC.region ?_
  (first | refine WL.p (Gp.eqI rfl rfl) (by kernel_rfl) rfl ?_ | refine WL.p (Gp.eqS rfl rfl) (by kernel_rfl) rfl ?_ | refine WL.p (Gp.nilSl rfl) (by kernel_rfl) rfl ?_ | refine WL.p (Gp.eqB rfl rfl) (by kernel_rfl) rfl ?_)
  refine WL.p (Gp.assign rfl) (by kernel_rfl) rfl ?_
  refine WL.nil ?_
  refine WK.un ?_
  refine WC.cond rfl (fun hc => absurd (by simpa using hc) h11) (fun _ => ?_)
  repeat (first | refine WC.seq ?_ | refine WC.block ?_ | (refine WC.skip ?_; refine WK.un ?_) | (refine WC.exit ?_; refine WK.un ?_))
  repeat (first | refine WC.seq ?_ | refine WC.block ?_ | (refine WC.skip ?_; refine WK.un ?_) | (refine WC.exit ?_; refine WK.un ?_))
  refine WC.region ?_
  (first | refine WL.p (Gp.eqI rfl rfl) (by kernel_rfl) rfl ?_ | refine WL.p (Gp.eqS rfl rfl) (by kernel_rfl) rfl ?_ | refine WL.p (Gp.nilSl rfl) (by kernel_rfl) rfl ?_ | refine WL.p (Gp.eqB rfl rfl) (by kernel_rfl) rfl ?_)
  refine WL.p (Gp.assign rfl) (by kernel_rfl) rfl ?_
  refine WL.nil ?_
  refine WK.un ?_
  refine WC.cond rfl (fun hc => absurd (by simpa using hc) h12) (fun _ => ?_)
  repeat (first | refine WC.seq ?_ | refine WC.block ?_ | (refine WC.skip ?_; refine WK.un ?_) | (refine WC.exit ?_; refine WK.un ?_))
  repeat (first | refine WC.seq ?_ | refine WC.block ?_ | (refine WC.skip ?_; refine WK.un ?_) | (refine WC.exit ?_; refine WK.un ?_))
  refine WC.region ?_
  (first | refine WL.p (Gp.eqI rfl rfl) (by kernel_rfl) rfl ?_ | refine WL.p (Gp.eqS rfl rfl) (by kernel_rfl) rfl ?_ | refine WL.p (Gp.nilSl rfl) (by kernel_rfl) rfl ?_ | refine WL.p (Gp.eqB rfl rfl) (by kernel_rfl) rfl ?_)
  refine WL.p (Gp.assign rfl) (by kernel_rfl) rfl ?_
  refine WL.nil ?_
  refine WK.un ?_
  refine WC.cond rfl (fun hc => absurd (by simpa using hc) h13) (fun _ => ?_)
  repeat (first | refine WC.seq ?_ | refine WC.block ?_ | (refine WC.skip ?_; refine WK.un ?_) | (refine WC.exit ?_; refine WK.un ?_))
  repeat (first | refine WC.seq ?_ | refine WC.block ?_ | (refine WC.skip ?_; refine WK.un ?_) | (refine WC.exit ?_; refine WK.un ?_))
  refine WC.region ?_
  (first | refine WL.p (Gp.eqI rfl rfl) (by kernel_rfl) rfl ?_ | refine WL.p (Gp.eqS rfl rfl) (by kernel_rfl) rfl ?_ | refine WL.p (Gp.nilSl rfl) (by kernel_rfl) rfl ?_ | refine WL.p (Gp.eqB rfl rfl) (by kernel_rfl) rfl ?_)
  refine WL.p (Gp.assign rfl) (by kernel_rfl) rfl ?_
  refine WL.nil ?_
  refine WK.un ?_
  refine WC.cond rfl (fun hc => absurd (by simpa using hc) h25) (fun _ => ?_)
  repeat (first | refine WC.seq ?_ | refine WC.block ?_ | (refine WC.skip ?_; refine WK.un ?_) | (refine WC.exit ?_; refine WK.un ?_))
  repeat (first | refine WC.seq ?_ | refine WC.block ?_ | (refine WC.skip ?_; refine WK.un ?_) | (refine WC.exit ?_; refine WK.un ?_))
  refine WC.region ?_
  (first | refine WL.p (Gp.eqI rfl rfl) (by kernel_rfl) rfl ?_ | refine WL.p (Gp.eqS rfl rfl) (by kernel_rfl) rfl ?_ | refine WL.p (Gp.nilSl rfl) (by kernel_rfl) rfl ?_ | refine WL.p (Gp.eqB rfl rfl) (by kernel_rfl) rfl ?_)
  refine WL.p (Gp.assign rfl) (by kernel_rfl) rfl ?_
  refine WL.nil ?_
  refine WK.un ?_
  refine WC.cond rfl (fun hc => absurd (by simpa using hc) h26) (fun _ => ?_)
  repeat (first | refine WC.seq ?_ | refine WC.block ?_ | (refine WC.skip ?_; refine WK.un ?_) | (refine WC.exit ?_; refine WK.un ?_))
  repeat (first | refine WC.seq ?_ | refine WC.block ?_ | (refine WC.skip ?_; refine WK.un ?_) | (refine WC.exit ?_; refine WK.un ?_))
  refine WC.region ?_
  (first | refine WL.p (Gp.eqI rfl rfl) (by kernel_rfl) rfl ?_ | refine WL.p (Gp.eqS rfl rfl) (by kernel_rfl) rfl ?_ | refine WL.p (Gp.nilSl rfl) (by kernel_rfl) rfl ?_ | refine WL.p (Gp.eqB rfl rfl) (by kernel_rfl) rfl ?_)
  refine WL.p (Gp.assign rfl) (by kernel_rfl) rfl ?_
  refine WL.nil ?_
  refine WK.un ?_
  refine WC.cond rfl (fun hc => absurd (by simpa using hc) h20) (fun _ => ?_)
  repeat (first | refine WC.seq ?_ | refine WC.block ?_ | (refine WC.skip ?_; refine WK.un ?_) | (refine WC.exit ?_; refine WK.un ?_))
  repeat (first | refine WC.seq ?_ | refine WC.block ?_ | (refine WC.skip ?_; refine WK.un ?_) | (refine WC.exit ?_; refine WK.un ?_))
  refine WC.region ?_
  (first | refine WL.p (Gp.eqI rfl rfl) (by kernel_rfl) rfl ?_ | refine WL.p (Gp.eqS rfl rfl) (by kernel_rfl) rfl ?_ | refine WL.p (Gp.nilSl rfl) (by kernel_rfl) rfl ?_ | refine WL.p (Gp.eqB rfl rfl) (by kernel_rfl) rfl ?_)
  refine WL.p (Gp.assign rfl) (by kernel_rfl) rfl ?_
  refine WL.nil ?_
  refine WK.un ?_
  refine WC.cond rfl (fun hc => absurd (by simpa using hc) h14) (fun _ => ?_)
  repeat (first | refine WC.seq ?_ | refine WC.block ?_ | (refine WC.skip ?_; refine WK.un ?_) | (refine WC.exit ?_; refine WK.un ?_))
  repeat (first | refine WC.seq ?_ | refine WC.block ?_ | (refine WC.skip ?_; refine WK.un ?_) | (refine WC.exit ?_; refine WK.un ?_))
  refine WC.region ?_
  (first | refine WL.p (Gp.eqI rfl rfl) (by kernel_rfl) rfl ?_ | refine WL.p (Gp.eqS rfl rfl) (by kernel_rfl) rfl ?_ | refine WL.p (Gp.nilSl rfl) (by kernel_rfl) rfl ?_ | refine WL.p (Gp.eqB rfl rfl) (by kernel_rfl) rfl ?_)
  refine WL.p (Gp.assign rfl) (by kernel_rfl) rfl ?_
  refine WL.nil ?_
  refine WK.un ?_
  refine WC.cond rfl (fun hc => absurd (by simpa using hc) h15) (fun _ => ?_)
  repeat (first | refine WC.seq ?_ | refine WC.block ?_ | (refine WC.skip ?_; refine WK.un ?_) | (refine WC.exit ?_; refine WK.un ?_))
  repeat (first | refine WC.seq ?_ | refine WC.block ?_ | (refine WC.skip ?_; refine WK.un ?_) | (refine WC.exit ?_; refine WK.un ?_))
  refine WC.region ?_
  (first | refine WL.p (Gp.eqI rfl rfl) (by kernel_rfl) rfl ?_ | refine WL.p (Gp.eqS rfl rfl) (by kernel_rfl) rfl ?_ | refine WL.p (Gp.nilSl rfl) (by kernel_rfl) rfl ?_ | refine WL.p (Gp.eqB rfl rfl) (by kernel_rfl) rfl ?_)
  refine WL.p (Gp.assign rfl) (by kernel_rfl) rfl ?_
  refine WL.nil ?_
  refine WK.un ?_
  refine WC.cond rfl (fun hc => absurd (by simpa using hc) h16) (fun _ => ?_)
  repeat (first | refine WC.seq ?_ | refine WC.block ?_ | (refine WC.skip ?_; refine WK.un ?_) | (refine WC.exit ?_; refine WK.un ?_))
  repeat (first | refine WC.seq ?_ | refine WC.block ?_ | (refine WC.skip ?_; refine WK.un ?_) | (refine WC.exit ?_; refine WK.un ?_))
  refine WC.region ?_
  (first | refine WL.p (Gp.eqI rfl rfl) (by kernel_rfl) rfl ?_ | refine WL.p (Gp.eqS rfl rfl) (by kernel_rfl) rfl ?_ | refine WL.p (Gp.nilSl rfl) (by kernel_rfl) rfl ?_ | refine WL.p (Gp.eqB rfl rfl) (by kernel_rfl) rfl ?_)
  refine WL.p (Gp.assign rfl) (by kernel_rfl) rfl ?_
  refine WL.nil ?_
  refine WK.un ?_
  refine WC.cond rfl (fun hc => absurd (by simpa using hc) h17) (fun _ => ?_)
  repeat (first | refine WC.seq ?_ | refine WC.block ?_ | (refine WC.skip ?_; refine WK.un ?_) | (refine WC.exit ?_; refine WK.un ?_))
  repeat (first | refine WC.seq ?_ | refine WC.block ?_ | (refine WC.skip ?_; refine WK.un ?_) | (refine WC.exit ?_; refine WK.un ?_))
  refine WC.region ?_
  (first | refine WL.p (Gp.eqI rfl rfl) (by kernel_rfl) rfl ?_ | refine WL.p (Gp.eqS rfl rfl) (by kernel_rfl) rfl ?_ | refine WL.p (Gp.nilSl rfl) (by kernel_rfl) rfl ?_ | refine WL.p (Gp.eqB rfl rfl) (by kernel_rfl) rfl ?_)
  refine WL.p (Gp.assign rfl) (by kernel_rfl) rfl ?_
  refine WL.nil ?_
  refine WK.un ?_
  refine WC.cond rfl (fun hc => absurd (by simpa using hc) h24) (fun _ => ?_)
  repeat (first | refine WC.seq ?_ | refine WC.block ?_ | (refine WC.skip ?_; refine WK.un ?_) | (refine WC.exit ?_; refine WK.un ?_))
  repeat (first | refine WC.seq ?_ | refine WC.block ?_ | (refine WC.skip ?_; refine WK.un ?_) | (refine WC.exit ?_; refine WK.un ?_))
  refine WC.region ?_
  (first | refine WL.p (Gp.eqI rfl rfl) (by kernel_rfl) rfl ?_ | refine WL.p (Gp.eqS rfl rfl) (by kernel_rfl) rfl ?_ | refine WL.p (Gp.nilSl rfl) (by kernel_rfl) rfl ?_ | refine WL.p (Gp.eqB rfl rfl) (by kernel_rfl) rfl ?_)
  refine WL.p (Gp.assign rfl) (by kernel_rfl) rfl ?_
  refine WL.nil ?_
  refine WK.un ?_
  refine WC.cond rfl (fun hc => absurd (by simpa using hc) h18) (fun _ => ?_)
  repeat (first | refine WC.seq ?_ | refine WC.block ?_ | (refine WC.skip ?_; refine WK.un ?_) | (refine WC.exit ?_; refine WK.un ?_))
  repeat (first | refine WC.seq ?_ | refine WC.block ?_ | (refine WC.skip ?_; refine WK.un ?_) | (refine WC.exit ?_; refine WK.un ?_))
  refine WC.region ?_
  (first | refine WL.p (Gp.eqI rfl rfl) (by kernel_rfl) rfl ?_ | refine WL.p (Gp.eqS rfl rfl) (by kernel_rfl) rfl ?_ | refine WL.p (Gp.nilSl rfl) (by kernel_rfl) rfl ?_ | refine WL.p (Gp.eqB rfl rfl) (by kernel_rfl) rfl ?_)
  refine WL.p (Gp.assign rfl) (by kernel_rfl) rfl ?_
  refine WL.nil ?_
  refine WK.un ?_
  refine WC.cond rfl (fun hc => absurd (by simpa using hc) h19) (fun _ => ?_)
  repeat (first | refine WC.seq ?_ | refine WC.block ?_ | (refine WC.skip ?_; refine WK.un ?_) | (refine WC.exit ?_; refine WK.un ?_))
  repeat (first | refine WC.seq ?_ | refine WC.block ?_ | (refine WC.skip ?_; refine WK.un ?_) | (refine WC.exit ?_; refine WK.un ?_))
  refine WC.region ?_
  (first | refine WL.p (Gp.eqI rfl rfl) (by kernel_rfl) rfl ?_ | refine WL.p (Gp.eqS rfl rfl) (by kernel_rfl) rfl ?_ | refine WL.p (Gp.nilSl rfl) (by kernel_rfl) rfl ?_ | refine WL.p (Gp.eqB rfl rfl) (by kernel_rfl) rfl ?_)
  refine WL.p (Gp.assign rfl) (by kernel_rfl) rfl ?_
  refine WL.nil ?_
  refine WK.un ?_
  refine WC.cond rfl (fun hc => absurd (by simpa using hc) h21) (fun _ => ?_)
  repeat (first | refine WC.seq ?_ | refine WC.block ?_ | (refine WC.skip ?_; refine WK.un ?_) | (refine WC.exit ?_; refine WK.un ?_))
  repeat (first | refine WC.seq ?_ | refine WC.block ?_ | (refine WC.skip ?_; refine WK.un ?_) | (refine WC.exit ?_; refine WK.un ?_))
  refine WC.region ?_
  (first | refine WL.p (Gp.eqI rfl rfl) (by kernel_rfl) rfl ?_ | refine WL.p (Gp.eqS rfl rfl) (by kernel_rfl) rfl ?_ | refine WL.p (Gp.nilSl rfl) (by kernel_rfl) rfl ?_ | refine WL.p (Gp.eqB rfl rfl) (by kernel_rfl) rfl ?_)
  refine WL.p (Gp.assign rfl) (by kernel_rfl) rfl ?_
  refine WL.nil ?_
  refine WK.un ?_
  refine WC.cond rfl (fun hc => absurd (by simpa using hc) h22) (fun _ => ?_)
  repeat (first | refine WC.seq ?_ | refine WC.block ?_ | (refine WC.skip ?_; refine WK.un ?_) | (refine WC.exit ?_; refine WK.un ?_))
  repeat (first | refine WC.seq ?_ | refine WC.block ?_ | (refine WC.skip ?_; refine WK.un ?_) | (refine WC.exit ?_; refine WK.un ?_))
  refine WC.region ?_
  (first | refine WL.p (Gp.eqI rfl rfl) (by kernel_rfl) rfl ?_ | refine WL.p (Gp.eqS rfl rfl) (by kernel_rfl) rfl ?_ | refine WL.p (Gp.nilSl rfl) (by kernel_rfl) rfl ?_ | refine WL.p (Gp.eqB rfl rfl) (by kernel_rfl) rfl ?_)
  refine WL.p (Gp.assign rfl) (by kernel_rfl) rfl ?_
  refine WL.nil ?_
  refine WK.un ?_
  refine WC.cond rfl (fun hc => absurd (by simpa using hc) h23) (fun _ => ?_)
  repeat (first | refine WC.seq ?_ | refine WC.block ?_ | (refine WC.skip ?_; refine WK.un ?_) | (refine WC.exit ?_; refine WK.un ?_))
  refine WC.region ?_
  refine WL.op (by kernel_rfl) (OW.call rfl (Hf := []) (List.Perm.refl _) (stuck_fn _) rfl (fun v G' H' h _ => by cases h.1) (fun ch G' H' h _ => ?_) (fun G' H' h => by cases h.1))
  obtain ⟨he, rfl, rfl⟩ := h
  cases he
  refine WK.un ?_
  exact QF.panicP ⟨rfl, rfl, _, Left.of b A l.length cap p a B m cm, rfl⟩ (by repeat (first | exact Pk.nil | exact Pk.all | exact Pk.app | exact Pk.appR | with_reducible apply Pk.na | (apply Pk.cons; (repeat first | exact .here | apply Rem.there | apply Rem.app)) | apply Pk.skip | apply Pk.skipA))

theorem plain_fn (c : Int) (hv : VVec A cap l x) (hl : l.length ≤ 1000000) (hz : ∀ v ∈ l, v.s.size ≤ 400000000000) (ho : VVec OA ocap out ox) (hL : Lv G mb (mcB mb c1 c2 c3 FA fn fcap en w OA out.length ocap st ed) fx Hx RL) :
    Fn Try.prog 69 #[.pointer (some ⟨mb, 0, none⟩), .pointer (some ⟨b, 0, none⟩), .agg #[.string nm, .bool ex, qv, .int .i64 lo, .int .i64 res, cv], .int .i64 c] G
    (mcB mb c1 c2 c3 FA fn fcap en w OA out.length ocap st ed :: ox :: frB b A l.length cap p a B m cm :: x :: fx :: Hx) (PlR G mb c1 c2 c3 FA fn fcap en w OA ocap st ed out ox fx Hx RL b A cap p a B m cm x (plainR res l c out.length)) := by
  by_cases hc : plainC c
  rotate_left
  · exact plain_other G mb c1 c2 c3 FA fn fcap en w OA ocap st ed out ox fx Hx RL b A cap p a B m cm x l nm ex qv cv lo res c hc
  rcases hc with rfl | rfl | rfl | rfl | rfl | rfl | rfl | rfl | rfl | rfl | rfl | rfl | rfl | rfl | rfl | rfl | rfl | rfl | rfl
  · exact plain_drop G mb c1 c2 c3 FA fn fcap en w OA ocap st ed out ox fx Hx RL b A cap p a B m cm x l nm ex qv cv lo res hv hl
  · exact plain_return G mb c1 c2 c3 FA fn fcap en w OA ocap st ed out ox fx Hx RL b A cap p a B m cm x l nm ex qv cv lo res hv hl hL
  · exact plain_give G mb c1 c2 c3 FA fn fcap en w OA ocap st ed out ox fx Hx RL b A cap p a B m cm x l nm ex qv cv lo res hv hl hL
  · exact plain_print G mb c1 c2 c3 FA fn fcap en w OA ocap st ed out ox fx Hx RL b A cap p a B m cm x l nm ex qv cv lo res hv hl ho
  · exact plain_eq G mb c1 c2 c3 FA fn fcap en w OA ocap st ed out ox fx Hx RL b A cap p a B m cm x l nm ex qv cv lo res hv hl
  · exact plain_ne G mb c1 c2 c3 FA fn fcap en w OA ocap st ed out ox fx Hx RL b A cap p a B m cm x l nm ex qv cv lo res hv hl
  · exact plain_not G mb c1 c2 c3 FA fn fcap en w OA ocap st ed out ox fx Hx RL b A cap p a B m cm x l nm ex qv cv lo res hv hl
  · exact plain_len G mb c1 c2 c3 FA fn fcap en w OA ocap st ed out ox fx Hx RL b A cap p a B m cm x l nm ex qv cv lo res hv hl
  · exact plain_join G mb c1 c2 c3 FA fn fcap en w OA ocap st ed out ox fx Hx RL b A cap p a B m cm x l nm ex qv cv lo res hv hl hz
  · exact plain_ord14 G mb c1 c2 c3 FA fn fcap en w OA ocap st ed out ox fx Hx RL b A cap p a B m cm x l nm ex qv cv lo res hv hl
  · exact plain_ord15 G mb c1 c2 c3 FA fn fcap en w OA ocap st ed out ox fx Hx RL b A cap p a B m cm x l nm ex qv cv lo res hv hl
  · exact plain_ord16 G mb c1 c2 c3 FA fn fcap en w OA ocap st ed out ox fx Hx RL b A cap p a B m cm x l nm ex qv cv lo res hv hl
  · exact plain_ord17 G mb c1 c2 c3 FA fn fcap en w OA ocap st ed out ox fx Hx RL b A cap p a B m cm x l nm ex qv cv lo res hv hl
  · exact plain_neg G mb c1 c2 c3 FA fn fcap en w OA ocap st ed out ox fx Hx RL b A cap p a B m cm x l nm ex qv cv lo res hv hl
  · exact plain_rec18 G mb c1 c2 c3 FA fn fcap en w OA ocap st ed out ox fx Hx RL b A cap p a B m cm x l nm ex qv cv lo res hv hl
  · exact plain_rec19 G mb c1 c2 c3 FA fn fcap en w OA ocap st ed out ox fx Hx RL b A cap p a B m cm x l nm ex qv cv lo res hv hl
  · exact plain_rec21 G mb c1 c2 c3 FA fn fcap en w OA ocap st ed out ox fx Hx RL b A cap p a B m cm x l nm ex qv cv lo res hv hl
  · exact plain_rec22 G mb c1 c2 c3 FA fn fcap en w OA ocap st ed out ox fx Hx RL b A cap p a B m cm x l nm ex qv cv lo res hv hl
  · exact plain_rec23 G mb c1 c2 c3 FA fn fcap en w OA ocap st ed out ox fx Hx RL b A cap p a B m cm x l nm ex qv cv lo res hv hl
end
end Go.Proofs.Ytjgohbepageicaa.Gb
