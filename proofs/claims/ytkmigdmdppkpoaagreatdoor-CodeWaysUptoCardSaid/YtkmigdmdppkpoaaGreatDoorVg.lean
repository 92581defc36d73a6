/- A way through a procedure: its small functions, walked. A way through a procedure: one instruction more, walked. The least states are there; what is known of an object that was taken: no program in sight. CodeWays: walked. What a row tells of its arguments, opened: the data behind slices and structs, with the bounds that their weights give. A slice that a row hands in: opened. -/
import Derived.Test.YtkmigdmdppkpoaaGreatDoorVf
import Derived.SizedLaws
import Derived.ChangeSlices
import Derived.Carry
set_option linter.unusedVariables false
set_option linter.unusedSimpArgs false
set_option linter.unusedSectionVars false
namespace Go.Proofs.YtkmigdmdppkpoaaGreatDoor.Gb
open Go Go.Proofs Go.MapKept
set_option linter.unusedVariables false
set_option linter.unusedSimpArgs false
set_option linter.unusedSectionVars false
theorem Sl.whole {G : Gh} {A : Option Addr} {l : List Int} (h : Sl (Kd.int .i64) G A l) (hl : 0 < l.length) : ∃ b o, A = some ⟨b, o, none⟩ ∧ Cs G b o (Gb.ints l) := by
  obtain ⟨b, o, _, rfl, _, _⟩ := h 0 l[0] (List.getElem?_eq_getElem hl)
  refine ⟨b, o, rfl, fun j v e => ?_⟩
  rw [Gb.ints, List.getElem?_map] at e
  cases hz : l[j]? with
  | none => rw [hz] at e; cases e
  | some y =>
    rw [hz] at e
    simp only [Option.map_some, Option.some.injEq] at e
    subst e
    obtain ⟨b', o', cs', he, hk, hc⟩ := h j y hz
    cases he
    obtain rfl : cs' = [.int .i64 y] := hk
    have := hc 0 _ rfl
    simpa [Kd.int] using this
theorem Sl.takeW {α : Type} {k : Kd α} {G : Gh} {A : Option Addr} {xs : List α} (h : Sl k G A xs) (n : Nat) : Sl k G A (xs.take n) := fun i x hx => h i x (by
  rw [List.getElem?_take] at hx
  split at hx
  · exact hx
  · cases hx)
theorem LeR.get_fit {a b : List Int} (h : LeR a b) : ∀ {n : Nat} {x y : Int}, a[n]? = some x → b[n]? = some y → y ≠ 0 → x = y := fun {n x y} hx hy h0 => by
  have := h.get n
  rw [hx, hy] at this
  exact this.resolve_left h0
attribute [local irreducible] Tryz.prog
theorem sameTypes_fn (G : Gh) (A B : Option Addr) (l m : List Int) (ca cb : Nat) (ha : Sl (Kd.int .i64) G A l) (hb : Sl (Kd.int .i64) G B m) (hl : l.length ≤ 100000000000000) :
    Fn Tryz.prog 17 #[.slice A l.length ca, .slice B m.length cb] G [] fun e G' H' => e = .returned (.bool (decide (l = m))) ∧ G = G' ∧ H' = [] := by
  refine Fn.enter Tryz.func17 rfl rfl fun w0 => ?_
  by_cases hne : l.length = m.length
  rotate_left
  · have e1 : ((l.length : Int) != (m.length : Int)) = true := by rw [bne_iff_ne]; omega
    refine gom ?_
    refine WC.ret ?_
    refine WK.un ?_
    exact QF.p1 (.inl rfl) rfl (.tmp rfl) (⟨by rw [decide_eq_false fun e => hne (by rw [e])], rfl, rfl⟩)
  have e1 : ((l.length : Int) != (m.length : Int)) = false := by rw [hne]; simp
  refine gom ?_
  refine WC.loop (X := Nat) (fun i => [(5, .int .i64 i), (0, .slice A l.length ca), (1, .slice B m.length cb)]) (fun _ => G) (fun _ => []) (fun i => l.length - i) (fun i => i ≤ l.length ∧ ∀ j, j < i → l[j]? = m[j]?) 0 ⟨Nat.zero_le _, fun j h => by omega⟩ (by exact ⟨rfl, rfl, rfl, trivial⟩) rfl (List.Sublist.refl _) fun i hx => ?_
  obtain ⟨hi, hall⟩ := hx
  by_cases hlt : i < l.length
  rotate_left
  · have e2 : decide ((i : Int) < (l.length : Int)) = false := decide_eq_false (by omega)
    have he : l = m := by
      refine List.ext_getElem? fun j => ?_
      rcases Nat.lt_or_ge j i with h | h
      · exact hall j h
      · rw [List.getElem?_eq_none (by omega), List.getElem?_eq_none (by omega)]
    refine gom ?_
    refine WC.ret ?_
    refine WK.un ?_
    exact QF.p1 (.inl rfl) rfl (.tmp rfl) (⟨by rw [decide_eq_true he], rfl, rfl⟩)
  have e2 : decide ((i : Int) < (l.length : Int)) = true := decide_eq_true (by omega)
  obtain ⟨x, hx⟩ : ∃ x, l[i]? = some x := ⟨_, List.getElem?_eq_getElem hlt⟩
  obtain ⟨y, hy⟩ : ∃ y, m[i]? = some y := ⟨_, List.getElem?_eq_getElem (by omega)⟩
  obtain ⟨ab, ao, cs1, rfl, hk1, hca⟩ := ha i x hx
  obtain ⟨bb, bo, cs2, rfl, hk2, hcb⟩ := hb i y hy
  obtain rfl : cs1 = [.int .i64 x] := hk1
  obtain rfl : cs2 = [.int .i64 y] := hk2
  have x0 : (0 : Int) ≤ i := by omega
  have x2 : (i : Int) < (l.length : Int) := by omega
  have x3 : (i : Int) < (m.length : Int) := by omega
  have x4 := wrapS i (by omega)
  by_cases hxy : x = y
  · have e3 : (x != y) = false := by simp [hxy]
    refine gom ?_
    exact WK.again (i + 1) (by omega) ⟨by omega, fun j hj => by
      rcases Nat.lt_or_ge j i with h | h
      · exact hall j h
      · obtain rfl : j = i := by omega
        rw [hx, hy, hxy]⟩ (by exact ⟨rfl, rfl, rfl, trivial⟩) rfl (List.Sublist.refl _)
  · have e3 : (x != y) = true := by rw [bne_iff_ne]; exact hxy
    refine gom ?_
    refine WC.ret ?_
    refine WK.un ?_
    exact QF.p1 (.inl rfl) rfl (.tmp rfl) (⟨by rw [decide_eq_false fun e => by rw [e, hy] at hx; exact hxy (Option.some.inj hx).symm], rfl, rfl⟩)
/-- what is fits what is told -/
theorem fits_fn (G : Gh) (A B : Option Addr) (l m : List Int) (ca cb : Nat) (ha : Sl (Kd.int .i64) G A l) (hb : Sl (Kd.int .i64) G B m) (hl : l.length ≤ 100000000000000) (hf : LeR m l) :
    Fn Tryz.prog 20 #[.slice A l.length ca, .slice B m.length cb] G [] fun e G' H' => e = .returned (.bool true) ∧ G = G' ∧ H' = [] := by
  refine Fn.enter Tryz.func20 rfl rfl fun w0 => ?_
  have hne := hf.length
  have e1 : ((l.length : Int) != (m.length : Int)) = false := by rw [hne]; simp
  refine gom ?_
  refine WC.loop (X := Nat) (fun i => [(5, .int .i64 i), (0, .slice A l.length ca), (1, .slice B m.length cb)]) (fun _ => G) (fun _ => []) (fun i => l.length - i) (fun i => i ≤ l.length) 0 (Nat.zero_le _) (by exact ⟨rfl, rfl, rfl, trivial⟩) rfl (List.Sublist.refl _) fun i hi => ?_
  by_cases hlt : i < l.length
  rotate_left
  · have e2 : decide ((i : Int) < (l.length : Int)) = false := decide_eq_false (by omega)
    refine gom ?_
    refine WC.ret ?_
    refine WK.un ?_
    exact QF.p1 (.inl rfl) rfl (.tmp rfl) (⟨rfl, rfl, rfl⟩)
  have e2 : decide ((i : Int) < (l.length : Int)) = true := decide_eq_true (by omega)
  obtain ⟨x, hx⟩ : ∃ x, l[i]? = some x := ⟨_, List.getElem?_eq_getElem hlt⟩
  obtain ⟨y, hy⟩ : ∃ y, m[i]? = some y := ⟨_, List.getElem?_eq_getElem (by omega)⟩
  obtain ⟨ab, ao, cs1, rfl, hk1, hca⟩ := ha i x hx
  obtain ⟨bb, bo, cs2, rfl, hk2, hcb⟩ := hb i y hy
  obtain rfl : cs1 = [.int .i64 x] := hk1
  obtain rfl : cs2 = [.int .i64 y] := hk2
  have x0 : (0 : Int) ≤ i := by omega
  have x2 : (i : Int) < (l.length : Int) := by omega
  have x3 : (i : Int) < (m.length : Int) := by omega
  have x4 := wrapS i (by omega)
  by_cases h0 : x = 0
  · have e3 : (x != 0) = false := by simp [h0]
    refine gom ?_
    exact WK.again (i + 1) (by omega) (by omega) (by exact ⟨rfl, rfl, rfl, trivial⟩) rfl (List.Sublist.refl _)
  · have e3 : (x != 0) = true := by rw [bne_iff_ne]; exact h0
    have hyx := hf.get_fit hy hx h0
    have e4 : (x != y) = false := by simp [hyx]
    refine gom ?_
    exact WK.again (i + 1) (by omega) (by omega) (by exact ⟨rfl, rfl, rfl, trivial⟩) rfl (List.Sublist.refl _)
theorem pops_fn (G : Gh) (VA SA : Option Addr) (v st : List Int) (vc sc n : Nat) (hS : Sl (Kd.int .i64) G SA st) (hsc : st.length ≤ sc) (hn : n ≤ st.length) (hl : st.length ≤ 1000000) :
    Fn Tryz.prog 43 #[.agg #[.slice VA v.length vc, .slice SA st.length sc], .int .i64 (n : Int)] G [] fun e G' H' => ∃ TA tc y, e = .returned (.tuple #[.agg #[.slice VA v.length vc, .slice TA (st.take (st.length - n)).length tc], .bool true]) ∧ G = G' ∧ TVec TA (st.take (st.length - n)) tc y ∧ H' = [y] := by
  refine Fn.enter Tryz.func43 rfl rfl fun w0 => ?_
  have e1 : decide ((st.length : Int) < (n : Int)) = false := decide_eq_false (by omega)
  have x3 : IntKind.i64.wrap ((st.length : Int) - (n : Int)) = ((st.length - n : Nat) : Int) := by rw [wrapI (by omega) (by omega)]; omega
  have hlen : (st.take (st.length - n)).length = st.length - n := by rw [List.length_take]; omega
  refine WC.nothing ?_
  refine WC.seq ?_
  refine WC.region ?_
  refine WL.op (by kernel_rfl) (OW.box rfl rfl fun b2 => ?_)
  refine WL.op (by kernel_rfl) (OW.alloc rfl fun b4 => ?_)
  refine gom ?_
  refine WL.p (Gp.sliceTo rfl rfl (by omega) (by omega)) (by kernel_rfl) rfl ?_
  rw [Int.toNat_natCast]
  refine WL.op (by kernel_rfl) (OW.append rfl rfl (by kernel_rfl) (by kernel_rfl) (IVec.nil (T := 42)) (by (repeat first | exact .here | apply At.there)) (hS.takeW (st.length - n)).ints (by rw [ints_length, hlen]) (ints_one _) (by first | omega | (dsimp only; omega)) (by first | omega | (dsimp only; omega)) rfl fun A3 c3 o3 hv3 => ?_)
  have hv4 : TVec A3 (st.take (st.length - n)) c3 o3 := by
    have e : 0 + (st.length - n) = (st.take (st.length - n)).length := by rw [hlen, Nat.zero_add]
    unfold TVec IVec
    rw [← e]; exact hv3
  rw [show 0 + (st.length - n) = (st.take (st.length - n)).length from by rw [hlen, Nat.zero_add]]
  refine gom ?_
  refine WC.ret ?_
  refine WK.un ?_
  exact QF.p2 (.inl rfl) rfl (.cell rfl inferInstance inferInstance (by (repeat first | exact .here | apply At.there)) rfl rfl) (.tmp rfl) (⟨A3, c3, o3, rfl, rfl, hv4, rfl⟩)
theorem list1 {α : Type} {l : List α} (h : l.length = 1) : ∃ a, l = [a] := match l, h with | [a], _ => ⟨a, rfl⟩
theorem listTwo {α : Type} {l : List α} (h : l.length = 2) : ∃ a b, l = [a, b] := match l, h with | [a, b], _ => ⟨a, b, rfl⟩
theorem allT_one {t x : Int} (h : allT t [x] = true) : x = t := by simpa [allT] using h
theorem allT_two {t x y : Int} (h : allT t [x, y] = true) : x = t ∧ y = t := by simpa [allT] using h
set_option maxHeartbeats 4000000 in
theorem ltyped_fn (G : Gh) (o : Ob) (CA NA PA : Option Addr) (cc nc pc : Nat) (hO : ORep G o CA NA PA) (hL : OLim o) (p : Pr) (s : SS) (c n : Int) (V : Nat) (A : Option Addr) (cap : Nat) (l : List Int) (hA : Sl (Kd.int .i64) G A l) (hc : 1 ≤ c ∧ c ≤ 26) (h9 : c ≠ 9) (h10 : c ≠ 10) (hn : 0 ≤ n)
    (ho : EOk o.wd V c n.toNat) (hl : l.length = (effC o.wd s.vars (c, n)).1) (hll : l.length ≤ 1000000) (hk : kindsR o.wd p (c, n) s l = true) :
    Fn Tryz.prog 44 #[.agg (obC o CA NA PA cc nc pc), .agg #[.int .i64 c, .int .i64 n], .slice A l.length cap] G [] fun e G' H' => e = .returned (.bool true) ∧ G = G' ∧ H' = [] := by
  refine Fn.enter Tryz.func44 rfl rfl fun w0 => ?_
  have hnl := hL.nl
  have hpl := hL.pl
  refine WC.seq ?_
  refine WC.region ?_
  refine WL.op (by kernel_rfl) (OW.box rfl rfl fun b3 => ?_)
  refine WL.op (by kernel_rfl) (OW.box rfl rfl fun b4 => ?_)
  have hcc : c = 1 ∨ c = 2 ∨ c = 3 ∨ c = 4 ∨ c = 5 ∨ c = 6 ∨ c = 7 ∨ c = 8 ∨ c = 11 ∨ c = 12 ∨ c = 13 ∨ c = 14 ∨ c = 15 ∨ c = 16 ∨ c = 17 ∨ c = 18 ∨ c = 19 ∨ c = 20 ∨ c = 21 ∨ c = 22 ∨ c = 23 ∨ c = 24 ∨ c = 25 ∨ c = 26 := by omega
  rcases hcc with rfl | rfl | rfl | rfl | rfl | rfl | rfl | rfl | rfl | rfl | rfl | rfl | rfl | rfl | rfl | rfl | rfl | rfl | rfl | rfl | rfl | rfl | rfl | rfl
  ·
    refine gom ?_
    refine WC.ret ?_
    refine WK.un ?_
    exact QF.p1 (.inl rfl) rfl (.tmp rfl) (⟨rfl, rfl, rfl⟩)
  ·
    refine gom ?_
    refine WC.ret ?_
    refine WK.un ?_
    exact QF.p1 (.inl rfl) rfl (.tmp rfl) (⟨rfl, rfl, rfl⟩)
  ·
    refine gom ?_
    refine WC.ret ?_
    refine WK.un ?_
    exact QF.p1 (.inl rfl) rfl (.tmp rfl) (⟨rfl, rfl, rfl⟩)
  ·
    refine gom ?_
    refine WC.ret ?_
    refine WK.un ?_
    exact QF.p1 (.inl rfl) rfl (.tmp rfl) (⟨rfl, rfl, rfl⟩)
  ·
    refine gom ?_
    refine WC.ret ?_
    refine WK.un ?_
    exact QF.p1 (.inl rfl) rfl (.tmp rfl) (⟨rfl, rfl, rfl⟩)
  · have h1 : (effC o.wd s.vars (6, n)).1 = 1 := by kernel_rfl
    rw [h1] at hl
    obtain ⟨x, rfl⟩ := list1 hl
    have hk' : allT 2 [x] = true := hk
    obtain rfl := allT_one hk'
    obtain ⟨ab, ao, rfl, hca⟩ := hA.whole (by simp)
    refine gom ?_
    refine WC.ret ?_
    refine WK.un ?_
    exact QF.p1 (.inl rfl) rfl (.tmp rfl) (⟨rfl, rfl, rfl⟩)
  · obtain ⟨q, hq⟩ : ∃ q, o.procs[n.toNat]? = some q := ⟨_, List.getElem?_eq_getElem (ho.call rfl)⟩
    have hlt := (List.getElem?_eq_some_iff.1 hq).1
    obtain ⟨b, ofs, cs, rfl, hks, hcs⟩ := hO.procs n.toNat q hq
    obtain ⟨QA, qc, IA, ic, rfl, hQ, hI⟩ := hks
    have x0 : (0 : Int) ≤ n := hn
    have x1 : n < (o.procs.length : Int) := by omega
    have hk' : (l == ((o.procs[n.toNat]?).map (·.params)).getD []) = true := hk
    have hlq : l = q.params := by rw [hq] at hk'; simpa using hk'
    refine gom ?_
    refine WL.op (by kernel_rfl) (OW.callK rfl (sameTypes_fn G A QA l q.params cap qc hA hQ (by omega)) rfl fun v' G' H' h hg => ?_)
    obtain ⟨he, rfl, rfl⟩ := h
    cases he
    rw [decide_eq_true hlq]
    refine gom ?_
    refine WC.ret ?_
    refine WK.un ?_
    exact QF.p1 (.inl rfl) rfl (.tmp rfl) (⟨rfl, rfl, rfl⟩)
  · obtain ⟨q, hq⟩ : ∃ q, o.needs[n.toNat]? = some q := ⟨_, List.getElem?_eq_getElem (ho.outer rfl)⟩
    have hlt := (List.getElem?_eq_some_iff.1 hq).1
    obtain ⟨b, ofs, cs, rfl, hks, hcs⟩ := hO.needs n.toNat q hq
    obtain ⟨QA, qc, rfl, hQ⟩ := hks
    have x0 : (0 : Int) ≤ n := hn
    have x1 : n < (o.needs.length : Int) := by omega
    have hk' : (l == ((o.needs[n.toNat]?).map (·.params)).getD []) = true := hk
    have hlq : l = q.params := by rw [hq] at hk'; simpa using hk'
    refine gom ?_
    refine WL.op (by kernel_rfl) (OW.callK rfl (sameTypes_fn G A QA l q.params cap qc hA hQ (by omega)) rfl fun v' G' H' h hg => ?_)
    obtain ⟨he, rfl, rfl⟩ := h
    cases he
    rw [decide_eq_true hlq]
    refine gom ?_
    refine WC.ret ?_
    refine WK.un ?_
    exact QF.p1 (.inl rfl) rfl (.tmp rfl) (⟨rfl, rfl, rfl⟩)
  ·
    refine gom ?_
    refine WC.ret ?_
    refine WK.un ?_
    exact QF.p1 (.inl rfl) rfl (.tmp rfl) (⟨rfl, rfl, rfl⟩)
  · have h1 : (effC o.wd s.vars (12, n)).1 = 2 := by kernel_rfl
    rw [h1] at hl
    obtain ⟨x, y, rfl⟩ := listTwo hl
    have hk' : (x == y && x != 0) = true := hk
    have e0 : (x == y) = true := by revert hk'; cases (x == y) <;> simp
    have e1 : (x != 0) = true := by rw [e0] at hk'; simpa using hk'
    obtain ⟨ab, ao, rfl, hca⟩ := hA.whole (by simp)
    refine gom ?_
    refine WC.ret ?_
    refine WK.un ?_
    exact QF.p1 (.inl rfl) rfl (.tmp rfl) (⟨rfl, rfl, rfl⟩)
  · have h1 : (effC o.wd s.vars (13, n)).1 = 2 := by kernel_rfl
    rw [h1] at hl
    obtain ⟨x, y, rfl⟩ := listTwo hl
    have hk' : (x == y && x != 0) = true := hk
    have e0 : (x == y) = true := by revert hk'; cases (x == y) <;> simp
    have e1 : (x != 0) = true := by rw [e0] at hk'; simpa using hk'
    obtain ⟨ab, ao, rfl, hca⟩ := hA.whole (by simp)
    refine gom ?_
    refine WC.ret ?_
    refine WK.un ?_
    exact QF.p1 (.inl rfl) rfl (.tmp rfl) (⟨rfl, rfl, rfl⟩)
  · have h1 : (effC o.wd s.vars (14, n)).1 = 2 := by kernel_rfl
    rw [h1] at hl
    obtain ⟨x, y, rfl⟩ := listTwo hl
    have hk' : (allT 1 [x, y] || allT 3 [x, y]) = true := hk
    rw [Bool.or_eq_true] at hk'
    obtain ⟨ab, ao, rfl, hca⟩ := hA.whole (by simp)
    rcases hk' with hk' | hk'
    · obtain ⟨rfl, rfl⟩ := allT_two hk'
      refine gom ?_
      refine WC.ret ?_
      refine WK.un ?_
      exact QF.p1 (.inl rfl) rfl (.tmp rfl) (⟨rfl, rfl, rfl⟩)
    · obtain ⟨rfl, rfl⟩ := allT_two hk'
      refine gom ?_
      refine WC.ret ?_
      refine WK.un ?_
      exact QF.p1 (.inl rfl) rfl (.tmp rfl) (⟨rfl, rfl, rfl⟩)
  · have h1 : (effC o.wd s.vars (15, n)).1 = 2 := by kernel_rfl
    rw [h1] at hl
    obtain ⟨x, y, rfl⟩ := listTwo hl
    have hk' : (allT 1 [x, y] || allT 3 [x, y]) = true := hk
    rw [Bool.or_eq_true] at hk'
    obtain ⟨ab, ao, rfl, hca⟩ := hA.whole (by simp)
    rcases hk' with hk' | hk'
    · obtain ⟨rfl, rfl⟩ := allT_two hk'
      refine gom ?_
      refine WC.ret ?_
      refine WK.un ?_
      exact QF.p1 (.inl rfl) rfl (.tmp rfl) (⟨rfl, rfl, rfl⟩)
    · obtain ⟨rfl, rfl⟩ := allT_two hk'
      refine gom ?_
      refine WC.ret ?_
      refine WK.un ?_
      exact QF.p1 (.inl rfl) rfl (.tmp rfl) (⟨rfl, rfl, rfl⟩)
  · have h1 : (effC o.wd s.vars (16, n)).1 = 2 := by kernel_rfl
    rw [h1] at hl
    obtain ⟨x, y, rfl⟩ := listTwo hl
    have hk' : (allT 1 [x, y] || allT 3 [x, y]) = true := hk
    rw [Bool.or_eq_true] at hk'
    obtain ⟨ab, ao, rfl, hca⟩ := hA.whole (by simp)
    rcases hk' with hk' | hk'
    · obtain ⟨rfl, rfl⟩ := allT_two hk'
      refine gom ?_
      refine WC.ret ?_
      refine WK.un ?_
      exact QF.p1 (.inl rfl) rfl (.tmp rfl) (⟨rfl, rfl, rfl⟩)
    · obtain ⟨rfl, rfl⟩ := allT_two hk'
      refine gom ?_
      refine WC.ret ?_
      refine WK.un ?_
      exact QF.p1 (.inl rfl) rfl (.tmp rfl) (⟨rfl, rfl, rfl⟩)
  · have h1 : (effC o.wd s.vars (17, n)).1 = 2 := by kernel_rfl
    rw [h1] at hl
    obtain ⟨x, y, rfl⟩ := listTwo hl
    have hk' : (allT 1 [x, y] || allT 3 [x, y]) = true := hk
    rw [Bool.or_eq_true] at hk'
    obtain ⟨ab, ao, rfl, hca⟩ := hA.whole (by simp)
    rcases hk' with hk' | hk'
    · obtain ⟨rfl, rfl⟩ := allT_two hk'
      refine gom ?_
      refine WC.ret ?_
      refine WK.un ?_
      exact QF.p1 (.inl rfl) rfl (.tmp rfl) (⟨rfl, rfl, rfl⟩)
    · obtain ⟨rfl, rfl⟩ := allT_two hk'
      refine gom ?_
      refine WC.ret ?_
      refine WK.un ?_
      exact QF.p1 (.inl rfl) rfl (.tmp rfl) (⟨rfl, rfl, rfl⟩)
  · have h1 : (effC o.wd s.vars (18, n)).1 = 2 := by kernel_rfl
    rw [h1] at hl
    obtain ⟨x, y, rfl⟩ := listTwo hl
    have hk' : allT 1 [x, y] = true := hk
    obtain ⟨rfl, rfl⟩ := allT_two hk'
    obtain ⟨ab, ao, rfl, hca⟩ := hA.whole (by simp)
    refine gom ?_
    refine WC.ret ?_
    refine WK.un ?_
    exact QF.p1 (.inl rfl) rfl (.tmp rfl) (⟨rfl, rfl, rfl⟩)
  · have h1 : (effC o.wd s.vars (19, n)).1 = 2 := by kernel_rfl
    rw [h1] at hl
    obtain ⟨x, y, rfl⟩ := listTwo hl
    have hk' : allT 1 [x, y] = true := hk
    obtain ⟨rfl, rfl⟩ := allT_two hk'
    obtain ⟨ab, ao, rfl, hca⟩ := hA.whole (by simp)
    refine gom ?_
    refine WC.ret ?_
    refine WK.un ?_
    exact QF.p1 (.inl rfl) rfl (.tmp rfl) (⟨rfl, rfl, rfl⟩)
  · have h1 : (effC o.wd s.vars (20, n)).1 = 2 := by kernel_rfl
    rw [h1] at hl
    obtain ⟨x, y, rfl⟩ := listTwo hl
    have hk' : allT 3 [x, y] = true := hk
    obtain ⟨rfl, rfl⟩ := allT_two hk'
    obtain ⟨ab, ao, rfl, hca⟩ := hA.whole (by simp)
    refine gom ?_
    refine WC.ret ?_
    refine WK.un ?_
    exact QF.p1 (.inl rfl) rfl (.tmp rfl) (⟨rfl, rfl, rfl⟩)
  · have h1 : (effC o.wd s.vars (21, n)).1 = 2 := by kernel_rfl
    rw [h1] at hl
    obtain ⟨x, y, rfl⟩ := listTwo hl
    have hk' : allT 1 [x, y] = true := hk
    obtain ⟨rfl, rfl⟩ := allT_two hk'
    obtain ⟨ab, ao, rfl, hca⟩ := hA.whole (by simp)
    refine gom ?_
    refine WC.ret ?_
    refine WK.un ?_
    exact QF.p1 (.inl rfl) rfl (.tmp rfl) (⟨rfl, rfl, rfl⟩)
  · have h1 : (effC o.wd s.vars (22, n)).1 = 2 := by kernel_rfl
    rw [h1] at hl
    obtain ⟨x, y, rfl⟩ := listTwo hl
    have hk' : allT 1 [x, y] = true := hk
    obtain ⟨rfl, rfl⟩ := allT_two hk'
    obtain ⟨ab, ao, rfl, hca⟩ := hA.whole (by simp)
    refine gom ?_
    refine WC.ret ?_
    refine WK.un ?_
    exact QF.p1 (.inl rfl) rfl (.tmp rfl) (⟨rfl, rfl, rfl⟩)
  · have h1 : (effC o.wd s.vars (23, n)).1 = 2 := by kernel_rfl
    rw [h1] at hl
    obtain ⟨x, y, rfl⟩ := listTwo hl
    have hk' : allT 1 [x, y] = true := hk
    obtain ⟨rfl, rfl⟩ := allT_two hk'
    obtain ⟨ab, ao, rfl, hca⟩ := hA.whole (by simp)
    refine gom ?_
    refine WC.ret ?_
    refine WK.un ?_
    exact QF.p1 (.inl rfl) rfl (.tmp rfl) (⟨rfl, rfl, rfl⟩)
  · have h1 : (effC o.wd s.vars (24, n)).1 = 1 := by kernel_rfl
    rw [h1] at hl
    obtain ⟨x, rfl⟩ := list1 hl
    have hk' : allT 1 [x] = true := hk
    obtain rfl := allT_one hk'
    obtain ⟨ab, ao, rfl, hca⟩ := hA.whole (by simp)
    refine gom ?_
    refine WC.ret ?_
    refine WK.un ?_
    exact QF.p1 (.inl rfl) rfl (.tmp rfl) (⟨rfl, rfl, rfl⟩)
  · have h1 : (effC o.wd s.vars (25, n)).1 = 1 := by kernel_rfl
    rw [h1] at hl
    obtain ⟨x, rfl⟩ := list1 hl
    have hk' : allT 2 [x] = true := hk
    obtain rfl := allT_one hk'
    obtain ⟨ab, ao, rfl, hca⟩ := hA.whole (by simp)
    refine gom ?_
    refine WC.ret ?_
    refine WK.un ?_
    exact QF.p1 (.inl rfl) rfl (.tmp rfl) (⟨rfl, rfl, rfl⟩)
  · have h1 : (effC o.wd s.vars (26, n)).1 = 1 := by kernel_rfl
    rw [h1] at hl
    obtain ⟨x, rfl⟩ := list1 hl
    have hk' : allT 3 [x] = true := hk
    obtain rfl := allT_one hk'
    obtain ⟨ab, ao, rfl, hca⟩ := hA.whole (by simp)
    refine gom ?_
    refine WC.ret ?_
    refine WK.un ?_
    exact QF.p1 (.inl rfl) rfl (.tmp rfl) (⟨rfl, rfl, rfl⟩)
end Go.Proofs.YtkmigdmdppkpoaaGreatDoor.Gb
namespace Go.Proofs.YtkmigdmdppkpoaaGreatDoor.Gb
open Go Go.Proofs Go.MapKept
set_option linter.unusedVariables false
set_option linter.unusedSimpArgs false
set_option linter.unusedSectionVars false
def topV (st : List Int) : Int := (st[st.length - 1]?).getD 0
theorem topS_way (v st : List Int) : topS (wayS v st) = topV st := rfl
theorem varsR_way (i : Int × Int) (v st : List Int) : varsR i (wayS v st) = if i.1 = 3 then v.set i.2.toNat (topV st) else v := rfl
theorem top_drop {st : List Int} : ((st.drop (st.length - 1))[0]?).getD 0 = topV st := by rw [List.getElem?_drop]; rfl
attribute [local irreducible] Tryz.prog
theorem layR_1 (w : Wd) (v : List Int) (n : Int) : layR w v (1, n) = ((w.consts[n.toNat]?).map (·.t)).getD 0 := rfl
theorem layR_2 (w : Wd) (v : List Int) (n : Int) : layR w v (2, n) = (v[n.toNat]?).getD 0 := rfl
theorem layR_7 (w : Wd) (v : List Int) (n : Int) : layR w v (7, n) = ((w.procs[n.toNat]?).map (·.result)).getD 0 := rfl
theorem layR_8 (w : Wd) (v : List Int) (n : Int) : layR w v (8, n) = ((w.needs[n.toNat]?).map (·.result)).getD 0 := rfl
theorem effC_7 (w : Wd) (v : List Int) (n : Int) : effC w v (7, n) = ((w.procs[n.toNat]?).map fun p => hdE p.params p.result).getD (0, []) := rfl
theorem effC_8 (w : Wd) (v : List Int) (n : Int) : effC w v (8, n) = ((w.needs[n.toNat]?).map fun p => hdE p.params p.result).getD (0, []) := rfl
theorem kindsR_3 (w : Wd) (p : Pr) (s : SS) (n : Int) (l : List Int) : kindsR w p (3, n) s l = ((l[0]?).getD 0 != 0) := rfl
theorem kindsR_11 (w : Wd) (p : Pr) (s : SS) (n : Int) (l : List Int) : kindsR w p (11, n) s l = ((l[0]?).getD 0 != 0) := rfl
attribute [local irreducible] effC layR varsR kindsR rowC
section
variable (G : Gh) (o : Ob) (CA NA PA : Option Addr) (cc nc pc : Nat) (hO : ORep G o CA NA PA) (hL : OLim o) (p : Pr) (c n : Int) (v st : List Int) (VA SA : Option Addr) (vc sc : Nat)
include hO hL
set_option maxHeartbeats 8000000 in
set_option maxRecDepth 20000 in
theorem does_fn (hc : 1 ≤ c ∧ c ≤ 26) (h9 : c ≠ 9) (h10 : c ≠ 10) (hn : 0 ≤ n) (ho : EOk o.wd v.length c n.toNat) (hV : Sl (Kd.int .i64) G VA v) (hS : Sl (Kd.int .i64) G SA st) (hsc : st.length ≤ sc) (hvl : v.length ≤ 64) (hsl : st.length ≤ 128)
    (hk : kindsR o.wd p (c, n) (wayS v st) (st.drop (st.length - (effC o.wd v (c, n)).1)) = true) (hb : ¬ badS o.wd (c, n) (wayS v st)) (hlay : (effC o.wd v (c, n)).2 = if layR o.wd v (c, n) = 0 then [] else [layR o.wd v (c, n)]) :
    Fn Tryz.prog 21 #[.agg (obC o CA NA PA cc nc pc), .agg #[.slice VA v.length vc, .slice SA st.length sc], .agg #[.int .i64 c, .int .i64 n]] G [] fun e G' H' =>
      ∃ VB vb SB sb x y, e = .returned (.tuple #[.agg #[.slice VB (varsR (c, n) (wayS v st)).length vb, .slice SB (st.take (st.length - (effC o.wd v (c, n)).1) ++ (effC o.wd v (c, n)).2).length sb], .bool true]) ∧ G = G' ∧
        TVec VB (varsR (c, n) (wayS v st)) vb x ∧ TVec SB (st.take (st.length - (effC o.wd v (c, n)).1) ++ (effC o.wd v (c, n)).2) sb y ∧ H' = [x, y] := by
  have hnl := hL.nl
  have hpl := hL.pl
  have hcl := hL.cl
  have htk : (effC o.wd v (c, n)).1 ≤ st.length := Decidable.byContradiction fun h => hb (.inr (.inl (by show st.length < (effC o.wd v (c, n)).1; omega)))
  have hhi : st.length - (effC o.wd v (c, n)).1 + (effC o.wd v (c, n)).2.length ≤ 128 := Decidable.byContradiction fun h => hb (.inr (.inr (by show 128 < st.length - (effC o.wd v (c, n)).1 + (effC o.wd v (c, n)).2.length; omega)))
  have hkT := ltyped_fn G o CA NA PA cc nc pc hO hL p (wayS v st) c n v.length
  clear hb
  refine Fn.enter Tryz.func21 rfl rfl fun w0 => ?_
  refine WC.seq ?_
  refine WC.region ?_
  refine WL.op (by kernel_rfl) (OW.box rfl rfl fun b3 => ?_)
  refine WL.op (by kernel_rfl) (OW.box rfl rfl fun b4 => ?_)
  refine WL.op (by kernel_rfl) (OW.box rfl rfl fun b5 => ?_)
  refine WL.op (by kernel_rfl) (OW.alloc rfl fun b6 => ?_)
  refine gom ?_
  refine WL.op (by kernel_rfl) (OW.buildSlice rfl (by kernel_rfl) (by kernel_rfl) (by rfl) rfl fun b14 => ?_)
  refine gom ?_
  refine WL.op (by kernel_rfl) (OW.append rfl rfl (by kernel_rfl) (by kernel_rfl) (Vec.empty (T := 42) (sz := 1) rfl) (by (repeat first | exact .here | apply At.there)) hV.ints (ints_length _) (ints_one _) (by first | omega | (dsimp only; omega)) (by first | omega | (dsimp only; omega)) rfl fun A1 c1 o1 hv1 => ?_)
  have h1 : TVec A1 v c1 o1 := by
    have e : 0 + v.length = v.length := Nat.zero_add _
    unfold TVec IVec
    rw [← e]; exact hv1
  rw [show 0 + v.length = v.length from Nat.zero_add _]
  refine go ?_
  refine WC.joinG (X := Unit) (fun _ => [(3, .pointer (some ⟨b3, 0, none⟩)), (4, .pointer (some ⟨b4, 0, none⟩)), (5, .pointer (some ⟨b5, 0, none⟩)), (6, .pointer (some ⟨b6, 0, none⟩)), (8, .slice A1 v.length c1), (9, .int .i64 (topV st))]) (fun _ => G) (fun _ => [o1, .blk b6 (.cells #[.slice none 0 0, .slice none 0 0] 47 (0, 0)), .blk b5 (.cells #[.int .i64 c, .int .i64 n] 50 (0, 0)), .blk b4 (.cells #[.slice VA v.length vc, .slice SA st.length sc] 47 (0, 0)), .blk b3 (.cells (obC o CA NA PA cc nc pc) 26 (0, 0))]) (fun _ => True) ?_ fun _ _ => ?_
  · by_cases h0 : 0 < st.length
    · have e1 : decide ((0 : Int) < (st.length : Int)) = true := decide_eq_true (by omega)
      have x3 : IntKind.i64.wrap ((st.length : Int) - 1) = ((st.length - 1 : Nat) : Int) := by rw [wrapI (by omega) (by omega)]; omega
      obtain ⟨z, hz⟩ : ∃ z, st[st.length - 1]? = some z := ⟨_, List.getElem?_eq_getElem (by omega)⟩
      have ht : topV st = z := by unfold topV; rw [hz]; rfl
      obtain ⟨zb, zo, rfl, hzc⟩ := hS.at hz
      have z0 : (0 : Int) ≤ ((st.length - 1 : Nat) : Int) := by omega
      have z1 : ((st.length - 1 : Nat) : Int) < (st.length : Int) := by omega
      rw [e1]
      refine gom ?_
      refine WK.pick [o1, .blk b6 (.cells #[.slice none 0 0, .slice none 0 0] 47 (0, 0)), .blk b5 (.cells #[.int .i64 c, .int .i64 n] 50 (0, 0)), .blk b4 (.cells #[.slice VA v.length vc, .slice (some ⟨zb, zo, none⟩) st.length sc] 47 (0, 0)), .blk b3 (.cells (obC o CA NA PA cc nc pc) 26 (0, 0))] ?_
      exact WK.meet () (by exact trivial) (by exact ⟨rfl, rfl, rfl, rfl, rfl, by rw [ht]; rfl, trivial⟩) rfl (List.Sublist.refl _)
    · have e1 : decide ((0 : Int) < (st.length : Int)) = false := decide_eq_false (by omega)
      have ht : topV st = 0 := by
        have : st = [] := List.eq_nil_of_length_eq_zero (by omega)
        subst this; rfl
      rw [e1]
      refine gom ?_
      refine WK.pick [o1, .blk b6 (.cells #[.slice none 0 0, .slice none 0 0] 47 (0, 0)), .blk b5 (.cells #[.int .i64 c, .int .i64 n] 50 (0, 0)), .blk b4 (.cells #[.slice VA v.length vc, .slice SA st.length sc] 47 (0, 0)), .blk b3 (.cells (obC o CA NA PA cc nc pc) 26 (0, 0))] ?_
      exact WK.meet () (by exact trivial) (by exact ⟨rfl, rfl, rfl, rfl, rfl, by rw [ht]; rfl, trivial⟩) rfl (List.Sublist.refl _)
  refine WC.seq ?_
  refine WC.region ?_
  refine WL.p (Gp.assign rfl) (by kernel_rfl) rfl ?_
  refine WL.p (Gp.assign rfl) (by kernel_rfl) rfl ?_
  refine WL.nil ?_
  refine WK.un ?_
  refine WC.join (X := Unit) (fun _ => [(3, .pointer (some ⟨b3, 0, none⟩)), (4, .pointer (some ⟨b4, 0, none⟩)), (5, .pointer (some ⟨b5, 0, none⟩)), (6, .pointer (some ⟨b6, 0, none⟩)), (8, .slice A1 v.length c1), (9, .int .i64 (topV st)), (10, .int .i64 (layR o.wd v (c, n))), (11, .int .i64 ((effC o.wd v (c, n)).1 : Int))]) (fun _ => G) (fun _ => [o1, .blk b6 (.cells #[.slice none 0 0, .slice none 0 0] 47 (0, 0)), .blk b5 (.cells #[.int .i64 c, .int .i64 n] 50 (0, 0)), .blk b4 (.cells #[.slice VA v.length vc, .slice SA st.length sc] 47 (0, 0)), .blk b3 (.cells (obC o CA NA PA cc nc pc) 26 (0, 0))]) (fun _ => True) ?_ fun _ _ => ?_
  · obtain ⟨ly, hly⟩ : ∃ ly, ly = layR o.wd v (c, n) := ⟨_, rfl⟩
    obtain ⟨tk, htke⟩ : ∃ tk, tk = (effC o.wd v (c, n)).1 := ⟨_, rfl⟩
    rw [← hly, ← htke]
    clear hkT hk hlay hhi htk hv1
    have hcc : c = 1 ∨ c = 2 ∨ c = 3 ∨ c = 4 ∨ c = 5 ∨ c = 6 ∨ c = 7 ∨ c = 8 ∨ c = 11 ∨ c = 12 ∨ c = 13 ∨ c = 14 ∨ c = 15 ∨ c = 16 ∨ c = 17 ∨ c = 18 ∨ c = 19 ∨ c = 20 ∨ c = 21 ∨ c = 22 ∨ c = 23 ∨ c = 24 ∨ c = 25 ∨ c = 26 := by omega
    rcases hcc with rfl | rfl | rfl | rfl | rfl | rfl | rfl | rfl | rfl | rfl | rfl | rfl | rfl | rfl | rfl | rfl | rfl | rfl | rfl | rfl | rfl | rfl | rfl | rfl
    · obtain ⟨q, hq⟩ : ∃ q, o.consts[n.toNat]? = some q := ⟨_, List.getElem?_eq_getElem (ho.const rfl)⟩
      have hlt := (List.getElem?_eq_some_iff.1 hq).1
      obtain ⟨b, ofs, cs, rfl, hks, hcs⟩ := hO.consts n.toNat q hq
      obtain rfl : cs = vcells q := hks
      have x0 : (0 : Int) ≤ n := hn
      have x1 : n < (o.consts.length : Int) := by omega
      have e1 : layR o.wd v (1, n) = q.t := by
        rw [layR_1]
        show ((o.consts[n.toNat]?).map (·.t)).getD 0 = q.t
        rw [hq]; rfl
      have e2 : (effC o.wd v (1, n)).1 = 0 := by kernel_rfl
      rw [e1] at hly
      rw [e2] at htke
      subst hly htke
      refine gom ?_
      refine WK.pick [o1, .blk b6 (.cells #[.slice none 0 0, .slice none 0 0] 47 (0, 0)), .blk b5 (.cells #[.int .i64 1, .int .i64 n] 50 (0, 0)), .blk b4 (.cells #[.slice VA v.length vc, .slice SA st.length sc] 47 (0, 0)), .blk b3 (.cells (obC o (some ⟨b, ofs, none⟩) NA PA cc nc pc) 26 (0, 0))] ?_
      exact WK.meet () (by exact trivial) (by exact ⟨rfl, rfl, rfl, rfl, rfl, rfl, rfl, rfl, trivial⟩) rfl (List.Sublist.refl _)
    · have hlt := ho.load rfl
      obtain ⟨z, hz⟩ : ∃ z, v[n.toNat]? = some z := ⟨_, List.getElem?_eq_getElem hlt⟩
      obtain ⟨vb, vcc, rfl, rfl, hvt⟩ := h1.some (by omega)
      have hget := ivec_get hvt hz
      have hget' : vcc[0 + n.toNat * 1]? = some (.int .i64 z) := by rw [Nat.mul_one, Nat.zero_add]; exact hget
      have x0 : (0 : Int) ≤ n := hn
      have x1 : n < (v.length : Int) := by omega
      have e1 : layR o.wd v (2, n) = z := by
        rw [layR_2, hz]; rfl
      have e2 : (effC o.wd v (2, n)).1 = 0 := by kernel_rfl
      rw [e1] at hly
      rw [e2] at htke
      subst hly htke
      refine gom ?_
      refine WK.pick [.blk vb (.cells vcc 42 (0, 0)), .blk b6 (.cells #[.slice none 0 0, .slice none 0 0] 47 (0, 0)), .blk b5 (.cells #[.int .i64 2, .int .i64 n] 50 (0, 0)), .blk b4 (.cells #[.slice VA v.length vc, .slice SA st.length sc] 47 (0, 0)), .blk b3 (.cells (obC o CA NA PA cc nc pc) 26 (0, 0))] ?_
      exact WK.meet () (by exact trivial) (by exact ⟨rfl, rfl, rfl, rfl, rfl, rfl, rfl, rfl, trivial⟩) rfl (List.Sublist.refl _)
    · have e1 : layR o.wd v (3, n) = 0 := by kernel_rfl
      have e2 : (effC o.wd v (3, n)).1 = 1 := by kernel_rfl
      rw [e1] at hly
      rw [e2] at htke
      subst hly htke
      refine gom ?_
      refine WK.pick [o1, .blk b6 (.cells #[.slice none 0 0, .slice none 0 0] 47 (0, 0)), .blk b5 (.cells #[.int .i64 3, .int .i64 n] 50 (0, 0)), .blk b4 (.cells #[.slice VA v.length vc, .slice SA st.length sc] 47 (0, 0)), .blk b3 (.cells (obC o CA NA PA cc nc pc) 26 (0, 0))] ?_
      exact WK.meet () (by exact trivial) (by exact ⟨rfl, rfl, rfl, rfl, rfl, rfl, rfl, rfl, trivial⟩) rfl (List.Sublist.refl _)
    · have e1 : layR o.wd v (4, n) = 0 := by kernel_rfl
      have e2 : (effC o.wd v (4, n)).1 = 1 := by kernel_rfl
      rw [e1] at hly
      rw [e2] at htke
      subst hly htke
      refine gom ?_
      refine WK.pick [o1, .blk b6 (.cells #[.slice none 0 0, .slice none 0 0] 47 (0, 0)), .blk b5 (.cells #[.int .i64 4, .int .i64 n] 50 (0, 0)), .blk b4 (.cells #[.slice VA v.length vc, .slice SA st.length sc] 47 (0, 0)), .blk b3 (.cells (obC o CA NA PA cc nc pc) 26 (0, 0))] ?_
      exact WK.meet () (by exact trivial) (by exact ⟨rfl, rfl, rfl, rfl, rfl, rfl, rfl, rfl, trivial⟩) rfl (List.Sublist.refl _)
    · have e1 : layR o.wd v (5, n) = 0 := by kernel_rfl
      have e2 : (effC o.wd v (5, n)).1 = 0 := by kernel_rfl
      rw [e1] at hly
      rw [e2] at htke
      subst hly htke
      refine gom ?_
      refine WK.pick [o1, .blk b6 (.cells #[.slice none 0 0, .slice none 0 0] 47 (0, 0)), .blk b5 (.cells #[.int .i64 5, .int .i64 n] 50 (0, 0)), .blk b4 (.cells #[.slice VA v.length vc, .slice SA st.length sc] 47 (0, 0)), .blk b3 (.cells (obC o CA NA PA cc nc pc) 26 (0, 0))] ?_
      exact WK.meet () (by exact trivial) (by exact ⟨rfl, rfl, rfl, rfl, rfl, rfl, rfl, rfl, trivial⟩) rfl (List.Sublist.refl _)
    · have e1 : layR o.wd v (6, n) = 0 := by kernel_rfl
      have e2 : (effC o.wd v (6, n)).1 = 1 := by kernel_rfl
      rw [e1] at hly
      rw [e2] at htke
      subst hly htke
      refine gom ?_
      refine WK.pick [o1, .blk b6 (.cells #[.slice none 0 0, .slice none 0 0] 47 (0, 0)), .blk b5 (.cells #[.int .i64 6, .int .i64 n] 50 (0, 0)), .blk b4 (.cells #[.slice VA v.length vc, .slice SA st.length sc] 47 (0, 0)), .blk b3 (.cells (obC o CA NA PA cc nc pc) 26 (0, 0))] ?_
      exact WK.meet () (by exact trivial) (by exact ⟨rfl, rfl, rfl, rfl, rfl, rfl, rfl, rfl, trivial⟩) rfl (List.Sublist.refl _)
    · obtain ⟨q, hq⟩ : ∃ q, o.procs[n.toNat]? = some q := ⟨_, List.getElem?_eq_getElem (ho.call rfl)⟩
      have hlt := (List.getElem?_eq_some_iff.1 hq).1
      obtain ⟨b, ofs, cs, rfl, hks, hcs⟩ := hO.procs n.toNat q hq
      obtain ⟨QA, qc, IA, ic, rfl, hQ, hI⟩ := hks
      have x0 : (0 : Int) ≤ n := hn
      have x1 : n < (o.procs.length : Int) := by omega
      have e1 : layR o.wd v (7, n) = q.result := by
        rw [layR_7]
        show ((o.procs[n.toNat]?).map (·.result)).getD 0 = q.result
        rw [hq]; rfl
      have e2 : (effC o.wd v (7, n)).1 = q.params.length := by
        rw [effC_7]
        show (((o.procs[n.toNat]?).map fun p => hdE p.params p.result).getD (0, [])).1 = q.params.length
        rw [hq]; rfl
      rw [e1] at hly
      rw [e2] at htke
      subst hly htke
      refine gom ?_
      refine WK.pick [o1, .blk b6 (.cells #[.slice none 0 0, .slice none 0 0] 47 (0, 0)), .blk b5 (.cells #[.int .i64 7, .int .i64 n] 50 (0, 0)), .blk b4 (.cells #[.slice VA v.length vc, .slice SA st.length sc] 47 (0, 0)), .blk b3 (.cells (obC o CA NA (some ⟨b, ofs, none⟩) cc nc pc) 26 (0, 0))] ?_
      exact WK.meet () (by exact trivial) (by exact ⟨rfl, rfl, rfl, rfl, rfl, rfl, rfl, rfl, trivial⟩) rfl (List.Sublist.refl _)
    · obtain ⟨q, hq⟩ : ∃ q, o.needs[n.toNat]? = some q := ⟨_, List.getElem?_eq_getElem (ho.outer rfl)⟩
      have hlt := (List.getElem?_eq_some_iff.1 hq).1
      obtain ⟨b, ofs, cs, rfl, hks, hcs⟩ := hO.needs n.toNat q hq
      obtain ⟨QA, qc, rfl, hQ⟩ := hks
      have x0 : (0 : Int) ≤ n := hn
      have x1 : n < (o.needs.length : Int) := by omega
      have e1 : layR o.wd v (8, n) = q.result := by
        rw [layR_8]
        show ((o.needs[n.toNat]?).map (·.result)).getD 0 = q.result
        rw [hq]; rfl
      have e2 : (effC o.wd v (8, n)).1 = q.params.length := by
        rw [effC_8]
        show (((o.needs[n.toNat]?).map fun p => hdE p.params p.result).getD (0, [])).1 = q.params.length
        rw [hq]; rfl
      rw [e1] at hly
      rw [e2] at htke
      subst hly htke
      refine gom ?_
      refine WK.pick [o1, .blk b6 (.cells #[.slice none 0 0, .slice none 0 0] 47 (0, 0)), .blk b5 (.cells #[.int .i64 8, .int .i64 n] 50 (0, 0)), .blk b4 (.cells #[.slice VA v.length vc, .slice SA st.length sc] 47 (0, 0)), .blk b3 (.cells (obC o CA (some ⟨b, ofs, none⟩) PA cc nc pc) 26 (0, 0))] ?_
      exact WK.meet () (by exact trivial) (by exact ⟨rfl, rfl, rfl, rfl, rfl, rfl, rfl, rfl, trivial⟩) rfl (List.Sublist.refl _)
    · have e1 : layR o.wd v (11, n) = 0 := by kernel_rfl
      have e2 : (effC o.wd v (11, n)).1 = 1 := by kernel_rfl
      rw [e1] at hly
      rw [e2] at htke
      subst hly htke
      refine gom ?_
      refine WK.pick [o1, .blk b6 (.cells #[.slice none 0 0, .slice none 0 0] 47 (0, 0)), .blk b5 (.cells #[.int .i64 11, .int .i64 n] 50 (0, 0)), .blk b4 (.cells #[.slice VA v.length vc, .slice SA st.length sc] 47 (0, 0)), .blk b3 (.cells (obC o CA NA PA cc nc pc) 26 (0, 0))] ?_
      exact WK.meet () (by exact trivial) (by exact ⟨rfl, rfl, rfl, rfl, rfl, rfl, rfl, rfl, trivial⟩) rfl (List.Sublist.refl _)
    · have e1 : layR o.wd v (12, n) = 2 := by kernel_rfl
      have e2 : (effC o.wd v (12, n)).1 = 2 := by kernel_rfl
      rw [e1] at hly
      rw [e2] at htke
      subst hly htke
      refine gom ?_
      refine WK.pick [o1, .blk b6 (.cells #[.slice none 0 0, .slice none 0 0] 47 (0, 0)), .blk b5 (.cells #[.int .i64 12, .int .i64 n] 50 (0, 0)), .blk b4 (.cells #[.slice VA v.length vc, .slice SA st.length sc] 47 (0, 0)), .blk b3 (.cells (obC o CA NA PA cc nc pc) 26 (0, 0))] ?_
      exact WK.meet () (by exact trivial) (by exact ⟨rfl, rfl, rfl, rfl, rfl, rfl, rfl, rfl, trivial⟩) rfl (List.Sublist.refl _)
    · have e1 : layR o.wd v (13, n) = 2 := by kernel_rfl
      have e2 : (effC o.wd v (13, n)).1 = 2 := by kernel_rfl
      rw [e1] at hly
      rw [e2] at htke
      subst hly htke
      refine gom ?_
      refine WK.pick [o1, .blk b6 (.cells #[.slice none 0 0, .slice none 0 0] 47 (0, 0)), .blk b5 (.cells #[.int .i64 13, .int .i64 n] 50 (0, 0)), .blk b4 (.cells #[.slice VA v.length vc, .slice SA st.length sc] 47 (0, 0)), .blk b3 (.cells (obC o CA NA PA cc nc pc) 26 (0, 0))] ?_
      exact WK.meet () (by exact trivial) (by exact ⟨rfl, rfl, rfl, rfl, rfl, rfl, rfl, rfl, trivial⟩) rfl (List.Sublist.refl _)
    · have e1 : layR o.wd v (14, n) = 2 := by kernel_rfl
      have e2 : (effC o.wd v (14, n)).1 = 2 := by kernel_rfl
      rw [e1] at hly
      rw [e2] at htke
      subst hly htke
      refine gom ?_
      refine WK.pick [o1, .blk b6 (.cells #[.slice none 0 0, .slice none 0 0] 47 (0, 0)), .blk b5 (.cells #[.int .i64 14, .int .i64 n] 50 (0, 0)), .blk b4 (.cells #[.slice VA v.length vc, .slice SA st.length sc] 47 (0, 0)), .blk b3 (.cells (obC o CA NA PA cc nc pc) 26 (0, 0))] ?_
      exact WK.meet () (by exact trivial) (by exact ⟨rfl, rfl, rfl, rfl, rfl, rfl, rfl, rfl, trivial⟩) rfl (List.Sublist.refl _)
    · have e1 : layR o.wd v (15, n) = 2 := by kernel_rfl
      have e2 : (effC o.wd v (15, n)).1 = 2 := by kernel_rfl
      rw [e1] at hly
      rw [e2] at htke
      subst hly htke
      refine gom ?_
      refine WK.pick [o1, .blk b6 (.cells #[.slice none 0 0, .slice none 0 0] 47 (0, 0)), .blk b5 (.cells #[.int .i64 15, .int .i64 n] 50 (0, 0)), .blk b4 (.cells #[.slice VA v.length vc, .slice SA st.length sc] 47 (0, 0)), .blk b3 (.cells (obC o CA NA PA cc nc pc) 26 (0, 0))] ?_
      exact WK.meet () (by exact trivial) (by exact ⟨rfl, rfl, rfl, rfl, rfl, rfl, rfl, rfl, trivial⟩) rfl (List.Sublist.refl _)
    · have e1 : layR o.wd v (16, n) = 2 := by kernel_rfl
      have e2 : (effC o.wd v (16, n)).1 = 2 := by kernel_rfl
      rw [e1] at hly
      rw [e2] at htke
      subst hly htke
      refine gom ?_
      refine WK.pick [o1, .blk b6 (.cells #[.slice none 0 0, .slice none 0 0] 47 (0, 0)), .blk b5 (.cells #[.int .i64 16, .int .i64 n] 50 (0, 0)), .blk b4 (.cells #[.slice VA v.length vc, .slice SA st.length sc] 47 (0, 0)), .blk b3 (.cells (obC o CA NA PA cc nc pc) 26 (0, 0))] ?_
      exact WK.meet () (by exact trivial) (by exact ⟨rfl, rfl, rfl, rfl, rfl, rfl, rfl, rfl, trivial⟩) rfl (List.Sublist.refl _)
    · have e1 : layR o.wd v (17, n) = 2 := by kernel_rfl
      have e2 : (effC o.wd v (17, n)).1 = 2 := by kernel_rfl
      rw [e1] at hly
      rw [e2] at htke
      subst hly htke
      refine gom ?_
      refine WK.pick [o1, .blk b6 (.cells #[.slice none 0 0, .slice none 0 0] 47 (0, 0)), .blk b5 (.cells #[.int .i64 17, .int .i64 n] 50 (0, 0)), .blk b4 (.cells #[.slice VA v.length vc, .slice SA st.length sc] 47 (0, 0)), .blk b3 (.cells (obC o CA NA PA cc nc pc) 26 (0, 0))] ?_
      exact WK.meet () (by exact trivial) (by exact ⟨rfl, rfl, rfl, rfl, rfl, rfl, rfl, rfl, trivial⟩) rfl (List.Sublist.refl _)
    · have e1 : layR o.wd v (18, n) = 1 := by kernel_rfl
      have e2 : (effC o.wd v (18, n)).1 = 2 := by kernel_rfl
      rw [e1] at hly
      rw [e2] at htke
      subst hly htke
      refine gom ?_
      refine WK.pick [o1, .blk b6 (.cells #[.slice none 0 0, .slice none 0 0] 47 (0, 0)), .blk b5 (.cells #[.int .i64 18, .int .i64 n] 50 (0, 0)), .blk b4 (.cells #[.slice VA v.length vc, .slice SA st.length sc] 47 (0, 0)), .blk b3 (.cells (obC o CA NA PA cc nc pc) 26 (0, 0))] ?_
      exact WK.meet () (by exact trivial) (by exact ⟨rfl, rfl, rfl, rfl, rfl, rfl, rfl, rfl, trivial⟩) rfl (List.Sublist.refl _)
    · have e1 : layR o.wd v (19, n) = 1 := by kernel_rfl
      have e2 : (effC o.wd v (19, n)).1 = 2 := by kernel_rfl
      rw [e1] at hly
      rw [e2] at htke
      subst hly htke
      refine gom ?_
      refine WK.pick [o1, .blk b6 (.cells #[.slice none 0 0, .slice none 0 0] 47 (0, 0)), .blk b5 (.cells #[.int .i64 19, .int .i64 n] 50 (0, 0)), .blk b4 (.cells #[.slice VA v.length vc, .slice SA st.length sc] 47 (0, 0)), .blk b3 (.cells (obC o CA NA PA cc nc pc) 26 (0, 0))] ?_
      exact WK.meet () (by exact trivial) (by exact ⟨rfl, rfl, rfl, rfl, rfl, rfl, rfl, rfl, trivial⟩) rfl (List.Sublist.refl _)
    · have e1 : layR o.wd v (20, n) = 3 := by kernel_rfl
      have e2 : (effC o.wd v (20, n)).1 = 2 := by kernel_rfl
      rw [e1] at hly
      rw [e2] at htke
      subst hly htke
      refine gom ?_
      refine WK.pick [o1, .blk b6 (.cells #[.slice none 0 0, .slice none 0 0] 47 (0, 0)), .blk b5 (.cells #[.int .i64 20, .int .i64 n] 50 (0, 0)), .blk b4 (.cells #[.slice VA v.length vc, .slice SA st.length sc] 47 (0, 0)), .blk b3 (.cells (obC o CA NA PA cc nc pc) 26 (0, 0))] ?_
      exact WK.meet () (by exact trivial) (by exact ⟨rfl, rfl, rfl, rfl, rfl, rfl, rfl, rfl, trivial⟩) rfl (List.Sublist.refl _)
    · have e1 : layR o.wd v (21, n) = 1 := by kernel_rfl
      have e2 : (effC o.wd v (21, n)).1 = 2 := by kernel_rfl
      rw [e1] at hly
      rw [e2] at htke
      subst hly htke
      refine gom ?_
      refine WK.pick [o1, .blk b6 (.cells #[.slice none 0 0, .slice none 0 0] 47 (0, 0)), .blk b5 (.cells #[.int .i64 21, .int .i64 n] 50 (0, 0)), .blk b4 (.cells #[.slice VA v.length vc, .slice SA st.length sc] 47 (0, 0)), .blk b3 (.cells (obC o CA NA PA cc nc pc) 26 (0, 0))] ?_
      exact WK.meet () (by exact trivial) (by exact ⟨rfl, rfl, rfl, rfl, rfl, rfl, rfl, rfl, trivial⟩) rfl (List.Sublist.refl _)
    · have e1 : layR o.wd v (22, n) = 1 := by kernel_rfl
      have e2 : (effC o.wd v (22, n)).1 = 2 := by kernel_rfl
      rw [e1] at hly
      rw [e2] at htke
      subst hly htke
      refine gom ?_
      refine WK.pick [o1, .blk b6 (.cells #[.slice none 0 0, .slice none 0 0] 47 (0, 0)), .blk b5 (.cells #[.int .i64 22, .int .i64 n] 50 (0, 0)), .blk b4 (.cells #[.slice VA v.length vc, .slice SA st.length sc] 47 (0, 0)), .blk b3 (.cells (obC o CA NA PA cc nc pc) 26 (0, 0))] ?_
      exact WK.meet () (by exact trivial) (by exact ⟨rfl, rfl, rfl, rfl, rfl, rfl, rfl, rfl, trivial⟩) rfl (List.Sublist.refl _)
    · have e1 : layR o.wd v (23, n) = 1 := by kernel_rfl
      have e2 : (effC o.wd v (23, n)).1 = 2 := by kernel_rfl
      rw [e1] at hly
      rw [e2] at htke
      subst hly htke
      refine gom ?_
      refine WK.pick [o1, .blk b6 (.cells #[.slice none 0 0, .slice none 0 0] 47 (0, 0)), .blk b5 (.cells #[.int .i64 23, .int .i64 n] 50 (0, 0)), .blk b4 (.cells #[.slice VA v.length vc, .slice SA st.length sc] 47 (0, 0)), .blk b3 (.cells (obC o CA NA PA cc nc pc) 26 (0, 0))] ?_
      exact WK.meet () (by exact trivial) (by exact ⟨rfl, rfl, rfl, rfl, rfl, rfl, rfl, rfl, trivial⟩) rfl (List.Sublist.refl _)
    · have e1 : layR o.wd v (24, n) = 1 := by kernel_rfl
      have e2 : (effC o.wd v (24, n)).1 = 1 := by kernel_rfl
      rw [e1] at hly
      rw [e2] at htke
      subst hly htke
      refine gom ?_
      refine WK.pick [o1, .blk b6 (.cells #[.slice none 0 0, .slice none 0 0] 47 (0, 0)), .blk b5 (.cells #[.int .i64 24, .int .i64 n] 50 (0, 0)), .blk b4 (.cells #[.slice VA v.length vc, .slice SA st.length sc] 47 (0, 0)), .blk b3 (.cells (obC o CA NA PA cc nc pc) 26 (0, 0))] ?_
      exact WK.meet () (by exact trivial) (by exact ⟨rfl, rfl, rfl, rfl, rfl, rfl, rfl, rfl, trivial⟩) rfl (List.Sublist.refl _)
    · have e1 : layR o.wd v (25, n) = 2 := by kernel_rfl
      have e2 : (effC o.wd v (25, n)).1 = 1 := by kernel_rfl
      rw [e1] at hly
      rw [e2] at htke
      subst hly htke
      refine gom ?_
      refine WK.pick [o1, .blk b6 (.cells #[.slice none 0 0, .slice none 0 0] 47 (0, 0)), .blk b5 (.cells #[.int .i64 25, .int .i64 n] 50 (0, 0)), .blk b4 (.cells #[.slice VA v.length vc, .slice SA st.length sc] 47 (0, 0)), .blk b3 (.cells (obC o CA NA PA cc nc pc) 26 (0, 0))] ?_
      exact WK.meet () (by exact trivial) (by exact ⟨rfl, rfl, rfl, rfl, rfl, rfl, rfl, rfl, trivial⟩) rfl (List.Sublist.refl _)
    · have e1 : layR o.wd v (26, n) = 1 := by kernel_rfl
      have e2 : (effC o.wd v (26, n)).1 = 1 := by kernel_rfl
      rw [e1] at hly
      rw [e2] at htke
      subst hly htke
      refine gom ?_
      refine WK.pick [o1, .blk b6 (.cells #[.slice none 0 0, .slice none 0 0] 47 (0, 0)), .blk b5 (.cells #[.int .i64 26, .int .i64 n] 50 (0, 0)), .blk b4 (.cells #[.slice VA v.length vc, .slice SA st.length sc] 47 (0, 0)), .blk b3 (.cells (obC o CA NA PA cc nc pc) 26 (0, 0))] ?_
      exact WK.meet () (by exact trivial) (by exact ⟨rfl, rfl, rfl, rfl, rfl, rfl, rfl, rfl, trivial⟩) rfl (List.Sublist.refl _)
  obtain ⟨ly, hly⟩ : ∃ ly, ly = layR o.wd v (c, n) := ⟨_, rfl⟩
  obtain ⟨tk, htke⟩ : ∃ tk, tk = (effC o.wd v (c, n)).1 := ⟨_, rfl⟩
  rw [← hly] at hlay ⊢
  rw [hlay] at hhi ⊢
  rw [← htke] at htk hhi hk ⊢
  have x3 : IntKind.i64.wrap ((st.length : Int) - (tk : Int)) = ((st.length - tk : Nat) : Int) := by rw [wrapI (by omega) (by omega)]; omega
  have hdl : (st.drop (st.length - tk)).length = tk := by rw [List.length_drop]; omega
  have hdl' : (st.drop (st.length - tk)).length = (effC o.wd (wayS v st).vars (c, n)).1 := by rw [hdl]; exact htke
  have hsll : (st.take (st.length - tk)).length = st.length - tk := by rw [List.length_take]; omega
  refine gom ?_
  refine WL.op (by kernel_rfl) (OW.callK rfl (pops_fn G VA SA v st vc sc tk hS hsc htk (by omega)) rfl fun v' G' H' h hg => ?_)
  obtain ⟨TB, tb, y, he, rfl, hy, rfl⟩ := h
  cases he
  refine WL.p (Gp.move rfl) (by kernel_rfl) rfl ?_
  refine WL.p (Gp.extract rfl rfl) (by kernel_rfl) rfl ?_
  refine WL.p (Gp.extract rfl rfl) (by kernel_rfl) rfl ?_
  refine WL.op (by kernel_rfl) (OW.alloc rfl fun b12 => ?_)
  refine go ?_
  refine WC.pick [o1, y, .blk b12 (.cells #[.slice VA v.length vc, .slice TB (st.take (st.length - tk)).length tb] 47 (0, 0)), .blk b6 (.cells #[.slice none 0 0, .slice none 0 0] 47 (0, 0)), .blk b5 (.cells #[.int .i64 c, .int .i64 n] 50 (0, 0)), .blk b4 (.cells #[.slice VA v.length vc, .slice SA st.length sc] 47 (0, 0)), .blk b3 (.cells (obC o CA NA PA cc nc pc) 26 (0, 0))] ?_
  refine WC.drawS (Hs := [.blk b5 (.cells #[.int .i64 c, .int .i64 n] 50 (0, 0)), .blk b4 (.cells #[.slice VA v.length vc, .slice SA st.length sc] 47 (0, 0)), .blk b3 (.cells (obC o CA NA PA cc nc pc) 26 (0, 0))]) mixed (by repeat (first | exact Pk.nil | exact Pk.all | exact Pk.app | exact Pk.appR | with_reducible apply Pk.na | (apply Pk.cons; (repeat first | exact .here | apply Rem.there | apply Rem.app)) | apply Pk.skip | apply Pk.skipA)) ?_
  refine WB.tp (i := 0) rfl (by kernel_rfl) (by kernel_rfl) rfl (Gp.move rfl) ?_
  refine WB.tp (i := 1) rfl (by kernel_rfl) (by kernel_rfl) rfl (Gp.move rfl) ?_
  (first | (refine WB.tv (i := 2) rfl (by kernel_rfl) (by kernel_rfl) rfl (Gv.load1 rfl (by (repeat first | exact .here | apply At.there)) (by first | rfl | assumption)) ?_) | (refine WB.tv (i := 2) rfl (by kernel_rfl) (by kernel_rfl) rfl (Gv.loadN rfl (by (repeat first | exact .here | apply At.there)) (by rfl) (by rfl)) ?_) | (refine WB.tv (i := 2) rfl (by kernel_rfl) (by kernel_rfl) rfl (Gv.loadG1 rfl (by assumption) rfl) ?_) | (refine WB.tv (i := 2) rfl (by kernel_rfl) (by kernel_rfl) rfl (Gv.loadG0 rfl (by assumption) rfl) ?_) | (refine WB.tv (i := 2) rfl (by kernel_rfl) (by kernel_rfl) rfl (Gv.loadGN rfl (by assumption) rfl) ?_))
  (first | (refine WB.tv (i := 3) rfl (by kernel_rfl) (by kernel_rfl) rfl (Gv.load1 rfl (by (repeat first | exact .here | apply At.there)) (by first | rfl | assumption)) ?_) | (refine WB.tv (i := 3) rfl (by kernel_rfl) (by kernel_rfl) rfl (Gv.loadN rfl (by (repeat first | exact .here | apply At.there)) (by rfl) (by rfl)) ?_) | (refine WB.tv (i := 3) rfl (by kernel_rfl) (by kernel_rfl) rfl (Gv.loadG1 rfl (by assumption) rfl) ?_) | (refine WB.tv (i := 3) rfl (by kernel_rfl) (by kernel_rfl) rfl (Gv.loadG0 rfl (by assumption) rfl) ?_) | (refine WB.tv (i := 3) rfl (by kernel_rfl) (by kernel_rfl) rfl (Gv.loadGN rfl (by assumption) rfl) ?_))
  refine WB.tp (i := 4) rfl (by kernel_rfl) (by kernel_rfl) rfl (Gp.fieldAddr rfl) ?_
  (first | (refine WB.tv (i := 5) rfl (by kernel_rfl) (by kernel_rfl) rfl (Gv.load1 rfl (by (repeat first | exact .here | apply At.there)) (by first | rfl | assumption)) ?_) | (refine WB.tv (i := 5) rfl (by kernel_rfl) (by kernel_rfl) rfl (Gv.loadN rfl (by (repeat first | exact .here | apply At.there)) (by rfl) (by rfl)) ?_) | (refine WB.tv (i := 5) rfl (by kernel_rfl) (by kernel_rfl) rfl (Gv.loadG1 rfl (by assumption) rfl) ?_) | (refine WB.tv (i := 5) rfl (by kernel_rfl) (by kernel_rfl) rfl (Gv.loadG0 rfl (by assumption) rfl) ?_) | (refine WB.tv (i := 5) rfl (by kernel_rfl) (by kernel_rfl) rfl (Gv.loadGN rfl (by assumption) rfl) ?_))
  refine WB.tp (i := 6) rfl (by kernel_rfl) (by kernel_rfl) rfl (Gp.fieldAddr rfl) ?_
  (first | (refine WB.tv (i := 7) rfl (by kernel_rfl) (by kernel_rfl) rfl (Gv.load1 rfl (by (repeat first | exact .here | apply At.there)) (by first | rfl | assumption)) ?_) | (refine WB.tv (i := 7) rfl (by kernel_rfl) (by kernel_rfl) rfl (Gv.loadN rfl (by (repeat first | exact .here | apply At.there)) (by rfl) (by rfl)) ?_) | (refine WB.tv (i := 7) rfl (by kernel_rfl) (by kernel_rfl) rfl (Gv.loadG1 rfl (by assumption) rfl) ?_) | (refine WB.tv (i := 7) rfl (by kernel_rfl) (by kernel_rfl) rfl (Gv.loadG0 rfl (by assumption) rfl) ?_) | (refine WB.tv (i := 7) rfl (by kernel_rfl) (by kernel_rfl) rfl (Gv.loadGN rfl (by assumption) rfl) ?_))
  (first | refine WB.tp (i := 8) rfl (by kernel_rfl) (by kernel_rfl) rfl (Gp.lenSl rfl) ?_ | refine WB.tp (i := 8) rfl (by kernel_rfl) (by kernel_rfl) rfl (Gp.lenS rfl) ?_)
  refine WB.tp (i := 9) rfl (by kernel_rfl) (by kernel_rfl) rfl (Gp.move rfl) ?_
  refine WB.tp (i := 10) rfl (by kernel_rfl) (by kernel_rfl) rfl (Gp.sub' rfl rfl x3) ?_
  refine WB.tp (i := 11) rfl (by kernel_rfl) (by kernel_rfl) rfl (Gp.sliceFrom rfl rfl (by omega) (by omega)) ?_
  rw [show st.length - ((st.length - tk : Nat) : Int).toNat = (st.drop (st.length - tk)).length from by rw [hdl, Int.toNat_natCast]; omega]
  refine WB.one (i := 12) (by kernel_rfl) rfl (by kernel_rfl) (OW.callK rfl (hkT _ _ (st.drop (st.length - tk)) (hS.fromG hsc (lo := st.length - tk)) hc h9 h10 hn ho hdl' (by rw [hdl]; omega) hk) rfl fun v' G' H' h hg => ?_)
  obtain ⟨he, rfl, rfl⟩ := h
  cases he
  refine ⟨fun w hw => hw.leSub (Gh.le_refl _) (by first | exact List.Sublist.refl _ | (repeat (first | exact List.Sublist.refl _ | exact List.nil_sublist _ | apply List.Sublist.cons_cons | apply List.Sublist.cons))), ?_⟩
  (first | refine WB.tp (i := 13) rfl (by kernel_rfl) (by kernel_rfl) rfl (Gp.pickT rfl rfl) ?_ | refine WB.tp (i := 13) rfl (by kernel_rfl) (by kernel_rfl) rfl (Gp.pickF rfl rfl) ?_)
  refine WB.tp (i := 14) rfl (by kernel_rfl) (by kernel_rfl) rfl (Gp.assign rfl) ?_
  refine WB.done (by kernel_rfl) ?_
  refine WK.un ?_
  by_cases h3 : c = 3
  · subst h3
    have hly0 : layR o.wd v (3, n) = 0 := by kernel_rfl
    have htk1 : (effC o.wd v (3, n)).1 = 1 := by kernel_rfl
    rw [hly0] at hly
    rw [htk1] at htke
    subst hly htke
    have hk' : ((((st.drop (st.length - 1))[0]?).getD 0) != 0) = true := by rw [← kindsR_3 o.wd p (wayS v st) n]; exact hk
    rw [top_drop] at hk'
    have hlt := ho.store rfl
    have hvs : varsR (3, n) (wayS v st) = v.set n.toNat (topV st) := by rw [varsR_way]; rfl
    rw [hvs]
    obtain ⟨xb, xc, rfl, rfl, hxc⟩ := h1.some (by omega)
    obtain ⟨_, hfit, hput⟩ := IVec.put h1 (i := 0 + n.toNat * 1) (by omega) (topV st)
    have hble : Nat.ble (0 + n.toNat * 1 + 1) xc.size = true := Nat.ble_eq_true_of_le (by omega)
    have hput' : TVec (some ⟨xb, 0, none⟩) (v.set n.toNat (topV st)) c1 (.blk xb (.cells (splice xc (0 + n.toNat * 1) [.int .i64 (topV st)]) 42 (0, 0))) := by
      have h := hput
      rw [Nat.mul_one, Nat.zero_add] at h
      unfold TVec
      rw [Nat.mul_one, Nat.zero_add]
      exact h
    have x0 : (0 : Int) ≤ n := hn
    have x1 : n < (v.length : Int) := by omega
    have e128 : decide (((st.take (st.length - 1)).length : Int) ≤ 128) = true := decide_eq_true (by omega)
    have hvll : v.length = (v.set n.toNat (topV st)).length := by rw [List.length_set]
    refine go ?_
    refine WC.pick [.blk xb (.cells (splice xc (0 + n.toNat * 1) [.int .i64 (topV st)]) 42 (0, 0)), y, .blk b12 (.cells #[.slice (some ⟨xb, 0, none⟩) v.length c1, .slice TB (st.take (st.length - 1)).length tb] 47 (0, 0)), .blk b6 (.cells #[.slice none 0 0, .slice none 0 0] 47 (0, 0)), .blk b5 (.cells #[.int .i64 3, .int .i64 n] 50 (0, 0))] ?_
    refine WC.drawS (Hs := [.blk b12 (.cells #[.slice (some ⟨xb, 0, none⟩) v.length c1, .slice TB (st.take (st.length - 1)).length tb] 47 (0, 0)), .blk b5 (.cells #[.int .i64 3, .int .i64 n] 50 (0, 0))]) mixed (by repeat (first | exact Pk.nil | exact Pk.all | exact Pk.app | exact Pk.appR | with_reducible apply Pk.na | (apply Pk.cons; (repeat first | exact .here | apply Rem.there | apply Rem.app)) | apply Pk.skip | apply Pk.skipA)) ?_
    (first | (refine WB.tv (i := 0) rfl (by kernel_rfl) (by kernel_rfl) rfl (Gv.load1 rfl (by (repeat first | exact .here | apply At.there)) (by first | rfl | assumption)) ?_) | (refine WB.tv (i := 0) rfl (by kernel_rfl) (by kernel_rfl) rfl (Gv.loadN rfl (by (repeat first | exact .here | apply At.there)) (by rfl) (by rfl)) ?_) | (refine WB.tv (i := 0) rfl (by kernel_rfl) (by kernel_rfl) rfl (Gv.loadG1 rfl (by assumption) rfl) ?_) | (refine WB.tv (i := 0) rfl (by kernel_rfl) (by kernel_rfl) rfl (Gv.loadG0 rfl (by assumption) rfl) ?_) | (refine WB.tv (i := 0) rfl (by kernel_rfl) (by kernel_rfl) rfl (Gv.loadGN rfl (by assumption) rfl) ?_))
    refine WB.tp (i := 1) rfl (by kernel_rfl) (by kernel_rfl) rfl (Gp.move rfl) ?_
    refine WB.tp (i := 2) rfl (by kernel_rfl) (by kernel_rfl) rfl (Gp.move rfl) ?_
    refine WB.tp (i := 3) rfl (by kernel_rfl) (by kernel_rfl) rfl (Gp.fieldAddr rfl) ?_
    (first | (refine WB.tv (i := 4) rfl (by kernel_rfl) (by kernel_rfl) rfl (Gv.load1 rfl (by (repeat first | exact .here | apply At.there)) (by first | rfl | assumption)) ?_) | (refine WB.tv (i := 4) rfl (by kernel_rfl) (by kernel_rfl) rfl (Gv.loadN rfl (by (repeat first | exact .here | apply At.there)) (by rfl) (by rfl)) ?_) | (refine WB.tv (i := 4) rfl (by kernel_rfl) (by kernel_rfl) rfl (Gv.loadG1 rfl (by assumption) rfl) ?_) | (refine WB.tv (i := 4) rfl (by kernel_rfl) (by kernel_rfl) rfl (Gv.loadG0 rfl (by assumption) rfl) ?_) | (refine WB.tv (i := 4) rfl (by kernel_rfl) (by kernel_rfl) rfl (Gv.loadGN rfl (by assumption) rfl) ?_))
    refine WB.tp (i := 5) rfl (by kernel_rfl) (by kernel_rfl) rfl (Gp.neI' rfl rfl rfl) ?_
    refine WB.tp (i := 6) rfl (by kernel_rfl) (by kernel_rfl) rfl (Gp.move rfl) ?_
    refine WB.sp (i := 7) rfl (by kernel_rfl) (by kernel_rfl) rfl ?_
    refine WB.sp (i := 8) rfl (by kernel_rfl) (by kernel_rfl) rfl ?_
    refine WB.sp (i := 9) rfl (by kernel_rfl) (by kernel_rfl) rfl ?_
    (first | refine WB.tp (i := 10) rfl (by kernel_rfl) (by kernel_rfl) rfl (Gp.pickT rfl rfl) ?_ | refine WB.tp (i := 10) rfl (by kernel_rfl) (by kernel_rfl) rfl (Gp.pickF rfl rfl) ?_)
    refine WB.tp (i := 11) rfl (by kernel_rfl) (by kernel_rfl) rfl (Gp.move rfl) ?_
    refine WB.tp (i := 12) rfl (by kernel_rfl) (by kernel_rfl) rfl (Gp.move rfl) ?_
    refine WB.tp (i := 13) rfl (by kernel_rfl) (by kernel_rfl) rfl (Gp.neI' rfl rfl hk') ?_
    (first | refine WB.tp (i := 14) rfl (by kernel_rfl) (by kernel_rfl) rfl (Gp.pickT rfl rfl) ?_ | refine WB.tp (i := 14) rfl (by kernel_rfl) (by kernel_rfl) rfl (Gp.pickF rfl rfl) ?_)
    (first | refine WB.tp (i := 15) rfl (by kernel_rfl) (by kernel_rfl) rfl (Gp.pickT rfl rfl) ?_ | refine WB.tp (i := 15) rfl (by kernel_rfl) (by kernel_rfl) rfl (Gp.pickF rfl rfl) ?_)
    refine WB.tp (i := 16) rfl (by kernel_rfl) (by kernel_rfl) rfl (Gp.move rfl) ?_
    refine WB.tp (i := 17) rfl (by kernel_rfl) (by kernel_rfl) rfl (Gp.fieldAddr rfl) ?_
    (first | (refine WB.tv (i := 18) rfl (by kernel_rfl) (by kernel_rfl) rfl (Gv.load1 rfl (by (repeat first | exact .here | apply At.there)) (by first | rfl | assumption)) ?_) | (refine WB.tv (i := 18) rfl (by kernel_rfl) (by kernel_rfl) rfl (Gv.loadN rfl (by (repeat first | exact .here | apply At.there)) (by rfl) (by rfl)) ?_) | (refine WB.tv (i := 18) rfl (by kernel_rfl) (by kernel_rfl) rfl (Gv.loadG1 rfl (by assumption) rfl) ?_) | (refine WB.tv (i := 18) rfl (by kernel_rfl) (by kernel_rfl) rfl (Gv.loadG0 rfl (by assumption) rfl) ?_) | (refine WB.tv (i := 18) rfl (by kernel_rfl) (by kernel_rfl) rfl (Gv.loadGN rfl (by assumption) rfl) ?_))
    (first | refine WB.tp (i := 19) rfl (by kernel_rfl) (by kernel_rfl) rfl (Gp.lenSl rfl) ?_ | refine WB.tp (i := 19) rfl (by kernel_rfl) (by kernel_rfl) rfl (Gp.lenS rfl) ?_)
    refine WB.tp (i := 20) rfl (by kernel_rfl) (by kernel_rfl) rfl (Gp.leI' rfl rfl e128) ?_
    (first | refine WB.tp (i := 21) rfl (by kernel_rfl) (by kernel_rfl) rfl (Gp.pickT rfl rfl) ?_ | refine WB.tp (i := 21) rfl (by kernel_rfl) (by kernel_rfl) rfl (Gp.pickF rfl rfl) ?_)
    refine WB.one (i := 22) (by kernel_rfl) rfl (by kernel_rfl) (OW.store rfl rfl (by (repeat first | exact .here | apply At.there)) rfl (by rfl) (by rfl) (by kernel_rfl) (by rfl) ?_ rfl)
    refine ⟨fun w hw => hw.leSub (Gh.le_refl _) (by first | exact List.Sublist.refl _ | (repeat (first | exact List.Sublist.refl _ | exact List.nil_sublist _ | apply List.Sublist.cons_cons | apply List.Sublist.cons))), ?_⟩
    refine WB.tp (i := 23) rfl (by kernel_rfl) (by kernel_rfl) rfl (Gp.assign rfl) ?_
    refine WB.done (by kernel_rfl) ?_
    refine WK.un ?_
    refine WC.ret ?_
    refine WK.un ?_
    exact QF.p2 (.inl rfl) rfl (.cell rfl inferInstance inferInstance (by (repeat first | exact .here | apply At.there)) rfl rfl) (.tmp rfl) (⟨_, _, _, _, _, _, by rw [if_pos rfl, List.append_nil, ← hvll]; rfl, rfl, hput', by rw [if_pos rfl, List.append_nil]; exact hy, rfl⟩)
  have e3 : (c != 3) = true := by rw [bne_iff_ne]; exact h3
  have e3' : (c == 3) = false := by rw [beq_eq_false_iff_ne]; exact h3
  have hvs : varsR (c, n) (wayS v st) = v := by rw [varsR_way, if_neg h3]
  rw [hvs]
  by_cases h11 : c = 11
  · subst h11
    have hly0 : layR o.wd v (11, n) = 0 := by kernel_rfl
    have htk1 : (effC o.wd v (11, n)).1 = 1 := by kernel_rfl
    rw [hly0] at hly
    rw [htk1] at htke
    subst hly htke
    have hk' : ((((st.drop (st.length - 1))[0]?).getD 0) != 0) = true := by rw [← kindsR_11 o.wd p (wayS v st) n]; exact hk
    rw [top_drop] at hk'
    have h0 : (0 : Int) = 0 := rfl
    have e128 : decide (((st.take (st.length - 1)).length : Int) ≤ 128) = true := decide_eq_true (by omega)
    refine go ?_
    refine WC.pick [o1, y, .blk b12 (.cells #[.slice A1 v.length c1, .slice TB (st.take (st.length - 1)).length tb] 47 (0, 0)), .blk b6 (.cells #[.slice none 0 0, .slice none 0 0] 47 (0, 0)), .blk b5 (.cells #[.int .i64 11, .int .i64 n] 50 (0, 0))] ?_
    refine WC.drawS (Hs := [.blk b12 (.cells #[.slice A1 v.length c1, .slice TB (st.take (st.length - 1)).length tb] 47 (0, 0)), .blk b5 (.cells #[.int .i64 11, .int .i64 n] 50 (0, 0))]) mixed (by repeat (first | exact Pk.nil | exact Pk.all | exact Pk.app | exact Pk.appR | with_reducible apply Pk.na | (apply Pk.cons; (repeat first | exact .here | apply Rem.there | apply Rem.app)) | apply Pk.skip | apply Pk.skipA)) ?_
    (first | (refine WB.tv (i := 0) rfl (by kernel_rfl) (by kernel_rfl) rfl (Gv.load1 rfl (by (repeat first | exact .here | apply At.there)) (by first | rfl | assumption)) ?_) | (refine WB.tv (i := 0) rfl (by kernel_rfl) (by kernel_rfl) rfl (Gv.loadN rfl (by (repeat first | exact .here | apply At.there)) (by rfl) (by rfl)) ?_) | (refine WB.tv (i := 0) rfl (by kernel_rfl) (by kernel_rfl) rfl (Gv.loadG1 rfl (by assumption) rfl) ?_) | (refine WB.tv (i := 0) rfl (by kernel_rfl) (by kernel_rfl) rfl (Gv.loadG0 rfl (by assumption) rfl) ?_) | (refine WB.tv (i := 0) rfl (by kernel_rfl) (by kernel_rfl) rfl (Gv.loadGN rfl (by assumption) rfl) ?_))
    refine WB.tp (i := 1) rfl (by kernel_rfl) (by kernel_rfl) rfl (Gp.move rfl) ?_
    refine WB.tp (i := 2) rfl (by kernel_rfl) (by kernel_rfl) rfl (Gp.move rfl) ?_
    refine WB.tp (i := 3) rfl (by kernel_rfl) (by kernel_rfl) rfl (Gp.fieldAddr rfl) ?_
    (first | (refine WB.tv (i := 4) rfl (by kernel_rfl) (by kernel_rfl) rfl (Gv.load1 rfl (by (repeat first | exact .here | apply At.there)) (by first | rfl | assumption)) ?_) | (refine WB.tv (i := 4) rfl (by kernel_rfl) (by kernel_rfl) rfl (Gv.loadN rfl (by (repeat first | exact .here | apply At.there)) (by rfl) (by rfl)) ?_) | (refine WB.tv (i := 4) rfl (by kernel_rfl) (by kernel_rfl) rfl (Gv.loadG1 rfl (by assumption) rfl) ?_) | (refine WB.tv (i := 4) rfl (by kernel_rfl) (by kernel_rfl) rfl (Gv.loadG0 rfl (by assumption) rfl) ?_) | (refine WB.tv (i := 4) rfl (by kernel_rfl) (by kernel_rfl) rfl (Gv.loadGN rfl (by assumption) rfl) ?_))
    refine WB.tp (i := 5) rfl (by kernel_rfl) (by kernel_rfl) rfl (Gp.neI' rfl rfl e3) ?_
    refine WB.tp (i := 6) rfl (by kernel_rfl) (by kernel_rfl) rfl (Gp.move rfl) ?_
    refine WB.tp (i := 7) rfl (by kernel_rfl) (by kernel_rfl) rfl (Gp.fieldAddr rfl) ?_
    (first | (refine WB.tv (i := 8) rfl (by kernel_rfl) (by kernel_rfl) rfl (Gv.load1 rfl (by (repeat first | exact .here | apply At.there)) (by first | rfl | assumption)) ?_) | (refine WB.tv (i := 8) rfl (by kernel_rfl) (by kernel_rfl) rfl (Gv.loadN rfl (by (repeat first | exact .here | apply At.there)) (by rfl) (by rfl)) ?_) | (refine WB.tv (i := 8) rfl (by kernel_rfl) (by kernel_rfl) rfl (Gv.loadG1 rfl (by assumption) rfl) ?_) | (refine WB.tv (i := 8) rfl (by kernel_rfl) (by kernel_rfl) rfl (Gv.loadG0 rfl (by assumption) rfl) ?_) | (refine WB.tv (i := 8) rfl (by kernel_rfl) (by kernel_rfl) rfl (Gv.loadGN rfl (by assumption) rfl) ?_))
    refine WB.tp (i := 9) rfl (by kernel_rfl) (by kernel_rfl) rfl (Gp.neI' rfl rfl rfl) ?_
    (first | refine WB.tp (i := 10) rfl (by kernel_rfl) (by kernel_rfl) rfl (Gp.pickT rfl rfl) ?_ | refine WB.tp (i := 10) rfl (by kernel_rfl) (by kernel_rfl) rfl (Gp.pickF rfl rfl) ?_)
    refine WB.tp (i := 11) rfl (by kernel_rfl) (by kernel_rfl) rfl (Gp.move rfl) ?_
    refine WB.tp (i := 12) rfl (by kernel_rfl) (by kernel_rfl) rfl (Gp.move rfl) ?_
    refine WB.tp (i := 13) rfl (by kernel_rfl) (by kernel_rfl) rfl (Gp.neI' rfl rfl hk') ?_
    (first | refine WB.tp (i := 14) rfl (by kernel_rfl) (by kernel_rfl) rfl (Gp.pickT rfl rfl) ?_ | refine WB.tp (i := 14) rfl (by kernel_rfl) (by kernel_rfl) rfl (Gp.pickF rfl rfl) ?_)
    (first | refine WB.tp (i := 15) rfl (by kernel_rfl) (by kernel_rfl) rfl (Gp.pickT rfl rfl) ?_ | refine WB.tp (i := 15) rfl (by kernel_rfl) (by kernel_rfl) rfl (Gp.pickF rfl rfl) ?_)
    refine WB.tp (i := 16) rfl (by kernel_rfl) (by kernel_rfl) rfl (Gp.move rfl) ?_
    refine WB.tp (i := 17) rfl (by kernel_rfl) (by kernel_rfl) rfl (Gp.fieldAddr rfl) ?_
    (first | (refine WB.tv (i := 18) rfl (by kernel_rfl) (by kernel_rfl) rfl (Gv.load1 rfl (by (repeat first | exact .here | apply At.there)) (by first | rfl | assumption)) ?_) | (refine WB.tv (i := 18) rfl (by kernel_rfl) (by kernel_rfl) rfl (Gv.loadN rfl (by (repeat first | exact .here | apply At.there)) (by rfl) (by rfl)) ?_) | (refine WB.tv (i := 18) rfl (by kernel_rfl) (by kernel_rfl) rfl (Gv.loadG1 rfl (by assumption) rfl) ?_) | (refine WB.tv (i := 18) rfl (by kernel_rfl) (by kernel_rfl) rfl (Gv.loadG0 rfl (by assumption) rfl) ?_) | (refine WB.tv (i := 18) rfl (by kernel_rfl) (by kernel_rfl) rfl (Gv.loadGN rfl (by assumption) rfl) ?_))
    (first | refine WB.tp (i := 19) rfl (by kernel_rfl) (by kernel_rfl) rfl (Gp.lenSl rfl) ?_ | refine WB.tp (i := 19) rfl (by kernel_rfl) (by kernel_rfl) rfl (Gp.lenS rfl) ?_)
    refine WB.tp (i := 20) rfl (by kernel_rfl) (by kernel_rfl) rfl (Gp.leI' rfl rfl e128) ?_
    (first | refine WB.tp (i := 21) rfl (by kernel_rfl) (by kernel_rfl) rfl (Gp.pickT rfl rfl) ?_ | refine WB.tp (i := 21) rfl (by kernel_rfl) (by kernel_rfl) rfl (Gp.pickF rfl rfl) ?_)
    refine WB.one (i := 22) (by kernel_rfl) rfl (by kernel_rfl) (OW.store rfl rfl (by (repeat first | exact .here | apply At.there)) rfl (by rfl) (by rfl) (by kernel_rfl) (by rfl) ?_ rfl)
    refine ⟨fun w hw => hw.leSub (Gh.le_refl _) (by first | exact List.Sublist.refl _ | (repeat (first | exact List.Sublist.refl _ | exact List.nil_sublist _ | apply List.Sublist.cons_cons | apply List.Sublist.cons))), ?_⟩
    refine WB.tp (i := 23) rfl (by kernel_rfl) (by kernel_rfl) rfl (Gp.assign rfl) ?_
    refine WB.done (by kernel_rfl) ?_
    refine WK.un ?_
    refine WC.ret ?_
    refine WK.un ?_
    exact QF.p2 (.inl rfl) rfl (.cell rfl inferInstance inferInstance (by (repeat first | exact .here | apply At.there)) rfl rfl) (.tmp rfl) (⟨_, _, _, _, _, _, by rw [if_pos h0, List.append_nil]; rfl, rfl, h1, by rw [if_pos h0, List.append_nil]; exact hy, rfl⟩)
  have e11 : (c != 11) = true := by rw [bne_iff_ne]; exact h11
  by_cases h0 : ly = 0
  · have e0 : (ly != 0) = false := by rw [h0]; rfl
    have e128 : decide (((st.take (st.length - tk)).length : Int) ≤ 128) = true := decide_eq_true (by omega)
    refine go ?_
    refine WC.pick [o1, y, .blk b12 (.cells #[.slice A1 v.length c1, .slice TB (st.take (st.length - tk)).length tb] 47 (0, 0)), .blk b6 (.cells #[.slice none 0 0, .slice none 0 0] 47 (0, 0)), .blk b5 (.cells #[.int .i64 c, .int .i64 n] 50 (0, 0))] ?_
    refine WC.drawS (Hs := [.blk b12 (.cells #[.slice A1 v.length c1, .slice TB (st.take (st.length - tk)).length tb] 47 (0, 0)), .blk b5 (.cells #[.int .i64 c, .int .i64 n] 50 (0, 0))]) mixed (by repeat (first | exact Pk.nil | exact Pk.all | exact Pk.app | exact Pk.appR | with_reducible apply Pk.na | (apply Pk.cons; (repeat first | exact .here | apply Rem.there | apply Rem.app)) | apply Pk.skip | apply Pk.skipA)) ?_
    (first | (refine WB.tv (i := 0) rfl (by kernel_rfl) (by kernel_rfl) rfl (Gv.load1 rfl (by (repeat first | exact .here | apply At.there)) (by first | rfl | assumption)) ?_) | (refine WB.tv (i := 0) rfl (by kernel_rfl) (by kernel_rfl) rfl (Gv.loadN rfl (by (repeat first | exact .here | apply At.there)) (by rfl) (by rfl)) ?_) | (refine WB.tv (i := 0) rfl (by kernel_rfl) (by kernel_rfl) rfl (Gv.loadG1 rfl (by assumption) rfl) ?_) | (refine WB.tv (i := 0) rfl (by kernel_rfl) (by kernel_rfl) rfl (Gv.loadG0 rfl (by assumption) rfl) ?_) | (refine WB.tv (i := 0) rfl (by kernel_rfl) (by kernel_rfl) rfl (Gv.loadGN rfl (by assumption) rfl) ?_))
    refine WB.tp (i := 1) rfl (by kernel_rfl) (by kernel_rfl) rfl (Gp.move rfl) ?_
    refine WB.tp (i := 2) rfl (by kernel_rfl) (by kernel_rfl) rfl (Gp.move rfl) ?_
    refine WB.tp (i := 3) rfl (by kernel_rfl) (by kernel_rfl) rfl (Gp.fieldAddr rfl) ?_
    (first | (refine WB.tv (i := 4) rfl (by kernel_rfl) (by kernel_rfl) rfl (Gv.load1 rfl (by (repeat first | exact .here | apply At.there)) (by first | rfl | assumption)) ?_) | (refine WB.tv (i := 4) rfl (by kernel_rfl) (by kernel_rfl) rfl (Gv.loadN rfl (by (repeat first | exact .here | apply At.there)) (by rfl) (by rfl)) ?_) | (refine WB.tv (i := 4) rfl (by kernel_rfl) (by kernel_rfl) rfl (Gv.loadG1 rfl (by assumption) rfl) ?_) | (refine WB.tv (i := 4) rfl (by kernel_rfl) (by kernel_rfl) rfl (Gv.loadG0 rfl (by assumption) rfl) ?_) | (refine WB.tv (i := 4) rfl (by kernel_rfl) (by kernel_rfl) rfl (Gv.loadGN rfl (by assumption) rfl) ?_))
    refine WB.tp (i := 5) rfl (by kernel_rfl) (by kernel_rfl) rfl (Gp.neI' rfl rfl e3) ?_
    refine WB.tp (i := 6) rfl (by kernel_rfl) (by kernel_rfl) rfl (Gp.move rfl) ?_
    refine WB.tp (i := 7) rfl (by kernel_rfl) (by kernel_rfl) rfl (Gp.fieldAddr rfl) ?_
    (first | (refine WB.tv (i := 8) rfl (by kernel_rfl) (by kernel_rfl) rfl (Gv.load1 rfl (by (repeat first | exact .here | apply At.there)) (by first | rfl | assumption)) ?_) | (refine WB.tv (i := 8) rfl (by kernel_rfl) (by kernel_rfl) rfl (Gv.loadN rfl (by (repeat first | exact .here | apply At.there)) (by rfl) (by rfl)) ?_) | (refine WB.tv (i := 8) rfl (by kernel_rfl) (by kernel_rfl) rfl (Gv.loadG1 rfl (by assumption) rfl) ?_) | (refine WB.tv (i := 8) rfl (by kernel_rfl) (by kernel_rfl) rfl (Gv.loadG0 rfl (by assumption) rfl) ?_) | (refine WB.tv (i := 8) rfl (by kernel_rfl) (by kernel_rfl) rfl (Gv.loadGN rfl (by assumption) rfl) ?_))
    refine WB.tp (i := 9) rfl (by kernel_rfl) (by kernel_rfl) rfl (Gp.neI' rfl rfl e11) ?_
    (first | refine WB.tp (i := 10) rfl (by kernel_rfl) (by kernel_rfl) rfl (Gp.pickT rfl rfl) ?_ | refine WB.tp (i := 10) rfl (by kernel_rfl) (by kernel_rfl) rfl (Gp.pickF rfl rfl) ?_)
    refine WB.tp (i := 11) rfl (by kernel_rfl) (by kernel_rfl) rfl (Gp.move rfl) ?_
    refine WB.sp (i := 12) rfl (by kernel_rfl) (by kernel_rfl) rfl ?_
    refine WB.sp (i := 13) rfl (by kernel_rfl) (by kernel_rfl) rfl ?_
    (first | refine WB.tp (i := 14) rfl (by kernel_rfl) (by kernel_rfl) rfl (Gp.pickT rfl rfl) ?_ | refine WB.tp (i := 14) rfl (by kernel_rfl) (by kernel_rfl) rfl (Gp.pickF rfl rfl) ?_)
    (first | refine WB.tp (i := 15) rfl (by kernel_rfl) (by kernel_rfl) rfl (Gp.pickT rfl rfl) ?_ | refine WB.tp (i := 15) rfl (by kernel_rfl) (by kernel_rfl) rfl (Gp.pickF rfl rfl) ?_)
    refine WB.tp (i := 16) rfl (by kernel_rfl) (by kernel_rfl) rfl (Gp.move rfl) ?_
    refine WB.tp (i := 17) rfl (by kernel_rfl) (by kernel_rfl) rfl (Gp.fieldAddr rfl) ?_
    (first | (refine WB.tv (i := 18) rfl (by kernel_rfl) (by kernel_rfl) rfl (Gv.load1 rfl (by (repeat first | exact .here | apply At.there)) (by first | rfl | assumption)) ?_) | (refine WB.tv (i := 18) rfl (by kernel_rfl) (by kernel_rfl) rfl (Gv.loadN rfl (by (repeat first | exact .here | apply At.there)) (by rfl) (by rfl)) ?_) | (refine WB.tv (i := 18) rfl (by kernel_rfl) (by kernel_rfl) rfl (Gv.loadG1 rfl (by assumption) rfl) ?_) | (refine WB.tv (i := 18) rfl (by kernel_rfl) (by kernel_rfl) rfl (Gv.loadG0 rfl (by assumption) rfl) ?_) | (refine WB.tv (i := 18) rfl (by kernel_rfl) (by kernel_rfl) rfl (Gv.loadGN rfl (by assumption) rfl) ?_))
    (first | refine WB.tp (i := 19) rfl (by kernel_rfl) (by kernel_rfl) rfl (Gp.lenSl rfl) ?_ | refine WB.tp (i := 19) rfl (by kernel_rfl) (by kernel_rfl) rfl (Gp.lenS rfl) ?_)
    refine WB.tp (i := 20) rfl (by kernel_rfl) (by kernel_rfl) rfl (Gp.leI' rfl rfl e128) ?_
    (first | refine WB.tp (i := 21) rfl (by kernel_rfl) (by kernel_rfl) rfl (Gp.pickT rfl rfl) ?_ | refine WB.tp (i := 21) rfl (by kernel_rfl) (by kernel_rfl) rfl (Gp.pickF rfl rfl) ?_)
    refine WB.one (i := 22) (by kernel_rfl) rfl (by kernel_rfl) (OW.store rfl rfl (by (repeat first | exact .here | apply At.there)) rfl (by rfl) (by rfl) (by kernel_rfl) (by rfl) ?_ rfl)
    refine ⟨fun w hw => hw.leSub (Gh.le_refl _) (by first | exact List.Sublist.refl _ | (repeat (first | exact List.Sublist.refl _ | exact List.nil_sublist _ | apply List.Sublist.cons_cons | apply List.Sublist.cons))), ?_⟩
    refine WB.tp (i := 23) rfl (by kernel_rfl) (by kernel_rfl) rfl (Gp.assign rfl) ?_
    refine WB.done (by kernel_rfl) ?_
    refine WK.un ?_
    refine WC.ret ?_
    refine WK.un ?_
    exact QF.p2 (.inl rfl) rfl (.cell rfl inferInstance inferInstance (by (repeat first | exact .here | apply At.there)) rfl rfl) (.tmp rfl) (⟨_, _, _, _, _, _, by rw [if_pos h0, List.append_nil]; rfl, rfl, h1, by rw [if_pos h0, List.append_nil]; exact hy, rfl⟩)
  have e0 : (ly != 0) = true := by rw [bne_iff_ne]; exact h0
  rw [if_neg h0] at hhi
  have hhi' : st.length - tk + 1 ≤ 128 := hhi
  refine go ?_
  refine WL.op (by kernel_rfl) (OW.buildSlice rfl (by kernel_rfl) (by kernel_rfl) (by rfl) rfl fun b142 => ?_)
  refine gom ?_
  refine WL.op (by kernel_rfl) (OW.append rfl rfl (by kernel_rfl) (by kernel_rfl) hy (by (repeat first | exact .here | apply At.there)) (Rds.blk0 (cs := [.int .i64 ly]) .here rfl) rfl rfl (by first | omega | (dsimp only; omega)) (by first | omega | (dsimp only; omega)) rfl fun A5 c5 o5 hv5 => ?_)
  have h5 : TVec A5 (st.take (st.length - tk) ++ [ly]) c5 o5 := by
    unfold TVec IVec
    rw [ints_append, List.length_append]; exact hv5
  have hl5 : (st.take (st.length - tk)).length + 1 = (st.take (st.length - tk) ++ [ly]).length := by rw [List.length_append]; rfl
  rw [hl5]
  have e128 : decide (((st.take (st.length - tk) ++ [ly]).length : Int) ≤ 128) = true := decide_eq_true (by rw [← hl5]; omega)
  refine go ?_
  refine WC.pick [o1, o5, .blk b12 (.cells #[.slice A1 v.length c1, .slice A5 (st.take (st.length - tk) ++ [ly]).length c5] 47 (0, 0)), .blk b6 (.cells #[.slice none 0 0, .slice none 0 0] 47 (0, 0)), .blk b5 (.cells #[.int .i64 c, .int .i64 n] 50 (0, 0))] ?_
  refine WC.drawS (Hs := [.blk b12 (.cells #[.slice A1 v.length c1, .slice A5 (st.take (st.length - tk) ++ [ly]).length c5] 47 (0, 0)), .blk b5 (.cells #[.int .i64 c, .int .i64 n] 50 (0, 0))]) mixed (by repeat (first | exact Pk.nil | exact Pk.all | exact Pk.app | exact Pk.appR | with_reducible apply Pk.na | (apply Pk.cons; (repeat first | exact .here | apply Rem.there | apply Rem.app)) | apply Pk.skip | apply Pk.skipA)) ?_
  (first | (refine WB.tv (i := 0) rfl (by kernel_rfl) (by kernel_rfl) rfl (Gv.load1 rfl (by (repeat first | exact .here | apply At.there)) (by first | rfl | assumption)) ?_) | (refine WB.tv (i := 0) rfl (by kernel_rfl) (by kernel_rfl) rfl (Gv.loadN rfl (by (repeat first | exact .here | apply At.there)) (by rfl) (by rfl)) ?_) | (refine WB.tv (i := 0) rfl (by kernel_rfl) (by kernel_rfl) rfl (Gv.loadG1 rfl (by assumption) rfl) ?_) | (refine WB.tv (i := 0) rfl (by kernel_rfl) (by kernel_rfl) rfl (Gv.loadG0 rfl (by assumption) rfl) ?_) | (refine WB.tv (i := 0) rfl (by kernel_rfl) (by kernel_rfl) rfl (Gv.loadGN rfl (by assumption) rfl) ?_))
  refine WB.tp (i := 1) rfl (by kernel_rfl) (by kernel_rfl) rfl (Gp.move rfl) ?_
  refine WB.tp (i := 2) rfl (by kernel_rfl) (by kernel_rfl) rfl (Gp.move rfl) ?_
  refine WB.tp (i := 3) rfl (by kernel_rfl) (by kernel_rfl) rfl (Gp.fieldAddr rfl) ?_
  (first | (refine WB.tv (i := 4) rfl (by kernel_rfl) (by kernel_rfl) rfl (Gv.load1 rfl (by (repeat first | exact .here | apply At.there)) (by first | rfl | assumption)) ?_) | (refine WB.tv (i := 4) rfl (by kernel_rfl) (by kernel_rfl) rfl (Gv.loadN rfl (by (repeat first | exact .here | apply At.there)) (by rfl) (by rfl)) ?_) | (refine WB.tv (i := 4) rfl (by kernel_rfl) (by kernel_rfl) rfl (Gv.loadG1 rfl (by assumption) rfl) ?_) | (refine WB.tv (i := 4) rfl (by kernel_rfl) (by kernel_rfl) rfl (Gv.loadG0 rfl (by assumption) rfl) ?_) | (refine WB.tv (i := 4) rfl (by kernel_rfl) (by kernel_rfl) rfl (Gv.loadGN rfl (by assumption) rfl) ?_))
  refine WB.tp (i := 5) rfl (by kernel_rfl) (by kernel_rfl) rfl (Gp.neI' rfl rfl e3) ?_
  refine WB.tp (i := 6) rfl (by kernel_rfl) (by kernel_rfl) rfl (Gp.move rfl) ?_
  refine WB.tp (i := 7) rfl (by kernel_rfl) (by kernel_rfl) rfl (Gp.fieldAddr rfl) ?_
  (first | (refine WB.tv (i := 8) rfl (by kernel_rfl) (by kernel_rfl) rfl (Gv.load1 rfl (by (repeat first | exact .here | apply At.there)) (by first | rfl | assumption)) ?_) | (refine WB.tv (i := 8) rfl (by kernel_rfl) (by kernel_rfl) rfl (Gv.loadN rfl (by (repeat first | exact .here | apply At.there)) (by rfl) (by rfl)) ?_) | (refine WB.tv (i := 8) rfl (by kernel_rfl) (by kernel_rfl) rfl (Gv.loadG1 rfl (by assumption) rfl) ?_) | (refine WB.tv (i := 8) rfl (by kernel_rfl) (by kernel_rfl) rfl (Gv.loadG0 rfl (by assumption) rfl) ?_) | (refine WB.tv (i := 8) rfl (by kernel_rfl) (by kernel_rfl) rfl (Gv.loadGN rfl (by assumption) rfl) ?_))
  refine WB.tp (i := 9) rfl (by kernel_rfl) (by kernel_rfl) rfl (Gp.neI' rfl rfl e11) ?_
  (first | refine WB.tp (i := 10) rfl (by kernel_rfl) (by kernel_rfl) rfl (Gp.pickT rfl rfl) ?_ | refine WB.tp (i := 10) rfl (by kernel_rfl) (by kernel_rfl) rfl (Gp.pickF rfl rfl) ?_)
  refine WB.tp (i := 11) rfl (by kernel_rfl) (by kernel_rfl) rfl (Gp.move rfl) ?_
  refine WB.sp (i := 12) rfl (by kernel_rfl) (by kernel_rfl) rfl ?_
  refine WB.sp (i := 13) rfl (by kernel_rfl) (by kernel_rfl) rfl ?_
  (first | refine WB.tp (i := 14) rfl (by kernel_rfl) (by kernel_rfl) rfl (Gp.pickT rfl rfl) ?_ | refine WB.tp (i := 14) rfl (by kernel_rfl) (by kernel_rfl) rfl (Gp.pickF rfl rfl) ?_)
  (first | refine WB.tp (i := 15) rfl (by kernel_rfl) (by kernel_rfl) rfl (Gp.pickT rfl rfl) ?_ | refine WB.tp (i := 15) rfl (by kernel_rfl) (by kernel_rfl) rfl (Gp.pickF rfl rfl) ?_)
  refine WB.tp (i := 16) rfl (by kernel_rfl) (by kernel_rfl) rfl (Gp.move rfl) ?_
  refine WB.tp (i := 17) rfl (by kernel_rfl) (by kernel_rfl) rfl (Gp.fieldAddr rfl) ?_
  (first | (refine WB.tv (i := 18) rfl (by kernel_rfl) (by kernel_rfl) rfl (Gv.load1 rfl (by (repeat first | exact .here | apply At.there)) (by first | rfl | assumption)) ?_) | (refine WB.tv (i := 18) rfl (by kernel_rfl) (by kernel_rfl) rfl (Gv.loadN rfl (by (repeat first | exact .here | apply At.there)) (by rfl) (by rfl)) ?_) | (refine WB.tv (i := 18) rfl (by kernel_rfl) (by kernel_rfl) rfl (Gv.loadG1 rfl (by assumption) rfl) ?_) | (refine WB.tv (i := 18) rfl (by kernel_rfl) (by kernel_rfl) rfl (Gv.loadG0 rfl (by assumption) rfl) ?_) | (refine WB.tv (i := 18) rfl (by kernel_rfl) (by kernel_rfl) rfl (Gv.loadGN rfl (by assumption) rfl) ?_))
  (first | refine WB.tp (i := 19) rfl (by kernel_rfl) (by kernel_rfl) rfl (Gp.lenSl rfl) ?_ | refine WB.tp (i := 19) rfl (by kernel_rfl) (by kernel_rfl) rfl (Gp.lenS rfl) ?_)
  refine WB.tp (i := 20) rfl (by kernel_rfl) (by kernel_rfl) rfl (Gp.leI' rfl rfl e128) ?_
  (first | refine WB.tp (i := 21) rfl (by kernel_rfl) (by kernel_rfl) rfl (Gp.pickT rfl rfl) ?_ | refine WB.tp (i := 21) rfl (by kernel_rfl) (by kernel_rfl) rfl (Gp.pickF rfl rfl) ?_)
  refine WB.one (i := 22) (by kernel_rfl) rfl (by kernel_rfl) (OW.store rfl rfl (by (repeat first | exact .here | apply At.there)) rfl (by rfl) (by rfl) (by kernel_rfl) (by rfl) ?_ rfl)
  refine ⟨fun w hw => hw.leSub (Gh.le_refl _) (by first | exact List.Sublist.refl _ | (repeat (first | exact List.Sublist.refl _ | exact List.nil_sublist _ | apply List.Sublist.cons_cons | apply List.Sublist.cons))), ?_⟩
  refine WB.tp (i := 23) rfl (by kernel_rfl) (by kernel_rfl) rfl (Gp.assign rfl) ?_
  refine WB.done (by kernel_rfl) ?_
  refine WK.un ?_
  refine WC.ret ?_
  refine WK.un ?_
  exact QF.p2 (.inl rfl) rfl (.cell rfl inferInstance inferInstance (by (repeat first | exact .here | apply At.there)) rfl rfl) (.tmp rfl) (⟨_, _, _, _, _, _, by rw [if_neg h0]; rfl, rfl, h1, by rw [if_neg h0]; exact h5, rfl⟩)
end
end Go.Proofs.YtkmigdmdppkpoaaGreatDoor.Gb
namespace Go.Proofs.YtkmigdmdppkpoaaGreatDoor.Gb
open Go Go.Proofs Go.MapKept
set_option linter.unusedVariables false
set_option linter.unusedSimpArgs false
set_option linter.unusedSectionVars false

theorem FIn.all {w : Wd} {p : Pr} {q : Nat} {i : Int × Int} {s0 : SS} : ∀ (xs : List Int) (l : List SS) (T ds : List Int), FIn w p l T q i s0 ds → (∀ x ∈ xs, x ∈ nextR i q ∧ 0 ≤ x) →
    ∃ l' T' ds', FIn w p l' T' q i s0 ds' ∧ (∀ x ∈ xs, x ∈ ds' ∨ (p.code.length : Int) ≤ x) ∧ (∀ x ∈ ds, x ∈ ds') ∧ (sumW p.locals.toNat l' < sumW p.locals.toNat l ∨ (l' = l ∧ T' = T))
  | [], l, T, ds, h, _ => ⟨l, T, ds, h, by simp, fun _ h => h, .inr ⟨rfl, rfl⟩⟩
  | x :: xs, l, T, ds, h, hx => by
    obtain ⟨hxn, hx0⟩ := hx x (List.mem_cons_self ..)
    have hrest : ∀ y ∈ xs, y ∈ nextR i q ∧ 0 ≤ y := fun y hy => hx y (List.mem_cons_of_mem _ hy)
    by_cases hle : (p.code.length : Int) ≤ x
    · obtain ⟨l', T', ds', h1, h2, h3, h4⟩ := FIn.all xs l T ds h hrest
      exact ⟨l', T', ds', h1, fun y hy => by
        rcases List.mem_cons.1 hy with rfl | hy
        · exact .inr hle
        · exact h2 y hy, h3, h4⟩
    obtain ⟨k, rfl⟩ : ∃ k : Nat, x = (k : Int) := ⟨x.toNat, by omega⟩
    have hkl : k < l.length := by rw [h.len]; omega
    have hs : l[k]? = some l[k] := List.getElem?_eq_getElem hkl
    by_cases hj : joinS l[k] (behR w i s0) = l[k]
    · obtain ⟨l', T', ds', h1, h2, h3, h4⟩ := FIn.all xs l T _ (h.same hs hj) hrest
      exact ⟨l', T', ds', h1, fun y hy => by
        rcases List.mem_cons.1 hy with rfl | hy
        · exact .inl (h3 _ (List.mem_cons_self ..))
        · exact h2 y hy, fun y hy => h3 y (List.mem_cons_of_mem _ hy), h4⟩
    · have hri := h.rises hs hj
      obtain ⟨l', T', ds', h1, h2, h3, h4⟩ := FIn.all xs _ ((k : Int) :: T) _ (h.turn hxn hs (T' := (k : Int) :: T) (fun y => by simp [or_comm])) hrest
      refine ⟨l', T', ds', h1, fun y hy => ?_, fun y hy => h3 y (List.mem_cons_of_mem _ hy), .inl ?_⟩
      · rcases List.mem_cons.1 hy with rfl | hy
        · exact .inl (h3 _ (List.mem_cons_self ..))
        · exact h2 y hy
      · rcases h4 with h4 | ⟨h4, _⟩
        · omega
        · rw [h4]; exact hri
theorem least_go {w : Wd} {p : Pr} (hp : POk w p) : ∀ (N M : Nat) (l : List SS) (T : List Int), FInv w p l T → sumW p.locals.toNat l ≤ N → T.length ≤ M → ∃ l', Least w p l' := by
  intro N
  induction N using Nat.strongRecOn with
  | _ N ihN =>
    intro M
    induction M with
    | zero =>
      intro l T h _ hM
      have : T = [] := List.eq_nil_of_length_eq_zero (by omega)
      subst this
      exact ⟨l, h.least⟩
    | succ M ihM =>
      intro l T h hN hM
      cases T with
      | nil => exact ⟨l, h.least⟩
      | cons x T =>
        obtain ⟨q, s, rfl, hs, hr⟩ := h.todo x (List.mem_cons_self ..)
        have hql := (List.getElem?_eq_some_iff.1 hs).1
        rw [h.len] at hql
        obtain ⟨i, hi⟩ : ∃ i, p.code[q]? = some i := ⟨_, List.getElem?_eq_getElem hql⟩
        have h0 := h.into (T' := T) (List.mem_cons_self ..) hi hs (fun y hy => List.mem_cons_of_mem _ hy) (fun y hy hne => (List.mem_cons.1 hy).resolve_left hne)
        have hi0 := (hp.ins q i hi).1
        have hnn : ∀ y ∈ nextR i q, y ∈ nextR i q ∧ 0 ≤ y := fun y hy => ⟨hy, by
          obtain ⟨c, n⟩ := i
          obtain ⟨m, rfl⟩ : ∃ m : Nat, n = (m : Int) := ⟨n.toNat, by dsimp only at hi0; omega⟩
          exact nextR_nonneg hy⟩
        obtain ⟨l', T', ds', h1, h2, _, h4⟩ := FIn.all (nextR i q) l T [] h0 hnn
        have h5 := h1.done h2
        rcases h4 with h4 | ⟨rfl, rfl⟩
        · exact ihN (sumW p.locals.toNat l') (by omega) T'.length l' T' h5 (Nat.le_refl _) (Nat.le_refl _)
        · exact ihM l' T' h5 hN (by simp at hM; omega)
theorem POk.least {w : Wd} {p : Pr} (hp : POk w p) : Least w p (flowOf w p) := by
  obtain ⟨l, h⟩ := least_go hp _ _ _ _ (FInv.first hp.par hp.pos) (Nat.le_refl _) (Nat.le_refl _)
  rw [h.flow]; exact h
theorem typedR_nz {x : Int} (h : typedR x = true) : x ≠ 0 := by
  unfold typedR at h
  simp at h
  omega
theorem headR_nz {ps : List Int} {r : Int} (h : headR ps r = true) : ∀ x ∈ ps, x ≠ 0 := fun x hx => by
  unfold headR at h
  simp only [Bool.and_eq_true] at h
  exact typedR_nz (List.all_eq_true.1 h.1 x hx)
theorem valueR_nz {v : V} (h : valueR v = true) : v.t ≠ 0 := fun e => by
  unfold valueR at h
  rw [e] at h
  simp at h
theorem procR_parts {p : Pr} (h : procR p = true) : headR p.params p.result = true := by
  unfold procR at h
  simp only [Bool.and_eq_true] at h
  exact h.2.1
theorem wrong_zero {w : Wd} {p : Pr} {l : List SS} (h : (wrongR w p l).2 = 0) : ∀ (k : Nat) (s : SS) (i : Int × Int), l[k]? = some s → p.code[k]? = some i → s.reached = true → metR w p k i s = 0 := by
  intro k s i hs hi hr
  unfold wrongR firstR at h
  split at h
  · rename_i j hj
    have := List.find?_some hj
    simp at this
    exact absurd h this
  · rename_i hj
    have := List.find?_eq_none.1 hj k (by simpa using (List.getElem?_eq_some_iff.1 hs).1)
    have h2 : badAt w p l k = 0 := by simpa using this
    unfold badAt at h2
    rw [hs, hi] at h2
    dsimp only at h2
    rwa [if_pos hr] at h2
/-- an object that was taken -/
theorem taken_of {o : Ob} (h : (objAns o).2.2 = 0) {k : Nat} {p : Pr} (hp : o.procs[k]? = some p) : Taken o.wd p (flowOf o.wd p) ∧ Least o.wd p (flowOf o.wd p) := by
  obtain ⟨h1, h2⟩ := objAns_zero h
  have hk := objAns_pok h hp
  have hl := hk.least
  have hz := outAt_zero (w := o.wd) hp (allR_zero h2 k (List.getElem?_eq_some_iff.1 hp).1)
  unfold objR at h1
  simp only [Bool.and_eq_true] at h1
  refine ⟨⟨hk, hl.closed, fun q hq => ?_, fun q hq => ?_, fun v hv => ?_, fun j i hi => ?_, wrong_zero hz.2.2.2⟩, hl⟩
  · obtain ⟨j, hj⟩ := List.getElem?_of_mem hq
    have := outAt_zero (w := o.wd) hj (allR_zero h2 j (List.getElem?_eq_some_iff.1 hj).1)
    exact headR_nz (procR_parts this.1)
  · have := List.all_eq_true.1 h1.2.2.2.2.2 q hq
    unfold needR at this
    simp only [Bool.and_eq_true] at this
    exact headR_nz this.2.2
  · exact valueR_nz (List.all_eq_true.1 h1.2.1 v hv)
  · have := hz.2.2.1 j i hi
    cases hm : mayR i.1 i.2 with
    | true => rfl
    | false => unfold aloneR at this; rw [if_pos hm] at this; cases this
theorem typesR_of {o : Ob} (h : (objAns o).2.2 = 0) {n : Nat} {p : Pr} (hp : o.procs[n]? = some p) {k : Nat} {t : SS} (ht : (flowOf o.wd p)[k]? = some t) : typesE o n k = 0 ∧ typesR o n k = (t.vars, t.stack) := by
  have hnl := (List.getElem?_eq_some_iff.1 hp).1
  have hkl := (List.getElem?_eq_some_iff.1 ht).1
  have hf : findE o n = 0 := by unfold findE; rw [if_neg (by simpa using h), if_neg (by omega)]
  have hs : statesR o n = flowOf o.wd p := by unfold statesR; rw [Int.toNat_natCast, hp]
  have he : typesE o n k = 0 := by unfold typesE; rw [if_neg (by simpa using hf), hs, if_neg (by omega)]
  refine ⟨he, ?_⟩
  unfold typesR
  rw [if_pos he, hs, Int.toNat_natCast, ht]
end Go.Proofs.YtkmigdmdppkpoaaGreatDoor.Gb
namespace Go.Proofs.YtkmigdmdppkpoaaGreatDoor.Gb
open Go Go.Proofs Go.MapKept
set_option linter.unusedVariables false
set_option linter.unusedSimpArgs false
set_option linter.unusedSectionVars false
section
variable {P : Program} {L : List (Nat × Value)} {d : Option Tmp} {ty : TypeId} {pos : String} {af : Array Edge} {gu : Option (Nat × Bool)}
theorem Gp.convToW {s t : TypeId} {x : Operand} {k k' : IntKind} {m r : Int} {ds : TypeDesc} (hx : ev L x = some (.int k m)) [hs : Und P s ds] [ht : Und P t (.int k')] (h : k'.wrap m = r) : Gp P L ⟨d, .convert s t x, ty, pos, af, gu⟩ (.int k' r) := h ▸ Gp.convI hx
theorem Gp.remToW {t t' : TypeId} {x y : Operand} {k : IntKind} {m n r : Int} (hx : ev L x = some (.int k m)) (hy : ev L y = some (.int k n)) (hn : n ≠ 0) (h : m.tmod n = r) : Gp P L ⟨d, .binOp .rem t x y t', ty, pos, af, gu⟩ (.int k r) := h ▸ Gp.rem hx hy hn
end
structure WY where
  k : Nat
  at_ : Nat
  v : List Int
  st : List Int
  VA : Option Addr
  vc : Nat
  SA : Option Addr
  sc : Nat
  G : Gh
theorem mayR_bounds {c n : Int} (h : mayR c n = true) : (1 ≤ c ∧ c ≤ 26) ∧ 0 ≤ n ∧ n ≤ 2147483647 := by
  unfold mayR at h
  simp only [Bool.and_eq_true, decide_eq_true_eq] at h
  refine ⟨?_, h.2.1, h.2.2.1⟩
  refine Decidable.byContradiction fun hc => ?_
  have : rowC c = rw0 := by
    unfold rowC
    split
    · rfl
    · rw [List.getElem?_eq_none (by show 27 ≤ c.toNat; omega)]; rfl
  rw [this] at h
  exact absurd h.1 (by decide)
theorem kindsR_10 (w : Wd) (p : Pr) (s : SS) (n : Int) (l : List Int) : kindsR w p (10, n) s l = allT p.result l := rfl
theorem u8mod {m n : Nat} (hn : 0 < n) : (m : Int).tmod (n : Int) = ((m % n : Nat) : Int) := by
  rw [Int.tmod_eq_emod_of_nonneg (by omega)]; rfl
theorem fRep_proc (p : Pr) (QA IA : Option Addr) (qc ic : Nat) : (prC p QA qc IA ic).toList = [.string p.name, .bool p.exp, .slice QA p.params.length qc, .int .i64 p.locals, .int .i64 p.result, .slice IA p.code.length ic] := rfl
attribute [local irreducible] Tryz.prog
attribute [local irreducible] effC layR varsR kindsR rowC typesE typesR objAns flowOf
section
variable (G : Gh) (hE : Env G) (o : Ob) (CA NA PA : Option Addr) (cc nc pc : Nat) (hO : ORep G o CA NA PA) (hL : OLim o) (m : Nat) (hm : m < 256) (BA : Option Addr) (bs : List Bool) (bc : Nat) (hB : Sl Kd.bool G BA bs) (hbl : bs.length ≤ 100000000000000)
include hE hO hL hm hB hbl
set_option maxHeartbeats 16000000 in
set_option maxRecDepth 20000 in
theorem codeWays_fn : Fn Tryz.prog 4 #[.agg (obC o CA NA PA cc nc pc), .int .u8 (m : Int), .slice BA bs.length bc] G [] fun e G' H' => e = .returned (.bool true) ∧ G.le G' ∧ H' = [] := by
  have hpl := hL.pl
  refine Fn.enter Tryz.func4 rfl rfl fun w0 => ?_
  refine WC.seq ?_
  refine WC.region ?_
  refine WL.op (by kernel_rfl) (OW.box rfl rfl fun b3 => ?_)
  refine gom ?_
  refine WL.op (by kernel_rfl) (OW.callK rfl (Object_fn G hE o CA NA PA cc nc pc hO hL) rfl fun v' G' H' h hg => ?_)
  obtain ⟨he, hg1, rfl⟩ := h
  cases he
  obtain ⟨G1, rfl⟩ : ∃ G1, G1 = G' := ⟨_, rfl⟩
  refine gom ?_
  refine WL.op (by kernel_rfl) (OW.alloc rfl fun b7 => ?_)
  by_cases h1 : (objAns o).2.2 = 0
  rotate_left
  · have e1 : ((objAns o).2.2 != 0) = true := by simpa using h1
    refine gom ?_
    refine WL.op (by kernel_rfl) (OW.callK rfl (awake_fn _ (hE.mono hg1)) rfl fun v' G' H' h hg => ?_)
    obtain ⟨he, hg2, rfl⟩ := h
    cases he
    refine gom ?_
    refine WC.ret ?_
    refine WK.un ?_
    exact QF.p1 (.inl rfl) rfl (.tmp rfl) (⟨rfl, Gh.le_trans hg1 hg2, rfl⟩)
  have e1 : ((objAns o).2.2 != 0) = false := by simpa using h1
  by_cases h2 : o.procs.length = 0
  · have e2 : ((o.procs.length : Int) == 0) = true := by rw [h2]; rfl
    refine gom ?_
    refine WL.op (by kernel_rfl) (OW.callK rfl (awake_fn _ (hE.mono hg1)) rfl fun v' G' H' h hg => ?_)
    obtain ⟨he, hg2, rfl⟩ := h
    cases he
    refine gom ?_
    refine WC.ret ?_
    refine WK.un ?_
    exact QF.p1 (.inl rfl) rfl (.tmp rfl) (⟨rfl, Gh.le_trans hg1 hg2, rfl⟩)
  have e2 : ((o.procs.length : Int) == 0) = false := by rw [beq_eq_false_iff_ne]; omega
  obtain ⟨n, hn⟩ : ∃ n, n = m % o.procs.length := ⟨_, rfl⟩
  have hnl : n < o.procs.length := by rw [hn]; exact Nat.mod_lt _ (by omega)
  obtain ⟨p, hp⟩ : ∃ p, o.procs[n]? = some p := ⟨_, List.getElem?_eq_getElem hnl⟩
  obtain ⟨hT, hLe⟩ := taken_of h1 hp
  have hpk := hT.pok
  have hloc := hpk.loc
  have hpar := hpk.par
  have hfew := hpk.few
  have hO1 := hO.mono hg1
  obtain ⟨pb, po, cs, rfl, hks, hcs⟩ := hO1.procs n p hp
  obtain ⟨QA, qc, IA, ic, rfl, hQ, hI⟩ := hks
  have x0 : (0 : Int) ≤ (n : Int) := by omega
  have x1 : (n : Int) < (o.procs.length : Int) := by omega
  refine gom ?_
  refine WL.p (Gp.convToW (r := (m : Int)) rfl (by rw [IntKind.wrap_i64]; omega)) (by kernel_rfl) rfl ?_
  refine gom ?_
  refine WL.p (Gp.remToW (r := (n : Int)) rfl rfl (by omega) (by rw [u8mod (by omega), hn])) (by kernel_rfl) rfl ?_
  refine gom ?_
  refine WL.op (by kernel_rfl) (OW.alloc rfl fun b10 => ?_)
  refine gom ?_
  refine WL.op (by kernel_rfl) (OW.buildSlice rfl (by kernel_rfl) (by kernel_rfl) (by rfl) rfl fun b44 => ?_)
  refine gom ?_
  refine WL.op (by kernel_rfl) (OW.append rfl rfl (by kernel_rfl) (by kernel_rfl) (Vec.empty (T := 42) (sz := 1) rfl) (by (repeat first | exact .here | apply At.there)) hQ.ints (ints_length _) (ints_one _) (by first | omega | (dsimp only; omega)) (by first | omega | (dsimp only; omega)) rfl fun A1 c1 o1 hv1 => ?_)
  have hq1 : TVec A1 (p.params ++ List.replicate 0 (0 : Int)) c1 o1 := by
    rw [List.replicate_zero, List.append_nil]
    have e : 0 + p.params.length = p.params.length := Nat.zero_add _
    unfold TVec IVec
    rw [← e]; exact hv1
  rw [show 0 + p.params.length = (p.params ++ List.replicate 0 (0 : Int)).length from by rw [List.replicate_zero, List.append_nil, Nat.zero_add]]
  clear hv1
  refine gom ?_
  refine WL.op (by kernel_rfl) (OW.alloc rfl fun b11 => ?_)
  refine gom ?_
  have hsnoc : ∀ j, p.params ++ List.replicate (j + 1) (0 : Int) = p.params ++ List.replicate j 0 ++ [0] := fun j => by rw [List.replicate_succ', List.append_assoc]
  have hjl : ∀ j, (p.params ++ List.replicate j (0 : Int)).length = p.params.length + j := fun j => by simp
  refine WC.pick [o1, .blk b11 (.cells #[.slice A1 (p.params ++ List.replicate 0 (0 : Int)).length c1, .slice none 0 0] 47 (0, 0)), .blk b10 (.cells (prC p QA qc IA ic) 45 (0, 0)), .blk b3 (.cells (obC o CA NA (some ⟨pb, po, none⟩) cc nc pc) 26 (0, 0))] ?_
  refine WC.loop (X := Nat × Option Addr × Nat × Own) (fun s => [(2, .slice BA bs.length bc), (3, .pointer (some ⟨b3, 0, none⟩)), (9, .int .i64 (n : Int)), (10, .pointer (some ⟨b10, 0, none⟩)), (11, .pointer (some ⟨b11, 0, none⟩))]) (fun _ => G1) (fun s => [s.2.2.2, .blk b11 (.cells #[.slice s.2.1 (p.params ++ List.replicate s.1 (0 : Int)).length s.2.2.1, .slice none 0 0] 47 (0, 0)), .blk b10 (.cells (prC p QA qc IA ic) 45 (0, 0)), .blk b3 (.cells (obC o CA NA (some ⟨pb, po, none⟩) cc nc pc) 26 (0, 0))]) (fun s => 65 - s.1) (fun s => p.params.length + s.1 ≤ p.locals.toNat ∧ TVec s.2.1 (p.params ++ List.replicate s.1 0) s.2.2.1 s.2.2.2) (0, A1, c1, o1) ⟨by dsimp only; omega, hq1⟩ (by exact ⟨rfl, rfl, rfl, rfl, rfl, trivial⟩) rfl (by first | exact List.Sublist.refl _ | (repeat (first | exact List.Sublist.refl _ | exact List.nil_sublist _ | apply List.Sublist.cons_cons | apply List.Sublist.cons))) fun s hs => ?_
  obtain ⟨j, B1, d1, y1⟩ := s
  obtain ⟨hj, hv⟩ := hs
  dsimp only at hj hv
  have hjl' := hjl j
  by_cases hlt : p.params.length + j < p.locals.toNat
  · have e3 : decide (((p.params ++ List.replicate j (0 : Int)).length : Int) < p.locals) = true := decide_eq_true (by omega)
    refine gom ?_
    refine WL.op (by kernel_rfl) (OW.buildSlice rfl (by kernel_rfl) (by kernel_rfl) (by rfl) rfl fun b57 => ?_)
    refine gom ?_
    refine WL.op (by kernel_rfl) (OW.append rfl rfl (by kernel_rfl) (by kernel_rfl) hv (by (repeat first | exact .here | apply At.there)) (Rds.blk0 (cs := [.int .i64 0]) .here rfl) rfl rfl (by first | omega | (dsimp only; omega)) (by first | omega | (dsimp only; omega)) rfl fun A3 c3 o3 hv3 => ?_)
    have h3 : TVec A3 (p.params ++ List.replicate (j + 1) 0) c3 o3 := by
      rw [hsnoc]
      unfold TVec IVec
      rw [ints_append, List.length_append]; exact hv3
    have hl3 : (p.params ++ List.replicate j (0 : Int)).length + 1 = (p.params ++ List.replicate (j + 1) (0 : Int)).length := by rw [hjl, hjl]; omega
    rw [hl3]
    refine gom ?_
    refine WK.pick [o3, .blk b11 (.cells #[.slice A3 (p.params ++ List.replicate (j + 1) (0 : Int)).length c3, .slice none 0 0] 47 (0, 0)), .blk b10 (.cells (prC p QA qc IA ic) 45 (0, 0)), .blk b3 (.cells (obC o CA NA (some ⟨pb, po, none⟩) cc nc pc) 26 (0, 0))] ?_
    exact WK.again (j + 1, A3, c3, o3) (by dsimp only; omega) ⟨by dsimp only; omega, h3⟩ (by exact ⟨rfl, rfl, rfl, rfl, rfl, trivial⟩) rfl (List.Sublist.refl _)
  have e3 : decide (((p.params ++ List.replicate j (0 : Int)).length : Int) < p.locals) = false := decide_eq_false (by omega)
  obtain rfl : j = p.locals.toNat - p.params.length := by omega
  refine go ?_
  refine WC.frozenVec hv (by (repeat first | exact .here | apply At.there)) fun G2 hg2 hz2 => ?_
  have hs2 := IVec.sl hz2
  have hb2 := Way.begin hT
  obtain ⟨v0, hv0⟩ : ∃ v0, v0 = p.params ++ List.replicate (p.locals.toNat - p.params.length) (0 : Int) := ⟨_, rfl⟩
  rw [← hv0] at hs2 hb2 ⊢
  have hg12 := Gh.le_trans hg1 hg2
  refine WC.loop (X := WY) (fun s => [(2, .slice BA bs.length bc), (3, .pointer (some ⟨b3, 0, none⟩)), (9, .int .i64 (n : Int)), (10, .pointer (some ⟨b10, 0, none⟩)), (11, .pointer (some ⟨b11, 0, none⟩)), (12, .int .i64 (s.at_ : Int)), (13, .int .i64 (s.k : Int))]) (fun s => s.G) (fun s => [.blk b11 (.cells #[.slice s.VA s.v.length s.vc, .slice s.SA s.st.length s.sc] 47 (0, 0)), .blk b10 (.cells (prC p QA qc IA ic) 45 (0, 0)), .blk b3 (.cells (obC o CA NA (some ⟨pb, po, none⟩) cc nc pc) 26 (0, 0))]) (fun s => bs.length + 1 - s.k) (fun s => s.k ≤ bs.length + 1 ∧ G2.le s.G ∧ Sl (Kd.int .i64) s.G s.VA s.v ∧ Sl (Kd.int .i64) s.G s.SA s.st ∧ s.st.length ≤ s.sc ∧ Way o.wd p (flowOf o.wd p) s.at_ s.v s.st) ⟨0, 0, v0, [], B1, d1, none, 0, G2⟩ ⟨Nat.zero_le _, Gh.le_refl _, hs2, Sl.nil _ _ _, Nat.le_refl _, hb2⟩ (by exact ⟨rfl, rfl, rfl, rfl, rfl, rfl, rfl, trivial⟩) rfl (by first | exact List.Sublist.refl _ | (repeat (first | exact List.Sublist.refl _ | exact List.nil_sublist _ | apply List.Sublist.cons_cons | apply List.Sublist.cons))) fun s hs => ?_
  obtain ⟨k, at_, v, st, VA, vc, SA, sc, G3⟩ := s
  obtain ⟨hkb, hg3, hV, hS, hsc, hW⟩ := hs
  dsimp only at hkb hg3 hV hS hsc hW
  have hg13 := Gh.le_trans hg12 hg3
  by_cases hlt2 : k ≤ bs.length
  rotate_left
  · have e4 : decide ((k : Int) ≤ (bs.length : Int)) = false := decide_eq_false (by omega)
    refine gom ?_
    refine WL.op (by kernel_rfl) (OW.callK rfl (awake_fn _ (hE.mono hg13)) rfl fun v' G' H' h hg => ?_)
    obtain ⟨he, hg4, rfl⟩ := h
    cases he
    refine gom ?_
    refine WC.ret ?_
    refine WK.un ?_
    exact QF.p1 (.inl rfl) rfl (.tmp rfl) (⟨rfl, Gh.le_trans hg13 hg4, rfl⟩)
  have e4 : decide ((k : Int) ≤ (bs.length : Int)) = true := decide_eq_true (by omega)
  obtain ⟨t, i, hSt⟩ := hW.stand hT
  have hak := (List.getElem?_eq_some_iff.1 hSt.ins).1
  have e5 : decide ((at_ : Int) < 0) = false := decide_eq_false (by omega)
  have e6 : decide ((p.code.length : Int) ≤ (at_ : Int)) = false := decide_eq_false (by omega)
  obtain ⟨hte, htr⟩ := typesR_of h1 hp hSt.told
  have hO3 := hO.mono hg13
  have hvl : v.length = p.locals.toNat := hSt.vlen
  have hsl : st.length ≤ 128 := by rw [hSt.stack.length]; exact hSt.wf.high
  have htv : t.vars.length ≤ 64 := by rw [← hSt.vars.length]; omega
  have hts : t.stack.length ≤ 128 := hSt.wf.high
  refine go ?_
  refine WL.op (by kernel_rfl) (OW.callK rfl (Types_fn G3 (hE.mono hg13) o CA NA (some ⟨pb, po, none⟩) cc nc pc hO3 hL (n : Int) (at_ : Int)) rfl fun v' G' H' h hg => ?_)
  obtain ⟨TA, ta, UA, ua, x, y, he, hg4, hx, hy, rfl⟩ := h
  cases he
  rw [hte]
  rw [htr] at hx hy ⊢
  obtain ⟨G4, rfl⟩ : ∃ G4, G4 = G' := ⟨_, rfl⟩
  refine WL.frozenVec hx (by (repeat first | exact .here | apply At.there)) fun G5 hg5 hz5 => ?_
  have hs5 := IVec.sl hz5
  refine WL.frozenVec hy (by (repeat first | exact .here | apply At.there)) fun G6 hg6 hz6 => ?_
  have hs6 := IVec.sl hz6
  have hg36 := Gh.le_trans hg4 (Gh.le_trans hg5 hg6)
  have hV6 := hV.mono hg36
  have hS6 := hS.mono hg36
  have hg16 := Gh.le_trans hg13 hg36
  refine gom ?_
  refine WL.op (by kernel_rfl) (OW.callK rfl (fits_fn G6 TA VA t.vars v ta vc (hs5.mono hg6) hV6 (by omega) hSt.vars) rfl fun v' G' H' h hg => ?_)
  obtain ⟨he, rfl, rfl⟩ := h
  cases he
  refine gom ?_
  refine WL.op (by kernel_rfl) (OW.callK rfl (fits_fn G6 UA SA t.stack st ua sc hs6 hS6 (by omega) hSt.stack) rfl fun v' G' H' h hg => ?_)
  obtain ⟨he, rfl, rfl⟩ := h
  cases he
  obtain ⟨c, nn⟩ := i
  have hI6 := hI.mono (Gh.le_trans (Gh.le_trans hg2 hg3) hg36)
  obtain ⟨ib, io, ics, rfl, hik, hic⟩ := hI6 at_ (c, nn) hSt.ins
  obtain rfl : ics = [.int .i64 c, .int .i64 nn] := hik
  have y0 : (0 : Int) ≤ (at_ : Int) := by omega
  have y1 : (at_ : Int) < (p.code.length : Int) := by omega
  refine gom ?_
  refine WL.op (by kernel_rfl) (OW.alloc rfl fun b17 => ?_)
  refine gom ?_
  have hmay := hT.may at_ (c, nn) hSt.ins
  have hbnd := mayR_bounds hmay
  have hins := hT.pok.ins at_ (c, nn) hSt.ins
  by_cases h9 : c = 9
  · subst h9
    have hr0 : p.result = 0 := hSt.ret rfl
    have e7 : (p.result != 0) = false := by rw [hr0]; rfl
    have e8 : (p.result == 0) = true := by rw [hr0]; rfl
    rw [show ((9 : Int) == 9) = true from rfl]
    refine go ?_
    refine WC.pick [.blk b17 (.cells #[.int .i64 9, .int .i64 nn] 50 (0, 0)), .blk b11 (.cells #[.slice VA v.length vc, .slice SA st.length sc] 47 (0, 0)), .blk b10 (.cells (prC p QA qc (some ⟨ib, io, none⟩) ic) 45 (0, 0))] ?_
    refine WC.drawS (Hs := [.blk b17 (.cells #[.int .i64 9, .int .i64 nn] 50 (0, 0)), .blk b11 (.cells #[.slice VA v.length vc, .slice SA st.length sc] 47 (0, 0)), .blk b10 (.cells (prC p QA qc (some ⟨ib, io, none⟩) ic) 45 (0, 0))]) mixed (by repeat (first | exact Pk.nil | exact Pk.all | exact Pk.app | exact Pk.appR | with_reducible apply Pk.na | (apply Pk.cons; (repeat first | exact .here | apply Rem.there | apply Rem.app)) | apply Pk.skip | apply Pk.skipA)) ?_
    refine WB.tp (i := 0) rfl (by kernel_rfl) (by kernel_rfl) rfl (Gp.fieldAddr rfl) ?_
    (first | (refine WB.tv (i := 1) rfl (by kernel_rfl) (by kernel_rfl) rfl (Gv.load1 rfl (by (repeat first | exact .here | apply At.there)) (by first | rfl | assumption)) ?_) | (refine WB.tv (i := 1) rfl (by kernel_rfl) (by kernel_rfl) rfl (Gv.loadN rfl (by (repeat first | exact .here | apply At.there)) (by rfl) (by rfl)) ?_) | (refine WB.tv (i := 1) rfl (by kernel_rfl) (by kernel_rfl) rfl (Gv.loadG1 rfl (by assumption) rfl) ?_) | (refine WB.tv (i := 1) rfl (by kernel_rfl) (by kernel_rfl) rfl (Gv.loadG0 rfl (by assumption) rfl) ?_) | (refine WB.tv (i := 1) rfl (by kernel_rfl) (by kernel_rfl) rfl (Gv.loadGN rfl (by assumption) rfl) ?_))
    (first | refine WB.tp (i := 2) rfl (by kernel_rfl) (by kernel_rfl) rfl (Gp.eqI rfl rfl) ?_ | refine WB.tp (i := 2) rfl (by kernel_rfl) (by kernel_rfl) rfl (Gp.eqS rfl rfl) ?_ | refine WB.tp (i := 2) rfl (by kernel_rfl) (by kernel_rfl) rfl (Gp.nilSl rfl) ?_ | refine WB.tp (i := 2) rfl (by kernel_rfl) (by kernel_rfl) rfl (Gp.eqB rfl rfl) ?_)
    refine WB.tp (i := 3) rfl (by kernel_rfl) (by kernel_rfl) rfl (Gp.fieldAddr rfl) ?_
    (first | (refine WB.tv (i := 4) rfl (by kernel_rfl) (by kernel_rfl) rfl (Gv.load1 rfl (by (repeat first | exact .here | apply At.there)) (by first | rfl | assumption)) ?_) | (refine WB.tv (i := 4) rfl (by kernel_rfl) (by kernel_rfl) rfl (Gv.loadN rfl (by (repeat first | exact .here | apply At.there)) (by rfl) (by rfl)) ?_) | (refine WB.tv (i := 4) rfl (by kernel_rfl) (by kernel_rfl) rfl (Gv.loadG1 rfl (by assumption) rfl) ?_) | (refine WB.tv (i := 4) rfl (by kernel_rfl) (by kernel_rfl) rfl (Gv.loadG0 rfl (by assumption) rfl) ?_) | (refine WB.tv (i := 4) rfl (by kernel_rfl) (by kernel_rfl) rfl (Gv.loadGN rfl (by assumption) rfl) ?_))
    refine WB.tp (i := 5) rfl (by kernel_rfl) (by kernel_rfl) rfl (Gp.neI' rfl rfl e7) ?_
    refine WB.tp (i := 6) rfl (by kernel_rfl) (by kernel_rfl) rfl (Gp.eqB rfl rfl) ?_
    refine WB.tp (i := 7) rfl (by kernel_rfl) (by kernel_rfl) rfl (Gp.move rfl) ?_
    refine WB.tp (i := 8) rfl (by kernel_rfl) (by kernel_rfl) rfl (Gp.fieldAddr rfl) ?_
    (first | (refine WB.tv (i := 9) rfl (by kernel_rfl) (by kernel_rfl) rfl (Gv.load1 rfl (by (repeat first | exact .here | apply At.there)) (by first | rfl | assumption)) ?_) | (refine WB.tv (i := 9) rfl (by kernel_rfl) (by kernel_rfl) rfl (Gv.loadN rfl (by (repeat first | exact .here | apply At.there)) (by rfl) (by rfl)) ?_) | (refine WB.tv (i := 9) rfl (by kernel_rfl) (by kernel_rfl) rfl (Gv.loadG1 rfl (by assumption) rfl) ?_) | (refine WB.tv (i := 9) rfl (by kernel_rfl) (by kernel_rfl) rfl (Gv.loadG0 rfl (by assumption) rfl) ?_) | (refine WB.tv (i := 9) rfl (by kernel_rfl) (by kernel_rfl) rfl (Gv.loadGN rfl (by assumption) rfl) ?_))
    refine WB.tp (i := 10) rfl (by kernel_rfl) (by kernel_rfl) rfl (Gp.eqI' rfl rfl e8) ?_
    refine WB.tp (i := 11) rfl (by kernel_rfl) (by kernel_rfl) rfl (Gp.move rfl) ?_
    refine WB.sp (i := 12) rfl (by kernel_rfl) (by kernel_rfl) rfl ?_
    refine WB.sp (i := 13) rfl (by kernel_rfl) (by kernel_rfl) rfl ?_
    refine WB.sp (i := 14) rfl (by kernel_rfl) (by kernel_rfl) rfl ?_
    refine WB.sp (i := 15) rfl (by kernel_rfl) (by kernel_rfl) rfl ?_
    refine WB.sp (i := 16) rfl (by kernel_rfl) (by kernel_rfl) rfl ?_
    refine WB.sp (i := 17) rfl (by kernel_rfl) (by kernel_rfl) rfl ?_
    refine WB.sp (i := 18) rfl (by kernel_rfl) (by kernel_rfl) rfl ?_
    refine WB.sp (i := 19) rfl (by kernel_rfl) (by kernel_rfl) rfl ?_
    refine WB.sp (i := 20) rfl (by kernel_rfl) (by kernel_rfl) rfl ?_
    refine WB.sp (i := 21) rfl (by kernel_rfl) (by kernel_rfl) rfl ?_
    refine WB.sp (i := 22) rfl (by kernel_rfl) (by kernel_rfl) rfl ?_
    refine WB.sp (i := 23) rfl (by kernel_rfl) (by kernel_rfl) rfl ?_
    refine WB.sp (i := 24) rfl (by kernel_rfl) (by kernel_rfl) rfl ?_
    refine WB.sp (i := 25) rfl (by kernel_rfl) (by kernel_rfl) rfl ?_
    refine WB.sp (i := 26) rfl (by kernel_rfl) (by kernel_rfl) rfl ?_
    refine WB.sp (i := 27) rfl (by kernel_rfl) (by kernel_rfl) rfl ?_
    refine WB.sp (i := 28) rfl (by kernel_rfl) (by kernel_rfl) rfl ?_
    (first | refine WB.tp (i := 29) rfl (by kernel_rfl) (by kernel_rfl) rfl (Gp.pickT rfl rfl) ?_ | refine WB.tp (i := 29) rfl (by kernel_rfl) (by kernel_rfl) rfl (Gp.pickF rfl rfl) ?_)
    (first | refine WB.tp (i := 30) rfl (by kernel_rfl) (by kernel_rfl) rfl (Gp.pickT rfl rfl) ?_ | refine WB.tp (i := 30) rfl (by kernel_rfl) (by kernel_rfl) rfl (Gp.pickF rfl rfl) ?_)
    refine WB.tp (i := 31) rfl (by kernel_rfl) (by kernel_rfl) rfl (Gp.move rfl) ?_
    refine WB.one (i := 32) (by kernel_rfl) rfl (by kernel_rfl) (OW.callK rfl (awake_fn _ (hE.mono hg16)) rfl fun v' G' H' h hg => ?_)
    obtain ⟨he, hg7, rfl⟩ := h
    cases he
    refine ⟨fun w hw => hw.leSub hg7 (by first | exact List.Sublist.refl _ | (repeat (first | exact List.Sublist.refl _ | exact List.nil_sublist _ | apply List.Sublist.cons_cons | apply List.Sublist.cons))), ?_⟩
    (first | refine WB.tp (i := 33) rfl (by kernel_rfl) (by kernel_rfl) rfl (Gp.pickT rfl rfl) ?_ | refine WB.tp (i := 33) rfl (by kernel_rfl) (by kernel_rfl) rfl (Gp.pickF rfl rfl) ?_)
    refine WB.tp (i := 34) rfl (by kernel_rfl) (by kernel_rfl) rfl (Gp.assign rfl) ?_
    refine WB.done (by kernel_rfl) ?_
    refine WK.un ?_
    refine WC.ret ?_
    refine WK.un ?_
    exact QF.p1 (.inl rfl) rfl (.tmp rfl) (⟨rfl, Gh.le_trans hg16 hg7, rfl⟩)
  have e9 : (c == 9) = false := by rw [beq_eq_false_iff_ne]; exact h9
  by_cases h10 : c = 10
  · subst h10
    have hr0 : p.result ≠ 0 := hSt.give rfl
    have e7 : (p.result != 0) = true := by rw [bne_iff_ne]; exact hr0
    have e8 : (p.result == 0) = false := by rw [beq_eq_false_iff_ne]; exact hr0
    have htk1 : (effC o.wd v (10, nn)).1 = 1 := by kernel_rfl
    have hk := hSt.kinds
    rw [htk1, kindsR_10] at hk
    have hb := hSt.bad
    have hs1 : 1 ≤ st.length := Decidable.byContradiction fun h => hb (.inr (.inl (by show st.length < (effC o.wd v (10, nn)).1; rw [htk1]; omega)))
    obtain ⟨z, hz⟩ : ∃ z, st[st.length - 1]? = some z := ⟨_, List.getElem?_eq_getElem (by omega)⟩
    have hzr : z = p.result := by
      have hd : st.drop (st.length - 1) = [z] := by
        rw [List.drop_eq_getElem_cons (by omega)]
        rw [(List.getElem?_eq_some_iff.1 hz).2, List.drop_eq_nil_of_le (by omega)]
      rw [hd] at hk
      exact allT_one hk
    have e10 : (z == p.result) = true := by rw [hzr]; simp
    have x3 : IntKind.i64.wrap ((st.length : Int) - 1) = ((st.length - 1 : Nat) : Int) := by rw [wrapI (by omega) (by omega)]; omega
    have e11 : decide ((0 : Int) < (st.length : Int)) = true := decide_eq_true (by omega)
    obtain ⟨zb, zo, rfl, hzc⟩ := hS6.at hz
    have z0 : (0 : Int) ≤ ((st.length - 1 : Nat) : Int) := by omega
    have z1 : ((st.length - 1 : Nat) : Int) < (st.length : Int) := by omega
    rw [e9]
    refine go ?_
    refine WC.pick [.blk b17 (.cells #[.int .i64 10, .int .i64 nn] 50 (0, 0)), .blk b11 (.cells #[.slice VA v.length vc, .slice (some ⟨zb, zo, none⟩) st.length sc] 47 (0, 0)), .blk b10 (.cells (prC p QA qc (some ⟨ib, io, none⟩) ic) 45 (0, 0))] ?_
    refine WC.drawS (Hs := [.blk b17 (.cells #[.int .i64 10, .int .i64 nn] 50 (0, 0)), .blk b11 (.cells #[.slice VA v.length vc, .slice (some ⟨zb, zo, none⟩) st.length sc] 47 (0, 0)), .blk b10 (.cells (prC p QA qc (some ⟨ib, io, none⟩) ic) 45 (0, 0))]) mixed (by repeat (first | exact Pk.nil | exact Pk.all | exact Pk.app | exact Pk.appR | with_reducible apply Pk.na | (apply Pk.cons; (repeat first | exact .here | apply Rem.there | apply Rem.app)) | apply Pk.skip | apply Pk.skipA)) ?_
    refine WB.tp (i := 0) rfl (by kernel_rfl) (by kernel_rfl) rfl (Gp.fieldAddr rfl) ?_
    (first | (refine WB.tv (i := 1) rfl (by kernel_rfl) (by kernel_rfl) rfl (Gv.load1 rfl (by (repeat first | exact .here | apply At.there)) (by first | rfl | assumption)) ?_) | (refine WB.tv (i := 1) rfl (by kernel_rfl) (by kernel_rfl) rfl (Gv.loadN rfl (by (repeat first | exact .here | apply At.there)) (by rfl) (by rfl)) ?_) | (refine WB.tv (i := 1) rfl (by kernel_rfl) (by kernel_rfl) rfl (Gv.loadG1 rfl (by assumption) rfl) ?_) | (refine WB.tv (i := 1) rfl (by kernel_rfl) (by kernel_rfl) rfl (Gv.loadG0 rfl (by assumption) rfl) ?_) | (refine WB.tv (i := 1) rfl (by kernel_rfl) (by kernel_rfl) rfl (Gv.loadGN rfl (by assumption) rfl) ?_))
    (first | refine WB.tp (i := 2) rfl (by kernel_rfl) (by kernel_rfl) rfl (Gp.eqI rfl rfl) ?_ | refine WB.tp (i := 2) rfl (by kernel_rfl) (by kernel_rfl) rfl (Gp.eqS rfl rfl) ?_ | refine WB.tp (i := 2) rfl (by kernel_rfl) (by kernel_rfl) rfl (Gp.nilSl rfl) ?_ | refine WB.tp (i := 2) rfl (by kernel_rfl) (by kernel_rfl) rfl (Gp.eqB rfl rfl) ?_)
    refine WB.tp (i := 3) rfl (by kernel_rfl) (by kernel_rfl) rfl (Gp.fieldAddr rfl) ?_
    (first | (refine WB.tv (i := 4) rfl (by kernel_rfl) (by kernel_rfl) rfl (Gv.load1 rfl (by (repeat first | exact .here | apply At.there)) (by first | rfl | assumption)) ?_) | (refine WB.tv (i := 4) rfl (by kernel_rfl) (by kernel_rfl) rfl (Gv.loadN rfl (by (repeat first | exact .here | apply At.there)) (by rfl) (by rfl)) ?_) | (refine WB.tv (i := 4) rfl (by kernel_rfl) (by kernel_rfl) rfl (Gv.loadG1 rfl (by assumption) rfl) ?_) | (refine WB.tv (i := 4) rfl (by kernel_rfl) (by kernel_rfl) rfl (Gv.loadG0 rfl (by assumption) rfl) ?_) | (refine WB.tv (i := 4) rfl (by kernel_rfl) (by kernel_rfl) rfl (Gv.loadGN rfl (by assumption) rfl) ?_))
    refine WB.tp (i := 5) rfl (by kernel_rfl) (by kernel_rfl) rfl (Gp.neI' rfl rfl e7) ?_
    refine WB.tp (i := 6) rfl (by kernel_rfl) (by kernel_rfl) rfl (Gp.eqB rfl rfl) ?_
    refine WB.tp (i := 7) rfl (by kernel_rfl) (by kernel_rfl) rfl (Gp.move rfl) ?_
    refine WB.tp (i := 8) rfl (by kernel_rfl) (by kernel_rfl) rfl (Gp.fieldAddr rfl) ?_
    (first | (refine WB.tv (i := 9) rfl (by kernel_rfl) (by kernel_rfl) rfl (Gv.load1 rfl (by (repeat first | exact .here | apply At.there)) (by first | rfl | assumption)) ?_) | (refine WB.tv (i := 9) rfl (by kernel_rfl) (by kernel_rfl) rfl (Gv.loadN rfl (by (repeat first | exact .here | apply At.there)) (by rfl) (by rfl)) ?_) | (refine WB.tv (i := 9) rfl (by kernel_rfl) (by kernel_rfl) rfl (Gv.loadG1 rfl (by assumption) rfl) ?_) | (refine WB.tv (i := 9) rfl (by kernel_rfl) (by kernel_rfl) rfl (Gv.loadG0 rfl (by assumption) rfl) ?_) | (refine WB.tv (i := 9) rfl (by kernel_rfl) (by kernel_rfl) rfl (Gv.loadGN rfl (by assumption) rfl) ?_))
    refine WB.tp (i := 10) rfl (by kernel_rfl) (by kernel_rfl) rfl (Gp.eqI' rfl rfl e8) ?_
    refine WB.tp (i := 11) rfl (by kernel_rfl) (by kernel_rfl) rfl (Gp.move rfl) ?_
    refine WB.tp (i := 12) rfl (by kernel_rfl) (by kernel_rfl) rfl (Gp.fieldAddr rfl) ?_
    (first | (refine WB.tv (i := 13) rfl (by kernel_rfl) (by kernel_rfl) rfl (Gv.load1 rfl (by (repeat first | exact .here | apply At.there)) (by first | rfl | assumption)) ?_) | (refine WB.tv (i := 13) rfl (by kernel_rfl) (by kernel_rfl) rfl (Gv.loadN rfl (by (repeat first | exact .here | apply At.there)) (by rfl) (by rfl)) ?_) | (refine WB.tv (i := 13) rfl (by kernel_rfl) (by kernel_rfl) rfl (Gv.loadG1 rfl (by assumption) rfl) ?_) | (refine WB.tv (i := 13) rfl (by kernel_rfl) (by kernel_rfl) rfl (Gv.loadG0 rfl (by assumption) rfl) ?_) | (refine WB.tv (i := 13) rfl (by kernel_rfl) (by kernel_rfl) rfl (Gv.loadGN rfl (by assumption) rfl) ?_))
    (first | refine WB.tp (i := 14) rfl (by kernel_rfl) (by kernel_rfl) rfl (Gp.lenSl rfl) ?_ | refine WB.tp (i := 14) rfl (by kernel_rfl) (by kernel_rfl) rfl (Gp.lenS rfl) ?_)
    refine WB.tp (i := 15) rfl (by kernel_rfl) (by kernel_rfl) rfl (Gp.gtI' rfl rfl e11) ?_
    refine WB.tp (i := 16) rfl (by kernel_rfl) (by kernel_rfl) rfl (Gp.move rfl) ?_
    refine WB.tp (i := 17) rfl (by kernel_rfl) (by kernel_rfl) rfl (Gp.fieldAddr rfl) ?_
    (first | (refine WB.tv (i := 18) rfl (by kernel_rfl) (by kernel_rfl) rfl (Gv.load1 rfl (by (repeat first | exact .here | apply At.there)) (by first | rfl | assumption)) ?_) | (refine WB.tv (i := 18) rfl (by kernel_rfl) (by kernel_rfl) rfl (Gv.loadN rfl (by (repeat first | exact .here | apply At.there)) (by rfl) (by rfl)) ?_) | (refine WB.tv (i := 18) rfl (by kernel_rfl) (by kernel_rfl) rfl (Gv.loadG1 rfl (by assumption) rfl) ?_) | (refine WB.tv (i := 18) rfl (by kernel_rfl) (by kernel_rfl) rfl (Gv.loadG0 rfl (by assumption) rfl) ?_) | (refine WB.tv (i := 18) rfl (by kernel_rfl) (by kernel_rfl) rfl (Gv.loadGN rfl (by assumption) rfl) ?_))
    refine WB.tp (i := 19) rfl (by kernel_rfl) (by kernel_rfl) rfl (Gp.fieldAddr rfl) ?_
    (first | (refine WB.tv (i := 20) rfl (by kernel_rfl) (by kernel_rfl) rfl (Gv.load1 rfl (by (repeat first | exact .here | apply At.there)) (by first | rfl | assumption)) ?_) | (refine WB.tv (i := 20) rfl (by kernel_rfl) (by kernel_rfl) rfl (Gv.loadN rfl (by (repeat first | exact .here | apply At.there)) (by rfl) (by rfl)) ?_) | (refine WB.tv (i := 20) rfl (by kernel_rfl) (by kernel_rfl) rfl (Gv.loadG1 rfl (by assumption) rfl) ?_) | (refine WB.tv (i := 20) rfl (by kernel_rfl) (by kernel_rfl) rfl (Gv.loadG0 rfl (by assumption) rfl) ?_) | (refine WB.tv (i := 20) rfl (by kernel_rfl) (by kernel_rfl) rfl (Gv.loadGN rfl (by assumption) rfl) ?_))
    (first | refine WB.tp (i := 21) rfl (by kernel_rfl) (by kernel_rfl) rfl (Gp.lenSl rfl) ?_ | refine WB.tp (i := 21) rfl (by kernel_rfl) (by kernel_rfl) rfl (Gp.lenS rfl) ?_)
    refine WB.tp (i := 22) rfl (by kernel_rfl) (by kernel_rfl) rfl (Gp.sub' rfl rfl x3) ?_
    refine WB.tp (i := 23) rfl (by kernel_rfl) (by kernel_rfl) rfl (Gp.indexAddr rfl rfl (by first | assumption | omega | decide) (by first | assumption | omega | decide | (simp only [List.length_cons, List.length_nil]; decide))) ?_
    refine WB.tv (i := 24) rfl (by kernel_rfl) (by kernel_rfl) rfl (Gv.loadG1 (i := 0) rfl hzc rfl) ?_
    refine WB.tp (i := 25) rfl (by kernel_rfl) (by kernel_rfl) rfl (Gp.fieldAddr rfl) ?_
    (first | (refine WB.tv (i := 26) rfl (by kernel_rfl) (by kernel_rfl) rfl (Gv.load1 rfl (by (repeat first | exact .here | apply At.there)) (by first | rfl | assumption)) ?_) | (refine WB.tv (i := 26) rfl (by kernel_rfl) (by kernel_rfl) rfl (Gv.loadN rfl (by (repeat first | exact .here | apply At.there)) (by rfl) (by rfl)) ?_) | (refine WB.tv (i := 26) rfl (by kernel_rfl) (by kernel_rfl) rfl (Gv.loadG1 rfl (by assumption) rfl) ?_) | (refine WB.tv (i := 26) rfl (by kernel_rfl) (by kernel_rfl) rfl (Gv.loadG0 rfl (by assumption) rfl) ?_) | (refine WB.tv (i := 26) rfl (by kernel_rfl) (by kernel_rfl) rfl (Gv.loadGN rfl (by assumption) rfl) ?_))
    refine WB.tp (i := 27) rfl (by kernel_rfl) (by kernel_rfl) rfl (Gp.eqI' rfl rfl e10) ?_
    (first | refine WB.tp (i := 28) rfl (by kernel_rfl) (by kernel_rfl) rfl (Gp.pickT rfl rfl) ?_ | refine WB.tp (i := 28) rfl (by kernel_rfl) (by kernel_rfl) rfl (Gp.pickF rfl rfl) ?_)
    (first | refine WB.tp (i := 29) rfl (by kernel_rfl) (by kernel_rfl) rfl (Gp.pickT rfl rfl) ?_ | refine WB.tp (i := 29) rfl (by kernel_rfl) (by kernel_rfl) rfl (Gp.pickF rfl rfl) ?_)
    (first | refine WB.tp (i := 30) rfl (by kernel_rfl) (by kernel_rfl) rfl (Gp.pickT rfl rfl) ?_ | refine WB.tp (i := 30) rfl (by kernel_rfl) (by kernel_rfl) rfl (Gp.pickF rfl rfl) ?_)
    refine WB.tp (i := 31) rfl (by kernel_rfl) (by kernel_rfl) rfl (Gp.move rfl) ?_
    refine WB.one (i := 32) (by kernel_rfl) rfl (by kernel_rfl) (OW.callK rfl (awake_fn _ (hE.mono hg16)) rfl fun v' G' H' h hg => ?_)
    obtain ⟨he, hg7, rfl⟩ := h
    cases he
    refine ⟨fun w hw => hw.leSub hg7 (by first | exact List.Sublist.refl _ | (repeat (first | exact List.Sublist.refl _ | exact List.nil_sublist _ | apply List.Sublist.cons_cons | apply List.Sublist.cons))), ?_⟩
    (first | refine WB.tp (i := 33) rfl (by kernel_rfl) (by kernel_rfl) rfl (Gp.pickT rfl rfl) ?_ | refine WB.tp (i := 33) rfl (by kernel_rfl) (by kernel_rfl) rfl (Gp.pickF rfl rfl) ?_)
    refine WB.tp (i := 34) rfl (by kernel_rfl) (by kernel_rfl) rfl (Gp.assign rfl) ?_
    refine WB.done (by kernel_rfl) ?_
    refine WK.un ?_
    refine WC.ret ?_
    refine WK.un ?_
    exact QF.p1 (.inl rfl) rfl (.tmp rfl) (⟨rfl, Gh.le_trans hg16 hg7, rfl⟩)
  have e10 : (c == 10) = false := by rw [beq_eq_false_iff_ne]; exact h10
  have hdoes := does_fn G6 o CA NA (some ⟨pb, po, none⟩) cc nc pc (hO.mono hg16) hL p c nn v st VA SA vc sc hbnd.1 h9 h10 hins.1 (by rw [hvl]; exact hins.2) hV6 hS6 hsc (by omega) hsl hSt.kinds hSt.bad (layR_eff hT hSt)
  have hgo : ∀ j : Nat, (j : Int) ∈ nextR (c, nn) at_ → Way o.wd p (flowOf o.wd p) j (varsR (c, nn) (wayS v st)) (st.take (st.length - (effC o.wd v (c, nn)).1) ++ (effC o.wd v (c, nn)).2) := fun j hj => Way.go hT hSt hj
  obtain ⟨hn5, hn6, hn1⟩ := hSt.next h9 h10
  dsimp only at hn5 hn6 hn1
  obtain ⟨v2, hv2⟩ : ∃ v2, v2 = varsR (c, nn) (wayS v st) := ⟨_, rfl⟩
  obtain ⟨st2, hst2⟩ : ∃ st2, st2 = st.take (st.length - (effC o.wd v (c, nn)).1) ++ (effC o.wd v (c, nn)).2 := ⟨_, rfl⟩
  rw [← hv2, ← hst2] at hdoes hgo
  have w1 : IntKind.i64.wrap ((at_ : Int) + 1) = ((at_ + 1 : Nat) : Int) := by rw [wrapI (by omega) (by omega)]; rfl
  have w2 : IntKind.i64.wrap ((k : Int) + 1) = ((k + 1 : Nat) : Int) := by rw [wrapI (by omega) (by omega)]; rfl
  rw [e9]
  refine gom ?_
  refine WL.op (by kernel_rfl) (OW.callK rfl (hdoes) rfl fun v' G' H' h hg => ?_)
  obtain ⟨VB, vb, SB, sb, x2, y2, he, rfl, hx2, hy2, rfl⟩ := h
  cases he
  refine WL.frozenVec hx2 (by (repeat first | exact .here | apply At.there)) fun G8 hg8 hz8 => ?_
  have hs8 := IVec.sl hz8
  refine WL.frozenVec hy2 (by (repeat first | exact .here | apply At.there)) fun G9 hg9 hz9 => ?_
  have hs9 := IVec.sl hz9
  have hle9 := hy2.le
  have hg39 := Gh.le_trans hg3 (Gh.le_trans hg36 (Gh.le_trans hg8 hg9))
  have again : ∀ j : Nat, (j : Int) ∈ nextR (c, nn) at_ → (⟨k + 1, j, v2, st2, VB, vb, SB, sb, G9⟩ : WY).k ≤ bs.length + 1 ∧ G2.le G9 ∧ Sl (Kd.int .i64) G9 VB v2 ∧ Sl (Kd.int .i64) G9 SB st2 ∧ st2.length ≤ sb ∧ Way o.wd p (flowOf o.wd p) j v2 st2 := fun j hj => ⟨by dsimp only; omega, hg39, hs8.mono hg9, hs9, hle9, hgo j hj⟩
  refine gom ?_
  by_cases h5 : c = 5
  · subst h5
    obtain ⟨nm, rfl⟩ : ∃ nm : Nat, nn = (nm : Int) := ⟨nn.toNat, by omega⟩
    refine gom ?_
    refine WK.pick [.blk b11 (.cells #[.slice VB v2.length vb, .slice SB st2.length sb] 47 (0, 0)), .blk b10 (.cells (prC p QA qc (some ⟨ib, io, none⟩) ic) 45 (0, 0)), .blk b3 (.cells (obC o CA NA (some ⟨pb, po, none⟩) cc nc pc) 26 (0, 0))] ?_
    exact WK.again ⟨k + 1, nm, v2, st2, VB, vb, SB, sb, G9⟩ (by dsimp only; omega) (again (nm) (hn5 rfl)) (by exact ⟨rfl, rfl, rfl, rfl, rfl, rfl, rfl, trivial⟩) rfl (List.Sublist.refl _)
  have e5' : (c == 5) = false := by rw [beq_eq_false_iff_ne]; exact h5
  rw [e5']
  by_cases h6 : c = 6
  rotate_left
  · have e6' : (c == 6) = false := by rw [beq_eq_false_iff_ne]; exact h6
    refine gom ?_
    refine WK.pick [.blk b11 (.cells #[.slice VB v2.length vb, .slice SB st2.length sb] 47 (0, 0)), .blk b10 (.cells (prC p QA qc (some ⟨ib, io, none⟩) ic) 45 (0, 0)), .blk b3 (.cells (obC o CA NA (some ⟨pb, po, none⟩) cc nc pc) 26 (0, 0))] ?_
    exact WK.again ⟨k + 1, at_ + 1, v2, st2, VB, vb, SB, sb, G9⟩ (by dsimp only; omega) (again (at_ + 1) (hn1 h5)) (by exact ⟨rfl, rfl, rfl, rfl, rfl, rfl, rfl, trivial⟩) rfl (List.Sublist.refl _)
  subst h6
  by_cases hkl : k < bs.length
  rotate_left
  · have e12 : decide ((k : Int) < (bs.length : Int)) = false := decide_eq_false (by omega)
    refine gom ?_
    refine WK.pick [.blk b11 (.cells #[.slice VB v2.length vb, .slice SB st2.length sb] 47 (0, 0)), .blk b10 (.cells (prC p QA qc (some ⟨ib, io, none⟩) ic) 45 (0, 0)), .blk b3 (.cells (obC o CA NA (some ⟨pb, po, none⟩) cc nc pc) 26 (0, 0))] ?_
    exact WK.again ⟨k + 1, at_ + 1, v2, st2, VB, vb, SB, sb, G9⟩ (by dsimp only; omega) (again (at_ + 1) (hn1 h5)) (by exact ⟨rfl, rfl, rfl, rfl, rfl, rfl, rfl, trivial⟩) rfl (List.Sublist.refl _)
  have e12 : decide ((k : Int) < (bs.length : Int)) = true := decide_eq_true (by omega)
  obtain ⟨q, hq⟩ : ∃ q, bs[k]? = some q := ⟨_, List.getElem?_eq_getElem hkl⟩
  have hB9 := hB.mono (Gh.le_trans hg12 hg39)
  obtain ⟨qb, qo, qcs, rfl, hqk, hqc⟩ := hB9 k q hq
  obtain rfl : qcs = [.bool q] := hqk
  have q0 : (0 : Int) ≤ (k : Int) := by omega
  have q1 : (k : Int) < (bs.length : Int) := by omega
  obtain ⟨nm, rfl⟩ : ∃ nm : Nat, nn = (nm : Int) := ⟨nn.toNat, by omega⟩
  cases q with
  | true =>
    refine gom ?_
    refine WK.pick [.blk b11 (.cells #[.slice VB v2.length vb, .slice SB st2.length sb] 47 (0, 0)), .blk b10 (.cells (prC p QA qc (some ⟨ib, io, none⟩) ic) 45 (0, 0)), .blk b3 (.cells (obC o CA NA (some ⟨pb, po, none⟩) cc nc pc) 26 (0, 0))] ?_
    exact WK.again ⟨k + 1, nm, v2, st2, VB, vb, SB, sb, G9⟩ (by dsimp only; omega) (again (nm) (hn6 rfl)) (by exact ⟨rfl, rfl, rfl, rfl, rfl, rfl, rfl, trivial⟩) rfl (List.Sublist.refl _)
  | false =>
    refine gom ?_
    refine WK.pick [.blk b11 (.cells #[.slice VB v2.length vb, .slice SB st2.length sb] 47 (0, 0)), .blk b10 (.cells (prC p QA qc (some ⟨ib, io, none⟩) ic) 45 (0, 0)), .blk b3 (.cells (obC o CA NA (some ⟨pb, po, none⟩) cc nc pc) 26 (0, 0))] ?_
    exact WK.again ⟨k + 1, at_ + 1, v2, st2, VB, vb, SB, sb, G9⟩ (by dsimp only; omega) (again (at_ + 1) (hn1 h5)) (by exact ⟨rfl, rfl, rfl, rfl, rfl, rfl, rfl, trivial⟩) rfl (List.Sublist.refl _)
end
end Go.Proofs.YtkmigdmdppkpoaaGreatDoor.Gb
namespace Go.Proofs.YtkmigdmdppkpoaaGreatDoor.Gb
open Go Go.RowKit Go.ChangeShapes Go.WideShapes

section
variable {H : Type} (enc : TypeId × Value → H) (P : Program) (w : World)

/-- values of a type are known, with what their weights say -/
def Opens (t : TypeId) {α : Type} (k : Kd α) (B : α → Prop) : Prop :=
  ∀ fuel cs d ps, DataW.trod enc P w 0 (fun _ => true) true fuel t cs = some (d, ps) → (∀ n ∈ d.weights P t, n ≤ reachBytes) → ∃ a, k.K (Gw w) a cs ∧ B a

theorem Opens.mono {t : TypeId} {α : Type} {k : Kd α} {B B' : α → Prop} (h : Opens enc P w t k B) (hb : ∀ a, B a → B' a) : Opens enc P w t k B' :=
  fun fuel cs d ps e hw => let ⟨a, h1, h2⟩ := h fuel cs d ps e hw; ⟨a, h1, hb a h2⟩
theorem Opens.int {t : TypeId} {i : IntKind} (ht : P.underlying t = some (.int i)) : Opens enc P w t (Kd.int i) (fun n => (Lit.int i n).wf = true) :=
  fun fuel cs d ps e _ => let ⟨n, h1, _, h3⟩ := DataW.trod_int ht e; ⟨n, h1, h3⟩
theorem Opens.bool {t : TypeId} (ht : P.underlying t = some .bool) : Opens enc P w t Kd.bool (fun _ => True) :=
  fun fuel cs d ps e _ => let ⟨n, h1, _⟩ := DataW.trod_bool ht e; ⟨n, h1, trivial⟩
theorem Opens.str {t : TypeId} (ht : P.underlying t = some .string) : Opens enc P w t Kd.str (fun s => s.size ≤ 140737488351232) :=
  fun fuel cs d ps e hw => by
    obtain ⟨s, h1, h2, h3⟩ := DataW.trod_string ht e
    obtain ⟨rfl, rfl⟩ := Prod.mk.inj h2
    refine ⟨s, h1, ?_⟩
    have := hw s.data.toList.length (by simp [DataW.weights])
    rw [Array.length_toList] at this
    exact this

theorem weightsAll_mem {e : TypeId} : ∀ {ds : List (DataW H)} {j : Nat} {d : DataW H}, ds[j]? = some d → ∀ n ∈ d.weights P e, n ∈ DataW.weightsAll P e ds
  | d0 :: ds, 0, d, hd, n, hn => by
    simp only [List.getElem?_cons_zero, Option.some.injEq] at hd
    subst hd
    simp only [DataW.weightsAll, List.mem_append]
    exact .inl hn
  | d0 :: ds, j + 1, d, hd, n, hn => by
    simp only [List.getElem?_cons_succ] at hd
    simp only [DataW.weightsAll, List.mem_append]
    exact .inr (weightsAll_mem hd n hn)
  | [], _, _, hd, _, _ => by simp at hd

theorem mapM_cells {a : Addr} : ∀ {l : List Nat} {cs : List Value}, (l.mapM fun i => w.cell? (a.add i)) = some cs → cs.length = l.length ∧ ∀ (j i : Nat) (v : Value), l[j]? = some i → cs[j]? = some v → w.cell? (a.add i) = some v
  | [], cs, h => by
    simp at h; subst h
    exact ⟨rfl, fun j i v e => by simp at e⟩
  | i0 :: l, cs, h => by
    rw [List.mapM_cons] at h
    cases h0 : w.cell? (a.add i0) with
    | none => rw [h0] at h; simp at h
    | some v0 =>
      rw [h0] at h
      cases h1 : l.mapM (fun i => w.cell? (a.add i)) with
      | none => rw [h1] at h; simp at h
      | some cs' =>
        rw [h1] at h
        simp at h
        subst h
        obtain ⟨h2, h3⟩ := mapM_cells h1
        refine ⟨by simp [h2], fun j i v ej ev => ?_⟩
        cases j with
        | zero => simp at ej ev; subst ej ev; exact h0
        | succ j => simp at ej ev; exact h3 j i v ej ev

theorem cells_get {b : Nat} {a : Addr} {n : Nat} {cs : List Value} (h : w.cells? b a n = some cs) : cs.length = n ∧ ∀ (j : Nat) (v : Value), cs[j]? = some v → w.cell? (a.add j) = some v := by
  unfold World.cells? at h
  split at h
  · obtain ⟨h1, h2⟩ := mapM_cells w h
    rw [List.length_range] at h1
    refine ⟨h1, fun j v e => h2 j j v ?_ e⟩
    have hj := (List.getElem?_eq_some_iff.1 e).1
    rw [List.getElem?_range (by omega)]
  · cases h

theorem cell_plain {a : Addr} {v : Value} (h : w.cell? a = some v) : a.spot = none := by
  unfold World.cell? at h
  split at h
  · split at h
    · cases h
    · rename_i hs; simpa using hs
  · cases h

theorem Opens.slice {t e : TypeId} {α : Type} {k : Kd α} {B : α → Prop} (ht : P.underlying t = some (.slice e)) (hc : P.cellsOf e = k.n) (h0 : 0 < k.n) {by_ : Nat} (hby : P.bytesOf e = by_) (h : Opens enc P w e k B) :
    Opens enc P w t (Kd.slice k) (fun xs => xs.length * by_ ≤ 140737488351232 ∧ ∀ x ∈ xs, B x) := by
  subst hby
  intro fuel cs d ps hd hw
  rcases DataW.trod_slice ht hd with ⟨rfl, _⟩ | ⟨a, len, cap, elems, rest, n, _, rfl, hx, _, hl, _, hlen, hel, _, _⟩
  · exact ⟨[], ⟨none, 0, rfl, Nat.le_refl _, Sl.nil _ _ _⟩, by simp, by simp⟩
  · obtain ⟨rfl, rfl⟩ := Prod.mk.inj hx
    have hw1 : (elems.length + rest.length) * P.bytesOf e ≤ reachBytes := by
      have := hw ((elems.map (·.1)).length + (rest.map (·.1)).length |> (· * P.bytesOf e)) (by simp [DataW.weights, ht])
      simpa using this
    have hwe : ∀ (j : Nat) (d' : DataW H), (elems.map (·.1))[j]? = some d' → ∀ n ∈ d'.weights P e, n ≤ reachBytes := fun j d' hj n hn =>
      hw n (by simp only [DataW.weights, ht, List.mem_cons, List.mem_append]; exact .inr (.inl (weightsAll_mem P hj n hn)))
    have one : ∀ i, i < len → ∃ y cs', w.cells? 0 (a.add (i * P.cellsOf e)) (P.cellsOf e) = some cs' ∧ k.K (Gw w) y cs' ∧ B y := by
      intro i hi
      have hi' := hel i hi
      cases hcs : w.cells? 0 (a.add (i * P.cellsOf e)) (P.cellsOf e) with
      | none =>
        rw [hcs, List.getElem?_eq_getElem (by omega)] at hi'
        cases hi'
      | some cs' =>
        rw [hcs, List.getElem?_eq_getElem (by omega : i < elems.length)] at hi'
        simp only [Option.bind_some] at hi'
        obtain ⟨y, h1, h2⟩ := h n cs' _ _ hi' (hwe i _ (by rw [List.getElem?_map, List.getElem?_eq_getElem (by omega : i < elems.length)]; rfl))
        exact ⟨y, cs', rfl, h1, h2⟩
    have all : ∀ m, m ≤ len → ∃ xs : List α, xs.length = m ∧ (∀ x ∈ xs, B x) ∧ ∀ i x, xs[i]? = some x → ∃ cs', w.cells? 0 (a.add (i * P.cellsOf e)) (P.cellsOf e) = some cs' ∧ k.K (Gw w) x cs' := by
      intro m
      induction m with
      | zero => exact fun _ => ⟨[], rfl, by simp, by simp⟩
      | succ m ih =>
        intro hm
        obtain ⟨xs, e1, e2, e3⟩ := ih (by omega)
        obtain ⟨y, cs', h1, h2, h3⟩ := one m (by omega)
        refine ⟨xs ++ [y], by simp [e1], fun x hx => ?_, fun i x hx => ?_⟩
        · rcases List.mem_append.1 hx with hx | hx
          · exact e2 x hx
          · simp at hx; subst hx; exact h3
        · rcases Nat.lt_or_ge i xs.length with hi | hi
          · rw [List.getElem?_append_left hi] at hx; exact e3 i x hx
          · have : i = m := by have := (List.getElem?_eq_some_iff.1 hx).1; simp at this; omega
            subst this
            rw [List.getElem?_append_right hi] at hx
            simp [e1] at hx
            subst hx
            exact ⟨cs', h1, h2⟩
    obtain ⟨xs, e1, e2, e3⟩ := all len (Nat.le_refl _)
    refine ⟨xs, ⟨some a, cap, by rw [e1], by omega, fun i x hx => ?_⟩, ?_, e2⟩
    · have hi := (List.getElem?_eq_some_iff.1 hx).1
      obtain ⟨cs0, h10, h20⟩ := e3 0 _ (List.getElem?_eq_getElem (by omega : 0 < xs.length))
      obtain ⟨h30, h40⟩ := cells_get w h10
      have hsp := cell_plain w (h40 0 _ (List.getElem?_eq_getElem (by rw [h30, hc]; exact h0)))
      obtain ⟨cs', h1, h2⟩ := e3 i x hx
      obtain ⟨h3, h4⟩ := cells_get w h1
      obtain ⟨ab, ao, asp⟩ := a
      obtain rfl : asp = none := by simpa [Addr.add] using hsp
      refine ⟨ab, ao, cs', rfl, h2, fun j v e => ?_⟩
      have h5 := h4 j v e
      rw [hc] at h5
      have e5 : ((⟨ab, ao, none⟩ : Addr).add (i * k.n)).add j = ⟨ab, ao + i * k.n + j, none⟩ := by
        unfold Addr.add
        split <;> split <;> simp_all
      rw [e5] at h5
      exact h5
    · rw [e1, ← hlen]
      exact Nat.le_trans (Nat.mul_le_mul_right _ (Nat.le_add_right _ _)) hw1

/-- a struct's field -/
theorem field_raw {t : TypeId} {fs : Array Field} {fuel : Nat} {cs : List Value} {d : DataW H} {ps : List MemPlace} (ht : P.underlying t = some (.struct fs)) (hd : DataW.trod enc P w 0 (fun _ => true) true fuel t cs = some (d, ps)) (hw : ∀ n ∈ d.weights P t, n ≤ reachBytes) :
    cs.length = P.cellsOf t ∧ ∀ (i : Nat) (f : Field), fs[i]? = some f → ∀ {t' o n : Nat}, f.type = t' → f.offset = o → P.cellsOf t' = n → ∃ fuel' d' ps', DataW.trod enc P w 0 (fun _ => true) true fuel' t' ((cs.drop o).take n) = some (d', ps') ∧ ∀ n ∈ d'.weights P t', n ≤ reachBytes := by
  obtain ⟨xs, n, _, hx, hl, hn, hf⟩ := DataW.trod_struct ht hd
  obtain ⟨rfl, rfl⟩ := Prod.mk.inj hx
  refine ⟨hl, fun i f hi t' o n' e1 e2 e3 => ?_⟩
  subst e1 e2 e3
  have h1 := hf i f hi
  have hilt : i < xs.length := by rw [hn]; exact (Array.getElem?_eq_some_iff.1 hi).1
  rw [List.getElem?_eq_getElem hilt] at h1
  refine ⟨n, _, _, h1, fun m hm => hw m ?_⟩
  simp only [DataW.weights, ht]
  exact DataW.weights_mem_each (j := i) (t := f.type) (d := (xs[i]).1) (by simp [hi]) (by simp [hilt]) m hm
theorem field_open {t : TypeId} {fs : Array Field} {fuel : Nat} {cs : List Value} {d : DataW H} {ps : List MemPlace} (ht : P.underlying t = some (.struct fs)) (hd : DataW.trod enc P w 0 (fun _ => true) true fuel t cs = some (d, ps)) (hw : ∀ n ∈ d.weights P t, n ≤ reachBytes) :
    cs.length = P.cellsOf t ∧ ∀ (i : Nat) (f : Field), fs[i]? = some f → ∀ {t' o n : Nat}, f.type = t' → f.offset = o → P.cellsOf t' = n → ∀ {α : Type} {k : Kd α} {B : α → Prop}, Opens enc P w t' k B → ∃ a, k.K (Gw w) a ((cs.drop o).take n) ∧ B a := by
  obtain ⟨hl, hf⟩ := field_raw enc P w ht hd hw
  refine ⟨hl, fun i f hi t' o n e1 e2 e3 α k B hO => ?_⟩
  obtain ⟨fuel', d', ps', h1, h2⟩ := hf i f hi e1 e2 e3
  exact hO fuel' _ d' ps' h1 h2
end
theorem Kept.same {W W' : World} (h : Kept W W') {p : MemPlace} (hp : p.block < W.heap.size) : W.sameAt W' p := by
  cases p with
  | cell b o => exact World.cell?_of_block (w := W) (h.heap b hp)
  | map b => exact h.heap b hp
/-- an argument reads as it did -/
theorem Kept.trod {H : Type} {enc : TypeId × Value → H} {P : Program} {t : TypeId} (hl : laidOutB P = true) (hr : P.readableRec t = true) (hrow : t < P.types.size) {W W' : World} {v : Value} {d : DataW H} {ps : List MemPlace}
    (h : DataW.Trod enc P W 0 (fun _ => true) true t v d ps) (hb : Kept W W') :
    DataW.Trod enc P W' 0 (fun b => decide (b < W.heap.size)) true t v d ps := by
  have hlt : ∀ x ∈ ps, x.block < W.heap.size := by obtain ⟨m, hm⟩ := h; exact DataW.trod_lt m _ _ _ hm
  exact WideElems.Trod_stays hl hr hrow h (fun x hx => hb.same (hlt x hx)) (fun x hx => by simpa using hlt x hx)
theorem sized_each {H : Type} {P : Program} {ts : List TypeId} {ds : List (DataW H)} (h : (DataW.weightsEach P ts ds).all (· ≤ reachBytes) = true) {j : Nat} {t : TypeId} {d : DataW H} (ht : ts[j]? = some t) (hd : ds[j]? = some d) : ∀ n ∈ d.weights P t, n ≤ reachBytes :=
  fun n hn => by simpa using List.all_eq_true.1 h _ (DataW.weights_mem_each ht hd n hn)
end Go.Proofs.YtkmigdmdppkpoaaGreatDoor.Gb
namespace Go.Proofs.YtkmigdmdppkpoaaGreatDoor.Gb
open Go Go.Proofs Go.RowKit Go.ChangeShapes Go.WideShapes
set_option linter.unusedVariables false
section
variable {H : Type} (enc : TypeId × Value → H) (P : Program) (w : World)
theorem open_sliceK {t e : TypeId} {α : Type} {k : Kd α} {B : α → Prop} (ht : P.underlying t = some (.slice e)) (hc : P.cellsOf e = k.n) (h0 : 0 < k.n) {by_ : Nat} (hby : P.bytesOf e = by_) (h : Opens enc P w e k B)
    {v : Value} {d : DataW H} {ps : List MemPlace} {base : Nat} (hval : Value.okWide P w .any base t v) (hd : DataW.Trod enc P w 0 (fun _ => true) true t v d ps) (hw : ∀ n ∈ d.weights P t, n ≤ reachBytes) :
    ∃ (A : Option Addr) (cap : Nat) (xs : List α), v = .slice A xs.length cap ∧ xs.length ≤ cap ∧ Sl k (Gw w) A xs ∧ xs.length * by_ ≤ 140737488351232 ∧ ∀ x ∈ xs, B x := by
  obtain ⟨A, len, cap, rfl⟩ := okWide_slice ht hval
  obtain ⟨fuel, hd⟩ := hd
  obtain ⟨xs, ⟨A', cap', h1, hle, h2⟩, h3, h4⟩ := Opens.slice enc P w ht hc h0 hby h fuel _ d ps hd hw
  have e1 : [Value.slice A len cap] = [Value.slice A' xs.length cap'] := h1
  cases e1
  exact ⟨_, _, xs, rfl, hle, h2, h3, h4⟩
end
end Go.Proofs.YtkmigdmdppkpoaaGreatDoor.Gb
