/- Small functions of the verifier: types are compared, joined, copied; states likewise. States of the verifier: copied, joined, compared; where an instruction goes on. What an instruction takes and lays down: walked. What is known behind an instruction: walked. Many states in memory that is ours; numbers and texts as a map's keys. The verifier finds the least states of a procedure: walked. Whether what an instruction takes is of the right types; what is wrong with an instruction: walked. -/
import Derived.Test.YtbfgljcjblfleaaGreatDoorMc
set_option linter.unusedVariables false
set_option linter.unusedSimpArgs false
set_option linter.unusedSectionVars false
namespace Go.Proofs.YtbfgljcjblfleaaGreatDoor.Gb
open Go Go.Proofs
attribute [local irreducible] Tryz.prog
theorem WL.nothing {P : Program} {Q : Exit → Act → World → Prop} {cx : Cx} {L : List (Nat × Value)} {G : Gh} {H : List Own} {ops : Array Oper} {rest : List Oper} (h : WL P ops Q rest cx L G (.spare 0 0 0 :: H)) : WL P ops Q rest cx L G H :=
  WK.nothing (K := fun a w => wpList P ops Q rest a w) h
theorem WL.frozenVec {P : Program} {Q : Exit → Act → World → Prop} {cx : Cx} {L : List (Nat × Value)} {G : Gh} {H : List Own} {ops : Array Oper} {rest : List Oper} {T sz n cap j : Nat} {A : Option Addr} {cs : List Value} {x : Own} (hv : Vec T sz A n cap cs x) (hj : At H j x)
    (h : ∀ G', G.le G' → (cs = [] ∨ ∃ b, A = some ⟨b, 0, none⟩ ∧ Cs G' b 0 cs) → WL P ops Q rest cx L G' (H.eraseIdx j)) : WL P ops Q rest cx L G H :=
  WK.frozenVec (K := fun a w => wpList P ops Q rest a w) hv hj h
theorem wrapI {x : Int} (h0 : -1000000000000000 ≤ x) (h1 : x ≤ 1000000000000000) : IntKind.i64.wrap x = x := by rw [IntKind.wrap_i64]; omega
theorem wrapS (n : Nat) (h : n ≤ 100000000000000) : IntKind.i64.wrap ((n : Int) + 1) = ((n + 1 : Nat) : Int) := by
  have e := wrapI (x := (n : Int) + 1) (by omega) (by omega)
  rw [e]; rfl
theorem Sl.none_len {G : Gh} {A : Option Addr} {l : List Int} (h : Sl (Kd.int .i64) G A l) : A = none → l.length = 0 := fun hA => h.none_zero hA
theorem Sl.at {G : Gh} {A : Option Addr} {l : List Int} (h : Sl (Kd.int .i64) G A l) {i : Nat} {x : Int} (hx : l[i]? = some x) : ∃ b o, A = some ⟨b, o, none⟩ ∧ Cs G b (o + i * 1) [.int .i64 x] := by
  obtain ⟨b, o, cs, e, hk, hc⟩ := h i x hx
  obtain rfl : cs = [.int .i64 x] := hk
  exact ⟨b, o, e, hc⟩
theorem equal_types (G : Gh) (H : List Own) (A B : Option Addr) (ca cb : Nat) (l m : List Int) (ha : Sl (Kd.int .i64) G A l) (hb : Sl (Kd.int .i64) G B m) (hl : l.length ≤ 1000000000) :
    Fn Tryz.prog 66 #[.slice A l.length ca, .slice B m.length cb] G H fun e G' H' => e = .returned (.bool (l == m)) ∧ G = G' ∧ H' = H := by
  refine Fn.enter Tryz.func66 rfl rfl fun w0 => ?_
  by_cases hne : l.length = m.length
  rotate_left
  · have e1 : ((l.length : Int) != (m.length : Int)) = true := by rw [bne_iff_ne]; omega
    refine gom ?_
    have he : (l == m) = false := by rw [beq_eq_false_iff_ne]; intro e; exact hne (by rw [e])
    refine WC.ret ?_
    refine WK.un ?_
    exact QF.p1 (.inl rfl) rfl (.tmp rfl) (⟨by rw [he], rfl, rfl⟩)
  have e1 : ((l.length : Int) != (m.length : Int)) = false := by rw [hne]; simp
  refine gom ?_
  refine WC.loop (X := Nat) (fun i => [(13, .int .i64 i), (12, .int .i64 l.length), (0, .slice A l.length ca), (1, .slice B m.length cb)]) (fun _ => G) (fun _ => H) (fun i => l.length - i) (fun i => i ≤ l.length ∧ ∀ j, j < i → l[j]? = m[j]?) 0 ⟨Nat.zero_le _, fun j h => by omega⟩ (by exact ⟨rfl, rfl, rfl, rfl, trivial⟩) rfl (List.Sublist.refl _) fun i hx => ?_
  obtain ⟨hi, hall⟩ := hx
  by_cases hlt : i < l.length
  rotate_left
  · have e2 : decide ((i : Int) < (l.length : Int)) = false := decide_eq_false (by omega)
    refine gom ?_
    have he : (l == m) = true := by
      rw [beq_iff_eq]
      refine List.ext_getElem? fun j => ?_
      rcases Nat.lt_or_ge j i with h | h
      · exact hall j h
      · rw [List.getElem?_eq_none (by omega), List.getElem?_eq_none (by omega)]
    refine WC.ret ?_
    refine WK.un ?_
    exact QF.p1 (.inl rfl) rfl (.tmp rfl) (⟨by rw [he], rfl, rfl⟩)
  have e2 : decide ((i : Int) < (l.length : Int)) = true := decide_eq_true (by omega)
  obtain ⟨x, hx⟩ : ∃ x, l[i]? = some x := ⟨_, List.getElem?_eq_getElem hlt⟩
  obtain ⟨y, hy⟩ : ∃ y, m[i]? = some y := ⟨_, List.getElem?_eq_getElem (by omega)⟩
  obtain ⟨ab, ao, rfl, hca⟩ := ha.at hx
  obtain ⟨bb, bo, rfl, hcb⟩ := hb.at hy
  have x0 : (0 : Int) ≤ i := by omega
  have x2 : (i : Int) < (l.length : Int) := by omega
  have x3 : (i : Int) < (m.length : Int) := by omega
  have x4 := wrapS i (by omega)
  by_cases hxy : x = y
  · have e3 : (x != y) = false := by simpa using hxy
    refine gom ?_
    exact WK.again (i + 1) (by omega) ⟨by omega, fun j hj => by
      rcases Nat.lt_or_ge j i with h | h
      · exact hall j h
      · obtain rfl : j = i := by omega
        rw [hx, hy, hxy]⟩ (by exact ⟨rfl, rfl, rfl, rfl, trivial⟩) rfl (List.Sublist.refl _)
  · have e3 : (x != y) = true := by simpa using hxy
    refine gom ?_
    have he : (l == m) = false := by rw [beq_eq_false_iff_ne]; intro e; rw [e, hy] at hx; exact hxy (Option.some.inj hx).symm
    refine WC.ret ?_
    refine WK.un ?_
    exact QF.p1 (.inl rfl) rfl (.tmp rfl) (⟨by rw [he], rfl, rfl⟩)
theorem ints_set (l : List Int) (i : Nat) (x : Int) : ints (l.set i x) = (ints l).set i (.int .i64 x) := by rw [ints, ints, List.map_set]
theorem ints_append (l m : List Int) : ints (l ++ m) = ints l ++ ints m := by simp [ints]
theorem IVec.put {T cap b i : Nat} {A : Option Addr} {l : List Int} {c : Array Value} (h : IVec T A l cap (.blk b (.cells c T (0, 0)))) (hi : i < l.length) (x : Int) :
    A = some ⟨b, 0, none⟩ ∧ i + 1 ≤ c.size ∧ IVec T A (l.set i x) cap (.blk b (.cells (splice c i [.int .i64 x]) T (0, 0))) := by
  obtain ⟨h1, h2, h3⟩ := Vec.put1 h (o := i) (by omega) (.int .i64 x)
  exact ⟨h1, h2, by unfold IVec; rw [ints_set, List.length_set]; exact h3⟩
theorem IVec.some {T cap : Nat} {A : Option Addr} {l : List Int} {x : Own} (h : IVec T A l cap x) (hl : 0 < l.length) : ∃ b c, A = some ⟨b, 0, none⟩ ∧ x = .blk b (.cells c T (0, 0)) ∧ c.toList.take (l.length * 1) = ints l := by
  obtain ⟨_, ⟨_, h, _⟩ | ⟨b, c, h1, h2, _, _, h3⟩⟩ := h
  · omega
  · exact ⟨b, c, h1, h2, h3⟩
theorem ivec_get {c : Array Value} {l : List Int} {i : Nat} {x : Int} (h : c.toList.take (l.length * 1) = ints l) (hx : l[i]? = Option.some x) : c[i]? = Option.some (.int .i64 x) := by
  have h1 := ints_at hx
  rw [← h, List.getElem?_take] at h1
  split at h1
  · simpa using h1
  · cases h1
theorem joinRow_get : ∀ {a b : List Int} {i : Nat} {x y : Int}, a[i]? = some x → b[i]? = some y → (joinRow a b)[i]? = some (joinT x y)
  | a :: a', b :: b', 0, x, y, h1, h2 => by simp at h1 h2; subst h1 h2; rfl
  | a :: a', b :: b', i + 1, x, y, h1, h2 => by simp only [List.getElem?_cons_succ] at h1 h2; simpa [joinRow] using joinRow_get h1 h2
  | [], _, _, _, _, h1, _ => by simp at h1
  | _ :: _, [], _, _, _, _, h2 => by simp at h2
theorem joinRow_fn (G : Gh) (A B : Option Addr) (ca cb : Nat) (l m : List Int) (ha : Sl (Kd.int .i64) G A l) (hb : Sl (Kd.int .i64) G B m) (hl : l.length ≤ 1000000000) (hlm : l.length = m.length) :
    Fn Tryz.prog 65 #[.slice A l.length ca, .slice B m.length cb] G [] fun e G' H' => ∃ A' cap', e = .returned (.slice A' (joinRow l m).length cap') ∧ G.le G' ∧ (joinRow l m).length ≤ cap' ∧ Sl (Kd.int .i64) G' A' (joinRow l m) ∧ H' = [] := by
  have hjl := joinRow_length hlm
  refine Fn.enter Tryz.func65 rfl rfl fun w0 => ?_
  refine gom ?_
  refine WL.op (by kernel_rfl) (OW.callK rfl (clone_types G [] A l.length ca (ints l) ha.ints (ints_length l) (ints_one l) ha.none_len (by omega)) rfl fun v' G' H' h hg => ?_)
  obtain ⟨A1, cap1, x1, he, rfl, rfl, hx1⟩ := h
  cases he
  refine gom ?_
  refine WC.loop (X := Nat × List Int × Own) (fun t => [(11, .int .i64 t.1), (10, .int .i64 l.length), (5, .slice A1 l.length cap1), (1, .slice B m.length cb)]) (fun _ => G) (fun t => [t.2.2]) (fun t => l.length - t.1)
    (fun t => t.1 ≤ l.length ∧ t.2.1.length = l.length ∧ IVec 47 A1 t.2.1 cap1 t.2.2 ∧ (∀ j, t.1 ≤ j → t.2.1[j]? = l[j]?) ∧ ∀ j, j < t.1 → t.2.1[j]? = (joinRow l m)[j]?) (0, l, x1) ⟨Nat.zero_le _, rfl, hx1, fun j _ => rfl, fun j h => by omega⟩ (by exact ⟨rfl, rfl, rfl, rfl, trivial⟩) rfl (List.Sublist.refl _) fun t ht => ?_
  obtain ⟨i, l2, x2⟩ := t
  obtain ⟨hi, hl2, hx2, hhi, hlo⟩ := ht
  dsimp only at hi hl2 hx2 hhi hlo
  by_cases hlt : i < l.length
  rotate_left
  · have e2 : decide ((i : Int) < (l.length : Int)) = false := decide_eq_false (by omega)
    have hl2e : l2 = joinRow l m := List.ext_getElem? fun j => by
      rcases Nat.lt_or_ge j i with h | h
      · exact hlo j h
      · rw [List.getElem?_eq_none (by omega), List.getElem?_eq_none (by omega)]
    subst hl2e
    refine gom ?_
    refine WC.frozenVec hx2 (by (repeat first | exact .here | apply At.there)) fun G2 h2 z2 => ?_
    have hs := IVec.sl z2
    have hcap := hx2.le
    rw [← hjl]
    refine WC.ret ?_
    refine WK.un ?_
    exact QF.p1 (.inl rfl) rfl (.tmp rfl) (⟨A1, cap1, rfl, h2, hcap, hs, rfl⟩)
  have e2 : decide ((i : Int) < (l.length : Int)) = true := decide_eq_true (by omega)
  obtain ⟨x, hx⟩ : ∃ x, l[i]? = some x := ⟨_, List.getElem?_eq_getElem hlt⟩
  obtain ⟨y, hy⟩ : ∃ y, m[i]? = some y := ⟨_, List.getElem?_eq_getElem (by omega)⟩
  obtain ⟨bb, bo, rfl, hcb⟩ := hb.at hy
  obtain ⟨xb, xc, rfl, rfl, hxc⟩ := hx2.some (by omega)
  have hxg : xc[0 + ((i : Nat) : Int).toNat * 1]? = some (.int .i64 x) := by
    have := ivec_get hxc (i := i) (x := x) (by rw [hhi i (Nat.le_refl _), hx])
    simpa using this
  have x0 : (0 : Int) ≤ i := by omega
  have x2 : (i : Int) < (l.length : Int) := by omega
  have x3 : (i : Int) < (m.length : Int) := by omega
  have x4 := wrapS i (by omega)
  have hjg := joinRow_get hx hy
  by_cases hxy : x = y
  · have e3 : (x != y) = false := by simpa using hxy
    refine gom ?_
    exact WK.again (i + 1, l2, _) (by dsimp only; omega) ⟨by dsimp only; omega, hl2, hx2, fun j hj => hhi j (by dsimp only at hj; omega), fun j hj => by
      dsimp only at hj ⊢
      rcases Nat.lt_or_ge j i with h | h
      · exact hlo j h
      · obtain rfl : j = i := by omega
        rw [hhi j (Nat.le_refl _), hjg, hx, joinT, if_pos hxy]⟩ (by exact ⟨rfl, rfl, rfl, rfl, trivial⟩) rfl (List.Sublist.refl _)
  · have e3 : (x != y) = true := by simpa using hxy
    obtain ⟨_, hfit, hput⟩ := IVec.put hx2 (i := i) (by omega) 0
    have hi0 : 0 + ((i : Nat) : Int).toNat * 1 = i := by omega
    have hfit' : Nat.ble (0 + ((i : Nat) : Int).toNat * 1 + 1) xc.size = true := Nat.ble_eq_true_of_le (by omega)
    rw [← hi0] at hput
    refine gom ?_
    rw [hi0] at hput ⊢
    exact WK.again (i + 1, l2.set i 0, _) (by dsimp only; omega) ⟨by dsimp only; omega, by simpa using hl2, hput, fun j hj => by
      dsimp only at hj ⊢
      rw [List.getElem?_set_ne (by omega)]; exact hhi j (by omega), fun j hj => by
      dsimp only at hj ⊢
      rcases Nat.lt_or_ge j i with h | h
      · rw [List.getElem?_set_ne (by omega)]; exact hlo j h
      · obtain rfl : j = i := by omega
        rw [List.getElem?_set_self (by omega), hjg, joinT, if_neg hxy]⟩ (by exact ⟨rfl, rfl, rfl, rfl, trivial⟩) rfl (List.Sublist.refl _)
end Go.Proofs.YtbfgljcjblfleaaGreatDoor.Gb
namespace Go.Proofs.YtbfgljcjblfleaaGreatDoor.Gb
open Go Go.Proofs
attribute [local irreducible] Tryz.prog
abbrev ssV (s : SS) (VA : Option Addr) (vc : Nat) (SA : Option Addr) (sc : Nat) : Value := .agg #[.bool s.reached, .bool s.unlike, .slice VA s.vars.length vc, .slice SA s.stack.length sc]
structure SRep (G : Gh) (s : SS) (VA : Option Addr) (vc : Nat) (SA : Option Addr) (sc : Nat) : Prop where
  hv : s.vars.length ≤ vc
  hs : s.stack.length ≤ sc
  vars : Sl (Kd.int .i64) G VA s.vars
  stack : Sl (Kd.int .i64) G SA s.stack
theorem SRep.mono {G G' : Gh} {s : SS} {VA : Option Addr} {vc : Nat} {SA : Option Addr} {sc : Nat} (h : SRep G s VA vc SA sc) (hg : G.le G') : SRep G' s VA vc SA sc := ⟨h.hv, h.hs, h.vars.mono hg, h.stack.mono hg⟩
abbrev TVec (A : Option Addr) (l : List Int) (cap : Nat) (x : Own) : Prop := IVec 47 A l cap x
theorem copied_fn (G : Gh) (s : SS) (VA : Option Addr) (vc : Nat) (SA : Option Addr) (sc : Nat) (h : SRep G s VA vc SA sc) (hv : s.vars.length ≤ 1000000000) (hs : s.stack.length ≤ 1000000000) :
    Fn Tryz.prog 27 #[ssV s VA vc SA sc] G [] fun e G' H' => ∃ VA' vc' SA' sc' x y, e = .returned (ssV s VA' vc' SA' sc') ∧ G = G' ∧ H' = [x, y] ∧ TVec VA' s.vars vc' x ∧ TVec SA' s.stack sc' y := by
  refine Fn.enter Tryz.func27 rfl rfl fun w0 => ?_
  refine WC.seq ?_
  refine WC.region ?_
  refine WL.op (by kernel_rfl) (OW.box rfl rfl fun b1 => ?_)
  refine WL.op (by kernel_rfl) (OW.alloc rfl fun b2 => ?_)
  refine gom ?_
  refine WL.op (by kernel_rfl) (OW.callK rfl (clone_types G [] VA s.vars.length vc (ints s.vars) h.vars.ints (ints_length _) (ints_one _) h.vars.none_len (by omega)) rfl fun v' G' H' h hg => ?_)
  obtain ⟨A1, cap1, x1, he, rfl, rfl, hx1⟩ := h
  cases he
  refine gom ?_
  refine WL.op (by kernel_rfl) (OW.callK rfl (clone_types G [] SA s.stack.length sc (ints s.stack) h.stack.ints (ints_length _) (ints_one _) h.stack.none_len (by omega)) rfl fun v' G' H' h hg => ?_)
  obtain ⟨A2, cap2, x2, he, rfl, rfl, hx2⟩ := h
  cases he
  refine gom ?_
  refine WC.ret ?_
  refine WK.un ?_
  exact QF.p1 (.inl rfl) rfl (.cell rfl inferInstance inferInstance (by (repeat first | exact .here | apply At.there)) rfl rfl) (⟨A1, cap1, A2, cap2, x1, x2, rfl, rfl, rfl, hx1, hx2⟩)
theorem joined_fn (G : Gh) (a b : SS) (VA VB : Option Addr) (va vb : Nat) (SA SB : Option Addr) (sa sb : Nat) (ha : SRep G a VA va SA sa) (hb : SRep G b VB vb SB sb) (hl : a.reached = true → b.reached = true → a.vars.length = b.vars.length) (hv : a.vars.length ≤ 1000000000) (hs : a.stack.length ≤ 1000000000) :
    Fn Tryz.prog 52 #[ssV a VA va SA sa, ssV b VB vb SB sb] G [] fun e G' H' => ∃ V' v' S' s', e = .returned (ssV (joinS a b) V' v' S' s') ∧ G.le G' ∧ SRep G' (joinS a b) V' v' S' s' ∧ H' = [] := by
  refine Fn.enter Tryz.func52 rfl rfl fun w0 => ?_
  refine WC.seq ?_
  refine WC.region ?_
  refine WL.op (by kernel_rfl) (OW.box rfl rfl fun b1 => ?_)
  refine WL.op (by kernel_rfl) (OW.box rfl rfl fun b2 => ?_)
  refine WL.op (by kernel_rfl) (OW.alloc rfl fun b3 => ?_)
  obtain ⟨ar, au, av, ak⟩ := a
  obtain ⟨br, bu, bv, bk⟩ := b
  dsimp only at hl hv hs
  cases ar with
  | false =>
    rw [show joinS ⟨false, au, av, ak⟩ ⟨br, bu, bv, bk⟩ = ⟨br, bu, bv, bk⟩ from rfl]
    refine gom ?_
    refine WC.ret ?_
    refine WK.un ?_
    exact QF.p1 (.inl rfl) rfl (.cell rfl inferInstance inferInstance (by (repeat first | exact .here | apply At.there)) rfl rfl) (⟨VB, vb, SB, sb, rfl, Gh.le_refl _, hb, rfl⟩)
  | true =>
  cases br with
  | false =>
    rw [show joinS ⟨true, au, av, ak⟩ ⟨false, bu, bv, bk⟩ = ⟨true, au, av, ak⟩ from rfl]
    refine gom ?_
    refine WC.ret ?_
    refine WK.un ?_
    exact QF.p1 (.inl rfl) rfl (.cell rfl inferInstance inferInstance (by (repeat first | exact .here | apply At.there)) rfl rfl) (⟨VA, va, SA, sa, rfl, Gh.le_refl _, ha, rfl⟩)
  | true =>
  have hlen := hl rfl rfl
  refine gom ?_
  refine WL.op (by kernel_rfl) (OW.callK rfl (joinRow_fn G VA VB va vb av bv ha.vars hb.vars hv hlen) rfl fun v' G' H' h hg => ?_)
  obtain ⟨A1, cap1, he, hg1, hc1, hs1, rfl⟩ := h
  cases he
  refine WL.pick [.blk b1 (.cells #[.bool true, .bool au, .slice VA av.length va, .slice SA ak.length sa] 86 (0, 0)), .blk b2 (.cells #[.bool true, .bool bu, .slice VB bv.length vb, .slice SB bk.length sb] 86 (0, 0)), .blk b3 (.cells #[.bool false, .bool false, .slice none 0 0, .slice none 0 0] 86 (0, 0))] ?_
  refine gom ?_
  refine WL.op (by kernel_rfl) (OW.alloc rfl fun b6 => ?_)
  by_cases hc : au = true ∨ bu = true ∨ ak.length ≠ bk.length
  · rw [show joinS ⟨true, au, av, ak⟩ ⟨true, bu, bv, bk⟩ = ⟨true, true, joinRow av bv, []⟩ by unfold joinS; rw [if_neg (by simp), if_neg (by simp), if_pos hc]]
    cases au with
    | true =>
      refine gom ?_
      refine WC.ret ?_
      refine WK.un ?_
      exact QF.p1 (.inl rfl) rfl (.cell rfl inferInstance inferInstance (by (repeat first | exact .here | apply At.there)) rfl rfl) (⟨A1, cap1, none, 0, rfl, hg1, ⟨hc1, Nat.le_refl _, hs1, Sl.nil _ _ _⟩, rfl⟩)
    | false =>
    cases bu with
    | true =>
      refine gom ?_
      refine WC.ret ?_
      refine WK.un ?_
      exact QF.p1 (.inl rfl) rfl (.cell rfl inferInstance inferInstance (by (repeat first | exact .here | apply At.there)) rfl rfl) (⟨A1, cap1, none, 0, rfl, hg1, ⟨hc1, Nat.le_refl _, hs1, Sl.nil _ _ _⟩, rfl⟩)
    | false =>
      have hne : ((ak.length : Int) != (bk.length : Int)) = true := by
        rw [bne_iff_ne]; simp at hc; omega
      refine gom ?_
      refine WC.ret ?_
      refine WK.un ?_
      exact QF.p1 (.inl rfl) rfl (.cell rfl inferInstance inferInstance (by (repeat first | exact .here | apply At.there)) rfl rfl) (⟨A1, cap1, none, 0, rfl, hg1, ⟨hc1, Nat.le_refl _, hs1, Sl.nil _ _ _⟩, rfl⟩)
  · have hua : au = false := by cases h : au with | false => rfl | true => exact absurd (.inl h) hc
    have hub : bu = false := by cases h : bu with | false => rfl | true => exact absurd (.inr (.inl h)) hc
    have hsl : ak.length = bk.length := by apply Decidable.byContradiction; intro h; exact hc (.inr (.inr h))
    have hne : ((ak.length : Int) != (bk.length : Int)) = false := by rw [hsl]; simp
    rw [show joinS ⟨true, au, av, ak⟩ ⟨true, bu, bv, bk⟩ = ⟨true, false, joinRow av bv, joinRow ak bk⟩ by unfold joinS; rw [if_neg (by simp), if_neg (by simp), if_neg hc]]
    subst hua hub
    refine gom ?_
    refine WL.op (by kernel_rfl) (OW.callK rfl (joinRow_fn _ SA SB sa sb ak bk (ha.stack.mono hg1) (hb.stack.mono hg1) hs hsl) rfl fun v' G' H' h hg => ?_)
    obtain ⟨A2, cap2, he, hg2, hc2, hs2, rfl⟩ := h
    cases he
    refine gom ?_
    refine WC.ret ?_
    refine WK.un ?_
    exact QF.p1 (.inl rfl) rfl (.cell rfl inferInstance inferInstance (by (repeat first | exact .here | apply At.there)) rfl rfl) (⟨A1, cap1, A2, cap2, rfl, Gh.le_trans hg1 hg2, ⟨hc1, hc2, hs1.mono hg2, hs2⟩, rfl⟩)
theorem same_fn (G : Gh) (H : List Own) (a b : SS) (VA VB : Option Addr) (va vb : Nat) (SA SB : Option Addr) (sa sb : Nat) (ha : SRep G a VA va SA sa) (hb : SRep G b VB vb SB sb) (hv : a.vars.length ≤ 1000000000) (hs : a.stack.length ≤ 1000000000) :
    Fn Tryz.prog 53 #[ssV a VA va SA sa, ssV b VB vb SB sb] G H fun e G' H' => e = .returned (.bool (decide (a = b))) ∧ G = G' ∧ H' = H := by
  refine Fn.enter Tryz.func53 rfl rfl fun w0 => ?_
  refine WC.seq ?_
  refine WC.region ?_
  refine WL.op (by kernel_rfl) (OW.box rfl rfl fun b1 => ?_)
  refine WL.op (by kernel_rfl) (OW.box rfl rfl fun b2 => ?_)
  obtain ⟨ar, au, avs, ast⟩ := a
  obtain ⟨br, bu, bvs, bst⟩ := b
  dsimp only at hv hs
  cases hr : (ar == br) with
  | false =>
    have e1 : decide ((⟨ar, au, avs, ast⟩ : SS) = ⟨br, bu, bvs, bst⟩) = false := decide_eq_false (by intro e; cases e; simp at hr)
    rw [e1]
    refine gom ?_
    rw [hr]
    refine gom ?_
    refine WC.ret ?_
    refine WK.un ?_
    exact QF.p1 (.inl rfl) rfl (.tmp rfl) (⟨rfl, rfl, rfl⟩)
  | true =>
  cases hu : (au == bu) with
  | false =>
    have e1 : decide ((⟨ar, au, avs, ast⟩ : SS) = ⟨br, bu, bvs, bst⟩) = false := decide_eq_false (by intro e; cases e; simp at hu)
    rw [e1]
    refine gom ?_
    rw [hr]
    refine gom ?_
    rw [hu]
    refine gom ?_
    refine WC.ret ?_
    refine WK.un ?_
    exact QF.p1 (.inl rfl) rfl (.tmp rfl) (⟨rfl, rfl, rfl⟩)
  | true =>
  refine gom ?_
  rw [hr]
  refine gom ?_
  rw [hu]
  refine gom ?_
  refine WL.op (by kernel_rfl) (OW.callK rfl (equal_types G [] VA VB va vb avs bvs ha.vars hb.vars hv) rfl fun v' G' H' h hg => ?_)
  obtain ⟨he, rfl, rfl⟩ := h
  cases he
  refine WL.pick (.blk b2 (.cells #[.bool br, .bool bu, .slice VB bvs.length vb, .slice SB bst.length sb] 86 (0, 0)) :: .blk b1 (.cells #[.bool ar, .bool au, .slice VA avs.length va, .slice SA ast.length sa] 86 (0, 0)) :: H) ?_
  cases hv2 : (avs == bvs) with
  | false =>
    have e1 : decide ((⟨ar, au, avs, ast⟩ : SS) = ⟨br, bu, bvs, bst⟩) = false := decide_eq_false (by intro e; cases e; simp at hv2)
    rw [e1]
    refine gom ?_
    refine WC.ret ?_
    refine WK.un ?_
    exact QF.p1 (.inl rfl) rfl (.tmp rfl) (⟨rfl, rfl, rfl⟩)
  | true =>
  refine gom ?_
  refine WL.op (by kernel_rfl) (OW.callK rfl (equal_types G [] SA SB sa sb ast bst ha.stack hb.stack hs) rfl fun v' G' H' h hg => ?_)
  obtain ⟨he, rfl, rfl⟩ := h
  cases he
  refine WL.pick H ?_
  have e1 : decide ((⟨ar, au, avs, ast⟩ : SS) = ⟨br, bu, bvs, bst⟩) = (ast == bst) := by
    simp only [beq_iff_eq] at hr hu hv2
    subst hr hu hv2
    cases h : (ast == bst) with
    | false => exact decide_eq_false (by intro e; cases e; simp at h)
    | true => exact decide_eq_true (by rw [beq_iff_eq] at h; rw [h])
  rw [e1]
  refine gom ?_
  refine WC.ret ?_
  refine WK.un ?_
  exact QF.p1 (.inl rfl) rfl (.tmp rfl) (⟨rfl, rfl, rfl⟩)
theorem next_fn (G : Gh) (c n : Int) (k : Nat) (hk : k ≤ 1000000000) :
    Fn Tryz.prog 51 #[.agg #[.int .i64 c, .int .i64 n], .int .i64 k] G [] fun e G' H' => ∃ A cap, e = .returned (.slice A (nextR (c, n) k).length cap) ∧ G.le G' ∧ Sl (Kd.int .i64) G' A (nextR (c, n) k) ∧ H' = [] := by
  refine Fn.enter Tryz.func51 rfl rfl fun w0 => ?_
  refine WC.seq ?_
  refine WC.region ?_
  refine WL.op (by kernel_rfl) (OW.box rfl rfl fun b1 => ?_)
  have x1 := wrapS k (by omega)
  have fin : ∀ {b : Nat} {c : Array Value} {l : List Int}, c = (ints l).toArray → Sl (Kd.int .i64) (G.add b c) (some ⟨b, 0, none⟩) l := fun {b c l} h => IVec.sl (.inr ⟨b, rfl, fun j v e => by
    rw [Nat.zero_add, Gh.add_at, h]; simpa using e⟩)
  by_cases h9 : c = 9
  · have e1 : nextR (c, n) k = [] := by unfold nextR; rw [if_pos (.inl h9)]
    rw [e1]; subst h9
    refine gom ?_
    refine WC.ret ?_
    refine WK.un ?_
    exact QF.p1 (.inl rfl) rfl (.tmp rfl) (⟨none, 0, rfl, Gh.le_refl _, Sl.nil _ _ _, rfl⟩)
  by_cases h10 : c = 10
  · have e1 : nextR (c, n) k = [] := by unfold nextR; rw [if_pos (.inr h10)]
    rw [e1]; subst h10
    refine gom ?_
    refine WC.ret ?_
    refine WK.un ?_
    exact QF.p1 (.inl rfl) rfl (.tmp rfl) (⟨none, 0, rfl, Gh.le_refl _, Sl.nil _ _ _, rfl⟩)
  have y9 : (c == 9) = false := by simpa using h9
  have y10 : (c == 10) = false := by simpa using h10
  by_cases h5 : c = 5
  · have e1 : nextR (c, n) k = [n] := by unfold nextR; rw [if_neg (by simp [h9, h10]), if_pos h5]
    rw [e1]; subst h5
    refine gom ?_
    refine WL.op (by kernel_rfl) (OW.buildSlice rfl (by kernel_rfl) (by kernel_rfl) (by rfl) rfl fun b2 => ?_)
    refine gom ?_
    refine WC.freeze (j := 0) .here fun hg => ?_
    refine WC.ret ?_
    refine WK.un ?_
    exact QF.p1 (.inl rfl) rfl (.tmp rfl) (⟨some ⟨b2, 0, none⟩, 1, rfl, hg, fin rfl, rfl⟩)
  have y5 : (c == 5) = false := by simpa using h5
  by_cases h6 : c = 6
  · have e1 : nextR (c, n) k = [n, (k : Int) + 1] := by unfold nextR; rw [if_neg (by simp [h9, h10]), if_neg h5, if_pos h6]
    rw [e1]; subst h6
    refine gom ?_
    refine WL.op (by kernel_rfl) (OW.buildSlice rfl (by kernel_rfl) (by kernel_rfl) (by rfl) rfl fun b2 => ?_)
    refine gom ?_
    refine WC.freeze (j := 0) .here fun hg => ?_
    refine WC.ret ?_
    refine WK.un ?_
    exact QF.p1 (.inl rfl) rfl (.tmp rfl) (⟨some ⟨b2, 0, none⟩, 2, rfl, hg, fin rfl, rfl⟩)
  have y6 : (c == 6) = false := by simpa using h6
  have e1 : nextR (c, n) k = [(k : Int) + 1] := by unfold nextR; rw [if_neg (by simp [h9, h10]), if_neg h5, if_neg h6]
  rw [e1]
  refine gom ?_
  refine WL.op (by kernel_rfl) (OW.buildSlice rfl (by kernel_rfl) (by kernel_rfl) (by rfl) rfl fun b2 => ?_)
  refine gom ?_
  refine WC.freeze (j := 0) .here fun hg => ?_
  refine WC.ret ?_
  refine WK.un ?_
  exact QF.p1 (.inl rfl) rfl (.tmp rfl) (⟨some ⟨b2, 0, none⟩, 1, rfl, hg, fin rfl, rfl⟩)
end Go.Proofs.YtbfgljcjblfleaaGreatDoor.Gb
namespace Go.Proofs.YtbfgljcjblfleaaGreatDoor.Gb
open Go Go.Proofs
attribute [local irreducible] Tryz.prog
theorem OW.callVK {P : Program} {Q : Exit → Act → World → Prop} {cx : Cx} {L : List (Nat × Value)} {G : Gh} {H : List Own} {K : List (Nat × Value) → Gh → List Own → Prop} {d : Option Tmp} {ty : TypeId} {pos : String} {af : Array Edge} {gu : Option (Nat × Bool)} {g : Operand} {f : Nat} {cap : Array Value} {xs : Array Operand} {ats : Array TypeId} {vs : List Value} {ags : Array Value} {Hf F : List Own} {R : Ending → Gh → List Own → Prop} (hg : ev L g = some (.func (.func f) #[] cap)) (hx : Gb.evs L xs = some vs) [hb : Body P f]
    (ha : vs.toArray ++ cap = ags) (hf : Fn P f ags G Hf R) (hd : dOk d cx.N = true)
    (k : ∀ v G' H', R (.returned v) G' H' → G.le G' → K (putL d v L) G' (H' ++ F)) (hp : Pk H Hf F := by repeat (first | exact Pk.nil | exact Pk.all | exact Pk.app | exact Pk.appR | with_reducible apply Pk.na | (apply Pk.cons; (repeat first | exact .here | apply Rem.there | apply Rem.app)) | apply Pk.assoc | apply Pk.skip | apply Pk.skipA)) (hno : ∀ e G' H', R e G' H' → ∃ v, e = .returned v := by intro e G' H' h; repeat (first | exact ⟨_, h.1⟩ | (obtain ⟨_, h⟩ := h))) : OW P Q ⟨d, .call { callee := .value g, args := xs, argTypes := ats }, ty, pos, af, gu⟩ cx L G H K := by
  subst ha
  exact OW.callV hg hx hp.perm hf hd k (fun ch G' H' h => by obtain ⟨v, hv⟩ := hno _ _ _ h; cases hv) (fun G' H' h => by obtain ⟨v, hv⟩ := hno _ _ _ h; cases hv)
theorem fin_ints {G : Gh} {b : Nat} {c : Array Value} {l : List Int} (h : c = (ints l).toArray) : Sl (Kd.int .i64) (G.add b c) (some ⟨b, 0, none⟩) l := IVec.sl (.inr ⟨b, rfl, fun j v e => by
  rw [Nat.zero_add, Gh.add_at, h]; simpa using e⟩)
theorem one_fn (G : Gh) (t : Int) (b : Nat) (n : Value) (n2 : Value) (tk ly : Int) :
    Fn Tryz.prog 87 #[.int .i64 t, .pointer (some ⟨b, 0, none⟩)] G [.blk b (.cells #[n, n2, .int .i64 tk, .int .i64 ly] 136 (0, 0))]
      fun e G' H' => ∃ A, e = .returned (.tuple #[.int .i64 tk, .slice A 1 1]) ∧ G.le G' ∧ Sl (Kd.int .i64) G' A [t] ∧ H' = [.blk b (.cells #[n, n2, .int .i64 tk, .int .i64 ly] 136 (0, 0))] := by
  refine Fn.enter Tryz.func87 rfl rfl fun w0 => ?_
  refine gom ?_
  refine WL.op (by kernel_rfl) (OW.buildSlice rfl (by kernel_rfl) (by kernel_rfl) (by rfl) rfl fun b1 => ?_)
  refine gom ?_
  refine WC.freeze (j := 0) .here fun hg => ?_
  refine WC.ret ?_
  refine WK.un ?_
  exact QF.p2 (.inl rfl) rfl (.tmp rfl) (.tmp rfl) (⟨_, rfl, hg, fin_ints rfl, rfl⟩)
theorem called_fn (G : Gh) (A : Option Addr) (n cap : Nat) (r : Int) :
    Fn Tryz.prog 88 #[.slice A n cap, .int .i64 r] G []
      fun e G' H' => ∃ A' cap', e = .returned (.tuple #[.int .i64 n, .slice A' (if r = 0 then ([] : List Int) else [r]).length cap']) ∧ G.le G' ∧ Sl (Kd.int .i64) G' A' (if r = 0 then [] else [r]) ∧ H' = [] := by
  refine Fn.enter Tryz.func88 rfl rfl fun w0 => ?_
  by_cases hr : r = 0
  · subst hr
    refine gom ?_
    refine WC.ret ?_
    refine WK.un ?_
    exact QF.p2 (.inl rfl) rfl (.tmp rfl) (.tmp rfl) (⟨none, 0, rfl, Gh.le_refl _, Sl.nil _ _ _, rfl⟩)
  · have e1 : (r == 0) = false := by simpa using hr
    rw [if_neg hr]
    refine gom ?_
    refine WL.op (by kernel_rfl) (OW.buildSlice rfl (by kernel_rfl) (by kernel_rfl) (by rfl) rfl fun b1 => ?_)
    refine gom ?_
    refine WC.freeze (j := 0) .here fun hg => ?_
    refine WC.ret ?_
    refine WK.un ?_
    exact QF.p2 (.inl rfl) rfl (.tmp rfl) (.tmp rfl) (⟨_, 1, rfl, hg, fin_ints rfl, rfl⟩)
structure WRep (G : Gh) (w : Wd) (bw : Nat) (CA NA PA : Option Addr) (cc nc pc : Nat) : Prop where
  cells : Cs G bw 0 [.slice CA w.consts.length cc, .slice NA w.needs.length nc, .slice PA w.procs.length pc]
  consts : Sl Kd.val G CA w.consts
  needs : Sl Kd.ned G NA w.needs
  procs : Sl Kd.prc G PA w.procs
  cl : w.consts.length ≤ 100000000000000
  nl : w.needs.length ≤ 100000000000000
  pl : w.procs.length ≤ 100000000000000
  np : ∀ q ∈ w.needs, q.params.length ≤ 100000000000000
  pp : ∀ q ∈ w.procs, q.params.length ≤ 100000000000000
theorem WRep.mono {G G' : Gh} {w : Wd} {bw : Nat} {CA NA PA : Option Addr} {cc nc pc : Nat} (h : WRep G w bw CA NA PA cc nc pc) (hg : G.le G') : WRep G' w bw CA NA PA cc nc pc :=
  ⟨h.cells.mono hg, h.consts.mono hg, h.needs.mono hg, h.procs.mono hg, h.cl, h.nl, h.pl, h.np, h.pp⟩
structure FRep (G : Gh) (p : Pr) (bf bw : Nat) (PA CA : Option Addr) (pc cc : Nat) (TA : Option Addr) (tn tc : Nat) : Prop where
  cells : Cs G bf 0 [.pointer (some ⟨bw, 0, none⟩), .string p.name, .bool p.exp, .slice PA p.params.length pc, .int .i64 p.locals, .int .i64 p.result, .slice CA p.code.length cc, .slice TA tn tc]
  params : Sl (Kd.int .i64) G PA p.params
  code : Sl Kd.ins G CA p.code
theorem FRep.mono {G G' : Gh} {p : Pr} {bf bw : Nat} {PA CA : Option Addr} {pc cc : Nat} {TA : Option Addr} {tn tc : Nat} (h : FRep G p bf bw PA CA pc cc TA tn tc) (hg : G.le G') : FRep G' p bf bw PA CA pc cc TA tn tc :=
  ⟨h.cells.mono hg, h.params.mono hg, h.code.mono hg⟩
theorem rowC_takes (c : Int) : 0 ≤ (rowC c).takes ∧ (rowC c).takes ≤ 2 := by
  unfold rowC
  split
  · decide
  · cases h : rowsC[c.toNat]? with
    | none => decide
    | some r =>
      have hr : ∀ r ∈ rowsC, 0 ≤ r.takes ∧ r.takes ≤ 2 := by decide
      exact hr r (List.mem_of_getElem? h)
structure EOk (w : Wd) (vars : Nat) (c : Int) (n : Nat) : Prop where
  const : c = 1 → n < w.consts.length
  load : c = 2 → n < vars
  store : c = 3 → n < vars
  call : c = 7 → n < w.procs.length
  outer : c = 8 → n < w.needs.length
section
variable (G : Gh) (w : Wd) (p : Pr) (bf bw : Nat) (CA NA PA : Option Addr) (cc nc pc : Nat) (QA IA : Option Addr) (qc ic : Nat) (TA : Option Addr) (tn tc : Nat) (hW : WRep G w bw CA NA PA cc nc pc) (hF : FRep G p bf bw QA IA qc ic TA tn tc)
include hW hF
theorem effect_fn (s : SS) (VA : Option Addr) (vc : Nat) (SA : Option Addr) (sc : Nat) (hS : SRep G s VA vc SA sc) (hv : s.vars.length ≤ 1000000000) (c : Int) (n : Nat) (ho : EOk w s.vars.length c n) :
    Fn Tryz.prog 64 #[.pointer (some ⟨bf, 0, none⟩), .agg #[.int .i64 c, .int .i64 n], ssV s VA vc SA sc] G []
      fun e G' H' => ∃ A cap, e = .returned (.tuple #[.int .i64 (effC w s.vars (c, n)).1, .slice A (effC w s.vars (c, n)).2.length cap]) ∧ G.le G' ∧ Sl (Kd.int .i64) G' A (effC w s.vars (c, n)).2 ∧ H' = [] := by
  have hfc := hF.cells
  have hwc := hW.cells
  obtain ⟨sr, su, sv, sk⟩ := s
  dsimp only at hv ho
  obtain ⟨ho1, ho2, ho3, ho7, ho8⟩ := ho
  refine Fn.enter Tryz.func64 rfl rfl fun w0 => ?_
  refine WC.seq ?_
  refine WC.region ?_
  refine WL.op (by kernel_rfl) (OW.box rfl rfl fun b1 => ?_)
  refine WL.op (by kernel_rfl) (OW.box rfl rfl fun b2 => ?_)
  refine gom ?_
  refine WL.op (by kernel_rfl) (OW.callK rfl (rowOf_fn G c) rfl fun v' G' H' h hg => ?_)
  obtain ⟨he, rfl, rfl⟩ := h
  cases he
  refine WL.pick [.blk b2 (.cells #[.bool sr, .bool su, .slice VA sv.length vc, .slice SA sk.length sc] 86 (0, 0)), .blk b1 (.cells #[.int .i64 c, .int .i64 n] 97 (0, 0))] ?_
  refine WL.op (by kernel_rfl) (OW.alloc rfl fun b3 => ?_)
  refine gom ?_
  refine WL.p (Gp.makeFunc rfl rfl) (by kernel_rfl) rfl ?_
  by_cases h1 : c = 1
  · subst h1
    obtain ⟨v, hvv⟩ : ∃ v, w.consts[n]? = some v := ⟨_, List.getElem?_eq_getElem (ho1 rfl)⟩
    obtain ⟨cb, co, cs, rfl, hk, hcs⟩ := hW.consts n v hvv
    obtain rfl : cs = vcells v := hk
    have x0 : (0 : Int) ≤ (n : Int) := by omega
    have x1 : (n : Int) < (w.consts.length : Int) := by have := ho1 rfl; omega
    have he1 : effC w sv ((1 : Int), (n : Int)) = (0, [v.t]) := by unfold effC; simp [hvv]
    refine gom ?_
    refine WQ.one (by kernel_rfl) (by kernel_rfl) (OW.callVK rfl rfl rfl (one_fn G v.t b3 _ _ _ _) rfl fun v' G' H' h hg => ?_)
    obtain ⟨A, he, hg1, hs1, rfl⟩ := h
    cases he
    refine gom ?_
    refine WC.ret ?_
    refine WK.un ?_
    exact QF.p2 (.inl rfl) rfl (.tmp rfl) (.tmp rfl) (⟨A, 1, by rw [he1]; first | done | rfl, hg1, by rw [he1]; exact hs1, rfl⟩)
  have y1 : (c == 1) = false := by simpa using h1
  by_cases h2 : c = 2
  · subst h2
    obtain ⟨v, hvv⟩ : ∃ v, sv[n]? = some v := ⟨_, List.getElem?_eq_getElem (ho2 rfl)⟩
    obtain ⟨cb, co, rfl, hcs⟩ := hS.vars.at hvv
    have x0 : (0 : Int) ≤ (n : Int) := by omega
    have x1 : (n : Int) < (sv.length : Int) := by have := ho2 rfl; omega
    have he1 : effC w sv ((2 : Int), (n : Int)) = (0, [v]) := by unfold effC; simp [hvv]
    refine gom ?_
    refine WL.op (by kernel_rfl) (OW.callVK rfl rfl rfl (one_fn G v b3 _ _ _ _) rfl fun v' G' H' h hg => ?_)
    obtain ⟨A, he, hg1, hs1, rfl⟩ := h
    cases he
    refine gom ?_
    refine WC.ret ?_
    refine WK.un ?_
    exact QF.p2 (.inl rfl) rfl (.tmp rfl) (.tmp rfl) (⟨A, 1, by rw [he1]; first | done | rfl, hg1, by rw [he1]; exact hs1, rfl⟩)
  have y2 : (c == 2) = false := by simpa using h2
  by_cases h7 : c = 7
  · subst h7
    obtain ⟨q, hq⟩ : ∃ q, w.procs[n]? = some q := ⟨_, List.getElem?_eq_getElem (ho7 rfl)⟩
    obtain ⟨cb, co, cs, rfl, hk, hcs⟩ := hW.procs n q hq
    obtain ⟨PA2, pc2, CA2, cc2, rfl, hk1, hk2⟩ := hk
    have x0 : (0 : Int) ≤ (n : Int) := by omega
    have x1 : (n : Int) < (w.procs.length : Int) := by have := ho7 rfl; omega
    have he1 : effC w sv ((7 : Int), (n : Int)) = (q.params.length, if q.result = 0 then [] else [q.result]) := by unfold effC; simp [hq, hdE]
    refine gom ?_
    refine WQ.one (by kernel_rfl) (by kernel_rfl) (OW.callVK rfl rfl rfl (called_fn G PA2 q.params.length pc2 q.result) rfl fun v' G' H' h hg => ?_)
    obtain ⟨A, cap, he, hg1, hs1, rfl⟩ := h
    cases he
    refine gom ?_
    refine WC.ret ?_
    refine WK.un ?_
    exact QF.p2 (.inl rfl) rfl (.tmp rfl) (.tmp rfl) (⟨A, cap, by rw [he1]; first | done | rfl, hg1, by rw [he1]; exact hs1, rfl⟩)
  have y7 : (c == 7) = false := by simpa using h7
  by_cases h8 : c = 8
  · subst h8
    obtain ⟨q, hq⟩ : ∃ q, w.needs[n]? = some q := ⟨_, List.getElem?_eq_getElem (ho8 rfl)⟩
    obtain ⟨cb, co, cs, rfl, hk, hcs⟩ := hW.needs n q hq
    obtain ⟨PA2, pc2, rfl, hk1⟩ := hk
    have x0 : (0 : Int) ≤ (n : Int) := by omega
    have x1 : (n : Int) < (w.needs.length : Int) := by have := ho8 rfl; omega
    have he1 : effC w sv ((8 : Int), (n : Int)) = (q.params.length, if q.result = 0 then [] else [q.result]) := by unfold effC; simp [hq, hdE]
    refine gom ?_
    refine WQ.one (by kernel_rfl) (by kernel_rfl) (OW.callVK rfl rfl rfl (called_fn G PA2 q.params.length pc2 q.result) rfl fun v' G' H' h hg => ?_)
    obtain ⟨A, cap, he, hg1, hs1, rfl⟩ := h
    cases he
    refine gom ?_
    refine WC.ret ?_
    refine WK.un ?_
    exact QF.p2 (.inl rfl) rfl (.tmp rfl) (.tmp rfl) (⟨A, cap, by rw [he1]; first | done | rfl, hg1, by rw [he1]; exact hs1, rfl⟩)
  have y8 : (c == 8) = false := by simpa using h8
  by_cases h20 : c = 20
  · subst h20
    have he1 : effC w sv ((20 : Int), (n : Int)) = (2, [3]) := by unfold effC; simp
    refine gom ?_
    refine WL.op (by kernel_rfl) (OW.callVK rfl rfl rfl (one_fn G 3 b3 _ _ _ _) rfl fun v' G' H' h hg => ?_)
    obtain ⟨A, he, hg1, hs1, rfl⟩ := h
    cases he
    refine gom ?_
    refine WC.ret ?_
    refine WK.un ?_
    exact QF.p2 (.inl rfl) rfl (.tmp rfl) (.tmp rfl) (⟨A, 1, by rw [he1]; first | done | rfl, hg1, by rw [he1]; exact hs1, rfl⟩)
  have y20 : (c == 20) = false := by simpa using h20
  by_cases h12 : c = 12
  · subst h12
    have he1 : effC w sv ((12 : Int), (n : Int)) = (2, [2]) := by unfold effC; simp
    refine gom ?_
    refine WL.op (by kernel_rfl) (OW.callVK rfl rfl rfl (one_fn G 2 b3 _ _ _ _) rfl fun v' G' H' h hg => ?_)
    obtain ⟨A, he, hg1, hs1, rfl⟩ := h
    cases he
    refine gom ?_
    refine WC.ret ?_
    refine WK.un ?_
    exact QF.p2 (.inl rfl) rfl (.tmp rfl) (.tmp rfl) (⟨A, 1, by rw [he1]; first | done | rfl, hg1, by rw [he1]; exact hs1, rfl⟩)
  have y12 : (c == 12) = false := by simpa using h12
  by_cases h13 : c = 13
  · subst h13
    have he1 : effC w sv ((13 : Int), (n : Int)) = (2, [2]) := by unfold effC; simp
    refine gom ?_
    refine WL.op (by kernel_rfl) (OW.callVK rfl rfl rfl (one_fn G 2 b3 _ _ _ _) rfl fun v' G' H' h hg => ?_)
    obtain ⟨A, he, hg1, hs1, rfl⟩ := h
    cases he
    refine gom ?_
    refine WC.ret ?_
    refine WK.un ?_
    exact QF.p2 (.inl rfl) rfl (.tmp rfl) (.tmp rfl) (⟨A, 1, by rw [he1]; first | done | rfl, hg1, by rw [he1]; exact hs1, rfl⟩)
  have y13 : (c == 13) = false := by simpa using h13
  by_cases h14 : c = 14
  · subst h14
    have he1 : effC w sv ((14 : Int), (n : Int)) = (2, [2]) := by unfold effC; simp
    refine gom ?_
    refine WL.op (by kernel_rfl) (OW.callVK rfl rfl rfl (one_fn G 2 b3 _ _ _ _) rfl fun v' G' H' h hg => ?_)
    obtain ⟨A, he, hg1, hs1, rfl⟩ := h
    cases he
    refine gom ?_
    refine WC.ret ?_
    refine WK.un ?_
    exact QF.p2 (.inl rfl) rfl (.tmp rfl) (.tmp rfl) (⟨A, 1, by rw [he1]; first | done | rfl, hg1, by rw [he1]; exact hs1, rfl⟩)
  have y14 : (c == 14) = false := by simpa using h14
  by_cases h15 : c = 15
  · subst h15
    have he1 : effC w sv ((15 : Int), (n : Int)) = (2, [2]) := by unfold effC; simp
    refine gom ?_
    refine WL.op (by kernel_rfl) (OW.callVK rfl rfl rfl (one_fn G 2 b3 _ _ _ _) rfl fun v' G' H' h hg => ?_)
    obtain ⟨A, he, hg1, hs1, rfl⟩ := h
    cases he
    refine gom ?_
    refine WC.ret ?_
    refine WK.un ?_
    exact QF.p2 (.inl rfl) rfl (.tmp rfl) (.tmp rfl) (⟨A, 1, by rw [he1]; first | done | rfl, hg1, by rw [he1]; exact hs1, rfl⟩)
  have y15 : (c == 15) = false := by simpa using h15
  by_cases h16 : c = 16
  · subst h16
    have he1 : effC w sv ((16 : Int), (n : Int)) = (2, [2]) := by unfold effC; simp
    refine gom ?_
    refine WL.op (by kernel_rfl) (OW.callVK rfl rfl rfl (one_fn G 2 b3 _ _ _ _) rfl fun v' G' H' h hg => ?_)
    obtain ⟨A, he, hg1, hs1, rfl⟩ := h
    cases he
    refine gom ?_
    refine WC.ret ?_
    refine WK.un ?_
    exact QF.p2 (.inl rfl) rfl (.tmp rfl) (.tmp rfl) (⟨A, 1, by rw [he1]; first | done | rfl, hg1, by rw [he1]; exact hs1, rfl⟩)
  have y16 : (c == 16) = false := by simpa using h16
  by_cases h17 : c = 17
  · subst h17
    have he1 : effC w sv ((17 : Int), (n : Int)) = (2, [2]) := by unfold effC; simp
    refine gom ?_
    refine WL.op (by kernel_rfl) (OW.callVK rfl rfl rfl (one_fn G 2 b3 _ _ _ _) rfl fun v' G' H' h hg => ?_)
    obtain ⟨A, he, hg1, hs1, rfl⟩ := h
    cases he
    refine gom ?_
    refine WC.ret ?_
    refine WK.un ?_
    exact QF.p2 (.inl rfl) rfl (.tmp rfl) (.tmp rfl) (⟨A, 1, by rw [he1]; first | done | rfl, hg1, by rw [he1]; exact hs1, rfl⟩)
  have y17 : (c == 17) = false := by simpa using h17
  by_cases h25 : c = 25
  · subst h25
    have he1 : effC w sv ((25 : Int), (n : Int)) = (1, [2]) := by unfold effC; simp
    refine gom ?_
    refine WL.op (by kernel_rfl) (OW.callVK rfl rfl rfl (one_fn G 2 b3 _ _ _ _) rfl fun v' G' H' h hg => ?_)
    obtain ⟨A, he, hg1, hs1, rfl⟩ := h
    cases he
    refine gom ?_
    refine WC.ret ?_
    refine WK.un ?_
    exact QF.p2 (.inl rfl) rfl (.tmp rfl) (.tmp rfl) (⟨A, 1, by rw [he1]; first | done | rfl, hg1, by rw [he1]; exact hs1, rfl⟩)
  have y25 : (c == 25) = false := by simpa using h25
  obtain ⟨r, hr⟩ : ∃ r, r = rowC c := ⟨_, rfl⟩
  have htk := (rowC_takes c).1
  have he1 : effC w sv (c, (n : Int)) = if r.lays = 1 then (r.takes.toNat, [1]) else (r.takes.toNat, []) := by
    unfold effC
    rw [if_neg h1, if_neg h2, if_neg h7, if_neg h8, if_neg h20, if_neg (by omega), if_neg h25, ← hr]
  rw [← hr] at htk ⊢
  have htk' : ((r.takes.toNat : Nat) : Int) = r.takes := by omega
  by_cases hl : r.lays = 1
  · have yl : (r.lays == 1) = true := by simpa using hl
    rw [if_pos hl] at he1
    refine gom ?_
    refine WL.op (by kernel_rfl) (OW.callVK rfl rfl rfl (one_fn G 1 b3 _ _ _ _) rfl fun v' G' H' h hg => ?_)
    obtain ⟨A, he, hg1, hs1, rfl⟩ := h
    cases he
    refine gom ?_
    refine WC.ret ?_
    refine WK.un ?_
    exact QF.p2 (.inl rfl) rfl (.tmp rfl) (.tmp rfl) (⟨A, 1, by rw [he1]; show _ = Ending.returned (.tuple #[.int .i64 ((r.takes.toNat : Nat) : Int), _]); rw [htk']; rfl, hg1, by rw [he1]; exact hs1, rfl⟩)
  · have yl : (r.lays == 1) = false := by simpa using hl
    rw [if_neg hl] at he1
    refine gom ?_
    refine WC.ret ?_
    refine WK.un ?_
    exact QF.p2 (.inl rfl) rfl (.tmp rfl) (.tmp rfl) (⟨none, 0, by rw [he1]; show _ = Ending.returned (.tuple #[.int .i64 ((r.takes.toNat : Nat) : Int), _]); rw [htk']; rfl, Gh.le_refl _, by rw [he1]; exact Sl.nil _ _ _, rfl⟩)
end
end Go.Proofs.YtbfgljcjblfleaaGreatDoor.Gb
namespace Go.Proofs.YtbfgljcjblfleaaGreatDoor.Gb
open Go Go.Proofs
attribute [local irreducible] Tryz.prog
theorem effC_lays (w : Wd) (vars : List Int) (i : Int × Int) : (effC w vars i).2.length ≤ 1 := by
  unfold effC
  have h : ∀ a b, (hdE a b).2.length ≤ 1 := fun a b => by unfold hdE; dsimp only; split <;> simp
  split
  · simp
  split
  · simp
  split
  · cases w.procs[i.2.toNat]? with
    | none => simp
    | some p => exact h _ _
  split
  · cases w.needs[i.2.toNat]? with
    | none => simp
    | some p => exact h _ _
  split
  · simp
  split
  · simp
  split
  · simp
  split <;> simp
theorem WRep.takes {G : Gh} {w : Wd} {bw : Nat} {CA NA PA : Option Addr} {cc nc pc : Nat} (h : WRep G w bw CA NA PA cc nc pc) (vars : List Int) (i : Int × Int) : (effC w vars i).1 ≤ 100000000000000 := by
  unfold effC
  have h2 := rowC_takes i.1
  split
  · simp
  split
  · simp
  split
  · cases hq : w.procs[i.2.toNat]? with
    | none => simp
    | some p => exact h.pp p (List.mem_of_getElem? hq)
  split
  · cases hq : w.needs[i.2.toNat]? with
    | none => simp
    | some p => exact h.np p (List.mem_of_getElem? hq)
  split
  · simp
  split
  · simp
  split
  · simp
  split <;> simp <;> omega
theorem ints_take (l : List Int) (n : Nat) : ints (l.take n) = (ints l).take n := by rw [ints, ints, List.map_take]
section
variable (G : Gh) (w : Wd) (p : Pr) (bf bw : Nat) (CA NA PA : Option Addr) (cc nc pc : Nat) (QA IA : Option Addr) (qc ic : Nat) (TA : Option Addr) (tn tc : Nat) (hW : WRep G w bw CA NA PA cc nc pc) (hF : FRep G p bf bw QA IA qc ic TA tn tc)
include hW hF
theorem behind_fn (s : SS) (VA : Option Addr) (vc : Nat) (SA : Option Addr) (sc : Nat) (hS : SRep G s VA vc SA sc) (hv : s.vars.length ≤ 1000000000) (hk : s.stack.length ≤ 1000000000) (c : Int) (n : Nat) (ho : EOk w s.vars.length c n) :
    Fn Tryz.prog 50 #[.pointer (some ⟨bf, 0, none⟩), .agg #[.int .i64 c, .int .i64 n], ssV s VA vc SA sc] G []
      fun e G' H' => ∃ V' v' S' s', e = .returned (ssV (behR w (c, n) s) V' v' S' s') ∧ G.le G' ∧ SRep G' (behR w (c, n) s) V' v' S' s' ∧ H' = [] := by
  have htk := hW.takes s.vars (c, n)
  have hly := effC_lays w s.vars (c, n)
  refine Fn.enter Tryz.func50 rfl rfl fun w0 => ?_
  refine WC.seq ?_
  refine WC.region ?_
  refine WL.op (by kernel_rfl) (OW.box rfl rfl fun b1 => ?_)
  refine WL.op (by kernel_rfl) (OW.box rfl rfl fun b2 => ?_)
  refine WL.op (by kernel_rfl) (OW.alloc rfl fun b3 => ?_)
  refine gom ?_
  refine WL.op (by kernel_rfl) (OW.callK rfl (copied_fn G s VA vc SA sc hS hv hk) rfl fun v' G' H' h hg => ?_)
  obtain ⟨A1, c1, A2, c2, x1, x2, he, rfl, rfl, hx1, hx2⟩ := h
  cases he
  refine WL.op (by kernel_rfl) (OW.alloc rfl fun b4 => ?_)
  refine gom ?_
  refine WL.op (by kernel_rfl) (OW.callK rfl (effect_fn G w p bf bw CA NA PA cc nc pc QA IA qc ic TA tn tc hW hF s VA vc SA sc hS hv c n ho) rfl fun v' G' H' h hg => ?_)
  obtain ⟨LA, lc, he, hg1, hs1, rfl⟩ := h
  cases he
  obtain ⟨sr, su, sv, sk⟩ := s
  dsimp only at htk hly hv hk hx1 hx2 hs1 ho ⊢
  have ho3 := ho.store
  obtain ⟨tk, htke⟩ : ∃ tk, tk = (effC w sv (c, n)).1 := ⟨_, rfl⟩
  obtain ⟨ly, hlye⟩ : ∃ ly, ly = (effC w sv (c, n)).2 := ⟨_, rfl⟩
  rw [← htke] at htk
  rw [← hlye] at hly hs1
  rw [← htke, ← hlye]
  refine WL.p (Gp.move rfl) (by kernel_rfl) rfl ?_
  refine WL.p (Gp.extract rfl rfl) (by kernel_rfl) rfl ?_
  refine WL.p (Gp.extract rfl rfl) (by kernel_rfl) rfl ?_
  refine WL.p (Gp.assign rfl) (by kernel_rfl) rfl ?_
  refine WL.p (Gp.assign rfl) (by kernel_rfl) rfl ?_
  refine WL.nil ?_
  refine WK.un ?_
  refine WC.seq ?_
  refine WC.region ?_
  have y1 : IntKind.i64.wrap ((sk.length : Int) - (tk : Int)) = (sk.length : Int) - (tk : Int) := wrapI (by omega) (by omega)
  refine WL.p (Gp.fieldAddr rfl) (by kernel_rfl) rfl ?_
  (first | (refine WL.v (Gv.load1 rfl (by (repeat first | exact .here | apply At.there)) (by first | rfl | assumption)) (by kernel_rfl) rfl ?_) | (refine WL.v (Gv.loadN rfl (by (repeat first | exact .here | apply At.there)) (by rfl) (by rfl)) (by kernel_rfl) rfl ?_) | (refine WL.v (Gv.loadG1 rfl (by assumption) rfl) (by kernel_rfl) rfl ?_) | (refine WL.v (Gv.loadG0 rfl (by assumption) rfl) (by kernel_rfl) rfl ?_) | (refine WL.v (Gv.loadGN rfl (by assumption) rfl) (by kernel_rfl) rfl ?_))
  (first | refine WL.p (Gp.lenSl rfl) (by kernel_rfl) rfl ?_ | refine WL.p (Gp.lenS rfl) (by kernel_rfl) rfl ?_)
  refine WL.p (Gp.move rfl) (by kernel_rfl) rfl ?_
  refine WL.p (Gp.sub' rfl rfl y1) (by kernel_rfl) rfl ?_
  refine WL.p (Gp.assign rfl) (by kernel_rfl) rfl ?_
  refine WL.nil ?_
  refine WK.un ?_
  have hvl : (varsR (c, (n : Int)) ⟨sr, su, sv, sk⟩).length = sv.length := varsR_length _ _
  refine WC.join (X := Own) (fun _ => [(5, .pointer (some ⟨b2, 0, none⟩)), (7, .pointer (some ⟨b4, 0, none⟩)), (6, .pointer (some ⟨b3, 0, none⟩)), (9, .slice LA ly.length lc), (10, .int .i64 ((sk.length : Int) - (tk : Int)))]) (fun _ => G')
    (fun o => [o, x2, .blk b4 (.cells #[.bool sr, .bool su, .slice A1 sv.length c1, .slice A2 sk.length c2] 86 (0, 0)), .blk b2 (.cells #[.bool sr, .bool su, .slice VA sv.length vc, .slice SA sk.length sc] 86 (0, 0)), .blk b3 (.cells #[.bool false, .bool false, .slice none 0 0, .slice none 0 0] 86 (0, 0))])
    (fun o => Vec 47 1 A1 sv.length c1 (ints (varsR (c, (n : Int)) ⟨sr, su, sv, sk⟩)) o) ?_ fun o hx1' => ?_
  · by_cases h3 : c = 3
    rotate_left
    · have y3 : (c == 3) = false := by simpa using h3
      refine gom ?_
      refine WK.pick [x1, x2, .blk b4 (.cells #[.bool sr, .bool su, .slice A1 sv.length c1, .slice A2 sk.length c2] 86 (0, 0)), .blk b2 (.cells #[.bool sr, .bool su, .slice VA sv.length vc, .slice SA sk.length sc] 86 (0, 0)), .blk b3 (.cells #[.bool false, .bool false, .slice none 0 0, .slice none 0 0] 86 (0, 0))] ?_
      exact WK.meet (x1) (by unfold varsR; rw [if_neg h3]; exact hx1) (by exact ⟨rfl, rfl, rfl, rfl, rfl, trivial⟩) rfl (List.Sublist.refl _)
    subst h3
    have hn := ho3 rfl
    obtain ⟨xb, xc, rfl, rfl, hxc⟩ := hx1.some (by omega)
    have hn0 : 0 + ((n : Nat) : Int).toNat * 1 = n := by omega
    obtain ⟨_, hfit, hput⟩ := IVec.put hx1 (i := 0 + ((n : Nat) : Int).toNat * 1) (by omega) 0
    have hble : Nat.ble (0 + ((n : Nat) : Int).toNat * 1 + 1) xc.size = true := Nat.ble_eq_true_of_le (by omega)
    have x0 : (0 : Int) ≤ (n : Int) := by omega
    have x1 : (n : Int) < (sv.length : Int) := by omega
    have hput' : Vec 47 1 (some ⟨xb, 0, none⟩) sv.length c1 (ints (sv.set n 0)) (.blk xb (.cells (splice xc (0 + ((n : Nat) : Int).toNat * 1) [.int .i64 0]) 47 (0, 0))) := by
      have h := hput
      unfold IVec at h
      rw [List.length_set] at h
      rwa [hn0] at h ⊢
    cases su with
    | true =>
      refine gom ?_
      refine WK.pick [.blk xb (.cells (splice xc (0 + ((n : Nat) : Int).toNat * 1) [.int .i64 0]) 47 (0, 0)), x2, .blk b4 (.cells #[.bool sr, .bool true, .slice (some ⟨xb, 0, none⟩) sv.length c1, .slice A2 sk.length c2] 86 (0, 0)), .blk b2 (.cells #[.bool sr, .bool true, .slice VA sv.length vc, .slice SA sk.length sc] 86 (0, 0)), .blk b3 (.cells #[.bool false, .bool false, .slice none 0 0, .slice none 0 0] 86 (0, 0))] ?_
      exact WK.meet (.blk xb (.cells (splice xc (0 + ((n : Nat) : Int).toNat * 1) [.int .i64 0]) 47 (0, 0))) (hput') (by exact ⟨rfl, rfl, rfl, rfl, rfl, trivial⟩) rfl (List.Sublist.refl _)
    | false =>
    by_cases hk0 : sk.length = 0
    · have y4 : decide ((0 : Int) < (sk.length : Int)) = false := decide_eq_false (by omega)
      have ht : topS ⟨sr, false, sv, sk⟩ = 0 := by
        have : sk = [] := List.eq_nil_of_length_eq_zero hk0
        subst this; rfl
      refine gom ?_
      refine WK.pick [.blk xb (.cells (splice xc (0 + ((n : Nat) : Int).toNat * 1) [.int .i64 0]) 47 (0, 0)), x2, .blk b4 (.cells #[.bool sr, .bool false, .slice (some ⟨xb, 0, none⟩) sv.length c1, .slice A2 sk.length c2] 86 (0, 0)), .blk b2 (.cells #[.bool sr, .bool false, .slice VA sv.length vc, .slice SA sk.length sc] 86 (0, 0)), .blk b3 (.cells #[.bool false, .bool false, .slice none 0 0, .slice none 0 0] 86 (0, 0))] ?_
      exact WK.meet (.blk xb (.cells (splice xc (0 + ((n : Nat) : Int).toNat * 1) [.int .i64 0]) 47 (0, 0))) (by unfold varsR; rw [if_pos rfl, ht]; exact hput') (by exact ⟨rfl, rfl, rfl, rfl, rfl, trivial⟩) rfl (List.Sublist.refl _)
    have y4 : decide ((0 : Int) < (sk.length : Int)) = true := decide_eq_true (by omega)
    obtain ⟨z, hz⟩ : ∃ z, sk[sk.length - 1]? = some z := ⟨_, List.getElem?_eq_getElem (by omega)⟩
    have ht : topS ⟨sr, false, sv, sk⟩ = z := by
      show (sk[sk.length - 1]?).getD 0 = z
      rw [hz]; rfl
    obtain ⟨zb, zo, rfl, hzc⟩ := hS.stack.at hz
    have hzc' := hzc.mono hg1
    have y5 : IntKind.i64.wrap ((sk.length : Int) - 1) = ((sk.length - 1 : Nat) : Int) := by
      have e := wrapI (x := (sk.length : Int) - 1) (by omega) (by omega)
      rw [e]; omega
    have z0 : (0 : Int) ≤ ((sk.length - 1 : Nat) : Int) := by omega
    have z1 : ((sk.length - 1 : Nat) : Int) < (sk.length : Int) := by omega
    obtain ⟨_, hfit2, hput2⟩ := IVec.put hput (i := 0 + ((n : Nat) : Int).toNat * 1) (by rw [List.length_set]; omega) z
    have hble2 : Nat.ble (0 + ((n : Nat) : Int).toNat * 1 + 1) (splice xc (0 + ((n : Nat) : Int).toNat * 1) [.int .i64 0]).size = true := Nat.ble_eq_true_of_le (by omega)
    have hput2' : Vec 47 1 (some ⟨xb, 0, none⟩) sv.length c1 (ints (sv.set n z)) (.blk xb (.cells (splice (splice xc (0 + ((n : Nat) : Int).toNat * 1) [.int .i64 0]) (0 + ((n : Nat) : Int).toNat * 1) [.int .i64 z]) 47 (0, 0))) := by
      have h := hput2
      unfold IVec at h
      rw [List.set_set, List.length_set] at h
      rwa [hn0] at h ⊢
    refine go ?_
    refine WC.draw mixed ?_
    refine WA.tp (i := 0) rfl (by kernel_rfl) (by kernel_rfl) rfl (Gp.fieldAddr rfl) ?_
    refine WA.tp (i := 2) rfl (by kernel_rfl) (by kernel_rfl) rfl (Gp.fieldAddr rfl) ?_
    refine WA.tp (i := 4) rfl (by kernel_rfl) (by kernel_rfl) rfl (Gp.fieldAddr rfl) ?_
    refine WA.tp (i := 6) rfl (by kernel_rfl) (by kernel_rfl) rfl (Gp.fieldAddr rfl) ?_
    (first | (refine WA.tv (i := 7) rfl (by kernel_rfl) (by kernel_rfl) rfl (Gv.load1 rfl (by (repeat first | exact .here | apply At.there)) (by first | rfl | assumption)) ?_) | (refine WA.tv (i := 7) rfl (by kernel_rfl) (by kernel_rfl) rfl (Gv.loadN rfl (by (repeat first | exact .here | apply At.there)) (by rfl) (by rfl)) ?_) | (refine WA.tv (i := 7) rfl (by kernel_rfl) (by kernel_rfl) rfl (Gv.loadG1 rfl (by assumption) rfl) ?_) | (refine WA.tv (i := 7) rfl (by kernel_rfl) (by kernel_rfl) rfl (Gv.loadG0 rfl (by assumption) rfl) ?_) | (refine WA.tv (i := 7) rfl (by kernel_rfl) (by kernel_rfl) rfl (Gv.loadGN rfl (by assumption) rfl) ?_))
    (first | refine WA.tp (i := 8) rfl (by kernel_rfl) (by kernel_rfl) rfl (Gp.lenSl rfl) ?_ | refine WA.tp (i := 8) rfl (by kernel_rfl) (by kernel_rfl) rfl (Gp.lenS rfl) ?_)
    refine WA.tp (i := 9) rfl (by kernel_rfl) (by kernel_rfl) rfl (Gp.sub' rfl rfl y5) ?_
    (first | (refine WA.tv (i := 1) rfl (by kernel_rfl) (by kernel_rfl) rfl (Gv.load1 rfl (by (repeat first | exact .here | apply At.there)) (by first | rfl | assumption)) ?_) | (refine WA.tv (i := 1) rfl (by kernel_rfl) (by kernel_rfl) rfl (Gv.loadN rfl (by (repeat first | exact .here | apply At.there)) (by rfl) (by rfl)) ?_) | (refine WA.tv (i := 1) rfl (by kernel_rfl) (by kernel_rfl) rfl (Gv.loadG1 rfl (by assumption) rfl) ?_) | (refine WA.tv (i := 1) rfl (by kernel_rfl) (by kernel_rfl) rfl (Gv.loadG0 rfl (by assumption) rfl) ?_) | (refine WA.tv (i := 1) rfl (by kernel_rfl) (by kernel_rfl) rfl (Gv.loadGN rfl (by assumption) rfl) ?_))
    (first | (refine WA.tv (i := 3) rfl (by kernel_rfl) (by kernel_rfl) rfl (Gv.load1 rfl (by (repeat first | exact .here | apply At.there)) (by first | rfl | assumption)) ?_) | (refine WA.tv (i := 3) rfl (by kernel_rfl) (by kernel_rfl) rfl (Gv.loadN rfl (by (repeat first | exact .here | apply At.there)) (by rfl) (by rfl)) ?_) | (refine WA.tv (i := 3) rfl (by kernel_rfl) (by kernel_rfl) rfl (Gv.loadG1 rfl (by assumption) rfl) ?_) | (refine WA.tv (i := 3) rfl (by kernel_rfl) (by kernel_rfl) rfl (Gv.loadG0 rfl (by assumption) rfl) ?_) | (refine WA.tv (i := 3) rfl (by kernel_rfl) (by kernel_rfl) rfl (Gv.loadGN rfl (by assumption) rfl) ?_))
    (first | (refine WA.tv (i := 5) rfl (by kernel_rfl) (by kernel_rfl) rfl (Gv.load1 rfl (by (repeat first | exact .here | apply At.there)) (by first | rfl | assumption)) ?_) | (refine WA.tv (i := 5) rfl (by kernel_rfl) (by kernel_rfl) rfl (Gv.loadN rfl (by (repeat first | exact .here | apply At.there)) (by rfl) (by rfl)) ?_) | (refine WA.tv (i := 5) rfl (by kernel_rfl) (by kernel_rfl) rfl (Gv.loadG1 rfl (by assumption) rfl) ?_) | (refine WA.tv (i := 5) rfl (by kernel_rfl) (by kernel_rfl) rfl (Gv.loadG0 rfl (by assumption) rfl) ?_) | (refine WA.tv (i := 5) rfl (by kernel_rfl) (by kernel_rfl) rfl (Gv.loadGN rfl (by assumption) rfl) ?_))
    refine WA.tp (i := 10) rfl (by kernel_rfl) (by kernel_rfl) rfl (Gp.indexAddr rfl rfl (by first | assumption | omega | decide) (by first | assumption | omega | decide | (simp only [List.length_cons, List.length_nil]; decide))) ?_
    refine WA.tv (i := 11) rfl (by kernel_rfl) (by kernel_rfl) rfl (Gv.loadG1 (i := 0) rfl hzc' rfl) ?_
    refine WA.tp (i := 12) rfl (by kernel_rfl) (by kernel_rfl) rfl (Gp.indexAddr rfl rfl (by first | assumption | omega | decide) (by first | assumption | omega | decide | (simp only [List.length_cons, List.length_nil]; decide))) ?_
    refine WA.one (i := 13) (by kernel_rfl) rfl (by kernel_rfl) (OW.store (n := 1) (cs := [.int .i64 z]) rfl rfl (by (repeat first | exact .here | apply At.there)) rfl rfl rfl hble2 rfl ?_ rfl)
    refine WA.done (by kernel_rfl) ?_
    refine WK.un ?_
    refine WK.pick [.blk xb (.cells (splice (splice xc (0 + ((n : Nat) : Int).toNat * 1) [.int .i64 0]) (0 + ((n : Nat) : Int).toNat * 1) [.int .i64 z]) 47 (0, 0)), x2, .blk b4 (.cells #[.bool sr, .bool false, .slice (some ⟨xb, 0, none⟩) sv.length c1, .slice A2 sk.length c2] 86 (0, 0)), .blk b2 (.cells #[.bool sr, .bool false, .slice VA sv.length vc, .slice (some ⟨zb, zo, none⟩) sk.length sc] 86 (0, 0)), .blk b3 (.cells #[.bool false, .bool false, .slice none 0 0, .slice none 0 0] 86 (0, 0))] ?_
    exact WK.meet (.blk xb (.cells (splice (splice xc (0 + ((n : Nat) : Int).toNat * 1) [.int .i64 0]) (0 + ((n : Nat) : Int).toNat * 1) [.int .i64 z]) 47 (0, 0))) (by unfold varsR; rw [if_pos rfl, ht]; exact hput2') (by exact ⟨rfl, rfl, rfl, rfl, rfl, trivial⟩) rfl (List.Sublist.refl _)
  have hx1v : TVec A1 (varsR (c, (n : Int)) ⟨sr, su, sv, sk⟩) c1 o := by unfold TVec IVec; rw [hvl]; exact hx1'
  by_cases hb : badS w (c, (n : Int)) ⟨sr, su, sv, sk⟩
  · have he1 : behR w (c, (n : Int)) ⟨sr, su, sv, sk⟩ = ⟨sr, true, varsR (c, (n : Int)) ⟨sr, su, sv, sk⟩, []⟩ := by unfold behR; rw [if_pos hb]
    rw [he1]
    have hb' : su = true ∨ (sk.length < tk ∨ 128 < sk.length - tk + ly.length) := by unfold badS at hb; rw [htke, hlye]; exact hb
    have y6 : su = false → decide ((sk.length : Int) - (tk : Int) < 0) = decide (sk.length < tk) := fun _ => by
      by_cases h : sk.length < tk
      · rw [decide_eq_true h, decide_eq_true (by omega)]
      · rw [decide_eq_false h, decide_eq_false (by omega)]
    cases su with
    | true =>
      refine gom ?_
      refine WC.frozenVec hx1v .here fun G3 h3 z3 => ?_
      refine WC.ret ?_
      refine WK.un ?_
      exact QF.p1 (.inl rfl) rfl (.cell rfl inferInstance inferInstance (by (repeat first | exact .here | apply At.there)) rfl rfl) (⟨A1, c1, none, 0, by show _ = Ending.returned (.agg #[.bool sr, .bool true, .slice A1 (varsR (c, (n : Int)) ⟨sr, true, sv, sk⟩).length c1, .slice none 0 0]); rw [hvl]; first | done | rfl, Gh.le_trans hg1 h3, ⟨hx1v.le, Nat.le_refl _, IVec.sl z3, Sl.nil _ _ _⟩, rfl⟩)
    | false =>
    by_cases h1 : sk.length < tk
    · have y7 : decide ((sk.length : Int) - (tk : Int) < 0) = true := decide_eq_true (by omega)
      refine gom ?_
      refine WC.frozenVec hx1v .here fun G3 h3 z3 => ?_
      refine WC.ret ?_
      refine WK.un ?_
      exact QF.p1 (.inl rfl) rfl (.cell rfl inferInstance inferInstance (by (repeat first | exact .here | apply At.there)) rfl rfl) (⟨A1, c1, none, 0, by show _ = Ending.returned (.agg #[.bool sr, .bool true, .slice A1 (varsR (c, (n : Int)) ⟨sr, false, sv, sk⟩).length c1, .slice none 0 0]); rw [hvl]; first | done | rfl, Gh.le_trans hg1 h3, ⟨hx1v.le, Nat.le_refl _, IVec.sl z3, Sl.nil _ _ _⟩, rfl⟩)
    · have y7 : decide ((sk.length : Int) - (tk : Int) < 0) = false := decide_eq_false (by omega)
      have h2 : 128 < sk.length - tk + ly.length := by
        rcases hb' with h | h | h
        · cases h
        · exact absurd h h1
        · exact h
      have y8 : IntKind.i64.wrap ((sk.length : Int) - (tk : Int) + (ly.length : Int)) = (sk.length : Int) - (tk : Int) + (ly.length : Int) := wrapI (by omega) (by omega)
      have y9 : decide ((128 : Int) < (sk.length : Int) - (tk : Int) + (ly.length : Int)) = true := decide_eq_true (by omega)
      refine gom ?_
      refine WC.frozenVec hx1v .here fun G3 h3 z3 => ?_
      refine WC.ret ?_
      refine WK.un ?_
      exact QF.p1 (.inl rfl) rfl (.cell rfl inferInstance inferInstance (by (repeat first | exact .here | apply At.there)) rfl rfl) (⟨A1, c1, none, 0, by show _ = Ending.returned (.agg #[.bool sr, .bool true, .slice A1 (varsR (c, (n : Int)) ⟨sr, false, sv, sk⟩).length c1, .slice none 0 0]); rw [hvl]; first | done | rfl, Gh.le_trans hg1 h3, ⟨hx1v.le, Nat.le_refl _, IVec.sl z3, Sl.nil _ _ _⟩, rfl⟩)
  · have he1 : behR w (c, (n : Int)) ⟨sr, su, sv, sk⟩ = ⟨sr, false, varsR (c, (n : Int)) ⟨sr, su, sv, sk⟩, sk.take (sk.length - tk) ++ ly⟩ := by unfold behR; rw [if_neg hb, htke, hlye]
    have hb' : ¬ (su = true ∨ (sk.length < tk ∨ 128 < sk.length - tk + ly.length)) := by unfold badS at hb; rw [htke, hlye]; exact hb
    rw [he1]
    have hus : su = false := by cases h : su with | false => rfl | true => exact absurd (.inl h) hb'
    subst hus
    have h1 : ¬ sk.length < tk := fun h => hb' (.inr (.inl h))
    have h2 : ¬ 128 < sk.length - tk + ly.length := fun h => hb' (.inr (.inr h))
    have y7 : decide ((sk.length : Int) - (tk : Int) < 0) = false := decide_eq_false (by omega)
    have y8 : IntKind.i64.wrap ((sk.length : Int) - (tk : Int) + (ly.length : Int)) = (sk.length : Int) - (tk : Int) + (ly.length : Int) := wrapI (by omega) (by omega)
    have y9 : decide ((128 : Int) < (sk.length : Int) - (tk : Int) + (ly.length : Int)) = false := decide_eq_false (by omega)
    have hcap := hx2.le
    refine gom ?_
    refine WL.p (Gp.sliceTo rfl rfl (by omega) (by omega)) (by kernel_rfl) rfl ?_
    have e5 : ((sk.length : Int) - (tk : Int)).toNat = sk.length - tk := by omega
    rw [e5]
    refine gom ?_
    have hcut := Vec.cut (m := sk.length - tk) hx2 (by omega)
    have hln : ints (sk.take (sk.length - tk) ++ ly) = (ints sk).take ((sk.length - tk) * 1) ++ ints ly := by rw [ints_append, ints_take, Nat.mul_one]
    have hle : (sk.take (sk.length - tk) ++ ly).length = sk.length - tk + ly.length := by rw [List.length_append, List.length_take]; omega
    refine WL.op (by kernel_rfl) (OW.append rfl rfl (by kernel_rfl) (by kernel_rfl) hcut (by (repeat first | exact .here | apply At.there)) hs1.ints (ints_length _) (ints_one _) (by omega) (by omega) rfl fun A3 c3 o3 hv3 => ?_)
    refine gom ?_
    rw [← hln] at hv3
    refine WC.frozenVec hx1v .here fun G3 h3 z3 => ?_
    refine WC.frozenVec hv3 .here fun G4 h4 z4 => ?_
    refine WC.ret ?_
    refine WK.un ?_
    exact QF.p1 (.inl rfl) rfl (.cell rfl inferInstance inferInstance (by (repeat first | exact .here | apply At.there)) rfl rfl) (⟨A1, c1, A3, c3, by show _ = Ending.returned (.agg #[.bool sr, .bool false, .slice A1 (varsR (c, (n : Int)) ⟨sr, false, sv, sk⟩).length c1, .slice A3 (sk.take (sk.length - tk) ++ ly).length c3]); rw [hvl, hle]; first | done | rfl, Gh.le_trans hg1 (Gh.le_trans h3 h4), ⟨hx1v.le, by rw [hle]; exact hv3.le, (IVec.sl z3).mono h4, IVec.sl z4⟩, rfl⟩)
end
end Go.Proofs.YtbfgljcjblfleaaGreatDoor.Gb
namespace Go.Proofs.YtbfgljcjblfleaaGreatDoor.Gb
open Go Go.Proofs Go.MapKept
attribute [local irreducible] Tryz.prog
instance embI : Emb (fun n : Int => Value.int .i64 n) (.int .i64) := ⟨fun h => by cases h; rfl, fun a => rfl⟩
instance embS : Emb (fun s : ByteArray => Value.string s) .string := ⟨fun h => by cases h; rfl, fun a => trivial⟩
def KV {α : Type} (k : Kd α) (G : Gh) (l : List α) (cs : List Value) : Prop := cs.length = l.length * k.n ∧ ∀ i x, l[i]? = some x → k.K G x ((cs.drop (i * k.n)).take k.n)
theorem KV.mono {α : Type} {k : Kd α} {G G' : Gh} {l : List α} {cs : List Value} (h : KV k G l cs) (hg : G.le G') : KV k G' l cs := ⟨h.1, fun i x hx => k.mono hg (h.2 i x hx)⟩
theorem KV.sl {α : Type} {k : Kd α} {G : Gh} {l : List α} {A : Option Addr} {cs : List Value} (h : KV k G l cs) (hn : 0 < k.n) (hz : cs = [] ∨ ∃ b, A = some ⟨b, 0, none⟩ ∧ Cs G b 0 cs) : Sl k G A l := Sl.ofCs hz h.1 hn h.2
theorem KV.nil {α : Type} (k : Kd α) (G : Gh) : KV k G [] [] := ⟨by simp, fun i x h => by simp at h⟩
theorem KV.snoc {α : Type} {k : Kd α} {G : Gh} {l : List α} {cs es : List Value} {x : α} (h : KV k G l cs) (hk : k.K G x es) : KV k G (l ++ [x]) (cs ++ es) := by
  have he : es.length = k.n := k.len hk
  refine ⟨by simp [h.1, he, Nat.add_mul], fun i y hy => ?_⟩
  rcases Nat.lt_or_ge i l.length with h1 | h1
  · rw [List.getElem?_append_left h1] at hy
    have hle : (i + 1) * k.n ≤ l.length * k.n := Nat.mul_le_mul_right _ h1
    rw [Nat.add_mul, Nat.one_mul] at hle
    rw [List.drop_append_of_le_length (by rw [h.1]; omega), List.take_append_of_le_length (by rw [List.length_drop, h.1]; omega)]
    exact h.2 i y hy
  · rw [List.getElem?_append_right h1] at hy
    have h0 : i - l.length = 0 := by have := (List.getElem?_eq_some_iff.1 hy).1; simp at this; omega
    rw [h0] at hy
    simp at hy
    subst hy
    have hi : i = l.length := by omega
    rw [hi, show l.length * k.n = cs.length from h.1.symm, List.drop_left, List.take_of_length_le (by omega)]
    exact hk
theorem KV.one {α : Type} {k : Kd α} {G : Gh} {l : List α} {cs : List Value} (h : KV k G l cs) (hn : 0 < k.n) : cs.all (·.oneCell') = true := by
  rw [List.all_eq_true]
  intro v hv
  obtain ⟨j, hj⟩ := List.getElem?_of_mem hv
  have hjl := (List.getElem?_eq_some_iff.1 hj).1
  rw [h.1] at hjl
  have hi : j / k.n < l.length := Nat.div_lt_of_lt_mul (by rwa [Nat.mul_comm])
  have hk := h.2 (j / k.n) _ (List.getElem?_eq_getElem hi)
  have h1 := List.all_eq_true.1 (k.one hk) v
  refine h1 (List.mem_of_getElem? (i := j % k.n) ?_)
  rw [List.getElem?_take, if_pos (Nat.mod_lt _ hn), List.getElem?_drop, Nat.mul_comm (j / k.n), Nat.div_add_mod]
  exact hj
theorem KV.rep {α : Type} {k : Kd α} {G : Gh} {x : α} {z : List Value} (hk : k.K G x z) : ∀ m, KV k G (List.replicate m x) (repS m z)
  | 0 => KV.nil k G
  | m + 1 => by
    have hz := k.len hk
    have ih := KV.rep hk m
    refine ⟨by rw [repS_length, hz]; simp, fun i y hy => ?_⟩
    have hy' : y = x := by
      have := List.mem_of_getElem? hy
      exact (List.mem_replicate.1 this).2
    subst hy'
    cases i with
    | zero => simp only [repS, Nat.zero_mul, List.drop_zero]; rw [← hz, List.take_left]; exact hk
    | succ i =>
      have hi := (List.getElem?_eq_some_iff.1 hy).1
      have h2 := ih.2 i y (by rw [List.getElem?_replicate, if_pos (by simpa using hi)])
      simp only [repS]
      rw [List.drop_append, List.drop_eq_nil_of_le (by rw [hz, Nat.add_mul]; omega), List.nil_append, hz, show (i + 1) * k.n - k.n = i * k.n by rw [Nat.add_mul]; omega]
      exact h2
theorem KV.set {α : Type} {k : Kd α} {G : Gh} {l : List α} {cs es : List Value} {x : α} (h : KV k G l cs) (hk : k.K G x es) {i : Nat} (hi : i < l.length) : KV k G (l.set i x) (cs.take (i * k.n) ++ es ++ cs.drop (i * k.n + es.length)) := by
  have he : es.length = k.n := k.len hk
  have hil : (i + 1) * k.n ≤ l.length * k.n := Nat.mul_le_mul_right _ hi
  rw [Nat.add_mul, Nat.one_mul] at hil
  have hcl := h.1
  refine ⟨by simp only [List.length_append, List.length_take, List.length_drop, List.length_set]; omega, fun j y hy => ?_⟩
  have hj := (List.getElem?_eq_some_iff.1 hy).1
  rw [List.length_set] at hj
  rw [List.getElem?_set] at hy
  by_cases hij : i = j
  · subst hij
    rw [if_pos rfl, if_pos hi] at hy
    cases hy
    rw [List.append_assoc, List.drop_append, List.drop_eq_nil_of_le (by rw [List.length_take]; omega), List.nil_append, List.length_take, show i * k.n - min (i * k.n) cs.length = 0 by omega, List.drop_zero, ← he, List.take_left]
    exact hk
  · rw [if_neg hij] at hy
    have h2 := h.2 j y hy
    have e : ((cs.take (i * k.n) ++ es ++ cs.drop (i * k.n + es.length)).drop (j * k.n)).take k.n = (cs.drop (j * k.n)).take k.n := by
      apply List.ext_getElem?
      intro m
      rw [List.getElem?_take, List.getElem?_take]
      split
      · rename_i hm
        rw [List.getElem?_drop, List.getElem?_drop]
        rcases Nat.lt_or_gt_of_ne hij with h3 | h3
        · have h4 : (i + 1) * k.n ≤ j * k.n := Nat.mul_le_mul_right _ h3
          rw [Nat.add_mul, Nat.one_mul] at h4
          rw [List.getElem?_append_right (by rw [List.length_append, List.length_take]; omega), List.getElem?_drop]
          congr 1
          rw [List.length_append, List.length_take]; omega
        · have h4 : (j + 1) * k.n ≤ i * k.n := Nat.mul_le_mul_right _ h3
          rw [Nat.add_mul, Nat.one_mul] at h4
          rw [List.getElem?_append_left (by rw [List.length_append, List.length_take]; omega), List.getElem?_append_left (by rw [List.length_take]; omega), List.getElem?_take, if_pos (by omega)]
      · rfl
    rw [e]; exact h2
abbrev SVec (A : Option Addr) (n cap : Nat) (cs : List Value) (x : Own) : Prop := Vec 86 4 A n cap cs x
theorem Kd.ss_rep {G : Gh} {s : SS} {es : List Value} (h : Kd.ss.K G s es) : ∃ VA vc SA sc, es = [.bool s.reached, .bool s.unlike, .slice VA s.vars.length vc, .slice SA s.stack.length sc] ∧ SRep G s VA vc SA sc := by
  obtain ⟨VA, vc, SA, sc, h1, ⟨h2, h3⟩, h4, h5⟩ := h
  exact ⟨VA, vc, SA, sc, h1, h2, h3, h4, h5⟩
theorem SRep.kd {G : Gh} {s : SS} {VA : Option Addr} {vc : Nat} {SA : Option Addr} {sc : Nat} (h : SRep G s VA vc SA sc) : Kd.ss.K G s [.bool s.reached, .bool s.unlike, .slice VA s.vars.length vc, .slice SA s.stack.length sc] :=
  ⟨VA, vc, SA, sc, rfl, ⟨h.hv, h.hs⟩, h.vars, h.stack⟩
theorem ints_rep (n : Nat) : repS n [Value.int .i64 0] = ints (List.replicate n 0) := by
  induction n with
  | zero => rfl
  | succ n ih => simp only [repS, ih, List.replicate_succ]; rfl
theorem ints_drop (l : List Int) (n : Nat) : ints (l.drop n) = (ints l).drop n := by rw [ints, ints, List.map_drop]
theorem mem_setA {m : List (Int × Value)} {k x : Int} {v : Value} : x ∈ (setA m k v).map (·.1) ↔ x ∈ m.map (·.1) ∨ x = k := by
  unfold setA
  split
  · rename_i h
    rw [keys_set]
    exact ⟨.inl, fun h' => h'.elim id fun e => by rw [e]; exact h⟩
  · simp
theorem length_setA {m : List (Int × Value)} {k : Int} {v : Value} : (setA m k v).length ≤ m.length + 1 := by
  unfold setA
  split <;> simp
theorem mem_delA {m : List (Int × Value)} {k x : Int} : x ∈ (delA m k).map (·.1) ↔ x ∈ m.map (·.1) ∧ x ≠ k := by
  unfold delA
  simp only [List.mem_map, List.mem_filter, decide_eq_true_eq]
  constructor
  · rintro ⟨p, ⟨h1, h2⟩, rfl⟩; exact ⟨⟨p, h1, rfl⟩, h2⟩
  · rintro ⟨⟨p, h1, rfl⟩, h2⟩; exact ⟨p, ⟨h1, h2⟩, rfl⟩
theorem length_delA {m : List (Int × Value)} {k : Int} (h : k ∈ m.map (·.1)) : (delA m k).length < m.length := by
  obtain ⟨p, hp, rfl⟩ := List.mem_map.1 h
  unfold delA
  exact List.length_filter_lt_length_iff_exists.2 ⟨p, hp, by simp⟩
theorem nextR_nonneg {c : Int} {n k : Nat} {x : Int} (h : x ∈ nextR (c, (n : Int)) k) : 0 ≤ x := by
  unfold nextR at h
  split at h
  · simp at h
  · split at h
    · simp at h; omega
    · split at h
      · simp at h; omega
      · simp at h; omega
theorem Vec.isBlk {T sz n cap : Nat} {A : Option Addr} {cs : List Value} {x : Own} (h : Vec T sz A n cap cs x) (hn : 0 < n) : ∃ b c, A = some ⟨b, 0, none⟩ ∧ x = .blk b (.cells c T (0, 0)) := by
  obtain ⟨_, ⟨_, h, _⟩ | ⟨b, c, h1, h2, _⟩⟩ := h
  · omega
  · exact ⟨b, c, h1, h2⟩
section
variable {P : Program} {Q : Exit → Act → World → Prop} {cx : Cx} {L : List (Nat × Value)} {G : Gh} {H : List Own}
theorem WK.freezeC {K : Act → World → Prop} {j b : Nat} {c : Array Value} {T : TypeId} {cs : List Value} (hj : At H j (.blk b (.cells c T (0, 0)))) (hc : c.toList = cs) (h : ∀ G', G.le G' → Cs G' b 0 cs → WK K cx L G' (H.eraseIdx j)) : WK K cx L G H :=
  WK.freeze hj fun hg => h _ hg fun i v e => by rw [Nat.zero_add, Gh.add_at, ← Array.getElem?_toList, hc]; exact e
theorem WC.freezeC {c0 : Code} {j b : Nat} {c : Array Value} {T : TypeId} {cs : List Value} (hj : At H j (.blk b (.cells c T (0, 0)))) (hc : c.toList = cs) (h : ∀ G', G.le G' → Cs G' b 0 cs → WC P c0 Q cx L G' (H.eraseIdx j)) : WC P c0 Q cx L G H :=
  WK.freezeC (K := c0.wp P Q) hj hc h
theorem WC.joinG {x y : Code} {X : Type} (Lf : X → List (Nat × Value)) (Gf : X → Gh) (Hf : X → List Own) (ok : X → Prop)
    (h : WC P x (Exit.then (fun a w => ∃ t, ok t ∧ St cx (Lf t) (Gf t) (Hf t) a w) Q) cx L G H) (hy : ∀ t, ok t → WC P y Q cx (Lf t) (Gf t) (Hf t)) : WC P x (Exit.then (y.wp P Q) Q) cx L G H :=
  fun a w st => Code.wp_mono (fun e a w q => by cases e <;> first | exact (let ⟨t, ht, h⟩ := q; hy t ht a w h) | exact q) (h a w st)
end
structure POk (w : Wd) (p : Pr) : Prop where
  par : (p.params.length : Int) ≤ p.locals
  loc : p.locals ≤ 64
  pos : 0 < p.code.length
  few : p.code.length ≤ 16384
  ins : ∀ (k : Nat) (i : Int × Int), p.code[k]? = some i → 0 ≤ i.2 ∧ EOk w p.locals.toNat i.1 i.2.toNat
end Go.Proofs.YtbfgljcjblfleaaGreatDoor.Gb
namespace Go.Proofs.YtbfgljcjblfleaaGreatDoor.Gb
open Go Go.Proofs Go.MapKept
attribute [local irreducible] Tryz.prog
structure FL where
  l : List SS
  m : List (Int × Value)
  G : Gh
  cs : List Value
  c : Array Value
  es : Array MapEntry
  ck : Nat
abbrev prC (p : Pr) (QA : Option Addr) (qc : Nat) (IA : Option Addr) (ic : Nat) : Array Value := #[.string p.name, .bool p.exp, .slice QA p.params.length qc, .int .i64 p.locals, .int .i64 p.result, .slice IA p.code.length ic]
abbrev prB (b : Nat) (p : Pr) (QA : Option Addr) (qc : Nat) (IA : Option Addr) (ic : Nat) : Own := .blk b (.cells (prC p QA qc IA ic) 65 (0, 0))
section
variable (G : Gh) (w : Wd) (p : Pr) (bw : Nat) (CA NA PA : Option Addr) (cc nc pc : Nat) (QA IA : Option Addr) (qc ic : Nat) (hW : WRep G w bw CA NA PA cc nc pc) (hQ : Sl (Kd.int .i64) G QA p.params) (hI : Sl Kd.ins G IA p.code) (hp : POk w p)
include hW hQ hI hp
theorem flow_fn :
    Fn Tryz.prog 37 #[.pointer (some ⟨bw, 0, none⟩), .agg (prC p QA qc IA ic)] G []
      fun e G' H' => ∃ bf TA tc l, e = .returned (.pointer (some ⟨bf, 0, none⟩)) ∧ G.le G' ∧ FRep G' p bf bw QA IA qc ic TA l.length tc ∧ Sl Kd.ss G' TA l ∧ l.length ≤ tc ∧ Least w p l ∧ H' = [] := by
  have hfew := hp.few
  have hpos := hp.pos
  have hpar := hp.par
  have hloc := hp.loc
  refine Fn.enter Tryz.func37 rfl rfl fun w0 => ?_
  refine WC.seq ?_
  refine WC.region ?_
  refine WL.op (by kernel_rfl) (OW.box rfl rfl fun b3 => ?_)
  refine WL.p (Gp.assign rfl) (by kernel_rfl) rfl ?_
  refine WL.nil ?_
  refine WK.un ?_
  refine WC.seq ?_
  refine WC.drawS (Hs := [prB b3 p QA qc IA ic]) mixed (by repeat (first | exact Pk.nil | exact Pk.all | exact Pk.app | exact Pk.appR | with_reducible apply Pk.na | (apply Pk.cons; (repeat first | exact .here | apply Rem.there | apply Rem.app)) | apply Pk.skip | apply Pk.skipA)) ?_
  refine WB.tp (i := 0) rfl (by kernel_rfl) (by kernel_rfl) rfl (Gp.move rfl) ?_
  refine WB.tp (i := 2) rfl (by kernel_rfl) (by kernel_rfl) rfl (Gp.fieldAddr rfl) ?_
  (first | (refine WB.tv (i := 3) rfl (by kernel_rfl) (by kernel_rfl) rfl (Gv.load1 rfl (by (repeat first | exact .here | apply At.there)) (by first | rfl | assumption)) ?_) | (refine WB.tv (i := 3) rfl (by kernel_rfl) (by kernel_rfl) rfl (Gv.loadN rfl (by (repeat first | exact .here | apply At.there)) (by rfl) (by rfl)) ?_) | (refine WB.tv (i := 3) rfl (by kernel_rfl) (by kernel_rfl) rfl (Gv.loadG1 rfl (by assumption) rfl) ?_) | (refine WB.tv (i := 3) rfl (by kernel_rfl) (by kernel_rfl) rfl (Gv.loadG0 rfl (by assumption) rfl) ?_) | (refine WB.tv (i := 3) rfl (by kernel_rfl) (by kernel_rfl) rfl (Gv.loadGN rfl (by assumption) rfl) ?_))
  (first | refine WB.tp (i := 4) rfl (by kernel_rfl) (by kernel_rfl) rfl (Gp.lenSl rfl) ?_ | refine WB.tp (i := 4) rfl (by kernel_rfl) (by kernel_rfl) rfl (Gp.lenS rfl) ?_)
  (first | (refine WB.tv (i := 1) rfl (by kernel_rfl) (by kernel_rfl) rfl (Gv.load1 rfl (by (repeat first | exact .here | apply At.there)) (by first | rfl | assumption)) ?_) | (refine WB.tv (i := 1) rfl (by kernel_rfl) (by kernel_rfl) rfl (Gv.loadN rfl (by (repeat first | exact .here | apply At.there)) (by rfl) (by rfl)) ?_) | (refine WB.tv (i := 1) rfl (by kernel_rfl) (by kernel_rfl) rfl (Gv.loadG1 rfl (by assumption) rfl) ?_) | (refine WB.tv (i := 1) rfl (by kernel_rfl) (by kernel_rfl) rfl (Gv.loadG0 rfl (by assumption) rfl) ?_) | (refine WB.tv (i := 1) rfl (by kernel_rfl) (by kernel_rfl) rfl (Gv.loadGN rfl (by assumption) rfl) ?_))
  refine WB.one (i := 5) (by kernel_rfl) rfl (by kernel_rfl) (OW.makeSlice (n := 4) (z := .agg #[.bool false, .bool false, .slice none 0 0, .slice none 0 0]) rfl rfl rfl (by omega) (by omega) (by omega) rfl fun tb o1 ho1 => ?_)
  rw [Int.toNat_natCast] at ho1 ⊢
  refine ⟨fun w hw => hw.pk (by repeat (first | exact Pk.nil | exact Pk.all | exact Pk.app | exact Pk.appR | with_reducible apply Pk.na | (apply Pk.cons; (repeat first | exact .here | apply Rem.there | apply Rem.app)) | apply Pk.skip | apply Pk.skipA)), ?_⟩
  refine WB.tp (i := 6) rfl (by kernel_rfl) (by kernel_rfl) rfl (Gp.build rfl rfl) ?_
  refine WB.one (i := 7) (by kernel_rfl) rfl (by kernel_rfl) (OW.box rfl rfl fun b5 => ?_)
  refine ⟨fun w hw => hw.pk (by repeat (first | exact Pk.nil | exact Pk.all | exact Pk.app | exact Pk.appR | with_reducible apply Pk.na | (apply Pk.cons; (repeat first | exact .here | apply Rem.there | apply Rem.app)) | apply Pk.skip | apply Pk.skipA)), ?_⟩
  refine WB.tp (i := 8) rfl (by kernel_rfl) (by kernel_rfl) rfl (Gp.assign rfl) ?_
  refine WB.done (by kernel_rfl) ?_
  refine WK.un ?_
  refine WC.pick [.blk b5 (.cells #[.pointer (some ⟨bw, 0, none⟩), .string p.name, .bool p.exp, .slice QA p.params.length qc, .int .i64 p.locals, .int .i64 p.result, .slice IA p.code.length ic, .slice (some ⟨tb, 0, none⟩) p.code.length p.code.length] 84 (0, 0)), o1, prB b3 p QA qc IA ic] ?_
  refine WC.freezeC .here rfl fun G1 hg1 hf1 => ?_
  have hF : FRep G1 p b5 bw QA IA qc ic (some ⟨tb, 0, none⟩) p.code.length p.code.length := ⟨hf1, hQ.mono hg1, hI.mono hg1⟩
  refine WC.seq ?_
  refine WC.region ?_
  refine WL.p (Gp.fieldAddr rfl) (by kernel_rfl) rfl ?_
  (first | (refine WL.v (Gv.load1 rfl (by (repeat first | exact .here | apply At.there)) (by first | rfl | assumption)) (by kernel_rfl) rfl ?_) | (refine WL.v (Gv.loadN rfl (by (repeat first | exact .here | apply At.there)) (by rfl) (by rfl)) (by kernel_rfl) rfl ?_) | (refine WL.v (Gv.loadG1 rfl (by assumption) rfl) (by kernel_rfl) rfl ?_) | (refine WL.v (Gv.loadG0 rfl (by assumption) rfl) (by kernel_rfl) rfl ?_) | (refine WL.v (Gv.loadGN rfl (by assumption) rfl) (by kernel_rfl) rfl ?_))
  refine WL.op (by kernel_rfl) (OW.makeSlice (n := 1) (z := .int .i64 0) rfl rfl rfl (by omega) (by omega) (by omega) rfl fun vb o2 ho2 => ?_)
  refine WL.p (Gp.build rfl rfl) (by kernel_rfl) rfl ?_
  refine WL.op (by kernel_rfl) (OW.alloc rfl fun b6 => ?_)
  refine WL.op (by kernel_rfl) (OW.store rfl rfl (by (repeat first | exact .here | apply At.there)) rfl (by rfl) (by rfl) (by kernel_rfl) (by rfl) ?_ rfl)
  refine WL.nil ?_
  refine WK.un ?_
  refine WC.seq ?_
  refine WC.region ?_
  refine WL.p (Gp.fieldAddr rfl) (by kernel_rfl) rfl ?_
  (first | (refine WL.v (Gv.load1 rfl (by (repeat first | exact .here | apply At.there)) (by first | rfl | assumption)) (by kernel_rfl) rfl ?_) | (refine WL.v (Gv.loadN rfl (by (repeat first | exact .here | apply At.there)) (by rfl) (by rfl)) (by kernel_rfl) rfl ?_) | (refine WL.v (Gv.loadG1 rfl (by assumption) rfl) (by kernel_rfl) rfl ?_) | (refine WL.v (Gv.loadG0 rfl (by assumption) rfl) (by kernel_rfl) rfl ?_) | (refine WL.v (Gv.loadGN rfl (by assumption) rfl) (by kernel_rfl) rfl ?_))
  refine WL.p (Gp.fieldAddr rfl) (by kernel_rfl) rfl ?_
  (first | (refine WL.v (Gv.load1 rfl (by (repeat first | exact .here | apply At.there)) (by first | rfl | assumption)) (by kernel_rfl) rfl ?_) | (refine WL.v (Gv.loadN rfl (by (repeat first | exact .here | apply At.there)) (by rfl) (by rfl)) (by kernel_rfl) rfl ?_) | (refine WL.v (Gv.loadG1 rfl (by assumption) rfl) (by kernel_rfl) rfl ?_) | (refine WL.v (Gv.loadG0 rfl (by assumption) rfl) (by kernel_rfl) rfl ?_) | (refine WL.v (Gv.loadGN rfl (by assumption) rfl) (by kernel_rfl) rfl ?_))
  refine WL.op (by kernel_rfl) (OW.copy rfl rfl (by kernel_rfl) ho2 (by (repeat first | exact .here | apply At.there)) (hF.params.ints) (ints_length _) (ints_one _) (by omega) rfl fun o3 ho3 => ?_)
  refine WL.nil ?_
  refine WK.un ?_
  have hbl : (beginS p).vars.length = p.locals.toNat := by simp [beginS]; omega
  have hb3 : ints p.params ++ (repS p.locals.toNat (Value.int .i64 0).cells.toList).drop (p.params.length * 1) = ints (beginS p).vars := by
    rw [show (Value.int .i64 0).cells.toList = [Value.int .i64 0] from rfl, ints_rep, ← ints_drop, ← ints_append, Nat.mul_one, List.drop_replicate]; rfl
  rw [hb3] at ho3
  refine WC.frozenVec ho3 (by (repeat first | exact .here | apply At.there)) fun G2 hg2 z2 => ?_
  have hbs : Sl (Kd.int .i64) G2 (some ⟨vb, 0, none⟩) (beginS p).vars := IVec.sl z2
  have hbR : SRep G2 (beginS p) (some ⟨vb, 0, none⟩) p.locals.toNat none 0 := ⟨by omega, Nat.le_refl _, hbs, Sl.nil _ _ _⟩
  obtain ⟨xb, xc, hxb, rfl⟩ := ho1.isBlk hpos
  obtain rfl : tb = xb := by cases hxb; rfl
  have hF2 := hF.mono hg2
  have hfc := hF2.cells
  obtain ⟨_, hfit1, hput1⟩ := Vec.put (i := 0) ho1 hpos [.bool true, .bool false, .slice (some ⟨vb, 0, none⟩) p.locals.toNat p.locals.toNat, .slice none 0 0] rfl
  have hble1 : Nat.ble (0 + (0 : Int).toNat * 4 + 4) xc.size = true := Nat.ble_eq_true_of_le hfit1
  have x0 : (0 : Int) < (p.code.length : Int) := by omega
  refine gom ?_
  refine WQ.one (by kernel_rfl) (by kernel_rfl) (OW.store (n := 4) (cs := [.bool true, .bool false, .slice (some ⟨vb, 0, none⟩) p.locals.toNat p.locals.toNat, .slice none 0 0]) rfl rfl (by (repeat first | exact .here | apply At.there)) rfl rfl rfl hble1 rfl ?_ rfl)
  refine gom ?_
  refine WL.op (by kernel_rfl) (OW.makeMap rfl fun bm => ?_)
  refine WL.op (by kernel_rfl) (OW.insert (emb := fun n : Int => Value.int .i64 n) (key := 0) (v := .int .i64 1) rfl rfl rfl (by (repeat first | exact .here | apply At.there)) MRel.empty rfl fun es1 ck1 hm1 => ?_)
  refine gom ?_
  have hkv0 : KV Kd.ss G2 ((List.replicate p.code.length ss0).set 0 (beginS p)) ((repS p.code.length (Value.agg #[.bool false, .bool false, .slice none 0 0, .slice none 0 0]).cells.toList).take (0 * 4) ++ [.bool true, .bool false, .slice (some ⟨vb, 0, none⟩) p.locals.toNat p.locals.toNat, .slice none 0 0] ++ (repS p.code.length (Value.agg #[.bool false, .bool false, .slice none 0 0, .slice none 0 0]).cells.toList).drop (0 * 4 + [Value.bool true, .bool false, .slice (some ⟨vb, 0, none⟩) p.locals.toNat p.locals.toNat, .slice none 0 0].length)) := by
    refine KV.set (k := Kd.ss) (KV.rep (k := Kd.ss) (x := ss0) ⟨none, 0, none, 0, rfl, ⟨Nat.le_refl _, Nat.le_refl _⟩, Sl.nil _ _ _, Sl.nil _ _ _⟩ _) ?_ (by simpa using hpos)
    have h := hbR.kd
    rw [hbl] at h
    exact h
  refine WC.pick [.blk tb (.cells _ 86 (0, 0)), .blk bm (.map es1 ck1), prB b3 p QA qc IA ic] ?_
  refine WC.loop (X := FL) (fun x => [(3, .pointer (some ⟨b3, 0, none⟩)), (5, .pointer (some ⟨b5, 0, none⟩)), (7, .map (some bm))]) (fun x => x.G) (fun x => [.blk tb (.cells x.c 86 (0, 0)), .blk bm (.map x.es x.ck), prB b3 p QA qc IA ic]) (fun x => 2 * sumW p.locals.toNat x.l + x.m.length)
    (fun x => FInv w p x.l (x.m.map (·.1)) ∧ MRel (fun n : Int => Value.int .i64 n) (.int .i64) x.es x.ck x.m ∧ SVec (some ⟨tb, 0, none⟩) p.code.length p.code.length x.cs (.blk tb (.cells x.c 86 (0, 0))) ∧ KV Kd.ss x.G x.l x.cs ∧ G2.le x.G)
    ⟨(List.replicate p.code.length ss0).set 0 (beginS p), [(0, .int .i64 1)], G2, _, _, es1, ck1⟩ ⟨FInv.first hpar hpos, hm1, hput1, hkv0, Gh.le_refl _⟩ (by exact ⟨rfl, rfl, rfl, trivial⟩) rfl (List.Sublist.refl _) fun x hx => ?_
  obtain ⟨l, m, G3, cs, c, es, ck⟩ := x
  obtain ⟨hinv, hmr, hsv, hkv, hg3⟩ := hx
  dsimp only at hinv hmr hsv hkv hg3
  have hll := hinv.len
  have hF3 := hF2.mono hg3
  have hfc3 := hF3.cells
  refine WC.seq ?_
  refine WC.seq ?_
  refine WC.region ?_
  refine WL.p (Gp.move rfl) (by kernel_rfl) rfl ?_
  refine WL.v (Gv.lenMap (emb := fun n : Int => Value.int .i64 n) rfl (by (repeat first | exact .here | apply At.there)) hmr) (by kernel_rfl) rfl ?_
  by_cases hm0 : m.length = 0
  · have y0 : decide ((0 : Int) < (m.length : Int)) = false := decide_eq_false (by omega)
    refine gom ?_
    refine WC.frozenVec hsv .here fun G4 hg4 z4 => ?_
    have hm00 : m = [] := List.eq_nil_of_length_eq_zero hm0
    subst hm00
    refine WC.ret ?_
    refine WK.un ?_
    exact QF.p1 (.inl rfl) rfl (.tmp rfl) (⟨b5, some ⟨tb, 0, none⟩, p.code.length, l, rfl, Gh.le_trans hg1 (Gh.le_trans hg2 (Gh.le_trans hg3 hg4)), by rw [hll]; exact hF3.mono hg4, (hkv.mono hg4).sl (by decide) z4, by omega, hinv.least, rfl⟩)
  have y0 : decide ((0 : Int) < (m.length : Int)) = true := decide_eq_true (by omega)
  refine gom ?_
  refine WL.op (by kernel_rfl) (OW.rangeMap (emb := fun n : Int => Value.int .i64 n) rfl (by (repeat first | exact .here | apply At.there)) hmr rfl fun it hir => ?_)
  refine gom ?_
  refine WC.loop (X := Int × Array Nat × List (Int × Value)) (fun x => [(3, .pointer (some ⟨b3, 0, none⟩)), (5, .pointer (some ⟨b5, 0, none⟩)), (7, .map (some bm)), (8, .int .i64 x.1), (46, .pointer (some ⟨it, 0, none⟩))]) (fun x => G3)
    (fun x => [.blk it (.mapIter (some bm) ck x.2.1 ck), .blk tb (.cells c 86 (0, 0)), .blk bm (.map es ck), prB b3 p QA qc IA ic]) (fun x => x.2.2.length)
    (fun x => IRel (fun n : Int => Value.int .i64 n) es x.2.1 x.2.2 ∧ (∀ q ∈ m, q ∈ x.2.2 ∨ x.1 ≤ q.1) ∧ (x.1 = p.code.length ∨ x.1 ∈ m.map (·.1)) ∧ ∀ q ∈ x.2.2, q ∈ m)
    ((p.code.length : Int), #[], m) ⟨hir, fun q hq => .inl hq, .inl rfl, fun q hq => hq⟩ (by exact ⟨rfl, rfl, rfl, rfl, rfl, trivial⟩) rfl (List.Sublist.refl _) fun x hx => ?_
  obtain ⟨cur, seen, rem⟩ := x
  obtain ⟨hir2, hlow, hcur, hsub⟩ := hx
  dsimp only at hir2 hlow hcur hsub
  refine WC.seq ?_
  refine WC.region ?_
  refine WL.op (by kernel_rfl) (OW.next (emb := fun n : Int => Value.int .i64 n) rfl (by (repeat first | exact .here | apply At.there)) (by (repeat first | exact .here | apply At.there)) hmr hir2 rfl (fun h0 => ?_) (fun q hq e he hek hev hir3 => ?_))
  rotate_left
  ·
    refine gom ?_
    refine WL.v (Gv.entry (emb := fun n : Int => Value.int .i64 n) rfl (by (repeat first | exact .here | apply At.there)) (by (repeat first | exact .here | apply At.there)) hmr he hek hev) (by kernel_rfl) rfl ?_
    refine gom ?_
    refine WL.p (Gp.minI rfl rfl rfl) (by kernel_rfl) rfl ?_
    refine gom ?_
    have hok : ∀ q' ∈ m, q' ∈ delA rem q.1 ∨ (if q.1 < cur then q.1 else cur) ≤ q'.1 := fun q' hq' => by
      rcases hlow q' hq' with h | h
      · by_cases hqq : q'.1 = q.1
        · right; split <;> omega
        · left; unfold delA; exact List.mem_filter.2 ⟨h, by simpa using hqq⟩
      · right; split <;> omega
    have hok2 : (if q.1 < cur then q.1 else cur) = p.code.length ∨ (if q.1 < cur then q.1 else cur) ∈ m.map (·.1) := by
      split
      · right; exact List.mem_map.2 ⟨q, hsub q hq, rfl⟩
      · exact hcur
    have hok3 : ∀ q' ∈ delA rem q.1, q' ∈ m := fun q' hq' => by unfold delA at hq'; exact hsub q' (List.mem_filter.1 hq').1
    have hlt := length_delA (List.mem_map.2 ⟨q, hq, rfl⟩)
    exact WK.again ((if q.1 < cur then q.1 else cur), seen.push e.born, delA rem q.1) (by dsimp only; exact hlt) ⟨hir3, hok, hok2, hok3⟩ (by exact ⟨rfl, rfl, rfl, rfl, rfl, trivial⟩) rfl (List.Sublist.refl _)
  subst h0
  obtain ⟨q0, hq0⟩ : ∃ q, q ∈ m := List.exists_mem_of_length_pos (by omega)
  have hcm : cur ∈ m.map (·.1) := by
    refine hcur.resolve_left fun hc => ?_
    obtain ⟨k, s, h1, h2, _⟩ := hinv.todo q0.1 (List.mem_map.2 ⟨q0, hq0, rfl⟩)
    have h3 := (List.getElem?_eq_some_iff.1 h2).1
    have h4 := (hlow q0 hq0).resolve_left (by simp)
    omega
  obtain ⟨kq, s0, hck, hs0, hr0⟩ := hinv.todo cur hcm
  subst hck
  have hkq := (List.getElem?_eq_some_iff.1 hs0).1
  obtain ⟨i, hi⟩ : ∃ i, p.code[kq]? = some i := ⟨_, List.getElem?_eq_getElem (by omega)⟩
  obtain ⟨hi0, hiE⟩ := hp.ins kq i hi
  obtain ⟨ic1, in1⟩ := i
  obtain ⟨nn, rfl⟩ : ∃ nn : Nat, in1 = nn := ⟨in1.toNat, by dsimp only at hi0; omega⟩
  dsimp only at hiE
  rw [Int.toNat_natCast] at hiE
  have hw0 := hinv.wf s0 (List.mem_of_getElem? hs0)
  have hv0 := hw0.vars hr0
  obtain ⟨VA, vc, SA, sc, hes0, hS0⟩ := Kd.ss_rep (hkv.2 kq s0 hs0)
  have hst0 := hw0.high
  obtain ⟨ib, io, ics, rfl, hik, hic⟩ := hI kq _ hi
  obtain rfl : ics = [.int .i64 ic1, .int .i64 nn] := hik
  have hic3 := hic.mono (Gh.le_trans hg1 (Gh.le_trans hg2 hg3))
  refine gom ?_
  refine WL.op (by kernel_rfl) (OW.mapDel (emb := fun n : Int => Value.int .i64 n) rfl rfl (by (repeat first | exact .here | apply At.there)) hmr rfl fun es2 ck2 hmr2 => ?_)
  refine go ?_
  obtain ⟨sB, hsB⟩ : ∃ sB, sB = behR w (ic1, (nn : Int)) s0 := ⟨_, rfl⟩
  have hwB : sB.wf p.locals.toNat := by rw [hsB]; exact behR_wf hw0 hr0
  have hrB : sB.reached = true := by rw [hsB, behR_reached]; exact hr0
  have hin := hinv.into (T' := (delA m (kq : Int)).map (·.1)) hcm hi hs0 (fun x hx => (mem_delA.1 hx).1) (fun x hx hne => mem_delA.2 ⟨hx, hne⟩)
  have hμ : 2 * sumW p.locals.toNat l + (delA m (kq : Int)).length < 2 * sumW p.locals.toNat l + m.length := by have := length_delA hcm; omega
  have hWG := hW.mono (Gh.le_trans hg1 (Gh.le_trans hg2 hg3))
  refine WC.joinG (X := Gh × Option Addr × Nat × Option Addr × Nat × Nat) (fun t => [(3, .pointer (some ⟨b3, 0, none⟩)), (5, .pointer (some ⟨b5, 0, none⟩)), (7, .map (some bm)), (8, .int .i64 kq), (10, .pointer (some ⟨t.2.2.2.2.2, 0, none⟩))]) (fun t => t.1)
    (fun t => [.blk t.2.2.2.2.2 (.cells #[.bool sB.reached, .bool sB.unlike, .slice t.2.1 sB.vars.length t.2.2.1, .slice t.2.2.2.1 sB.stack.length t.2.2.2.2.1] 86 (0, 0)), .blk tb (.cells c 86 (0, 0)), .blk bm (.map es2 ck2), prB b3 p QA qc (some ⟨ib, io, none⟩) ic]) (fun t => G3.le t.1 ∧ SRep t.1 sB t.2.1 t.2.2.1 t.2.2.2.1 t.2.2.2.2.1) ?_ fun t ht => ?_
  · obtain ⟨rb, ro, hrr, hread⟩ := (Vec.rds hsv .here : Rds G3 [.blk tb (.cells c 86 (0, 0))] (some ⟨tb, 0, none⟩) cs).resolve_left (fun h => by have h1 := hkv.1; rw [h] at h1; simp [Kd.ss] at h1; omega)
    cases hrr
    have z0 : (0 : Int) ≤ (kq : Int) := by omega
    have z1 : (kq : Int) < (p.code.length : Int) := by omega
    refine WC.drawS (Hs := [.blk tb (.cells c 86 (0, 0)), prB b3 p QA qc (some ⟨ib, io, none⟩) ic]) mixed (by repeat (first | exact Pk.nil | exact Pk.all | exact Pk.app | exact Pk.appR | with_reducible apply Pk.na | (apply Pk.cons; (repeat first | exact .here | apply Rem.there | apply Rem.app)) | apply Pk.skip | apply Pk.skipA)) ?_
    refine WB.tp (i := 0) rfl (by kernel_rfl) (by kernel_rfl) rfl (Gp.move rfl) ?_
    refine WB.tp (i := 1) rfl (by kernel_rfl) (by kernel_rfl) rfl (Gp.fieldAddr rfl) ?_
    (first | (refine WB.tv (i := 2) rfl (by kernel_rfl) (by kernel_rfl) rfl (Gv.load1 rfl (by (repeat first | exact .here | apply At.there)) (by first | rfl | assumption)) ?_) | (refine WB.tv (i := 2) rfl (by kernel_rfl) (by kernel_rfl) rfl (Gv.loadN rfl (by (repeat first | exact .here | apply At.there)) (by rfl) (by rfl)) ?_) | (refine WB.tv (i := 2) rfl (by kernel_rfl) (by kernel_rfl) rfl (Gv.loadG1 rfl (by assumption) rfl) ?_) | (refine WB.tv (i := 2) rfl (by kernel_rfl) (by kernel_rfl) rfl (Gv.loadG0 rfl (by assumption) rfl) ?_) | (refine WB.tv (i := 2) rfl (by kernel_rfl) (by kernel_rfl) rfl (Gv.loadGN rfl (by assumption) rfl) ?_))
    refine WB.tp (i := 3) rfl (by kernel_rfl) (by kernel_rfl) rfl (Gp.move rfl) ?_
    refine WB.tp (i := 4) rfl (by kernel_rfl) (by kernel_rfl) rfl (Gp.indexAddr rfl rfl (by first | assumption | omega | decide) (by first | assumption | omega | decide | (simp only [List.length_cons, List.length_nil]; decide))) ?_
    refine WB.tv (i := 5) rfl (by kernel_rfl) (by kernel_rfl) rfl (Gv.loadGN rfl hic3 rfl) ?_
    refine WB.tp (i := 6) rfl (by kernel_rfl) (by kernel_rfl) rfl (Gp.move rfl) ?_
    refine WB.tp (i := 7) rfl (by kernel_rfl) (by kernel_rfl) rfl (Gp.nilCheck rfl) ?_
    refine WB.tp (i := 8) rfl (by kernel_rfl) (by kernel_rfl) rfl (Gp.fieldAddr rfl) ?_
    (first | (refine WB.tv (i := 9) rfl (by kernel_rfl) (by kernel_rfl) rfl (Gv.load1 rfl (by (repeat first | exact .here | apply At.there)) (by first | rfl | assumption)) ?_) | (refine WB.tv (i := 9) rfl (by kernel_rfl) (by kernel_rfl) rfl (Gv.loadN rfl (by (repeat first | exact .here | apply At.there)) (by rfl) (by rfl)) ?_) | (refine WB.tv (i := 9) rfl (by kernel_rfl) (by kernel_rfl) rfl (Gv.loadG1 rfl (by assumption) rfl) ?_) | (refine WB.tv (i := 9) rfl (by kernel_rfl) (by kernel_rfl) rfl (Gv.loadG0 rfl (by assumption) rfl) ?_) | (refine WB.tv (i := 9) rfl (by kernel_rfl) (by kernel_rfl) rfl (Gv.loadGN rfl (by assumption) rfl) ?_))
    refine WB.tp (i := 10) rfl (by kernel_rfl) (by kernel_rfl) rfl (Gp.move rfl) ?_
    refine WB.tp (i := 11) rfl (by kernel_rfl) (by kernel_rfl) rfl (Gp.indexAddr rfl rfl (by first | assumption | omega | decide) (by first | assumption | omega | decide | (simp only [List.length_cons, List.length_nil]; decide))) ?_
    refine WB.tv (i := 12) rfl (by kernel_rfl) (by kernel_rfl) rfl (Gv.loadRN (i := ((kq : Nat) : Int).toNat * 4) rfl hread (.cons_cons _ (List.nil_sublist _)) hes0 rfl) ?_
    have hbf := behind_fn G3 w p b5 bw CA NA _ cc nc pc QA _ qc ic _ _ _ hWG hF3 s0 VA vc SA sc hS0 (by omega) (by omega) ic1 nn (by rw [hv0]; exact hiE)
    rw [← hsB] at hbf
    refine WB.two (i := 13) (j := 14) (by kernel_rfl) rfl rfl (by kernel_rfl) (by kernel_rfl) (OW.callK rfl hbf rfl fun v' G' H' h hg => ?_) (OW.alloc rfl fun b10 => ?_)
    · obtain ⟨V1, v1, S1, s1, he, hg4, hR4, rfl⟩ := h
      cases he
      refine ⟨fun w hw => (hw.pk (by repeat (first | exact Pk.nil | exact Pk.all | exact Pk.app | exact Pk.appR | with_reducible apply Pk.na | (apply Pk.cons; (repeat first | exact .here | apply Rem.there | apply Rem.app)) | apply Pk.skip | apply Pk.skipA))).le hg4, ?_⟩
      refine WB.one (i := 14) (by kernel_rfl) rfl (by kernel_rfl) (OW.alloc rfl fun b10 => ?_)
      refine ⟨fun w hw => (hw.pk (by repeat (first | exact Pk.nil | exact Pk.all | exact Pk.app | exact Pk.appR | with_reducible apply Pk.na | (apply Pk.cons; (repeat first | exact .here | apply Rem.there | apply Rem.app)) | apply Pk.skip | apply Pk.skipA))).le hg4, ?_⟩
      refine WB.one (i := 15) (by kernel_rfl) rfl (by kernel_rfl) (OW.store rfl rfl (by (repeat first | exact .here | apply At.there)) rfl (by rfl) (by rfl) (by kernel_rfl) (by rfl) ?_ rfl)
      refine ⟨fun w hw => (hw.pk (by repeat (first | exact Pk.nil | exact Pk.all | exact Pk.app | exact Pk.appR | with_reducible apply Pk.na | (apply Pk.cons; (repeat first | exact .here | apply Rem.there | apply Rem.app)) | apply Pk.skip | apply Pk.skipA))).le hg4, ?_⟩
      refine WB.done (by kernel_rfl) ?_
      refine WK.un ?_
      refine WK.pick [.blk b10 (.cells #[.bool sB.reached, .bool sB.unlike, .slice V1 sB.vars.length v1, .slice S1 sB.stack.length s1] 86 (0, 0)), .blk tb (.cells c 86 (0, 0)), .blk bm (.map es2 ck2), prB b3 p QA qc (some ⟨ib, io, none⟩) ic] ?_
      exact WK.meet (G', V1, v1, S1, s1, b10) ⟨hg4, hR4⟩ (by exact ⟨rfl, rfl, rfl, rfl, rfl, trivial⟩) rfl (List.Sublist.refl _)
    · refine ⟨fun w hw => hw.pk (by repeat (first | exact Pk.nil | exact Pk.all | exact Pk.app | exact Pk.appR | with_reducible apply Pk.na | (apply Pk.cons; (repeat first | exact .here | apply Rem.there | apply Rem.app)) | apply Pk.skip | apply Pk.skipA)), ?_⟩
      refine WB.one (i := 13) (by kernel_rfl) rfl (by kernel_rfl) (OW.callK rfl hbf rfl fun v' G' H' h hg => ?_)
      obtain ⟨V1, v1, S1, s1, he, hg4, hR4, rfl⟩ := h
      cases he
      refine ⟨fun w hw => (hw.pk (by repeat (first | exact Pk.nil | exact Pk.all | exact Pk.app | exact Pk.appR | with_reducible apply Pk.na | (apply Pk.cons; (repeat first | exact .here | apply Rem.there | apply Rem.app)) | apply Pk.skip | apply Pk.skipA))).le hg4, ?_⟩
      refine WB.one (i := 15) (by kernel_rfl) rfl (by kernel_rfl) (OW.store rfl rfl (by (repeat first | exact .here | apply At.there)) rfl (by rfl) (by rfl) (by kernel_rfl) (by rfl) ?_ rfl)
      refine ⟨fun w hw => (hw.pk (by repeat (first | exact Pk.nil | exact Pk.all | exact Pk.app | exact Pk.appR | with_reducible apply Pk.na | (apply Pk.cons; (repeat first | exact .here | apply Rem.there | apply Rem.app)) | apply Pk.skip | apply Pk.skipA))).le hg4, ?_⟩
      refine WB.done (by kernel_rfl) ?_
      refine WK.un ?_
      refine WK.pick [.blk b10 (.cells #[.bool sB.reached, .bool sB.unlike, .slice V1 sB.vars.length v1, .slice S1 sB.stack.length s1] 86 (0, 0)), .blk tb (.cells c 86 (0, 0)), .blk bm (.map es2 ck2), prB b3 p QA qc (some ⟨ib, io, none⟩) ic] ?_
      exact WK.meet (G', V1, v1, S1, s1, b10) ⟨hg4, hR4⟩ (by exact ⟨rfl, rfl, rfl, rfl, rfl, trivial⟩) rfl (List.Sublist.refl _)
  obtain ⟨G4, V1, v1, S1, s1, b10⟩ := t
  obtain ⟨hg4, hR4⟩ := ht
  dsimp only at hg4 hR4
  have hF4 := hF3.mono hg4
  have hfc4 := hF4.cells
  have hic4 := hic3.mono hg4
  have z0 : (0 : Int) ≤ (kq : Int) := by omega
  have z1 : (kq : Int) < (p.code.length : Int) := by omega
  refine gom ?_
  refine WL.op (by kernel_rfl) (OW.callK rfl (next_fn _ ic1 nn kq (by omega)) rfl fun v' G' H' h hg => ?_)
  obtain ⟨XA, xcap, he, hg5, hx5, rfl⟩ := h
  cases he
  obtain ⟨nx, hnx⟩ : ∃ nx, nx = nextR (ic1, (nn : Int)) kq := ⟨_, rfl⟩
  rw [← hnx] at hx5 ⊢
  have hnxl : nx.length ≤ 2 := by rw [hnx]; unfold nextR; split; simp; split; simp; split <;> simp
  refine gom ?_
  refine WC.pick [.blk b10 (.cells #[.bool sB.reached, .bool sB.unlike, .slice V1 sB.vars.length v1, .slice S1 sB.stack.length s1] 86 (0, 0)), .blk tb (.cells c 86 (0, 0)), .blk bm (.map es2 ck2), prB b3 p QA qc (some ⟨ib, io, none⟩) ic] ?_
  refine WC.loop (X := Nat × FL) (fun x => [(3, .pointer (some ⟨b3, 0, none⟩)), (5, .pointer (some ⟨b5, 0, none⟩)), (7, .map (some bm)), (10, .pointer (some ⟨b10, 0, none⟩)), (76, .slice XA nx.length xcap), (77, .int .i64 nx.length), (78, .int .i64 x.1)]) (fun x => x.2.G) (fun x => [.blk b10 (.cells #[.bool sB.reached, .bool sB.unlike, .slice V1 sB.vars.length v1, .slice S1 sB.stack.length s1] 86 (0, 0)), .blk tb (.cells x.2.c 86 (0, 0)), .blk bm (.map x.2.es x.2.ck), prB b3 p QA qc (some ⟨ib, io, none⟩) ic]) (fun x => nx.length - x.1)
    (fun x => x.1 ≤ nx.length ∧ FIn w p x.2.l (x.2.m.map (·.1)) kq (ic1, (nn : Int)) s0 ((nx.take x.1).reverse) ∧ MRel (fun n : Int => Value.int .i64 n) (.int .i64) x.2.es x.2.ck x.2.m ∧ SVec (some ⟨tb, 0, none⟩) p.code.length p.code.length x.2.cs (.blk tb (.cells x.2.c 86 (0, 0))) ∧ KV Kd.ss x.2.G x.2.l x.2.cs ∧ G'.le x.2.G ∧ 2 * sumW p.locals.toNat x.2.l + x.2.m.length < 2 * sumW p.locals.toNat l + m.length)
    (0, ⟨l, delA m (kq : Int), G', cs, c, es2, ck2⟩) ⟨Nat.zero_le _, hin, hmr2, hsv, hkv.mono (Gh.le_trans hg4 hg5), Gh.le_refl _, hμ⟩ (by exact ⟨rfl, rfl, rfl, rfl, rfl, rfl, rfl, trivial⟩) rfl (List.Sublist.refl _) fun x hx => ?_
  obtain ⟨j, l2, m2, G6, cs2, c2, es3, ck3⟩ := x
  obtain ⟨hj, hin2, hmr3, hsv2, hkv2, hg6, hμ2⟩ := hx
  dsimp only at hj hin2 hmr3 hsv2 hkv2 hg6 hμ2
  by_cases hjl : j < nx.length
  rotate_left
  · have y1 : decide ((j : Int) < (nx.length : Int)) = false := decide_eq_false (by omega)
    have hdone := hin2.done (fun x hx => .inl (by rw [← hnx] at hx; rw [List.take_of_length_le (by omega)]; simpa using hx))
    refine gom ?_
    refine WK.pick [.blk tb (.cells c2 86 (0, 0)), .blk bm (.map es3 ck3), prB b3 p QA qc (some ⟨ib, io, none⟩) ic] ?_
    exact WK.again ⟨l2, m2, G6, cs2, c2, es3, ck3⟩ (by dsimp only; exact hμ2) ⟨hdone, hmr3, hsv2, hkv2, Gh.le_trans hg3 (Gh.le_trans hg4 (Gh.le_trans hg5 hg6))⟩ (by exact ⟨rfl, rfl, rfl, trivial⟩) rfl (List.Sublist.refl _)
  have y1 : decide ((j : Int) < (nx.length : Int)) = true := decide_eq_true (by omega)
  obtain ⟨x, hx⟩ : ∃ x, nx[j]? = some x := ⟨_, List.getElem?_eq_getElem hjl⟩
  have hxm : x ∈ nextR (ic1, (nn : Int)) kq := by rw [← hnx]; exact List.mem_of_getElem? hx
  have hx0 := nextR_nonneg hxm
  obtain ⟨k, rfl⟩ : ∃ k : Nat, x = k := ⟨x.toNat, by omega⟩
  have htake : (nx.take (j + 1)).reverse = (k : Int) :: (nx.take j).reverse := by rw [List.take_add_one, hx]; simp
  obtain ⟨xb', xo', rfl, hxc⟩ := hx5.at hx
  have hxc6 := hxc.mono hg6
  have w0' : (0 : Int) ≤ (j : Int) := by omega
  have w1 : (j : Int) < (nx.length : Int) := by omega
  have w2 := wrapS j (by omega)
  by_cases hkl : p.code.length ≤ k
  · have y2 : decide ((p.code.length : Int) ≤ (k : Int)) = true := decide_eq_true (by omega)
    refine gom ?_
    exact WK.again (j + 1, ⟨l2, m2, G6, cs2, c2, es3, ck3⟩) (by dsimp only; omega) ⟨by dsimp only; omega, by dsimp only; rw [htake]; exact hin2.pass (by omega), hmr3, hsv2, hkv2, hg6, hμ2⟩ (by exact ⟨rfl, rfl, rfl, rfl, rfl, rfl, rfl, trivial⟩) rfl (List.Sublist.refl _)
  have y2 : decide ((p.code.length : Int) ≤ (k : Int)) = false := decide_eq_false (by omega)
  have hl2 := hin2.len
  obtain ⟨s, hs⟩ : ∃ s, l2[k]? = some s := ⟨_, List.getElem?_eq_getElem (by omega)⟩
  have hws := hin2.wf s (List.mem_of_getElem? hs)
  have hvs : s.vars.length ≤ 1000 := by
    cases hr : s.reached with
    | false => rw [hws.bare hr]; simp
    | true => rw [hws.vars hr]; omega
  have hks := hws.high
  obtain ⟨VK, vk, SK, sk, hesk, hSk⟩ := Kd.ss_rep (hkv2.2 k s hs)
  have hF6 := hF4.mono (Gh.le_trans hg5 hg6)
  have hfc6 := hF6.cells
  have hR6 := hR4.mono (Gh.le_trans hg5 hg6)
  obtain ⟨rb, ro, hrr, hread⟩ := (Vec.rds hsv2 .here : Rds G6 [.blk tb (.cells c2 86 (0, 0))] (some ⟨tb, 0, none⟩) cs2).resolve_left (fun h => by have h1 := hkv2.1; rw [h] at h1; simp [Kd.ss] at h1; omega)
  cases hrr
  have v0' : (0 : Int) ≤ (k : Int) := by omega
  have v1' : (k : Int) < (p.code.length : Int) := by omega
  obtain ⟨sJ, hsJ⟩ : ∃ sJ, sJ = joinS s sB := ⟨_, rfl⟩
  have hwJ : sJ.wf p.locals.toNat := by rw [hsJ]; exact joinS_wf hws hwB
  have hvJ : sJ.vars.length ≤ 1000 := by
    cases hr : sJ.reached with
    | false => rw [hwJ.bare hr]; simp
    | true => rw [hwJ.vars hr]; omega
  have hkJ := hwJ.high
  refine go ?_
  refine WC.joinG (X := Gh × Option Addr × Nat × Option Addr × Nat × Nat) (fun t => [(3, .pointer (some ⟨b3, 0, none⟩)), (5, .pointer (some ⟨b5, 0, none⟩)), (7, .map (some bm)), (10, .pointer (some ⟨b10, 0, none⟩)), (12, .int .i64 k), (76, .slice (some ⟨xb', xo', none⟩) nx.length xcap), (77, .int .i64 nx.length), (78, .int .i64 j), (13, .pointer (some ⟨t.2.2.2.2.2, 0, none⟩))]) (fun t => t.1)
    (fun t => [.blk t.2.2.2.2.2 (.cells #[.bool sJ.reached, .bool sJ.unlike, .slice t.2.1 sJ.vars.length t.2.2.1, .slice t.2.2.2.1 sJ.stack.length t.2.2.2.2.1] 86 (0, 0)), .blk b10 (.cells #[.bool sB.reached, .bool sB.unlike, .slice V1 sB.vars.length v1, .slice S1 sB.stack.length s1] 86 (0, 0)), .blk tb (.cells c2 86 (0, 0)), .blk bm (.map es3 ck3), prB b3 p QA qc (some ⟨ib, io, none⟩) ic]) (fun t => G6.le t.1 ∧ SRep t.1 sJ t.2.1 t.2.2.1 t.2.2.2.1 t.2.2.2.2.1) ?_ fun t ht => ?_
  · refine WC.drawS (Hs := [.blk b10 (.cells #[.bool sB.reached, .bool sB.unlike, .slice V1 sB.vars.length v1, .slice S1 sB.stack.length s1] 86 (0, 0)), .blk tb (.cells c2 86 (0, 0))]) mixed (by repeat (first | exact Pk.nil | exact Pk.all | exact Pk.app | exact Pk.appR | with_reducible apply Pk.na | (apply Pk.cons; (repeat first | exact .here | apply Rem.there | apply Rem.app)) | apply Pk.skip | apply Pk.skipA)) ?_
    refine WB.tp (i := 0) rfl (by kernel_rfl) (by kernel_rfl) rfl (Gp.move rfl) ?_
    refine WB.tp (i := 1) rfl (by kernel_rfl) (by kernel_rfl) rfl (Gp.nilCheck rfl) ?_
    refine WB.tp (i := 2) rfl (by kernel_rfl) (by kernel_rfl) rfl (Gp.fieldAddr rfl) ?_
    (first | (refine WB.tv (i := 3) rfl (by kernel_rfl) (by kernel_rfl) rfl (Gv.load1 rfl (by (repeat first | exact .here | apply At.there)) (by first | rfl | assumption)) ?_) | (refine WB.tv (i := 3) rfl (by kernel_rfl) (by kernel_rfl) rfl (Gv.loadN rfl (by (repeat first | exact .here | apply At.there)) (by rfl) (by rfl)) ?_) | (refine WB.tv (i := 3) rfl (by kernel_rfl) (by kernel_rfl) rfl (Gv.loadG1 rfl (by assumption) rfl) ?_) | (refine WB.tv (i := 3) rfl (by kernel_rfl) (by kernel_rfl) rfl (Gv.loadG0 rfl (by assumption) rfl) ?_) | (refine WB.tv (i := 3) rfl (by kernel_rfl) (by kernel_rfl) rfl (Gv.loadGN rfl (by assumption) rfl) ?_))
    refine WB.tp (i := 4) rfl (by kernel_rfl) (by kernel_rfl) rfl (Gp.move rfl) ?_
    refine WB.tp (i := 5) rfl (by kernel_rfl) (by kernel_rfl) rfl (Gp.indexAddr rfl rfl (by first | assumption | omega | decide) (by first | assumption | omega | decide | (simp only [List.length_cons, List.length_nil]; decide))) ?_
    refine WB.tv (i := 6) rfl (by kernel_rfl) (by kernel_rfl) rfl (Gv.loadRN (i := ((k : Nat) : Int).toNat * 4) rfl hread (List.sublist_cons_self _ _) hesk rfl) ?_
    (first | (refine WB.tv (i := 7) rfl (by kernel_rfl) (by kernel_rfl) rfl (Gv.load1 rfl (by (repeat first | exact .here | apply At.there)) (by first | rfl | assumption)) ?_) | (refine WB.tv (i := 7) rfl (by kernel_rfl) (by kernel_rfl) rfl (Gv.loadN rfl (by (repeat first | exact .here | apply At.there)) (by rfl) (by rfl)) ?_) | (refine WB.tv (i := 7) rfl (by kernel_rfl) (by kernel_rfl) rfl (Gv.loadG1 rfl (by assumption) rfl) ?_) | (refine WB.tv (i := 7) rfl (by kernel_rfl) (by kernel_rfl) rfl (Gv.loadG0 rfl (by assumption) rfl) ?_) | (refine WB.tv (i := 7) rfl (by kernel_rfl) (by kernel_rfl) rfl (Gv.loadGN rfl (by assumption) rfl) ?_))
    have hjf := joined_fn G6 s sB VK V1 vk v1 SK S1 sk s1 hSk hR6 (fun h1 h2 => by rw [hws.vars h1, hwB.vars h2]) (by omega) (by omega)
    rw [← hsJ] at hjf
    refine WB.two (i := 8) (j := 9) (by kernel_rfl) rfl rfl (by kernel_rfl) (by kernel_rfl) (OW.callK rfl hjf rfl fun v' G' H' h hg => ?_) (OW.alloc rfl fun b13 => ?_)
    · obtain ⟨V2, v2, S2, s2, he, hg7, hR7, rfl⟩ := h
      cases he
      refine ⟨fun w hw => (hw.pk (by repeat (first | exact Pk.nil | exact Pk.all | exact Pk.app | exact Pk.appR | with_reducible apply Pk.na | (apply Pk.cons; (repeat first | exact .here | apply Rem.there | apply Rem.app)) | apply Pk.skip | apply Pk.skipA))).le hg7, ?_⟩
      refine WB.one (i := 9) (by kernel_rfl) rfl (by kernel_rfl) (OW.alloc rfl fun b13 => ?_)
      refine ⟨fun w hw => (hw.pk (by repeat (first | exact Pk.nil | exact Pk.all | exact Pk.app | exact Pk.appR | with_reducible apply Pk.na | (apply Pk.cons; (repeat first | exact .here | apply Rem.there | apply Rem.app)) | apply Pk.skip | apply Pk.skipA))).le hg7, ?_⟩
      refine WB.one (i := 10) (by kernel_rfl) rfl (by kernel_rfl) (OW.store rfl rfl (by (repeat first | exact .here | apply At.there)) rfl (by rfl) (by rfl) (by kernel_rfl) (by rfl) ?_ rfl)
      refine ⟨fun w hw => (hw.pk (by repeat (first | exact Pk.nil | exact Pk.all | exact Pk.app | exact Pk.appR | with_reducible apply Pk.na | (apply Pk.cons; (repeat first | exact .here | apply Rem.there | apply Rem.app)) | apply Pk.skip | apply Pk.skipA))).le hg7, ?_⟩
      refine WB.done (by kernel_rfl) ?_
      refine WK.un ?_
      refine WK.pick [.blk b13 (.cells #[.bool sJ.reached, .bool sJ.unlike, .slice V2 sJ.vars.length v2, .slice S2 sJ.stack.length s2] 86 (0, 0)), .blk b10 (.cells #[.bool sB.reached, .bool sB.unlike, .slice V1 sB.vars.length v1, .slice S1 sB.stack.length s1] 86 (0, 0)), .blk tb (.cells c2 86 (0, 0)), .blk bm (.map es3 ck3), prB b3 p QA qc (some ⟨ib, io, none⟩) ic] ?_
      exact WK.meet (G', V2, v2, S2, s2, b13) ⟨hg7, hR7⟩ (by exact ⟨rfl, rfl, rfl, rfl, rfl, rfl, rfl, rfl, rfl, trivial⟩) rfl (List.Sublist.refl _)
    · refine ⟨fun w hw => hw.pk (by repeat (first | exact Pk.nil | exact Pk.all | exact Pk.app | exact Pk.appR | with_reducible apply Pk.na | (apply Pk.cons; (repeat first | exact .here | apply Rem.there | apply Rem.app)) | apply Pk.skip | apply Pk.skipA)), ?_⟩
      refine WB.one (i := 8) (by kernel_rfl) rfl (by kernel_rfl) (OW.callK rfl hjf rfl fun v' G' H' h hg => ?_)
      obtain ⟨V2, v2, S2, s2, he, hg7, hR7, rfl⟩ := h
      cases he
      refine ⟨fun w hw => (hw.pk (by repeat (first | exact Pk.nil | exact Pk.all | exact Pk.app | exact Pk.appR | with_reducible apply Pk.na | (apply Pk.cons; (repeat first | exact .here | apply Rem.there | apply Rem.app)) | apply Pk.skip | apply Pk.skipA))).le hg7, ?_⟩
      refine WB.one (i := 10) (by kernel_rfl) rfl (by kernel_rfl) (OW.store rfl rfl (by (repeat first | exact .here | apply At.there)) rfl (by rfl) (by rfl) (by kernel_rfl) (by rfl) ?_ rfl)
      refine ⟨fun w hw => (hw.pk (by repeat (first | exact Pk.nil | exact Pk.all | exact Pk.app | exact Pk.appR | with_reducible apply Pk.na | (apply Pk.cons; (repeat first | exact .here | apply Rem.there | apply Rem.app)) | apply Pk.skip | apply Pk.skipA))).le hg7, ?_⟩
      refine WB.done (by kernel_rfl) ?_
      refine WK.un ?_
      refine WK.pick [.blk b13 (.cells #[.bool sJ.reached, .bool sJ.unlike, .slice V2 sJ.vars.length v2, .slice S2 sJ.stack.length s2] 86 (0, 0)), .blk b10 (.cells #[.bool sB.reached, .bool sB.unlike, .slice V1 sB.vars.length v1, .slice S1 sB.stack.length s1] 86 (0, 0)), .blk tb (.cells c2 86 (0, 0)), .blk bm (.map es3 ck3), prB b3 p QA qc (some ⟨ib, io, none⟩) ic] ?_
      exact WK.meet (G', V2, v2, S2, s2, b13) ⟨hg7, hR7⟩ (by exact ⟨rfl, rfl, rfl, rfl, rfl, rfl, rfl, rfl, rfl, trivial⟩) rfl (List.Sublist.refl _)
  obtain ⟨G7, V2, v2, S2, s2, b13⟩ := t
  obtain ⟨hg7, hR7⟩ := ht
  dsimp only at hg7 hR7
  have hF7 := hF6.mono hg7
  have hfc7 := hF7.cells
  have hread7 : ∀ w, Sat G7 [.blk tb (.cells c2 86 (0, 0))] w → ∀ j v, cs2[j]? = some v → w.cell? ⟨tb, 0 + j, none⟩ = some v := fun w hw => hread w (hw.le hg7)
  have hSk7 := hSk.mono hg7
  have hsf := same_fn G7 [] sJ s V2 VK v2 vk S2 SK s2 sk hR7 hSk7 (by omega) (by omega)
  refine gom ?_
  refine WQ.tv (Gv.loadRN (i := ((k : Nat) : Int).toNat * 4) rfl hread7 (.cons _ (.cons _ (.cons_cons _ (List.nil_sublist _)))) hesk rfl) (by kernel_rfl) (by kernel_rfl) rfl ?_
  refine WQ.one (by kernel_rfl) (by kernel_rfl) (OW.callK rfl (hsf) rfl fun v' G' H' h hg => ?_)
  obtain ⟨he, rfl, rfl⟩ := h
  cases he
  by_cases heq : sJ = s
  · rw [decide_eq_true heq]
    refine gom ?_
    refine WK.pick [.blk b10 (.cells #[.bool sB.reached, .bool sB.unlike, .slice V1 sB.vars.length v1, .slice S1 sB.stack.length s1] 86 (0, 0)), .blk tb (.cells c2 86 (0, 0)), .blk bm (.map es3 ck3), prB b3 p QA qc (some ⟨ib, io, none⟩) ic] ?_
    exact WK.again (j + 1, ⟨l2, m2, G7, cs2, c2, es3, ck3⟩) (by dsimp only; omega) ⟨by dsimp only; omega, by dsimp only; rw [htake]; exact hin2.same hs (by rw [← hsB, ← hsJ]; exact heq), hmr3, hsv2, hkv2.mono hg7, Gh.le_trans hg6 hg7, hμ2⟩ (by exact ⟨rfl, rfl, rfl, rfl, rfl, rfl, rfl, trivial⟩) rfl (List.Sublist.refl _)
  rw [decide_eq_false heq]
  have hcf := copied_fn G7 sJ V2 v2 S2 s2 hR7 (by omega) (by omega)
  refine WQ.tp (Gp.notB rfl) (by kernel_rfl) (by kernel_rfl) rfl ?_
  refine WQ.done (by kernel_rfl) ?_
  refine go ?_
  refine WC.drawS (Hs := [.blk b13 (.cells #[.bool sJ.reached, .bool sJ.unlike, .slice V2 sJ.vars.length v2, .slice S2 sJ.stack.length s2] 86 (0, 0))]) mixed (by repeat (first | exact Pk.nil | exact Pk.all | exact Pk.app | exact Pk.appR | with_reducible apply Pk.na | (apply Pk.cons; (repeat first | exact .here | apply Rem.there | apply Rem.app)) | apply Pk.skip | apply Pk.skipA)) ?_
  refine WB.tp (i := 0) rfl (by kernel_rfl) (by kernel_rfl) rfl (Gp.move rfl) ?_
  refine WB.tp (i := 1) rfl (by kernel_rfl) (by kernel_rfl) rfl (Gp.nilCheck rfl) ?_
  refine WB.tp (i := 2) rfl (by kernel_rfl) (by kernel_rfl) rfl (Gp.fieldAddr rfl) ?_
  refine WB.tp (i := 4) rfl (by kernel_rfl) (by kernel_rfl) rfl (Gp.move rfl) ?_
  (first | (refine WB.tv (i := 5) rfl (by kernel_rfl) (by kernel_rfl) rfl (Gv.load1 rfl (by (repeat first | exact .here | apply At.there)) (by first | rfl | assumption)) ?_) | (refine WB.tv (i := 5) rfl (by kernel_rfl) (by kernel_rfl) rfl (Gv.loadN rfl (by (repeat first | exact .here | apply At.there)) (by rfl) (by rfl)) ?_) | (refine WB.tv (i := 5) rfl (by kernel_rfl) (by kernel_rfl) rfl (Gv.loadG1 rfl (by assumption) rfl) ?_) | (refine WB.tv (i := 5) rfl (by kernel_rfl) (by kernel_rfl) rfl (Gv.loadG0 rfl (by assumption) rfl) ?_) | (refine WB.tv (i := 5) rfl (by kernel_rfl) (by kernel_rfl) rfl (Gv.loadGN rfl (by assumption) rfl) ?_))
  (first | (refine WB.tv (i := 3) rfl (by kernel_rfl) (by kernel_rfl) rfl (Gv.load1 rfl (by (repeat first | exact .here | apply At.there)) (by first | rfl | assumption)) ?_) | (refine WB.tv (i := 3) rfl (by kernel_rfl) (by kernel_rfl) rfl (Gv.loadN rfl (by (repeat first | exact .here | apply At.there)) (by rfl) (by rfl)) ?_) | (refine WB.tv (i := 3) rfl (by kernel_rfl) (by kernel_rfl) rfl (Gv.loadG1 rfl (by assumption) rfl) ?_) | (refine WB.tv (i := 3) rfl (by kernel_rfl) (by kernel_rfl) rfl (Gv.loadG0 rfl (by assumption) rfl) ?_) | (refine WB.tv (i := 3) rfl (by kernel_rfl) (by kernel_rfl) rfl (Gv.loadGN rfl (by assumption) rfl) ?_))
  refine WB.one (i := 6) (by kernel_rfl) rfl (by kernel_rfl) (OW.callK rfl (hcf) rfl fun v' G' H' h hg => ?_)
  obtain ⟨V3, v3, S3, s3, x3, y3, he, rfl, rfl, hx3, hy3⟩ := h
  cases he
  refine ⟨fun w hw => hw.pk (by repeat (first | exact Pk.nil | exact Pk.all | exact Pk.app | exact Pk.appR | with_reducible apply Pk.na | (apply Pk.cons; (repeat first | exact .here | apply Rem.there | apply Rem.app)) | apply Pk.skip | apply Pk.skipA)), ?_⟩
  obtain ⟨_, hfitK, hputK⟩ := Vec.put hsv2 (show k < p.code.length by omega) [.bool sJ.reached, .bool sJ.unlike, .slice V3 sJ.vars.length v3, .slice S3 sJ.stack.length s3] rfl
  have hfitK' : k * 4 + 4 ≤ c2.size := hfitK
  have hbleK : Nat.ble (0 + ((k : Nat) : Int).toNat * 4 + 4) c2.size = true := Nat.ble_eq_true_of_le (by omega)
  refine WB.tp (i := 7) rfl (by kernel_rfl) (by kernel_rfl) rfl (Gp.indexAddr rfl rfl (by first | assumption | omega | decide) (by first | assumption | omega | decide | (simp only [List.length_cons, List.length_nil]; decide))) ?_
  refine WB.one (i := 8) (by kernel_rfl) rfl (by kernel_rfl) (OW.store (n := 4) (cs := [.bool sJ.reached, .bool sJ.unlike, .slice V3 sJ.vars.length v3, .slice S3 sJ.stack.length s3]) rfl rfl (by (repeat first | exact .here | apply At.there)) rfl rfl rfl hbleK rfl ?_ rfl)
  refine ⟨fun w hw => hw.pk (by repeat (first | exact Pk.nil | exact Pk.all | exact Pk.app | exact Pk.appR | with_reducible apply Pk.na | (apply Pk.cons; (repeat first | exact .here | apply Rem.there | apply Rem.app)) | apply Pk.skip | apply Pk.skipA)), ?_⟩
  refine WB.done (by kernel_rfl) ?_
  refine WK.un ?_
  have ek : 0 + ((k : Nat) : Int).toNat * 4 = k * 4 := by omega
  rw [ek]
  refine WC.pick [.blk tb (.cells (splice c2 (k * 4) [.bool sJ.reached, .bool sJ.unlike, .slice V3 sJ.vars.length v3, .slice S3 sJ.stack.length s3]) 86 (0, 0)), x3, y3, .blk b10 (.cells #[.bool sB.reached, .bool sB.unlike, .slice V1 sB.vars.length v1, .slice S1 sB.stack.length s1] 86 (0, 0)), .blk bm (.map es3 ck3), prB b3 p QA qc (some ⟨ib, io, none⟩) ic] ?_
  refine WC.frozenVec hx3 (by (repeat first | exact .here | apply At.there)) fun G8 hg8 z8 => ?_
  refine WC.frozenVec hy3 (by (repeat first | exact .here | apply At.there)) fun G9 hg9 z9 => ?_
  have hR9 : SRep G9 sJ V3 v3 S3 s3 := ⟨hx3.le, hy3.le, (IVec.sl z8).mono hg9, IVec.sl z9⟩
  have hkv9 := KV.set (k := Kd.ss) (hkv2.mono (Gh.le_trans hg7 (Gh.le_trans hg8 hg9))) hR9.kd (i := k) (by omega)
  refine go ?_
  refine WL.op (by kernel_rfl) (OW.mapSet (emb := fun n : Int => Value.int .i64 n) rfl rfl rfl (by (repeat first | exact .here | apply At.there)) hmr3 rfl fun es4 ck4 hmr4 => ?_)
  refine gom ?_
  refine WK.pick [.blk b10 (.cells #[.bool sB.reached, .bool sB.unlike, .slice V1 sB.vars.length v1, .slice S1 sB.stack.length s1] 86 (0, 0)), .blk tb (.cells (splice c2 (k * 4) [.bool sJ.reached, .bool sJ.unlike, .slice V3 sJ.vars.length v3, .slice S3 sJ.stack.length s3]) 86 (0, 0)), .blk bm (.map es4 ck4), prB b3 p QA qc (some ⟨ib, io, none⟩) ic] ?_
  have hne : joinS s (behR w (ic1, (nn : Int)) s0) ≠ s := by rw [← hsB, ← hsJ]; exact heq
  have hturn := hin2.turn (T' := (setA m2 (k : Int) (.int .i64 1)).map (·.1)) hxm hs (fun x => mem_setA)
  have hrise := hin2.rises hs hne
  have hlen4 := length_setA (m := m2) (k := (k : Int)) (v := .int .i64 1)
  rw [← hsB, ← hsJ] at hturn hrise
  exact WK.again (j + 1, ⟨l2.set k sJ, setA m2 (k : Int) (.int .i64 1), G9, _, _, es4, ck4⟩) (by dsimp only; omega) ⟨by dsimp only; omega, by dsimp only; rw [htake]; exact hturn, hmr4, hputK, hkv9, Gh.le_trans hg6 (Gh.le_trans hg7 (Gh.le_trans hg8 hg9)), by dsimp only; omega⟩ (by exact ⟨rfl, rfl, rfl, rfl, rfl, rfl, rfl, trivial⟩) rfl (List.Sublist.refl _)
end
end Go.Proofs.YtbfgljcjblfleaaGreatDoor.Gb
namespace Go.Proofs.YtbfgljcjblfleaaGreatDoor.Gb
open Go Go.Proofs
attribute [local irreducible] Tryz.prog
theorem all_fn (G : Gh) (t : Int) (b : Nat) (A : Option Addr) (l : List Int) (cap : Nat) (hA : Sl (Kd.int .i64) G A l) (hl : l.length ≤ 1000000000) :
    Fn Tryz.prog 89 #[.int .i64 t, .pointer (some ⟨b, 0, none⟩)] G [.blk b (.cells #[.slice A l.length cap] 41 (0, 0))]
      fun e G' H' => e = .returned (.bool (allT t l)) ∧ G = G' ∧ H' = [.blk b (.cells #[.slice A l.length cap] 41 (0, 0))] := by
  refine Fn.enter Tryz.func89 rfl rfl fun w0 => ?_
  refine gom ?_
  refine WC.loop (X := Nat) (fun i => [(0, .int .i64 t), (6, .slice A l.length cap), (7, .int .i64 l.length), (8, .int .i64 i)]) (fun _ => G) (fun _ => [.blk b (.cells #[.slice A l.length cap] 41 (0, 0))]) (fun i => l.length - i) (fun i => i ≤ l.length ∧ ∀ j x, j < i → l[j]? = some x → x = t) 0 ⟨Nat.zero_le _, fun j x h => by omega⟩ (by exact ⟨rfl, rfl, rfl, rfl, trivial⟩) rfl (List.Sublist.refl _) fun i hx => ?_
  obtain ⟨hi, hall⟩ := hx
  by_cases hlt : i < l.length
  rotate_left
  · have e2 : decide ((i : Int) < (l.length : Int)) = false := decide_eq_false (by omega)
    have he : allT t l = true := by
      unfold allT
      rw [List.all_eq_true]
      intro x hx
      obtain ⟨j, hj⟩ := List.getElem?_of_mem hx
      have := hall j x (by have := (List.getElem?_eq_some_iff.1 hj).1; omega) hj
      simpa using this
    refine gom ?_
    refine WC.ret ?_
    refine WK.un ?_
    exact QF.p1 (.inl rfl) rfl (.tmp rfl) (⟨by rw [he], rfl, rfl⟩)
  have e2 : decide ((i : Int) < (l.length : Int)) = true := decide_eq_true (by omega)
  obtain ⟨x, hx⟩ : ∃ x, l[i]? = some x := ⟨_, List.getElem?_eq_getElem hlt⟩
  obtain ⟨ab, ao, rfl, hca⟩ := hA.at hx
  have x0 : (0 : Int) ≤ i := by omega
  have x2 : (i : Int) < (l.length : Int) := by omega
  have x4 := wrapS i (by omega)
  by_cases hxt : x = t
  · have e3 : (x != t) = false := by simpa using hxt
    refine gom ?_
    exact WK.again (i + 1) (by omega) ⟨by omega, fun j y hj hy => by
      rcases Nat.lt_or_ge j i with h | h
      · exact hall j y h hy
      · obtain rfl : j = i := by omega
        rw [hx] at hy; cases hy; exact hxt⟩ (by exact ⟨rfl, rfl, rfl, rfl, trivial⟩) rfl (List.Sublist.refl _)
  · have e3 : (x != t) = true := by simpa using hxt
    have he : allT t l = false := by
      unfold allT
      rw [List.all_eq_false]
      exact ⟨x, List.mem_of_getElem? hx, by simpa using hxt⟩
    refine gom ?_
    refine WC.ret ?_
    refine WK.un ?_
    exact QF.p1 (.inl rfl) rfl (.tmp rfl) (⟨by rw [he], rfl, rfl⟩)
theorem Cs.drop {G : Gh} {b o : Nat} {cs : List Value} (h : Cs G b o cs) (k : Nat) : Cs G b (o + k) (cs.drop k) := fun j v e => by
  rw [List.getElem?_drop] at e
  rw [Nat.add_assoc]; exact h _ v e
theorem FRep.proc {G : Gh} {p : Pr} {bf bw : Nat} {PA CA : Option Addr} {pc cc : Nat} {TA : Option Addr} {tn tc : Nat} (h : FRep G p bf bw PA CA pc cc TA tn tc) :
    Cs G bf (0 + 1) [.string p.name, .bool p.exp, .slice PA p.params.length pc, .int .i64 p.locals, .int .i64 p.result, .slice CA p.code.length cc, .slice TA tn tc] := h.cells.drop 1
section
variable (G : Gh) (w : Wd) (p : Pr) (bf bw : Nat) (CA NA PA : Option Addr) (cc nc pc : Nat) (QA IA : Option Addr) (qc ic : Nat) (TA : Option Addr) (tn tc : Nat) (hW : WRep G w bw CA NA PA cc nc pc) (hF : FRep G p bf bw QA IA qc ic TA tn tc)
include hW hF
set_option maxHeartbeats 4000000 in
theorem kinds_fn (s : SS) (VA : Option Addr) (vc : Nat) (SA : Option Addr) (sc : Nat) (hS : SRep G s VA vc SA sc) (hv : s.vars.length ≤ 1000000000) (c : Int) (n : Nat) (ho : EOk w s.vars.length c n) (A : Option Addr) (cap : Nat) (top : List Int) (hA : Sl (Kd.int .i64) G A top) (ht : top.length ≤ 1000000000)
    (h1 : c = 3 ∨ c = 11 → 1 ≤ top.length) (h2 : c = 12 ∨ c = 13 → 2 ≤ top.length) :
    Fn Tryz.prog 67 #[.pointer (some ⟨bf, 0, none⟩), .agg #[.int .i64 c, .int .i64 n], ssV s VA vc SA sc, .slice A top.length cap] G []
      fun e G' H' => e = .returned (.bool (kindsR w p (c, n) s top)) ∧ G = G' ∧ H' = [] := by
  have hfc := hF.cells
  have hwc := hW.cells
  have hfp := hF.proc
  obtain ⟨sr, su, sv, sk⟩ := s
  dsimp only at hv ho
  obtain ⟨ho1, ho2, ho3, ho7, ho8⟩ := ho
  refine Fn.enter Tryz.func67 rfl rfl fun w0 => ?_
  refine WC.seq ?_
  refine WC.region ?_
  refine WL.op (by kernel_rfl) (OW.box rfl rfl fun b1 => ?_)
  refine WL.op (by kernel_rfl) (OW.box rfl rfl fun b2 => ?_)
  refine WL.op (by kernel_rfl) (OW.box rfl rfl fun b3 => ?_)
  refine gom ?_
  refine WL.p (Gp.makeFunc rfl rfl) (by kernel_rfl) rfl ?_
  refine WL.pick [.blk b3 (.cells #[.slice A top.length cap] 41 (0, 0)), .blk b2 (.cells #[.bool sr, .bool su, .slice VA sv.length vc, .slice SA sk.length sc] 86 (0, 0)), .blk b1 (.cells #[.int .i64 c, .int .i64 n] 97 (0, 0))] ?_
  by_cases c2 : c = 2
  · subst c2
    obtain ⟨v, hvv⟩ : ∃ v, sv[n]? = some v := ⟨_, List.getElem?_eq_getElem (ho2 rfl)⟩
    obtain ⟨cb, co, rfl, hcs⟩ := hS.vars.at hvv
    have x0 : (0 : Int) ≤ (n : Int) := by omega
    have x1 : (n : Int) < (sv.length : Int) := by have := ho2 rfl; omega
    have he : kindsR w p ((2 : Int), (n : Int)) ⟨sr, su, sv, sk⟩ top = (v != 0) := by unfold kindsR; simp [hvv]
    refine gom ?_
    refine WC.ret ?_
    refine WK.un ?_
    exact QF.p1 (.inl rfl) rfl (.tmp rfl) (⟨by rw [he], rfl, rfl⟩)
  have y2 : (c == 2) = false := by simpa using c2
  by_cases c3 : c = 3
  · subst c3
    obtain ⟨x, hx⟩ : ∃ x, top[0]? = some x := ⟨_, List.getElem?_eq_getElem (by have := h1 (by decide); omega)⟩
    obtain ⟨cb, co, rfl, hcs⟩ := hA.at hx
    have z1 : (0 : Int) < (top.length : Int) := by have := h1 (by decide); omega
    have he : kindsR w p ((3 : Int), (n : Int)) ⟨sr, su, sv, sk⟩ top = (x != 0) := by unfold kindsR; simp [hx]
    refine gom ?_
    refine WC.ret ?_
    refine WK.un ?_
    exact QF.p1 (.inl rfl) rfl (.tmp rfl) (⟨by rw [he], rfl, rfl⟩)
  have y3 : (c == 3) = false := by simpa using c3
  by_cases c11 : c = 11
  · subst c11
    obtain ⟨x, hx⟩ : ∃ x, top[0]? = some x := ⟨_, List.getElem?_eq_getElem (by have := h1 (by decide); omega)⟩
    obtain ⟨cb, co, rfl, hcs⟩ := hA.at hx
    have z1 : (0 : Int) < (top.length : Int) := by have := h1 (by decide); omega
    have he : kindsR w p ((11 : Int), (n : Int)) ⟨sr, su, sv, sk⟩ top = (x != 0) := by unfold kindsR; simp [hx]
    refine gom ?_
    refine WC.ret ?_
    refine WK.un ?_
    exact QF.p1 (.inl rfl) rfl (.tmp rfl) (⟨by rw [he], rfl, rfl⟩)
  have y11 : (c == 11) = false := by simpa using c11
  by_cases c6 : c = 6
  · subst c6
    have he : kindsR w p ((6 : Int), (n : Int)) ⟨sr, su, sv, sk⟩ top = allT 2 top := by unfold kindsR; simp
    refine gom ?_
    refine WL.op (by kernel_rfl) (OW.callVK rfl rfl rfl (all_fn G 2 b3 A top cap hA ht) rfl fun v' G' H' h hg => ?_)
    obtain ⟨h0, rfl, rfl⟩ := h
    cases h0
    refine gom ?_
    refine WC.ret ?_
    refine WK.un ?_
    exact QF.p1 (.inl rfl) rfl (.tmp rfl) (⟨by rw [he], rfl, rfl⟩)
  have y6 : (c == 6) = false := by simpa using c6
  by_cases c25 : c = 25
  · subst c25
    have he : kindsR w p ((25 : Int), (n : Int)) ⟨sr, su, sv, sk⟩ top = allT 2 top := by unfold kindsR; simp
    refine gom ?_
    refine WL.op (by kernel_rfl) (OW.callVK rfl rfl rfl (all_fn G 2 b3 A top cap hA ht) rfl fun v' G' H' h hg => ?_)
    obtain ⟨h0, rfl, rfl⟩ := h
    cases h0
    refine gom ?_
    refine WC.ret ?_
    refine WK.un ?_
    exact QF.p1 (.inl rfl) rfl (.tmp rfl) (⟨by rw [he], rfl, rfl⟩)
  have y25 : (c == 25) = false := by simpa using c25
  by_cases c7 : c = 7
  · subst c7
    obtain ⟨q, hq⟩ : ∃ q, w.procs[n]? = some q := ⟨_, List.getElem?_eq_getElem (ho7 rfl)⟩
    obtain ⟨cb, co, cs, rfl, hk, hcs⟩ := hW.procs n q hq
    obtain ⟨PA2, pc2, CA2, cc2, rfl, hk1, hk2⟩ := hk
    have x0 : (0 : Int) ≤ (n : Int) := by omega
    have x1 : (n : Int) < (w.procs.length : Int) := by have := ho7 rfl; omega
    have he : kindsR w p ((7 : Int), (n : Int)) ⟨sr, su, sv, sk⟩ top = (top == q.params) := by unfold kindsR; simp [hq]
    refine gom ?_
    refine WQ.one (by kernel_rfl) (by kernel_rfl) (OW.callK rfl (equal_types G [] A PA2 cap pc2 top q.params hA hk1 ht) rfl fun v' G' H' h hg => ?_)
    obtain ⟨h0, rfl, rfl⟩ := h
    cases h0
    refine gom ?_
    refine WC.ret ?_
    refine WK.un ?_
    exact QF.p1 (.inl rfl) rfl (.tmp rfl) (⟨by rw [he], rfl, rfl⟩)
  have y7 : (c == 7) = false := by simpa using c7
  by_cases c8 : c = 8
  · subst c8
    obtain ⟨q, hq⟩ : ∃ q, w.needs[n]? = some q := ⟨_, List.getElem?_eq_getElem (ho8 rfl)⟩
    obtain ⟨cb, co, cs, rfl, hk, hcs⟩ := hW.needs n q hq
    obtain ⟨PA2, pc2, rfl, hk1⟩ := hk
    have x0 : (0 : Int) ≤ (n : Int) := by omega
    have x1 : (n : Int) < (w.needs.length : Int) := by have := ho8 rfl; omega
    have he : kindsR w p ((8 : Int), (n : Int)) ⟨sr, su, sv, sk⟩ top = (top == q.params) := by unfold kindsR; simp [hq]
    refine gom ?_
    refine WQ.one (by kernel_rfl) (by kernel_rfl) (OW.callK rfl (equal_types G [] A PA2 cap pc2 top q.params hA hk1 ht) rfl fun v' G' H' h hg => ?_)
    obtain ⟨h0, rfl, rfl⟩ := h
    cases h0
    refine gom ?_
    refine WC.ret ?_
    refine WK.un ?_
    exact QF.p1 (.inl rfl) rfl (.tmp rfl) (⟨by rw [he], rfl, rfl⟩)
  have y8 : (c == 8) = false := by simpa using c8
  by_cases c10 : c = 10
  · subst c10
    have he : kindsR w p ((10 : Int), (n : Int)) ⟨sr, su, sv, sk⟩ top = allT p.result top := by unfold kindsR; simp
    refine gom ?_
    refine WL.op (by kernel_rfl) (OW.callVK rfl rfl rfl (all_fn G p.result b3 A top cap hA ht) rfl fun v' G' H' h hg => ?_)
    obtain ⟨h0, rfl, rfl⟩ := h
    cases h0
    refine gom ?_
    refine WC.ret ?_
    refine WK.un ?_
    exact QF.p1 (.inl rfl) rfl (.tmp rfl) (⟨by rw [he], rfl, rfl⟩)
  have y10 : (c == 10) = false := by simpa using c10
  by_cases c12 : c = 12
  · subst c12
    obtain ⟨x, hx⟩ : ∃ x, top[0]? = some x := ⟨_, List.getElem?_eq_getElem (by have := h2 (by decide); omega)⟩
    obtain ⟨y, hy⟩ : ∃ y, top[1]? = some y := ⟨_, List.getElem?_eq_getElem (by have := h2 (by decide); omega)⟩
    obtain ⟨cb, co, rfl, hcs⟩ := hA.at hx
    obtain ⟨cb', co', hce, hcs2⟩ := hA.at hy
    cases hce
    have z1 : (0 : Int) < (top.length : Int) := by have := h2 (by decide); omega
    have z2 : (1 : Int) < (top.length : Int) := by have := h2 (by decide); omega
    have he : kindsR w p ((12 : Int), (n : Int)) ⟨sr, su, sv, sk⟩ top = (x == y && x != 0) := by unfold kindsR; simp [hx, hy]
    cases hxy : (x == y) with
    | true =>
      refine gom ?_
      refine WC.ret ?_
      refine WK.un ?_
      exact QF.p1 (.inl rfl) rfl (.tmp rfl) (⟨by rw [he, hxy]; rfl, rfl, rfl⟩)
    | false =>
      refine gom ?_
      refine WC.ret ?_
      refine WK.un ?_
      exact QF.p1 (.inl rfl) rfl (.tmp rfl) (⟨by rw [he, hxy]; rfl, rfl, rfl⟩)
  have y12 : (c == 12) = false := by simpa using c12
  by_cases c13 : c = 13
  · subst c13
    obtain ⟨x, hx⟩ : ∃ x, top[0]? = some x := ⟨_, List.getElem?_eq_getElem (by have := h2 (by decide); omega)⟩
    obtain ⟨y, hy⟩ : ∃ y, top[1]? = some y := ⟨_, List.getElem?_eq_getElem (by have := h2 (by decide); omega)⟩
    obtain ⟨cb, co, rfl, hcs⟩ := hA.at hx
    obtain ⟨cb', co', hce, hcs2⟩ := hA.at hy
    cases hce
    have z1 : (0 : Int) < (top.length : Int) := by have := h2 (by decide); omega
    have z2 : (1 : Int) < (top.length : Int) := by have := h2 (by decide); omega
    have he : kindsR w p ((13 : Int), (n : Int)) ⟨sr, su, sv, sk⟩ top = (x == y && x != 0) := by unfold kindsR; simp [hx, hy]
    cases hxy : (x == y) with
    | true =>
      refine gom ?_
      refine WC.ret ?_
      refine WK.un ?_
      exact QF.p1 (.inl rfl) rfl (.tmp rfl) (⟨by rw [he, hxy]; rfl, rfl, rfl⟩)
    | false =>
      refine gom ?_
      refine WC.ret ?_
      refine WK.un ?_
      exact QF.p1 (.inl rfl) rfl (.tmp rfl) (⟨by rw [he, hxy]; rfl, rfl, rfl⟩)
  have y13 : (c == 13) = false := by simpa using c13
  by_cases c14 : c = 14
  · subst c14
    have he : kindsR w p ((14 : Int), (n : Int)) ⟨sr, su, sv, sk⟩ top = (allT 1 top || allT 3 top) := by unfold kindsR; simp
    refine gom ?_
    refine WL.op (by kernel_rfl) (OW.callVK rfl rfl rfl (all_fn G 1 b3 A top cap hA ht) rfl fun v' G' H' h hg => ?_)
    obtain ⟨h0, rfl, rfl⟩ := h
    cases h0
    cases h5 : allT 1 top with
    | true =>
      refine gom ?_
      refine WC.ret ?_
      refine WK.un ?_
      exact QF.p1 (.inl rfl) rfl (.tmp rfl) (⟨by rw [he, h5]; rfl, rfl, rfl⟩)
    | false =>
      refine gom ?_
      refine WL.op (by kernel_rfl) (OW.callVK rfl rfl rfl (all_fn G 3 b3 A top cap hA ht) rfl fun v' G' H' h hg => ?_)
      obtain ⟨h0, rfl, rfl⟩ := h
      cases h0
      refine gom ?_
      refine WC.ret ?_
      refine WK.un ?_
      exact QF.p1 (.inl rfl) rfl (.tmp rfl) (⟨by rw [he, h5]; rfl, rfl, rfl⟩)
  have y14 : (c == 14) = false := by simpa using c14
  by_cases c15 : c = 15
  · subst c15
    have he : kindsR w p ((15 : Int), (n : Int)) ⟨sr, su, sv, sk⟩ top = (allT 1 top || allT 3 top) := by unfold kindsR; simp
    refine gom ?_
    refine WL.op (by kernel_rfl) (OW.callVK rfl rfl rfl (all_fn G 1 b3 A top cap hA ht) rfl fun v' G' H' h hg => ?_)
    obtain ⟨h0, rfl, rfl⟩ := h
    cases h0
    cases h5 : allT 1 top with
    | true =>
      refine gom ?_
      refine WC.ret ?_
      refine WK.un ?_
      exact QF.p1 (.inl rfl) rfl (.tmp rfl) (⟨by rw [he, h5]; rfl, rfl, rfl⟩)
    | false =>
      refine gom ?_
      refine WL.op (by kernel_rfl) (OW.callVK rfl rfl rfl (all_fn G 3 b3 A top cap hA ht) rfl fun v' G' H' h hg => ?_)
      obtain ⟨h0, rfl, rfl⟩ := h
      cases h0
      refine gom ?_
      refine WC.ret ?_
      refine WK.un ?_
      exact QF.p1 (.inl rfl) rfl (.tmp rfl) (⟨by rw [he, h5]; rfl, rfl, rfl⟩)
  have y15 : (c == 15) = false := by simpa using c15
  by_cases c16 : c = 16
  · subst c16
    have he : kindsR w p ((16 : Int), (n : Int)) ⟨sr, su, sv, sk⟩ top = (allT 1 top || allT 3 top) := by unfold kindsR; simp
    refine gom ?_
    refine WL.op (by kernel_rfl) (OW.callVK rfl rfl rfl (all_fn G 1 b3 A top cap hA ht) rfl fun v' G' H' h hg => ?_)
    obtain ⟨h0, rfl, rfl⟩ := h
    cases h0
    cases h5 : allT 1 top with
    | true =>
      refine gom ?_
      refine WC.ret ?_
      refine WK.un ?_
      exact QF.p1 (.inl rfl) rfl (.tmp rfl) (⟨by rw [he, h5]; rfl, rfl, rfl⟩)
    | false =>
      refine gom ?_
      refine WL.op (by kernel_rfl) (OW.callVK rfl rfl rfl (all_fn G 3 b3 A top cap hA ht) rfl fun v' G' H' h hg => ?_)
      obtain ⟨h0, rfl, rfl⟩ := h
      cases h0
      refine gom ?_
      refine WC.ret ?_
      refine WK.un ?_
      exact QF.p1 (.inl rfl) rfl (.tmp rfl) (⟨by rw [he, h5]; rfl, rfl, rfl⟩)
  have y16 : (c == 16) = false := by simpa using c16
  by_cases c17 : c = 17
  · subst c17
    have he : kindsR w p ((17 : Int), (n : Int)) ⟨sr, su, sv, sk⟩ top = (allT 1 top || allT 3 top) := by unfold kindsR; simp
    refine gom ?_
    refine WL.op (by kernel_rfl) (OW.callVK rfl rfl rfl (all_fn G 1 b3 A top cap hA ht) rfl fun v' G' H' h hg => ?_)
    obtain ⟨h0, rfl, rfl⟩ := h
    cases h0
    cases h5 : allT 1 top with
    | true =>
      refine gom ?_
      refine WC.ret ?_
      refine WK.un ?_
      exact QF.p1 (.inl rfl) rfl (.tmp rfl) (⟨by rw [he, h5]; rfl, rfl, rfl⟩)
    | false =>
      refine gom ?_
      refine WL.op (by kernel_rfl) (OW.callVK rfl rfl rfl (all_fn G 3 b3 A top cap hA ht) rfl fun v' G' H' h hg => ?_)
      obtain ⟨h0, rfl, rfl⟩ := h
      cases h0
      refine gom ?_
      refine WC.ret ?_
      refine WK.un ?_
      exact QF.p1 (.inl rfl) rfl (.tmp rfl) (⟨by rw [he, h5]; rfl, rfl, rfl⟩)
  have y17 : (c == 17) = false := by simpa using c17
  by_cases c18 : c = 18
  · subst c18
    have he : kindsR w p ((18 : Int), (n : Int)) ⟨sr, su, sv, sk⟩ top = allT 1 top := by unfold kindsR; simp
    refine gom ?_
    refine WL.op (by kernel_rfl) (OW.callVK rfl rfl rfl (all_fn G 1 b3 A top cap hA ht) rfl fun v' G' H' h hg => ?_)
    obtain ⟨h0, rfl, rfl⟩ := h
    cases h0
    refine gom ?_
    refine WC.ret ?_
    refine WK.un ?_
    exact QF.p1 (.inl rfl) rfl (.tmp rfl) (⟨by rw [he], rfl, rfl⟩)
  have y18 : (c == 18) = false := by simpa using c18
  by_cases c19 : c = 19
  · subst c19
    have he : kindsR w p ((19 : Int), (n : Int)) ⟨sr, su, sv, sk⟩ top = allT 1 top := by unfold kindsR; simp
    refine gom ?_
    refine WL.op (by kernel_rfl) (OW.callVK rfl rfl rfl (all_fn G 1 b3 A top cap hA ht) rfl fun v' G' H' h hg => ?_)
    obtain ⟨h0, rfl, rfl⟩ := h
    cases h0
    refine gom ?_
    refine WC.ret ?_
    refine WK.un ?_
    exact QF.p1 (.inl rfl) rfl (.tmp rfl) (⟨by rw [he], rfl, rfl⟩)
  have y19 : (c == 19) = false := by simpa using c19
  by_cases c21 : c = 21
  · subst c21
    have he : kindsR w p ((21 : Int), (n : Int)) ⟨sr, su, sv, sk⟩ top = allT 1 top := by unfold kindsR; simp
    refine gom ?_
    refine WL.op (by kernel_rfl) (OW.callVK rfl rfl rfl (all_fn G 1 b3 A top cap hA ht) rfl fun v' G' H' h hg => ?_)
    obtain ⟨h0, rfl, rfl⟩ := h
    cases h0
    refine gom ?_
    refine WC.ret ?_
    refine WK.un ?_
    exact QF.p1 (.inl rfl) rfl (.tmp rfl) (⟨by rw [he], rfl, rfl⟩)
  have y21 : (c == 21) = false := by simpa using c21
  by_cases c22 : c = 22
  · subst c22
    have he : kindsR w p ((22 : Int), (n : Int)) ⟨sr, su, sv, sk⟩ top = allT 1 top := by unfold kindsR; simp
    refine gom ?_
    refine WL.op (by kernel_rfl) (OW.callVK rfl rfl rfl (all_fn G 1 b3 A top cap hA ht) rfl fun v' G' H' h hg => ?_)
    obtain ⟨h0, rfl, rfl⟩ := h
    cases h0
    refine gom ?_
    refine WC.ret ?_
    refine WK.un ?_
    exact QF.p1 (.inl rfl) rfl (.tmp rfl) (⟨by rw [he], rfl, rfl⟩)
  have y22 : (c == 22) = false := by simpa using c22
  by_cases c23 : c = 23
  · subst c23
    have he : kindsR w p ((23 : Int), (n : Int)) ⟨sr, su, sv, sk⟩ top = allT 1 top := by unfold kindsR; simp
    refine gom ?_
    refine WL.op (by kernel_rfl) (OW.callVK rfl rfl rfl (all_fn G 1 b3 A top cap hA ht) rfl fun v' G' H' h hg => ?_)
    obtain ⟨h0, rfl, rfl⟩ := h
    cases h0
    refine gom ?_
    refine WC.ret ?_
    refine WK.un ?_
    exact QF.p1 (.inl rfl) rfl (.tmp rfl) (⟨by rw [he], rfl, rfl⟩)
  have y23 : (c == 23) = false := by simpa using c23
  by_cases c24 : c = 24
  · subst c24
    have he : kindsR w p ((24 : Int), (n : Int)) ⟨sr, su, sv, sk⟩ top = allT 1 top := by unfold kindsR; simp
    refine gom ?_
    refine WL.op (by kernel_rfl) (OW.callVK rfl rfl rfl (all_fn G 1 b3 A top cap hA ht) rfl fun v' G' H' h hg => ?_)
    obtain ⟨h0, rfl, rfl⟩ := h
    cases h0
    refine gom ?_
    refine WC.ret ?_
    refine WK.un ?_
    exact QF.p1 (.inl rfl) rfl (.tmp rfl) (⟨by rw [he], rfl, rfl⟩)
  have y24 : (c == 24) = false := by simpa using c24
  by_cases c20 : c = 20
  · subst c20
    have he : kindsR w p ((20 : Int), (n : Int)) ⟨sr, su, sv, sk⟩ top = allT 3 top := by unfold kindsR; simp
    refine gom ?_
    refine WL.op (by kernel_rfl) (OW.callVK rfl rfl rfl (all_fn G 3 b3 A top cap hA ht) rfl fun v' G' H' h hg => ?_)
    obtain ⟨h0, rfl, rfl⟩ := h
    cases h0
    refine gom ?_
    refine WC.ret ?_
    refine WK.un ?_
    exact QF.p1 (.inl rfl) rfl (.tmp rfl) (⟨by rw [he], rfl, rfl⟩)
  have y20 : (c == 20) = false := by simpa using c20
  by_cases c26 : c = 26
  · subst c26
    have he : kindsR w p ((26 : Int), (n : Int)) ⟨sr, su, sv, sk⟩ top = allT 3 top := by unfold kindsR; simp
    refine gom ?_
    refine WL.op (by kernel_rfl) (OW.callVK rfl rfl rfl (all_fn G 3 b3 A top cap hA ht) rfl fun v' G' H' h hg => ?_)
    obtain ⟨h0, rfl, rfl⟩ := h
    cases h0
    refine gom ?_
    refine WC.ret ?_
    refine WK.un ?_
    exact QF.p1 (.inl rfl) rfl (.tmp rfl) (⟨by rw [he], rfl, rfl⟩)
  have y26 : (c == 26) = false := by simpa using c26
  have he : kindsR w p (c, (n : Int)) ⟨sr, su, sv, sk⟩ top = true := by
    unfold kindsR
    rw [if_neg c2, if_neg (by simp [c3, c11]), if_neg (by simp [c6, c25]), if_neg c7, if_neg c8, if_neg c10, if_neg (by simp [c12, c13]), if_neg (by omega), if_neg (by simp [c20, c26]), if_neg (by omega)]
  refine gom ?_
  refine WC.ret ?_
  refine WK.un ?_
  exact QF.p1 (.inl rfl) rfl (.tmp rfl) (⟨by rw [he], rfl, rfl⟩)
end
end Go.Proofs.YtbfgljcjblfleaaGreatDoor.Gb
