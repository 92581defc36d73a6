/- The document finds the least states of a procedure: walked. What the document finds wrong with a procedure: walked. The document's look at a whole object: walked. The document's Heights and Types: walked. Verified code does not get stuck: the law, no program in sight. A way through a procedure: its small functions, walked. The least states are there; what is known of an object that was taken: no program in sight. CodeStates: walked. What a row tells of its arguments, opened: the data behind slices and structs, with the bounds that their weights give. A slice that a row hands in: opened. Instructions in bytes: walked. Arguments of the statements about instructions: opened. -/
import Derived.Test.YtkmigdmdppkpoaaGreatDoorXh
import Derived.SizedLaws
import Derived.ChangeSlices
import Derived.Carry
set_option linter.unusedVariables false
set_option linter.unusedSimpArgs false
set_option linter.unusedSectionVars false
namespace Go.Proofs.YtkmigdmdppkpoaaGreatDoor.Gb
open Go Go.Proofs Go.MapKept
set_option linter.unusedVariables false
set_option linter.unusedSimpArgs false
set_option linter.unusedSectionVars false
attribute [local irreducible] Tryz.prog
def Kd.rs : Kd SS where
  n := 4
  K G s cs := ∃ VA vc SA sc, cs = [.bool s.reached, .slice VA s.vars.length vc, .bool s.unlike, .slice SA s.stack.length sc] ∧ (s.vars.length ≤ vc ∧ s.stack.length ≤ sc) ∧ Sl (Kd.int .i64) G VA s.vars ∧ Sl (Kd.int .i64) G SA s.stack
  mono hg h := let ⟨VA, vc, SA, sc, h1, h0, h2, h3⟩ := h; ⟨VA, vc, SA, sc, h1, h0, h2.mono hg, h3.mono hg⟩
  len h := by obtain ⟨VA, vc, SA, sc, h1, _⟩ := h; rw [h1]; rfl
  one h := by obtain ⟨VA, vc, SA, sc, h1, _⟩ := h; rw [h1]; rfl
abbrev rsL (s : SS) (VA : Option Addr) (vc : Nat) (SA : Option Addr) (sc : Nat) : List Value := [.bool s.reached, .slice VA s.vars.length vc, .bool s.unlike, .slice SA s.stack.length sc]
theorem Kd.rs_rep {G : Gh} {s : SS} {es : List Value} (h : Kd.rs.K G s es) : ∃ VA vc SA sc, es = rsL s VA vc SA sc ∧ SRep G s VA vc SA sc := by
  obtain ⟨VA, vc, SA, sc, h1, ⟨h2, h3⟩, h4, h5⟩ := h
  exact ⟨VA, vc, SA, sc, h1, h2, h3, h4, h5⟩
theorem SRep.rd {G : Gh} {s : SS} {VA : Option Addr} {vc : Nat} {SA : Option Addr} {sc : Nat} (h : SRep G s VA vc SA sc) : Kd.rs.K G s (rsL s VA vc SA sc) :=
  ⟨VA, vc, SA, sc, rfl, ⟨h.hv, h.hs⟩, h.vars, h.stack⟩
theorem wt_le {n : Nat} {s : SS} (h : s.wf n) : wt n s ≤ n + 130 := by
  unfold wt
  split
  · omega
  · rename_i hr
    have hr : s.reached = true := by simpa using hr
    have h1 := nz_le s.vars
    have h2 := nz_le s.stack
    have h3 := h.vars hr
    have h4 := h.high
    split <;> omega
theorem sumW_le {n : Nat} : ∀ {l : List SS}, (∀ s ∈ l, s.wf n) → sumW n l ≤ l.length * (n + 130)
  | [], _ => by simp [sumW]
  | a :: l, h => by
    have h1 := wt_le (h a (List.mem_cons_self ..))
    have h2 := sumW_le (l := l) fun s hs => h s (List.mem_cons_of_mem _ hs)
    have e : sumW n (a :: l) = wt n a + sumW n l := by simp [sumW]
    rw [e, List.length_cons, Nat.add_mul]; omega
def bls (l : List Bool) : List Value := l.map Value.bool
theorem bls_rep : ∀ n : Nat, repS n [Value.bool false] = bls (List.replicate n false)
  | 0 => rfl
  | n + 1 => by simp only [repS, bls_rep n, List.replicate_succ]; rfl
abbrev WVec (wb : Nat) (l : List Bool) (c : Array Value) : Prop := Vec 4 1 (some ⟨wb, 0, none⟩) l.length l.length (bls l) (.blk wb (.cells c 4 (0, 0)))
theorem WVec.put {wb i : Nat} {l : List Bool} {c : Array Value} (h : WVec wb l c) (hi : i < l.length) (x : Bool) : i + 1 ≤ c.size ∧ WVec wb (l.set i x) (splice c i [.bool x]) := by
  obtain ⟨_, h2, h3⟩ := Vec.put1 h (o := i) (by omega) (.bool x)
  exact ⟨h2, by unfold WVec bls; rw [List.map_set, List.length_set]; exact h3⟩
theorem WVec.get {wb i : Nat} {l : List Bool} {c : Array Value} (h : WVec wb l c) {x : Bool} (hx : l[i]? = some x) : c[i]? = some (.bool x) := by
  obtain ⟨_, ⟨_, h, _⟩ | ⟨b, c', h1, h2, _, _, h3⟩⟩ := h
  · have := (List.getElem?_eq_some_iff.1 hx).1; omega
  · cases h2
    have h4 : (bls l)[i]? = some (.bool x) := by unfold bls; rw [List.getElem?_map, hx]; rfl
    rw [← h3, List.getElem?_take] at h4
    split at h4
    · simpa using h4
    · cases h4
abbrev QVec (A : Option Addr) (l : List Int) (cap : Nat) (x : Own) : Prop := IVec 3 A l cap x
theorem QVec.snoc {A : Option Addr} {l : List Int} {cap : Nat} {x : Own} {z : Int} (h : Vec 3 1 A (l.length + 1) cap (ints l ++ [.int .i64 z]) x) : QVec A (l ++ [z]) cap x := by
  unfold QVec IVec; rw [ints_append, List.length_append]; exact h
theorem QVec.pop {A : Option Addr} {l : List Int} {cap : Nat} {x : Own} {z : Int} (h : QVec A (l ++ [z]) cap x) : QVec A l cap x := by
  have h1 := Vec.cut (m := l.length) h (by simp)
  unfold QVec IVec
  rw [Nat.mul_one, ints_append, List.take_left' (by rw [ints_length, Nat.mul_one])] at h1
  exact h1
/-- where the document's search stands -/
structure FM where
  l : List SS
  T : List Int
  ws : List Bool
  G : Gh
  cs : List Value
  c : Array Value
  TA : Option Addr
  tc : Nat
  o : Own
  wc : Array Value
section
variable (G : Gh) (w : Wd) (p : Pr) (CA NA PA : Option Addr) (cc nc pc : Nat) (hW : RWp G w CA NA PA) (QA IA : Option Addr) (qc ic : Nat) (hQ : Sl (Kd.int .i64) G QA p.params) (hI : Sl Kd.ins G IA p.code) (hp : POk w p)
include hW hQ hI hp
set_option maxHeartbeats 4000000 in
theorem rStates_fn :
    Fn Tryz.prog 69 #[.agg (wdC w CA NA PA cc nc pc), .agg (prC p QA qc IA ic)] G []
      fun e G' H' => ∃ A tc l, e = .returned (.slice A l.length tc) ∧ G.le G' ∧ Sl Kd.rs G' A l ∧ l.length ≤ tc ∧ Least w p l ∧ H' = [] := by
  have hfew := hp.few
  have hpos := hp.pos
  have hpar := hp.par
  have hloc := hp.loc
  refine Fn.enter Tryz.func69 rfl rfl fun w0 => ?_
  refine WC.seq ?_
  refine WC.region ?_
  refine WL.op (by kernel_rfl) (OW.box rfl rfl fun b1 => ?_)
  refine WL.op (by kernel_rfl) (OW.box rfl rfl fun b2 => ?_)
  refine gom ?_
  refine WL.op (by kernel_rfl) (OW.makeSlice (n := 4) (z := .agg #[.bool false, .slice none 0 0, .bool false, .slice none 0 0]) rfl rfl rfl (by omega) (by omega) (by omega) rfl fun tb o1 ho1 => ?_)
  rw [Int.toNat_natCast] at ho1 ⊢
  obtain ⟨xb, xc, hxb, rfl⟩ := ho1.isBlk hpos
  obtain rfl : tb = xb := by cases hxb; rfl
  refine gom ?_
  refine WL.op (by kernel_rfl) (OW.alloc rfl fun b6 => ?_)
  refine gom ?_
  refine WL.nothing ?_
  refine WL.op (by kernel_rfl) (OW.append rfl rfl (by kernel_rfl) (by kernel_rfl) TVec.nilv (by (repeat first | exact .here | apply At.there)) hQ.ints (ints_length _) (ints_one _) (by first | omega | (dsimp only; omega)) (by first | omega | (dsimp only; omega)) rfl fun A1 c1 x1 hx1 => ?_)
  rw [Nat.zero_add] at hx1 ⊢
  rw [List.nil_append] at hx1
  refine WL.p (Gp.fieldAddr rfl) (by kernel_rfl) rfl ?_
  refine WL.op (by kernel_rfl) (OW.store rfl rfl (by (repeat first | exact .here | apply At.there)) rfl (by rfl) (by rfl) (by kernel_rfl) (by rfl) ?_ rfl)
  refine WL.nil ?_
  refine WK.un ?_
  refine gom ?_
  refine WC.pick [x1, .blk b6 (.cells #[.bool true, .slice A1 p.params.length c1, .bool false, .slice none 0 0] 95 (0, 0)), .blk tb (.cells xc 95 (0, 0)), .blk b1 (.cells (wdC w CA NA PA cc nc pc) 143 (0, 0)), .blk b2 (.cells (prC p QA qc IA ic) 45 (0, 0))] ?_
  refine WC.loop (X := List Int × Option Addr × Nat × Own) (fun t => [(2, .pointer (some ⟨b1, 0, none⟩)), (3, .pointer (some ⟨b2, 0, none⟩)), (5, .slice (some ⟨tb, 0, none⟩) p.code.length p.code.length), (6, .pointer (some ⟨b6, 0, none⟩))]) (fun _ => G) (fun t => [t.2.2.2, .blk b6 (.cells #[.bool true, .slice t.2.1 t.1.length t.2.2.1, .bool false, .slice none 0 0] 95 (0, 0)), .blk tb (.cells xc 95 (0, 0)), .blk b1 (.cells (wdC w CA NA PA cc nc pc) 143 (0, 0)), .blk b2 (.cells (prC p QA qc IA ic) 45 (0, 0))]) (fun t => p.locals.toNat - t.1.length)
    (fun t => p.params.length ≤ t.1.length ∧ (t.1.length : Int) ≤ p.locals ∧ t.1 = p.params ++ List.replicate (t.1.length - p.params.length) 0 ∧ TVec t.2.1 t.1 t.2.2.1 t.2.2.2) (p.params, A1, c1, x1)
    ⟨Nat.le_refl _, hpar, by simp, hx1⟩ (by exact ⟨rfl, rfl, rfl, rfl, trivial⟩) rfl (List.Sublist.refl _) fun t ht => ?_
  obtain ⟨vs, B, cv, o⟩ := t
  obtain ⟨hv1, hv2, hv3, hv⟩ := ht
  dsimp only at hv1 hv2 hv3 hv
  by_cases hlt : (vs.length : Int) < p.locals
  · have e2 : decide ((vs.length : Int) < p.locals) = true := decide_eq_true hlt
    refine gom ?_
    refine WL.op (by kernel_rfl) (OW.buildSlice rfl (by kernel_rfl) (by kernel_rfl) (by rfl) rfl fun b33 => ?_)
    refine WL.op (by kernel_rfl) (OW.append rfl rfl (by kernel_rfl) (by kernel_rfl) hv (by (repeat first | exact .here | apply At.there)) (Rds.blk0 (cs := [.int .i64 0]) (by (repeat first | exact .here | apply At.there)) rfl) rfl rfl (by first | omega | (dsimp only; omega)) (by first | omega | (dsimp only; omega)) rfl fun A3 c3 o3 hv3' => ?_)
    have h3 := TVec.snoc hv3'
    have hl3 : vs.length + 1 = (vs ++ [0]).length := by rw [List.length_append]; rfl
    refine gom ?_
    rw [hl3]
    refine WK.pick [o3, .blk b6 (.cells #[.bool true, .slice A3 (vs ++ [0]).length c3, .bool false, .slice none 0 0] 95 (0, 0)), .blk tb (.cells xc 95 (0, 0)), .blk b1 (.cells (wdC w CA NA PA cc nc pc) 143 (0, 0)), .blk b2 (.cells (prC p QA qc IA ic) 45 (0, 0))] ?_
    refine WK.again (vs ++ [0], A3, c3, o3) (by dsimp only; rw [← hl3]; omega) ⟨by dsimp only; rw [← hl3]; omega, by dsimp only; rw [← hl3]; omega, ?_, h3⟩ (by exact ⟨rfl, rfl, rfl, rfl, trivial⟩) rfl (List.Sublist.refl _)
    dsimp only
    rw [← hl3, show vs.length + 1 - p.params.length = (vs.length - p.params.length) + 1 by omega, List.replicate_succ', ← List.append_assoc, ← hv3]
  have e2 : decide ((vs.length : Int) < p.locals) = false := decide_eq_false hlt
  have hbv : vs = (beginS p).vars := by
    rw [hv3]
    show _ = p.params ++ List.replicate (p.locals.toNat - p.params.length) 0
    rw [show p.locals.toNat = vs.length by omega]
  clear hv3
  subst hbv
  have hbl : (beginS p).vars.length = p.locals.toNat := by omega
  refine gom ?_
  refine WL.frozenVec hv (by (repeat first | exact .here | apply At.there)) fun G2 hg2 z2 => ?_
  have hbs : Sl (Kd.int .i64) G2 B (beginS p).vars := IVec.sl z2
  have hbR : SRep G2 (beginS p) B cv none 0 := ⟨hv.le, Nat.le_refl _, hbs, Sl.nil _ _ _⟩
  obtain ⟨_, hfit1, hput1⟩ := Vec.put (i := 0) ho1 hpos (rsL (beginS p) B cv none 0) rfl
  have hble1 : Nat.ble (0 + (0 : Int).toNat * 4 + 4) xc.size = true := Nat.ble_eq_true_of_le hfit1
  have x0 : (0 : Int) < (p.code.length : Int) := by omega
  refine WL.op (by kernel_rfl) (OW.store (n := 4) (cs := rsL (beginS p) B cv none 0) rfl rfl (by (repeat first | exact .here | apply At.there)) rfl rfl rfl hble1 rfl ?_ rfl)
  refine gom ?_
  refine WL.op (by kernel_rfl) (OW.buildSlice rfl (by kernel_rfl) (by kernel_rfl) (by rfl) rfl fun b7 => ?_)
  refine gom ?_
  refine WL.op (by kernel_rfl) (OW.makeSlice (n := 1) (z := .bool false) rfl rfl rfl (by omega) (by omega) (by omega) rfl fun wb o2 ho2 => ?_)
  rw [Int.toNat_natCast] at ho2 ⊢
  obtain ⟨yb, yc, hyb, rfl⟩ := ho2.isBlk hpos
  obtain rfl : wb = yb := by cases hyb; rfl
  rw [show (Value.bool false).cells.toList = [Value.bool false] from rfl, bls_rep] at ho2
  have hw1 : WVec wb (List.replicate p.code.length false) yc := by unfold WVec; rw [List.length_replicate]; exact ho2
  obtain ⟨hfw, hw2⟩ := hw1.put (i := 0) (by simpa using hpos) true
  have hblew : Nat.ble (0 + (0 : Int).toNat * 1 + 1) yc.size = true := Nat.ble_eq_true_of_le hfw
  have hq1 : QVec (some ⟨b7, 0, none⟩) [0] 1 (.blk b7 (.cells #[.int .i64 0] 3 (0, 0))) := ⟨rfl, .inr ⟨b7, _, rfl, rfl, Nat.le_refl _, rfl, rfl⟩⟩
  refine gom ?_
  have hkv0 : KV Kd.rs G2 ((List.replicate p.code.length ss0).set 0 (beginS p)) ((repS p.code.length (Value.agg #[.bool false, .slice none 0 0, .bool false, .slice none 0 0]).cells.toList).take (0 * 4) ++ rsL (beginS p) B cv none 0 ++ (repS p.code.length (Value.agg #[.bool false, .slice none 0 0, .bool false, .slice none 0 0]).cells.toList).drop (0 * 4 + (rsL (beginS p) B cv none 0).length)) :=
    KV.set (k := Kd.rs) (KV.rep (k := Kd.rs) (x := ss0) ⟨none, 0, none, 0, rfl, ⟨Nat.le_refl _, Nat.le_refl _⟩, Sl.nil _ _ _, Sl.nil _ _ _⟩ _) hbR.rd (by simpa using hpos)
  have hinv0 := FInv.first (w := w) hpar hpos
  have hsum0 : 2 * sumW p.locals.toNat ((List.replicate p.code.length ss0).set 0 (beginS p)) + 1 ≤ 10000000 := by
    have h1 := sumW_le hinv0.wf
    have h2 : p.code.length * (p.locals.toNat + 130) ≤ 16384 * 194 := Nat.mul_le_mul hfew (by omega)
    rw [hinv0.len] at h1
    omega
  refine WC.pick [.blk b7 (.cells #[.int .i64 0] 3 (0, 0)), .blk tb (.cells _ 95 (0, 0)), .blk wb (.cells _ 4 (0, 0)), .blk b1 (.cells (wdC w CA NA PA cc nc pc) 143 (0, 0)), .blk b2 (.cells (prC p QA qc IA ic) 45 (0, 0))] ?_
  refine WC.loop (X := FM) (fun x => [(2, .pointer (some ⟨b1, 0, none⟩)), (3, .pointer (some ⟨b2, 0, none⟩)), (5, .slice (some ⟨tb, 0, none⟩) p.code.length p.code.length), (7, .slice x.TA x.T.length x.tc), (8, .slice (some ⟨wb, 0, none⟩) p.code.length p.code.length)]) (fun x => x.G) (fun x => [x.o, .blk tb (.cells x.c 95 (0, 0)), .blk wb (.cells x.wc 4 (0, 0)), .blk b1 (.cells (wdC w CA NA PA cc nc pc) 143 (0, 0)), .blk b2 (.cells (prC p QA qc IA ic) 45 (0, 0))]) (fun x => 2 * sumW p.locals.toNat x.l + x.T.length)
    (fun x => FInv w p x.l x.T ∧ (x.ws.length = p.code.length ∧ ∀ k : Nat, x.ws[k]? = some true → (k : Int) ∈ x.T) ∧ QVec x.TA x.T x.tc x.o ∧ Vec 95 4 (some ⟨tb, 0, none⟩) p.code.length p.code.length x.cs (.blk tb (.cells x.c 95 (0, 0))) ∧ WVec wb x.ws x.wc ∧ KV Kd.rs x.G x.l x.cs ∧ G2.le x.G ∧ 2 * sumW p.locals.toNat x.l + x.T.length ≤ 10000000)
    ⟨(List.replicate p.code.length ss0).set 0 (beginS p), [0], (List.replicate p.code.length false).set 0 true, G2, _, _, some ⟨b7, 0, none⟩, 1, .blk b7 (.cells #[.int .i64 0] 3 (0, 0)), _⟩ ⟨hinv0, ⟨by simp, fun k hk => by
      rw [List.getElem?_set] at hk
      split at hk
      · rename_i h; subst h; simp
      · rw [List.getElem?_replicate] at hk
        split at hk <;> simp at hk⟩, hq1, hput1, hw2, hkv0, Gh.le_refl _, hsum0⟩ (by exact ⟨rfl, rfl, rfl, rfl, rfl, trivial⟩) rfl (List.Sublist.refl _) fun x hx => ?_
  obtain ⟨l, T, ws, G3, cs, c, TA2, tc2, o, wc⟩ := x
  obtain ⟨hinv, ⟨hwl, hwt⟩, hqv, hsv, hwv, hkv, hg3, hsum⟩ := hx
  dsimp only at hinv hwl hwt hqv hsv hwv hkv hg3 hsum
  have hll := hinv.len
  by_cases hT0 : T.length = 0
  · have y0 : decide ((0 : Int) < (T.length : Int)) = false := decide_eq_false (by omega)
    refine gom ?_
    refine WC.frozenVec hsv (by (repeat first | exact .here | apply At.there)) fun G4 hg4 z4 => ?_
    have hT00 : T = [] := List.eq_nil_of_length_eq_zero hT0
    subst hT00
    rw [← hll]
    refine WC.ret ?_
    refine WK.un ?_
    exact QF.p1 (.inl rfl) rfl (.tmp rfl) (⟨some ⟨tb, 0, none⟩, l.length, l, rfl, Gh.le_trans hg2 (Gh.le_trans hg3 hg4), (hkv.mono hg4).sl (by decide) z4, Nat.le_refl _, hinv.least, rfl⟩)
  have y0 : decide ((0 : Int) < (T.length : Int)) = true := decide_eq_true (by omega)
  obtain ⟨T0, q, rfl⟩ : ∃ T0 q, T = T0 ++ [q] := ⟨T.dropLast, T.getLast (fun h => hT0 (by rw [h]; rfl)), (List.dropLast_concat_getLast _).symm⟩
  obtain ⟨kq, s0, hck, hs0, hr0⟩ := hinv.todo q (by simp)
  subst hck
  have hTl : (T0 ++ [(kq : Int)]).length = T0.length + 1 := by simp
  have hkq := (List.getElem?_eq_some_iff.1 hs0).1
  obtain ⟨i, hi⟩ : ∃ i, p.code[kq]? = some i := ⟨_, List.getElem?_eq_getElem (by omega)⟩
  obtain ⟨hi0, hiE⟩ := hp.ins kq i hi
  obtain ⟨ic1, in1⟩ := i
  obtain ⟨nn, rfl⟩ : ∃ nn : Nat, in1 = nn := ⟨in1.toNat, by dsimp only at hi0; omega⟩
  dsimp only at hiE
  rw [Int.toNat_natCast] at hiE
  have hw0 := hinv.wf s0 (List.mem_of_getElem? hs0)
  have hv0 := hw0.vars hr0
  obtain ⟨VA, vc, SA, sc, hes0, hS0⟩ := Kd.rs_rep (hkv.2 kq s0 hs0)
  have hst0 := hw0.high
  obtain ⟨ib, io, ics, rfl, hik, hic⟩ := hI kq _ hi
  obtain rfl : ics = [.int .i64 ic1, .int .i64 nn] := hik
  have hgg : G.le G3 := Gh.le_trans hg2 hg3
  have hic3 := hic.mono hgg
  obtain ⟨qb, qcs, rfl, rfl, hqc⟩ := hqv.some (by simp)
  have hqg : qcs[0 + (((T0.length : Nat) : Int)).toNat * 1]? = some (.int .i64 (kq : Int)) := by
    have := ivec_get hqc (i := T0.length) (x := (kq : Int)) (by simp)
    simpa using this
  have y1 : IntKind.i64.wrap (((T0 ++ [(kq : Int)]).length : Int) - 1) = ((T0.length : Nat) : Int) := by
    rw [hTl, wrapI (by omega) (by omega)]; omega
  have y2 : (0 : Int) ≤ ((T0.length : Nat) : Int) := by omega
  have y3 : ((T0.length : Nat) : Int) < (((T0 ++ [(kq : Int)]).length : Nat) : Int) := by rw [hTl]; omega
  have hqv0 := hqv.pop
  have z0 : (0 : Int) ≤ (kq : Int) := by omega
  have z1 : (kq : Int) < (p.code.length : Int) := by omega
  obtain ⟨hfq, hwv0⟩ := hwv.put (i := 0 + ((kq : Nat) : Int).toNat * 1) (by omega) false
  have hbleq : Nat.ble (0 + ((kq : Nat) : Int).toNat * 1 + 1) wc.size = true := Nat.ble_eq_true_of_le hfq
  refine gom ?_
  refine WL.p (Gp.sliceTo rfl rfl (by omega) (by have := hqv.le; show ((T0.length : Nat) : Int) ≤ ((tc2 : Nat) : Int); omega)) (by kernel_rfl) rfl ?_
  rw [Int.toNat_natCast]
  refine go ?_
  obtain ⟨sB, hsB⟩ : ∃ sB, sB = behR w (ic1, (nn : Int)) s0 := ⟨_, rfl⟩
  have hwB : sB.wf p.locals.toNat := by rw [hsB]; exact behR_wf hw0 hr0
  have hrB : sB.reached = true := by rw [hsB, behR_reached]; exact hr0
  have hin := hinv.into (T' := T0) (q := kq) (by simp) hi hs0 (fun x hx => by simp [hx]) (fun x hx hne => by
    rcases List.mem_append.1 hx with h | h
    · exact h
    · exact absurd (by simpa using h) hne)
  have hWG := hW.mono hgg
  have ekq : 0 + ((kq : Nat) : Int).toNat * 1 = kq := by omega
  have hwl0 : (ws.set (0 + ((kq : Nat) : Int).toNat * 1) false).length = p.code.length := by rw [List.length_set, hwl]
  have hwt0 : ∀ k : Nat, (ws.set (0 + ((kq : Nat) : Int).toNat * 1) false)[k]? = some true → (k : Int) ∈ T0 := fun k hk => by
    rw [ekq, List.getElem?_set] at hk
    split at hk
    · split at hk <;> cases hk
    · rename_i hne
      have := hwt k hk
      rcases List.mem_append.1 this with h | h
      · exact h
      · simp at h; omega
  refine WC.joinG (X := Gh × Option Addr × Nat × Option Addr × Nat × Nat) (fun t => [(2, .pointer (some ⟨b1, 0, none⟩)), (3, .pointer (some ⟨b2, 0, none⟩)), (5, .slice (some ⟨tb, 0, none⟩) p.code.length p.code.length), (7, .slice (some ⟨qb, 0, none⟩) T0.length tc2), (8, .slice (some ⟨wb, 0, none⟩) p.code.length p.code.length), (9, .int .i64 (kq : Int)), (10, .pointer (some ⟨t.2.2.2.2.2, 0, none⟩))]) (fun t => t.1)
    (fun t => [.blk t.2.2.2.2.2 (.cells (rsC sB t.2.1 t.2.2.1 t.2.2.2.1 t.2.2.2.2.1) 95 (0, 0)), .blk qb (.cells qcs 3 (0, 0)), .blk tb (.cells c 95 (0, 0)), .blk wb (.cells (splice wc (0 + ((kq : Nat) : Int).toNat * 1) [.bool false]) 4 (0, 0)), .blk b1 (.cells (wdC w CA NA PA cc nc pc) 143 (0, 0)), .blk b2 (.cells (prC p QA qc (some ⟨ib, io, none⟩) ic) 45 (0, 0))]) (fun t => G3.le t.1 ∧ SRep t.1 sB t.2.1 t.2.2.1 t.2.2.2.1 t.2.2.2.2.1) ?_ fun t ht => ?_
  · obtain ⟨rb, ro, hrr, hread⟩ := (Vec.rds hsv .here : Rds G3 [.blk tb (.cells c 95 (0, 0))] (some ⟨tb, 0, none⟩) cs).resolve_left (fun h => by have h1 := hkv.1; rw [h] at h1; simp [Kd.rs] at h1; omega)
    cases hrr
    have hbf := rbehind_fn G3 w p CA NA PA cc nc pc hWG QA (some ⟨ib, io, none⟩) qc ic s0 VA vc SA sc hS0 hr0 (by omega) (by omega) ic1 nn (by rw [hv0]; exact hiE)
    rw [← hsB] at hbf
    refine WC.drawS (Hs := [.blk tb (.cells c 95 (0, 0)), .blk b1 (.cells (wdC w CA NA PA cc nc pc) 143 (0, 0)), .blk b2 (.cells (prC p QA qc (some ⟨ib, io, none⟩) ic) 45 (0, 0))]) mixed (by repeat (first | exact Pk.nil | exact Pk.all | exact Pk.app | exact Pk.appR | with_reducible apply Pk.na | (apply Pk.cons; (repeat first | exact .here | apply Rem.there | apply Rem.app)) | apply Pk.skip | apply Pk.skipA)) ?_
    (first | (refine WB.tv (i := 0) rfl (by kernel_rfl) (by kernel_rfl) rfl (Gv.load1 rfl (by (repeat first | exact .here | apply At.there)) (by first | rfl | assumption)) ?_) | (refine WB.tv (i := 0) rfl (by kernel_rfl) (by kernel_rfl) rfl (Gv.loadN rfl (by (repeat first | exact .here | apply At.there)) (by rfl) (by rfl)) ?_) | (refine WB.tv (i := 0) rfl (by kernel_rfl) (by kernel_rfl) rfl (Gv.loadG1 rfl (by assumption) rfl) ?_) | (refine WB.tv (i := 0) rfl (by kernel_rfl) (by kernel_rfl) rfl (Gv.loadG0 rfl (by assumption) rfl) ?_) | (refine WB.tv (i := 0) rfl (by kernel_rfl) (by kernel_rfl) rfl (Gv.loadGN rfl (by assumption) rfl) ?_))
    (first | (refine WB.tv (i := 1) rfl (by kernel_rfl) (by kernel_rfl) rfl (Gv.load1 rfl (by (repeat first | exact .here | apply At.there)) (by first | rfl | assumption)) ?_) | (refine WB.tv (i := 1) rfl (by kernel_rfl) (by kernel_rfl) rfl (Gv.loadN rfl (by (repeat first | exact .here | apply At.there)) (by rfl) (by rfl)) ?_) | (refine WB.tv (i := 1) rfl (by kernel_rfl) (by kernel_rfl) rfl (Gv.loadG1 rfl (by assumption) rfl) ?_) | (refine WB.tv (i := 1) rfl (by kernel_rfl) (by kernel_rfl) rfl (Gv.loadG0 rfl (by assumption) rfl) ?_) | (refine WB.tv (i := 1) rfl (by kernel_rfl) (by kernel_rfl) rfl (Gv.loadGN rfl (by assumption) rfl) ?_))
    refine WB.tp (i := 2) rfl (by kernel_rfl) (by kernel_rfl) rfl (Gp.fieldAddr rfl) ?_
    (first | (refine WB.tv (i := 3) rfl (by kernel_rfl) (by kernel_rfl) rfl (Gv.load1 rfl (by (repeat first | exact .here | apply At.there)) (by first | rfl | assumption)) ?_) | (refine WB.tv (i := 3) rfl (by kernel_rfl) (by kernel_rfl) rfl (Gv.loadN rfl (by (repeat first | exact .here | apply At.there)) (by rfl) (by rfl)) ?_) | (refine WB.tv (i := 3) rfl (by kernel_rfl) (by kernel_rfl) rfl (Gv.loadG1 rfl (by assumption) rfl) ?_) | (refine WB.tv (i := 3) rfl (by kernel_rfl) (by kernel_rfl) rfl (Gv.loadG0 rfl (by assumption) rfl) ?_) | (refine WB.tv (i := 3) rfl (by kernel_rfl) (by kernel_rfl) rfl (Gv.loadGN rfl (by assumption) rfl) ?_))
    refine WB.tp (i := 4) rfl (by kernel_rfl) (by kernel_rfl) rfl (Gp.move rfl) ?_
    refine WB.tp (i := 5) rfl (by kernel_rfl) (by kernel_rfl) rfl (Gp.indexAddr rfl rfl (by first | assumption | omega | decide) (by first | assumption | omega | decide | (simp only [List.length_cons, List.length_nil]; decide))) ?_
    refine WB.tv (i := 6) rfl (by kernel_rfl) (by kernel_rfl) rfl (Gv.loadGN rfl hic3 rfl) ?_
    refine WB.tp (i := 7) rfl (by kernel_rfl) (by kernel_rfl) rfl (Gp.move rfl) ?_
    refine WB.tp (i := 8) rfl (by kernel_rfl) (by kernel_rfl) rfl (Gp.move rfl) ?_
    refine WB.tp (i := 9) rfl (by kernel_rfl) (by kernel_rfl) rfl (Gp.indexAddr rfl rfl (by first | assumption | omega | decide) (by first | assumption | omega | decide | (simp only [List.length_cons, List.length_nil]; decide))) ?_
    refine WB.tv (i := 10) rfl (by kernel_rfl) (by kernel_rfl) rfl (Gv.loadRN (i := ((kq : Nat) : Int).toNat * 4) rfl hread (.cons_cons _ (List.nil_sublist _)) hes0 rfl) ?_
    refine WB.two (i := 11) (j := 12) (by kernel_rfl) rfl rfl (by kernel_rfl) (by kernel_rfl) (OW.callK rfl hbf rfl fun v' G' H' h hg => ?_) (OW.alloc rfl fun b10 => ?_)
    · obtain ⟨V1, v1, S1, s1, he, hg4, hR4, rfl⟩ := h
      cases he
      refine ⟨fun w hw => (hw.pk (by repeat (first | exact Pk.nil | exact Pk.all | exact Pk.app | exact Pk.appR | with_reducible apply Pk.na | (apply Pk.cons; (repeat first | exact .here | apply Rem.there | apply Rem.app)) | apply Pk.skip | apply Pk.skipA))).le hg4, ?_⟩
      refine WB.one (i := 12) (by kernel_rfl) rfl (by kernel_rfl) (OW.alloc rfl fun b10 => ?_)
      refine ⟨fun w hw => (hw.pk (by repeat (first | exact Pk.nil | exact Pk.all | exact Pk.app | exact Pk.appR | with_reducible apply Pk.na | (apply Pk.cons; (repeat first | exact .here | apply Rem.there | apply Rem.app)) | apply Pk.skip | apply Pk.skipA))).le hg4, ?_⟩
      refine WB.one (i := 13) (by kernel_rfl) rfl (by kernel_rfl) (OW.store rfl rfl (by (repeat first | exact .here | apply At.there)) rfl (by rfl) (by rfl) (by kernel_rfl) (by rfl) ?_ rfl)
      refine ⟨fun w hw => (hw.pk (by repeat (first | exact Pk.nil | exact Pk.all | exact Pk.app | exact Pk.appR | with_reducible apply Pk.na | (apply Pk.cons; (repeat first | exact .here | apply Rem.there | apply Rem.app)) | apply Pk.skip | apply Pk.skipA))).le hg4, ?_⟩
      refine WB.done (by kernel_rfl) ?_
      refine WK.un ?_
      refine WK.pick [.blk b10 (.cells (rsC sB V1 v1 S1 s1) 95 (0, 0)), .blk qb (.cells qcs 3 (0, 0)), .blk tb (.cells c 95 (0, 0)), .blk wb (.cells (splice wc (0 + ((kq : Nat) : Int).toNat * 1) [.bool false]) 4 (0, 0)), .blk b1 (.cells (wdC w CA NA PA cc nc pc) 143 (0, 0)), .blk b2 (.cells (prC p QA qc (some ⟨ib, io, none⟩) ic) 45 (0, 0))] ?_
      exact WK.meet (G', V1, v1, S1, s1, b10) ⟨hg4, hR4⟩ (by exact ⟨rfl, rfl, rfl, rfl, rfl, rfl, rfl, trivial⟩) rfl (List.Sublist.refl _)
    · refine ⟨fun w hw => hw.pk (by repeat (first | exact Pk.nil | exact Pk.all | exact Pk.app | exact Pk.appR | with_reducible apply Pk.na | (apply Pk.cons; (repeat first | exact .here | apply Rem.there | apply Rem.app)) | apply Pk.skip | apply Pk.skipA)), ?_⟩
      refine WB.one (i := 11) (by kernel_rfl) rfl (by kernel_rfl) (OW.callK rfl hbf rfl fun v' G' H' h hg => ?_)
      obtain ⟨V1, v1, S1, s1, he, hg4, hR4, rfl⟩ := h
      cases he
      refine ⟨fun w hw => (hw.pk (by repeat (first | exact Pk.nil | exact Pk.all | exact Pk.app | exact Pk.appR | with_reducible apply Pk.na | (apply Pk.cons; (repeat first | exact .here | apply Rem.there | apply Rem.app)) | apply Pk.skip | apply Pk.skipA))).le hg4, ?_⟩
      refine WB.one (i := 13) (by kernel_rfl) rfl (by kernel_rfl) (OW.store rfl rfl (by (repeat first | exact .here | apply At.there)) rfl (by rfl) (by rfl) (by kernel_rfl) (by rfl) ?_ rfl)
      refine ⟨fun w hw => (hw.pk (by repeat (first | exact Pk.nil | exact Pk.all | exact Pk.app | exact Pk.appR | with_reducible apply Pk.na | (apply Pk.cons; (repeat first | exact .here | apply Rem.there | apply Rem.app)) | apply Pk.skip | apply Pk.skipA))).le hg4, ?_⟩
      refine WB.done (by kernel_rfl) ?_
      refine WK.un ?_
      refine WK.pick [.blk b10 (.cells (rsC sB V1 v1 S1 s1) 95 (0, 0)), .blk qb (.cells qcs 3 (0, 0)), .blk tb (.cells c 95 (0, 0)), .blk wb (.cells (splice wc (0 + ((kq : Nat) : Int).toNat * 1) [.bool false]) 4 (0, 0)), .blk b1 (.cells (wdC w CA NA PA cc nc pc) 143 (0, 0)), .blk b2 (.cells (prC p QA qc (some ⟨ib, io, none⟩) ic) 45 (0, 0))] ?_
      exact WK.meet (G', V1, v1, S1, s1, b10) ⟨hg4, hR4⟩ (by exact ⟨rfl, rfl, rfl, rfl, rfl, rfl, rfl, trivial⟩) rfl (List.Sublist.refl _)
  obtain ⟨G4, V1, v1, S1, s1, b10⟩ := t
  obtain ⟨hg4, hR4⟩ := ht
  dsimp only at hg4 hR4
  have hic4 := hic3.mono hg4
  refine gom ?_
  refine WL.op (by kernel_rfl) (OW.callK rfl (ronwards_fn _ ic1 nn kq (by omega)) rfl fun v' G' H' h hg => ?_)
  obtain ⟨XA, xcap, he, hg5, hx5, rfl⟩ := h
  cases he
  obtain ⟨nx, hnx⟩ : ∃ nx, nx = onwR (ic1, (nn : Int)) kq := ⟨_, rfl⟩
  rw [← hnx] at hx5 ⊢
  have hnxl : nx.length ≤ 2 := by rw [hnx]; exact onwR_len _ _
  refine gom ?_
  refine WC.pick [.blk b10 (.cells (rsC sB V1 v1 S1 s1) 95 (0, 0)), .blk qb (.cells qcs 3 (0, 0)), .blk tb (.cells c 95 (0, 0)), .blk wb (.cells (splice wc (0 + ((kq : Nat) : Int).toNat * 1) [.bool false]) 4 (0, 0)), .blk b1 (.cells (wdC w CA NA PA cc nc pc) 143 (0, 0)), .blk b2 (.cells (prC p QA qc (some ⟨ib, io, none⟩) ic) 45 (0, 0))] ?_
  refine WC.loop (X := Nat × FM) (fun x => [(2, .pointer (some ⟨b1, 0, none⟩)), (3, .pointer (some ⟨b2, 0, none⟩)), (5, .slice (some ⟨tb, 0, none⟩) p.code.length p.code.length), (7, .slice x.2.TA x.2.T.length x.2.tc), (8, .slice (some ⟨wb, 0, none⟩) p.code.length p.code.length), (10, .pointer (some ⟨b10, 0, none⟩)), (11, .slice XA nx.length xcap), (12, .int .i64 (x.1 : Int))]) (fun x => x.2.G) (fun x => [.blk b10 (.cells (rsC sB V1 v1 S1 s1) 95 (0, 0)), x.2.o, .blk tb (.cells x.2.c 95 (0, 0)), .blk wb (.cells x.2.wc 4 (0, 0)), .blk b1 (.cells (wdC w CA NA PA cc nc pc) 143 (0, 0)), .blk b2 (.cells (prC p QA qc (some ⟨ib, io, none⟩) ic) 45 (0, 0))]) (fun x => nx.length - x.1)
    (fun x => x.1 ≤ nx.length ∧ FIn w p x.2.l x.2.T kq (ic1, (nn : Int)) s0 ((nx.take x.1).reverse) ∧ (x.2.ws.length = p.code.length ∧ ∀ k : Nat, x.2.ws[k]? = some true → (k : Int) ∈ x.2.T) ∧ QVec x.2.TA x.2.T x.2.tc x.2.o ∧ Vec 95 4 (some ⟨tb, 0, none⟩) p.code.length p.code.length x.2.cs (.blk tb (.cells x.2.c 95 (0, 0))) ∧ WVec wb x.2.ws x.2.wc ∧ KV Kd.rs x.2.G x.2.l x.2.cs ∧ G'.le x.2.G ∧ 2 * sumW p.locals.toNat x.2.l + x.2.T.length ≤ 2 * sumW p.locals.toNat l + T0.length)
    (0, ⟨l, T0, ws.set (0 + ((kq : Nat) : Int).toNat * 1) false, G', cs, c, some ⟨qb, 0, none⟩, tc2, .blk qb (.cells qcs 3 (0, 0)), _⟩) ⟨Nat.zero_le _, hin, ⟨hwl0, hwt0⟩, hqv0, hsv, hwv0, hkv.mono (Gh.le_trans hg4 hg5), Gh.le_refl _, Nat.le_refl _⟩ (by exact ⟨rfl, rfl, rfl, rfl, rfl, rfl, rfl, rfl, trivial⟩) rfl (List.Sublist.refl _) fun x hx => ?_
  obtain ⟨j, l2, T2, ws2, G6, cs2, c2, TA3, tc3, o3, wc2⟩ := x
  obtain ⟨hj, hin2, ⟨hwl2, hwt2⟩, hqv2, hsv2, hwv2, hkv2, hg6, hμ2⟩ := hx
  dsimp only at hj hin2 hwl2 hwt2 hqv2 hsv2 hwv2 hkv2 hg6 hμ2
  by_cases hjl : j < nx.length
  rotate_left
  · have y1 : decide ((j : Int) < (nx.length : Int)) = false := decide_eq_false (by omega)
    have hdone := hin2.done (fun x hx => .inl (by have hx := (mem_onwR _ _ _).2 hx; rw [← hnx] at hx; rw [List.take_of_length_le (by omega)]; simpa using hx))
    refine gom ?_
    refine WK.pick [o3, .blk tb (.cells c2 95 (0, 0)), .blk wb (.cells wc2 4 (0, 0)), .blk b1 (.cells (wdC w CA NA PA cc nc pc) 143 (0, 0)), .blk b2 (.cells (prC p QA qc (some ⟨ib, io, none⟩) ic) 45 (0, 0))] ?_
    exact WK.again ⟨l2, T2, ws2, G6, cs2, c2, TA3, tc3, o3, wc2⟩ (by dsimp only; rw [hTl]; omega) ⟨hdone, ⟨hwl2, hwt2⟩, hqv2, hsv2, hwv2, hkv2, Gh.le_trans hg3 (Gh.le_trans hg4 (Gh.le_trans hg5 hg6)), by dsimp only; rw [hTl] at hsum; omega⟩ (by exact ⟨rfl, rfl, rfl, rfl, rfl, trivial⟩) rfl (List.Sublist.refl _)
  have y1 : decide ((j : Int) < (nx.length : Int)) = true := decide_eq_true (by omega)
  obtain ⟨x, hx⟩ : ∃ x, nx[j]? = some x := ⟨_, List.getElem?_eq_getElem hjl⟩
  have hxm : x ∈ nextR (ic1, (nn : Int)) kq := (mem_onwR _ _ _).1 (by rw [← hnx]; exact List.mem_of_getElem? hx)
  have hx0 := nextR_nonneg hxm
  obtain ⟨k, rfl⟩ : ∃ k : Nat, x = k := ⟨x.toNat, by omega⟩
  have htake : (nx.take (j + 1)).reverse = (k : Int) :: (nx.take j).reverse := by rw [List.take_add_one, hx]; simp
  obtain ⟨xb', xo', rfl, hxc⟩ := hx5.at hx
  have hxc6 := hxc.mono hg6
  have w0' : (0 : Int) ≤ (j : Int) := by omega
  have w1 : (j : Int) < (nx.length : Int) := by omega
  have w2 := wrapS j (by omega)
  by_cases hkl : p.code.length ≤ k
  · have y2 : decide ((p.code.length : Int) ≤ (k : Int)) = true := decide_eq_true (by omega)
    refine gom ?_
    exact WK.again (j + 1, ⟨l2, T2, ws2, G6, cs2, c2, TA3, tc3, o3, wc2⟩) (by dsimp only; omega) ⟨by dsimp only; omega, by dsimp only; rw [htake]; exact hin2.pass (by omega), ⟨hwl2, hwt2⟩, hqv2, hsv2, hwv2, hkv2, hg6, hμ2⟩ (by exact ⟨rfl, rfl, rfl, rfl, rfl, rfl, rfl, rfl, trivial⟩) rfl (List.Sublist.refl _)
  have y2 : decide ((p.code.length : Int) ≤ (k : Int)) = false := decide_eq_false (by omega)
  have hl2 := hin2.len
  obtain ⟨s, hs⟩ : ∃ s, l2[k]? = some s := ⟨_, List.getElem?_eq_getElem (by omega)⟩
  have hws := hin2.wf s (List.mem_of_getElem? hs)
  have hvs : s.vars.length ≤ 1000 := by
    cases hr : s.reached with
    | false => rw [hws.bare hr]; simp
    | true => rw [hws.vars hr]; omega
  have hks := hws.high
  obtain ⟨VK, vk, SK, sk, hesk, hSk⟩ := Kd.rs_rep (hkv2.2 k s hs)
  have hR6 := hR4.mono (Gh.le_trans hg5 hg6)
  obtain ⟨rb, ro, hrr, hread⟩ := (Vec.rds hsv2 .here : Rds G6 [.blk tb (.cells c2 95 (0, 0))] (some ⟨tb, 0, none⟩) cs2).resolve_left (fun h => by have h1 := hkv2.1; rw [h] at h1; simp [Kd.rs] at h1; omega)
  cases hrr
  have v0' : (0 : Int) ≤ (k : Int) := by omega
  have v1' : (k : Int) < (p.code.length : Int) := by omega
  obtain ⟨sJ, hsJ⟩ : ∃ sJ, sJ = joinS s sB := ⟨_, rfl⟩
  have hwJ : sJ.wf p.locals.toNat := by rw [hsJ]; exact joinS_wf hws hwB
  have hvJ : sJ.vars.length ≤ 1000 := by
    cases hr : sJ.reached with
    | false => rw [hwJ.bare hr]; simp
    | true => rw [hwJ.vars hr]; omega
  have hkJ := hwJ.high
  refine go ?_
  refine WC.joinG (X := Gh × Option Addr × Nat × Option Addr × Nat × Nat) (fun t => [(2, .pointer (some ⟨b1, 0, none⟩)), (3, .pointer (some ⟨b2, 0, none⟩)), (5, .slice (some ⟨tb, 0, none⟩) p.code.length p.code.length), (7, .slice TA3 T2.length tc3), (8, .slice (some ⟨wb, 0, none⟩) p.code.length p.code.length), (10, .pointer (some ⟨b10, 0, none⟩)), (11, .slice (some ⟨xb', xo', none⟩) nx.length xcap), (12, .int .i64 (j : Int)), (13, .pointer (some ⟨t.2.2.2.2.2, 0, none⟩))]) (fun t => t.1)
    (fun t => [.blk t.2.2.2.2.2 (.cells (rsC sJ t.2.1 t.2.2.1 t.2.2.2.1 t.2.2.2.2.1) 95 (0, 0)), .blk b10 (.cells (rsC sB V1 v1 S1 s1) 95 (0, 0)), o3, .blk tb (.cells c2 95 (0, 0)), .blk wb (.cells wc2 4 (0, 0)), .blk b1 (.cells (wdC w CA NA PA cc nc pc) 143 (0, 0)), .blk b2 (.cells (prC p QA qc (some ⟨ib, io, none⟩) ic) 45 (0, 0))]) (fun t => G6.le t.1 ∧ SRep t.1 sJ t.2.1 t.2.2.1 t.2.2.2.1 t.2.2.2.2.1) ?_ fun t ht => ?_
  · refine WC.drawS (Hs := [.blk b10 (.cells (rsC sB V1 v1 S1 s1) 95 (0, 0)), .blk tb (.cells c2 95 (0, 0))]) mixed (by repeat (first | exact Pk.nil | exact Pk.all | exact Pk.app | exact Pk.appR | with_reducible apply Pk.na | (apply Pk.cons; (repeat first | exact .here | apply Rem.there | apply Rem.app)) | apply Pk.skip | apply Pk.skipA)) ?_
    refine WB.tp (i := 0) rfl (by kernel_rfl) (by kernel_rfl) rfl (Gp.move rfl) ?_
    refine WB.tp (i := 1) rfl (by kernel_rfl) (by kernel_rfl) rfl (Gp.move rfl) ?_
    refine WB.tp (i := 2) rfl (by kernel_rfl) (by kernel_rfl) rfl (Gp.move rfl) ?_
    refine WB.tp (i := 3) rfl (by kernel_rfl) (by kernel_rfl) rfl (Gp.indexAddr rfl rfl (by first | assumption | omega | decide) (by first | assumption | omega | decide | (simp only [List.length_cons, List.length_nil]; decide))) ?_
    refine WB.tv (i := 4) rfl (by kernel_rfl) (by kernel_rfl) rfl (Gv.loadG1 (i := 0) rfl hxc6 rfl) ?_
    refine WB.tp (i := 5) rfl (by kernel_rfl) (by kernel_rfl) rfl (Gp.indexAddr rfl rfl (by first | assumption | omega | decide) (by first | assumption | omega | decide | (simp only [List.length_cons, List.length_nil]; decide))) ?_
    refine WB.tv (i := 6) rfl (by kernel_rfl) (by kernel_rfl) rfl (Gv.loadRN (i := ((k : Nat) : Int).toNat * 4) rfl hread (List.sublist_cons_self _ _) hesk rfl) ?_
    (first | (refine WB.tv (i := 7) rfl (by kernel_rfl) (by kernel_rfl) rfl (Gv.load1 rfl (by (repeat first | exact .here | apply At.there)) (by first | rfl | assumption)) ?_) | (refine WB.tv (i := 7) rfl (by kernel_rfl) (by kernel_rfl) rfl (Gv.loadN rfl (by (repeat first | exact .here | apply At.there)) (by rfl) (by rfl)) ?_) | (refine WB.tv (i := 7) rfl (by kernel_rfl) (by kernel_rfl) rfl (Gv.loadG1 rfl (by assumption) rfl) ?_) | (refine WB.tv (i := 7) rfl (by kernel_rfl) (by kernel_rfl) rfl (Gv.loadG0 rfl (by assumption) rfl) ?_) | (refine WB.tv (i := 7) rfl (by kernel_rfl) (by kernel_rfl) rfl (Gv.loadGN rfl (by assumption) rfl) ?_))
    have hjf := rjoin_fn G6 s sB VK V1 vk v1 SK S1 sk s1 hSk hR6 (fun h1 h2 => by rw [hws.vars h1, hwB.vars h2]) (by omega) (by omega)
    rw [← hsJ] at hjf
    refine WB.two (i := 8) (j := 9) (by kernel_rfl) rfl rfl (by kernel_rfl) (by kernel_rfl) (OW.callK rfl hjf rfl fun v' G' H' h hg => ?_) (OW.alloc rfl fun b13 => ?_)
    · obtain ⟨V2, v2, S2, s2, he, hg7, hR7, rfl⟩ := h
      cases he
      refine ⟨fun w hw => (hw.pk (by repeat (first | exact Pk.nil | exact Pk.all | exact Pk.app | exact Pk.appR | with_reducible apply Pk.na | (apply Pk.cons; (repeat first | exact .here | apply Rem.there | apply Rem.app)) | apply Pk.skip | apply Pk.skipA))).le hg7, ?_⟩
      refine WB.one (i := 9) (by kernel_rfl) rfl (by kernel_rfl) (OW.alloc rfl fun b13 => ?_)
      refine ⟨fun w hw => (hw.pk (by repeat (first | exact Pk.nil | exact Pk.all | exact Pk.app | exact Pk.appR | with_reducible apply Pk.na | (apply Pk.cons; (repeat first | exact .here | apply Rem.there | apply Rem.app)) | apply Pk.skip | apply Pk.skipA))).le hg7, ?_⟩
      refine WB.one (i := 10) (by kernel_rfl) rfl (by kernel_rfl) (OW.store rfl rfl (by (repeat first | exact .here | apply At.there)) rfl (by rfl) (by rfl) (by kernel_rfl) (by rfl) ?_ rfl)
      refine ⟨fun w hw => (hw.pk (by repeat (first | exact Pk.nil | exact Pk.all | exact Pk.app | exact Pk.appR | with_reducible apply Pk.na | (apply Pk.cons; (repeat first | exact .here | apply Rem.there | apply Rem.app)) | apply Pk.skip | apply Pk.skipA))).le hg7, ?_⟩
      refine WB.done (by kernel_rfl) ?_
      refine WK.un ?_
      refine WK.pick [.blk b13 (.cells (rsC sJ V2 v2 S2 s2) 95 (0, 0)), .blk b10 (.cells (rsC sB V1 v1 S1 s1) 95 (0, 0)), o3, .blk tb (.cells c2 95 (0, 0)), .blk wb (.cells wc2 4 (0, 0)), .blk b1 (.cells (wdC w CA NA PA cc nc pc) 143 (0, 0)), .blk b2 (.cells (prC p QA qc (some ⟨ib, io, none⟩) ic) 45 (0, 0))] ?_
      exact WK.meet (G', V2, v2, S2, s2, b13) ⟨hg7, hR7⟩ (by exact ⟨rfl, rfl, rfl, rfl, rfl, rfl, rfl, rfl, rfl, trivial⟩) rfl (List.Sublist.refl _)
    · refine ⟨fun w hw => hw.pk (by repeat (first | exact Pk.nil | exact Pk.all | exact Pk.app | exact Pk.appR | with_reducible apply Pk.na | (apply Pk.cons; (repeat first | exact .here | apply Rem.there | apply Rem.app)) | apply Pk.skip | apply Pk.skipA)), ?_⟩
      refine WB.one (i := 8) (by kernel_rfl) rfl (by kernel_rfl) (OW.callK rfl hjf rfl fun v' G' H' h hg => ?_)
      obtain ⟨V2, v2, S2, s2, he, hg7, hR7, rfl⟩ := h
      cases he
      refine ⟨fun w hw => (hw.pk (by repeat (first | exact Pk.nil | exact Pk.all | exact Pk.app | exact Pk.appR | with_reducible apply Pk.na | (apply Pk.cons; (repeat first | exact .here | apply Rem.there | apply Rem.app)) | apply Pk.skip | apply Pk.skipA))).le hg7, ?_⟩
      refine WB.one (i := 10) (by kernel_rfl) rfl (by kernel_rfl) (OW.store rfl rfl (by (repeat first | exact .here | apply At.there)) rfl (by rfl) (by rfl) (by kernel_rfl) (by rfl) ?_ rfl)
      refine ⟨fun w hw => (hw.pk (by repeat (first | exact Pk.nil | exact Pk.all | exact Pk.app | exact Pk.appR | with_reducible apply Pk.na | (apply Pk.cons; (repeat first | exact .here | apply Rem.there | apply Rem.app)) | apply Pk.skip | apply Pk.skipA))).le hg7, ?_⟩
      refine WB.done (by kernel_rfl) ?_
      refine WK.un ?_
      refine WK.pick [.blk b13 (.cells (rsC sJ V2 v2 S2 s2) 95 (0, 0)), .blk b10 (.cells (rsC sB V1 v1 S1 s1) 95 (0, 0)), o3, .blk tb (.cells c2 95 (0, 0)), .blk wb (.cells wc2 4 (0, 0)), .blk b1 (.cells (wdC w CA NA PA cc nc pc) 143 (0, 0)), .blk b2 (.cells (prC p QA qc (some ⟨ib, io, none⟩) ic) 45 (0, 0))] ?_
      exact WK.meet (G', V2, v2, S2, s2, b13) ⟨hg7, hR7⟩ (by exact ⟨rfl, rfl, rfl, rfl, rfl, rfl, rfl, rfl, rfl, trivial⟩) rfl (List.Sublist.refl _)
  obtain ⟨G7, V2, v2, S2, s2, b13⟩ := t
  obtain ⟨hg7, hR7⟩ := ht
  dsimp only at hg7 hR7
  have hread7 : ∀ w, Sat G7 [.blk tb (.cells c2 95 (0, 0))] w → ∀ j v, cs2[j]? = some v → w.cell? ⟨tb, 0 + j, none⟩ = some v := fun w hw => hread w (hw.le hg7)
  have hSk7 := hSk.mono hg7
  have hxc7 := hxc6.mono hg7
  have hsf := ralike_fn G7 sJ s V2 VK v2 vk S2 SK s2 sk hR7 hSk7 (by omega) (by omega)
  refine gom ?_
  refine WQ.tv (Gv.loadRN (i := ((k : Nat) : Int).toNat * 4) rfl hread7 (.cons _ (.cons _ (.cons _ (.cons_cons _ (List.nil_sublist _))))) hesk rfl) (by kernel_rfl) (by kernel_rfl) rfl ?_
  refine WQ.one (by kernel_rfl) (by kernel_rfl) (OW.callK rfl (hsf) rfl fun v' G' H' h hg => ?_)
  obtain ⟨he, rfl, rfl⟩ := h
  cases he
  by_cases heq : sJ = s
  · rw [decide_eq_true heq]
    refine gom ?_
    refine WK.pick [.blk b10 (.cells (rsC sB V1 v1 S1 s1) 95 (0, 0)), o3, .blk tb (.cells c2 95 (0, 0)), .blk wb (.cells wc2 4 (0, 0)), .blk b1 (.cells (wdC w CA NA PA cc nc pc) 143 (0, 0)), .blk b2 (.cells (prC p QA qc (some ⟨ib, io, none⟩) ic) 45 (0, 0))] ?_
    exact WK.again (j + 1, ⟨l2, T2, ws2, G7, cs2, c2, TA3, tc3, o3, wc2⟩) (by dsimp only; omega) ⟨by dsimp only; omega, by dsimp only; rw [htake]; exact hin2.same hs (by rw [← hsB, ← hsJ]; exact heq), ⟨hwl2, hwt2⟩, hqv2, hsv2, hwv2, hkv2.mono hg7, Gh.le_trans hg6 hg7, hμ2⟩ (by exact ⟨rfl, rfl, rfl, rfl, rfl, rfl, rfl, rfl, trivial⟩) rfl (List.Sublist.refl _)
  rw [decide_eq_false heq]
  refine WQ.done (by kernel_rfl) ?_
  refine go ?_
  obtain ⟨_, hfitK, hputK⟩ := Vec.put hsv2 (show k < p.code.length by omega) (rsL sJ V2 v2 S2 s2) rfl
  have hfitK' : k * 4 + 4 ≤ c2.size := hfitK
  have hbleK : Nat.ble (0 + ((k : Nat) : Int).toNat * 4 + 4) c2.size = true := Nat.ble_eq_true_of_le (by omega)
  have hkv9 := KV.set (k := Kd.rs) (hkv2.mono hg7) hR7.rd (i := k) (by omega)
  have hne : joinS s (behR w (ic1, (nn : Int)) s0) ≠ s := by rw [← hsB, ← hsJ]; exact heq
  have hrise := hin2.rises hs hne
  rw [← hsB, ← hsJ] at hrise
  have ek : 0 + ((k : Nat) : Int).toNat * 4 = k * 4 := by omega
  have ek1 : 0 + ((k : Nat) : Int).toNat * 1 = k := by omega
  rw [← ek] at hputK
  refine WC.draw mixed ?_
  refine WA.tp (i := 0) rfl (by kernel_rfl) (by kernel_rfl) rfl (Gp.move rfl) ?_
  refine WA.tp (i := 1) rfl (by kernel_rfl) (by kernel_rfl) rfl (Gp.move rfl) ?_
  refine WA.tp (i := 2) rfl (by kernel_rfl) (by kernel_rfl) rfl (Gp.move rfl) ?_
  refine WA.tp (i := 3) rfl (by kernel_rfl) (by kernel_rfl) rfl (Gp.indexAddr rfl rfl (by first | assumption | omega | decide) (by first | assumption | omega | decide | (simp only [List.length_cons, List.length_nil]; decide))) ?_
  refine WA.tv (i := 4) rfl (by kernel_rfl) (by kernel_rfl) rfl (Gv.loadG1 (i := 0) rfl hxc7 rfl) ?_
  (first | (refine WA.tv (i := 5) rfl (by kernel_rfl) (by kernel_rfl) rfl (Gv.load1 rfl (by (repeat first | exact .here | apply At.there)) (by first | rfl | assumption)) ?_) | (refine WA.tv (i := 5) rfl (by kernel_rfl) (by kernel_rfl) rfl (Gv.loadN rfl (by (repeat first | exact .here | apply At.there)) (by rfl) (by rfl)) ?_) | (refine WA.tv (i := 5) rfl (by kernel_rfl) (by kernel_rfl) rfl (Gv.loadG1 rfl (by assumption) rfl) ?_) | (refine WA.tv (i := 5) rfl (by kernel_rfl) (by kernel_rfl) rfl (Gv.loadG0 rfl (by assumption) rfl) ?_) | (refine WA.tv (i := 5) rfl (by kernel_rfl) (by kernel_rfl) rfl (Gv.loadGN rfl (by assumption) rfl) ?_))
  refine WA.tp (i := 6) rfl (by kernel_rfl) (by kernel_rfl) rfl (Gp.indexAddr rfl rfl (by first | assumption | omega | decide) (by first | assumption | omega | decide | (simp only [List.length_cons, List.length_nil]; decide))) ?_
  refine WA.one (i := 7) (by kernel_rfl) rfl (by kernel_rfl) (OW.store (n := 4) (cs := rsL sJ V2 v2 S2 s2) rfl rfl (by (repeat first | exact .here | apply At.there)) rfl rfl rfl hbleK rfl ?_ rfl)
  refine WA.done (by kernel_rfl) ?_
  refine WK.un ?_
  obtain ⟨bk, hbk⟩ : ∃ bk, ws2[k]? = some bk := ⟨_, List.getElem?_eq_getElem (by omega)⟩
  have hwg : wc2[0 + ((k : Nat) : Int).toNat * 1]? = some (.bool bk) := hwv2.get (by rw [ek1]; exact hbk)
  cases bk with
  | true =>
    have hkT := hwt2 k hbk
    have hturn := hin2.turn (T' := T2) hxm hs (fun x => ⟨.inl, fun h => h.elim id fun e => by rw [e]; exact hkT⟩)
    rw [← hsB, ← hsJ] at hturn
    refine gom ?_
    refine WK.pick [.blk b10 (.cells (rsC sB V1 v1 S1 s1) 95 (0, 0)), o3, .blk tb (.cells (splice c2 (0 + ((k : Nat) : Int).toNat * 4) (rsL sJ V2 v2 S2 s2)) 95 (0, 0)), .blk wb (.cells wc2 4 (0, 0)), .blk b1 (.cells (wdC w CA NA PA cc nc pc) 143 (0, 0)), .blk b2 (.cells (prC p QA qc (some ⟨ib, io, none⟩) ic) 45 (0, 0))] ?_
    exact WK.again (j + 1, ⟨l2.set k sJ, T2, ws2, G7, _, _, TA3, tc3, o3, wc2⟩) (by dsimp only; omega) ⟨by dsimp only; omega, by dsimp only; rw [htake]; exact hturn, ⟨hwl2, hwt2⟩, hqv2, hputK, hwv2, by dsimp only; rw [ek]; exact hkv9, Gh.le_trans hg6 hg7, by dsimp only; omega⟩ (by exact ⟨rfl, rfl, rfl, rfl, rfl, rfl, rfl, rfl, trivial⟩) rfl (List.Sublist.refl _)
  | false =>
    have hturn := hin2.turn (T' := T2 ++ [(k : Int)]) hxm hs (fun x => by simp)
    rw [← hsB, ← hsJ] at hturn
    obtain ⟨hfk, hwv3⟩ := hwv2.put (i := 0 + ((k : Nat) : Int).toNat * 1) (by omega) true
    have hblek : Nat.ble (0 + ((k : Nat) : Int).toNat * 1 + 1) wc2.size = true := Nat.ble_eq_true_of_le hfk
    have hwl3 : (ws2.set (0 + ((k : Nat) : Int).toNat * 1) true).length = p.code.length := by rw [List.length_set, hwl2]
    have hwt3 : ∀ m : Nat, (ws2.set (0 + ((k : Nat) : Int).toNat * 1) true)[m]? = some true → (m : Int) ∈ T2 ++ [(k : Int)] := fun m hm => by
      rw [ek1, List.getElem?_set] at hm
      split at hm
      · rename_i h; subst h; simp
      · exact List.mem_append_left _ (hwt2 m hm)
    rw [hTl] at hsum
    refine gom ?_
    refine WL.op (by kernel_rfl) (OW.buildSlice rfl (by kernel_rfl) (by kernel_rfl) (by rfl) rfl fun b40 => ?_)
    refine WL.op (by kernel_rfl) (OW.append rfl rfl (by kernel_rfl) (by kernel_rfl) hqv2 (by (repeat first | exact .here | apply At.there)) (Rds.blk0 (cs := [.int .i64 (k : Int)]) (by (repeat first | exact .here | apply At.there)) rfl) rfl rfl (by first | omega | (dsimp only; omega)) (by first | omega | (dsimp only; omega)) rfl fun A9 c9 o9 hv9 => ?_)
    have hq9 := QVec.snoc hv9
    have hl9 : T2.length + 1 = (T2 ++ [(k : Int)]).length := by rw [List.length_append]; rfl
    refine gom ?_
    refine WK.pick [.blk b10 (.cells (rsC sB V1 v1 S1 s1) 95 (0, 0)), o9, .blk tb (.cells (splice c2 (0 + ((k : Nat) : Int).toNat * 4) (rsL sJ V2 v2 S2 s2)) 95 (0, 0)), .blk wb (.cells (splice wc2 (0 + ((k : Nat) : Int).toNat * 1) [.bool true]) 4 (0, 0)), .blk b1 (.cells (wdC w CA NA PA cc nc pc) 143 (0, 0)), .blk b2 (.cells (prC p QA qc (some ⟨ib, io, none⟩) ic) 45 (0, 0))] ?_
    exact WK.again (j + 1, ⟨l2.set k sJ, T2 ++ [(k : Int)], ws2.set (0 + ((k : Nat) : Int).toNat * 1) true, G7, _, _, A9, c9, o9, _⟩) (by dsimp only; omega) ⟨by dsimp only; omega, by dsimp only; rw [htake]; exact hturn, ⟨hwl3, hwt3⟩, hq9, hputK, hwv3, by dsimp only; rw [ek]; exact hkv9, Gh.le_trans hg6 hg7, by dsimp only; rw [← hl9]; omega⟩ (by exact ⟨rfl, rfl, rfl, by show _ = some (Value.slice A9 _ c9); rw [← hl9]; rfl, rfl, rfl, rfl, rfl, trivial⟩) rfl (List.Sublist.refl _)
end
end Go.Proofs.YtkmigdmdppkpoaaGreatDoor.Gb
namespace Go.Proofs.YtkmigdmdppkpoaaGreatDoor.Gb
open Go Go.Proofs Go.MapKept
set_option linter.unusedVariables false
set_option linter.unusedSimpArgs false
set_option linter.unusedSectionVars false
attribute [local irreducible] Tryz.prog
noncomputable def prOut (w : Wd) (p : Pr) : Int × Int :=
  if procR p = false then (0, 185)
  else if (firstR p.code.length (aloneAt w p)).2 ≠ 0 then firstR p.code.length (aloneAt w p)
  else wrongR w p (flowOf w p)
section
variable (G : Gh) (w : Wd) (p : Pr) (CA NA PA : Option Addr) (cc nc pc : Nat) (hW : RWp G w CA NA PA) (QA IA : Option Addr) (qc ic : Nat) (hQ : Sl (Kd.int .i64) G QA p.params) (hI : Sl Kd.ins G IA p.code) (hnl : p.name.size ≤ 100000000000000) (hql : p.params.length ≤ 100000000000000)
include hW hQ hI hnl hql
set_option maxHeartbeats 4000000 in
theorem rproc_fn :
    Fn Tryz.prog 100 #[.agg (wdC w CA NA PA cc nc pc), .agg (prC p QA qc IA ic)] G []
      fun e G' H' => e = .returned (.tuple #[.int .i64 (prOut w p).1, .int .i64 (prOut w p).2]) ∧ G.le G' ∧ H' = [] := by
  refine Fn.enter Tryz.func100 rfl rfl fun w0 => ?_
  refine WC.seq ?_
  refine WC.region ?_
  refine WL.op (by kernel_rfl) (OW.box rfl rfl fun b1 => ?_)
  refine WL.op (by kernel_rfl) (OW.box rfl rfl fun b2 => ?_)
  refine gom ?_
  refine WL.op (by kernel_rfl) (OW.callK rfl (rWord_fn G p.name hnl) rfl fun v' G' H' h hg => ?_)
  obtain ⟨he, hg1, rfl⟩ := h
  cases he
  clear hg
  obtain ⟨G1, rfl⟩ : ∃ G1, G1 = G' := ⟨_, rfl⟩
  cases h1 : wordR p.name with
  | false =>
    have hr : prOut w p = (0, 185) := by unfold prOut; rw [if_pos (by rw [procR, h1, Bool.false_and])]
    rw [hr]
    refine gom ?_
    refine WC.ret ?_
    refine WK.un ?_
    exact QF.p2 (.inl rfl) rfl (.tmp rfl) (.tmp rfl) (⟨rfl, hg1, rfl⟩)
  | true =>
  refine gom ?_
  refine WL.op (by kernel_rfl) (OW.callK rfl (rhead_fn G1 QA p.params qc p.result (hQ.mono hg1) hql) rfl fun v' G' H' h hg => ?_)
  obtain ⟨he, rfl, rfl⟩ := h
  cases he
  cases h2 : headR p.params p.result with
  | false =>
    have hr : prOut w p = (0, 185) := by unfold prOut; rw [if_pos (by rw [procR, h1, h2]; rfl)]
    rw [hr]
    refine gom ?_
    refine WC.ret ?_
    refine WK.un ?_
    exact QF.p2 (.inl rfl) rfl (.tmp rfl) (.tmp rfl) (⟨rfl, hg1, rfl⟩)
  | true =>
  cases h3 : decide ((p.params.length : Int) ≤ p.locals) with
  | false =>
    have hr : prOut w p = (0, 185) := by unfold prOut; rw [if_pos (by rw [procR, h1, h2, h3]; rfl)]
    rw [hr]
    have y3 := dgt h3
    refine gom ?_
    refine WC.ret ?_
    refine WK.un ?_
    exact QF.p2 (.inl rfl) rfl (.tmp rfl) (.tmp rfl) (⟨rfl, hg1, rfl⟩)
  | true =>
  have y3 := dgt h3
  cases h4 : decide (p.locals ≤ 64) with
  | false =>
    have hr : prOut w p = (0, 185) := by unfold prOut; rw [if_pos (by rw [procR, h1, h2, h3, h4]; rfl)]
    rw [hr]
    have y4 := dgt h4
    refine gom ?_
    refine WC.ret ?_
    refine WK.un ?_
    exact QF.p2 (.inl rfl) rfl (.tmp rfl) (.tmp rfl) (⟨rfl, hg1, rfl⟩)
  | true =>
  have y4 := dgt h4
  cases h5 : decide (1 ≤ (p.code.length : Int)) with
  | false =>
    have hr : prOut w p = (0, 185) := by unfold prOut; rw [if_pos (by rw [procR, h1, h2, h3, h4, h5]; rfl)]
    rw [hr]
    have y5 := dgt h5
    refine gom ?_
    refine WC.ret ?_
    refine WK.un ?_
    exact QF.p2 (.inl rfl) rfl (.tmp rfl) (.tmp rfl) (⟨rfl, hg1, rfl⟩)
  | true =>
  have y5 := dgt h5
  cases h6 : decide ((p.code.length : Int) ≤ 16384) with
  | false =>
    have hr : prOut w p = (0, 185) := by unfold prOut; rw [if_pos (by rw [procR, h1, h2, h3, h4, h5, h6]; rfl)]
    rw [hr]
    have y6 := dgt h6
    refine gom ?_
    refine WC.ret ?_
    refine WK.un ?_
    exact QF.p2 (.inl rfl) rfl (.tmp rfl) (.tmp rfl) (⟨rfl, hg1, rfl⟩)
  | true =>
  have y6 := dgt h6
  have hpr : procR p = true := by rw [procR, h1, h2, h3, h4, h5, h6]; rfl
  have hfew := (procR_head hpr).2.2.2
  refine gom ?_
  refine WC.pick [.blk b1 (.cells (wdC w CA NA PA cc nc pc) 143 (0, 0)), .blk b2 (.cells (prC p QA qc IA ic) 45 (0, 0))] ?_
  refine WC.loop (X := Nat) (fun j => [(2, .pointer (some ⟨b1, 0, none⟩)), (3, .pointer (some ⟨b2, 0, none⟩)), (6, .int .i64 (j : Int))]) (fun _ => G1) (fun _ => [.blk b1 (.cells (wdC w CA NA PA cc nc pc) 143 (0, 0)), .blk b2 (.cells (prC p QA qc IA ic) 45 (0, 0))])
    (fun j => p.code.length - j) (fun j => j ≤ p.code.length ∧ ∀ k : Nat, k < j → aloneAt w p k = 0) 0 ⟨Nat.zero_le _, fun k h => absurd h (Nat.not_lt_zero _)⟩ (by exact ⟨rfl, rfl, rfl, trivial⟩) rfl (List.Sublist.refl _) fun j hj => ?_
  obtain ⟨hj, hall⟩ := hj
  by_cases hlt : j < p.code.length
  · have e2 : decide ((j : Int) < (p.code.length : Int)) = true := decide_eq_true (by omega)
    obtain ⟨i, hi⟩ : ∃ i, p.code[j]? = some i := ⟨_, List.getElem?_eq_getElem hlt⟩
    obtain ⟨ib, io, ics, rfl, hik, hic⟩ := (hI.mono hg1) j _ hi
    obtain rfl : ics = [.int .i64 i.1, .int .i64 i.2] := hik
    have x0 : (0 : Int) ≤ (j : Int) := by omega
    have x1 : (j : Int) < (p.code.length : Int) := by omega
    have x2 := wrapS j (by omega)
    have haa : aloneAt w p j = itsR w p i.1 i.2 := by unfold aloneAt; rw [hi, itsR_eq hfew]
    refine gom ?_
    refine WQ.one (by kernel_rfl) (by kernel_rfl) (OW.callK rfl (ritself_fn G1 w p CA NA PA cc nc pc QA (some ⟨ib, io, none⟩) qc ic i.1 i.2) rfl fun v' G' H' h hg => ?_)
    obtain ⟨he, rfl, rfl⟩ := h
    cases he
    rw [← haa]
    by_cases ha : aloneAt w p j = 0
    · have e4 : (aloneAt w p j != 0) = false := by simpa using ha
      refine gom ?_
      refine WK.pick [.blk b1 (.cells (wdC w CA NA PA cc nc pc) 143 (0, 0)), .blk b2 (.cells (prC p QA qc (some ⟨ib, io, none⟩) ic) 45 (0, 0))] ?_
      exact WK.again (j + 1) (by omega) ⟨by omega, fun k hk => by
        rcases Nat.lt_or_ge k j with h | h
        · exact hall k h
        · obtain rfl : k = j := by omega
          exact ha⟩ (by exact ⟨rfl, rfl, rfl, trivial⟩) rfl (List.Sublist.refl _)
    · have e4 : (aloneAt w p j != 0) = true := by simpa using ha
      have hf : firstR p.code.length (aloneAt w p) = ((j : Int), aloneAt w p j) := firstR_at hlt hall ha
      have hr : prOut w p = ((j : Int), aloneAt w p j) := by unfold prOut; rw [if_neg (by rw [hpr]; simp), hf, if_pos ha]
      rw [hr]
      refine gom ?_
      refine WC.ret ?_
      refine WK.un ?_
      exact QF.p2 (.inl rfl) rfl (.tmp rfl) (.tmp rfl) (⟨rfl, hg1, rfl⟩)
  have e2 : decide ((j : Int) < (p.code.length : Int)) = false := decide_eq_false (by omega)
  have hf : firstR p.code.length (aloneAt w p) = (0, 0) := firstR_none fun k hk => hall k (by omega)
  have hpo : POk w p := pok_of hpr fun k i hi => by
    have := hall k (by have := (List.getElem?_eq_some_iff.1 hi).1; omega)
    unfold aloneAt at this; rw [hi] at this; exact this
  refine gom ?_
  refine WL.op (by kernel_rfl) (OW.callK rfl (rStates_fn G1 w p CA NA PA cc nc pc (hW.mono hg1) QA IA qc ic (hQ.mono hg1) (hI.mono hg1) hpo) rfl fun v' G' H' h hg => ?_)
  obtain ⟨TA, tc, l, he, hg2, hT, htc, hle, rfl⟩ := h
  cases he
  clear hg
  obtain ⟨G2, rfl⟩ : ∃ G2, G2 = G' := ⟨_, rfl⟩
  have hcl := hle.closed
  have hll := hcl.len
  have hr : prOut w p = wrongR w p l := by unfold prOut; rw [if_neg (by rw [hpr]; simp), hf, if_neg (by simp), hle.flow]
  have hg12 := Gh.le_trans hg1 hg2
  rw [hr]
  refine gom ?_
  refine WC.pick [.blk b1 (.cells (wdC w CA NA PA cc nc pc) 143 (0, 0)), .blk b2 (.cells (prC p QA qc IA ic) 45 (0, 0))] ?_
  refine WC.loop (X := Nat × Gh) (fun x => [(2, .pointer (some ⟨b1, 0, none⟩)), (3, .pointer (some ⟨b2, 0, none⟩)), (8, .slice TA l.length tc), (9, .int .i64 (x.1 : Int))]) (fun x => x.2) (fun _ => [.blk b1 (.cells (wdC w CA NA PA cc nc pc) 143 (0, 0)), .blk b2 (.cells (prC p QA qc IA ic) 45 (0, 0))])
    (fun x => l.length - x.1) (fun x => x.1 ≤ l.length ∧ G2.le x.2 ∧ ∀ k : Nat, k < x.1 → badAt w p l k = 0) (0, G2) ⟨Nat.zero_le _, Gh.le_refl _, fun k h => absurd h (Nat.not_lt_zero _)⟩ (by exact ⟨rfl, rfl, rfl, rfl, trivial⟩) rfl (List.Sublist.refl _) fun x hx => ?_
  obtain ⟨k, G3⟩ := x
  obtain ⟨hk, hg3, hall2⟩ := hx
  dsimp only at hk hg3 hall2
  by_cases hlt2 : k < l.length
  rotate_left
  · have e3 : decide ((k : Int) < (p.code.length : Int)) = false := decide_eq_false (by omega)
    rw [show wrongR w p l = (0, 0) from firstR_none fun j hj => hall2 j (by omega)]
    refine gom ?_
    refine WC.ret ?_
    refine WK.un ?_
    exact QF.p2 (.inl rfl) rfl (.tmp rfl) (.tmp rfl) (⟨rfl, Gh.le_trans hg12 hg3, rfl⟩)
  have e3 : decide ((k : Int) < (p.code.length : Int)) = true := decide_eq_true (by omega)
  obtain ⟨s, hs⟩ : ∃ s, l[k]? = some s := ⟨_, List.getElem?_eq_getElem hlt2⟩
  obtain ⟨i, hi⟩ : ∃ i, p.code[k]? = some i := ⟨_, List.getElem?_eq_getElem (by omega)⟩
  obtain ⟨hi0, hiE⟩ := hpo.ins k i hi
  obtain ⟨ic1, in1⟩ := i
  obtain ⟨nn, rfl⟩ : ∃ nn : Nat, in1 = nn := ⟨in1.toNat, by dsimp only at hi0; omega⟩
  dsimp only at hiE
  rw [Int.toNat_natCast] at hiE
  have hws := hcl.wf s (List.mem_of_getElem? hs)
  have hloc := hpo.loc
  have hvs : s.vars.length ≤ 1000 := by
    cases hr : s.reached with
    | false => rw [hws.bare hr]; simp
    | true => rw [hws.vars hr]; omega
  have hks := hws.high
  obtain ⟨sb, so, scs, rfl, hsk, hsc⟩ := (hT.mono hg3) k s hs
  obtain ⟨VA, vc, SA, sc, rfl, hS⟩ := Kd.rs_rep hsk
  have x0 : (0 : Int) ≤ (k : Int) := by omega
  have x1 : (k : Int) < (l.length : Int) := by omega
  have x2 := wrapS k (by omega)
  have hmf := rmet_fn G3 w p CA NA PA cc nc pc (hW.mono (Gh.le_trans hg12 hg3)) QA IA qc ic (hI.mono (Gh.le_trans hg12 hg3)) (by omega) s VA vc SA sc hS (by omega) (by omega) k (by omega) ic1 nn hi (fun hr => by rw [hws.vars hr]; exact hiE)
  have hba : badAt w p l k = (if s.reached = true then metR w p k (ic1, (nn : Int)) s else 0) := by unfold badAt; rw [hs, hi]
  rw [← hba] at hmf
  refine gom ?_
  refine WQ.one (by kernel_rfl) (by kernel_rfl) (OW.callK rfl (hmf) rfl fun v' G' H' h hg => ?_)
  obtain ⟨he, hg4, rfl⟩ := h
  cases he
  by_cases hb : badAt w p l k = 0
  · have e4 : (badAt w p l k != 0) = false := by simpa using hb
    refine gom ?_
    refine WK.pick [.blk b1 (.cells (wdC w CA NA PA cc nc pc) 143 (0, 0)), .blk b2 (.cells (prC p QA qc IA ic) 45 (0, 0))] ?_
    exact WK.again (k + 1, _) (by dsimp only; omega) ⟨by dsimp only; omega, Gh.le_trans hg3 hg4, fun j hj => by
      rcases Nat.lt_or_ge j k with h | h
      · exact hall2 j h
      · obtain rfl : j = k := by dsimp only at hj; omega
        exact hb⟩ (by exact ⟨rfl, rfl, rfl, rfl, trivial⟩) rfl (List.Sublist.refl _)
  · have e4 : (badAt w p l k != 0) = true := by simpa using hb
    rw [show wrongR w p l = ((k : Int), badAt w p l k) from firstR_at hlt2 hall2 hb]
    refine gom ?_
    refine WC.ret ?_
    refine WK.un ?_
    exact QF.p2 (.inl rfl) rfl (.tmp rfl) (.tmp rfl) (⟨rfl, Gh.le_trans hg12 (Gh.le_trans hg3 hg4), rfl⟩)
end
end Go.Proofs.YtkmigdmdppkpoaaGreatDoor.Gb
namespace Go.Proofs.YtkmigdmdppkpoaaGreatDoor.Gb
open Go Go.Proofs Go.MapKept
set_option linter.unusedVariables false
set_option linter.unusedSimpArgs false
set_option linter.unusedSectionVars false
attribute [local irreducible] Tryz.prog
theorem RWp.ofO {G : Gh} {o : Ob} {CA NA PA : Option Addr} (hO : ORep G o CA NA PA) (hL : OLim o) : RWp G o.wd CA NA PA :=
  ⟨hO.consts, hO.needs, hO.procs, hL.cl, hL.nl, hL.pl, fun q hq => (hL.nd q hq).1, fun q hq => (hL.pr q hq).1⟩
theorem procOut_new {w : Wd} {seen : List ByteArray} {p : Pr} (h : p.name ∉ seen) : procOut w seen p = prOut w p := by
  unfold procOut prOut
  by_cases hp : procR p = false
  · rw [if_pos (.inl hp), if_pos hp]
  · rw [if_neg (fun h' => h'.elim hp h), if_neg hp]
section
variable (G : Gh) (o : Ob) (CA NA PA : Option Addr) (cc nc pc : Nat) (hO : ORep G o CA NA PA) (hL : OLim o)
include hO hL
set_option maxHeartbeats 4000000 in
theorem rObject_fn : Fn Tryz.prog 68 #[.agg (obC o CA NA PA cc nc pc)] G [] fun e G' H' => e = .returned (.tuple #[.agg #[.int .i64 (objAns o).1, .int .i64 (objAns o).2.1], .int .i64 (objAns o).2.2]) ∧ G.le G' ∧ H' = [] := by
  have hcl := hL.cl
  have hnl := hL.nl
  have hpl := hL.pl
  have hpath := hL.path
  refine Fn.enter Tryz.func68 rfl rfl fun w0 => ?_
  refine WC.seq ?_
  refine WC.region ?_
  refine WL.op (by kernel_rfl) (OW.box rfl rfl fun b1 => ?_)
  refine WL.op (by kernel_rfl) (OW.alloc rfl fun b2 => ?_)
  refine gom ?_
  refine WL.op (by kernel_rfl) (OW.alloc rfl fun b4 => ?_)
  refine gom ?_
  refine WL.op (by kernel_rfl) (OW.callK rfl (rplace_fn G o.path (by omega)) rfl fun v' G' H' h hg => ?_)
  obtain ⟨he, hg1, rfl⟩ := h
  cases he
  clear hg
  obtain ⟨G1, rfl⟩ : ∃ G1, G1 = G' := ⟨_, rfl⟩
  cases h1 : fileR o.path with
  | false =>
    have hr : objAns o = (0, 0, 185) := by unfold objAns; rw [if_neg (by unfold objR; simp [h1])]
    rw [hr]
    refine gom ?_
    refine WC.ret ?_
    refine WK.un ?_
    exact QF.p2 (.inl rfl) rfl (.cell rfl inferInstance inferInstance (by (repeat first | exact .here | apply At.there)) rfl rfl) (.tmp rfl) (⟨rfl, hg1, rfl⟩)
  | true =>
  cases h3 : decide ((o.consts.length : Int) ≤ 4096) with
  | false =>
    have y3 := dgt h3
    have d3 := of_decide_eq_false h3
    have hr : objAns o = (0, 0, 185) := by
      unfold objAns
      rw [if_neg]
      unfold objR
      rw [h3]
      simp
    rw [hr]
    refine gom ?_
    refine WC.ret ?_
    refine WK.un ?_
    exact QF.p2 (.inl rfl) rfl (.cell rfl inferInstance inferInstance (by (repeat first | exact .here | apply At.there)) rfl rfl) (.tmp rfl) (⟨rfl, hg1, rfl⟩)
  | true =>
  have y3 := dgt h3
  cases h4 : decide ((o.needs.length : Int) ≤ 4096) with
  | false =>
    have y4 := dgt h4
    have d4 := of_decide_eq_false h4
    have hr : objAns o = (0, 0, 185) := by
      unfold objAns
      rw [if_neg]
      unfold objR
      rw [h4]
      simp
    rw [hr]
    refine gom ?_
    refine WC.ret ?_
    refine WK.un ?_
    exact QF.p2 (.inl rfl) rfl (.cell rfl inferInstance inferInstance (by (repeat first | exact .here | apply At.there)) rfl rfl) (.tmp rfl) (⟨rfl, hg1, rfl⟩)
  | true =>
  have y4 := dgt h4
  cases h5 : decide ((o.procs.length : Int) ≤ 128) with
  | false =>
    have y5 := dgt h5
    have d5 := of_decide_eq_false h5
    have hr : objAns o = (0, 0, 185) := by
      unfold objAns
      rw [if_neg]
      unfold objR
      rw [h5]
      simp
    rw [hr]
    refine gom ?_
    refine WC.ret ?_
    refine WK.un ?_
    exact QF.p2 (.inl rfl) rfl (.cell rfl inferInstance inferInstance (by (repeat first | exact .here | apply At.there)) rfl rfl) (.tmp rfl) (⟨rfl, hg1, rfl⟩)
  | true =>
  have y5 := dgt h5
  have d3 := of_decide_eq_true h3
  have d4 := of_decide_eq_true h4
  have d5 := of_decide_eq_true h5
  refine gom ?_
  refine WC.pick [.blk b1 (.cells (obC o CA NA PA cc nc pc) 26 (0, 0)), .blk b2 (.cells #[.int .i64 0, .int .i64 0] 39 (0, 0)), .blk b4 (.cells (wdC o.wd CA NA PA cc nc pc) 143 (0, 0))] ?_
  refine WC.loop (X := Nat × Gh) (fun x => [(1, .pointer (some ⟨b1, 0, none⟩)), (2, .pointer (some ⟨b2, 0, none⟩)), (4, .pointer (some ⟨b4, 0, none⟩)), (5, .int .i64 (x.1 : Int))]) (fun x => x.2) (fun _ => [.blk b1 (.cells (obC o CA NA PA cc nc pc) 26 (0, 0)), .blk b2 (.cells #[.int .i64 0, .int .i64 0] 39 (0, 0)), .blk b4 (.cells (wdC o.wd CA NA PA cc nc pc) 143 (0, 0))]) (fun x => o.consts.length - x.1)
    (fun x => x.1 ≤ o.consts.length ∧ G.le x.2 ∧ ∀ j y, j < x.1 → o.consts[j]? = some y → valueR y = true) (0, G1) ⟨Nat.zero_le _, hg1, fun j y h => absurd h (Nat.not_lt_zero _)⟩ (by exact ⟨rfl, rfl, rfl, rfl, trivial⟩) rfl (List.Sublist.refl _) fun x hx => ?_
  obtain ⟨i, G2⟩ := x
  obtain ⟨hi, hg2, hall⟩ := hx
  dsimp only at hi hg2 hall
  have x2 := wrapS i (by omega)
  by_cases hlt : i < o.consts.length
  · have e2 : decide ((i : Int) < (o.consts.length : Int)) = true := decide_eq_true (by omega)
    obtain ⟨v, hv⟩ : ∃ v, o.consts[i]? = some v := ⟨_, List.getElem?_eq_getElem hlt⟩
    obtain ⟨b, ofs, cs, rfl, hk, hcs⟩ := (hO.mono hg2).consts i v hv
    obtain rfl : cs = vcells v := hk
    have x0 : (0 : Int) ≤ (i : Int) := by omega
    have x1 : (i : Int) < (o.consts.length : Int) := by omega
    refine gom ?_
    refine WL.op (by kernel_rfl) (OW.callK rfl (rvalue_fn G2 v) rfl fun v' G' H' h hg => ?_)
    obtain ⟨he, rfl, rfl⟩ := h
    cases he
    cases h2 : valueR v with
    | true =>
      refine gom ?_
      refine WK.pick [.blk b1 (.cells (obC o (some ⟨b, ofs, none⟩) NA PA cc nc pc) 26 (0, 0)), .blk b2 (.cells #[.int .i64 0, .int .i64 0] 39 (0, 0)), .blk b4 (.cells (wdC o.wd (some ⟨b, ofs, none⟩) NA PA cc nc pc) 143 (0, 0))] ?_
      exact WK.again (i + 1, G2) (by dsimp only; omega) ⟨by dsimp only; omega, hg2, all_step hv hall h2⟩ (by exact ⟨rfl, rfl, rfl, rfl, trivial⟩) rfl (List.Sublist.refl _)
    | false =>
      have hr : objAns o = (0, 0, 185) := by
        unfold objAns
        rw [if_neg]
        unfold objR
        rw [all_not hv h2]
        simp
      rw [hr]
      refine gom ?_
      refine WC.ret ?_
      refine WK.un ?_
      exact QF.p2 (.inl rfl) rfl (.cell rfl inferInstance inferInstance (by (repeat first | exact .here | apply At.there)) rfl rfl) (.tmp rfl) (⟨rfl, hg2, rfl⟩)
  have e2 : decide ((i : Int) < (o.consts.length : Int)) = false := decide_eq_false (by omega)
  have hvals := all_of hall (by omega)
  refine gom ?_
  refine WC.pick [.blk b1 (.cells (obC o CA NA PA cc nc pc) 26 (0, 0)), .blk b2 (.cells #[.int .i64 0, .int .i64 0] 39 (0, 0)), .blk b4 (.cells (wdC o.wd CA NA PA cc nc pc) 143 (0, 0))] ?_
  refine WC.loop (X := Nat × Gh) (fun x => [(1, .pointer (some ⟨b1, 0, none⟩)), (2, .pointer (some ⟨b2, 0, none⟩)), (4, .pointer (some ⟨b4, 0, none⟩)), (6, .int .i64 (x.1 : Int))]) (fun x => x.2) (fun _ => [.blk b1 (.cells (obC o CA NA PA cc nc pc) 26 (0, 0)), .blk b2 (.cells #[.int .i64 0, .int .i64 0] 39 (0, 0)), .blk b4 (.cells (wdC o.wd CA NA PA cc nc pc) 143 (0, 0))]) (fun x => o.needs.length - x.1)
    (fun x => x.1 ≤ o.needs.length ∧ G.le x.2 ∧ ∀ j y, j < x.1 → o.needs[j]? = some y → needR y = true) (0, G2) ⟨Nat.zero_le _, hg2, fun j y h => absurd h (Nat.not_lt_zero _)⟩ (by exact ⟨rfl, rfl, rfl, rfl, trivial⟩) rfl (List.Sublist.refl _) fun x hx => ?_
  obtain ⟨i, G3⟩ := x
  obtain ⟨hi, hg3, hall⟩ := hx
  dsimp only at hi hg3 hall
  have x2 := wrapS i (by omega)
  by_cases hlt : i < o.needs.length
  · have e2 : decide ((i : Int) < (o.needs.length : Int)) = true := decide_eq_true (by omega)
    obtain ⟨c, hc⟩ : ∃ c, o.needs[i]? = some c := ⟨_, List.getElem?_eq_getElem hlt⟩
    obtain ⟨hcp, hcf, hcn⟩ := hL.nd c (List.mem_of_getElem? hc)
    obtain ⟨b, ofs, cs, rfl, hk, hcs⟩ := (hO.mono hg3).needs i c hc
    obtain ⟨QA, qc, rfl, hQ⟩ := hk
    have x0 : (0 : Int) ≤ (i : Int) := by omega
    have x1 : (i : Int) < (o.needs.length : Int) := by omega
    have hbad : needR c = false → objAns o = (0, 0, 185) := fun h => by
      unfold objAns
      rw [if_neg]
      unfold objR
      rw [all_not hc h]
      simp
    refine gom ?_
    refine WL.op (by kernel_rfl) (OW.alloc rfl fun b7 => ?_)
    refine gom ?_
    refine WL.op (by kernel_rfl) (OW.callK rfl (rplace_fn G3 c.path (by omega)) rfl fun v' G' H' h hg => ?_)
    obtain ⟨he, hg4, rfl⟩ := h
    cases he
    clear hg
    obtain ⟨G4, rfl⟩ : ∃ G1, G1 = G' := ⟨_, rfl⟩
    have hg34 := Gh.le_trans hg3 hg4
    cases h6 : fileR c.path with
    | false =>
      rw [hbad (by rw [needR, h6, Bool.false_and])]
      refine gom ?_
      refine WC.ret ?_
      refine WK.un ?_
      exact QF.p2 (.inl rfl) rfl (.cell rfl inferInstance inferInstance (by (repeat first | exact .here | apply At.there)) rfl rfl) (.tmp rfl) (⟨rfl, hg34, rfl⟩)
    | true =>
    refine gom ?_
    refine WL.op (by kernel_rfl) (OW.callK rfl (rWord_fn G4 c.name hcn) rfl fun v' G' H' h hg => ?_)
    obtain ⟨he, hg5, rfl⟩ := h
    cases he
    clear hg
    obtain ⟨G5, rfl⟩ : ∃ G1, G1 = G' := ⟨_, rfl⟩
    have hg35 := Gh.le_trans hg34 hg5
    cases h7 : wordR c.name with
    | false =>
      rw [hbad (by rw [needR, h6, h7]; rfl)]
      refine gom ?_
      refine WC.ret ?_
      refine WK.un ?_
      exact QF.p2 (.inl rfl) rfl (.cell rfl inferInstance inferInstance (by (repeat first | exact .here | apply At.there)) rfl rfl) (.tmp rfl) (⟨rfl, hg35, rfl⟩)
    | true =>
    refine gom ?_
    refine WL.op (by kernel_rfl) (OW.callK rfl (rhead_fn G5 QA c.params qc c.result ((hQ.mono hg4).mono hg5) hcp) rfl fun v' G' H' h hg => ?_)
    obtain ⟨he, rfl, rfl⟩ := h
    cases he
    cases h8 : headR c.params c.result with
    | false =>
      rw [hbad (by rw [needR, h6, h7, h8]; rfl)]
      refine gom ?_
      refine WC.ret ?_
      refine WK.un ?_
      exact QF.p2 (.inl rfl) rfl (.cell rfl inferInstance inferInstance (by (repeat first | exact .here | apply At.there)) rfl rfl) (.tmp rfl) (⟨rfl, hg35, rfl⟩)
    | true =>
      refine gom ?_
      refine WK.pick [.blk b1 (.cells (obC o CA (some ⟨b, ofs, none⟩) PA cc nc pc) 26 (0, 0)), .blk b2 (.cells #[.int .i64 0, .int .i64 0] 39 (0, 0)), .blk b4 (.cells (wdC o.wd CA (some ⟨b, ofs, none⟩) PA cc nc pc) 143 (0, 0))] ?_
      exact WK.again (i + 1, G5) (by dsimp only; omega) ⟨by dsimp only; omega, hg35, all_step hc hall (by rw [needR, h6, h7, h8]; rfl)⟩ (by exact ⟨rfl, rfl, rfl, rfl, trivial⟩) rfl (List.Sublist.refl _)
  have e2 : decide ((i : Int) < (o.needs.length : Int)) = false := decide_eq_false (by omega)
  have hneeds := all_of hall (by omega)
  have hob : objAns o = allR o.wd := by
    unfold objAns
    rw [if_pos (by unfold objR; rw [h1, hvals, h3, h4, h5, hneeds]; rfl)]
  rw [hob]
  refine gom ?_
  refine WC.pick [.blk b1 (.cells (obC o CA NA PA cc nc pc) 26 (0, 0)), .blk b2 (.cells #[.int .i64 0, .int .i64 0] 39 (0, 0)), .blk b4 (.cells (wdC o.wd CA NA PA cc nc pc) 143 (0, 0))] ?_
  refine WC.loop (X := Nat × Gh) (fun x => [(1, .pointer (some ⟨b1, 0, none⟩)), (2, .pointer (some ⟨b2, 0, none⟩)), (4, .pointer (some ⟨b4, 0, none⟩)), (8, .int .i64 (x.1 : Int))]) (fun x => x.2) (fun _ => [.blk b1 (.cells (obC o CA NA PA cc nc pc) 26 (0, 0)), .blk b2 (.cells #[.int .i64 0, .int .i64 0] 39 (0, 0)), .blk b4 (.cells (wdC o.wd CA NA PA cc nc pc) 143 (0, 0))]) (fun x => o.procs.length - x.1)
    (fun x => x.1 ≤ o.procs.length ∧ G.le x.2 ∧ okSoFar o.wd x.1) (0, G3) ⟨Nat.zero_le _, hg3, fun j h => absurd h (Nat.not_lt_zero _)⟩ (by exact ⟨rfl, rfl, rfl, rfl, trivial⟩) rfl (List.Sublist.refl _) fun x hx => ?_
  obtain ⟨k, G4⟩ := x
  obtain ⟨hk, hg4, hok⟩ := hx
  dsimp only at hk hg4 hok
  have x2 := wrapS k (by omega)
  by_cases hlt : k < o.procs.length
  rotate_left
  · have e2 : decide ((k : Int) < (o.procs.length : Int)) = false := decide_eq_false (by omega)
    rw [allR_none (w := o.wd) fun j hj => hok j (by have hj : j < o.procs.length := hj; omega)]
    refine gom ?_
    refine WC.ret ?_
    refine WK.un ?_
    exact QF.p2 (.inl rfl) rfl (.cell rfl inferInstance inferInstance (by (repeat first | exact .here | apply At.there)) rfl rfl) (.tmp rfl) (⟨rfl, hg4, rfl⟩)
  have e2 : decide ((k : Int) < (o.procs.length : Int)) = true := decide_eq_true (by omega)
  obtain ⟨p, hp⟩ : ∃ p, o.procs[k]? = some p := ⟨_, List.getElem?_eq_getElem hlt⟩
  obtain ⟨hpq, hpc, hpn⟩ := hL.pr p (List.mem_of_getElem? hp)
  have hO4 := hO.mono hg4
  obtain ⟨b, ofs, cs, rfl, hks, hcs⟩ := hO4.procs k p hp
  obtain ⟨QA, qc, IA, ic, rfl, hQ, hI⟩ := hks
  have x0 : (0 : Int) ≤ (k : Int) := by omega
  have x1 : (k : Int) < (o.procs.length : Int) := by omega
  have hout := outAt_eq (w := o.wd) (k := k) hp
  refine gom ?_
  refine WC.pick [.blk b1 (.cells (obC o CA NA (some ⟨b, ofs, none⟩) cc nc pc) 26 (0, 0)), .blk b2 (.cells #[.int .i64 0, .int .i64 0] 39 (0, 0)), .blk b4 (.cells (wdC o.wd CA NA (some ⟨b, ofs, none⟩) cc nc pc) 143 (0, 0))] ?_
  refine WC.loop (X := Nat) (fun j => [(1, .pointer (some ⟨b1, 0, none⟩)), (2, .pointer (some ⟨b2, 0, none⟩)), (4, .pointer (some ⟨b4, 0, none⟩)), (8, .int .i64 (k : Int)), (9, .int .i64 (j : Int))]) (fun _ => G4) (fun _ => [.blk b1 (.cells (obC o CA NA (some ⟨b, ofs, none⟩) cc nc pc) 26 (0, 0)), .blk b2 (.cells #[.int .i64 0, .int .i64 0] 39 (0, 0)), .blk b4 (.cells (wdC o.wd CA NA (some ⟨b, ofs, none⟩) cc nc pc) 143 (0, 0))]) (fun j => k - j)
    (fun j => j ≤ k ∧ ∀ m q, m < j → o.procs[m]? = some q → q.name ≠ p.name) 0 ⟨Nat.zero_le _, fun m q h => absurd h (Nat.not_lt_zero _)⟩ (by exact ⟨rfl, rfl, rfl, rfl, rfl, trivial⟩) rfl (List.Sublist.refl _) fun j hj => ?_
  obtain ⟨hj, hdis⟩ := hj
  by_cases hjk : j < k
  · have y1 : decide ((j : Int) < (k : Int)) = true := decide_eq_true (by omega)
    obtain ⟨q, hq⟩ : ∃ q, o.procs[j]? = some q := ⟨_, List.getElem?_eq_getElem (by omega)⟩
    obtain ⟨b', ofs', cs', hbe, hks', hcs'⟩ := hO4.procs j q hq
    cases hbe
    obtain ⟨QA', qc', IA', ic', rfl, _, _⟩ := hks'
    have z0 : (0 : Int) ≤ (j : Int) := by omega
    have z1 : (j : Int) < (o.procs.length : Int) := by omega
    have z2 := wrapS j (by omega)
    cases hn : (q.name == p.name) with
    | true =>
      have hne : q.name = p.name := by rw [bytes_beq] at hn; exact of_decide_eq_true hn
      have hin : p.name ∈ (o.wd.procs.take k).map (·.name) := by
        refine List.mem_map.2 ⟨q, ?_, hne⟩
        refine List.mem_of_getElem? (i := j) ?_
        rw [List.getElem?_take, if_pos hjk]; exact hq
      have h0 : outAt o.wd k = (0, 185) := by rw [hout, procOut, if_pos (.inr hin)]
      have hr : allR o.wd = ((k : Int), 0, 185) := by rw [allR_at (w := o.wd) hlt hok (by rw [h0]; decide), h0]
      rw [hr]
      refine gom ?_
      try rw [hn]
      refine gom ?_
      refine WC.ret ?_
      refine WK.un ?_
      exact QF.p2 (.inl rfl) rfl (.cell rfl inferInstance inferInstance (by (repeat first | exact .here | apply At.there)) rfl rfl) (.tmp rfl) (⟨rfl, hg4, rfl⟩)
    | false =>
      refine gom ?_
      try rw [hn]
      refine gom ?_
      exact WK.again (j + 1) (by omega) ⟨by omega, fun m q' hm hq' => by
        rcases Nat.lt_or_ge m j with h | h
        · exact hdis m q' h hq'
        · obtain rfl : m = j := by omega
          rw [hq] at hq'; cases hq'
          rw [bytes_beq] at hn; exact of_decide_eq_false hn⟩ (by exact ⟨rfl, rfl, rfl, rfl, rfl, trivial⟩) rfl (List.Sublist.refl _)
  have y1 : decide ((j : Int) < (k : Int)) = false := decide_eq_false (by omega)
  have hnew : p.name ∉ (o.wd.procs.take k).map (·.name) := fun hm => by
    obtain ⟨q, hq, hqn⟩ := List.mem_map.1 hm
    obtain ⟨m, hmq⟩ := List.getElem?_of_mem hq
    rw [List.getElem?_take] at hmq
    split at hmq
    · exact hdis m q (by omega) hmq hqn
    · cases hmq
  have hpo : outAt o.wd k = prOut o.wd p := by rw [hout]; exact procOut_new hnew
  have hpf := rproc_fn G4 o.wd p CA NA (some ⟨b, ofs, none⟩) cc nc pc (RWp.ofO hO4 hL) QA IA qc ic hQ hI hpn hpq
  rw [← hpo] at hpf
  refine gom ?_
  refine WQ.one (by kernel_rfl) (by kernel_rfl) (OW.callK rfl (hpf) rfl fun v' G' H' h hg => ?_)
  obtain ⟨he, hg5, rfl⟩ := h
  cases he
  clear hg
  obtain ⟨G5, rfl⟩ : ∃ G1, G1 = G' := ⟨_, rfl⟩
  by_cases hb : (outAt o.wd k).2 = 0
  · have e4 : ((outAt o.wd k).2 != 0) = false := by simpa using hb
    refine gom ?_
    refine WK.pick [.blk b1 (.cells (obC o CA NA (some ⟨b, ofs, none⟩) cc nc pc) 26 (0, 0)), .blk b2 (.cells #[.int .i64 0, .int .i64 0] 39 (0, 0)), .blk b4 (.cells (wdC o.wd CA NA (some ⟨b, ofs, none⟩) cc nc pc) 143 (0, 0))] ?_
    exact WK.again (k + 1, G5) (by dsimp only; omega) ⟨by dsimp only; omega, Gh.le_trans hg4 hg5, fun j hj => by
      rcases Nat.lt_or_ge j k with h | h
      · exact hok j h
      · obtain rfl : j = k := by dsimp only at hj; omega
        exact hb⟩ (by exact ⟨rfl, rfl, rfl, rfl, trivial⟩) rfl (List.Sublist.refl _)
  · have e4 : ((outAt o.wd k).2 != 0) = true := by simpa using hb
    rw [allR_at (w := o.wd) hlt hok hb]
    refine gom ?_
    refine WC.ret ?_
    refine WK.un ?_
    exact QF.p2 (.inl rfl) rfl (.cell rfl inferInstance inferInstance (by (repeat first | exact .here | apply At.there)) rfl rfl) (.tmp rfl) (⟨rfl, Gh.le_trans hg4 hg5, rfl⟩)
end
end Go.Proofs.YtkmigdmdppkpoaaGreatDoor.Gb
namespace Go.Proofs.YtkmigdmdppkpoaaGreatDoor.Gb
open Go Go.Proofs Go.MapKept
set_option linter.unusedVariables false
set_option linter.unusedSimpArgs false
set_option linter.unusedSectionVars false
attribute [local irreducible] Tryz.prog
noncomputable def askR (o : Ob) (n : Int) : List SS := if findE o n = 0 then statesR o n else []
theorem askR_some {o : Ob} {n : Int} (h : findE o n = 0) : ∃ p, o.procs[n.toNat]? = some p ∧ POk o.wd p := by
  obtain ⟨h1, h2, h3⟩ := findE_zero h
  obtain ⟨p, hp⟩ : ∃ p, o.procs[n.toNat]? = some p := ⟨_, List.getElem?_eq_getElem (by omega)⟩
  exact ⟨p, hp, objAns_pok h1 hp⟩
section
variable (G : Gh) (o : Ob) (CA NA PA : Option Addr) (cc nc pc : Nat) (hO : ORep G o CA NA PA) (hL : OLim o) (n : Int)
include hO hL
theorem rasked_fn : Fn Tryz.prog 38 #[.agg (obC o CA NA PA cc nc pc), .int .i64 n] G [] fun e G' H' => ∃ A tc, e = .returned (.tuple #[.slice A (askR o n).length tc, .int .i64 (findE o n)]) ∧ G.le G' ∧ Sl Kd.rs G' A (askR o n) ∧ (askR o n).length ≤ 16384 ∧ (∀ s ∈ askR o n, s.stack.length ≤ 128 ∧ s.vars.length ≤ 64) ∧ H' = [] := by
  have hpl := hL.pl
  refine Fn.enter Tryz.func38 rfl rfl fun w0 => ?_
  refine WC.seq ?_
  refine WC.region ?_
  refine WL.op (by kernel_rfl) (OW.box rfl rfl fun b2 => ?_)
  refine gom ?_
  refine WL.op (by kernel_rfl) (OW.callK rfl (rObject_fn G o CA NA PA cc nc pc hO hL) rfl fun v' G' H' h hg => ?_)
  obtain ⟨he, hg1, rfl⟩ := h
  cases he
  clear hg
  obtain ⟨G1, rfl⟩ : ∃ G1, G1 = G' := ⟨_, rfl⟩
  refine gom ?_
  refine WL.op (by kernel_rfl) (OW.alloc rfl fun b6 => ?_)
  by_cases h1 : (objAns o).2.2 = 0
  rotate_left
  · have e1 : ((objAns o).2.2 != 0) = true := by simpa using h1
    have hf : findE o n = (objAns o).2.2 := by rw [findE, if_pos h1]
    have ha : askR o n = [] := by unfold askR; rw [if_neg (by rw [hf]; exact h1)]
    rw [ha, hf]
    refine gom ?_
    refine WC.ret ?_
    refine WK.un ?_
    exact QF.p2 (.inl rfl) rfl (.tmp rfl) (.tmp rfl) (⟨none, 0, rfl, hg1, Sl.nil _ _ _, by simp, by simp, rfl⟩)
  have e1 : ((objAns o).2.2 != 0) = false := by simpa using h1
  by_cases h2 : n < 0
  · have e2 : decide (n < 0) = true := decide_eq_true h2
    have hf : findE o n = 1 := by rw [findE, if_neg (by simpa using h1), if_pos (.inl h2)]
    have ha : askR o n = [] := by unfold askR; rw [if_neg (by rw [hf]; decide)]
    rw [ha, hf]
    refine gom ?_
    refine WC.ret ?_
    refine WK.un ?_
    exact QF.p2 (.inl rfl) rfl (.tmp rfl) (.tmp rfl) (⟨none, 0, rfl, hg1, Sl.nil _ _ _, by simp, by simp, rfl⟩)
  have e2 : decide (n < 0) = false := decide_eq_false h2
  by_cases h3 : (o.procs.length : Int) ≤ n
  · have e3 : decide ((o.procs.length : Int) ≤ n) = true := decide_eq_true h3
    have hf : findE o n = 1 := by rw [findE, if_neg (by simpa using h1), if_pos (.inr h3)]
    have ha : askR o n = [] := by unfold askR; rw [if_neg (by rw [hf]; decide)]
    rw [ha, hf]
    refine gom ?_
    refine WC.ret ?_
    refine WK.un ?_
    exact QF.p2 (.inl rfl) rfl (.tmp rfl) (.tmp rfl) (⟨none, 0, rfl, hg1, Sl.nil _ _ _, by simp, by simp, rfl⟩)
  have e3 : decide ((o.procs.length : Int) ≤ n) = false := decide_eq_false h3
  have hf : findE o n = 0 := by rw [findE, if_neg (by simpa using h1), if_neg (by omega)]
  obtain ⟨p, hp, hpk⟩ := askR_some hf
  have hO3 := hO.mono hg1
  obtain ⟨b, ofs, cs, rfl, hks, hcs⟩ := hO3.procs n.toNat p hp
  obtain ⟨QA, qc, IA, ic, rfl, hQ, hI⟩ := hks
  have x0 : (0 : Int) ≤ n := by omega
  have x1 : n < (o.procs.length : Int) := by omega
  refine gom ?_
  refine WQ.one (by kernel_rfl) (by kernel_rfl) (OW.callK rfl (rStates_fn G1 o.wd p CA NA (some ⟨b, ofs, none⟩) cc nc pc (RWp.ofO hO3 hL) QA IA qc ic hQ hI hpk) rfl fun v' G' H' h hg => ?_)
  obtain ⟨TA, tc, l, he, hg4, hT, htc, hLe, rfl⟩ := h
  cases he
  have ha : askR o n = l := by unfold askR; rw [if_pos hf, statesR, hp]; exact hLe.flow
  have hll := hLe.closed.len
  have hfew := hpk.few
  have hloc := hpk.loc
  rw [ha, hf]
  have hbd : ∀ s ∈ l, s.stack.length ≤ 128 ∧ s.vars.length ≤ 64 := fun s hs => ⟨(hLe.closed.wf s hs).high, by
    cases hr : s.reached with
    | true => rw [(hLe.closed.wf s hs).vars hr]; omega
    | false => rw [(hLe.closed.wf s hs).bare hr]; simp⟩
  refine gom ?_
  refine WC.ret ?_
  refine WK.un ?_
  exact QF.p2 (.inl rfl) rfl (.tmp rfl) (.tmp rfl) (⟨TA, tc, rfl, Gh.le_trans hg1 hg4, hT, by omega, hbd, rfl⟩)
set_option maxHeartbeats 2000000 in
theorem rHeights_fn : Fn Tryz.prog 14 #[.agg (obC o CA NA PA cc nc pc), .int .i64 n] G [] fun e G' H' => ∃ A cap x, e = .returned (.tuple #[.slice A (heightsR o n).length cap, .int .i64 (findE o n)]) ∧ G.le G' ∧ IVec 3 A (heightsR o n) cap x ∧ H' = [x] := by
  have hr : heightsR o n = (askR o n).map hghR := by
    unfold heightsR askR
    split <;> rfl
  rw [hr]
  refine Fn.enter Tryz.func14 rfl rfl fun w0 => ?_
  refine WC.seq ?_
  refine WC.region ?_
  refine WL.op (by kernel_rfl) (OW.box rfl rfl fun b2 => ?_)
  refine gom ?_
  refine WL.op (by kernel_rfl) (OW.callK rfl (rasked_fn G o CA NA PA cc nc pc hO hL n) rfl fun v' G' H' h hg => ?_)
  obtain ⟨TA, tc, he, hg1, hT, hll, hst, rfl⟩ := h
  cases he
  obtain ⟨l, hl⟩ : ∃ l, l = askR o n := ⟨_, rfl⟩
  rw [← hl] at hT hll hst ⊢
  refine gom ?_
  refine WC.nothing ?_
  refine WC.loop (X := Nat × Option Addr × Nat × Own) (fun x => [(6, .slice TA l.length tc), (7, .int .i64 (findE o n)), (8, .slice x.2.1 x.1 x.2.2.1), (9, .int .i64 (x.1 : Int))]) (fun _ => G') (fun x => [x.2.2.2]) (fun x => l.length - x.1) (fun x => x.1 ≤ l.length ∧ Vec 3 1 x.2.1 x.1 x.2.2.1 (ints ((l.take x.1).map hghR)) x.2.2.2) (0, none, 0, .spare 0 0 0) ⟨Nat.zero_le _, ⟨by simp [ints], .inl ⟨rfl, rfl, rfl, rfl⟩⟩⟩ (by exact ⟨rfl, rfl, rfl, rfl, trivial⟩) rfl (by simp) fun x hx => ?_
  obtain ⟨i, A, cap, xo⟩ := x
  obtain ⟨hi, hv⟩ := hx
  dsimp only at hi hv
  have x2 := wrapS i (by omega)
  by_cases hlt : i < l.length
  rotate_left
  · have e2 : decide ((i : Int) < (l.length : Int)) = false := decide_eq_false (by omega)
    obtain rfl : i = l.length := by omega
    rw [List.take_length] at hv
    refine gom ?_
    refine WC.ret ?_
    refine WK.un ?_
    exact QF.p2 (.inl rfl) rfl (.tmp rfl) (.tmp rfl) (⟨A, cap, xo, by rw [List.length_map], hg1, by unfold IVec; rw [List.length_map]; exact hv, rfl⟩)
  have e2 : decide ((i : Int) < (l.length : Int)) = true := decide_eq_true (by omega)
  obtain ⟨s, hs⟩ : ∃ s, l[i]? = some s := ⟨_, List.getElem?_eq_getElem (by omega)⟩
  obtain ⟨sb, so, scs, rfl, hsk, hsc⟩ := hT i s hs
  obtain ⟨VA, vc, SA, sc, rfl, hS⟩ := Kd.rs_rep hsk
  have x0 : (0 : Int) ≤ (i : Int) := by omega
  have x1 : (i : Int) < (l.length : Int) := by omega
  have hstep : ∀ {A3 : Option Addr} {c3 : Nat} {o3 : Own} {z : Int}, z = hghR s → Vec 3 1 A3 (i + 1) c3 (ints ((l.take i).map hghR) ++ [.int .i64 z]) o3 → Vec 3 1 A3 (i + 1) c3 (ints ((l.take (i + 1)).map hghR)) o3 := fun hz hv3 => by
    rw [map_take_snoc hghR hs, ints_append]; subst hz; exact hv3
  cases hrs : s.reached with
  | true =>
    have hz : (s.stack.length : Int) = hghR s := by rw [hghR, hrs]; rfl
    unfold rsL at hsc
    rw [hrs] at hsc
    refine gom ?_
    refine WL.op (by kernel_rfl) (OW.buildSlice rfl (by kernel_rfl) (by kernel_rfl) (by rfl) rfl fun b37 => ?_)
    refine WL.op (by kernel_rfl) (OW.append rfl rfl (by kernel_rfl) (by kernel_rfl) hv (by (repeat first | exact .here | apply At.there)) (Rds.blk0 (cs := [.int .i64 s.stack.length]) .here rfl) rfl rfl (by omega) (by omega) rfl fun A3 c3 o3 hv3 => ?_)
    refine gom ?_
    refine WK.pick [o3] ?_
    exact WK.again (i + 1, A3, c3, o3) (by dsimp only; omega) ⟨by dsimp only; omega, hstep hz hv3⟩ (by exact ⟨rfl, rfl, rfl, rfl, trivial⟩) rfl (List.Sublist.refl _)
  | false =>
    have hz : (-1 : Int) = hghR s := by rw [hghR, hrs]; rfl
    unfold rsL at hsc
    rw [hrs] at hsc
    refine gom ?_
    refine WL.op (by kernel_rfl) (OW.buildSlice rfl (by kernel_rfl) (by kernel_rfl) (by rfl) rfl fun b37 => ?_)
    refine WL.op (by kernel_rfl) (OW.append rfl rfl (by kernel_rfl) (by kernel_rfl) hv (by (repeat first | exact .here | apply At.there)) (Rds.blk0 (cs := [.int .i64 (-1)]) .here rfl) rfl rfl (by omega) (by omega) rfl fun A3 c3 o3 hv3 => ?_)
    refine gom ?_
    refine WK.pick [o3] ?_
    exact WK.again (i + 1, A3, c3, o3) (by dsimp only; omega) ⟨by dsimp only; omega, hstep hz hv3⟩ (by exact ⟨rfl, rfl, rfl, rfl, trivial⟩) rfl (List.Sublist.refl _)
theorem rTypes_fn (k : Int) : Fn Tryz.prog 16 #[.agg (obC o CA NA PA cc nc pc), .int .i64 n, .int .i64 k] G [] fun e G' H' => ∃ VA vc SA sc, e = .returned (.tuple #[.slice VA (typesR o n k).1.length vc, .slice SA (typesR o n k).2.length sc, .int .i64 (typesE o n k)]) ∧ G.le G' ∧ Sl (Kd.int .i64) G' VA (typesR o n k).1 ∧ Sl (Kd.int .i64) G' SA (typesR o n k).2 ∧ H' = [] := by
  refine Fn.enter Tryz.func16 rfl rfl fun w0 => ?_
  refine WC.seq ?_
  refine WC.region ?_
  refine WL.op (by kernel_rfl) (OW.box rfl rfl fun b3 => ?_)
  refine gom ?_
  refine WL.op (by kernel_rfl) (OW.callK rfl (rasked_fn G o CA NA PA cc nc pc hO hL n) rfl fun v' G' H' h hg => ?_)
  obtain ⟨TA, tc, he, hg1, hT, hll, hst, rfl⟩ := h
  cases he
  by_cases h1 : findE o n = 0
  rotate_left
  · have e1 : (findE o n != 0) = true := by simpa using h1
    have ht : typesE o n k = findE o n := by rw [typesE, if_pos h1]
    have hr : typesR o n k = ([], []) := by rw [typesR, if_neg (by rw [ht]; exact h1)]
    rw [hr, ht]
    refine gom ?_
    refine WC.ret ?_
    refine WK.un ?_
    exact QF.p3 (.inl rfl) rfl (.tmp rfl) (.tmp rfl) (.tmp rfl) (⟨none, 0, none, 0, rfl, hg1, Sl.nil _ _ _, Sl.nil _ _ _, rfl⟩)
  have e1 : (findE o n != 0) = false := by simpa using h1
  obtain ⟨l, hl⟩ : ∃ l, l = askR o n := ⟨_, rfl⟩
  have hsr : statesR o n = l := by rw [hl]; unfold askR; rw [if_pos h1]
  rw [← hl] at hT hll hst ⊢
  by_cases h2 : k < 0
  · have e2 : decide (k < 0) = true := decide_eq_true h2
    have ht : typesE o n k = 1 := by rw [typesE, if_neg (by simpa using h1), if_pos (.inl h2)]
    have hr : typesR o n k = ([], []) := by rw [typesR, if_neg (by rw [ht]; decide)]
    rw [hr, ht]
    refine gom ?_
    refine WC.ret ?_
    refine WK.un ?_
    exact QF.p3 (.inl rfl) rfl (.tmp rfl) (.tmp rfl) (.tmp rfl) (⟨none, 0, none, 0, rfl, hg1, Sl.nil _ _ _, Sl.nil _ _ _, rfl⟩)
  have e2 : decide (k < 0) = false := decide_eq_false h2
  by_cases h3 : (l.length : Int) ≤ k
  · have e3 : decide ((l.length : Int) ≤ k) = true := decide_eq_true h3
    have ht : typesE o n k = 1 := by rw [typesE, if_neg (by simpa using h1), if_pos (.inr (by rw [hsr]; exact h3))]
    have hr : typesR o n k = ([], []) := by rw [typesR, if_neg (by rw [ht]; decide)]
    rw [hr, ht]
    refine gom ?_
    refine WC.ret ?_
    refine WK.un ?_
    exact QF.p3 (.inl rfl) rfl (.tmp rfl) (.tmp rfl) (.tmp rfl) (⟨none, 0, none, 0, rfl, hg1, Sl.nil _ _ _, Sl.nil _ _ _, rfl⟩)
  have e3 : decide ((l.length : Int) ≤ k) = false := decide_eq_false h3
  obtain ⟨s, hs⟩ : ∃ s, l[k.toNat]? = some s := ⟨_, List.getElem?_eq_getElem (by omega)⟩
  have ht : typesE o n k = 0 := by rw [typesE, if_neg (by simpa using h1), if_neg (by rw [hsr]; omega)]
  have hr : typesR o n k = (s.vars, s.stack) := by rw [typesR, if_pos ht, hsr, hs]
  rw [hr, ht]
  obtain ⟨sb, so, scs, rfl, hsk, hsc⟩ := hT k.toNat s hs
  obtain ⟨VA, vc, SA, sc, rfl, hS⟩ := Kd.rs_rep hsk
  have x0 : (0 : Int) ≤ k := by omega
  have x1 : k < (l.length : Int) := by omega
  refine gom ?_
  refine WC.ret ?_
  refine WK.un ?_
  exact QF.p3 (.inl rfl) rfl (.tmp rfl) (.tmp rfl) (.tmp rfl) (⟨VA, vc, SA, sc, rfl, hg1, hS.vars, hS.stack, rfl⟩)
end
end Go.Proofs.YtkmigdmdppkpoaaGreatDoor.Gb
namespace Go.Proofs.YtkmigdmdppkpoaaGreatDoor.Gb
open Go Go.Proofs Go.MapKept
set_option linter.unusedVariables false
set_option linter.unusedSimpArgs false
set_option linter.unusedSectionVars false

theorem LeR.drop {a b : List Int} (h : LeR a b) (n : Nat) : LeR (a.drop n) (b.drop n) := by
  induction h generalizing n with
  | nil => simp; exact .nil
  | cons hx h ih => cases n with | zero => exact .cons hx h | succ n => simpa using ih n
/-- a way through a procedure, as a state -/
def wayS (v st : List Int) : SS := ⟨true, false, v, st⟩
/-- a procedure that was taken -/
structure Taken (w : Wd) (p : Pr) (l : List SS) : Prop where
  pok : POk w p
  clo : Closed w p l
  par : ∀ q ∈ w.procs, ∀ x ∈ q.params, x ≠ 0
  npar : ∀ q ∈ w.needs, ∀ x ∈ q.params, x ≠ 0
  cons : ∀ v ∈ w.consts, v.t ≠ 0
  may : ∀ (k : Nat) (i : Int × Int), p.code[k]? = some i → mayR i.1 i.2 = true
  well : ∀ (k : Nat) (s : SS) (i : Int × Int), l[k]? = some s → p.code[k]? = some i → s.reached = true → metR w p k i s = 0
/-- where a way stands -/
structure Way (w : Wd) (p : Pr) (l : List SS) (k : Nat) (v st : List Int) : Prop where
  at_ : ∃ t, l[k]? = some t ∧ (wayS v st).le t
theorem Way.begin {w : Wd} {p : Pr} {l : List SS} (h : Taken w p l) : Way w p l 0 (p.params ++ List.replicate (p.locals.toNat - p.params.length) 0) [] := by
  have hl := h.clo.len
  have hp := h.pok.pos
  exact ⟨l[0], List.getElem?_eq_getElem (by omega), h.clo.zero _ (List.getElem?_eq_getElem (by omega))⟩
/-- what is known where a way stands -/
structure Stand (w : Wd) (p : Pr) (l : List SS) (k : Nat) (v st : List Int) (t : SS) (i : Int × Int) : Prop where
  told : l[k]? = some t
  ins : p.code[k]? = some i
  vars : LeR v t.vars
  stack : LeR st t.stack
  unl : t.unlike = false
  rch : t.reached = true
  wf : t.wf p.locals.toNat
  vlen : v.length = p.locals.toNat
  bad : ¬ badS w i (wayS v st)
  kinds : kindsR w p i (wayS v st) (st.drop (st.length - (effC w v i).1)) = true
  ret : i.1 = 9 → p.result = 0
  give : i.1 = 10 → p.result ≠ 0
  jumps : ∀ x ∈ nextR i k, x < p.code.length
/-- one instruction more -/
theorem Way.go {w : Wd} {p : Pr} {l : List SS} {k : Nat} {v st : List Int} {t : SS} {i : Int × Int} (hT : Taken w p l) (h : Stand w p l k v st t i) {j : Nat} (hj : (j : Int) ∈ nextR i k) :
    Way w p l j (varsR i (wayS v st)) (st.take (st.length - (effC w v i).1) ++ (effC w v i).2) := by
  have hjl := h.jumps _ hj
  have hl := hT.clo.len
  obtain ⟨u, hu⟩ : ∃ u, l[j]? = some u := ⟨_, List.getElem?_eq_getElem (by omega)⟩
  have hle : (wayS v st).le t := fun _ => ⟨h.rch, h.vars, .inr ⟨rfl, h.unl, h.stack⟩⟩
  have hvl : v.length = p.locals.toNat := h.vlen
  have hstl : st.length ≤ 128 := by rw [h.stack.length]; exact h.wf.high
  have hww : (wayS v st).wf p.locals.toNat := ⟨fun e => (by cases e), fun _ => hvl, fun e => (by cases e), hstl⟩
  have h1 := behR_mono (w := w) (i := i) hww h.wf hle
  have h2 := hT.clo.step k i t h.ins h.told h.rch _ hj j u rfl hu
  have h3 := SS.le_trans h1 h2
  unfold behR at h3
  rw [if_neg h.bad] at h3
  exact ⟨u, hu, h3⟩
theorem Stand.next {w : Wd} {p : Pr} {l : List SS} {k : Nat} {v st : List Int} {t : SS} {i : Int × Int} (h : Stand w p l k v st t i) (h9 : i.1 ≠ 9) (h10 : i.1 ≠ 10) :
    (i.1 = 5 → i.2 ∈ nextR i k) ∧ (i.1 = 6 → i.2 ∈ nextR i k) ∧ (i.1 ≠ 5 → ((k + 1 : Nat) : Int) ∈ nextR i k) := by
  unfold nextR
  rw [if_neg (fun h => h.elim h9 h10)]
  refine ⟨fun e => ?_, fun e => ?_, fun e => ?_⟩
  · rw [if_pos e]; simp
  · rw [if_neg (by omega), if_pos e]; simp
  · rw [if_neg e]; split <;> simp
/-- what an instruction lays down; 0: nothing -/
def layR (w : Wd) (v : List Int) (i : Int × Int) : Int :=
  if i.1 = 1 then ((w.consts[i.2.toNat]?).map (·.t)).getD 0
  else if i.1 = 2 then (v[i.2.toNat]?).getD 0
  else if i.1 = 7 then ((w.procs[i.2.toNat]?).map (·.result)).getD 0
  else if i.1 = 8 then ((w.needs[i.2.toNat]?).map (·.result)).getD 0
  else if i.1 = 20 then 3
  else if 12 ≤ i.1 ∧ i.1 ≤ 17 then 2
  else if i.1 = 25 then 2
  else (rowC i.1).lays
end Go.Proofs.YtkmigdmdppkpoaaGreatDoor.Gb
namespace Go.Proofs.YtkmigdmdppkpoaaGreatDoor.Gb
open Go Go.Proofs Go.MapKept
set_option linter.unusedVariables false
set_option linter.unusedSimpArgs false
set_option linter.unusedSectionVars false
theorem Sl.whole {G : Gh} {A : Option Addr} {l : List Int} (h : Sl (Kd.int .i64) G A l) (hl : 0 < l.length) : ∃ b o, A = some ⟨b, o, none⟩ ∧ Cs G b o (Gb.ints l) := by
  obtain ⟨b, o, _, rfl, _, _⟩ := h 0 l[0] (List.getElem?_eq_getElem hl)
  refine ⟨b, o, rfl, fun j v e => ?_⟩
  rw [Gb.ints, List.getElem?_map] at e
  cases hz : l[j]? with
  | none => rw [hz] at e; cases e
  | some y =>
    rw [hz] at e
    simp only [Option.map_some, Option.some.injEq] at e
    subst e
    obtain ⟨b', o', cs', he, hk, hc⟩ := h j y hz
    cases he
    obtain rfl : cs' = [.int .i64 y] := hk
    have := hc 0 _ rfl
    simpa [Kd.int] using this
attribute [local irreducible] Tryz.prog
theorem sameTypes_fn (G : Gh) (A B : Option Addr) (l m : List Int) (ca cb : Nat) (ha : Sl (Kd.int .i64) G A l) (hb : Sl (Kd.int .i64) G B m) (hl : l.length ≤ 100000000000000) :
    Fn Tryz.prog 17 #[.slice A l.length ca, .slice B m.length cb] G [] fun e G' H' => e = .returned (.bool (decide (l = m))) ∧ G = G' ∧ H' = [] := by
  refine Fn.enter Tryz.func17 rfl rfl fun w0 => ?_
  by_cases hne : l.length = m.length
  rotate_left
  · have e1 : ((l.length : Int) != (m.length : Int)) = true := by rw [bne_iff_ne]; omega
    refine gom ?_
    refine WC.ret ?_
    refine WK.un ?_
    exact QF.p1 (.inl rfl) rfl (.tmp rfl) (⟨by rw [decide_eq_false fun e => hne (by rw [e])], rfl, rfl⟩)
  have e1 : ((l.length : Int) != (m.length : Int)) = false := by rw [hne]; simp
  refine gom ?_
  refine WC.loop (X := Nat) (fun i => [(5, .int .i64 i), (0, .slice A l.length ca), (1, .slice B m.length cb)]) (fun _ => G) (fun _ => []) (fun i => l.length - i) (fun i => i ≤ l.length ∧ ∀ j, j < i → l[j]? = m[j]?) 0 ⟨Nat.zero_le _, fun j h => by omega⟩ (by exact ⟨rfl, rfl, rfl, trivial⟩) rfl (List.Sublist.refl _) fun i hx => ?_
  obtain ⟨hi, hall⟩ := hx
  by_cases hlt : i < l.length
  rotate_left
  · have e2 : decide ((i : Int) < (l.length : Int)) = false := decide_eq_false (by omega)
    have he : l = m := by
      refine List.ext_getElem? fun j => ?_
      rcases Nat.lt_or_ge j i with h | h
      · exact hall j h
      · rw [List.getElem?_eq_none (by omega), List.getElem?_eq_none (by omega)]
    refine gom ?_
    refine WC.ret ?_
    refine WK.un ?_
    exact QF.p1 (.inl rfl) rfl (.tmp rfl) (⟨by rw [decide_eq_true he], rfl, rfl⟩)
  have e2 : decide ((i : Int) < (l.length : Int)) = true := decide_eq_true (by omega)
  obtain ⟨x, hx⟩ : ∃ x, l[i]? = some x := ⟨_, List.getElem?_eq_getElem hlt⟩
  obtain ⟨y, hy⟩ : ∃ y, m[i]? = some y := ⟨_, List.getElem?_eq_getElem (by omega)⟩
  obtain ⟨ab, ao, cs1, rfl, hk1, hca⟩ := ha i x hx
  obtain ⟨bb, bo, cs2, rfl, hk2, hcb⟩ := hb i y hy
  obtain rfl : cs1 = [.int .i64 x] := hk1
  obtain rfl : cs2 = [.int .i64 y] := hk2
  have x0 : (0 : Int) ≤ i := by omega
  have x2 : (i : Int) < (l.length : Int) := by omega
  have x3 : (i : Int) < (m.length : Int) := by omega
  have x4 := wrapS i (by omega)
  by_cases hxy : x = y
  · have e3 : (x != y) = false := by simp [hxy]
    refine gom ?_
    exact WK.again (i + 1) (by omega) ⟨by omega, fun j hj => by
      rcases Nat.lt_or_ge j i with h | h
      · exact hall j h
      · obtain rfl : j = i := by omega
        rw [hx, hy, hxy]⟩ (by exact ⟨rfl, rfl, rfl, trivial⟩) rfl (List.Sublist.refl _)
  · have e3 : (x != y) = true := by rw [bne_iff_ne]; exact hxy
    refine gom ?_
    refine WC.ret ?_
    refine WK.un ?_
    exact QF.p1 (.inl rfl) rfl (.tmp rfl) (⟨by rw [decide_eq_false fun e => by rw [e, hy] at hx; exact hxy (Option.some.inj hx).symm], rfl, rfl⟩)
end Go.Proofs.YtkmigdmdppkpoaaGreatDoor.Gb
namespace Go.Proofs.YtkmigdmdppkpoaaGreatDoor.Gb
open Go Go.Proofs Go.MapKept
set_option linter.unusedVariables false
set_option linter.unusedSimpArgs false
set_option linter.unusedSectionVars false

theorem FIn.all {w : Wd} {p : Pr} {q : Nat} {i : Int × Int} {s0 : SS} : ∀ (xs : List Int) (l : List SS) (T ds : List Int), FIn w p l T q i s0 ds → (∀ x ∈ xs, x ∈ nextR i q ∧ 0 ≤ x) →
    ∃ l' T' ds', FIn w p l' T' q i s0 ds' ∧ (∀ x ∈ xs, x ∈ ds' ∨ (p.code.length : Int) ≤ x) ∧ (∀ x ∈ ds, x ∈ ds') ∧ (sumW p.locals.toNat l' < sumW p.locals.toNat l ∨ (l' = l ∧ T' = T))
  | [], l, T, ds, h, _ => ⟨l, T, ds, h, by simp, fun _ h => h, .inr ⟨rfl, rfl⟩⟩
  | x :: xs, l, T, ds, h, hx => by
    obtain ⟨hxn, hx0⟩ := hx x (List.mem_cons_self ..)
    have hrest : ∀ y ∈ xs, y ∈ nextR i q ∧ 0 ≤ y := fun y hy => hx y (List.mem_cons_of_mem _ hy)
    by_cases hle : (p.code.length : Int) ≤ x
    · obtain ⟨l', T', ds', h1, h2, h3, h4⟩ := FIn.all xs l T ds h hrest
      exact ⟨l', T', ds', h1, fun y hy => by
        rcases List.mem_cons.1 hy with rfl | hy
        · exact .inr hle
        · exact h2 y hy, h3, h4⟩
    obtain ⟨k, rfl⟩ : ∃ k : Nat, x = (k : Int) := ⟨x.toNat, by omega⟩
    have hkl : k < l.length := by rw [h.len]; omega
    have hs : l[k]? = some l[k] := List.getElem?_eq_getElem hkl
    by_cases hj : joinS l[k] (behR w i s0) = l[k]
    · obtain ⟨l', T', ds', h1, h2, h3, h4⟩ := FIn.all xs l T _ (h.same hs hj) hrest
      exact ⟨l', T', ds', h1, fun y hy => by
        rcases List.mem_cons.1 hy with rfl | hy
        · exact .inl (h3 _ (List.mem_cons_self ..))
        · exact h2 y hy, fun y hy => h3 y (List.mem_cons_of_mem _ hy), h4⟩
    · have hri := h.rises hs hj
      obtain ⟨l', T', ds', h1, h2, h3, h4⟩ := FIn.all xs _ ((k : Int) :: T) _ (h.turn hxn hs (T' := (k : Int) :: T) (fun y => by simp [or_comm])) hrest
      refine ⟨l', T', ds', h1, fun y hy => ?_, fun y hy => h3 y (List.mem_cons_of_mem _ hy), .inl ?_⟩
      · rcases List.mem_cons.1 hy with rfl | hy
        · exact .inl (h3 _ (List.mem_cons_self ..))
        · exact h2 y hy
      · rcases h4 with h4 | ⟨h4, _⟩
        · omega
        · rw [h4]; exact hri
theorem least_go {w : Wd} {p : Pr} (hp : POk w p) : ∀ (N M : Nat) (l : List SS) (T : List Int), FInv w p l T → sumW p.locals.toNat l ≤ N → T.length ≤ M → ∃ l', Least w p l' := by
  intro N
  induction N using Nat.strongRecOn with
  | _ N ihN =>
    intro M
    induction M with
    | zero =>
      intro l T h _ hM
      have : T = [] := List.eq_nil_of_length_eq_zero (by omega)
      subst this
      exact ⟨l, h.least⟩
    | succ M ihM =>
      intro l T h hN hM
      cases T with
      | nil => exact ⟨l, h.least⟩
      | cons x T =>
        obtain ⟨q, s, rfl, hs, hr⟩ := h.todo x (List.mem_cons_self ..)
        have hql := (List.getElem?_eq_some_iff.1 hs).1
        rw [h.len] at hql
        obtain ⟨i, hi⟩ : ∃ i, p.code[q]? = some i := ⟨_, List.getElem?_eq_getElem hql⟩
        have h0 := h.into (T' := T) (List.mem_cons_self ..) hi hs (fun y hy => List.mem_cons_of_mem _ hy) (fun y hy hne => (List.mem_cons.1 hy).resolve_left hne)
        have hi0 := (hp.ins q i hi).1
        have hnn : ∀ y ∈ nextR i q, y ∈ nextR i q ∧ 0 ≤ y := fun y hy => ⟨hy, by
          obtain ⟨c, n⟩ := i
          obtain ⟨m, rfl⟩ : ∃ m : Nat, n = (m : Int) := ⟨n.toNat, by dsimp only at hi0; omega⟩
          exact nextR_nonneg hy⟩
        obtain ⟨l', T', ds', h1, h2, _, h4⟩ := FIn.all (nextR i q) l T [] h0 hnn
        have h5 := h1.done h2
        rcases h4 with h4 | ⟨rfl, rfl⟩
        · exact ihN (sumW p.locals.toNat l') (by omega) T'.length l' T' h5 (Nat.le_refl _) (Nat.le_refl _)
        · exact ihM l' T' h5 hN (by simp at hM; omega)
theorem POk.least {w : Wd} {p : Pr} (hp : POk w p) : Least w p (flowOf w p) := by
  obtain ⟨l, h⟩ := least_go hp _ _ _ _ (FInv.first hp.par hp.pos) (Nat.le_refl _) (Nat.le_refl _)
  rw [h.flow]; exact h
end Go.Proofs.YtkmigdmdppkpoaaGreatDoor.Gb
namespace Go.Proofs.YtkmigdmdppkpoaaGreatDoor.Gb
open Go Go.Proofs Go.MapKept
set_option linter.unusedVariables false
set_option linter.unusedSimpArgs false
set_option linter.unusedSectionVars false
attribute [local irreducible] Tryz.prog
theorem heights_len {o : Ob} {n : Int} : (heightsR o n).length ≤ 16384 := by
  unfold heightsR
  split
  · rename_i h
    obtain ⟨p, hp, hpk⟩ := askR_some h
    obtain ⟨l, hl⟩ : ∃ l, Least o.wd p l := ⟨_, hpk.least⟩
    have hfew := hpk.few
    rw [List.length_map, statesR, hp]
    dsimp only
    rw [hl.flow, hl.closed.len]; exact hfew
  · simp
theorem types_len {o : Ob} {n k : Int} : (typesR o n k).1.length ≤ 1000 ∧ (typesR o n k).2.length ≤ 1000 := by
  unfold typesR
  split
  · rename_i h
    have hf : findE o n = 0 := by
      apply Decidable.byContradiction
      intro h'
      unfold typesE at h
      rw [if_pos h'] at h
      exact h' h
    obtain ⟨p, hp, hpk⟩ := askR_some hf
    obtain ⟨l, hl⟩ : ∃ l, Least o.wd p l := ⟨_, hpk.least⟩
    have hloc := hpk.loc
    rw [statesR, hp]
    dsimp only
    rw [hl.flow]
    cases hs : l[k.toNat]? with
    | none => simp
    | some s =>
      have hw := hl.closed.wf s (List.mem_of_getElem? hs)
      have := hw.high
      refine ⟨?_, by dsimp only; omega⟩
      cases hr : s.reached with
      | true => dsimp only; rw [hw.vars hr]; omega
      | false => rw [hw.bare hr]; simp
  · simp
section
variable (G : Gh) (hE : Env G) (o : Ob) (CA NA PA : Option Addr) (cc nc pc : Nat) (hO : ORep G o CA NA PA) (hL : OLim o) (n k : Int)
include hE hO hL
end
end Go.Proofs.YtkmigdmdppkpoaaGreatDoor.Gb
namespace Go.Proofs.YtkmigdmdppkpoaaGreatDoor.Gb
open Go Go.RowKit Go.ChangeShapes Go.WideShapes

section
variable {H : Type} (enc : TypeId × Value → H) (P : Program) (w : World)

/-- values of a type are known, with what their weights say -/
def Opens (t : TypeId) {α : Type} (k : Kd α) (B : α → Prop) : Prop :=
  ∀ fuel cs d ps, DataW.trod enc P w 0 (fun _ => true) true fuel t cs = some (d, ps) → (∀ n ∈ d.weights P t, n ≤ reachBytes) → ∃ a, k.K (Gw w) a cs ∧ B a

theorem Opens.mono {t : TypeId} {α : Type} {k : Kd α} {B B' : α → Prop} (h : Opens enc P w t k B) (hb : ∀ a, B a → B' a) : Opens enc P w t k B' :=
  fun fuel cs d ps e hw => let ⟨a, h1, h2⟩ := h fuel cs d ps e hw; ⟨a, h1, hb a h2⟩
theorem Opens.int {t : TypeId} {i : IntKind} (ht : P.underlying t = some (.int i)) : Opens enc P w t (Kd.int i) (fun n => (Lit.int i n).wf = true) :=
  fun fuel cs d ps e _ => let ⟨n, h1, _, h3⟩ := DataW.trod_int ht e; ⟨n, h1, h3⟩
theorem Opens.bool {t : TypeId} (ht : P.underlying t = some .bool) : Opens enc P w t Kd.bool (fun _ => True) :=
  fun fuel cs d ps e _ => let ⟨n, h1, _⟩ := DataW.trod_bool ht e; ⟨n, h1, trivial⟩
theorem Opens.str {t : TypeId} (ht : P.underlying t = some .string) : Opens enc P w t Kd.str (fun s => s.size ≤ 140737488351232) :=
  fun fuel cs d ps e hw => by
    obtain ⟨s, h1, h2, h3⟩ := DataW.trod_string ht e
    obtain ⟨rfl, rfl⟩ := Prod.mk.inj h2
    refine ⟨s, h1, ?_⟩
    have := hw s.data.toList.length (by simp [DataW.weights])
    rw [Array.length_toList] at this
    exact this

theorem weightsAll_mem {e : TypeId} : ∀ {ds : List (DataW H)} {j : Nat} {d : DataW H}, ds[j]? = some d → ∀ n ∈ d.weights P e, n ∈ DataW.weightsAll P e ds
  | d0 :: ds, 0, d, hd, n, hn => by
    simp only [List.getElem?_cons_zero, Option.some.injEq] at hd
    subst hd
    simp only [DataW.weightsAll, List.mem_append]
    exact .inl hn
  | d0 :: ds, j + 1, d, hd, n, hn => by
    simp only [List.getElem?_cons_succ] at hd
    simp only [DataW.weightsAll, List.mem_append]
    exact .inr (weightsAll_mem hd n hn)
  | [], _, _, hd, _, _ => by simp at hd

theorem mapM_cells {a : Addr} : ∀ {l : List Nat} {cs : List Value}, (l.mapM fun i => w.cell? (a.add i)) = some cs → cs.length = l.length ∧ ∀ (j i : Nat) (v : Value), l[j]? = some i → cs[j]? = some v → w.cell? (a.add i) = some v
  | [], cs, h => by
    simp at h; subst h
    exact ⟨rfl, fun j i v e => by simp at e⟩
  | i0 :: l, cs, h => by
    rw [List.mapM_cons] at h
    cases h0 : w.cell? (a.add i0) with
    | none => rw [h0] at h; simp at h
    | some v0 =>
      rw [h0] at h
      cases h1 : l.mapM (fun i => w.cell? (a.add i)) with
      | none => rw [h1] at h; simp at h
      | some cs' =>
        rw [h1] at h
        simp at h
        subst h
        obtain ⟨h2, h3⟩ := mapM_cells h1
        refine ⟨by simp [h2], fun j i v ej ev => ?_⟩
        cases j with
        | zero => simp at ej ev; subst ej ev; exact h0
        | succ j => simp at ej ev; exact h3 j i v ej ev

theorem cells_get {b : Nat} {a : Addr} {n : Nat} {cs : List Value} (h : w.cells? b a n = some cs) : cs.length = n ∧ ∀ (j : Nat) (v : Value), cs[j]? = some v → w.cell? (a.add j) = some v := by
  unfold World.cells? at h
  split at h
  · obtain ⟨h1, h2⟩ := mapM_cells w h
    rw [List.length_range] at h1
    refine ⟨h1, fun j v e => h2 j j v ?_ e⟩
    have hj := (List.getElem?_eq_some_iff.1 e).1
    rw [List.getElem?_range (by omega)]
  · cases h

theorem cell_plain {a : Addr} {v : Value} (h : w.cell? a = some v) : a.spot = none := by
  unfold World.cell? at h
  split at h
  · split at h
    · cases h
    · rename_i hs; simpa using hs
  · cases h

theorem Opens.slice {t e : TypeId} {α : Type} {k : Kd α} {B : α → Prop} (ht : P.underlying t = some (.slice e)) (hc : P.cellsOf e = k.n) (h0 : 0 < k.n) {by_ : Nat} (hby : P.bytesOf e = by_) (h : Opens enc P w e k B) :
    Opens enc P w t (Kd.slice k) (fun xs => xs.length * by_ ≤ 140737488351232 ∧ ∀ x ∈ xs, B x) := by
  subst hby
  intro fuel cs d ps hd hw
  rcases DataW.trod_slice ht hd with ⟨rfl, _⟩ | ⟨a, len, cap, elems, rest, n, _, rfl, hx, _, hl, _, hlen, hel, _, _⟩
  · exact ⟨[], ⟨none, 0, rfl, Nat.le_refl _, Sl.nil _ _ _⟩, by simp, by simp⟩
  · obtain ⟨rfl, rfl⟩ := Prod.mk.inj hx
    have hw1 : (elems.length + rest.length) * P.bytesOf e ≤ reachBytes := by
      have := hw ((elems.map (·.1)).length + (rest.map (·.1)).length |> (· * P.bytesOf e)) (by simp [DataW.weights, ht])
      simpa using this
    have hwe : ∀ (j : Nat) (d' : DataW H), (elems.map (·.1))[j]? = some d' → ∀ n ∈ d'.weights P e, n ≤ reachBytes := fun j d' hj n hn =>
      hw n (by simp only [DataW.weights, ht, List.mem_cons, List.mem_append]; exact .inr (.inl (weightsAll_mem P hj n hn)))
    have one : ∀ i, i < len → ∃ y cs', w.cells? 0 (a.add (i * P.cellsOf e)) (P.cellsOf e) = some cs' ∧ k.K (Gw w) y cs' ∧ B y := by
      intro i hi
      have hi' := hel i hi
      cases hcs : w.cells? 0 (a.add (i * P.cellsOf e)) (P.cellsOf e) with
      | none =>
        rw [hcs, List.getElem?_eq_getElem (by omega)] at hi'
        cases hi'
      | some cs' =>
        rw [hcs, List.getElem?_eq_getElem (by omega : i < elems.length)] at hi'
        simp only [Option.bind_some] at hi'
        obtain ⟨y, h1, h2⟩ := h n cs' _ _ hi' (hwe i _ (by rw [List.getElem?_map, List.getElem?_eq_getElem (by omega : i < elems.length)]; rfl))
        exact ⟨y, cs', rfl, h1, h2⟩
    have all : ∀ m, m ≤ len → ∃ xs : List α, xs.length = m ∧ (∀ x ∈ xs, B x) ∧ ∀ i x, xs[i]? = some x → ∃ cs', w.cells? 0 (a.add (i * P.cellsOf e)) (P.cellsOf e) = some cs' ∧ k.K (Gw w) x cs' := by
      intro m
      induction m with
      | zero => exact fun _ => ⟨[], rfl, by simp, by simp⟩
      | succ m ih =>
        intro hm
        obtain ⟨xs, e1, e2, e3⟩ := ih (by omega)
        obtain ⟨y, cs', h1, h2, h3⟩ := one m (by omega)
        refine ⟨xs ++ [y], by simp [e1], fun x hx => ?_, fun i x hx => ?_⟩
        · rcases List.mem_append.1 hx with hx | hx
          · exact e2 x hx
          · simp at hx; subst hx; exact h3
        · rcases Nat.lt_or_ge i xs.length with hi | hi
          · rw [List.getElem?_append_left hi] at hx; exact e3 i x hx
          · have : i = m := by have := (List.getElem?_eq_some_iff.1 hx).1; simp at this; omega
            subst this
            rw [List.getElem?_append_right hi] at hx
            simp [e1] at hx
            subst hx
            exact ⟨cs', h1, h2⟩
    obtain ⟨xs, e1, e2, e3⟩ := all len (Nat.le_refl _)
    refine ⟨xs, ⟨some a, cap, by rw [e1], by omega, fun i x hx => ?_⟩, ?_, e2⟩
    · have hi := (List.getElem?_eq_some_iff.1 hx).1
      obtain ⟨cs0, h10, h20⟩ := e3 0 _ (List.getElem?_eq_getElem (by omega : 0 < xs.length))
      obtain ⟨h30, h40⟩ := cells_get w h10
      have hsp := cell_plain w (h40 0 _ (List.getElem?_eq_getElem (by rw [h30, hc]; exact h0)))
      obtain ⟨cs', h1, h2⟩ := e3 i x hx
      obtain ⟨h3, h4⟩ := cells_get w h1
      obtain ⟨ab, ao, asp⟩ := a
      obtain rfl : asp = none := by simpa [Addr.add] using hsp
      refine ⟨ab, ao, cs', rfl, h2, fun j v e => ?_⟩
      have h5 := h4 j v e
      rw [hc] at h5
      have e5 : ((⟨ab, ao, none⟩ : Addr).add (i * k.n)).add j = ⟨ab, ao + i * k.n + j, none⟩ := by
        unfold Addr.add
        split <;> split <;> simp_all
      rw [e5] at h5
      exact h5
    · rw [e1, ← hlen]
      exact Nat.le_trans (Nat.mul_le_mul_right _ (Nat.le_add_right _ _)) hw1

/-- a struct's field -/
theorem field_raw {t : TypeId} {fs : Array Field} {fuel : Nat} {cs : List Value} {d : DataW H} {ps : List MemPlace} (ht : P.underlying t = some (.struct fs)) (hd : DataW.trod enc P w 0 (fun _ => true) true fuel t cs = some (d, ps)) (hw : ∀ n ∈ d.weights P t, n ≤ reachBytes) :
    cs.length = P.cellsOf t ∧ ∀ (i : Nat) (f : Field), fs[i]? = some f → ∀ {t' o n : Nat}, f.type = t' → f.offset = o → P.cellsOf t' = n → ∃ fuel' d' ps', DataW.trod enc P w 0 (fun _ => true) true fuel' t' ((cs.drop o).take n) = some (d', ps') ∧ ∀ n ∈ d'.weights P t', n ≤ reachBytes := by
  obtain ⟨xs, n, _, hx, hl, hn, hf⟩ := DataW.trod_struct ht hd
  obtain ⟨rfl, rfl⟩ := Prod.mk.inj hx
  refine ⟨hl, fun i f hi t' o n' e1 e2 e3 => ?_⟩
  subst e1 e2 e3
  have h1 := hf i f hi
  have hilt : i < xs.length := by rw [hn]; exact (Array.getElem?_eq_some_iff.1 hi).1
  rw [List.getElem?_eq_getElem hilt] at h1
  refine ⟨n, _, _, h1, fun m hm => hw m ?_⟩
  simp only [DataW.weights, ht]
  exact DataW.weights_mem_each (j := i) (t := f.type) (d := (xs[i]).1) (by simp [hi]) (by simp [hilt]) m hm
theorem field_open {t : TypeId} {fs : Array Field} {fuel : Nat} {cs : List Value} {d : DataW H} {ps : List MemPlace} (ht : P.underlying t = some (.struct fs)) (hd : DataW.trod enc P w 0 (fun _ => true) true fuel t cs = some (d, ps)) (hw : ∀ n ∈ d.weights P t, n ≤ reachBytes) :
    cs.length = P.cellsOf t ∧ ∀ (i : Nat) (f : Field), fs[i]? = some f → ∀ {t' o n : Nat}, f.type = t' → f.offset = o → P.cellsOf t' = n → ∀ {α : Type} {k : Kd α} {B : α → Prop}, Opens enc P w t' k B → ∃ a, k.K (Gw w) a ((cs.drop o).take n) ∧ B a := by
  obtain ⟨hl, hf⟩ := field_raw enc P w ht hd hw
  refine ⟨hl, fun i f hi t' o n e1 e2 e3 α k B hO => ?_⟩
  obtain ⟨fuel', d', ps', h1, h2⟩ := hf i f hi e1 e2 e3
  exact hO fuel' _ d' ps' h1 h2
end
theorem Kept.same {W W' : World} (h : Kept W W') {p : MemPlace} (hp : p.block < W.heap.size) : W.sameAt W' p := by
  cases p with
  | cell b o => exact World.cell?_of_block (w := W) (h.heap b hp)
  | map b => exact h.heap b hp
/-- an argument reads as it did -/
theorem Kept.trod {H : Type} {enc : TypeId × Value → H} {P : Program} {t : TypeId} (hl : laidOutB P = true) (hr : P.readableRec t = true) (hrow : t < P.types.size) {W W' : World} {v : Value} {d : DataW H} {ps : List MemPlace}
    (h : DataW.Trod enc P W 0 (fun _ => true) true t v d ps) (hb : Kept W W') :
    DataW.Trod enc P W' 0 (fun b => decide (b < W.heap.size)) true t v d ps := by
  have hlt : ∀ x ∈ ps, x.block < W.heap.size := by obtain ⟨m, hm⟩ := h; exact DataW.trod_lt m _ _ _ hm
  exact WideElems.Trod_stays hl hr hrow h (fun x hx => hb.same (hlt x hx)) (fun x hx => by simpa using hlt x hx)
end Go.Proofs.YtkmigdmdppkpoaaGreatDoor.Gb
namespace Go.Proofs.YtkmigdmdppkpoaaGreatDoor.Gb
open Go Go.Proofs Go.RowKit Go.ChangeShapes Go.WideShapes
set_option linter.unusedVariables false
section
variable {H : Type} (enc : TypeId × Value → H) (P : Program) (w : World)
end
end Go.Proofs.YtkmigdmdppkpoaaGreatDoor.Gb
namespace Go.Proofs.YtkmigdmdppkpoaaGreatDoor.Gb
open Go Go.Proofs Go.MapKept
set_option linter.unusedVariables false
set_option linter.unusedSimpArgs false
set_option linter.unusedSectionVars false
attribute [local irreducible] Tryz.prog

def mayI (i : Int × Int) : Bool := mayR i.1 i.2
def encI (i : Int × Int) : List Int := i.1 :: (if (rowC i.1).n then uintL i.2.toNat else [])
def encP (l : List (Int × Int)) (k : Nat) : List Int := uintL l.length ++ (l.take k).flatMap encI
def bytesR (l : List (Int × Int)) : List Int × Int := if l.all mayI then (encP l l.length, 0) else ([], 180)
theorem mayI_bounds {i : Int × Int} (h : mayI i = true) : 1 ≤ i.1 ∧ i.1 ≤ 26 ∧ 0 ≤ i.2 ∧ i.2 ≤ 2147483647 := by
  unfold mayI mayR at h
  simp only [Bool.and_eq_true, decide_eq_true_eq] at h
  obtain ⟨h1, h2, h3, _⟩ := h
  rw [← is_row] at h1
  simp at h1
  exact ⟨h1.1, h1.2, h2, h3⟩
theorem encI_length {i : Int × Int} (h : mayI i = true) : (encI i).length ≤ 6 := by
  obtain ⟨_, _, h1, h2⟩ := mayI_bounds h
  unfold encI
  rw [List.length_cons]
  split
  · have := uintL_length 4 i.2.toNat (by omega); omega
  · simp
theorem flat_le {l : List (Int × Int)} : ∀ {k : Nat}, (∀ j i, j < k → l[j]? = some i → mayI i = true) → ((l.take k).flatMap encI).length ≤ 6 * k
  | 0, _ => by simp
  | k + 1, h => by
    have ih := flat_le (l := l) (k := k) fun j i hj hi => h j i (by omega) hi
    cases hk : l[k]? with
    | none =>
      rw [List.getElem?_eq_none_iff] at hk
      rw [List.take_of_length_le (by omega), ← List.take_of_length_le hk]; omega
    | some i =>
      rw [take_snoc' hk, List.flatMap_append, List.length_append]
      have := encI_length (h k i (by omega) hk)
      simp only [List.flatMap_cons, List.flatMap_nil, List.append_nil]
      omega
theorem encP_snoc {l : List (Int × Int)} {k : Nat} {i : Int × Int} (h : l[k]? = some i) : encP l (k + 1) = encP l k ++ encI i := by
  unfold encP
  rw [take_snoc' h, List.flatMap_append, List.append_assoc]
  simp
theorem u8code {c : Int} (h : 1 ≤ c ∧ c ≤ 26) : IntKind.u8.wrap c = c := by
  obtain ⟨k, rfl⟩ : ∃ k : Nat, c = k := ⟨c.toNat, by omega⟩
  rw [u8w, Nat.mod_eq_of_lt (by omega)]
theorem u64n {n : Int} (h : 0 ≤ n ∧ n ≤ 9223372036854775807) : IntKind.u64.wrap n = ((n.toNat : Nat) : Int) := by
  obtain ⟨k, rfl⟩ : ∃ k : Nat, n = k := ⟨n.toNat, by omega⟩
  simp [IntKind.wrap, IntKind.signed, IntKind.bits]; omega

set_option maxHeartbeats 2000000 in
theorem Bytes_fn (G : Gh) (A : Option Addr) (l : List (Int × Int)) (cap : Nat) (hA : Sl Kd.ins G A l) (hl : l.length ≤ 9000000000000) :
    Fn Tryz.prog 29 #[.slice A l.length cap] G [] fun e G' H' => ∃ A' cap' x', e = .returned (.tuple #[.slice A' (bytesR l).1.length cap', .int .i64 (bytesR l).2]) ∧ G = G' ∧ BVec A' (bytesR l).1 cap' x' ∧ H' = [x'] := by
  refine Fn.enter Tryz.func29 rfl rfl fun w0 => ?_
  refine gom ?_
  refine WL.p (Gp.convTo (r := ((l.length : Nat) : Int)) rfl (by rw [u64n ⟨by omega, by omega⟩]; rfl)) (by kernel_rfl) rfl ?_
  refine WL.nothing ?_
  refine WL.op (by kernel_rfl) (OW.callK rfl (putUint_fn G none [] 0 (.spare 0 0 0) BVec.nil l.length (by omega) (by decide)) rfl fun v' G' H' h hg => ?_)
  obtain ⟨A1, c1, x1, he, rfl, h1, rfl⟩ := h
  cases he
  have hbase : [] ++ uintL l.length = encP l 0 := by simp [encP]
  rw [hbase] at h1 ⊢
  refine gom ?_
  refine WC.loop (X := Nat × Option Addr × Nat × Own) (fun s => [(4, .slice s.2.1 (encP l s.1).length s.2.2.1), (11, .slice A l.length cap), (12, .int .i64 l.length), (13, .int .i64 s.1)]) (fun _ => G) (fun s => [s.2.2.2]) (fun s => l.length - s.1) (fun s => s.1 ≤ l.length ∧ BVec s.2.1 (encP l s.1) s.2.2.1 s.2.2.2 ∧ ∀ j i, j < s.1 → l[j]? = some i → mayI i = true) (0, A1, c1, x1) ⟨Nat.zero_le _, h1, (fun j i h => absurd h (Nat.not_lt_zero _))⟩ (by exact ⟨rfl, rfl, rfl, rfl, trivial⟩) rfl (List.Sublist.refl _) fun s hs => ?_
  obtain ⟨k, B, c, o⟩ := s
  obtain ⟨hk, hv, hall⟩ := hs
  dsimp only at hk hv hall
  have x2 := wrapS k (by omega)
  by_cases hlt : k < l.length
  rotate_left
  · have e2 : decide ((k : Int) < (l.length : Int)) = false := decide_eq_false (by omega)
    obtain rfl : k = l.length := by omega
    have hr : bytesR l = (encP l l.length, 0) := by rw [bytesR, all_of hall (by omega), if_pos rfl]
    rw [hr]
    refine gom ?_
    refine WC.ret ?_
    refine WK.un ?_
    exact QF.p2 (.inl rfl) rfl (.tmp rfl) (.tmp rfl) (⟨B, c, o, rfl, rfl, hv, rfl⟩)
  have e2 : decide ((k : Int) < (l.length : Int)) = true := decide_eq_true (by omega)
  obtain ⟨i, hi⟩ : ∃ i, l[k]? = some i := ⟨_, List.getElem?_eq_getElem (by omega)⟩
  obtain ⟨ib, io, ics, rfl, hik, hic⟩ := hA k i hi
  obtain rfl : ics = [.int .i64 i.1, .int .i64 i.2] := hik
  have x0 : (0 : Int) ≤ (k : Int) := by omega
  have x1' : (k : Int) < (l.length : Int) := by omega
  refine gom ?_
  refine WL.op (by kernel_rfl) (OW.alloc rfl fun b6 => ?_)
  refine gom ?_
  refine WL.op (by kernel_rfl) (OW.callK rfl (may_fn G i.1 i.2) rfl fun v' G' H' h hg => ?_)
  obtain ⟨he, rfl, rfl⟩ := h
  cases he
  cases hm : mayR i.1 i.2 with
  | false =>
    have hr : bytesR l = ([], 180) := by rw [bytesR, all_not hi (show mayI i = false from hm)]; rfl
    rw [hr]
    refine gom ?_
    refine WC.nothing ?_
    refine WC.ret ?_
    refine WK.un ?_
    exact QF.p2 (.inl rfl) rfl (.tmp rfl) (.tmp rfl) (⟨none, 0, _, rfl, rfl, BVec.nil, rfl⟩)
  | true =>
  obtain ⟨b1, b2, b3, b4⟩ := mayI_bounds (i := i) hm
  have hle := flat_le hall
  have hlu := uintL_len10 (n := l.length) (by omega)
  have hel : (encP l k).length = (uintL l.length).length + ((l.take k).flatMap encI).length := by rw [encP, List.length_append]
  refine gom ?_
  refine WL.p (Gp.convTo (r := i.1) rfl (u8code ⟨b1, b2⟩)) (by kernel_rfl) rfl ?_
  refine WL.op (by kernel_rfl) (OW.buildSlice rfl (by kernel_rfl) (by kernel_rfl) (by rfl) rfl fun b24 => ?_)
  refine WL.op (by kernel_rfl) (OW.append rfl rfl (by kernel_rfl) (by kernel_rfl) hv (by (repeat first | exact .here | apply At.there)) (Rds.blk0 (cs := [.int .u8 i.1]) .here rfl) rfl rfl (by dsimp only; omega) (by dsimp only; omega) rfl fun A3 c3 o3 hv3 => ?_)
  have h3 := BVec.snoc hv3
  refine gom ?_
  refine WL.op (by kernel_rfl) (OW.callK rfl (rowOf_fn G i.1) rfl fun v' G' H' h hg => ?_)
  obtain ⟨he, rfl, rfl⟩ := h
  cases he
  refine WL.p (Gp.rowN (r := rowC i.1) rfl) (by kernel_rfl) rfl ?_
  have hl3 : (encP l k).length + 1 = (encP l k ++ [i.1]).length := by rw [List.length_append]; rfl
  have hst := all_step (f := mayI) hi hall hm
  cases hn : (rowC i.1).n with
  | true =>
    have hen : encP l (k + 1) = encP l k ++ [i.1] ++ uintL i.2.toNat := by rw [encP_snoc hi, encI, hn, List.append_assoc]; rfl
    refine gom ?_
    refine WL.p (Gp.convTo (r := ((i.2.toNat : Nat) : Int)) rfl (u64n ⟨b3, by omega⟩)) (by kernel_rfl) rfl ?_
    rw [hl3]
    refine WL.op (by kernel_rfl) (OW.callK rfl (putUint_fn G A3 (encP l k ++ [i.1]) c3 o3 h3 i.2.toNat (by omega) (by omega)) rfl fun v' G' H' h hg => ?_)
    obtain ⟨A4, c4, x4, he, rfl, h4, rfl⟩ := h
    cases he
    rw [← hen] at h4 ⊢
    refine gom ?_
    exact WK.again (k + 1, A4, c4, x4) (by dsimp only; omega) ⟨by dsimp only; omega, h4, hst⟩ (by exact ⟨rfl, rfl, rfl, rfl, trivial⟩) rfl (by first | exact List.Sublist.refl _ | simp)
  | false =>
    have hen : encP l (k + 1) = encP l k ++ [i.1] := by rw [encP_snoc hi, encI, hn]; rfl
    rw [← hen] at h3 hl3
    refine gom ?_
    refine WK.pick [o3] ?_
    exact WK.again (k + 1, A3, c3, o3) (by dsimp only; omega) ⟨by dsimp only; omega, h3, hst⟩ (by exact ⟨by show _ = some (Value.slice A3 _ c3); rw [← hl3]; rfl, rfl, rfl, rfl, trivial⟩) rfl (List.Sublist.refl _)

set_option maxHeartbeats 2000000 in
theorem rBytes_fn (G : Gh) (A : Option Addr) (l : List (Int × Int)) (cap : Nat) (hA : Sl Kd.ins G A l) (hl : l.length ≤ 9000000000000) :
    Fn Tryz.prog 30 #[.slice A l.length cap] G [] fun e G' H' => ∃ A' cap' x', e = .returned (.tuple #[.slice A' (bytesR l).1.length cap', .int .i64 (bytesR l).2]) ∧ G = G' ∧ BVec A' (bytesR l).1 cap' x' ∧ H' = [x'] := by
  refine Fn.enter Tryz.func30 rfl rfl fun w0 => ?_
  refine gom ?_
  refine WL.p (Gp.convTo (r := ((l.length : Nat) : Int)) rfl (by rw [u64n ⟨by omega, by omega⟩]; rfl)) (by kernel_rfl) rfl ?_
  refine WL.op (by kernel_rfl) (OW.callK rfl (rUint_fn G l.length (by omega)) rfl fun v' G' H' h hg => ?_)
  obtain ⟨A1, c1, x1, he, rfl, h1, rfl⟩ := h
  cases he
  have hbase : uintL l.length = encP l 0 := by simp [encP]
  rw [hbase] at h1 ⊢
  refine gom ?_
  refine WC.loop (X := Nat × Option Addr × Nat × Own) (fun s => [(4, .slice s.2.1 (encP l s.1).length s.2.2.1), (0, .slice A l.length cap), (5, .int .i64 s.1)]) (fun _ => G) (fun s => [s.2.2.2]) (fun s => l.length - s.1) (fun s => s.1 ≤ l.length ∧ BVec s.2.1 (encP l s.1) s.2.2.1 s.2.2.2 ∧ ∀ j i, j < s.1 → l[j]? = some i → mayI i = true) (0, A1, c1, x1) ⟨Nat.zero_le _, h1, (fun j i h => absurd h (Nat.not_lt_zero _))⟩ (by exact ⟨rfl, rfl, rfl, trivial⟩) rfl (List.Sublist.refl _) fun s hs => ?_
  obtain ⟨k, B, c, o⟩ := s
  obtain ⟨hk, hv, hall⟩ := hs
  dsimp only at hk hv hall
  have x2 := wrapS k (by omega)
  by_cases hlt : k < l.length
  rotate_left
  · have e2 : decide ((k : Int) < (l.length : Int)) = false := decide_eq_false (by omega)
    obtain rfl : k = l.length := by omega
    have hr : bytesR l = (encP l l.length, 0) := by rw [bytesR, all_of hall (by omega), if_pos rfl]
    rw [hr]
    refine gom ?_
    refine WC.ret ?_
    refine WK.un ?_
    exact QF.p2 (.inl rfl) rfl (.tmp rfl) (.tmp rfl) (⟨B, c, o, rfl, rfl, hv, rfl⟩)
  have e2 : decide ((k : Int) < (l.length : Int)) = true := decide_eq_true (by omega)
  obtain ⟨i, hi⟩ : ∃ i, l[k]? = some i := ⟨_, List.getElem?_eq_getElem (by omega)⟩
  obtain ⟨ib, io, ics, rfl, hik, hic⟩ := hA k i hi
  obtain rfl : ics = [.int .i64 i.1, .int .i64 i.2] := hik
  have x0 : (0 : Int) ≤ (k : Int) := by omega
  have x1' : (k : Int) < (l.length : Int) := by omega
  refine gom ?_
  refine WL.op (by kernel_rfl) (OW.callK rfl (lone_fn G i.1 i.2) rfl fun v' G' H' h hg => ?_)
  obtain ⟨he, rfl, rfl⟩ := h
  cases he
  cases hm : mayR i.1 i.2 with
  | false =>
    have hr : bytesR l = ([], 180) := by rw [bytesR, all_not hi (show mayI i = false from hm)]; rfl
    rw [hr]
    refine gom ?_
    refine WC.nothing ?_
    refine WC.ret ?_
    refine WK.un ?_
    exact QF.p2 (.inl rfl) rfl (.tmp rfl) (.tmp rfl) (⟨none, 0, _, rfl, rfl, BVec.nil, rfl⟩)
  | true =>
  obtain ⟨b1, b2, b3, b4⟩ := mayI_bounds (i := i) hm
  have hle := flat_le hall
  have hlu := uintL_len10 (n := l.length) (by omega)
  have hel : (encP l k).length = (uintL l.length).length + ((l.take k).flatMap encI).length := by rw [encP, List.length_append]
  refine gom ?_
  refine WL.p (Gp.convTo (r := i.1) rfl (u8code ⟨b1, b2⟩)) (by kernel_rfl) rfl ?_
  refine WL.op (by kernel_rfl) (OW.buildSlice rfl (by kernel_rfl) (by kernel_rfl) (by rfl) rfl fun b29 => ?_)
  refine WL.op (by kernel_rfl) (OW.append rfl rfl (by kernel_rfl) (by kernel_rfl) hv (by (repeat first | exact .here | apply At.there)) (Rds.blk0 (cs := [.int .u8 i.1]) .here rfl) rfl rfl (by dsimp only; omega) (by dsimp only; omega) rfl fun A3 c3 o3 hv3 => ?_)
  have h3 := BVec.snoc hv3
  refine gom ?_
  refine WL.op (by kernel_rfl) (OW.callK rfl (numb_fn G [] i.1) rfl fun v' G' H' h hg => ?_)
  obtain ⟨he, rfl, rfl⟩ := h
  cases he
  have hl3 : (encP l k).length + 1 = (encP l k ++ [i.1]).length := by rw [List.length_append]; rfl
  have hst := all_step (f := mayI) hi hall hm
  cases hn : (rowC i.1).n with
  | true =>
    have hen : encP l (k + 1) = encP l k ++ [i.1] ++ uintL i.2.toNat := by rw [encP_snoc hi, encI, hn, List.append_assoc]; rfl
    have hlu2 := uintL_len10 (n := i.2.toNat) (by omega)
    refine gom ?_
    refine WL.p (Gp.convTo (r := ((i.2.toNat : Nat) : Int)) rfl (u64n ⟨b3, by omega⟩)) (by kernel_rfl) rfl ?_
    refine WL.op (by kernel_rfl) (OW.callK rfl (rUint_fn G i.2.toNat (by omega)) rfl fun v' G' H' h hg => ?_)
    obtain ⟨A4, c4, x4, he, rfl, h4, rfl⟩ := h
    cases he
    rw [hl3]
    refine WL.op (by kernel_rfl) (OW.append rfl rfl (by kernel_rfl) (by kernel_rfl) h3 (by (repeat first | exact .here | apply At.there)) (h4.rds .here) (u8s_length _) (u8s_one _) (by first | omega | (dsimp only; omega)) (by first | omega | (dsimp only; omega)) rfl fun A5 c5 o5 hv5 => ?_)
    have h5 : BVec A5 (encP l (k + 1)) c5 o5 := by
      rw [hen]; unfold BVec; rw [u8s_append, List.length_append]; exact hv5
    have hl5 : (encP l k ++ [i.1]).length + (uintL i.2.toNat).length = (encP l (k + 1)).length := by rw [hen]; exact (List.length_append ..).symm
    refine gom ?_
    refine WK.pick [o5] ?_
    exact WK.again (k + 1, A5, c5, o5) (by dsimp only; omega) ⟨by dsimp only; omega, h5, hst⟩ (by exact ⟨by show _ = some (Value.slice A5 _ c5); rw [← hl5]; rfl, rfl, rfl, trivial⟩) rfl (List.Sublist.refl _)
  | false =>
    have hen : encP l (k + 1) = encP l k ++ [i.1] := by rw [encP_snoc hi, encI, hn]; rfl
    rw [← hen] at h3 hl3
    refine gom ?_
    refine WK.pick [o3] ?_
    exact WK.again (k + 1, A3, c3, o3) (by dsimp only; omega) ⟨by dsimp only; omega, h3, hst⟩ (by exact ⟨by show _ = some (Value.slice A3 _ c3); rw [← hl3]; rfl, rfl, rfl, trivial⟩) rfl (List.Sublist.refl _)
end Go.Proofs.YtkmigdmdppkpoaaGreatDoor.Gb
namespace Go.Proofs.YtkmigdmdppkpoaaGreatDoor.Gb
open Go Go.Proofs Go.RowKit Go.ChangeShapes Go.WideShapes Go.MapKept
set_option linter.unusedVariables false
set_option linter.unusedSimpArgs false
set_option linter.unusedSectionVars false

theorem list2 {α : Type} {l : List α} (h : l.length = 2) : ∃ a b, l = [a, b] := match l, h with | [a, b], _ => ⟨a, b, rfl⟩
theorem list4 {α : Type} {l : List α} (h : l.length = 4) : ∃ a b c d, l = [a, b, c, d] := match l, h with | [a, b, c, d], _ => ⟨a, b, c, d, rfl⟩
theorem list6 {α : Type} {l : List α} (h : l.length = 6) : ∃ a b c d e f, l = [a, b, c, d, e, f] := match l, h with | [a, b, c, d, e, f], _ => ⟨a, b, c, d, e, f, rfl⟩
theorem cellsV : Tryz.prog.cellsOf 99 = 4 := by kernel_rfl
theorem cellsI : Tryz.prog.cellsOf 50 = 2 := by kernel_rfl
theorem cellsP : Tryz.prog.cellsOf 45 = 6 := by kernel_rfl
theorem cells_int : Tryz.prog.cellsOf 3 = 1 := by kernel_rfl
theorem cells_typ : Tryz.prog.cellsOf 42 = 1 := by kernel_rfl
theorem cells_cod : Tryz.prog.cellsOf 48 = 1 := by kernel_rfl
theorem cells_i64 : Tryz.prog.cellsOf 2 = 1 := by kernel_rfl
theorem cells_bool : Tryz.prog.cellsOf 4 = 1 := by kernel_rfl
theorem cells_str : Tryz.prog.cellsOf 9 = 1 := by kernel_rfl
theorem cells_li : Tryz.prog.cellsOf 43 = 1 := by kernel_rfl
theorem cells_lt : Tryz.prog.cellsOf 31 = 1 := by kernel_rfl
theorem bytes_typ : Tryz.prog.bytesOf 42 = 8 := by kernel_rfl
theorem bytesI : Tryz.prog.bytesOf 50 = 16 := by kernel_rfl
section
attribute [local irreducible] Tryz.prog
variable {H : Type} (enc : TypeId × Value → H) (w : World)

theorem Opens.value : Opens enc Tryz.prog w 99 Kd.val (fun v => v.s.size ≤ 140737488351232) := by
  intro fuel cs d ps hd hw
  obtain ⟨hl, hf⟩ := field_open enc Tryz.prog w Tryz.underlying99 hd hw
  obtain ⟨c0, c1, c2, c3, rfl⟩ := list4 (hl.trans cellsV)
  obtain ⟨t, h0, _⟩ := hf 0 _ rfl rfl rfl cells_typ (Opens.int enc Tryz.prog w Tryz.underlying42)
  obtain ⟨i, h1, _⟩ := hf 1 _ rfl rfl rfl cells_i64 (Opens.int enc Tryz.prog w Tryz.underlying2)
  obtain ⟨b, h2, _⟩ := hf 2 _ rfl rfl rfl cells_bool (Opens.bool enc Tryz.prog w Tryz.underlying4)
  obtain ⟨s, h3, hs⟩ := hf 3 _ rfl rfl rfl cells_str (Opens.str enc Tryz.prog w Tryz.underlying9)
  have e0 : [c0] = [Value.int .i64 t] := h0
  have e1 : [c1] = [Value.int .i64 i] := h1
  have e2 : [c2] = [Value.bool b] := h2
  have e3 : [c3] = [Value.string s] := h3
  cases e0; cases e1; cases e2; cases e3
  exact ⟨⟨t, i, b, s⟩, rfl, hs⟩

theorem Opens.instr : Opens enc Tryz.prog w 50 Kd.ins (fun _ => True) := by
  intro fuel cs d ps hd hw
  obtain ⟨hl, hf⟩ := field_open enc Tryz.prog w Tryz.underlying50 hd hw
  obtain ⟨c0, c1, rfl⟩ := list2 (hl.trans cellsI)
  obtain ⟨c, h0, _⟩ := hf 0 _ rfl rfl rfl cells_cod (Opens.int enc Tryz.prog w Tryz.underlying48)
  obtain ⟨n, h1, _⟩ := hf 1 _ rfl rfl rfl cells_int (Opens.int enc Tryz.prog w Tryz.underlying3)
  have e0 : [c0] = [Value.int .i64 c] := h0
  have e1 : [c1] = [Value.int .i64 n] := h1
  cases e0; cases e1
  exact ⟨(c, n), rfl, trivial⟩

theorem Opens.proc : Opens enc Tryz.prog w 45 Kd.prc (fun p => p.params.length * 8 ≤ 140737488351232 ∧ p.code.length * 16 ≤ 140737488351232) := by
  intro fuel cs d ps hd hw
  obtain ⟨hl, hf⟩ := field_open enc Tryz.prog w Tryz.underlying45 hd hw
  obtain ⟨c0, c1, c2, c3, c4, c5, rfl⟩ := list6 (hl.trans cellsP)
  obtain ⟨nm, h0, _⟩ := hf 0 _ rfl rfl rfl cells_str (Opens.str enc Tryz.prog w Tryz.underlying9)
  obtain ⟨ex, h1, _⟩ := hf 1 _ rfl rfl rfl cells_bool (Opens.bool enc Tryz.prog w Tryz.underlying4)
  obtain ⟨pr, h2, hp⟩ := hf 2 _ rfl rfl rfl cells_lt (Opens.slice enc Tryz.prog w Tryz.underlying31 (k := Kd.int .i64) cells_typ (by decide) bytes_typ (Opens.int enc Tryz.prog w Tryz.underlying42))
  obtain ⟨lo, h3, _⟩ := hf 3 _ rfl rfl rfl cells_int (Opens.int enc Tryz.prog w Tryz.underlying3)
  obtain ⟨re, h4, _⟩ := hf 4 _ rfl rfl rfl cells_typ (Opens.int enc Tryz.prog w Tryz.underlying42)
  obtain ⟨co, h5, hc⟩ := hf 5 _ rfl rfl rfl cells_li (Opens.slice enc Tryz.prog w Tryz.underlying43 (k := Kd.ins) cellsI (by decide) bytesI (Opens.instr enc w))
  obtain ⟨PA, pc, h2', _, hPA⟩ := h2
  obtain ⟨CA, cc, h5', _, hCA⟩ := h5
  have e0 : [c0] = [Value.string nm] := h0
  have e1 : [c1] = [Value.bool ex] := h1
  have e2 : [c2] = [Value.slice PA pr.length pc] := h2'
  have e3 : [c3] = [Value.int .i64 lo] := h3
  have e4 : [c4] = [Value.int .i64 re] := h4
  have e5 : [c5] = [Value.slice CA co.length cc] := h5'
  cases e0; cases e1; cases e2; cases e3; cases e4; cases e5
  exact ⟨⟨nm, ex, pr, lo, re, co⟩, ⟨PA, pc, CA, cc, rfl, hPA, hCA⟩, hp.1, hc.1⟩


end

/-! #### what is compared -/
attribute [local irreducible] Tryz.prog
end Go.Proofs.YtkmigdmdppkpoaaGreatDoor.Gb
