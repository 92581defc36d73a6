/- The document finds the least states of a procedure: walked. What the document finds wrong with a procedure: walked. The document's look at a whole object: walked. The document's Heights and Types: walked. Verified code does not get stuck: the law, no program in sight. A way through a procedure: its small functions, walked. The least states are there; what is known of an object that was taken: no program in sight. CodeStates: walked. -/
import Derived.Test.YtkmigdmdppkpoaaGreatDoorWi
set_option linter.unusedVariables false
set_option linter.unusedSimpArgs false
set_option linter.unusedSectionVars false
namespace Go.Proofs.YtkmigdmdppkpoaaGreatDoor.Gb
open Go Go.Proofs Go.MapKept
set_option linter.unusedVariables false
set_option linter.unusedSimpArgs false
set_option linter.unusedSectionVars false
attribute [local irreducible] Tryz.prog
def Kd.rs : Kd SS where
  n := 4
  K G s cs := ∃ VA vc SA sc, cs = [.bool s.reached, .slice VA s.vars.length vc, .bool s.unlike, .slice SA s.stack.length sc] ∧ (s.vars.length ≤ vc ∧ s.stack.length ≤ sc) ∧ Sl (Kd.int .i64) G VA s.vars ∧ Sl (Kd.int .i64) G SA s.stack
  mono hg h := let ⟨VA, vc, SA, sc, h1, h0, h2, h3⟩ := h; ⟨VA, vc, SA, sc, h1, h0, h2.mono hg, h3.mono hg⟩
  len h := by obtain ⟨VA, vc, SA, sc, h1, _⟩ := h; rw [h1]; rfl
  one h := by obtain ⟨VA, vc, SA, sc, h1, _⟩ := h; rw [h1]; rfl
abbrev rsL (s : SS) (VA : Option Addr) (vc : Nat) (SA : Option Addr) (sc : Nat) : List Value := [.bool s.reached, .slice VA s.vars.length vc, .bool s.unlike, .slice SA s.stack.length sc]
theorem Kd.rs_rep {G : Gh} {s : SS} {es : List Value} (h : Kd.rs.K G s es) : ∃ VA vc SA sc, es = rsL s VA vc SA sc ∧ SRep G s VA vc SA sc := by
  obtain ⟨VA, vc, SA, sc, h1, ⟨h2, h3⟩, h4, h5⟩ := h
  exact ⟨VA, vc, SA, sc, h1, h2, h3, h4, h5⟩
theorem SRep.rd {G : Gh} {s : SS} {VA : Option Addr} {vc : Nat} {SA : Option Addr} {sc : Nat} (h : SRep G s VA vc SA sc) : Kd.rs.K G s (rsL s VA vc SA sc) :=
  ⟨VA, vc, SA, sc, rfl, ⟨h.hv, h.hs⟩, h.vars, h.stack⟩
theorem wt_le {n : Nat} {s : SS} (h : s.wf n) : wt n s ≤ n + 130 := by
  unfold wt
  split
  · omega
  · rename_i hr
    have hr : s.reached = true := by simpa using hr
    have h1 := nz_le s.vars
    have h2 := nz_le s.stack
    have h3 := h.vars hr
    have h4 := h.high
    split <;> omega
theorem sumW_le {n : Nat} : ∀ {l : List SS}, (∀ s ∈ l, s.wf n) → sumW n l ≤ l.length * (n + 130)
  | [], _ => by simp [sumW]
  | a :: l, h => by
    have h1 := wt_le (h a (List.mem_cons_self ..))
    have h2 := sumW_le (l := l) fun s hs => h s (List.mem_cons_of_mem _ hs)
    have e : sumW n (a :: l) = wt n a + sumW n l := by simp [sumW]
    rw [e, List.length_cons, Nat.add_mul]; omega
def bls (l : List Bool) : List Value := l.map Value.bool
theorem bls_rep : ∀ n : Nat, repS n [Value.bool false] = bls (List.replicate n false)
  | 0 => rfl
  | n + 1 => by simp only [repS, bls_rep n, List.replicate_succ]; rfl
abbrev WVec (wb : Nat) (l : List Bool) (c : Array Value) : Prop := Vec 4 1 (some ⟨wb, 0, none⟩) l.length l.length (bls l) (.blk wb (.cells c 4 (0, 0)))
theorem WVec.put {wb i : Nat} {l : List Bool} {c : Array Value} (h : WVec wb l c) (hi : i < l.length) (x : Bool) : i + 1 ≤ c.size ∧ WVec wb (l.set i x) (splice c i [.bool x]) := by
  obtain ⟨_, h2, h3⟩ := Vec.put1 h (o := i) (by omega) (.bool x)
  exact ⟨h2, by unfold WVec bls; rw [List.map_set, List.length_set]; exact h3⟩
theorem WVec.get {wb i : Nat} {l : List Bool} {c : Array Value} (h : WVec wb l c) {x : Bool} (hx : l[i]? = some x) : c[i]? = some (.bool x) := by
  obtain ⟨_, ⟨_, h, _⟩ | ⟨b, c', h1, h2, _, _, h3⟩⟩ := h
  · have := (List.getElem?_eq_some_iff.1 hx).1; omega
  · cases h2
    have h4 : (bls l)[i]? = some (.bool x) := by unfold bls; rw [List.getElem?_map, hx]; rfl
    rw [← h3, List.getElem?_take] at h4
    split at h4
    · simpa using h4
    · cases h4
abbrev QVec (A : Option Addr) (l : List Int) (cap : Nat) (x : Own) : Prop := IVec 3 A l cap x
theorem QVec.snoc {A : Option Addr} {l : List Int} {cap : Nat} {x : Own} {z : Int} (h : Vec 3 1 A (l.length + 1) cap (ints l ++ [.int .i64 z]) x) : QVec A (l ++ [z]) cap x := by
  unfold QVec IVec; rw [ints_append, List.length_append]; exact h
theorem QVec.pop {A : Option Addr} {l : List Int} {cap : Nat} {x : Own} {z : Int} (h : QVec A (l ++ [z]) cap x) : QVec A l cap x := by
  have h1 := Vec.cut (m := l.length) h (by simp)
  unfold QVec IVec
  rw [Nat.mul_one, ints_append, List.take_left' (by rw [ints_length, Nat.mul_one])] at h1
  exact h1
/-- where the document's search stands -/
structure FM where
  l : List SS
  T : List Int
  ws : List Bool
  G : Gh
  cs : List Value
  c : Array Value
  TA : Option Addr
  tc : Nat
  o : Own
  wc : Array Value
section
variable (G : Gh) (w : Wd) (p : Pr) (CA NA PA : Option Addr) (cc nc pc : Nat) (hW : RWp G w CA NA PA) (QA IA : Option Addr) (qc ic : Nat) (hQ : Sl (Kd.int .i64) G QA p.params) (hI : Sl Kd.ins G IA p.code) (hp : POk w p)
include hW hQ hI hp
set_option maxHeartbeats 4000000 in
theorem rStates_fn :
    Fn Tryz.prog 69 #[.agg (wdC w CA NA PA cc nc pc), .agg (prC p QA qc IA ic)] G []
      fun e G' H' => ∃ A tc l, e = .returned (.slice A l.length tc) ∧ G.le G' ∧ Sl Kd.rs G' A l ∧ l.length ≤ tc ∧ Least w p l ∧ H' = [] := by
  have hfew := hp.few
  have hpos := hp.pos
  have hpar := hp.par
  have hloc := hp.loc
  refine Fn.enter Tryz.func69 rfl rfl fun w0 => ?_
  refine WC.seq ?_
  refine WC.region ?_
  refine WL.op (by kernel_rfl) (OW.box rfl rfl fun b1 => ?_)
  refine WL.op (by kernel_rfl) (OW.box rfl rfl fun b2 => ?_)
  refine gom ?_
  refine WL.op (by kernel_rfl) (OW.makeSlice (n := 4) (z := .agg #[.bool false, .slice none 0 0, .bool false, .slice none 0 0]) rfl rfl rfl (by omega) (by omega) (by omega) rfl fun tb o1 ho1 => ?_)
  rw [Int.toNat_natCast] at ho1 ⊢
  obtain ⟨xb, xc, hxb, rfl⟩ := ho1.isBlk hpos
  obtain rfl : tb = xb := by cases hxb; rfl
  refine gom ?_
  refine WL.op (by kernel_rfl) (OW.alloc rfl fun b6 => ?_)
  refine gom ?_
  refine WL.nothing ?_
  refine WL.op (by kernel_rfl) (OW.append rfl rfl (by kernel_rfl) (by kernel_rfl) TVec.nilv (by (repeat first | exact .here | apply At.there)) hQ.ints (ints_length _) (ints_one _) (by first | omega | (dsimp only; omega)) (by first | omega | (dsimp only; omega)) rfl fun A1 c1 x1 hx1 => ?_)
  rw [Nat.zero_add] at hx1 ⊢
  rw [List.nil_append] at hx1
  refine WL.p (Gp.fieldAddr rfl) (by kernel_rfl) rfl ?_
  refine WL.op (by kernel_rfl) (OW.store rfl rfl (by (repeat first | exact .here | apply At.there)) rfl (by rfl) (by rfl) (by kernel_rfl) (by rfl) ?_ rfl)
  refine WL.nil ?_
  refine WK.un ?_
  refine gom ?_
  refine WC.pick [x1, .blk b6 (.cells #[.bool true, .slice A1 p.params.length c1, .bool false, .slice none 0 0] 95 (0, 0)), .blk tb (.cells xc 95 (0, 0)), .blk b1 (.cells (wdC w CA NA PA cc nc pc) 143 (0, 0)), .blk b2 (.cells (prC p QA qc IA ic) 45 (0, 0))] ?_
  refine WC.loop (X := List Int × Option Addr × Nat × Own) (fun t => [(2, .pointer (some ⟨b1, 0, none⟩)), (3, .pointer (some ⟨b2, 0, none⟩)), (5, .slice (some ⟨tb, 0, none⟩) p.code.length p.code.length), (6, .pointer (some ⟨b6, 0, none⟩))]) (fun _ => G) (fun t => [t.2.2.2, .blk b6 (.cells #[.bool true, .slice t.2.1 t.1.length t.2.2.1, .bool false, .slice none 0 0] 95 (0, 0)), .blk tb (.cells xc 95 (0, 0)), .blk b1 (.cells (wdC w CA NA PA cc nc pc) 143 (0, 0)), .blk b2 (.cells (prC p QA qc IA ic) 45 (0, 0))]) (fun t => p.locals.toNat - t.1.length)
    (fun t => p.params.length ≤ t.1.length ∧ (t.1.length : Int) ≤ p.locals ∧ t.1 = p.params ++ List.replicate (t.1.length - p.params.length) 0 ∧ TVec t.2.1 t.1 t.2.2.1 t.2.2.2) (p.params, A1, c1, x1)
    ⟨Nat.le_refl _, hpar, by simp, hx1⟩ (by exact ⟨rfl, rfl, rfl, rfl, trivial⟩) rfl (List.Sublist.refl _) fun t ht => ?_
  obtain ⟨vs, B, cv, o⟩ := t
  obtain ⟨hv1, hv2, hv3, hv⟩ := ht
  dsimp only at hv1 hv2 hv3 hv
  by_cases hlt : (vs.length : Int) < p.locals
  · have e2 : decide ((vs.length : Int) < p.locals) = true := decide_eq_true hlt
    refine gom ?_
    refine WL.op (by kernel_rfl) (OW.buildSlice rfl (by kernel_rfl) (by kernel_rfl) (by rfl) rfl fun b33 => ?_)
    refine WL.op (by kernel_rfl) (OW.append rfl rfl (by kernel_rfl) (by kernel_rfl) hv (by (repeat first | exact .here | apply At.there)) (Rds.blk0 (cs := [.int .i64 0]) (by (repeat first | exact .here | apply At.there)) rfl) rfl rfl (by first | omega | (dsimp only; omega)) (by first | omega | (dsimp only; omega)) rfl fun A3 c3 o3 hv3' => ?_)
    have h3 := TVec.snoc hv3'
    have hl3 : vs.length + 1 = (vs ++ [0]).length := by rw [List.length_append]; rfl
    refine gom ?_
    rw [hl3]
    refine WK.pick [o3, .blk b6 (.cells #[.bool true, .slice A3 (vs ++ [0]).length c3, .bool false, .slice none 0 0] 95 (0, 0)), .blk tb (.cells xc 95 (0, 0)), .blk b1 (.cells (wdC w CA NA PA cc nc pc) 143 (0, 0)), .blk b2 (.cells (prC p QA qc IA ic) 45 (0, 0))] ?_
    refine WK.again (vs ++ [0], A3, c3, o3) (by dsimp only; rw [← hl3]; omega) ⟨by dsimp only; rw [← hl3]; omega, by dsimp only; rw [← hl3]; omega, ?_, h3⟩ (by exact ⟨rfl, rfl, rfl, rfl, trivial⟩) rfl (List.Sublist.refl _)
    dsimp only
    rw [← hl3, show vs.length + 1 - p.params.length = (vs.length - p.params.length) + 1 by omega, List.replicate_succ', ← List.append_assoc, ← hv3]
  have e2 : decide ((vs.length : Int) < p.locals) = false := decide_eq_false hlt
  have hbv : vs = (beginS p).vars := by
    rw [hv3]
    show _ = p.params ++ List.replicate (p.locals.toNat - p.params.length) 0
    rw [show p.locals.toNat = vs.length by omega]
  clear hv3
  subst hbv
  have hbl : (beginS p).vars.length = p.locals.toNat := by omega
  refine gom ?_
  refine WL.frozenVec hv (by (repeat first | exact .here | apply At.there)) fun G2 hg2 z2 => ?_
  have hbs : Sl (Kd.int .i64) G2 B (beginS p).vars := IVec.sl z2
  have hbR : SRep G2 (beginS p) B cv none 0 := ⟨hv.le, Nat.le_refl _, hbs, Sl.nil _ _ _⟩
  obtain ⟨_, hfit1, hput1⟩ := Vec.put (i := 0) ho1 hpos (rsL (beginS p) B cv none 0) rfl
  have hble1 : Nat.ble (0 + (0 : Int).toNat * 4 + 4) xc.size = true := Nat.ble_eq_true_of_le hfit1
  have x0 : (0 : Int) < (p.code.length : Int) := by omega
  refine WL.op (by kernel_rfl) (OW.store (n := 4) (cs := rsL (beginS p) B cv none 0) rfl rfl (by (repeat first | exact .here | apply At.there)) rfl rfl rfl hble1 rfl ?_ rfl)
  refine gom ?_
  refine WL.op (by kernel_rfl) (OW.buildSlice rfl (by kernel_rfl) (by kernel_rfl) (by rfl) rfl fun b7 => ?_)
  refine gom ?_
  refine WL.op (by kernel_rfl) (OW.makeSlice (n := 1) (z := .bool false) rfl rfl rfl (by omega) (by omega) (by omega) rfl fun wb o2 ho2 => ?_)
  rw [Int.toNat_natCast] at ho2 ⊢
  obtain ⟨yb, yc, hyb, rfl⟩ := ho2.isBlk hpos
  obtain rfl : wb = yb := by cases hyb; rfl
  rw [show (Value.bool false).cells.toList = [Value.bool false] from rfl, bls_rep] at ho2
  have hw1 : WVec wb (List.replicate p.code.length false) yc := by unfold WVec; rw [List.length_replicate]; exact ho2
  obtain ⟨hfw, hw2⟩ := hw1.put (i := 0) (by simpa using hpos) true
  have hblew : Nat.ble (0 + (0 : Int).toNat * 1 + 1) yc.size = true := Nat.ble_eq_true_of_le hfw
  have hq1 : QVec (some ⟨b7, 0, none⟩) [0] 1 (.blk b7 (.cells #[.int .i64 0] 3 (0, 0))) := ⟨rfl, .inr ⟨b7, _, rfl, rfl, Nat.le_refl _, rfl, rfl⟩⟩
  refine gom ?_
  have hkv0 : KV Kd.rs G2 ((List.replicate p.code.length ss0).set 0 (beginS p)) ((repS p.code.length (Value.agg #[.bool false, .slice none 0 0, .bool false, .slice none 0 0]).cells.toList).take (0 * 4) ++ rsL (beginS p) B cv none 0 ++ (repS p.code.length (Value.agg #[.bool false, .slice none 0 0, .bool false, .slice none 0 0]).cells.toList).drop (0 * 4 + (rsL (beginS p) B cv none 0).length)) :=
    KV.set (k := Kd.rs) (KV.rep (k := Kd.rs) (x := ss0) ⟨none, 0, none, 0, rfl, ⟨Nat.le_refl _, Nat.le_refl _⟩, Sl.nil _ _ _, Sl.nil _ _ _⟩ _) hbR.rd (by simpa using hpos)
  have hinv0 := FInv.first (w := w) hpar hpos
  have hsum0 : 2 * sumW p.locals.toNat ((List.replicate p.code.length ss0).set 0 (beginS p)) + 1 ≤ 10000000 := by
    have h1 := sumW_le hinv0.wf
    have h2 : p.code.length * (p.locals.toNat + 130) ≤ 16384 * 194 := Nat.mul_le_mul hfew (by omega)
    rw [hinv0.len] at h1
    omega
  refine WC.pick [.blk b7 (.cells #[.int .i64 0] 3 (0, 0)), .blk tb (.cells _ 95 (0, 0)), .blk wb (.cells _ 4 (0, 0)), .blk b1 (.cells (wdC w CA NA PA cc nc pc) 143 (0, 0)), .blk b2 (.cells (prC p QA qc IA ic) 45 (0, 0))] ?_
  refine WC.loop (X := FM) (fun x => [(2, .pointer (some ⟨b1, 0, none⟩)), (3, .pointer (some ⟨b2, 0, none⟩)), (5, .slice (some ⟨tb, 0, none⟩) p.code.length p.code.length), (7, .slice x.TA x.T.length x.tc), (8, .slice (some ⟨wb, 0, none⟩) p.code.length p.code.length)]) (fun x => x.G) (fun x => [x.o, .blk tb (.cells x.c 95 (0, 0)), .blk wb (.cells x.wc 4 (0, 0)), .blk b1 (.cells (wdC w CA NA PA cc nc pc) 143 (0, 0)), .blk b2 (.cells (prC p QA qc IA ic) 45 (0, 0))]) (fun x => 2 * sumW p.locals.toNat x.l + x.T.length)
    (fun x => FInv w p x.l x.T ∧ (x.ws.length = p.code.length ∧ ∀ k : Nat, x.ws[k]? = some true → (k : Int) ∈ x.T) ∧ QVec x.TA x.T x.tc x.o ∧ Vec 95 4 (some ⟨tb, 0, none⟩) p.code.length p.code.length x.cs (.blk tb (.cells x.c 95 (0, 0))) ∧ WVec wb x.ws x.wc ∧ KV Kd.rs x.G x.l x.cs ∧ G2.le x.G ∧ 2 * sumW p.locals.toNat x.l + x.T.length ≤ 10000000)
    ⟨(List.replicate p.code.length ss0).set 0 (beginS p), [0], (List.replicate p.code.length false).set 0 true, G2, _, _, some ⟨b7, 0, none⟩, 1, .blk b7 (.cells #[.int .i64 0] 3 (0, 0)), _⟩ ⟨hinv0, ⟨by simp, fun k hk => by
      rw [List.getElem?_set] at hk
      split at hk
      · rename_i h; subst h; simp
      · rw [List.getElem?_replicate] at hk
        split at hk <;> simp at hk⟩, hq1, hput1, hw2, hkv0, Gh.le_refl _, hsum0⟩ (by exact ⟨rfl, rfl, rfl, rfl, rfl, trivial⟩) rfl (List.Sublist.refl _) fun x hx => ?_
  obtain ⟨l, T, ws, G3, cs, c, TA2, tc2, o, wc⟩ := x
  obtain ⟨hinv, ⟨hwl, hwt⟩, hqv, hsv, hwv, hkv, hg3, hsum⟩ := hx
  dsimp only at hinv hwl hwt hqv hsv hwv hkv hg3 hsum
  have hll := hinv.len
  by_cases hT0 : T.length = 0
  · have y0 : decide ((0 : Int) < (T.length : Int)) = false := decide_eq_false (by omega)
    refine gom ?_
    refine WC.frozenVec hsv (by (repeat first | exact .here | apply At.there)) fun G4 hg4 z4 => ?_
    have hT00 : T = [] := List.eq_nil_of_length_eq_zero hT0
    subst hT00
    rw [← hll]
    refine WC.ret ?_
    refine WK.un ?_
    exact QF.p1 (.inl rfl) rfl (.tmp rfl) (⟨some ⟨tb, 0, none⟩, l.length, l, rfl, Gh.le_trans hg2 (Gh.le_trans hg3 hg4), (hkv.mono hg4).sl (by decide) z4, Nat.le_refl _, hinv.least, rfl⟩)
  have y0 : decide ((0 : Int) < (T.length : Int)) = true := decide_eq_true (by omega)
  obtain ⟨T0, q, rfl⟩ : ∃ T0 q, T = T0 ++ [q] := ⟨T.dropLast, T.getLast (fun h => hT0 (by rw [h]; rfl)), (List.dropLast_concat_getLast _).symm⟩
  obtain ⟨kq, s0, hck, hs0, hr0⟩ := hinv.todo q (by simp)
  subst hck
  have hTl : (T0 ++ [(kq : Int)]).length = T0.length + 1 := by simp
  have hkq := (List.getElem?_eq_some_iff.1 hs0).1
  obtain ⟨i, hi⟩ : ∃ i, p.code[kq]? = some i := ⟨_, List.getElem?_eq_getElem (by omega)⟩
  obtain ⟨hi0, hiE⟩ := hp.ins kq i hi
  obtain ⟨ic1, in1⟩ := i
  obtain ⟨nn, rfl⟩ : ∃ nn : Nat, in1 = nn := ⟨in1.toNat, by dsimp only at hi0; omega⟩
  dsimp only at hiE
  rw [Int.toNat_natCast] at hiE
  have hw0 := hinv.wf s0 (List.mem_of_getElem? hs0)
  have hv0 := hw0.vars hr0
  obtain ⟨VA, vc, SA, sc, hes0, hS0⟩ := Kd.rs_rep (hkv.2 kq s0 hs0)
  have hst0 := hw0.high
  obtain ⟨ib, io, ics, rfl, hik, hic⟩ := hI kq _ hi
  obtain rfl : ics = [.int .i64 ic1, .int .i64 nn] := hik
  have hgg : G.le G3 := Gh.le_trans hg2 hg3
  have hic3 := hic.mono hgg
  obtain ⟨qb, qcs, rfl, rfl, hqc⟩ := hqv.some (by simp)
  have hqg : qcs[0 + (((T0.length : Nat) : Int)).toNat * 1]? = some (.int .i64 (kq : Int)) := by
    have := ivec_get hqc (i := T0.length) (x := (kq : Int)) (by simp)
    simpa using this
  have y1 : IntKind.i64.wrap (((T0 ++ [(kq : Int)]).length : Int) - 1) = ((T0.length : Nat) : Int) := by
    rw [hTl, wrapI (by omega) (by omega)]; omega
  have y2 : (0 : Int) ≤ ((T0.length : Nat) : Int) := by omega
  have y3 : ((T0.length : Nat) : Int) < (((T0 ++ [(kq : Int)]).length : Nat) : Int) := by rw [hTl]; omega
  have hqv0 := hqv.pop
  have z0 : (0 : Int) ≤ (kq : Int) := by omega
  have z1 : (kq : Int) < (p.code.length : Int) := by omega
  obtain ⟨hfq, hwv0⟩ := hwv.put (i := 0 + ((kq : Nat) : Int).toNat * 1) (by omega) false
  have hbleq : Nat.ble (0 + ((kq : Nat) : Int).toNat * 1 + 1) wc.size = true := Nat.ble_eq_true_of_le hfq
  refine gom ?_
  refine WL.p (Gp.sliceTo rfl rfl (by omega) (by have := hqv.le; show ((T0.length : Nat) : Int) ≤ ((tc2 : Nat) : Int); omega)) (by kernel_rfl) rfl ?_
  rw [Int.toNat_natCast]
  refine go ?_
  obtain ⟨sB, hsB⟩ : ∃ sB, sB = behR w (ic1, (nn : Int)) s0 := ⟨_, rfl⟩
  have hwB : sB.wf p.locals.toNat := by rw [hsB]; exact behR_wf hw0 hr0
  have hrB : sB.reached = true := by rw [hsB, behR_reached]; exact hr0
  have hin := hinv.into (T' := T0) (q := kq) (by simp) hi hs0 (fun x hx => by simp [hx]) (fun x hx hne => by
    rcases List.mem_append.1 hx with h | h
    · exact h
    · exact absurd (by simpa using h) hne)
  have hWG := hW.mono hgg
  have ekq : 0 + ((kq : Nat) : Int).toNat * 1 = kq := by omega
  have hwl0 : (ws.set (0 + ((kq : Nat) : Int).toNat * 1) false).length = p.code.length := by rw [List.length_set, hwl]
  have hwt0 : ∀ k : Nat, (ws.set (0 + ((kq : Nat) : Int).toNat * 1) false)[k]? = some true → (k : Int) ∈ T0 := fun k hk => by
    rw [ekq, List.getElem?_set] at hk
    split at hk
    · split at hk <;> cases hk
    · rename_i hne
      have := hwt k hk
      rcases List.mem_append.1 this with h | h
      · exact h
      · simp at h; omega
  refine WC.joinG (X := Gh × Option Addr × Nat × Option Addr × Nat × Nat) (fun t => [(2, .pointer (some ⟨b1, 0, none⟩)), (3, .pointer (some ⟨b2, 0, none⟩)), (5, .slice (some ⟨tb, 0, none⟩) p.code.length p.code.length), (7, .slice (some ⟨qb, 0, none⟩) T0.length tc2), (8, .slice (some ⟨wb, 0, none⟩) p.code.length p.code.length), (9, .int .i64 (kq : Int)), (10, .pointer (some ⟨t.2.2.2.2.2, 0, none⟩))]) (fun t => t.1)
    (fun t => [.blk t.2.2.2.2.2 (.cells (rsC sB t.2.1 t.2.2.1 t.2.2.2.1 t.2.2.2.2.1) 95 (0, 0)), .blk qb (.cells qcs 3 (0, 0)), .blk tb (.cells c 95 (0, 0)), .blk wb (.cells (splice wc (0 + ((kq : Nat) : Int).toNat * 1) [.bool false]) 4 (0, 0)), .blk b1 (.cells (wdC w CA NA PA cc nc pc) 143 (0, 0)), .blk b2 (.cells (prC p QA qc (some ⟨ib, io, none⟩) ic) 45 (0, 0))]) (fun t => G3.le t.1 ∧ SRep t.1 sB t.2.1 t.2.2.1 t.2.2.2.1 t.2.2.2.2.1) ?_ fun t ht => ?_
  · obtain ⟨rb, ro, hrr, hread⟩ := (Vec.rds hsv .here : Rds G3 [.blk tb (.cells c 95 (0, 0))] (some ⟨tb, 0, none⟩) cs).resolve_left (fun h => by have h1 := hkv.1; rw [h] at h1; simp [Kd.rs] at h1; omega)
    cases hrr
    have hbf := rbehind_fn G3 w p CA NA PA cc nc pc hWG QA (some ⟨ib, io, none⟩) qc ic s0 VA vc SA sc hS0 hr0 (by omega) (by omega) ic1 nn (by rw [hv0]; exact hiE)
    rw [← hsB] at hbf
    refine WC.drawS (Hs := [.blk tb (.cells c 95 (0, 0)), .blk b1 (.cells (wdC w CA NA PA cc nc pc) 143 (0, 0)), .blk b2 (.cells (prC p QA qc (some ⟨ib, io, none⟩) ic) 45 (0, 0))]) mixed (by repeat (first | exact Pk.nil | exact Pk.all | exact Pk.app | exact Pk.appR | with_reducible apply Pk.na | (apply Pk.cons; (repeat first | exact .here | apply Rem.there | apply Rem.app)) | apply Pk.skip | apply Pk.skipA)) ?_
    (first | (refine WB.tv (i := 0) rfl (by kernel_rfl) (by kernel_rfl) rfl (Gv.load1 rfl (by (repeat first | exact .here | apply At.there)) (by first | rfl | assumption)) ?_) | (refine WB.tv (i := 0) rfl (by kernel_rfl) (by kernel_rfl) rfl (Gv.loadN rfl (by (repeat first | exact .here | apply At.there)) (by rfl) (by rfl)) ?_) | (refine WB.tv (i := 0) rfl (by kernel_rfl) (by kernel_rfl) rfl (Gv.loadG1 rfl (by assumption) rfl) ?_) | (refine WB.tv (i := 0) rfl (by kernel_rfl) (by kernel_rfl) rfl (Gv.loadG0 rfl (by assumption) rfl) ?_) | (refine WB.tv (i := 0) rfl (by kernel_rfl) (by kernel_rfl) rfl (Gv.loadGN rfl (by assumption) rfl) ?_))
    (first | (refine WB.tv (i := 1) rfl (by kernel_rfl) (by kernel_rfl) rfl (Gv.load1 rfl (by (repeat first | exact .here | apply At.there)) (by first | rfl | assumption)) ?_) | (refine WB.tv (i := 1) rfl (by kernel_rfl) (by kernel_rfl) rfl (Gv.loadN rfl (by (repeat first | exact .here | apply At.there)) (by rfl) (by rfl)) ?_) | (refine WB.tv (i := 1) rfl (by kernel_rfl) (by kernel_rfl) rfl (Gv.loadG1 rfl (by assumption) rfl) ?_) | (refine WB.tv (i := 1) rfl (by kernel_rfl) (by kernel_rfl) rfl (Gv.loadG0 rfl (by assumption) rfl) ?_) | (refine WB.tv (i := 1) rfl (by kernel_rfl) (by kernel_rfl) rfl (Gv.loadGN rfl (by assumption) rfl) ?_))
    refine WB.tp (i := 2) rfl (by kernel_rfl) (by kernel_rfl) rfl (Gp.fieldAddr rfl) ?_
    (first | (refine WB.tv (i := 3) rfl (by kernel_rfl) (by kernel_rfl) rfl (Gv.load1 rfl (by (repeat first | exact .here | apply At.there)) (by first | rfl | assumption)) ?_) | (refine WB.tv (i := 3) rfl (by kernel_rfl) (by kernel_rfl) rfl (Gv.loadN rfl (by (repeat first | exact .here | apply At.there)) (by rfl) (by rfl)) ?_) | (refine WB.tv (i := 3) rfl (by kernel_rfl) (by kernel_rfl) rfl (Gv.loadG1 rfl (by assumption) rfl) ?_) | (refine WB.tv (i := 3) rfl (by kernel_rfl) (by kernel_rfl) rfl (Gv.loadG0 rfl (by assumption) rfl) ?_) | (refine WB.tv (i := 3) rfl (by kernel_rfl) (by kernel_rfl) rfl (Gv.loadGN rfl (by assumption) rfl) ?_))
    refine WB.tp (i := 4) rfl (by kernel_rfl) (by kernel_rfl) rfl (Gp.move rfl) ?_
    refine WB.tp (i := 5) rfl (by kernel_rfl) (by kernel_rfl) rfl (Gp.indexAddr rfl rfl (by first | assumption | omega | decide) (by first | assumption | omega | decide | (simp only [List.length_cons, List.length_nil]; decide))) ?_
    refine WB.tv (i := 6) rfl (by kernel_rfl) (by kernel_rfl) rfl (Gv.loadGN rfl hic3 rfl) ?_
    refine WB.tp (i := 7) rfl (by kernel_rfl) (by kernel_rfl) rfl (Gp.move rfl) ?_
    refine WB.tp (i := 8) rfl (by kernel_rfl) (by kernel_rfl) rfl (Gp.move rfl) ?_
    refine WB.tp (i := 9) rfl (by kernel_rfl) (by kernel_rfl) rfl (Gp.indexAddr rfl rfl (by first | assumption | omega | decide) (by first | assumption | omega | decide | (simp only [List.length_cons, List.length_nil]; decide))) ?_
    refine WB.tv (i := 10) rfl (by kernel_rfl) (by kernel_rfl) rfl (Gv.loadRN (i := ((kq : Nat) : Int).toNat * 4) rfl hread (.cons_cons _ (List.nil_sublist _)) hes0 rfl) ?_
    refine WB.two (i := 11) (j := 12) (by kernel_rfl) rfl rfl (by kernel_rfl) (by kernel_rfl) (OW.callK rfl hbf rfl fun v' G' H' h hg => ?_) (OW.alloc rfl fun b10 => ?_)
    · obtain ⟨V1, v1, S1, s1, he, hg4, hR4, rfl⟩ := h
      cases he
      refine ⟨fun w hw => (hw.pk (by repeat (first | exact Pk.nil | exact Pk.all | exact Pk.app | exact Pk.appR | with_reducible apply Pk.na | (apply Pk.cons; (repeat first | exact .here | apply Rem.there | apply Rem.app)) | apply Pk.skip | apply Pk.skipA))).le hg4, ?_⟩
      refine WB.one (i := 12) (by kernel_rfl) rfl (by kernel_rfl) (OW.alloc rfl fun b10 => ?_)
      refine ⟨fun w hw => (hw.pk (by repeat (first | exact Pk.nil | exact Pk.all | exact Pk.app | exact Pk.appR | with_reducible apply Pk.na | (apply Pk.cons; (repeat first | exact .here | apply Rem.there | apply Rem.app)) | apply Pk.skip | apply Pk.skipA))).le hg4, ?_⟩
      refine WB.one (i := 13) (by kernel_rfl) rfl (by kernel_rfl) (OW.store rfl rfl (by (repeat first | exact .here | apply At.there)) rfl (by rfl) (by rfl) (by kernel_rfl) (by rfl) ?_ rfl)
      refine ⟨fun w hw => (hw.pk (by repeat (first | exact Pk.nil | exact Pk.all | exact Pk.app | exact Pk.appR | with_reducible apply Pk.na | (apply Pk.cons; (repeat first | exact .here | apply Rem.there | apply Rem.app)) | apply Pk.skip | apply Pk.skipA))).le hg4, ?_⟩
      refine WB.done (by kernel_rfl) ?_
      refine WK.un ?_
      refine WK.pick [.blk b10 (.cells (rsC sB V1 v1 S1 s1) 95 (0, 0)), .blk qb (.cells qcs 3 (0, 0)), .blk tb (.cells c 95 (0, 0)), .blk wb (.cells (splice wc (0 + ((kq : Nat) : Int).toNat * 1) [.bool false]) 4 (0, 0)), .blk b1 (.cells (wdC w CA NA PA cc nc pc) 143 (0, 0)), .blk b2 (.cells (prC p QA qc (some ⟨ib, io, none⟩) ic) 45 (0, 0))] ?_
      exact WK.meet (G', V1, v1, S1, s1, b10) ⟨hg4, hR4⟩ (by exact ⟨rfl, rfl, rfl, rfl, rfl, rfl, rfl, trivial⟩) rfl (List.Sublist.refl _)
    · refine ⟨fun w hw => hw.pk (by repeat (first | exact Pk.nil | exact Pk.all | exact Pk.app | exact Pk.appR | with_reducible apply Pk.na | (apply Pk.cons; (repeat first | exact .here | apply Rem.there | apply Rem.app)) | apply Pk.skip | apply Pk.skipA)), ?_⟩
      refine WB.one (i := 11) (by kernel_rfl) rfl (by kernel_rfl) (OW.callK rfl hbf rfl fun v' G' H' h hg => ?_)
      obtain ⟨V1, v1, S1, s1, he, hg4, hR4, rfl⟩ := h
      cases he
      refine ⟨fun w hw => (hw.pk (by repeat (first | exact Pk.nil | exact Pk.all | exact Pk.app | exact Pk.appR | with_reducible apply Pk.na | (apply Pk.cons; (repeat first | exact .here | apply Rem.there | apply Rem.app)) | apply Pk.skip | apply Pk.skipA))).le hg4, ?_⟩
      refine WB.one (i := 13) (by kernel_rfl) rfl (by kernel_rfl) (OW.store rfl rfl (by (repeat first | exact .here | apply At.there)) rfl (by rfl) (by rfl) (by kernel_rfl) (by rfl) ?_ rfl)
      refine ⟨fun w hw => (hw.pk (by repeat (first | exact Pk.nil | exact Pk.all | exact Pk.app | exact Pk.appR | with_reducible apply Pk.na | (apply Pk.cons; (repeat first | exact .here | apply Rem.there | apply Rem.app)) | apply Pk.skip | apply Pk.skipA))).le hg4, ?_⟩
      refine WB.done (by kernel_rfl) ?_
      refine WK.un ?_
      refine WK.pick [.blk b10 (.cells (rsC sB V1 v1 S1 s1) 95 (0, 0)), .blk qb (.cells qcs 3 (0, 0)), .blk tb (.cells c 95 (0, 0)), .blk wb (.cells (splice wc (0 + ((kq : Nat) : Int).toNat * 1) [.bool false]) 4 (0, 0)), .blk b1 (.cells (wdC w CA NA PA cc nc pc) 143 (0, 0)), .blk b2 (.cells (prC p QA qc (some ⟨ib, io, none⟩) ic) 45 (0, 0))] ?_
      exact WK.meet (G', V1, v1, S1, s1, b10) ⟨hg4, hR4⟩ (by exact ⟨rfl, rfl, rfl, rfl, rfl, rfl, rfl, trivial⟩) rfl (List.Sublist.refl _)
  obtain ⟨G4, V1, v1, S1, s1, b10⟩ := t
  obtain ⟨hg4, hR4⟩ := ht
  dsimp only at hg4 hR4
  have hic4 := hic3.mono hg4
  refine gom ?_
  refine WL.op (by kernel_rfl) (OW.callK rfl (ronwards_fn _ ic1 nn kq (by omega)) rfl fun v' G' H' h hg => ?_)
  obtain ⟨XA, xcap, he, hg5, hx5, rfl⟩ := h
  cases he
  obtain ⟨nx, hnx⟩ : ∃ nx, nx = onwR (ic1, (nn : Int)) kq := ⟨_, rfl⟩
  rw [← hnx] at hx5 ⊢
  have hnxl : nx.length ≤ 2 := by rw [hnx]; exact onwR_len _ _
  refine gom ?_
  refine WC.pick [.blk b10 (.cells (rsC sB V1 v1 S1 s1) 95 (0, 0)), .blk qb (.cells qcs 3 (0, 0)), .blk tb (.cells c 95 (0, 0)), .blk wb (.cells (splice wc (0 + ((kq : Nat) : Int).toNat * 1) [.bool false]) 4 (0, 0)), .blk b1 (.cells (wdC w CA NA PA cc nc pc) 143 (0, 0)), .blk b2 (.cells (prC p QA qc (some ⟨ib, io, none⟩) ic) 45 (0, 0))] ?_
  refine WC.loop (X := Nat × FM) (fun x => [(2, .pointer (some ⟨b1, 0, none⟩)), (3, .pointer (some ⟨b2, 0, none⟩)), (5, .slice (some ⟨tb, 0, none⟩) p.code.length p.code.length), (7, .slice x.2.TA x.2.T.length x.2.tc), (8, .slice (some ⟨wb, 0, none⟩) p.code.length p.code.length), (10, .pointer (some ⟨b10, 0, none⟩)), (11, .slice XA nx.length xcap), (12, .int .i64 (x.1 : Int))]) (fun x => x.2.G) (fun x => [.blk b10 (.cells (rsC sB V1 v1 S1 s1) 95 (0, 0)), x.2.o, .blk tb (.cells x.2.c 95 (0, 0)), .blk wb (.cells x.2.wc 4 (0, 0)), .blk b1 (.cells (wdC w CA NA PA cc nc pc) 143 (0, 0)), .blk b2 (.cells (prC p QA qc (some ⟨ib, io, none⟩) ic) 45 (0, 0))]) (fun x => nx.length - x.1)
    (fun x => x.1 ≤ nx.length ∧ FIn w p x.2.l x.2.T kq (ic1, (nn : Int)) s0 ((nx.take x.1).reverse) ∧ (x.2.ws.length = p.code.length ∧ ∀ k : Nat, x.2.ws[k]? = some true → (k : Int) ∈ x.2.T) ∧ QVec x.2.TA x.2.T x.2.tc x.2.o ∧ Vec 95 4 (some ⟨tb, 0, none⟩) p.code.length p.code.length x.2.cs (.blk tb (.cells x.2.c 95 (0, 0))) ∧ WVec wb x.2.ws x.2.wc ∧ KV Kd.rs x.2.G x.2.l x.2.cs ∧ G'.le x.2.G ∧ 2 * sumW p.locals.toNat x.2.l + x.2.T.length ≤ 2 * sumW p.locals.toNat l + T0.length)
    (0, ⟨l, T0, ws.set (0 + ((kq : Nat) : Int).toNat * 1) false, G', cs, c, some ⟨qb, 0, none⟩, tc2, .blk qb (.cells qcs 3 (0, 0)), _⟩) ⟨Nat.zero_le _, hin, ⟨hwl0, hwt0⟩, hqv0, hsv, hwv0, hkv.mono (Gh.le_trans hg4 hg5), Gh.le_refl _, Nat.le_refl _⟩ (by exact ⟨rfl, rfl, rfl, rfl, rfl, rfl, rfl, rfl, trivial⟩) rfl (List.Sublist.refl _) fun x hx => ?_
  obtain ⟨j, l2, T2, ws2, G6, cs2, c2, TA3, tc3, o3, wc2⟩ := x
  obtain ⟨hj, hin2, ⟨hwl2, hwt2⟩, hqv2, hsv2, hwv2, hkv2, hg6, hμ2⟩ := hx
  dsimp only at hj hin2 hwl2 hwt2 hqv2 hsv2 hwv2 hkv2 hg6 hμ2
  by_cases hjl : j < nx.length
  rotate_left
  · have y1 : decide ((j : Int) < (nx.length : Int)) = false := decide_eq_false (by omega)
    have hdone := hin2.done (fun x hx => .inl (by have hx := (mem_onwR _ _ _).2 hx; rw [← hnx] at hx; rw [List.take_of_length_le (by omega)]; simpa using hx))
    refine gom ?_
    refine WK.pick [o3, .blk tb (.cells c2 95 (0, 0)), .blk wb (.cells wc2 4 (0, 0)), .blk b1 (.cells (wdC w CA NA PA cc nc pc) 143 (0, 0)), .blk b2 (.cells (prC p QA qc (some ⟨ib, io, none⟩) ic) 45 (0, 0))] ?_
    exact WK.again ⟨l2, T2, ws2, G6, cs2, c2, TA3, tc3, o3, wc2⟩ (by dsimp only; rw [hTl]; omega) ⟨hdone, ⟨hwl2, hwt2⟩, hqv2, hsv2, hwv2, hkv2, Gh.le_trans hg3 (Gh.le_trans hg4 (Gh.le_trans hg5 hg6)), by dsimp only; rw [hTl] at hsum; omega⟩ (by exact ⟨rfl, rfl, rfl, rfl, rfl, trivial⟩) rfl (List.Sublist.refl _)
  have y1 : decide ((j : Int) < (nx.length : Int)) = true := decide_eq_true (by omega)
  obtain ⟨x, hx⟩ : ∃ x, nx[j]? = some x := ⟨_, List.getElem?_eq_getElem hjl⟩
  have hxm : x ∈ nextR (ic1, (nn : Int)) kq := (mem_onwR _ _ _).1 (by rw [← hnx]; exact List.mem_of_getElem? hx)
  have hx0 := nextR_nonneg hxm
  obtain ⟨k, rfl⟩ : ∃ k : Nat, x = k := ⟨x.toNat, by omega⟩
  have htake : (nx.take (j + 1)).reverse = (k : Int) :: (nx.take j).reverse := by rw [List.take_add_one, hx]; simp
  obtain ⟨xb', xo', rfl, hxc⟩ := hx5.at hx
  have hxc6 := hxc.mono hg6
  have w0' : (0 : Int) ≤ (j : Int) := by omega
  have w1 : (j : Int) < (nx.length : Int) := by omega
  have w2 := wrapS j (by omega)
  by_cases hkl : p.code.length ≤ k
  · have y2 : decide ((p.code.length : Int) ≤ (k : Int)) = true := decide_eq_true (by omega)
    refine gom ?_
    exact WK.again (j + 1, ⟨l2, T2, ws2, G6, cs2, c2, TA3, tc3, o3, wc2⟩) (by dsimp only; omega) ⟨by dsimp only; omega, by dsimp only; rw [htake]; exact hin2.pass (by omega), ⟨hwl2, hwt2⟩, hqv2, hsv2, hwv2, hkv2, hg6, hμ2⟩ (by exact ⟨rfl, rfl, rfl, rfl, rfl, rfl, rfl, rfl, trivial⟩) rfl (List.Sublist.refl _)
  have y2 : decide ((p.code.length : Int) ≤ (k : Int)) = false := decide_eq_false (by omega)
  have hl2 := hin2.len
  obtain ⟨s, hs⟩ : ∃ s, l2[k]? = some s := ⟨_, List.getElem?_eq_getElem (by omega)⟩
  have hws := hin2.wf s (List.mem_of_getElem? hs)
  have hvs : s.vars.length ≤ 1000 := by
    cases hr : s.reached with
    | false => rw [hws.bare hr]; simp
    | true => rw [hws.vars hr]; omega
  have hks := hws.high
  obtain ⟨VK, vk, SK, sk, hesk, hSk⟩ := Kd.rs_rep (hkv2.2 k s hs)
  have hR6 := hR4.mono (Gh.le_trans hg5 hg6)
  obtain ⟨rb, ro, hrr, hread⟩ := (Vec.rds hsv2 .here : Rds G6 [.blk tb (.cells c2 95 (0, 0))] (some ⟨tb, 0, none⟩) cs2).resolve_left (fun h => by have h1 := hkv2.1; rw [h] at h1; simp [Kd.rs] at h1; omega)
  cases hrr
  have v0' : (0 : Int) ≤ (k : Int) := by omega
  have v1' : (k : Int) < (p.code.length : Int) := by omega
  obtain ⟨sJ, hsJ⟩ : ∃ sJ, sJ = joinS s sB := ⟨_, rfl⟩
  have hwJ : sJ.wf p.locals.toNat := by rw [hsJ]; exact joinS_wf hws hwB
  have hvJ : sJ.vars.length ≤ 1000 := by
    cases hr : sJ.reached with
    | false => rw [hwJ.bare hr]; simp
    | true => rw [hwJ.vars hr]; omega
  have hkJ := hwJ.high
  refine go ?_
  refine WC.joinG (X := Gh × Option Addr × Nat × Option Addr × Nat × Nat) (fun t => [(2, .pointer (some ⟨b1, 0, none⟩)), (3, .pointer (some ⟨b2, 0, none⟩)), (5, .slice (some ⟨tb, 0, none⟩) p.code.length p.code.length), (7, .slice TA3 T2.length tc3), (8, .slice (some ⟨wb, 0, none⟩) p.code.length p.code.length), (10, .pointer (some ⟨b10, 0, none⟩)), (11, .slice (some ⟨xb', xo', none⟩) nx.length xcap), (12, .int .i64 (j : Int)), (13, .pointer (some ⟨t.2.2.2.2.2, 0, none⟩))]) (fun t => t.1)
    (fun t => [.blk t.2.2.2.2.2 (.cells (rsC sJ t.2.1 t.2.2.1 t.2.2.2.1 t.2.2.2.2.1) 95 (0, 0)), .blk b10 (.cells (rsC sB V1 v1 S1 s1) 95 (0, 0)), o3, .blk tb (.cells c2 95 (0, 0)), .blk wb (.cells wc2 4 (0, 0)), .blk b1 (.cells (wdC w CA NA PA cc nc pc) 143 (0, 0)), .blk b2 (.cells (prC p QA qc (some ⟨ib, io, none⟩) ic) 45 (0, 0))]) (fun t => G6.le t.1 ∧ SRep t.1 sJ t.2.1 t.2.2.1 t.2.2.2.1 t.2.2.2.2.1) ?_ fun t ht => ?_
  · refine WC.drawS (Hs := [.blk b10 (.cells (rsC sB V1 v1 S1 s1) 95 (0, 0)), .blk tb (.cells c2 95 (0, 0))]) mixed (by repeat (first | exact Pk.nil | exact Pk.all | exact Pk.app | exact Pk.appR | with_reducible apply Pk.na | (apply Pk.cons; (repeat first | exact .here | apply Rem.there | apply Rem.app)) | apply Pk.skip | apply Pk.skipA)) ?_
    refine WB.tp (i := 0) rfl (by kernel_rfl) (by kernel_rfl) rfl (Gp.move rfl) ?_
    refine WB.tp (i := 1) rfl (by kernel_rfl) (by kernel_rfl) rfl (Gp.move rfl) ?_
    refine WB.tp (i := 2) rfl (by kernel_rfl) (by kernel_rfl) rfl (Gp.move rfl) ?_
    refine WB.tp (i := 3) rfl (by kernel_rfl) (by kernel_rfl) rfl (Gp.indexAddr rfl rfl (by first | assumption | omega | decide) (by first | assumption | omega | decide | (simp only [List.length_cons, List.length_nil]; decide))) ?_
    refine WB.tv (i := 4) rfl (by kernel_rfl) (by kernel_rfl) rfl (Gv.loadG1 (i := 0) rfl hxc6 rfl) ?_
    refine WB.tp (i := 5) rfl (by kernel_rfl) (by kernel_rfl) rfl (Gp.indexAddr rfl rfl (by first | assumption | omega | decide) (by first | assumption | omega | decide | (simp only [List.length_cons, List.length_nil]; decide))) ?_
    refine WB.tv (i := 6) rfl (by kernel_rfl) (by kernel_rfl) rfl (Gv.loadRN (i := ((k : Nat) : Int).toNat * 4) rfl hread (List.sublist_cons_self _ _) hesk rfl) ?_
    (first | (refine WB.tv (i := 7) rfl (by kernel_rfl) (by kernel_rfl) rfl (Gv.load1 rfl (by (repeat first | exact .here | apply At.there)) (by first | rfl | assumption)) ?_) | (refine WB.tv (i := 7) rfl (by kernel_rfl) (by kernel_rfl) rfl (Gv.loadN rfl (by (repeat first | exact .here | apply At.there)) (by rfl) (by rfl)) ?_) | (refine WB.tv (i := 7) rfl (by kernel_rfl) (by kernel_rfl) rfl (Gv.loadG1 rfl (by assumption) rfl) ?_) | (refine WB.tv (i := 7) rfl (by kernel_rfl) (by kernel_rfl) rfl (Gv.loadG0 rfl (by assumption) rfl) ?_) | (refine WB.tv (i := 7) rfl (by kernel_rfl) (by kernel_rfl) rfl (Gv.loadGN rfl (by assumption) rfl) ?_))
    have hjf := rjoin_fn G6 s sB VK V1 vk v1 SK S1 sk s1 hSk hR6 (fun h1 h2 => by rw [hws.vars h1, hwB.vars h2]) (by omega) (by omega)
    rw [← hsJ] at hjf
    refine WB.two (i := 8) (j := 9) (by kernel_rfl) rfl rfl (by kernel_rfl) (by kernel_rfl) (OW.callK rfl hjf rfl fun v' G' H' h hg => ?_) (OW.alloc rfl fun b13 => ?_)
    · obtain ⟨V2, v2, S2, s2, he, hg7, hR7, rfl⟩ := h
      cases he
      refine ⟨fun w hw => (hw.pk (by repeat (first | exact Pk.nil | exact Pk.all | exact Pk.app | exact Pk.appR | with_reducible apply Pk.na | (apply Pk.cons; (repeat first | exact .here | apply Rem.there | apply Rem.app)) | apply Pk.skip | apply Pk.skipA))).le hg7, ?_⟩
      refine WB.one (i := 9) (by kernel_rfl) rfl (by kernel_rfl) (OW.alloc rfl fun b13 => ?_)
      refine ⟨fun w hw => (hw.pk (by repeat (first | exact Pk.nil | exact Pk.all | exact Pk.app | exact Pk.appR | with_reducible apply Pk.na | (apply Pk.cons; (repeat first | exact .here | apply Rem.there | apply Rem.app)) | apply Pk.skip | apply Pk.skipA))).le hg7, ?_⟩
      refine WB.one (i := 10) (by kernel_rfl) rfl (by kernel_rfl) (OW.store rfl rfl (by (repeat first | exact .here | apply At.there)) rfl (by rfl) (by rfl) (by kernel_rfl) (by rfl) ?_ rfl)
      refine ⟨fun w hw => (hw.pk (by repeat (first | exact Pk.nil | exact Pk.all | exact Pk.app | exact Pk.appR | with_reducible apply Pk.na | (apply Pk.cons; (repeat first | exact .here | apply Rem.there | apply Rem.app)) | apply Pk.skip | apply Pk.skipA))).le hg7, ?_⟩
      refine WB.done (by kernel_rfl) ?_
      refine WK.un ?_
      refine WK.pick [.blk b13 (.cells (rsC sJ V2 v2 S2 s2) 95 (0, 0)), .blk b10 (.cells (rsC sB V1 v1 S1 s1) 95 (0, 0)), o3, .blk tb (.cells c2 95 (0, 0)), .blk wb (.cells wc2 4 (0, 0)), .blk b1 (.cells (wdC w CA NA PA cc nc pc) 143 (0, 0)), .blk b2 (.cells (prC p QA qc (some ⟨ib, io, none⟩) ic) 45 (0, 0))] ?_
      exact WK.meet (G', V2, v2, S2, s2, b13) ⟨hg7, hR7⟩ (by exact ⟨rfl, rfl, rfl, rfl, rfl, rfl, rfl, rfl, rfl, trivial⟩) rfl (List.Sublist.refl _)
    · refine ⟨fun w hw => hw.pk (by repeat (first | exact Pk.nil | exact Pk.all | exact Pk.app | exact Pk.appR | with_reducible apply Pk.na | (apply Pk.cons; (repeat first | exact .here | apply Rem.there | apply Rem.app)) | apply Pk.skip | apply Pk.skipA)), ?_⟩
      refine WB.one (i := 8) (by kernel_rfl) rfl (by kernel_rfl) (OW.callK rfl hjf rfl fun v' G' H' h hg => ?_)
      obtain ⟨V2, v2, S2, s2, he, hg7, hR7, rfl⟩ := h
      cases he
      refine ⟨fun w hw => (hw.pk (by repeat (first | exact Pk.nil | exact Pk.all | exact Pk.app | exact Pk.appR | with_reducible apply Pk.na | (apply Pk.cons; (repeat first | exact .here | apply Rem.there | apply Rem.app)) | apply Pk.skip | apply Pk.skipA))).le hg7, ?_⟩
      refine WB.one (i := 10) (by kernel_rfl) rfl (by kernel_rfl) (OW.store rfl rfl (by (repeat first | exact .here | apply At.there)) rfl (by rfl) (by rfl) (by kernel_rfl) (by rfl) ?_ rfl)
      refine ⟨fun w hw => (hw.pk (by repeat (first | exact Pk.nil | exact Pk.all | exact Pk.app | exact Pk.appR | with_reducible apply Pk.na | (apply Pk.cons; (repeat first | exact .here | apply Rem.there | apply Rem.app)) | apply Pk.skip | apply Pk.skipA))).le hg7, ?_⟩
      refine WB.done (by kernel_rfl) ?_
      refine WK.un ?_
      refine WK.pick [.blk b13 (.cells (rsC sJ V2 v2 S2 s2) 95 (0, 0)), .blk b10 (.cells (rsC sB V1 v1 S1 s1) 95 (0, 0)), o3, .blk tb (.cells c2 95 (0, 0)), .blk wb (.cells wc2 4 (0, 0)), .blk b1 (.cells (wdC w CA NA PA cc nc pc) 143 (0, 0)), .blk b2 (.cells (prC p QA qc (some ⟨ib, io, none⟩) ic) 45 (0, 0))] ?_
      exact WK.meet (G', V2, v2, S2, s2, b13) ⟨hg7, hR7⟩ (by exact ⟨rfl, rfl, rfl, rfl, rfl, rfl, rfl, rfl, rfl, trivial⟩) rfl (List.Sublist.refl _)
  obtain ⟨G7, V2, v2, S2, s2, b13⟩ := t
  obtain ⟨hg7, hR7⟩ := ht
  dsimp only at hg7 hR7
  have hread7 : ∀ w, Sat G7 [.blk tb (.cells c2 95 (0, 0))] w → ∀ j v, cs2[j]? = some v → w.cell? ⟨tb, 0 + j, none⟩ = some v := fun w hw => hread w (hw.le hg7)
  have hSk7 := hSk.mono hg7
  have hxc7 := hxc6.mono hg7
  have hsf := ralike_fn G7 sJ s V2 VK v2 vk S2 SK s2 sk hR7 hSk7 (by omega) (by omega)
  refine gom ?_
  refine WQ.tv (Gv.loadRN (i := ((k : Nat) : Int).toNat * 4) rfl hread7 (.cons _ (.cons _ (.cons _ (.cons_cons _ (List.nil_sublist _))))) hesk rfl) (by kernel_rfl) (by kernel_rfl) rfl ?_
  refine WQ.one (by kernel_rfl) (by kernel_rfl) (OW.callK rfl (hsf) rfl fun v' G' H' h hg => ?_)
  obtain ⟨he, rfl, rfl⟩ := h
  cases he
  by_cases heq : sJ = s
  · rw [decide_eq_true heq]
    refine gom ?_
    refine WK.pick [.blk b10 (.cells (rsC sB V1 v1 S1 s1) 95 (0, 0)), o3, .blk tb (.cells c2 95 (0, 0)), .blk wb (.cells wc2 4 (0, 0)), .blk b1 (.cells (wdC w CA NA PA cc nc pc) 143 (0, 0)), .blk b2 (.cells (prC p QA qc (some ⟨ib, io, none⟩) ic) 45 (0, 0))] ?_
    exact WK.again (j + 1, ⟨l2, T2, ws2, G7, cs2, c2, TA3, tc3, o3, wc2⟩) (by dsimp only; omega) ⟨by dsimp only; omega, by dsimp only; rw [htake]; exact hin2.same hs (by rw [← hsB, ← hsJ]; exact heq), ⟨hwl2, hwt2⟩, hqv2, hsv2, hwv2, hkv2.mono hg7, Gh.le_trans hg6 hg7, hμ2⟩ (by exact ⟨rfl, rfl, rfl, rfl, rfl, rfl, rfl, rfl, trivial⟩) rfl (List.Sublist.refl _)
  rw [decide_eq_false heq]
  refine WQ.done (by kernel_rfl) ?_
  refine go ?_
  obtain ⟨_, hfitK, hputK⟩ := Vec.put hsv2 (show k < p.code.length by omega) (rsL sJ V2 v2 S2 s2) rfl
  have hfitK' : k * 4 + 4 ≤ c2.size := hfitK
  have hbleK : Nat.ble (0 + ((k : Nat) : Int).toNat * 4 + 4) c2.size = true := Nat.ble_eq_true_of_le (by omega)
  have hkv9 := KV.set (k := Kd.rs) (hkv2.mono hg7) hR7.rd (i := k) (by omega)
  have hne : joinS s (behR w (ic1, (nn : Int)) s0) ≠ s := by rw [← hsB, ← hsJ]; exact heq
  have hrise := hin2.rises hs hne
  rw [← hsB, ← hsJ] at hrise
  have ek : 0 + ((k : Nat) : Int).toNat * 4 = k * 4 := by omega
  have ek1 : 0 + ((k : Nat) : Int).toNat * 1 = k := by omega
  rw [← ek] at hputK
  refine WC.draw mixed ?_
  refine WA.tp (i := 0) rfl (by kernel_rfl) (by kernel_rfl) rfl (Gp.move rfl) ?_
  refine WA.tp (i := 1) rfl (by kernel_rfl) (by kernel_rfl) rfl (Gp.move rfl) ?_
  refine WA.tp (i := 2) rfl (by kernel_rfl) (by kernel_rfl) rfl (Gp.move rfl) ?_
  refine WA.tp (i := 3) rfl (by kernel_rfl) (by kernel_rfl) rfl (Gp.indexAddr rfl rfl (by first | assumption | omega | decide) (by first | assumption | omega | decide | (simp only [List.length_cons, List.length_nil]; decide))) ?_
  refine WA.tv (i := 4) rfl (by kernel_rfl) (by kernel_rfl) rfl (Gv.loadG1 (i := 0) rfl hxc7 rfl) ?_
  (first | (refine WA.tv (i := 5) rfl (by kernel_rfl) (by kernel_rfl) rfl (Gv.load1 rfl (by (repeat first | exact .here | apply At.there)) (by first | rfl | assumption)) ?_) | (refine WA.tv (i := 5) rfl (by kernel_rfl) (by kernel_rfl) rfl (Gv.loadN rfl (by (repeat first | exact .here | apply At.there)) (by rfl) (by rfl)) ?_) | (refine WA.tv (i := 5) rfl (by kernel_rfl) (by kernel_rfl) rfl (Gv.loadG1 rfl (by assumption) rfl) ?_) | (refine WA.tv (i := 5) rfl (by kernel_rfl) (by kernel_rfl) rfl (Gv.loadG0 rfl (by assumption) rfl) ?_) | (refine WA.tv (i := 5) rfl (by kernel_rfl) (by kernel_rfl) rfl (Gv.loadGN rfl (by assumption) rfl) ?_))
  refine WA.tp (i := 6) rfl (by kernel_rfl) (by kernel_rfl) rfl (Gp.indexAddr rfl rfl (by first | assumption | omega | decide) (by first | assumption | omega | decide | (simp only [List.length_cons, List.length_nil]; decide))) ?_
  refine WA.one (i := 7) (by kernel_rfl) rfl (by kernel_rfl) (OW.store (n := 4) (cs := rsL sJ V2 v2 S2 s2) rfl rfl (by (repeat first | exact .here | apply At.there)) rfl rfl rfl hbleK rfl ?_ rfl)
  refine WA.done (by kernel_rfl) ?_
  refine WK.un ?_
  obtain ⟨bk, hbk⟩ : ∃ bk, ws2[k]? = some bk := ⟨_, List.getElem?_eq_getElem (by omega)⟩
  have hwg : wc2[0 + ((k : Nat) : Int).toNat * 1]? = some (.bool bk) := hwv2.get (by rw [ek1]; exact hbk)
  cases bk with
  | true =>
    have hkT := hwt2 k hbk
    have hturn := hin2.turn (T' := T2) hxm hs (fun x => ⟨.inl, fun h => h.elim id fun e => by rw [e]; exact hkT⟩)
    rw [← hsB, ← hsJ] at hturn
    refine gom ?_
    refine WK.pick [.blk b10 (.cells (rsC sB V1 v1 S1 s1) 95 (0, 0)), o3, .blk tb (.cells (splice c2 (0 + ((k : Nat) : Int).toNat * 4) (rsL sJ V2 v2 S2 s2)) 95 (0, 0)), .blk wb (.cells wc2 4 (0, 0)), .blk b1 (.cells (wdC w CA NA PA cc nc pc) 143 (0, 0)), .blk b2 (.cells (prC p QA qc (some ⟨ib, io, none⟩) ic) 45 (0, 0))] ?_
    exact WK.again (j + 1, ⟨l2.set k sJ, T2, ws2, G7, _, _, TA3, tc3, o3, wc2⟩) (by dsimp only; omega) ⟨by dsimp only; omega, by dsimp only; rw [htake]; exact hturn, ⟨hwl2, hwt2⟩, hqv2, hputK, hwv2, by dsimp only; rw [ek]; exact hkv9, Gh.le_trans hg6 hg7, by dsimp only; omega⟩ (by exact ⟨rfl, rfl, rfl, rfl, rfl, rfl, rfl, rfl, trivial⟩) rfl (List.Sublist.refl _)
  | false =>
    have hturn := hin2.turn (T' := T2 ++ [(k : Int)]) hxm hs (fun x => by simp)
    rw [← hsB, ← hsJ] at hturn
    obtain ⟨hfk, hwv3⟩ := hwv2.put (i := 0 + ((k : Nat) : Int).toNat * 1) (by omega) true
    have hblek : Nat.ble (0 + ((k : Nat) : Int).toNat * 1 + 1) wc2.size = true := Nat.ble_eq_true_of_le hfk
    have hwl3 : (ws2.set (0 + ((k : Nat) : Int).toNat * 1) true).length = p.code.length := by rw [List.length_set, hwl2]
    have hwt3 : ∀ m : Nat, (ws2.set (0 + ((k : Nat) : Int).toNat * 1) true)[m]? = some true → (m : Int) ∈ T2 ++ [(k : Int)] := fun m hm => by
      rw [ek1, List.getElem?_set] at hm
      split at hm
      · rename_i h; subst h; simp
      · exact List.mem_append_left _ (hwt2 m hm)
    rw [hTl] at hsum
    refine gom ?_
    refine WL.op (by kernel_rfl) (OW.buildSlice rfl (by kernel_rfl) (by kernel_rfl) (by rfl) rfl fun b40 => ?_)
    refine WL.op (by kernel_rfl) (OW.append rfl rfl (by kernel_rfl) (by kernel_rfl) hqv2 (by (repeat first | exact .here | apply At.there)) (Rds.blk0 (cs := [.int .i64 (k : Int)]) (by (repeat first | exact .here | apply At.there)) rfl) rfl rfl (by first | omega | (dsimp only; omega)) (by first | omega | (dsimp only; omega)) rfl fun A9 c9 o9 hv9 => ?_)
    have hq9 := QVec.snoc hv9
    have hl9 : T2.length + 1 = (T2 ++ [(k : Int)]).length := by rw [List.length_append]; rfl
    refine gom ?_
    refine WK.pick [.blk b10 (.cells (rsC sB V1 v1 S1 s1) 95 (0, 0)), o9, .blk tb (.cells (splice c2 (0 + ((k : Nat) : Int).toNat * 4) (rsL sJ V2 v2 S2 s2)) 95 (0, 0)), .blk wb (.cells (splice wc2 (0 + ((k : Nat) : Int).toNat * 1) [.bool true]) 4 (0, 0)), .blk b1 (.cells (wdC w CA NA PA cc nc pc) 143 (0, 0)), .blk b2 (.cells (prC p QA qc (some ⟨ib, io, none⟩) ic) 45 (0, 0))] ?_
    exact WK.again (j + 1, ⟨l2.set k sJ, T2 ++ [(k : Int)], ws2.set (0 + ((k : Nat) : Int).toNat * 1) true, G7, _, _, A9, c9, o9, _⟩) (by dsimp only; omega) ⟨by dsimp only; omega, by dsimp only; rw [htake]; exact hturn, ⟨hwl3, hwt3⟩, hq9, hputK, hwv3, by dsimp only; rw [ek]; exact hkv9, Gh.le_trans hg6 hg7, by dsimp only; rw [← hl9]; omega⟩ (by exact ⟨rfl, rfl, rfl, by show _ = some (Value.slice A9 _ c9); rw [← hl9]; rfl, rfl, rfl, rfl, rfl, trivial⟩) rfl (List.Sublist.refl _)
end
end Go.Proofs.YtkmigdmdppkpoaaGreatDoor.Gb
namespace Go.Proofs.YtkmigdmdppkpoaaGreatDoor.Gb
open Go Go.Proofs Go.MapKept
set_option linter.unusedVariables false
set_option linter.unusedSimpArgs false
set_option linter.unusedSectionVars false
attribute [local irreducible] Tryz.prog
noncomputable def prOut (w : Wd) (p : Pr) : Int × Int :=
  if procR p = false then (0, 185)
  else if (firstR p.code.length (aloneAt w p)).2 ≠ 0 then firstR p.code.length (aloneAt w p)
  else wrongR w p (flowOf w p)
section
variable (G : Gh) (w : Wd) (p : Pr) (CA NA PA : Option Addr) (cc nc pc : Nat) (hW : RWp G w CA NA PA) (QA IA : Option Addr) (qc ic : Nat) (hQ : Sl (Kd.int .i64) G QA p.params) (hI : Sl Kd.ins G IA p.code) (hnl : p.name.size ≤ 100000000000000) (hql : p.params.length ≤ 100000000000000)
include hW hQ hI hnl hql
set_option maxHeartbeats 4000000 in
theorem rproc_fn :
    Fn Tryz.prog 100 #[.agg (wdC w CA NA PA cc nc pc), .agg (prC p QA qc IA ic)] G []
      fun e G' H' => e = .returned (.tuple #[.int .i64 (prOut w p).1, .int .i64 (prOut w p).2]) ∧ G.le G' ∧ H' = [] := by
  refine Fn.enter Tryz.func100 rfl rfl fun w0 => ?_
  refine WC.seq ?_
  refine WC.region ?_
  refine WL.op (by kernel_rfl) (OW.box rfl rfl fun b1 => ?_)
  refine WL.op (by kernel_rfl) (OW.box rfl rfl fun b2 => ?_)
  refine gom ?_
  refine WL.op (by kernel_rfl) (OW.callK rfl (rWord_fn G p.name hnl) rfl fun v' G' H' h hg => ?_)
  obtain ⟨he, hg1, rfl⟩ := h
  cases he
  clear hg
  obtain ⟨G1, rfl⟩ : ∃ G1, G1 = G' := ⟨_, rfl⟩
  cases h1 : wordR p.name with
  | false =>
    have hr : prOut w p = (0, 185) := by unfold prOut; rw [if_pos (by rw [procR, h1, Bool.false_and])]
    rw [hr]
    refine gom ?_
    refine WC.ret ?_
    refine WK.un ?_
    exact QF.p2 (.inl rfl) rfl (.tmp rfl) (.tmp rfl) (⟨rfl, hg1, rfl⟩)
  | true =>
  refine gom ?_
  refine WL.op (by kernel_rfl) (OW.callK rfl (rhead_fn G1 QA p.params qc p.result (hQ.mono hg1) hql) rfl fun v' G' H' h hg => ?_)
  obtain ⟨he, rfl, rfl⟩ := h
  cases he
  cases h2 : headR p.params p.result with
  | false =>
    have hr : prOut w p = (0, 185) := by unfold prOut; rw [if_pos (by rw [procR, h1, h2]; rfl)]
    rw [hr]
    refine gom ?_
    refine WC.ret ?_
    refine WK.un ?_
    exact QF.p2 (.inl rfl) rfl (.tmp rfl) (.tmp rfl) (⟨rfl, hg1, rfl⟩)
  | true =>
  cases h3 : decide ((p.params.length : Int) ≤ p.locals) with
  | false =>
    have hr : prOut w p = (0, 185) := by unfold prOut; rw [if_pos (by rw [procR, h1, h2, h3]; rfl)]
    rw [hr]
    have y3 := dgt h3
    refine gom ?_
    refine WC.ret ?_
    refine WK.un ?_
    exact QF.p2 (.inl rfl) rfl (.tmp rfl) (.tmp rfl) (⟨rfl, hg1, rfl⟩)
  | true =>
  have y3 := dgt h3
  cases h4 : decide (p.locals ≤ 64) with
  | false =>
    have hr : prOut w p = (0, 185) := by unfold prOut; rw [if_pos (by rw [procR, h1, h2, h3, h4]; rfl)]
    rw [hr]
    have y4 := dgt h4
    refine gom ?_
    refine WC.ret ?_
    refine WK.un ?_
    exact QF.p2 (.inl rfl) rfl (.tmp rfl) (.tmp rfl) (⟨rfl, hg1, rfl⟩)
  | true =>
  have y4 := dgt h4
  cases h5 : decide (1 ≤ (p.code.length : Int)) with
  | false =>
    have hr : prOut w p = (0, 185) := by unfold prOut; rw [if_pos (by rw [procR, h1, h2, h3, h4, h5]; rfl)]
    rw [hr]
    have y5 := dgt h5
    refine gom ?_
    refine WC.ret ?_
    refine WK.un ?_
    exact QF.p2 (.inl rfl) rfl (.tmp rfl) (.tmp rfl) (⟨rfl, hg1, rfl⟩)
  | true =>
  have y5 := dgt h5
  cases h6 : decide ((p.code.length : Int) ≤ 16384) with
  | false =>
    have hr : prOut w p = (0, 185) := by unfold prOut; rw [if_pos (by rw [procR, h1, h2, h3, h4, h5, h6]; rfl)]
    rw [hr]
    have y6 := dgt h6
    refine gom ?_
    refine WC.ret ?_
    refine WK.un ?_
    exact QF.p2 (.inl rfl) rfl (.tmp rfl) (.tmp rfl) (⟨rfl, hg1, rfl⟩)
  | true =>
  have y6 := dgt h6
  have hpr : procR p = true := by rw [procR, h1, h2, h3, h4, h5, h6]; rfl
  have hfew := (procR_head hpr).2.2.2
  refine gom ?_
  refine WC.pick [.blk b1 (.cells (wdC w CA NA PA cc nc pc) 143 (0, 0)), .blk b2 (.cells (prC p QA qc IA ic) 45 (0, 0))] ?_
  refine WC.loop (X := Nat) (fun j => [(2, .pointer (some ⟨b1, 0, none⟩)), (3, .pointer (some ⟨b2, 0, none⟩)), (6, .int .i64 (j : Int))]) (fun _ => G1) (fun _ => [.blk b1 (.cells (wdC w CA NA PA cc nc pc) 143 (0, 0)), .blk b2 (.cells (prC p QA qc IA ic) 45 (0, 0))])
    (fun j => p.code.length - j) (fun j => j ≤ p.code.length ∧ ∀ k : Nat, k < j → aloneAt w p k = 0) 0 ⟨Nat.zero_le _, fun k h => absurd h (Nat.not_lt_zero _)⟩ (by exact ⟨rfl, rfl, rfl, trivial⟩) rfl (List.Sublist.refl _) fun j hj => ?_
  obtain ⟨hj, hall⟩ := hj
  by_cases hlt : j < p.code.length
  · have e2 : decide ((j : Int) < (p.code.length : Int)) = true := decide_eq_true (by omega)
    obtain ⟨i, hi⟩ : ∃ i, p.code[j]? = some i := ⟨_, List.getElem?_eq_getElem hlt⟩
    obtain ⟨ib, io, ics, rfl, hik, hic⟩ := (hI.mono hg1) j _ hi
    obtain rfl : ics = [.int .i64 i.1, .int .i64 i.2] := hik
    have x0 : (0 : Int) ≤ (j : Int) := by omega
    have x1 : (j : Int) < (p.code.length : Int) := by omega
    have x2 := wrapS j (by omega)
    have haa : aloneAt w p j = itsR w p i.1 i.2 := by unfold aloneAt; rw [hi, itsR_eq hfew]
    refine gom ?_
    refine WQ.one (by kernel_rfl) (by kernel_rfl) (OW.callK rfl (ritself_fn G1 w p CA NA PA cc nc pc QA (some ⟨ib, io, none⟩) qc ic i.1 i.2) rfl fun v' G' H' h hg => ?_)
    obtain ⟨he, rfl, rfl⟩ := h
    cases he
    rw [← haa]
    by_cases ha : aloneAt w p j = 0
    · have e4 : (aloneAt w p j != 0) = false := by simpa using ha
      refine gom ?_
      refine WK.pick [.blk b1 (.cells (wdC w CA NA PA cc nc pc) 143 (0, 0)), .blk b2 (.cells (prC p QA qc (some ⟨ib, io, none⟩) ic) 45 (0, 0))] ?_
      exact WK.again (j + 1) (by omega) ⟨by omega, fun k hk => by
        rcases Nat.lt_or_ge k j with h | h
        · exact hall k h
        · obtain rfl : k = j := by omega
          exact ha⟩ (by exact ⟨rfl, rfl, rfl, trivial⟩) rfl (List.Sublist.refl _)
    · have e4 : (aloneAt w p j != 0) = true := by simpa using ha
      have hf : firstR p.code.length (aloneAt w p) = ((j : Int), aloneAt w p j) := firstR_at hlt hall ha
      have hr : prOut w p = ((j : Int), aloneAt w p j) := by unfold prOut; rw [if_neg (by rw [hpr]; simp), hf, if_pos ha]
      rw [hr]
      refine gom ?_
      refine WC.ret ?_
      refine WK.un ?_
      exact QF.p2 (.inl rfl) rfl (.tmp rfl) (.tmp rfl) (⟨rfl, hg1, rfl⟩)
  have e2 : decide ((j : Int) < (p.code.length : Int)) = false := decide_eq_false (by omega)
  have hf : firstR p.code.length (aloneAt w p) = (0, 0) := firstR_none fun k hk => hall k (by omega)
  have hpo : POk w p := pok_of hpr fun k i hi => by
    have := hall k (by have := (List.getElem?_eq_some_iff.1 hi).1; omega)
    unfold aloneAt at this; rw [hi] at this; exact this
  refine gom ?_
  refine WL.op (by kernel_rfl) (OW.callK rfl (rStates_fn G1 w p CA NA PA cc nc pc (hW.mono hg1) QA IA qc ic (hQ.mono hg1) (hI.mono hg1) hpo) rfl fun v' G' H' h hg => ?_)
  obtain ⟨TA, tc, l, he, hg2, hT, htc, hle, rfl⟩ := h
  cases he
  clear hg
  obtain ⟨G2, rfl⟩ : ∃ G2, G2 = G' := ⟨_, rfl⟩
  have hcl := hle.closed
  have hll := hcl.len
  have hr : prOut w p = wrongR w p l := by unfold prOut; rw [if_neg (by rw [hpr]; simp), hf, if_neg (by simp), hle.flow]
  have hg12 := Gh.le_trans hg1 hg2
  rw [hr]
  refine gom ?_
  refine WC.pick [.blk b1 (.cells (wdC w CA NA PA cc nc pc) 143 (0, 0)), .blk b2 (.cells (prC p QA qc IA ic) 45 (0, 0))] ?_
  refine WC.loop (X := Nat × Gh) (fun x => [(2, .pointer (some ⟨b1, 0, none⟩)), (3, .pointer (some ⟨b2, 0, none⟩)), (8, .slice TA l.length tc), (9, .int .i64 (x.1 : Int))]) (fun x => x.2) (fun _ => [.blk b1 (.cells (wdC w CA NA PA cc nc pc) 143 (0, 0)), .blk b2 (.cells (prC p QA qc IA ic) 45 (0, 0))])
    (fun x => l.length - x.1) (fun x => x.1 ≤ l.length ∧ G2.le x.2 ∧ ∀ k : Nat, k < x.1 → badAt w p l k = 0) (0, G2) ⟨Nat.zero_le _, Gh.le_refl _, fun k h => absurd h (Nat.not_lt_zero _)⟩ (by exact ⟨rfl, rfl, rfl, rfl, trivial⟩) rfl (List.Sublist.refl _) fun x hx => ?_
  obtain ⟨k, G3⟩ := x
  obtain ⟨hk, hg3, hall2⟩ := hx
  dsimp only at hk hg3 hall2
  by_cases hlt2 : k < l.length
  rotate_left
  · have e3 : decide ((k : Int) < (p.code.length : Int)) = false := decide_eq_false (by omega)
    rw [show wrongR w p l = (0, 0) from firstR_none fun j hj => hall2 j (by omega)]
    refine gom ?_
    refine WC.ret ?_
    refine WK.un ?_
    exact QF.p2 (.inl rfl) rfl (.tmp rfl) (.tmp rfl) (⟨rfl, Gh.le_trans hg12 hg3, rfl⟩)
  have e3 : decide ((k : Int) < (p.code.length : Int)) = true := decide_eq_true (by omega)
  obtain ⟨s, hs⟩ : ∃ s, l[k]? = some s := ⟨_, List.getElem?_eq_getElem hlt2⟩
  obtain ⟨i, hi⟩ : ∃ i, p.code[k]? = some i := ⟨_, List.getElem?_eq_getElem (by omega)⟩
  obtain ⟨hi0, hiE⟩ := hpo.ins k i hi
  obtain ⟨ic1, in1⟩ := i
  obtain ⟨nn, rfl⟩ : ∃ nn : Nat, in1 = nn := ⟨in1.toNat, by dsimp only at hi0; omega⟩
  dsimp only at hiE
  rw [Int.toNat_natCast] at hiE
  have hws := hcl.wf s (List.mem_of_getElem? hs)
  have hloc := hpo.loc
  have hvs : s.vars.length ≤ 1000 := by
    cases hr : s.reached with
    | false => rw [hws.bare hr]; simp
    | true => rw [hws.vars hr]; omega
  have hks := hws.high
  obtain ⟨sb, so, scs, rfl, hsk, hsc⟩ := (hT.mono hg3) k s hs
  obtain ⟨VA, vc, SA, sc, rfl, hS⟩ := Kd.rs_rep hsk
  have x0 : (0 : Int) ≤ (k : Int) := by omega
  have x1 : (k : Int) < (l.length : Int) := by omega
  have x2 := wrapS k (by omega)
  have hmf := rmet_fn G3 w p CA NA PA cc nc pc (hW.mono (Gh.le_trans hg12 hg3)) QA IA qc ic (hI.mono (Gh.le_trans hg12 hg3)) (by omega) s VA vc SA sc hS (by omega) (by omega) k (by omega) ic1 nn hi (fun hr => by rw [hws.vars hr]; exact hiE)
  have hba : badAt w p l k = (if s.reached = true then metR w p k (ic1, (nn : Int)) s else 0) := by unfold badAt; rw [hs, hi]
  rw [← hba] at hmf
  refine gom ?_
  refine WQ.one (by kernel_rfl) (by kernel_rfl) (OW.callK rfl (hmf) rfl fun v' G' H' h hg => ?_)
  obtain ⟨he, hg4, rfl⟩ := h
  cases he
  by_cases hb : badAt w p l k = 0
  · have e4 : (badAt w p l k != 0) = false := by simpa using hb
    refine gom ?_
    refine WK.pick [.blk b1 (.cells (wdC w CA NA PA cc nc pc) 143 (0, 0)), .blk b2 (.cells (prC p QA qc IA ic) 45 (0, 0))] ?_
    exact WK.again (k + 1, _) (by dsimp only; omega) ⟨by dsimp only; omega, Gh.le_trans hg3 hg4, fun j hj => by
      rcases Nat.lt_or_ge j k with h | h
      · exact hall2 j h
      · obtain rfl : j = k := by dsimp only at hj; omega
        exact hb⟩ (by exact ⟨rfl, rfl, rfl, rfl, trivial⟩) rfl (List.Sublist.refl _)
  · have e4 : (badAt w p l k != 0) = true := by simpa using hb
    rw [show wrongR w p l = ((k : Int), badAt w p l k) from firstR_at hlt2 hall2 hb]
    refine gom ?_
    refine WC.ret ?_
    refine WK.un ?_
    exact QF.p2 (.inl rfl) rfl (.tmp rfl) (.tmp rfl) (⟨rfl, Gh.le_trans hg12 (Gh.le_trans hg3 hg4), rfl⟩)
end
end Go.Proofs.YtkmigdmdppkpoaaGreatDoor.Gb
namespace Go.Proofs.YtkmigdmdppkpoaaGreatDoor.Gb
open Go Go.Proofs Go.MapKept
set_option linter.unusedVariables false
set_option linter.unusedSimpArgs false
set_option linter.unusedSectionVars false
attribute [local irreducible] Tryz.prog
theorem RWp.ofO {G : Gh} {o : Ob} {CA NA PA : Option Addr} (hO : ORep G o CA NA PA) (hL : OLim o) : RWp G o.wd CA NA PA :=
  ⟨hO.consts, hO.needs, hO.procs, hL.cl, hL.nl, hL.pl, fun q hq => (hL.nd q hq).1, fun q hq => (hL.pr q hq).1⟩
theorem procOut_new {w : Wd} {seen : List ByteArray} {p : Pr} (h : p.name ∉ seen) : procOut w seen p = prOut w p := by
  unfold procOut prOut
  by_cases hp : procR p = false
  · rw [if_pos (.inl hp), if_pos hp]
  · rw [if_neg (fun h' => h'.elim hp h), if_neg hp]
section
variable (G : Gh) (o : Ob) (CA NA PA : Option Addr) (cc nc pc : Nat) (hO : ORep G o CA NA PA) (hL : OLim o)
include hO hL
set_option maxHeartbeats 4000000 in
theorem rObject_fn : Fn Tryz.prog 68 #[.agg (obC o CA NA PA cc nc pc)] G [] fun e G' H' => e = .returned (.tuple #[.agg #[.int .i64 (objAns o).1, .int .i64 (objAns o).2.1], .int .i64 (objAns o).2.2]) ∧ G.le G' ∧ H' = [] := by
  have hcl := hL.cl
  have hnl := hL.nl
  have hpl := hL.pl
  have hpath := hL.path
  refine Fn.enter Tryz.func68 rfl rfl fun w0 => ?_
  refine WC.seq ?_
  refine WC.region ?_
  refine WL.op (by kernel_rfl) (OW.box rfl rfl fun b1 => ?_)
  refine WL.op (by kernel_rfl) (OW.alloc rfl fun b2 => ?_)
  refine gom ?_
  refine WL.op (by kernel_rfl) (OW.alloc rfl fun b4 => ?_)
  refine gom ?_
  refine WL.op (by kernel_rfl) (OW.callK rfl (rplace_fn G o.path (by omega)) rfl fun v' G' H' h hg => ?_)
  obtain ⟨he, hg1, rfl⟩ := h
  cases he
  clear hg
  obtain ⟨G1, rfl⟩ : ∃ G1, G1 = G' := ⟨_, rfl⟩
  cases h1 : fileR o.path with
  | false =>
    have hr : objAns o = (0, 0, 185) := by unfold objAns; rw [if_neg (by unfold objR; simp [h1])]
    rw [hr]
    refine gom ?_
    refine WC.ret ?_
    refine WK.un ?_
    exact QF.p2 (.inl rfl) rfl (.cell rfl inferInstance inferInstance (by (repeat first | exact .here | apply At.there)) rfl rfl) (.tmp rfl) (⟨rfl, hg1, rfl⟩)
  | true =>
  cases h3 : decide ((o.consts.length : Int) ≤ 4096) with
  | false =>
    have y3 := dgt h3
    have d3 := of_decide_eq_false h3
    have hr : objAns o = (0, 0, 185) := by
      unfold objAns
      rw [if_neg]
      unfold objR
      rw [h3]
      simp
    rw [hr]
    refine gom ?_
    refine WC.ret ?_
    refine WK.un ?_
    exact QF.p2 (.inl rfl) rfl (.cell rfl inferInstance inferInstance (by (repeat first | exact .here | apply At.there)) rfl rfl) (.tmp rfl) (⟨rfl, hg1, rfl⟩)
  | true =>
  have y3 := dgt h3
  cases h4 : decide ((o.needs.length : Int) ≤ 4096) with
  | false =>
    have y4 := dgt h4
    have d4 := of_decide_eq_false h4
    have hr : objAns o = (0, 0, 185) := by
      unfold objAns
      rw [if_neg]
      unfold objR
      rw [h4]
      simp
    rw [hr]
    refine gom ?_
    refine WC.ret ?_
    refine WK.un ?_
    exact QF.p2 (.inl rfl) rfl (.cell rfl inferInstance inferInstance (by (repeat first | exact .here | apply At.there)) rfl rfl) (.tmp rfl) (⟨rfl, hg1, rfl⟩)
  | true =>
  have y4 := dgt h4
  cases h5 : decide ((o.procs.length : Int) ≤ 128) with
  | false =>
    have y5 := dgt h5
    have d5 := of_decide_eq_false h5
    have hr : objAns o = (0, 0, 185) := by
      unfold objAns
      rw [if_neg]
      unfold objR
      rw [h5]
      simp
    rw [hr]
    refine gom ?_
    refine WC.ret ?_
    refine WK.un ?_
    exact QF.p2 (.inl rfl) rfl (.cell rfl inferInstance inferInstance (by (repeat first | exact .here | apply At.there)) rfl rfl) (.tmp rfl) (⟨rfl, hg1, rfl⟩)
  | true =>
  have y5 := dgt h5
  have d3 := of_decide_eq_true h3
  have d4 := of_decide_eq_true h4
  have d5 := of_decide_eq_true h5
  refine gom ?_
  refine WC.pick [.blk b1 (.cells (obC o CA NA PA cc nc pc) 26 (0, 0)), .blk b2 (.cells #[.int .i64 0, .int .i64 0] 39 (0, 0)), .blk b4 (.cells (wdC o.wd CA NA PA cc nc pc) 143 (0, 0))] ?_
  refine WC.loop (X := Nat × Gh) (fun x => [(1, .pointer (some ⟨b1, 0, none⟩)), (2, .pointer (some ⟨b2, 0, none⟩)), (4, .pointer (some ⟨b4, 0, none⟩)), (5, .int .i64 (x.1 : Int))]) (fun x => x.2) (fun _ => [.blk b1 (.cells (obC o CA NA PA cc nc pc) 26 (0, 0)), .blk b2 (.cells #[.int .i64 0, .int .i64 0] 39 (0, 0)), .blk b4 (.cells (wdC o.wd CA NA PA cc nc pc) 143 (0, 0))]) (fun x => o.consts.length - x.1)
    (fun x => x.1 ≤ o.consts.length ∧ G.le x.2 ∧ ∀ j y, j < x.1 → o.consts[j]? = some y → valueR y = true) (0, G1) ⟨Nat.zero_le _, hg1, fun j y h => absurd h (Nat.not_lt_zero _)⟩ (by exact ⟨rfl, rfl, rfl, rfl, trivial⟩) rfl (List.Sublist.refl _) fun x hx => ?_
  obtain ⟨i, G2⟩ := x
  obtain ⟨hi, hg2, hall⟩ := hx
  dsimp only at hi hg2 hall
  have x2 := wrapS i (by omega)
  by_cases hlt : i < o.consts.length
  · have e2 : decide ((i : Int) < (o.consts.length : Int)) = true := decide_eq_true (by omega)
    obtain ⟨v, hv⟩ : ∃ v, o.consts[i]? = some v := ⟨_, List.getElem?_eq_getElem hlt⟩
    obtain ⟨b, ofs, cs, rfl, hk, hcs⟩ := (hO.mono hg2).consts i v hv
    obtain rfl : cs = vcells v := hk
    have x0 : (0 : Int) ≤ (i : Int) := by omega
    have x1 : (i : Int) < (o.consts.length : Int) := by omega
    refine gom ?_
    refine WL.op (by kernel_rfl) (OW.callK rfl (rvalue_fn G2 v) rfl fun v' G' H' h hg => ?_)
    obtain ⟨he, rfl, rfl⟩ := h
    cases he
    cases h2 : valueR v with
    | true =>
      refine gom ?_
      refine WK.pick [.blk b1 (.cells (obC o (some ⟨b, ofs, none⟩) NA PA cc nc pc) 26 (0, 0)), .blk b2 (.cells #[.int .i64 0, .int .i64 0] 39 (0, 0)), .blk b4 (.cells (wdC o.wd (some ⟨b, ofs, none⟩) NA PA cc nc pc) 143 (0, 0))] ?_
      exact WK.again (i + 1, G2) (by dsimp only; omega) ⟨by dsimp only; omega, hg2, all_step hv hall h2⟩ (by exact ⟨rfl, rfl, rfl, rfl, trivial⟩) rfl (List.Sublist.refl _)
    | false =>
      have hr : objAns o = (0, 0, 185) := by
        unfold objAns
        rw [if_neg]
        unfold objR
        rw [all_not hv h2]
        simp
      rw [hr]
      refine gom ?_
      refine WC.ret ?_
      refine WK.un ?_
      exact QF.p2 (.inl rfl) rfl (.cell rfl inferInstance inferInstance (by (repeat first | exact .here | apply At.there)) rfl rfl) (.tmp rfl) (⟨rfl, hg2, rfl⟩)
  have e2 : decide ((i : Int) < (o.consts.length : Int)) = false := decide_eq_false (by omega)
  have hvals := all_of hall (by omega)
  refine gom ?_
  refine WC.pick [.blk b1 (.cells (obC o CA NA PA cc nc pc) 26 (0, 0)), .blk b2 (.cells #[.int .i64 0, .int .i64 0] 39 (0, 0)), .blk b4 (.cells (wdC o.wd CA NA PA cc nc pc) 143 (0, 0))] ?_
  refine WC.loop (X := Nat × Gh) (fun x => [(1, .pointer (some ⟨b1, 0, none⟩)), (2, .pointer (some ⟨b2, 0, none⟩)), (4, .pointer (some ⟨b4, 0, none⟩)), (6, .int .i64 (x.1 : Int))]) (fun x => x.2) (fun _ => [.blk b1 (.cells (obC o CA NA PA cc nc pc) 26 (0, 0)), .blk b2 (.cells #[.int .i64 0, .int .i64 0] 39 (0, 0)), .blk b4 (.cells (wdC o.wd CA NA PA cc nc pc) 143 (0, 0))]) (fun x => o.needs.length - x.1)
    (fun x => x.1 ≤ o.needs.length ∧ G.le x.2 ∧ ∀ j y, j < x.1 → o.needs[j]? = some y → needR y = true) (0, G2) ⟨Nat.zero_le _, hg2, fun j y h => absurd h (Nat.not_lt_zero _)⟩ (by exact ⟨rfl, rfl, rfl, rfl, trivial⟩) rfl (List.Sublist.refl _) fun x hx => ?_
  obtain ⟨i, G3⟩ := x
  obtain ⟨hi, hg3, hall⟩ := hx
  dsimp only at hi hg3 hall
  have x2 := wrapS i (by omega)
  by_cases hlt : i < o.needs.length
  · have e2 : decide ((i : Int) < (o.needs.length : Int)) = true := decide_eq_true (by omega)
    obtain ⟨c, hc⟩ : ∃ c, o.needs[i]? = some c := ⟨_, List.getElem?_eq_getElem hlt⟩
    obtain ⟨hcp, hcf, hcn⟩ := hL.nd c (List.mem_of_getElem? hc)
    obtain ⟨b, ofs, cs, rfl, hk, hcs⟩ := (hO.mono hg3).needs i c hc
    obtain ⟨QA, qc, rfl, hQ⟩ := hk
    have x0 : (0 : Int) ≤ (i : Int) := by omega
    have x1 : (i : Int) < (o.needs.length : Int) := by omega
    have hbad : needR c = false → objAns o = (0, 0, 185) := fun h => by
      unfold objAns
      rw [if_neg]
      unfold objR
      rw [all_not hc h]
      simp
    refine gom ?_
    refine WL.op (by kernel_rfl) (OW.alloc rfl fun b7 => ?_)
    refine gom ?_
    refine WL.op (by kernel_rfl) (OW.callK rfl (rplace_fn G3 c.path (by omega)) rfl fun v' G' H' h hg => ?_)
    obtain ⟨he, hg4, rfl⟩ := h
    cases he
    clear hg
    obtain ⟨G4, rfl⟩ : ∃ G1, G1 = G' := ⟨_, rfl⟩
    have hg34 := Gh.le_trans hg3 hg4
    cases h6 : fileR c.path with
    | false =>
      rw [hbad (by rw [needR, h6, Bool.false_and])]
      refine gom ?_
      refine WC.ret ?_
      refine WK.un ?_
      exact QF.p2 (.inl rfl) rfl (.cell rfl inferInstance inferInstance (by (repeat first | exact .here | apply At.there)) rfl rfl) (.tmp rfl) (⟨rfl, hg34, rfl⟩)
    | true =>
    refine gom ?_
    refine WL.op (by kernel_rfl) (OW.callK rfl (rWord_fn G4 c.name hcn) rfl fun v' G' H' h hg => ?_)
    obtain ⟨he, hg5, rfl⟩ := h
    cases he
    clear hg
    obtain ⟨G5, rfl⟩ : ∃ G1, G1 = G' := ⟨_, rfl⟩
    have hg35 := Gh.le_trans hg34 hg5
    cases h7 : wordR c.name with
    | false =>
      rw [hbad (by rw [needR, h6, h7]; rfl)]
      refine gom ?_
      refine WC.ret ?_
      refine WK.un ?_
      exact QF.p2 (.inl rfl) rfl (.cell rfl inferInstance inferInstance (by (repeat first | exact .here | apply At.there)) rfl rfl) (.tmp rfl) (⟨rfl, hg35, rfl⟩)
    | true =>
    refine gom ?_
    refine WL.op (by kernel_rfl) (OW.callK rfl (rhead_fn G5 QA c.params qc c.result ((hQ.mono hg4).mono hg5) hcp) rfl fun v' G' H' h hg => ?_)
    obtain ⟨he, rfl, rfl⟩ := h
    cases he
    cases h8 : headR c.params c.result with
    | false =>
      rw [hbad (by rw [needR, h6, h7, h8]; rfl)]
      refine gom ?_
      refine WC.ret ?_
      refine WK.un ?_
      exact QF.p2 (.inl rfl) rfl (.cell rfl inferInstance inferInstance (by (repeat first | exact .here | apply At.there)) rfl rfl) (.tmp rfl) (⟨rfl, hg35, rfl⟩)
    | true =>
      refine gom ?_
      refine WK.pick [.blk b1 (.cells (obC o CA (some ⟨b, ofs, none⟩) PA cc nc pc) 26 (0, 0)), .blk b2 (.cells #[.int .i64 0, .int .i64 0] 39 (0, 0)), .blk b4 (.cells (wdC o.wd CA (some ⟨b, ofs, none⟩) PA cc nc pc) 143 (0, 0))] ?_
      exact WK.again (i + 1, G5) (by dsimp only; omega) ⟨by dsimp only; omega, hg35, all_step hc hall (by rw [needR, h6, h7, h8]; rfl)⟩ (by exact ⟨rfl, rfl, rfl, rfl, trivial⟩) rfl (List.Sublist.refl _)
  have e2 : decide ((i : Int) < (o.needs.length : Int)) = false := decide_eq_false (by omega)
  have hneeds := all_of hall (by omega)
  have hob : objAns o = allR o.wd := by
    unfold objAns
    rw [if_pos (by unfold objR; rw [h1, hvals, h3, h4, h5, hneeds]; rfl)]
  rw [hob]
  refine gom ?_
  refine WC.pick [.blk b1 (.cells (obC o CA NA PA cc nc pc) 26 (0, 0)), .blk b2 (.cells #[.int .i64 0, .int .i64 0] 39 (0, 0)), .blk b4 (.cells (wdC o.wd CA NA PA cc nc pc) 143 (0, 0))] ?_
  refine WC.loop (X := Nat × Gh) (fun x => [(1, .pointer (some ⟨b1, 0, none⟩)), (2, .pointer (some ⟨b2, 0, none⟩)), (4, .pointer (some ⟨b4, 0, none⟩)), (8, .int .i64 (x.1 : Int))]) (fun x => x.2) (fun _ => [.blk b1 (.cells (obC o CA NA PA cc nc pc) 26 (0, 0)), .blk b2 (.cells #[.int .i64 0, .int .i64 0] 39 (0, 0)), .blk b4 (.cells (wdC o.wd CA NA PA cc nc pc) 143 (0, 0))]) (fun x => o.procs.length - x.1)
    (fun x => x.1 ≤ o.procs.length ∧ G.le x.2 ∧ okSoFar o.wd x.1) (0, G3) ⟨Nat.zero_le _, hg3, fun j h => absurd h (Nat.not_lt_zero _)⟩ (by exact ⟨rfl, rfl, rfl, rfl, trivial⟩) rfl (List.Sublist.refl _) fun x hx => ?_
  obtain ⟨k, G4⟩ := x
  obtain ⟨hk, hg4, hok⟩ := hx
  dsimp only at hk hg4 hok
  have x2 := wrapS k (by omega)
  by_cases hlt : k < o.procs.length
  rotate_left
  · have e2 : decide ((k : Int) < (o.procs.length : Int)) = false := decide_eq_false (by omega)
    rw [allR_none (w := o.wd) fun j hj => hok j (by have hj : j < o.procs.length := hj; omega)]
    refine gom ?_
    refine WC.ret ?_
    refine WK.un ?_
    exact QF.p2 (.inl rfl) rfl (.cell rfl inferInstance inferInstance (by (repeat first | exact .here | apply At.there)) rfl rfl) (.tmp rfl) (⟨rfl, hg4, rfl⟩)
  have e2 : decide ((k : Int) < (o.procs.length : Int)) = true := decide_eq_true (by omega)
  obtain ⟨p, hp⟩ : ∃ p, o.procs[k]? = some p := ⟨_, List.getElem?_eq_getElem hlt⟩
  obtain ⟨hpq, hpc, hpn⟩ := hL.pr p (List.mem_of_getElem? hp)
  have hO4 := hO.mono hg4
  obtain ⟨b, ofs, cs, rfl, hks, hcs⟩ := hO4.procs k p hp
  obtain ⟨QA, qc, IA, ic, rfl, hQ, hI⟩ := hks
  have x0 : (0 : Int) ≤ (k : Int) := by omega
  have x1 : (k : Int) < (o.procs.length : Int) := by omega
  have hout := outAt_eq (w := o.wd) (k := k) hp
  refine gom ?_
  refine WC.pick [.blk b1 (.cells (obC o CA NA (some ⟨b, ofs, none⟩) cc nc pc) 26 (0, 0)), .blk b2 (.cells #[.int .i64 0, .int .i64 0] 39 (0, 0)), .blk b4 (.cells (wdC o.wd CA NA (some ⟨b, ofs, none⟩) cc nc pc) 143 (0, 0))] ?_
  refine WC.loop (X := Nat) (fun j => [(1, .pointer (some ⟨b1, 0, none⟩)), (2, .pointer (some ⟨b2, 0, none⟩)), (4, .pointer (some ⟨b4, 0, none⟩)), (8, .int .i64 (k : Int)), (9, .int .i64 (j : Int))]) (fun _ => G4) (fun _ => [.blk b1 (.cells (obC o CA NA (some ⟨b, ofs, none⟩) cc nc pc) 26 (0, 0)), .blk b2 (.cells #[.int .i64 0, .int .i64 0] 39 (0, 0)), .blk b4 (.cells (wdC o.wd CA NA (some ⟨b, ofs, none⟩) cc nc pc) 143 (0, 0))]) (fun j => k - j)
    (fun j => j ≤ k ∧ ∀ m q, m < j → o.procs[m]? = some q → q.name ≠ p.name) 0 ⟨Nat.zero_le _, fun m q h => absurd h (Nat.not_lt_zero _)⟩ (by exact ⟨rfl, rfl, rfl, rfl, rfl, trivial⟩) rfl (List.Sublist.refl _) fun j hj => ?_
  obtain ⟨hj, hdis⟩ := hj
  by_cases hjk : j < k
  · have y1 : decide ((j : Int) < (k : Int)) = true := decide_eq_true (by omega)
    obtain ⟨q, hq⟩ : ∃ q, o.procs[j]? = some q := ⟨_, List.getElem?_eq_getElem (by omega)⟩
    obtain ⟨b', ofs', cs', hbe, hks', hcs'⟩ := hO4.procs j q hq
    cases hbe
    obtain ⟨QA', qc', IA', ic', rfl, _, _⟩ := hks'
    have z0 : (0 : Int) ≤ (j : Int) := by omega
    have z1 : (j : Int) < (o.procs.length : Int) := by omega
    have z2 := wrapS j (by omega)
    cases hn : (q.name == p.name) with
    | true =>
      have hne : q.name = p.name := by rw [bytes_beq] at hn; exact of_decide_eq_true hn
      have hin : p.name ∈ (o.wd.procs.take k).map (·.name) := by
        refine List.mem_map.2 ⟨q, ?_, hne⟩
        refine List.mem_of_getElem? (i := j) ?_
        rw [List.getElem?_take, if_pos hjk]; exact hq
      have h0 : outAt o.wd k = (0, 185) := by rw [hout, procOut, if_pos (.inr hin)]
      have hr : allR o.wd = ((k : Int), 0, 185) := by rw [allR_at (w := o.wd) hlt hok (by rw [h0]; decide), h0]
      rw [hr]
      refine gom ?_
      try rw [hn]
      refine gom ?_
      refine WC.ret ?_
      refine WK.un ?_
      exact QF.p2 (.inl rfl) rfl (.cell rfl inferInstance inferInstance (by (repeat first | exact .here | apply At.there)) rfl rfl) (.tmp rfl) (⟨rfl, hg4, rfl⟩)
    | false =>
      refine gom ?_
      try rw [hn]
      refine gom ?_
      exact WK.again (j + 1) (by omega) ⟨by omega, fun m q' hm hq' => by
        rcases Nat.lt_or_ge m j with h | h
        · exact hdis m q' h hq'
        · obtain rfl : m = j := by omega
          rw [hq] at hq'; cases hq'
          rw [bytes_beq] at hn; exact of_decide_eq_false hn⟩ (by exact ⟨rfl, rfl, rfl, rfl, rfl, trivial⟩) rfl (List.Sublist.refl _)
  have y1 : decide ((j : Int) < (k : Int)) = false := decide_eq_false (by omega)
  have hnew : p.name ∉ (o.wd.procs.take k).map (·.name) := fun hm => by
    obtain ⟨q, hq, hqn⟩ := List.mem_map.1 hm
    obtain ⟨m, hmq⟩ := List.getElem?_of_mem hq
    rw [List.getElem?_take] at hmq
    split at hmq
    · exact hdis m q (by omega) hmq hqn
    · cases hmq
  have hpo : outAt o.wd k = prOut o.wd p := by rw [hout]; exact procOut_new hnew
  have hpf := rproc_fn G4 o.wd p CA NA (some ⟨b, ofs, none⟩) cc nc pc (RWp.ofO hO4 hL) QA IA qc ic hQ hI hpn hpq
  rw [← hpo] at hpf
  refine gom ?_
  refine WQ.one (by kernel_rfl) (by kernel_rfl) (OW.callK rfl (hpf) rfl fun v' G' H' h hg => ?_)
  obtain ⟨he, hg5, rfl⟩ := h
  cases he
  clear hg
  obtain ⟨G5, rfl⟩ : ∃ G1, G1 = G' := ⟨_, rfl⟩
  by_cases hb : (outAt o.wd k).2 = 0
  · have e4 : ((outAt o.wd k).2 != 0) = false := by simpa using hb
    refine gom ?_
    refine WK.pick [.blk b1 (.cells (obC o CA NA (some ⟨b, ofs, none⟩) cc nc pc) 26 (0, 0)), .blk b2 (.cells #[.int .i64 0, .int .i64 0] 39 (0, 0)), .blk b4 (.cells (wdC o.wd CA NA (some ⟨b, ofs, none⟩) cc nc pc) 143 (0, 0))] ?_
    exact WK.again (k + 1, G5) (by dsimp only; omega) ⟨by dsimp only; omega, Gh.le_trans hg4 hg5, fun j hj => by
      rcases Nat.lt_or_ge j k with h | h
      · exact hok j h
      · obtain rfl : j = k := by dsimp only at hj; omega
        exact hb⟩ (by exact ⟨rfl, rfl, rfl, rfl, trivial⟩) rfl (List.Sublist.refl _)
  · have e4 : ((outAt o.wd k).2 != 0) = true := by simpa using hb
    rw [allR_at (w := o.wd) hlt hok hb]
    refine gom ?_
    refine WC.ret ?_
    refine WK.un ?_
    exact QF.p2 (.inl rfl) rfl (.cell rfl inferInstance inferInstance (by (repeat first | exact .here | apply At.there)) rfl rfl) (.tmp rfl) (⟨rfl, Gh.le_trans hg4 hg5, rfl⟩)
end
end Go.Proofs.YtkmigdmdppkpoaaGreatDoor.Gb
namespace Go.Proofs.YtkmigdmdppkpoaaGreatDoor.Gb
open Go Go.Proofs Go.MapKept
set_option linter.unusedVariables false
set_option linter.unusedSimpArgs false
set_option linter.unusedSectionVars false
attribute [local irreducible] Tryz.prog
noncomputable def askR (o : Ob) (n : Int) : List SS := if findE o n = 0 then statesR o n else []
theorem askR_some {o : Ob} {n : Int} (h : findE o n = 0) : ∃ p, o.procs[n.toNat]? = some p ∧ POk o.wd p := by
  obtain ⟨h1, h2, h3⟩ := findE_zero h
  obtain ⟨p, hp⟩ : ∃ p, o.procs[n.toNat]? = some p := ⟨_, List.getElem?_eq_getElem (by omega)⟩
  exact ⟨p, hp, objAns_pok h1 hp⟩
section
variable (G : Gh) (o : Ob) (CA NA PA : Option Addr) (cc nc pc : Nat) (hO : ORep G o CA NA PA) (hL : OLim o) (n : Int)
include hO hL
theorem rasked_fn : Fn Tryz.prog 38 #[.agg (obC o CA NA PA cc nc pc), .int .i64 n] G [] fun e G' H' => ∃ A tc, e = .returned (.tuple #[.slice A (askR o n).length tc, .int .i64 (findE o n)]) ∧ G.le G' ∧ Sl Kd.rs G' A (askR o n) ∧ (askR o n).length ≤ 16384 ∧ (∀ s ∈ askR o n, s.stack.length ≤ 128 ∧ s.vars.length ≤ 64) ∧ H' = [] := by
  have hpl := hL.pl
  refine Fn.enter Tryz.func38 rfl rfl fun w0 => ?_
  refine WC.seq ?_
  refine WC.region ?_
  refine WL.op (by kernel_rfl) (OW.box rfl rfl fun b2 => ?_)
  refine gom ?_
  refine WL.op (by kernel_rfl) (OW.callK rfl (rObject_fn G o CA NA PA cc nc pc hO hL) rfl fun v' G' H' h hg => ?_)
  obtain ⟨he, hg1, rfl⟩ := h
  cases he
  clear hg
  obtain ⟨G1, rfl⟩ : ∃ G1, G1 = G' := ⟨_, rfl⟩
  refine gom ?_
  refine WL.op (by kernel_rfl) (OW.alloc rfl fun b6 => ?_)
  by_cases h1 : (objAns o).2.2 = 0
  rotate_left
  · have e1 : ((objAns o).2.2 != 0) = true := by simpa using h1
    have hf : findE o n = (objAns o).2.2 := by rw [findE, if_pos h1]
    have ha : askR o n = [] := by unfold askR; rw [if_neg (by rw [hf]; exact h1)]
    rw [ha, hf]
    refine gom ?_
    refine WC.ret ?_
    refine WK.un ?_
    exact QF.p2 (.inl rfl) rfl (.tmp rfl) (.tmp rfl) (⟨none, 0, rfl, hg1, Sl.nil _ _ _, by simp, by simp, rfl⟩)
  have e1 : ((objAns o).2.2 != 0) = false := by simpa using h1
  by_cases h2 : n < 0
  · have e2 : decide (n < 0) = true := decide_eq_true h2
    have hf : findE o n = 1 := by rw [findE, if_neg (by simpa using h1), if_pos (.inl h2)]
    have ha : askR o n = [] := by unfold askR; rw [if_neg (by rw [hf]; decide)]
    rw [ha, hf]
    refine gom ?_
    refine WC.ret ?_
    refine WK.un ?_
    exact QF.p2 (.inl rfl) rfl (.tmp rfl) (.tmp rfl) (⟨none, 0, rfl, hg1, Sl.nil _ _ _, by simp, by simp, rfl⟩)
  have e2 : decide (n < 0) = false := decide_eq_false h2
  by_cases h3 : (o.procs.length : Int) ≤ n
  · have e3 : decide ((o.procs.length : Int) ≤ n) = true := decide_eq_true h3
    have hf : findE o n = 1 := by rw [findE, if_neg (by simpa using h1), if_pos (.inr h3)]
    have ha : askR o n = [] := by unfold askR; rw [if_neg (by rw [hf]; decide)]
    rw [ha, hf]
    refine gom ?_
    refine WC.ret ?_
    refine WK.un ?_
    exact QF.p2 (.inl rfl) rfl (.tmp rfl) (.tmp rfl) (⟨none, 0, rfl, hg1, Sl.nil _ _ _, by simp, by simp, rfl⟩)
  have e3 : decide ((o.procs.length : Int) ≤ n) = false := decide_eq_false h3
  have hf : findE o n = 0 := by rw [findE, if_neg (by simpa using h1), if_neg (by omega)]
  obtain ⟨p, hp, hpk⟩ := askR_some hf
  have hO3 := hO.mono hg1
  obtain ⟨b, ofs, cs, rfl, hks, hcs⟩ := hO3.procs n.toNat p hp
  obtain ⟨QA, qc, IA, ic, rfl, hQ, hI⟩ := hks
  have x0 : (0 : Int) ≤ n := by omega
  have x1 : n < (o.procs.length : Int) := by omega
  refine gom ?_
  refine WQ.one (by kernel_rfl) (by kernel_rfl) (OW.callK rfl (rStates_fn G1 o.wd p CA NA (some ⟨b, ofs, none⟩) cc nc pc (RWp.ofO hO3 hL) QA IA qc ic hQ hI hpk) rfl fun v' G' H' h hg => ?_)
  obtain ⟨TA, tc, l, he, hg4, hT, htc, hLe, rfl⟩ := h
  cases he
  have ha : askR o n = l := by unfold askR; rw [if_pos hf, statesR, hp]; exact hLe.flow
  have hll := hLe.closed.len
  have hfew := hpk.few
  have hloc := hpk.loc
  rw [ha, hf]
  have hbd : ∀ s ∈ l, s.stack.length ≤ 128 ∧ s.vars.length ≤ 64 := fun s hs => ⟨(hLe.closed.wf s hs).high, by
    cases hr : s.reached with
    | true => rw [(hLe.closed.wf s hs).vars hr]; omega
    | false => rw [(hLe.closed.wf s hs).bare hr]; simp⟩
  refine gom ?_
  refine WC.ret ?_
  refine WK.un ?_
  exact QF.p2 (.inl rfl) rfl (.tmp rfl) (.tmp rfl) (⟨TA, tc, rfl, Gh.le_trans hg1 hg4, hT, by omega, hbd, rfl⟩)
set_option maxHeartbeats 2000000 in
theorem rHeights_fn : Fn Tryz.prog 14 #[.agg (obC o CA NA PA cc nc pc), .int .i64 n] G [] fun e G' H' => ∃ A cap x, e = .returned (.tuple #[.slice A (heightsR o n).length cap, .int .i64 (findE o n)]) ∧ G.le G' ∧ IVec 3 A (heightsR o n) cap x ∧ H' = [x] := by
  have hr : heightsR o n = (askR o n).map hghR := by
    unfold heightsR askR
    split <;> rfl
  rw [hr]
  refine Fn.enter Tryz.func14 rfl rfl fun w0 => ?_
  refine WC.seq ?_
  refine WC.region ?_
  refine WL.op (by kernel_rfl) (OW.box rfl rfl fun b2 => ?_)
  refine gom ?_
  refine WL.op (by kernel_rfl) (OW.callK rfl (rasked_fn G o CA NA PA cc nc pc hO hL n) rfl fun v' G' H' h hg => ?_)
  obtain ⟨TA, tc, he, hg1, hT, hll, hst, rfl⟩ := h
  cases he
  obtain ⟨l, hl⟩ : ∃ l, l = askR o n := ⟨_, rfl⟩
  rw [← hl] at hT hll hst ⊢
  refine gom ?_
  refine WC.nothing ?_
  refine WC.loop (X := Nat × Option Addr × Nat × Own) (fun x => [(6, .slice TA l.length tc), (7, .int .i64 (findE o n)), (8, .slice x.2.1 x.1 x.2.2.1), (9, .int .i64 (x.1 : Int))]) (fun _ => G') (fun x => [x.2.2.2]) (fun x => l.length - x.1) (fun x => x.1 ≤ l.length ∧ Vec 3 1 x.2.1 x.1 x.2.2.1 (ints ((l.take x.1).map hghR)) x.2.2.2) (0, none, 0, .spare 0 0 0) ⟨Nat.zero_le _, ⟨by simp [ints], .inl ⟨rfl, rfl, rfl, rfl⟩⟩⟩ (by exact ⟨rfl, rfl, rfl, rfl, trivial⟩) rfl (by simp) fun x hx => ?_
  obtain ⟨i, A, cap, xo⟩ := x
  obtain ⟨hi, hv⟩ := hx
  dsimp only at hi hv
  have x2 := wrapS i (by omega)
  by_cases hlt : i < l.length
  rotate_left
  · have e2 : decide ((i : Int) < (l.length : Int)) = false := decide_eq_false (by omega)
    obtain rfl : i = l.length := by omega
    rw [List.take_length] at hv
    refine gom ?_
    refine WC.ret ?_
    refine WK.un ?_
    exact QF.p2 (.inl rfl) rfl (.tmp rfl) (.tmp rfl) (⟨A, cap, xo, by rw [List.length_map], hg1, by unfold IVec; rw [List.length_map]; exact hv, rfl⟩)
  have e2 : decide ((i : Int) < (l.length : Int)) = true := decide_eq_true (by omega)
  obtain ⟨s, hs⟩ : ∃ s, l[i]? = some s := ⟨_, List.getElem?_eq_getElem (by omega)⟩
  obtain ⟨sb, so, scs, rfl, hsk, hsc⟩ := hT i s hs
  obtain ⟨VA, vc, SA, sc, rfl, hS⟩ := Kd.rs_rep hsk
  have x0 : (0 : Int) ≤ (i : Int) := by omega
  have x1 : (i : Int) < (l.length : Int) := by omega
  have hstep : ∀ {A3 : Option Addr} {c3 : Nat} {o3 : Own} {z : Int}, z = hghR s → Vec 3 1 A3 (i + 1) c3 (ints ((l.take i).map hghR) ++ [.int .i64 z]) o3 → Vec 3 1 A3 (i + 1) c3 (ints ((l.take (i + 1)).map hghR)) o3 := fun hz hv3 => by
    rw [map_take_snoc hghR hs, ints_append]; subst hz; exact hv3
  cases hrs : s.reached with
  | true =>
    have hz : (s.stack.length : Int) = hghR s := by rw [hghR, hrs]; rfl
    unfold rsL at hsc
    rw [hrs] at hsc
    refine gom ?_
    refine WL.op (by kernel_rfl) (OW.buildSlice rfl (by kernel_rfl) (by kernel_rfl) (by rfl) rfl fun b37 => ?_)
    refine WL.op (by kernel_rfl) (OW.append rfl rfl (by kernel_rfl) (by kernel_rfl) hv (by (repeat first | exact .here | apply At.there)) (Rds.blk0 (cs := [.int .i64 s.stack.length]) .here rfl) rfl rfl (by omega) (by omega) rfl fun A3 c3 o3 hv3 => ?_)
    refine gom ?_
    refine WK.pick [o3] ?_
    exact WK.again (i + 1, A3, c3, o3) (by dsimp only; omega) ⟨by dsimp only; omega, hstep hz hv3⟩ (by exact ⟨rfl, rfl, rfl, rfl, trivial⟩) rfl (List.Sublist.refl _)
  | false =>
    have hz : (-1 : Int) = hghR s := by rw [hghR, hrs]; rfl
    unfold rsL at hsc
    rw [hrs] at hsc
    refine gom ?_
    refine WL.op (by kernel_rfl) (OW.buildSlice rfl (by kernel_rfl) (by kernel_rfl) (by rfl) rfl fun b37 => ?_)
    refine WL.op (by kernel_rfl) (OW.append rfl rfl (by kernel_rfl) (by kernel_rfl) hv (by (repeat first | exact .here | apply At.there)) (Rds.blk0 (cs := [.int .i64 (-1)]) .here rfl) rfl rfl (by omega) (by omega) rfl fun A3 c3 o3 hv3 => ?_)
    refine gom ?_
    refine WK.pick [o3] ?_
    exact WK.again (i + 1, A3, c3, o3) (by dsimp only; omega) ⟨by dsimp only; omega, hstep hz hv3⟩ (by exact ⟨rfl, rfl, rfl, rfl, trivial⟩) rfl (List.Sublist.refl _)
theorem rTypes_fn (k : Int) : Fn Tryz.prog 16 #[.agg (obC o CA NA PA cc nc pc), .int .i64 n, .int .i64 k] G [] fun e G' H' => ∃ VA vc SA sc, e = .returned (.tuple #[.slice VA (typesR o n k).1.length vc, .slice SA (typesR o n k).2.length sc, .int .i64 (typesE o n k)]) ∧ G.le G' ∧ Sl (Kd.int .i64) G' VA (typesR o n k).1 ∧ Sl (Kd.int .i64) G' SA (typesR o n k).2 ∧ H' = [] := by
  refine Fn.enter Tryz.func16 rfl rfl fun w0 => ?_
  refine WC.seq ?_
  refine WC.region ?_
  refine WL.op (by kernel_rfl) (OW.box rfl rfl fun b3 => ?_)
  refine gom ?_
  refine WL.op (by kernel_rfl) (OW.callK rfl (rasked_fn G o CA NA PA cc nc pc hO hL n) rfl fun v' G' H' h hg => ?_)
  obtain ⟨TA, tc, he, hg1, hT, hll, hst, rfl⟩ := h
  cases he
  by_cases h1 : findE o n = 0
  rotate_left
  · have e1 : (findE o n != 0) = true := by simpa using h1
    have ht : typesE o n k = findE o n := by rw [typesE, if_pos h1]
    have hr : typesR o n k = ([], []) := by rw [typesR, if_neg (by rw [ht]; exact h1)]
    rw [hr, ht]
    refine gom ?_
    refine WC.ret ?_
    refine WK.un ?_
    exact QF.p3 (.inl rfl) rfl (.tmp rfl) (.tmp rfl) (.tmp rfl) (⟨none, 0, none, 0, rfl, hg1, Sl.nil _ _ _, Sl.nil _ _ _, rfl⟩)
  have e1 : (findE o n != 0) = false := by simpa using h1
  obtain ⟨l, hl⟩ : ∃ l, l = askR o n := ⟨_, rfl⟩
  have hsr : statesR o n = l := by rw [hl]; unfold askR; rw [if_pos h1]
  rw [← hl] at hT hll hst ⊢
  by_cases h2 : k < 0
  · have e2 : decide (k < 0) = true := decide_eq_true h2
    have ht : typesE o n k = 1 := by rw [typesE, if_neg (by simpa using h1), if_pos (.inl h2)]
    have hr : typesR o n k = ([], []) := by rw [typesR, if_neg (by rw [ht]; decide)]
    rw [hr, ht]
    refine gom ?_
    refine WC.ret ?_
    refine WK.un ?_
    exact QF.p3 (.inl rfl) rfl (.tmp rfl) (.tmp rfl) (.tmp rfl) (⟨none, 0, none, 0, rfl, hg1, Sl.nil _ _ _, Sl.nil _ _ _, rfl⟩)
  have e2 : decide (k < 0) = false := decide_eq_false h2
  by_cases h3 : (l.length : Int) ≤ k
  · have e3 : decide ((l.length : Int) ≤ k) = true := decide_eq_true h3
    have ht : typesE o n k = 1 := by rw [typesE, if_neg (by simpa using h1), if_pos (.inr (by rw [hsr]; exact h3))]
    have hr : typesR o n k = ([], []) := by rw [typesR, if_neg (by rw [ht]; decide)]
    rw [hr, ht]
    refine gom ?_
    refine WC.ret ?_
    refine WK.un ?_
    exact QF.p3 (.inl rfl) rfl (.tmp rfl) (.tmp rfl) (.tmp rfl) (⟨none, 0, none, 0, rfl, hg1, Sl.nil _ _ _, Sl.nil _ _ _, rfl⟩)
  have e3 : decide ((l.length : Int) ≤ k) = false := decide_eq_false h3
  obtain ⟨s, hs⟩ : ∃ s, l[k.toNat]? = some s := ⟨_, List.getElem?_eq_getElem (by omega)⟩
  have ht : typesE o n k = 0 := by rw [typesE, if_neg (by simpa using h1), if_neg (by rw [hsr]; omega)]
  have hr : typesR o n k = (s.vars, s.stack) := by rw [typesR, if_pos ht, hsr, hs]
  rw [hr, ht]
  obtain ⟨sb, so, scs, rfl, hsk, hsc⟩ := hT k.toNat s hs
  obtain ⟨VA, vc, SA, sc, rfl, hS⟩ := Kd.rs_rep hsk
  have x0 : (0 : Int) ≤ k := by omega
  have x1 : k < (l.length : Int) := by omega
  refine gom ?_
  refine WC.ret ?_
  refine WK.un ?_
  exact QF.p3 (.inl rfl) rfl (.tmp rfl) (.tmp rfl) (.tmp rfl) (⟨VA, vc, SA, sc, rfl, hg1, hS.vars, hS.stack, rfl⟩)
end
end Go.Proofs.YtkmigdmdppkpoaaGreatDoor.Gb
namespace Go.Proofs.YtkmigdmdppkpoaaGreatDoor.Gb
open Go Go.Proofs Go.MapKept
set_option linter.unusedVariables false
set_option linter.unusedSimpArgs false
set_option linter.unusedSectionVars false

theorem LeR.drop {a b : List Int} (h : LeR a b) (n : Nat) : LeR (a.drop n) (b.drop n) := by
  induction h generalizing n with
  | nil => simp; exact .nil
  | cons hx h ih => cases n with | zero => exact .cons hx h | succ n => simpa using ih n
theorem LeR.eq_of {a b : List Int} (h : LeR a b) (hb : ∀ x ∈ b, x ≠ 0) : a = b := by
  induction h with
  | nil => rfl
  | cons hx h ih =>
    rcases hx with hx | hx
    · exact absurd hx (hb _ (List.mem_cons_self ..))
    · rw [hx, ih fun x m => hb x (List.mem_cons_of_mem _ m)]
theorem LeR.at_nz {a b : List Int} (h : LeR a b) {n : Nat} (hb : (b[n]?).getD 0 ≠ 0) : (a[n]?).getD 0 = (b[n]?).getD 0 := by
  rcases h.get n with h | h
  · exact absurd h hb
  · exact h
theorem allT_mono {a b : List Int} {t : Int} (h : LeR a b) (ht : t ≠ 0) (hb : allT t b = true) : allT t a = true := by
  have : a = b := h.eq_of fun x hx => by
    have := List.all_eq_true.1 hb x hx
    have : x = t := by simpa using this
    rw [this]; exact ht
  rw [this]; exact hb
/-- a way through a procedure, as a state -/
def wayS (v st : List Int) : SS := ⟨true, false, v, st⟩
/-- what is taken does, when what is told of it does -/
theorem kinds_mono {w : Wd} {p : Pr} {i : Int × Int} {s t : SS} {a b : List Int} (hv : LeR s.vars t.vars) (h : LeR a b) (hres : i.1 = 10 → p.result ≠ 0)
    (hp : ∀ q, w.procs[i.2.toNat]? = some q → ∀ x ∈ q.params, x ≠ 0) (hn : ∀ q, w.needs[i.2.toNat]? = some q → ∀ x ∈ q.params, x ≠ 0)
    (hk : kindsR w p i t b = true) : kindsR w p i s a = true := by
  unfold kindsR at hk ⊢
  split
  · rename_i h1
    rw [if_pos h1] at hk
    have : (t.vars[i.2.toNat]?).getD 0 ≠ 0 := by simpa using hk
    rw [hv.at_nz this]; exact hk
  rename_i h1
  rw [if_neg h1] at hk
  split
  · rename_i h2
    rw [if_pos h2] at hk
    have : (b[0]?).getD 0 ≠ 0 := by simpa using hk
    rw [h.at_nz this]; exact hk
  rename_i h2
  rw [if_neg h2] at hk
  split
  · rename_i h3
    rw [if_pos h3] at hk
    exact allT_mono h (by decide) hk
  rename_i h3
  rw [if_neg h3] at hk
  split
  · rename_i h4
    rw [if_pos h4] at hk
    have e : b = ((w.procs[i.2.toNat]?).map (·.params)).getD [] := by simpa using hk
    rw [show a = b from h.eq_of fun x hx => by
      rw [e] at hx
      cases hq : w.procs[i.2.toNat]? with
      | none => rw [hq] at hx; simp at hx
      | some q => rw [hq] at hx; exact hp q hq x hx]
    exact hk
  rename_i h4
  rw [if_neg h4] at hk
  split
  · rename_i h5
    rw [if_pos h5] at hk
    have e : b = ((w.needs[i.2.toNat]?).map (·.params)).getD [] := by simpa using hk
    rw [show a = b from h.eq_of fun x hx => by
      rw [e] at hx
      cases hq : w.needs[i.2.toNat]? with
      | none => rw [hq] at hx; simp at hx
      | some q => rw [hq] at hx; exact hn q hq x hx]
    exact hk
  rename_i h5
  rw [if_neg h5] at hk
  split
  · rename_i h6
    rw [if_pos h6] at hk
    exact allT_mono h (hres h6) hk
  rename_i h6
  rw [if_neg h6] at hk
  split
  · rename_i h7
    rw [if_pos h7] at hk
    simp only [Bool.and_eq_true, beq_iff_eq, bne_iff_ne, ne_eq] at hk ⊢
    rw [h.at_nz hk.2, h.at_nz (n := 1) (by rw [← hk.1]; exact hk.2)]
    exact hk
  rename_i h7
  rw [if_neg h7] at hk
  split
  · rename_i h8
    rw [if_pos h8] at hk
    simp only [Bool.or_eq_true] at hk ⊢
    exact hk.imp (allT_mono h (by decide)) (allT_mono h (by decide))
  rename_i h8
  rw [if_neg h8] at hk
  split
  · rename_i h9
    rw [if_pos h9] at hk
    exact allT_mono h (by decide) hk
  rename_i h9
  rw [if_neg h9] at hk
  split
  · rename_i h10
    rw [if_pos h10] at hk
    exact allT_mono h (by decide) hk
  · rfl
/-- a procedure that was taken -/
structure Taken (w : Wd) (p : Pr) (l : List SS) : Prop where
  pok : POk w p
  clo : Closed w p l
  par : ∀ q ∈ w.procs, ∀ x ∈ q.params, x ≠ 0
  npar : ∀ q ∈ w.needs, ∀ x ∈ q.params, x ≠ 0
  cons : ∀ v ∈ w.consts, v.t ≠ 0
  may : ∀ (k : Nat) (i : Int × Int), p.code[k]? = some i → mayR i.1 i.2 = true
  well : ∀ (k : Nat) (s : SS) (i : Int × Int), l[k]? = some s → p.code[k]? = some i → s.reached = true → metR w p k i s = 0
/-- where a way stands -/
structure Way (w : Wd) (p : Pr) (l : List SS) (k : Nat) (v st : List Int) : Prop where
  at_ : ∃ t, l[k]? = some t ∧ (wayS v st).le t
theorem Way.begin {w : Wd} {p : Pr} {l : List SS} (h : Taken w p l) : Way w p l 0 (p.params ++ List.replicate (p.locals.toNat - p.params.length) 0) [] := by
  have hl := h.clo.len
  have hp := h.pok.pos
  exact ⟨l[0], List.getElem?_eq_getElem (by omega), h.clo.zero _ (List.getElem?_eq_getElem (by omega))⟩
/-- what is known where a way stands -/
structure Stand (w : Wd) (p : Pr) (l : List SS) (k : Nat) (v st : List Int) (t : SS) (i : Int × Int) : Prop where
  told : l[k]? = some t
  ins : p.code[k]? = some i
  vars : LeR v t.vars
  stack : LeR st t.stack
  unl : t.unlike = false
  rch : t.reached = true
  wf : t.wf p.locals.toNat
  vlen : v.length = p.locals.toNat
  bad : ¬ badS w i (wayS v st)
  kinds : kindsR w p i (wayS v st) (st.drop (st.length - (effC w v i).1)) = true
  ret : i.1 = 9 → p.result = 0
  give : i.1 = 10 → p.result ≠ 0
  jumps : ∀ x ∈ nextR i k, x < p.code.length
theorem Way.stand {w : Wd} {p : Pr} {l : List SS} {k : Nat} {v st : List Int} (hT : Taken w p l) (h : Way w p l k v st) : ∃ t i, Stand w p l k v st t i := by
  obtain ⟨t, ht, hle⟩ := h.at_
  obtain ⟨hr, hv, hs⟩ := hle rfl
  have hkl := (List.getElem?_eq_some_iff.1 ht).1
  have hl := hT.clo.len
  obtain ⟨i, hi⟩ : ∃ i, p.code[k]? = some i := ⟨_, List.getElem?_eq_getElem (by omega)⟩
  have hm := hT.well k t i ht hi hr
  have hwf := hT.clo.wf t (List.mem_of_getElem? ht)
  unfold metR at hm
  split at hm
  · cases hm
  rename_i hj
  split at hm
  · cases hm
  rename_i hb
  split at hm
  · cases hm
  rename_i hg
  split at hm
  · cases hm
  rename_i hk
  have hu : t.unlike = false := by
    cases hu : t.unlike with
    | false => rfl
    | true => exact absurd (.inl hu) hb
  have hst : LeR st t.stack := by
    rcases hs with hs | ⟨_, _, hs⟩
    · rw [hu] at hs; cases hs
    · exact hs
  have hgive : i.1 = 10 → p.result ≠ 0 := fun e h => hg (.inr ⟨e, h⟩)
  have hret : i.1 = 9 → p.result = 0 := fun e => Decidable.byContradiction fun h => hg (.inl ⟨e, h⟩)
  have he := effC_mono (w := w) (show LeR v t.vars from hv) i
  have hk' : kindsR w p i t (t.stack.drop (t.stack.length - (effC w t.vars i).1)) = true := by simpa using hk
  refine ⟨t, i, ht, hi, hv, hst, hu, hr, hwf, hv.length.trans (hwf.vars hr), ?_, ?_, hret, hgive, fun x hx => ?_⟩
  · intro hbad
    apply hb
    rcases hbad with h' | h' | h'
    · cases h'
    · right; left; rw [← hst.length, ← he.1]; exact h'
    · right; right; rw [← hst.length, ← he.1, ← he.2.length]; exact h'
  · refine kinds_mono (t := t) hv ?_ hgive (fun q hq => hT.par q (List.mem_of_getElem? hq)) (fun q hq => hT.npar q (List.mem_of_getElem? hq)) hk'
    rw [hst.length, he.1]
    exact hst.drop _
  · have : ¬ (nextR i k).any (fun x => decide ((p.code.length : Int) ≤ x)) = true := hj
    rw [List.any_eq_true] at this
    have h2 : ¬ (p.code.length : Int) ≤ x := fun h => this ⟨x, hx, by simpa using h⟩
    omega
/-- one instruction more -/
theorem Way.go {w : Wd} {p : Pr} {l : List SS} {k : Nat} {v st : List Int} {t : SS} {i : Int × Int} (hT : Taken w p l) (h : Stand w p l k v st t i) {j : Nat} (hj : (j : Int) ∈ nextR i k) :
    Way w p l j (varsR i (wayS v st)) (st.take (st.length - (effC w v i).1) ++ (effC w v i).2) := by
  have hjl := h.jumps _ hj
  have hl := hT.clo.len
  obtain ⟨u, hu⟩ : ∃ u, l[j]? = some u := ⟨_, List.getElem?_eq_getElem (by omega)⟩
  have hle : (wayS v st).le t := fun _ => ⟨h.rch, h.vars, .inr ⟨rfl, h.unl, h.stack⟩⟩
  have hvl : v.length = p.locals.toNat := h.vlen
  have hstl : st.length ≤ 128 := by rw [h.stack.length]; exact h.wf.high
  have hww : (wayS v st).wf p.locals.toNat := ⟨fun e => (by cases e), fun _ => hvl, fun e => (by cases e), hstl⟩
  have h1 := behR_mono (w := w) (i := i) hww h.wf hle
  have h2 := hT.clo.step k i t h.ins h.told h.rch _ hj j u rfl hu
  have h3 := SS.le_trans h1 h2
  unfold behR at h3
  rw [if_neg h.bad] at h3
  exact ⟨u, hu, h3⟩
theorem Stand.next {w : Wd} {p : Pr} {l : List SS} {k : Nat} {v st : List Int} {t : SS} {i : Int × Int} (h : Stand w p l k v st t i) (h9 : i.1 ≠ 9) (h10 : i.1 ≠ 10) :
    (i.1 = 5 → i.2 ∈ nextR i k) ∧ (i.1 = 6 → i.2 ∈ nextR i k) ∧ (i.1 ≠ 5 → ((k + 1 : Nat) : Int) ∈ nextR i k) := by
  unfold nextR
  rw [if_neg (fun h => h.elim h9 h10)]
  refine ⟨fun e => ?_, fun e => ?_, fun e => ?_⟩
  · rw [if_pos e]; simp
  · rw [if_neg (by omega), if_pos e]; simp
  · rw [if_neg e]; split <;> simp
/-- what an instruction lays down; 0: nothing -/
def layR (w : Wd) (v : List Int) (i : Int × Int) : Int :=
  if i.1 = 1 then ((w.consts[i.2.toNat]?).map (·.t)).getD 0
  else if i.1 = 2 then (v[i.2.toNat]?).getD 0
  else if i.1 = 7 then ((w.procs[i.2.toNat]?).map (·.result)).getD 0
  else if i.1 = 8 then ((w.needs[i.2.toNat]?).map (·.result)).getD 0
  else if i.1 = 20 then 3
  else if 12 ≤ i.1 ∧ i.1 ≤ 17 then 2
  else if i.1 = 25 then 2
  else (rowC i.1).lays
theorem rowC_lays (c : Int) : (rowC c).lays = 0 ∨ (rowC c).lays = 1 := by
  by_cases h : 1 ≤ c ∧ c ≤ 26
  · have hd : ∀ k : Nat, k < 26 → (rowC ((k : Int) + 1)).lays = 0 ∨ (rowC ((k : Int) + 1)).lays = 1 := by decide +kernel
    obtain ⟨k, rfl⟩ : ∃ k : Nat, c = (k : Int) + 1 := ⟨(c - 1).toNat, by omega⟩
    exact hd k (by omega)
  · left
    unfold rowC
    split
    · rfl
    · rw [List.getElem?_eq_none (by show 27 ≤ c.toNat; omega)]; rfl
theorem layR_eff {w : Wd} {p : Pr} {l : List SS} {k : Nat} {v st : List Int} {t : SS} {i : Int × Int} (hT : Taken w p l) (h : Stand w p l k v st t i) :
    (effC w v i).2 = if layR w v i = 0 then [] else [layR w v i] := by
  have hok := (hT.pok.ins k i h.ins).2
  have hk := h.kinds
  unfold effC layR
  split
  · rename_i h1
    have hlt := hok.const h1
    rw [List.getElem?_eq_getElem hlt]
    have := hT.cons _ (List.getElem_mem hlt)
    simp [this]
  split
  · rename_i h1 h2
    unfold kindsR at hk
    rw [if_pos h2] at hk
    have : (v[i.2.toNat]?).getD 0 ≠ 0 := by simpa [wayS] using hk
    rw [if_neg this]
  split
  · rename_i h1 h2 h3
    rw [List.getElem?_eq_getElem (hok.call h3)]
    simp [hdE]
  split
  · rename_i h1 h2 h3 h4
    rw [List.getElem?_eq_getElem (hok.outer h4)]
    simp [hdE]
  split
  · rfl
  split
  · rfl
  split
  · rfl
  rcases rowC_lays i.1 with e | e <;> simp [e]
end Go.Proofs.YtkmigdmdppkpoaaGreatDoor.Gb
namespace Go.Proofs.YtkmigdmdppkpoaaGreatDoor.Gb
open Go Go.Proofs Go.MapKept
set_option linter.unusedVariables false
set_option linter.unusedSimpArgs false
set_option linter.unusedSectionVars false
theorem Sl.whole {G : Gh} {A : Option Addr} {l : List Int} (h : Sl (Kd.int .i64) G A l) (hl : 0 < l.length) : ∃ b o, A = some ⟨b, o, none⟩ ∧ Cs G b o (Gb.ints l) := by
  obtain ⟨b, o, _, rfl, _, _⟩ := h 0 l[0] (List.getElem?_eq_getElem hl)
  refine ⟨b, o, rfl, fun j v e => ?_⟩
  rw [Gb.ints, List.getElem?_map] at e
  cases hz : l[j]? with
  | none => rw [hz] at e; cases e
  | some y =>
    rw [hz] at e
    simp only [Option.map_some, Option.some.injEq] at e
    subst e
    obtain ⟨b', o', cs', he, hk, hc⟩ := h j y hz
    cases he
    obtain rfl : cs' = [.int .i64 y] := hk
    have := hc 0 _ rfl
    simpa [Kd.int] using this
theorem Sl.takeW {α : Type} {k : Kd α} {G : Gh} {A : Option Addr} {xs : List α} (h : Sl k G A xs) (n : Nat) : Sl k G A (xs.take n) := fun i x hx => h i x (by
  rw [List.getElem?_take] at hx
  split at hx
  · exact hx
  · cases hx)
theorem LeR.get_fit {a b : List Int} (h : LeR a b) : ∀ {n : Nat} {x y : Int}, a[n]? = some x → b[n]? = some y → y ≠ 0 → x = y := fun {n x y} hx hy h0 => by
  have := h.get n
  rw [hx, hy] at this
  exact this.resolve_left h0
attribute [local irreducible] Tryz.prog
theorem sameTypes_fn (G : Gh) (A B : Option Addr) (l m : List Int) (ca cb : Nat) (ha : Sl (Kd.int .i64) G A l) (hb : Sl (Kd.int .i64) G B m) (hl : l.length ≤ 100000000000000) :
    Fn Tryz.prog 17 #[.slice A l.length ca, .slice B m.length cb] G [] fun e G' H' => e = .returned (.bool (decide (l = m))) ∧ G = G' ∧ H' = [] := by
  refine Fn.enter Tryz.func17 rfl rfl fun w0 => ?_
  by_cases hne : l.length = m.length
  rotate_left
  · have e1 : ((l.length : Int) != (m.length : Int)) = true := by rw [bne_iff_ne]; omega
    refine gom ?_
    refine WC.ret ?_
    refine WK.un ?_
    exact QF.p1 (.inl rfl) rfl (.tmp rfl) (⟨by rw [decide_eq_false fun e => hne (by rw [e])], rfl, rfl⟩)
  have e1 : ((l.length : Int) != (m.length : Int)) = false := by rw [hne]; simp
  refine gom ?_
  refine WC.loop (X := Nat) (fun i => [(5, .int .i64 i), (0, .slice A l.length ca), (1, .slice B m.length cb)]) (fun _ => G) (fun _ => []) (fun i => l.length - i) (fun i => i ≤ l.length ∧ ∀ j, j < i → l[j]? = m[j]?) 0 ⟨Nat.zero_le _, fun j h => by omega⟩ (by exact ⟨rfl, rfl, rfl, trivial⟩) rfl (List.Sublist.refl _) fun i hx => ?_
  obtain ⟨hi, hall⟩ := hx
  by_cases hlt : i < l.length
  rotate_left
  · have e2 : decide ((i : Int) < (l.length : Int)) = false := decide_eq_false (by omega)
    have he : l = m := by
      refine List.ext_getElem? fun j => ?_
      rcases Nat.lt_or_ge j i with h | h
      · exact hall j h
      · rw [List.getElem?_eq_none (by omega), List.getElem?_eq_none (by omega)]
    refine gom ?_
    refine WC.ret ?_
    refine WK.un ?_
    exact QF.p1 (.inl rfl) rfl (.tmp rfl) (⟨by rw [decide_eq_true he], rfl, rfl⟩)
  have e2 : decide ((i : Int) < (l.length : Int)) = true := decide_eq_true (by omega)
  obtain ⟨x, hx⟩ : ∃ x, l[i]? = some x := ⟨_, List.getElem?_eq_getElem hlt⟩
  obtain ⟨y, hy⟩ : ∃ y, m[i]? = some y := ⟨_, List.getElem?_eq_getElem (by omega)⟩
  obtain ⟨ab, ao, cs1, rfl, hk1, hca⟩ := ha i x hx
  obtain ⟨bb, bo, cs2, rfl, hk2, hcb⟩ := hb i y hy
  obtain rfl : cs1 = [.int .i64 x] := hk1
  obtain rfl : cs2 = [.int .i64 y] := hk2
  have x0 : (0 : Int) ≤ i := by omega
  have x2 : (i : Int) < (l.length : Int) := by omega
  have x3 : (i : Int) < (m.length : Int) := by omega
  have x4 := wrapS i (by omega)
  by_cases hxy : x = y
  · have e3 : (x != y) = false := by simp [hxy]
    refine gom ?_
    exact WK.again (i + 1) (by omega) ⟨by omega, fun j hj => by
      rcases Nat.lt_or_ge j i with h | h
      · exact hall j h
      · obtain rfl : j = i := by omega
        rw [hx, hy, hxy]⟩ (by exact ⟨rfl, rfl, rfl, trivial⟩) rfl (List.Sublist.refl _)
  · have e3 : (x != y) = true := by rw [bne_iff_ne]; exact hxy
    refine gom ?_
    refine WC.ret ?_
    refine WK.un ?_
    exact QF.p1 (.inl rfl) rfl (.tmp rfl) (⟨by rw [decide_eq_false fun e => by rw [e, hy] at hx; exact hxy (Option.some.inj hx).symm], rfl, rfl⟩)
/-- what is fits what is told -/
theorem fits_fn (G : Gh) (A B : Option Addr) (l m : List Int) (ca cb : Nat) (ha : Sl (Kd.int .i64) G A l) (hb : Sl (Kd.int .i64) G B m) (hl : l.length ≤ 100000000000000) (hf : LeR m l) :
    Fn Tryz.prog 20 #[.slice A l.length ca, .slice B m.length cb] G [] fun e G' H' => e = .returned (.bool true) ∧ G = G' ∧ H' = [] := by
  refine Fn.enter Tryz.func20 rfl rfl fun w0 => ?_
  have hne := hf.length
  have e1 : ((l.length : Int) != (m.length : Int)) = false := by rw [hne]; simp
  refine gom ?_
  refine WC.loop (X := Nat) (fun i => [(5, .int .i64 i), (0, .slice A l.length ca), (1, .slice B m.length cb)]) (fun _ => G) (fun _ => []) (fun i => l.length - i) (fun i => i ≤ l.length) 0 (Nat.zero_le _) (by exact ⟨rfl, rfl, rfl, trivial⟩) rfl (List.Sublist.refl _) fun i hi => ?_
  by_cases hlt : i < l.length
  rotate_left
  · have e2 : decide ((i : Int) < (l.length : Int)) = false := decide_eq_false (by omega)
    refine gom ?_
    refine WC.ret ?_
    refine WK.un ?_
    exact QF.p1 (.inl rfl) rfl (.tmp rfl) (⟨rfl, rfl, rfl⟩)
  have e2 : decide ((i : Int) < (l.length : Int)) = true := decide_eq_true (by omega)
  obtain ⟨x, hx⟩ : ∃ x, l[i]? = some x := ⟨_, List.getElem?_eq_getElem hlt⟩
  obtain ⟨y, hy⟩ : ∃ y, m[i]? = some y := ⟨_, List.getElem?_eq_getElem (by omega)⟩
  obtain ⟨ab, ao, cs1, rfl, hk1, hca⟩ := ha i x hx
  obtain ⟨bb, bo, cs2, rfl, hk2, hcb⟩ := hb i y hy
  obtain rfl : cs1 = [.int .i64 x] := hk1
  obtain rfl : cs2 = [.int .i64 y] := hk2
  have x0 : (0 : Int) ≤ i := by omega
  have x2 : (i : Int) < (l.length : Int) := by omega
  have x3 : (i : Int) < (m.length : Int) := by omega
  have x4 := wrapS i (by omega)
  by_cases h0 : x = 0
  · have e3 : (x != 0) = false := by simp [h0]
    refine gom ?_
    exact WK.again (i + 1) (by omega) (by omega) (by exact ⟨rfl, rfl, rfl, trivial⟩) rfl (List.Sublist.refl _)
  · have e3 : (x != 0) = true := by rw [bne_iff_ne]; exact h0
    have hyx := hf.get_fit hy hx h0
    have e4 : (x != y) = false := by simp [hyx]
    refine gom ?_
    exact WK.again (i + 1) (by omega) (by omega) (by exact ⟨rfl, rfl, rfl, trivial⟩) rfl (List.Sublist.refl _)
theorem pops_fn (G : Gh) (VA SA : Option Addr) (v st : List Int) (vc sc n : Nat) (hS : Sl (Kd.int .i64) G SA st) (hsc : st.length ≤ sc) (hn : n ≤ st.length) (hl : st.length ≤ 1000000) :
    Fn Tryz.prog 43 #[.agg #[.slice VA v.length vc, .slice SA st.length sc], .int .i64 (n : Int)] G [] fun e G' H' => ∃ TA tc y, e = .returned (.tuple #[.agg #[.slice VA v.length vc, .slice TA (st.take (st.length - n)).length tc], .bool true]) ∧ G = G' ∧ TVec TA (st.take (st.length - n)) tc y ∧ H' = [y] := by
  refine Fn.enter Tryz.func43 rfl rfl fun w0 => ?_
  have e1 : decide ((st.length : Int) < (n : Int)) = false := decide_eq_false (by omega)
  have x3 : IntKind.i64.wrap ((st.length : Int) - (n : Int)) = ((st.length - n : Nat) : Int) := by rw [wrapI (by omega) (by omega)]; omega
  have hlen : (st.take (st.length - n)).length = st.length - n := by rw [List.length_take]; omega
  refine WC.nothing ?_
  refine WC.seq ?_
  refine WC.region ?_
  refine WL.op (by kernel_rfl) (OW.box rfl rfl fun b2 => ?_)
  refine WL.op (by kernel_rfl) (OW.alloc rfl fun b4 => ?_)
  refine gom ?_
  refine WL.p (Gp.sliceTo rfl rfl (by omega) (by omega)) (by kernel_rfl) rfl ?_
  rw [Int.toNat_natCast]
  refine WL.op (by kernel_rfl) (OW.append rfl rfl (by kernel_rfl) (by kernel_rfl) (IVec.nil (T := 42)) (by (repeat first | exact .here | apply At.there)) (hS.takeW (st.length - n)).ints (by rw [ints_length, hlen]) (ints_one _) (by first | omega | (dsimp only; omega)) (by first | omega | (dsimp only; omega)) rfl fun A3 c3 o3 hv3 => ?_)
  have hv4 : TVec A3 (st.take (st.length - n)) c3 o3 := by
    have e : 0 + (st.length - n) = (st.take (st.length - n)).length := by rw [hlen, Nat.zero_add]
    unfold TVec IVec
    rw [← e]; exact hv3
  rw [show 0 + (st.length - n) = (st.take (st.length - n)).length from by rw [hlen, Nat.zero_add]]
  refine gom ?_
  refine WC.ret ?_
  refine WK.un ?_
  exact QF.p2 (.inl rfl) rfl (.cell rfl inferInstance inferInstance (by (repeat first | exact .here | apply At.there)) rfl rfl) (.tmp rfl) (⟨A3, c3, o3, rfl, rfl, hv4, rfl⟩)
theorem list1 {α : Type} {l : List α} (h : l.length = 1) : ∃ a, l = [a] := match l, h with | [a], _ => ⟨a, rfl⟩
theorem listTwo {α : Type} {l : List α} (h : l.length = 2) : ∃ a b, l = [a, b] := match l, h with | [a, b], _ => ⟨a, b, rfl⟩
theorem allT_one {t x : Int} (h : allT t [x] = true) : x = t := by simpa [allT] using h
theorem allT_two {t x y : Int} (h : allT t [x, y] = true) : x = t ∧ y = t := by simpa [allT] using h
set_option maxHeartbeats 4000000 in
theorem ltyped_fn (G : Gh) (o : Ob) (CA NA PA : Option Addr) (cc nc pc : Nat) (hO : ORep G o CA NA PA) (hL : OLim o) (p : Pr) (s : SS) (c n : Int) (V : Nat) (A : Option Addr) (cap : Nat) (l : List Int) (hA : Sl (Kd.int .i64) G A l) (hc : 1 ≤ c ∧ c ≤ 26) (h9 : c ≠ 9) (h10 : c ≠ 10) (hn : 0 ≤ n)
    (ho : EOk o.wd V c n.toNat) (hl : l.length = (effC o.wd s.vars (c, n)).1) (hll : l.length ≤ 1000000) (hk : kindsR o.wd p (c, n) s l = true) :
    Fn Tryz.prog 44 #[.agg (obC o CA NA PA cc nc pc), .agg #[.int .i64 c, .int .i64 n], .slice A l.length cap] G [] fun e G' H' => e = .returned (.bool true) ∧ G = G' ∧ H' = [] := by
  refine Fn.enter Tryz.func44 rfl rfl fun w0 => ?_
  have hnl := hL.nl
  have hpl := hL.pl
  refine WC.seq ?_
  refine WC.region ?_
  refine WL.op (by kernel_rfl) (OW.box rfl rfl fun b3 => ?_)
  refine WL.op (by kernel_rfl) (OW.box rfl rfl fun b4 => ?_)
  have hcc : c = 1 ∨ c = 2 ∨ c = 3 ∨ c = 4 ∨ c = 5 ∨ c = 6 ∨ c = 7 ∨ c = 8 ∨ c = 11 ∨ c = 12 ∨ c = 13 ∨ c = 14 ∨ c = 15 ∨ c = 16 ∨ c = 17 ∨ c = 18 ∨ c = 19 ∨ c = 20 ∨ c = 21 ∨ c = 22 ∨ c = 23 ∨ c = 24 ∨ c = 25 ∨ c = 26 := by omega
  rcases hcc with rfl | rfl | rfl | rfl | rfl | rfl | rfl | rfl | rfl | rfl | rfl | rfl | rfl | rfl | rfl | rfl | rfl | rfl | rfl | rfl | rfl | rfl | rfl | rfl
  ·
    refine gom ?_
    refine WC.ret ?_
    refine WK.un ?_
    exact QF.p1 (.inl rfl) rfl (.tmp rfl) (⟨rfl, rfl, rfl⟩)
  ·
    refine gom ?_
    refine WC.ret ?_
    refine WK.un ?_
    exact QF.p1 (.inl rfl) rfl (.tmp rfl) (⟨rfl, rfl, rfl⟩)
  ·
    refine gom ?_
    refine WC.ret ?_
    refine WK.un ?_
    exact QF.p1 (.inl rfl) rfl (.tmp rfl) (⟨rfl, rfl, rfl⟩)
  ·
    refine gom ?_
    refine WC.ret ?_
    refine WK.un ?_
    exact QF.p1 (.inl rfl) rfl (.tmp rfl) (⟨rfl, rfl, rfl⟩)
  ·
    refine gom ?_
    refine WC.ret ?_
    refine WK.un ?_
    exact QF.p1 (.inl rfl) rfl (.tmp rfl) (⟨rfl, rfl, rfl⟩)
  · have h1 : (effC o.wd s.vars (6, n)).1 = 1 := by kernel_rfl
    rw [h1] at hl
    obtain ⟨x, rfl⟩ := list1 hl
    have hk' : allT 2 [x] = true := hk
    obtain rfl := allT_one hk'
    obtain ⟨ab, ao, rfl, hca⟩ := hA.whole (by simp)
    refine gom ?_
    refine WC.ret ?_
    refine WK.un ?_
    exact QF.p1 (.inl rfl) rfl (.tmp rfl) (⟨rfl, rfl, rfl⟩)
  · obtain ⟨q, hq⟩ : ∃ q, o.procs[n.toNat]? = some q := ⟨_, List.getElem?_eq_getElem (ho.call rfl)⟩
    have hlt := (List.getElem?_eq_some_iff.1 hq).1
    obtain ⟨b, ofs, cs, rfl, hks, hcs⟩ := hO.procs n.toNat q hq
    obtain ⟨QA, qc, IA, ic, rfl, hQ, hI⟩ := hks
    have x0 : (0 : Int) ≤ n := hn
    have x1 : n < (o.procs.length : Int) := by omega
    have hk' : (l == ((o.procs[n.toNat]?).map (·.params)).getD []) = true := hk
    have hlq : l = q.params := by rw [hq] at hk'; simpa using hk'
    refine gom ?_
    refine WL.op (by kernel_rfl) (OW.callK rfl (sameTypes_fn G A QA l q.params cap qc hA hQ (by omega)) rfl fun v' G' H' h hg => ?_)
    obtain ⟨he, rfl, rfl⟩ := h
    cases he
    rw [decide_eq_true hlq]
    refine gom ?_
    refine WC.ret ?_
    refine WK.un ?_
    exact QF.p1 (.inl rfl) rfl (.tmp rfl) (⟨rfl, rfl, rfl⟩)
  · obtain ⟨q, hq⟩ : ∃ q, o.needs[n.toNat]? = some q := ⟨_, List.getElem?_eq_getElem (ho.outer rfl)⟩
    have hlt := (List.getElem?_eq_some_iff.1 hq).1
    obtain ⟨b, ofs, cs, rfl, hks, hcs⟩ := hO.needs n.toNat q hq
    obtain ⟨QA, qc, rfl, hQ⟩ := hks
    have x0 : (0 : Int) ≤ n := hn
    have x1 : n < (o.needs.length : Int) := by omega
    have hk' : (l == ((o.needs[n.toNat]?).map (·.params)).getD []) = true := hk
    have hlq : l = q.params := by rw [hq] at hk'; simpa using hk'
    refine gom ?_
    refine WL.op (by kernel_rfl) (OW.callK rfl (sameTypes_fn G A QA l q.params cap qc hA hQ (by omega)) rfl fun v' G' H' h hg => ?_)
    obtain ⟨he, rfl, rfl⟩ := h
    cases he
    rw [decide_eq_true hlq]
    refine gom ?_
    refine WC.ret ?_
    refine WK.un ?_
    exact QF.p1 (.inl rfl) rfl (.tmp rfl) (⟨rfl, rfl, rfl⟩)
  ·
    refine gom ?_
    refine WC.ret ?_
    refine WK.un ?_
    exact QF.p1 (.inl rfl) rfl (.tmp rfl) (⟨rfl, rfl, rfl⟩)
  · have h1 : (effC o.wd s.vars (12, n)).1 = 2 := by kernel_rfl
    rw [h1] at hl
    obtain ⟨x, y, rfl⟩ := listTwo hl
    have hk' : (x == y && x != 0) = true := hk
    have e0 : (x == y) = true := by revert hk'; cases (x == y) <;> simp
    have e1 : (x != 0) = true := by rw [e0] at hk'; simpa using hk'
    obtain ⟨ab, ao, rfl, hca⟩ := hA.whole (by simp)
    refine gom ?_
    refine WC.ret ?_
    refine WK.un ?_
    exact QF.p1 (.inl rfl) rfl (.tmp rfl) (⟨rfl, rfl, rfl⟩)
  · have h1 : (effC o.wd s.vars (13, n)).1 = 2 := by kernel_rfl
    rw [h1] at hl
    obtain ⟨x, y, rfl⟩ := listTwo hl
    have hk' : (x == y && x != 0) = true := hk
    have e0 : (x == y) = true := by revert hk'; cases (x == y) <;> simp
    have e1 : (x != 0) = true := by rw [e0] at hk'; simpa using hk'
    obtain ⟨ab, ao, rfl, hca⟩ := hA.whole (by simp)
    refine gom ?_
    refine WC.ret ?_
    refine WK.un ?_
    exact QF.p1 (.inl rfl) rfl (.tmp rfl) (⟨rfl, rfl, rfl⟩)
  · have h1 : (effC o.wd s.vars (14, n)).1 = 2 := by kernel_rfl
    rw [h1] at hl
    obtain ⟨x, y, rfl⟩ := listTwo hl
    have hk' : (allT 1 [x, y] || allT 3 [x, y]) = true := hk
    rw [Bool.or_eq_true] at hk'
    obtain ⟨ab, ao, rfl, hca⟩ := hA.whole (by simp)
    rcases hk' with hk' | hk'
    · obtain ⟨rfl, rfl⟩ := allT_two hk'
      refine gom ?_
      refine WC.ret ?_
      refine WK.un ?_
      exact QF.p1 (.inl rfl) rfl (.tmp rfl) (⟨rfl, rfl, rfl⟩)
    · obtain ⟨rfl, rfl⟩ := allT_two hk'
      refine gom ?_
      refine WC.ret ?_
      refine WK.un ?_
      exact QF.p1 (.inl rfl) rfl (.tmp rfl) (⟨rfl, rfl, rfl⟩)
  · have h1 : (effC o.wd s.vars (15, n)).1 = 2 := by kernel_rfl
    rw [h1] at hl
    obtain ⟨x, y, rfl⟩ := listTwo hl
    have hk' : (allT 1 [x, y] || allT 3 [x, y]) = true := hk
    rw [Bool.or_eq_true] at hk'
    obtain ⟨ab, ao, rfl, hca⟩ := hA.whole (by simp)
    rcases hk' with hk' | hk'
    · obtain ⟨rfl, rfl⟩ := allT_two hk'
      refine gom ?_
      refine WC.ret ?_
      refine WK.un ?_
      exact QF.p1 (.inl rfl) rfl (.tmp rfl) (⟨rfl, rfl, rfl⟩)
    · obtain ⟨rfl, rfl⟩ := allT_two hk'
      refine gom ?_
      refine WC.ret ?_
      refine WK.un ?_
      exact QF.p1 (.inl rfl) rfl (.tmp rfl) (⟨rfl, rfl, rfl⟩)
  · have h1 : (effC o.wd s.vars (16, n)).1 = 2 := by kernel_rfl
    rw [h1] at hl
    obtain ⟨x, y, rfl⟩ := listTwo hl
    have hk' : (allT 1 [x, y] || allT 3 [x, y]) = true := hk
    rw [Bool.or_eq_true] at hk'
    obtain ⟨ab, ao, rfl, hca⟩ := hA.whole (by simp)
    rcases hk' with hk' | hk'
    · obtain ⟨rfl, rfl⟩ := allT_two hk'
      refine gom ?_
      refine WC.ret ?_
      refine WK.un ?_
      exact QF.p1 (.inl rfl) rfl (.tmp rfl) (⟨rfl, rfl, rfl⟩)
    · obtain ⟨rfl, rfl⟩ := allT_two hk'
      refine gom ?_
      refine WC.ret ?_
      refine WK.un ?_
      exact QF.p1 (.inl rfl) rfl (.tmp rfl) (⟨rfl, rfl, rfl⟩)
  · have h1 : (effC o.wd s.vars (17, n)).1 = 2 := by kernel_rfl
    rw [h1] at hl
    obtain ⟨x, y, rfl⟩ := listTwo hl
    have hk' : (allT 1 [x, y] || allT 3 [x, y]) = true := hk
    rw [Bool.or_eq_true] at hk'
    obtain ⟨ab, ao, rfl, hca⟩ := hA.whole (by simp)
    rcases hk' with hk' | hk'
    · obtain ⟨rfl, rfl⟩ := allT_two hk'
      refine gom ?_
      refine WC.ret ?_
      refine WK.un ?_
      exact QF.p1 (.inl rfl) rfl (.tmp rfl) (⟨rfl, rfl, rfl⟩)
    · obtain ⟨rfl, rfl⟩ := allT_two hk'
      refine gom ?_
      refine WC.ret ?_
      refine WK.un ?_
      exact QF.p1 (.inl rfl) rfl (.tmp rfl) (⟨rfl, rfl, rfl⟩)
  · have h1 : (effC o.wd s.vars (18, n)).1 = 2 := by kernel_rfl
    rw [h1] at hl
    obtain ⟨x, y, rfl⟩ := listTwo hl
    have hk' : allT 1 [x, y] = true := hk
    obtain ⟨rfl, rfl⟩ := allT_two hk'
    obtain ⟨ab, ao, rfl, hca⟩ := hA.whole (by simp)
    refine gom ?_
    refine WC.ret ?_
    refine WK.un ?_
    exact QF.p1 (.inl rfl) rfl (.tmp rfl) (⟨rfl, rfl, rfl⟩)
  · have h1 : (effC o.wd s.vars (19, n)).1 = 2 := by kernel_rfl
    rw [h1] at hl
    obtain ⟨x, y, rfl⟩ := listTwo hl
    have hk' : allT 1 [x, y] = true := hk
    obtain ⟨rfl, rfl⟩ := allT_two hk'
    obtain ⟨ab, ao, rfl, hca⟩ := hA.whole (by simp)
    refine gom ?_
    refine WC.ret ?_
    refine WK.un ?_
    exact QF.p1 (.inl rfl) rfl (.tmp rfl) (⟨rfl, rfl, rfl⟩)
  · have h1 : (effC o.wd s.vars (20, n)).1 = 2 := by kernel_rfl
    rw [h1] at hl
    obtain ⟨x, y, rfl⟩ := listTwo hl
    have hk' : allT 3 [x, y] = true := hk
    obtain ⟨rfl, rfl⟩ := allT_two hk'
    obtain ⟨ab, ao, rfl, hca⟩ := hA.whole (by simp)
    refine gom ?_
    refine WC.ret ?_
    refine WK.un ?_
    exact QF.p1 (.inl rfl) rfl (.tmp rfl) (⟨rfl, rfl, rfl⟩)
  · have h1 : (effC o.wd s.vars (21, n)).1 = 2 := by kernel_rfl
    rw [h1] at hl
    obtain ⟨x, y, rfl⟩ := listTwo hl
    have hk' : allT 1 [x, y] = true := hk
    obtain ⟨rfl, rfl⟩ := allT_two hk'
    obtain ⟨ab, ao, rfl, hca⟩ := hA.whole (by simp)
    refine gom ?_
    refine WC.ret ?_
    refine WK.un ?_
    exact QF.p1 (.inl rfl) rfl (.tmp rfl) (⟨rfl, rfl, rfl⟩)
  · have h1 : (effC o.wd s.vars (22, n)).1 = 2 := by kernel_rfl
    rw [h1] at hl
    obtain ⟨x, y, rfl⟩ := listTwo hl
    have hk' : allT 1 [x, y] = true := hk
    obtain ⟨rfl, rfl⟩ := allT_two hk'
    obtain ⟨ab, ao, rfl, hca⟩ := hA.whole (by simp)
    refine gom ?_
    refine WC.ret ?_
    refine WK.un ?_
    exact QF.p1 (.inl rfl) rfl (.tmp rfl) (⟨rfl, rfl, rfl⟩)
  · have h1 : (effC o.wd s.vars (23, n)).1 = 2 := by kernel_rfl
    rw [h1] at hl
    obtain ⟨x, y, rfl⟩ := listTwo hl
    have hk' : allT 1 [x, y] = true := hk
    obtain ⟨rfl, rfl⟩ := allT_two hk'
    obtain ⟨ab, ao, rfl, hca⟩ := hA.whole (by simp)
    refine gom ?_
    refine WC.ret ?_
    refine WK.un ?_
    exact QF.p1 (.inl rfl) rfl (.tmp rfl) (⟨rfl, rfl, rfl⟩)
  · have h1 : (effC o.wd s.vars (24, n)).1 = 1 := by kernel_rfl
    rw [h1] at hl
    obtain ⟨x, rfl⟩ := list1 hl
    have hk' : allT 1 [x] = true := hk
    obtain rfl := allT_one hk'
    obtain ⟨ab, ao, rfl, hca⟩ := hA.whole (by simp)
    refine gom ?_
    refine WC.ret ?_
    refine WK.un ?_
    exact QF.p1 (.inl rfl) rfl (.tmp rfl) (⟨rfl, rfl, rfl⟩)
  · have h1 : (effC o.wd s.vars (25, n)).1 = 1 := by kernel_rfl
    rw [h1] at hl
    obtain ⟨x, rfl⟩ := list1 hl
    have hk' : allT 2 [x] = true := hk
    obtain rfl := allT_one hk'
    obtain ⟨ab, ao, rfl, hca⟩ := hA.whole (by simp)
    refine gom ?_
    refine WC.ret ?_
    refine WK.un ?_
    exact QF.p1 (.inl rfl) rfl (.tmp rfl) (⟨rfl, rfl, rfl⟩)
  · have h1 : (effC o.wd s.vars (26, n)).1 = 1 := by kernel_rfl
    rw [h1] at hl
    obtain ⟨x, rfl⟩ := list1 hl
    have hk' : allT 3 [x] = true := hk
    obtain rfl := allT_one hk'
    obtain ⟨ab, ao, rfl, hca⟩ := hA.whole (by simp)
    refine gom ?_
    refine WC.ret ?_
    refine WK.un ?_
    exact QF.p1 (.inl rfl) rfl (.tmp rfl) (⟨rfl, rfl, rfl⟩)
end Go.Proofs.YtkmigdmdppkpoaaGreatDoor.Gb
namespace Go.Proofs.YtkmigdmdppkpoaaGreatDoor.Gb
open Go Go.Proofs Go.MapKept
set_option linter.unusedVariables false
set_option linter.unusedSimpArgs false
set_option linter.unusedSectionVars false

theorem FIn.all {w : Wd} {p : Pr} {q : Nat} {i : Int × Int} {s0 : SS} : ∀ (xs : List Int) (l : List SS) (T ds : List Int), FIn w p l T q i s0 ds → (∀ x ∈ xs, x ∈ nextR i q ∧ 0 ≤ x) →
    ∃ l' T' ds', FIn w p l' T' q i s0 ds' ∧ (∀ x ∈ xs, x ∈ ds' ∨ (p.code.length : Int) ≤ x) ∧ (∀ x ∈ ds, x ∈ ds') ∧ (sumW p.locals.toNat l' < sumW p.locals.toNat l ∨ (l' = l ∧ T' = T))
  | [], l, T, ds, h, _ => ⟨l, T, ds, h, by simp, fun _ h => h, .inr ⟨rfl, rfl⟩⟩
  | x :: xs, l, T, ds, h, hx => by
    obtain ⟨hxn, hx0⟩ := hx x (List.mem_cons_self ..)
    have hrest : ∀ y ∈ xs, y ∈ nextR i q ∧ 0 ≤ y := fun y hy => hx y (List.mem_cons_of_mem _ hy)
    by_cases hle : (p.code.length : Int) ≤ x
    · obtain ⟨l', T', ds', h1, h2, h3, h4⟩ := FIn.all xs l T ds h hrest
      exact ⟨l', T', ds', h1, fun y hy => by
        rcases List.mem_cons.1 hy with rfl | hy
        · exact .inr hle
        · exact h2 y hy, h3, h4⟩
    obtain ⟨k, rfl⟩ : ∃ k : Nat, x = (k : Int) := ⟨x.toNat, by omega⟩
    have hkl : k < l.length := by rw [h.len]; omega
    have hs : l[k]? = some l[k] := List.getElem?_eq_getElem hkl
    by_cases hj : joinS l[k] (behR w i s0) = l[k]
    · obtain ⟨l', T', ds', h1, h2, h3, h4⟩ := FIn.all xs l T _ (h.same hs hj) hrest
      exact ⟨l', T', ds', h1, fun y hy => by
        rcases List.mem_cons.1 hy with rfl | hy
        · exact .inl (h3 _ (List.mem_cons_self ..))
        · exact h2 y hy, fun y hy => h3 y (List.mem_cons_of_mem _ hy), h4⟩
    · have hri := h.rises hs hj
      obtain ⟨l', T', ds', h1, h2, h3, h4⟩ := FIn.all xs _ ((k : Int) :: T) _ (h.turn hxn hs (T' := (k : Int) :: T) (fun y => by simp [or_comm])) hrest
      refine ⟨l', T', ds', h1, fun y hy => ?_, fun y hy => h3 y (List.mem_cons_of_mem _ hy), .inl ?_⟩
      · rcases List.mem_cons.1 hy with rfl | hy
        · exact .inl (h3 _ (List.mem_cons_self ..))
        · exact h2 y hy
      · rcases h4 with h4 | ⟨h4, _⟩
        · omega
        · rw [h4]; exact hri
theorem least_go {w : Wd} {p : Pr} (hp : POk w p) : ∀ (N M : Nat) (l : List SS) (T : List Int), FInv w p l T → sumW p.locals.toNat l ≤ N → T.length ≤ M → ∃ l', Least w p l' := by
  intro N
  induction N using Nat.strongRecOn with
  | _ N ihN =>
    intro M
    induction M with
    | zero =>
      intro l T h _ hM
      have : T = [] := List.eq_nil_of_length_eq_zero (by omega)
      subst this
      exact ⟨l, h.least⟩
    | succ M ihM =>
      intro l T h hN hM
      cases T with
      | nil => exact ⟨l, h.least⟩
      | cons x T =>
        obtain ⟨q, s, rfl, hs, hr⟩ := h.todo x (List.mem_cons_self ..)
        have hql := (List.getElem?_eq_some_iff.1 hs).1
        rw [h.len] at hql
        obtain ⟨i, hi⟩ : ∃ i, p.code[q]? = some i := ⟨_, List.getElem?_eq_getElem hql⟩
        have h0 := h.into (T' := T) (List.mem_cons_self ..) hi hs (fun y hy => List.mem_cons_of_mem _ hy) (fun y hy hne => (List.mem_cons.1 hy).resolve_left hne)
        have hi0 := (hp.ins q i hi).1
        have hnn : ∀ y ∈ nextR i q, y ∈ nextR i q ∧ 0 ≤ y := fun y hy => ⟨hy, by
          obtain ⟨c, n⟩ := i
          obtain ⟨m, rfl⟩ : ∃ m : Nat, n = (m : Int) := ⟨n.toNat, by dsimp only at hi0; omega⟩
          exact nextR_nonneg hy⟩
        obtain ⟨l', T', ds', h1, h2, _, h4⟩ := FIn.all (nextR i q) l T [] h0 hnn
        have h5 := h1.done h2
        rcases h4 with h4 | ⟨rfl, rfl⟩
        · exact ihN (sumW p.locals.toNat l') (by omega) T'.length l' T' h5 (Nat.le_refl _) (Nat.le_refl _)
        · exact ihM l' T' h5 hN (by simp at hM; omega)
theorem POk.least {w : Wd} {p : Pr} (hp : POk w p) : Least w p (flowOf w p) := by
  obtain ⟨l, h⟩ := least_go hp _ _ _ _ (FInv.first hp.par hp.pos) (Nat.le_refl _) (Nat.le_refl _)
  rw [h.flow]; exact h
theorem typedR_nz {x : Int} (h : typedR x = true) : x ≠ 0 := by
  unfold typedR at h
  simp at h
  omega
theorem headR_nz {ps : List Int} {r : Int} (h : headR ps r = true) : ∀ x ∈ ps, x ≠ 0 := fun x hx => by
  unfold headR at h
  simp only [Bool.and_eq_true] at h
  exact typedR_nz (List.all_eq_true.1 h.1 x hx)
theorem valueR_nz {v : V} (h : valueR v = true) : v.t ≠ 0 := fun e => by
  unfold valueR at h
  rw [e] at h
  simp at h
theorem procR_parts {p : Pr} (h : procR p = true) : headR p.params p.result = true := by
  unfold procR at h
  simp only [Bool.and_eq_true] at h
  exact h.2.1
theorem wrong_zero {w : Wd} {p : Pr} {l : List SS} (h : (wrongR w p l).2 = 0) : ∀ (k : Nat) (s : SS) (i : Int × Int), l[k]? = some s → p.code[k]? = some i → s.reached = true → metR w p k i s = 0 := by
  intro k s i hs hi hr
  unfold wrongR firstR at h
  split at h
  · rename_i j hj
    have := List.find?_some hj
    simp at this
    exact absurd h this
  · rename_i hj
    have := List.find?_eq_none.1 hj k (by simpa using (List.getElem?_eq_some_iff.1 hs).1)
    have h2 : badAt w p l k = 0 := by simpa using this
    unfold badAt at h2
    rw [hs, hi] at h2
    dsimp only at h2
    rwa [if_pos hr] at h2
/-- an object that was taken -/
theorem taken_of {o : Ob} (h : (objAns o).2.2 = 0) {k : Nat} {p : Pr} (hp : o.procs[k]? = some p) : Taken o.wd p (flowOf o.wd p) ∧ Least o.wd p (flowOf o.wd p) := by
  obtain ⟨h1, h2⟩ := objAns_zero h
  have hk := objAns_pok h hp
  have hl := hk.least
  have hz := outAt_zero (w := o.wd) hp (allR_zero h2 k (List.getElem?_eq_some_iff.1 hp).1)
  unfold objR at h1
  simp only [Bool.and_eq_true] at h1
  refine ⟨⟨hk, hl.closed, fun q hq => ?_, fun q hq => ?_, fun v hv => ?_, fun j i hi => ?_, wrong_zero hz.2.2.2⟩, hl⟩
  · obtain ⟨j, hj⟩ := List.getElem?_of_mem hq
    have := outAt_zero (w := o.wd) hj (allR_zero h2 j (List.getElem?_eq_some_iff.1 hj).1)
    exact headR_nz (procR_parts this.1)
  · have := List.all_eq_true.1 h1.2.2.2.2.2 q hq
    unfold needR at this
    simp only [Bool.and_eq_true] at this
    exact headR_nz this.2.2
  · exact valueR_nz (List.all_eq_true.1 h1.2.1 v hv)
  · have := hz.2.2.1 j i hi
    cases hm : mayR i.1 i.2 with
    | true => rfl
    | false => unfold aloneR at this; rw [if_pos hm] at this; cases this
theorem typesR_of {o : Ob} (h : (objAns o).2.2 = 0) {n : Nat} {p : Pr} (hp : o.procs[n]? = some p) {k : Nat} {t : SS} (ht : (flowOf o.wd p)[k]? = some t) : typesE o n k = 0 ∧ typesR o n k = (t.vars, t.stack) := by
  have hnl := (List.getElem?_eq_some_iff.1 hp).1
  have hkl := (List.getElem?_eq_some_iff.1 ht).1
  have hf : findE o n = 0 := by unfold findE; rw [if_neg (by simpa using h), if_neg (by omega)]
  have hs : statesR o n = flowOf o.wd p := by unfold statesR; rw [Int.toNat_natCast, hp]
  have he : typesE o n k = 0 := by unfold typesE; rw [if_neg (by simpa using hf), hs, if_neg (by omega)]
  refine ⟨he, ?_⟩
  unfold typesR
  rw [if_pos he, hs, Int.toNat_natCast, ht]
end Go.Proofs.YtkmigdmdppkpoaaGreatDoor.Gb
namespace Go.Proofs.YtkmigdmdppkpoaaGreatDoor.Gb
open Go Go.Proofs Go.MapKept
set_option linter.unusedVariables false
set_option linter.unusedSimpArgs false
set_option linter.unusedSectionVars false
attribute [local irreducible] Tryz.prog
theorem heights_len {o : Ob} {n : Int} : (heightsR o n).length ≤ 16384 := by
  unfold heightsR
  split
  · rename_i h
    obtain ⟨p, hp, hpk⟩ := askR_some h
    obtain ⟨l, hl⟩ : ∃ l, Least o.wd p l := ⟨_, hpk.least⟩
    have hfew := hpk.few
    rw [List.length_map, statesR, hp]
    dsimp only
    rw [hl.flow, hl.closed.len]; exact hfew
  · simp
theorem types_len {o : Ob} {n k : Int} : (typesR o n k).1.length ≤ 1000 ∧ (typesR o n k).2.length ≤ 1000 := by
  unfold typesR
  split
  · rename_i h
    have hf : findE o n = 0 := by
      apply Decidable.byContradiction
      intro h'
      unfold typesE at h
      rw [if_pos h'] at h
      exact h' h
    obtain ⟨p, hp, hpk⟩ := askR_some hf
    obtain ⟨l, hl⟩ : ∃ l, Least o.wd p l := ⟨_, hpk.least⟩
    have hloc := hpk.loc
    rw [statesR, hp]
    dsimp only
    rw [hl.flow]
    cases hs : l[k.toNat]? with
    | none => simp
    | some s =>
      have hw := hl.closed.wf s (List.mem_of_getElem? hs)
      have := hw.high
      refine ⟨?_, by dsimp only; omega⟩
      cases hr : s.reached with
      | true => dsimp only; rw [hw.vars hr]; omega
      | false => rw [hw.bare hr]; simp
  · simp
section
variable (G : Gh) (hE : Env G) (o : Ob) (CA NA PA : Option Addr) (cc nc pc : Nat) (hO : ORep G o CA NA PA) (hL : OLim o) (n k : Int)
include hE hO hL
set_option maxHeartbeats 2000000 in
theorem codeStates_fn : Fn Tryz.prog 3 #[.agg (obC o CA NA PA cc nc pc), .int .i64 n, .int .i64 k] G [] fun e G' H' => e = .returned (.bool true) ∧ G.le G' ∧ H' = [] := by
  have hhl := heights_len (o := o) (n := n)
  obtain ⟨htl1, htl2⟩ := types_len (o := o) (n := n) (k := k)
  refine Fn.enter Tryz.func3 rfl rfl fun w0 => ?_
  refine WC.seq ?_
  refine WC.region ?_
  refine WL.op (by kernel_rfl) (OW.box rfl rfl fun b3 => ?_)
  refine gom ?_
  refine WL.op (by kernel_rfl) (OW.callK rfl (Heights_fn G hE o CA NA PA cc nc pc hO hL n) rfl fun v' G' H' h hg => ?_)
  obtain ⟨A1, c1, x1, he, hg1, hx1, rfl⟩ := h
  cases he
  clear hg
  refine WL.frozenVec hx1 (by (repeat first | exact .here | apply At.there)) fun G2 hg2 z2 => ?_
  have hs1 := IVec.sl z2
  have hg12 := Gh.le_trans hg1 hg2
  refine gom ?_
  refine WL.op (by kernel_rfl) (OW.callK rfl (rHeights_fn G2 o CA NA PA cc nc pc (hO.mono hg12) hL n) rfl fun v' G' H' h hg => ?_)
  obtain ⟨A2, c2, x2, he, hg3, hx2, rfl⟩ := h
  cases he
  clear hg
  refine WL.frozenVec hx2 (by (repeat first | exact .here | apply At.there)) fun G4 hg4 z4 => ?_
  have hs2 := IVec.sl z4
  have hg34 := Gh.le_trans hg3 hg4
  have hg14 := Gh.le_trans hg12 hg34
  have hs1' := hs1.mono hg34
  obtain ⟨hl, hhe⟩ : ∃ hl, hl = heightsR o n := ⟨_, rfl⟩
  rw [← hhe] at hhl hs1' hs2 ⊢
  have e1 : (findE o n != findE o n) = false := by simp
  have e2 : ((hl.length : Int) != (hl.length : Int)) = false := by simp
  refine gom ?_
  refine WC.pick [.blk b3 (.cells (obC o CA NA PA cc nc pc) 26 (0, 0))] ?_
  refine WC.loop (X := Nat) (fun i => [(1, .int .i64 n), (2, .int .i64 k), (3, .pointer (some ⟨b3, 0, none⟩)), (7, .slice A1 hl.length c1), (9, .slice A2 hl.length c2), (11, .int .i64 (i : Int))]) (fun _ => G4) (fun _ => [.blk b3 (.cells (obC o CA NA PA cc nc pc) 26 (0, 0))]) (fun i => hl.length - i) (fun i => i ≤ hl.length) 0 (Nat.zero_le _) (by exact ⟨rfl, rfl, rfl, rfl, rfl, rfl, trivial⟩) rfl (List.Sublist.refl _) fun i hi => ?_
  by_cases hlt : i < hl.length
  · have e3 : decide ((i : Int) < (hl.length : Int)) = true := decide_eq_true (by omega)
    obtain ⟨x, hx⟩ : ∃ x, hl[i]? = some x := ⟨_, List.getElem?_eq_getElem hlt⟩
    obtain ⟨ab, ao, rfl, hca⟩ := hs1'.at hx
    obtain ⟨bb, bo, rfl, hcb⟩ := hs2.at hx
    have x0 : (0 : Int) ≤ i := by omega
    have x1' : (i : Int) < (hl.length : Int) := by omega
    have x2' := wrapS i (by omega)
    have e4 : (x != x) = false := by simp
    refine gom ?_
    exact WK.again (i + 1) (by omega) (by omega) (by exact ⟨rfl, rfl, rfl, rfl, rfl, rfl, trivial⟩) rfl (List.Sublist.refl _)
  have e3 : decide ((i : Int) < (hl.length : Int)) = false := decide_eq_false (by omega)
  refine gom ?_
  refine WL.op (by kernel_rfl) (OW.callK rfl (Types_fn G4 (hE.mono hg14) o CA NA PA cc nc pc (hO.mono hg14) hL n k) rfl fun v' G' H' h hg => ?_)
  obtain ⟨VA, vc, SA, sc, x, y, he, hg5, hx, hy, rfl⟩ := h
  cases he
  clear hg
  refine WL.frozenVec hx (by (repeat first | exact .here | apply At.there)) fun G6 hg6 z6 => ?_
  have hv1 := IVec.sl z6
  refine WL.frozenVec hy (by (repeat first | exact .here | apply At.there)) fun G7 hg7 z7 => ?_
  have hw1 := IVec.sl z7
  have hg47 := Gh.le_trans hg5 (Gh.le_trans hg6 hg7)
  have hg17 := Gh.le_trans hg14 hg47
  refine gom ?_
  refine WL.op (by kernel_rfl) (OW.callK rfl (rTypes_fn G7 o CA NA PA cc nc pc (hO.mono hg17) hL n k) rfl fun v' G' H' h hg => ?_)
  obtain ⟨VB, vb, SB, sb, he, hg8, hv2, hw2, rfl⟩ := h
  cases he
  clear hg
  obtain ⟨G8, rfl⟩ : ∃ G1, G1 = G' := ⟨_, rfl⟩
  have hg18 := Gh.le_trans hg17 hg8
  have e5 : (typesE o n k == typesE o n k) = true := by simp
  refine gom ?_
  refine WL.op (by kernel_rfl) (OW.callK rfl (sameTypes_fn G8 VA VB (typesR o n k).1 (typesR o n k).1 vc vb (hv1.mono (Gh.le_trans hg7 hg8)) hv2 (by omega)) rfl fun v' G' H' h hg => ?_)
  obtain ⟨he, rfl, rfl⟩ := h
  cases he
  rw [decide_eq_true (rfl : (typesR o n k).1 = (typesR o n k).1)]
  refine gom ?_
  refine WL.op (by kernel_rfl) (OW.callK rfl (sameTypes_fn G8 SA SB (typesR o n k).2 (typesR o n k).2 sc sb (hw1.mono hg8) hw2 (by omega)) rfl fun v' G' H' h hg => ?_)
  obtain ⟨he, rfl, rfl⟩ := h
  cases he
  rw [decide_eq_true (rfl : (typesR o n k).2 = (typesR o n k).2)]
  refine gom ?_
  refine WL.op (by kernel_rfl) (OW.callK rfl (awake_fn G8 (hE.mono hg18)) rfl fun v' G' H' h hg => ?_)
  obtain ⟨he, hg9, rfl⟩ := h
  cases he
  refine gom ?_
  refine WC.ret ?_
  refine WK.un ?_
  exact QF.p1 (.inl rfl) rfl (.tmp rfl) (⟨rfl, Gh.le_trans hg18 hg9, rfl⟩)
end
end Go.Proofs.YtkmigdmdppkpoaaGreatDoor.Gb
