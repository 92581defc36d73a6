/- CodeBack. -/
import Derived.Test.YtkmigdmdppkpoaaGreatDoorUh
import Derived.Test.YtkmigdmdppkpoaaGreatDoorRows
import Derived.ProofKit
import Derived.OpenShut
import Derived.Lay
import Derived.LaidMore
import Derived.Lib.LaidU8
import Derived.Shelf.Vars
import Derived.HandedShaped
import Derived.Test.YtkmigdmdppkpoaaGreatDoorTie
import Derived.Test.YtkmigdmdppkpoaaGreatDoorCards
import Derived.SevenTiedAt
import Derived.ShutString
import Derived.ChangeMaps5
set_option linter.unusedVariables false
set_option linter.unusedSimpArgs false
set_option linter.unusedSectionVars false
namespace Go.Proofs.YtkmigdmdppkpoaaGreatDoor.Gb
open Go Go.Proofs Go.MapKept
set_option linter.unusedVariables false
set_option linter.unusedSimpArgs false
set_option linter.unusedSectionVars false
attribute [local irreducible] Tryz.prog
theorem sameBytesG_fn (G : Gh) (A B : Option Addr) (l : List Int) (ca cb : Nat) (hx : Sl (Kd.int .u8) G A l) (hy : Sl (Kd.int .u8) G B l) :
    Fn Tryz.prog 31 #[.slice A l.length ca, .slice B l.length cb] G [] fun e G' H' => e = .returned (.bool true) ∧ G = G' ∧ H' = [] := by
  refine Fn.enter Tryz.func31 rfl rfl fun w0 => ?_
  refine gom ?_
  refine WL.v (Gv.convBytes rfl hx.u8s hx.none_zero) (by kernel_rfl) rfl ?_
  refine gom ?_
  refine WL.v (Gv.convBytes rfl hy.u8s hy.none_zero) (by kernel_rfl) rfl ?_
  refine gom ?_
  have e1 : (strOfNums l == strOfNums l) = true := by rw [bytes_beq]; simp
  rw [e1]
  refine gom ?_
  refine WC.ret ?_
  refine WK.un ?_
  exact QF.p1 (.inl rfl) rfl (.tmp rfl) (⟨rfl, rfl, rfl⟩)
theorem readR_nil {bs : List Int} (h : (readR bs).2 ≠ (0, 0)) : (readR bs).1 = [] := by
  unfold readR at h ⊢
  dsimp only at h ⊢
  generalize endF bs.length _ _ = e at h ⊢
  by_cases he : e = (0, 0)
  · rw [if_pos he] at h; exact absurd rfl h
  · rw [if_neg he]
theorem bytesR_len {l : List (Int × Int)} (h : l.all mayI = true) : (bytesR l).1.length ≤ 10 + 6 * l.length ∨ 18446744073709551616 ≤ l.length := by
  rcases Nat.lt_or_ge l.length 18446744073709551616 with h0 | h0
  · left
    unfold bytesR
    rw [h, if_pos rfl]
    have h1 := uintL_len10 h0
    have h2 := flat_le (l := l) (k := l.length) fun j i _ hi => List.all_eq_true.1 h i (List.mem_of_getElem? hi)
    unfold encP
    rw [List.length_append]; omega
  · exact .inr h0
theorem bytesR_nums {l : List (Int × Int)} (h : l.all mayI = true) (h0 : l.length < 18446744073709551616) : ∀ c ∈ (bytesR l).1, 0 ≤ c ∧ c < 256 := by
  have hu : ∀ (k n : Nat), n < 128 ^ (k + 1) → ∀ c ∈ uintL n, 0 ≤ c ∧ c < 256 := by
    intro k
    induction k with
    | zero => intro n hn c hc; rw [uintL_lt (by simpa using hn)] at hc; simp at hc; omega
    | succ k ih =>
      intro n hn c hc
      by_cases h128 : n < 128
      · rw [uintL_lt h128] at hc; simp at hc; omega
      · rw [uintL_ge h128] at hc
        rcases List.mem_cons.1 hc with rfl | hc
        · omega
        · exact ih (n / 128) (by rw [Nat.div_lt_iff_lt_mul (by decide)]; rw [Nat.pow_succ] at hn; exact hn) c hc
  unfold bytesR
  rw [h, if_pos rfl]
  unfold encP
  rw [List.take_length]
  intro c hc
  rcases List.mem_append.1 hc with hc | hc
  · exact hu 9 _ (by omega) c hc
  · obtain ⟨i, hi, hc⟩ := List.mem_flatMap.1 hc
    exact encI_nums (List.all_eq_true.1 h i hi) c hc
attribute [local irreducible] readR bytesR
set_option maxHeartbeats 2000000 in
theorem codeBack_fn (G : Gh) (hE : Env G) (A B : Option Addr) (l : List (Int × Int)) (bs : List Int) (ca cb : Nat) (hA : Sl Kd.ins G A l) (hl : l.length * 16 ≤ 140737488351232) (hB : Sl (Kd.int .u8) G B bs) (hbs : ∀ c ∈ bs, 0 ≤ c ∧ c < 256) (hn : bs.length ≤ 140737488351232) :
    Fn Tryz.prog 11 #[.slice A l.length ca, .slice B bs.length cb] G [] fun e G' H' => e = .returned (.bool true) ∧ G.le G' ∧ H' = [] := by
  refine Fn.enter Tryz.func11 rfl rfl fun w0 => ?_
  refine gom ?_
  refine WL.op (by kernel_rfl) (OW.callK rfl (Bytes_fn G A l ca hA (by omega)) rfl fun v' G' H' h hg => ?_)
  obtain ⟨A2, c2, x2, he, rfl, h2, rfl⟩ := h
  cases he
  refine WL.frozenVec h2 (by (repeat first | exact .here | apply At.there)) fun G1 hg1 hz1 => ?_
  have hs1 := BVec.sl hz1
  cases hok : l.all mayI with
  | false =>
    have hr : (bytesR l).2 = 180 := by unfold bytesR; rw [hok]; rfl
    have e2 : ((bytesR l).2 == 0) = false := by rw [hr]; rfl
    have hg4 : G.le G1 := hg1
    obtain ⟨G4, hG4⟩ : ∃ G4, G4 = G1 := ⟨_, rfl⟩
    rw [← hG4] at hg4 ⊢
    refine gom ?_
    refine WL.op (by kernel_rfl) (OW.callK rfl (Read_fn G4 B bs cb (hB.mono hg4) hbs hn) rfl fun v' G' H' h hg => ?_)
    obtain ⟨A5, c5, x5, he, hg5, h5, rfl⟩ := h
    cases he
    obtain ⟨G5, rfl⟩ : ∃ G5, G5 = G' := ⟨_, rfl⟩
    refine WL.frozenVec h5 (by (repeat first | exact .here | apply At.there)) fun G6 hg6 hz5 => ?_
    have hs5 := InsV.sl hz5
    have hg7 := Gh.le_trans hg4 (Gh.le_trans hg5 hg6)
    have hll := readR_len bs hbs
    refine gom ?_
    refine WL.op (by kernel_rfl) (OW.alloc rfl fun b10 => ?_)
    refine gom ?_
    refine WL.p (Gp.neFault rfl rfl) (by kernel_rfl) rfl ?_
    by_cases hf : (readR bs).2 = (0, 0)
    · have hev : (!decide (((readR bs).2.1, (readR bs).2.2) = ((0 : Int), (0 : Int)))) = false := by rw [show ((readR bs).2.1, (readR bs).2.2) = (readR bs).2 from rfl, decide_eq_true hf]; rfl
      have hb := bytes_read hbs hf
      rw [hev]
      refine gom ?_
      refine WL.op (by kernel_rfl) (OW.callK rfl (Bytes_fn G6 A5 (readR bs).1 c5 hs5 (by omega)) rfl fun v' G' H' h hg => ?_)
      obtain ⟨A7, c7, x7, he, rfl, h7, rfl⟩ := h
      cases he
      rw [hb] at h7 ⊢
      refine WL.frozenVec h7 (by (repeat first | exact .here | apply At.there)) fun G8 hg8 hz7 => ?_
      have hs7 := BVec.sl hz7
      have hg9 := Gh.le_trans hg7 hg8
      refine gom ?_
      refine WL.op (by kernel_rfl) (OW.callK rfl (sameBytesG_fn G8 A7 B bs c7 cb hs7 (hB.mono hg9)) rfl fun v' G' H' h hg => ?_)
      obtain ⟨he, rfl, rfl⟩ := h
      cases he
      refine gom ?_
      refine WL.op (by kernel_rfl) (OW.callK rfl (awake_fn _ (hE.mono hg9)) rfl fun v' G' H' h hg => ?_)
      obtain ⟨he, hg10, rfl⟩ := h
      cases he
      refine gom ?_
      refine WC.ret ?_
      refine WK.un ?_
      exact QF.p1 (.inl rfl) rfl (.tmp rfl) (⟨rfl, Gh.le_trans hg9 hg10, rfl⟩)
    · have hev : (!decide (((readR bs).2.1, (readR bs).2.2) = ((0 : Int), (0 : Int)))) = true := by rw [show ((readR bs).2.1, (readR bs).2.2) = (readR bs).2 from rfl, decide_eq_false hf]; rfl
      have hnil := readR_nil hf
      have hln : (((readR bs).1.length : Int) == 0) = true := by rw [hnil]; rfl
      rw [hev]
      refine gom ?_
      refine WL.op (by kernel_rfl) (OW.callK rfl (awake_fn _ (hE.mono hg7)) rfl fun v' G' H' h hg => ?_)
      obtain ⟨he, hg10, rfl⟩ := h
      cases he
      refine gom ?_
      refine WC.ret ?_
      refine WK.un ?_
      exact QF.p1 (.inl rfl) rfl (.tmp rfl) (⟨rfl, Gh.le_trans hg7 hg10, rfl⟩)
  | true =>
  have hr : (bytesR l).2 = 0 := by unfold bytesR; rw [hok]; rfl
  have e2 : ((bytesR l).2 == 0) = true := by rw [hr]; rfl
  by_cases hle : l.length ≤ 16384
  rotate_left
  · have e3 : decide ((l.length : Int) ≤ 16384) = false := decide_eq_false (by omega)
    have hg4 : G.le G1 := hg1
    obtain ⟨G4, hG4⟩ : ∃ G4, G4 = G1 := ⟨_, rfl⟩
    rw [← hG4] at hg4 ⊢
    refine gom ?_
    refine WL.op (by kernel_rfl) (OW.callK rfl (Read_fn G4 B bs cb (hB.mono hg4) hbs hn) rfl fun v' G' H' h hg => ?_)
    obtain ⟨A5, c5, x5, he, hg5, h5, rfl⟩ := h
    cases he
    obtain ⟨G5, rfl⟩ : ∃ G5, G5 = G' := ⟨_, rfl⟩
    refine WL.frozenVec h5 (by (repeat first | exact .here | apply At.there)) fun G6 hg6 hz5 => ?_
    have hs5 := InsV.sl hz5
    have hg7 := Gh.le_trans hg4 (Gh.le_trans hg5 hg6)
    have hll := readR_len bs hbs
    refine gom ?_
    refine WL.op (by kernel_rfl) (OW.alloc rfl fun b10 => ?_)
    refine gom ?_
    refine WL.p (Gp.neFault rfl rfl) (by kernel_rfl) rfl ?_
    by_cases hf : (readR bs).2 = (0, 0)
    · have hev : (!decide (((readR bs).2.1, (readR bs).2.2) = ((0 : Int), (0 : Int)))) = false := by rw [show ((readR bs).2.1, (readR bs).2.2) = (readR bs).2 from rfl, decide_eq_true hf]; rfl
      have hb := bytes_read hbs hf
      rw [hev]
      refine gom ?_
      refine WL.op (by kernel_rfl) (OW.callK rfl (Bytes_fn G6 A5 (readR bs).1 c5 hs5 (by omega)) rfl fun v' G' H' h hg => ?_)
      obtain ⟨A7, c7, x7, he, rfl, h7, rfl⟩ := h
      cases he
      rw [hb] at h7 ⊢
      refine WL.frozenVec h7 (by (repeat first | exact .here | apply At.there)) fun G8 hg8 hz7 => ?_
      have hs7 := BVec.sl hz7
      have hg9 := Gh.le_trans hg7 hg8
      refine gom ?_
      refine WL.op (by kernel_rfl) (OW.callK rfl (sameBytesG_fn G8 A7 B bs c7 cb hs7 (hB.mono hg9)) rfl fun v' G' H' h hg => ?_)
      obtain ⟨he, rfl, rfl⟩ := h
      cases he
      refine gom ?_
      refine WL.op (by kernel_rfl) (OW.callK rfl (awake_fn _ (hE.mono hg9)) rfl fun v' G' H' h hg => ?_)
      obtain ⟨he, hg10, rfl⟩ := h
      cases he
      refine gom ?_
      refine WC.ret ?_
      refine WK.un ?_
      exact QF.p1 (.inl rfl) rfl (.tmp rfl) (⟨rfl, Gh.le_trans hg9 hg10, rfl⟩)
    · have hev : (!decide (((readR bs).2.1, (readR bs).2.2) = ((0 : Int), (0 : Int)))) = true := by rw [show ((readR bs).2.1, (readR bs).2.2) = (readR bs).2 from rfl, decide_eq_false hf]; rfl
      have hnil := readR_nil hf
      have hln : (((readR bs).1.length : Int) == 0) = true := by rw [hnil]; rfl
      rw [hev]
      refine gom ?_
      refine WL.op (by kernel_rfl) (OW.callK rfl (awake_fn _ (hE.mono hg7)) rfl fun v' G' H' h hg => ?_)
      obtain ⟨he, hg10, rfl⟩ := h
      cases he
      refine gom ?_
      refine WC.ret ?_
      refine WK.un ?_
      exact QF.p1 (.inl rfl) rfl (.tmp rfl) (⟨rfl, Gh.le_trans hg7 hg10, rfl⟩)
  have e3 : decide ((l.length : Int) ≤ 16384) = true := decide_eq_true (by omega)
  have hbl := bytesR_len hok
  have hbn := bytesR_nums hok (by omega)
  have hrb := read_bytes hok hle
  refine gom ?_
  refine WL.op (by kernel_rfl) (OW.callK rfl (Read_fn G1 A2 (bytesR l).1 c2 hs1 hbn (by omega)) rfl fun v' G' H' h hg => ?_)
  obtain ⟨A3, c3, x3, he, hg2, h3, rfl⟩ := h
  cases he
  rw [hrb] at h3 ⊢
  obtain ⟨G3, rfl⟩ : ∃ G3, G3 = G' := ⟨_, rfl⟩
  refine WL.frozenVec h3 (by (repeat first | exact .here | apply At.there)) fun G4 hg3 hz3 => ?_
  have hs3 := InsV.sl hz3
  have hg4 := Gh.le_trans hg1 (Gh.le_trans hg2 hg3)
  refine gom ?_
  refine WL.op (by kernel_rfl) (OW.alloc rfl fun b8 => ?_)
  refine gom ?_
  refine WL.p (Gp.neFault rfl rfl) (by kernel_rfl) rfl ?_
  rw [show (!decide ((((l, ((0 : Int), (0 : Int))) : List (Int × Int) × (Int × Int)).2.1, ((l, ((0 : Int), (0 : Int))) : List (Int × Int) × (Int × Int)).2.2) = ((0 : Int), (0 : Int)))) = false from by simp]
  refine gom ?_
  refine WL.op (by kernel_rfl) (OW.callK rfl (sameInstrs_fn G4 A A3 l l ca c3 (hA.mono hg4) hs3 (by omega)) rfl fun v' G' H' h hg => ?_)
  obtain ⟨he, rfl, rfl⟩ := h
  cases he
  rw [decide_eq_true rfl]
  refine gom ?_
  refine WL.op (by kernel_rfl) (OW.callK rfl (Read_fn G4 B bs cb (hB.mono hg4) hbs hn) rfl fun v' G' H' h hg => ?_)
  obtain ⟨A5, c5, x5, he, hg5, h5, rfl⟩ := h
  cases he
  obtain ⟨G5, rfl⟩ : ∃ G5, G5 = G' := ⟨_, rfl⟩
  refine WL.frozenVec h5 (by (repeat first | exact .here | apply At.there)) fun G6 hg6 hz5 => ?_
  have hs5 := InsV.sl hz5
  have hg7 := Gh.le_trans hg4 (Gh.le_trans hg5 hg6)
  have hll := readR_len bs hbs
  refine gom ?_
  refine WL.op (by kernel_rfl) (OW.alloc rfl fun b10 => ?_)
  refine gom ?_
  refine WL.p (Gp.neFault rfl rfl) (by kernel_rfl) rfl ?_
  by_cases hf : (readR bs).2 = (0, 0)
  · have hev : (!decide (((readR bs).2.1, (readR bs).2.2) = ((0 : Int), (0 : Int)))) = false := by rw [show ((readR bs).2.1, (readR bs).2.2) = (readR bs).2 from rfl, decide_eq_true hf]; rfl
    have hb := bytes_read hbs hf
    rw [hev]
    refine gom ?_
    refine WL.op (by kernel_rfl) (OW.callK rfl (Bytes_fn G6 A5 (readR bs).1 c5 hs5 (by omega)) rfl fun v' G' H' h hg => ?_)
    obtain ⟨A7, c7, x7, he, rfl, h7, rfl⟩ := h
    cases he
    rw [hb] at h7 ⊢
    refine WL.frozenVec h7 (by (repeat first | exact .here | apply At.there)) fun G8 hg8 hz7 => ?_
    have hs7 := BVec.sl hz7
    have hg9 := Gh.le_trans hg7 hg8
    refine gom ?_
    refine WL.op (by kernel_rfl) (OW.callK rfl (sameBytesG_fn G8 A7 B bs c7 cb hs7 (hB.mono hg9)) rfl fun v' G' H' h hg => ?_)
    obtain ⟨he, rfl, rfl⟩ := h
    cases he
    refine gom ?_
    refine WL.op (by kernel_rfl) (OW.callK rfl (awake_fn _ (hE.mono hg9)) rfl fun v' G' H' h hg => ?_)
    obtain ⟨he, hg10, rfl⟩ := h
    cases he
    refine gom ?_
    refine WC.ret ?_
    refine WK.un ?_
    exact QF.p1 (.inl rfl) rfl (.tmp rfl) (⟨rfl, Gh.le_trans hg9 hg10, rfl⟩)
  · have hev : (!decide (((readR bs).2.1, (readR bs).2.2) = ((0 : Int), (0 : Int)))) = true := by rw [show ((readR bs).2.1, (readR bs).2.2) = (readR bs).2 from rfl, decide_eq_false hf]; rfl
    have hnil := readR_nil hf
    have hln : (((readR bs).1.length : Int) == 0) = true := by rw [hnil]; rfl
    rw [hev]
    refine gom ?_
    refine WL.op (by kernel_rfl) (OW.callK rfl (awake_fn _ (hE.mono hg7)) rfl fun v' G' H' h hg => ?_)
    obtain ⟨he, hg10, rfl⟩ := h
    cases he
    refine gom ?_
    refine WC.ret ?_
    refine WK.un ?_
    exact QF.p1 (.inl rfl) rfl (.tmp rfl) (⟨rfl, Gh.le_trans hg7 hg10, rfl⟩)
end Go.Proofs.YtkmigdmdppkpoaaGreatDoor.Gb
namespace Go.Proofs.YtkmigdmdppkpoaaGreatDoor.Gb
open Go Go.Proofs
set_option linter.unusedVariables false
set_option linter.unusedSimpArgs false
set_option linter.unusedSectionVars false
attribute [local irreducible] Tryz.prog

/-- a row's wrap: what is listed, what the world's shape gives, and the weights -/
theorem handed_all {H : Type} {enc : TypeId × Value → H} {a : Assume} {C : Checked} {os : Os} {f : FuncId} {fn : Func} {s : ChangeSpec} {conds : List PathCond} {apart fresh handsOn again : Bool} {X : World → Prop}
    (hX : ∀ (w w' : World), w.heap = w'.heap → X w → X w')
    (own : ownKnob C.prog.godebug = none) (started : os.Started) (noInit : C.prog.inits.idxOf? f = none) (hfn : C.prog.funcs[f]? = some fn)
    (witness : ∃ (w : World) (tape : Tape) (i : Input), w.os = os ∧ (w.forCall tape i).Shaped C.prog ∧ i.vars = [] ∧ Input.okWide C.prog (w.forCall tape i) .any w.heap.size f i ∧
      ((s.pre enc C.prog fn conds apart (w.forCall tape i).memory i.args ∧ X (w.forCall tape i).memory) ∧ sizedMet enc C.prog fn (OpenSpec.ofChange s) apart (w.forCall tape i).memory i.args) ∧ a.holds C.prog (lone (Frame.enter C.prog f i.args .normal) [] (w.forCall tape i)))
    (contract : ∀ (W : World) (base : Nat) (args : Array Value) (ds gs : List (DataW H)) (before : List MemPlace),
      (∀ (j : Nat) t v, fn.params[j]? = some t → args[j]? = some v → Value.okWide C.prog W .any base t v) →
      DataW.Whole enc C.prog fn.params.toList s.vars apart W args.toList ds gs before →
      (DataW.weightsEach C.prog (fn.params.toList ++ s.plain.varTypes C.prog) (ds ++ gs)).all (· ≤ reachBytes) = true → X W → W.ShapedOpen C.prog →
      Calls C.prog f args W fun e W' => ∃ v, e = .returned v ∧ s.post enc C.prog fn apart fresh handsOn again W args v W') :
    ReturnsInHanded a C os f .any (fun w args => (s.pre enc C.prog fn conds apart w args ∧ X w) ∧ sizedMet enc C.prog fn (OpenSpec.ofChange s) apart w args) (s.post enc C.prog fn apart fresh handsOn again) := by
  refine returnsInHanded_of_calls own started noInit witness ?_
  intro w tape i _ hsh _ hok hpre hholds
  obtain ⟨_, _, _, fn', hfn', _, _, _, _, hval⟩ := hok
  obtain rfl : fn' = fn := Option.some.inj (hfn'.symm.trans hfn)
  obtain ⟨⟨⟨ds, gs, before, hw, hc⟩, hx⟩, hz⟩ := hpre
  have hw' := DataW.Whole.of_heap (w' := w.forCall tape i) (by rfl) hw
  refine (contract (w.forCall tape i) w.heap.size i.args ds gs before hval hw' (hz.weights hw) (hX _ _ (by rfl) hx) hsh).mono fun e W' ⟨v, he, hp⟩ => ?_
  subst he
  exact ChangeSpec.post_blind hp

theorem gSyn : Tryz.prog.globalNamed "strconv.ErrSyntax" = some 1 := by kernel_rfl
theorem gRng : Tryz.prog.globalNamed "strconv.ErrRange" = some 2 := by kernel_rfl
theorem cell_of_iface {W : World} {n nm : String} {g t : Nat} {ms : Array (String × TypeId)} {d : DataW Unit} (hg : Tryz.prog.globalNamed n = some g) (ht : (Tryz.prog.globals[g]?).map (·.type) = some t) (hu : Tryz.prog.underlying t = some (.interface ms)) (h : Lib.VarReads Tryz.prog W n (.iface nm d)) :
    ∃ te pe, Gw W g 0 = some (.iface te pe) := by
  obtain ⟨g', t', cs, fuel, p, h1, h2, h3, h4⟩ := h
  obtain rfl := Option.some.inj (hg.symm.trans h1)
  obtain rfl := Option.some.inj (ht.symm.trans h2)
  obtain ⟨_, u, v, hc, _⟩ := iface_of_trod hu h4
  refine ⟨u, v, ?_⟩
  have := World.var?_cell h1 h3 0
  unfold Gw
  rw [this, ← Array.getElem?_toList, hc]; rfl
theorem tSyn : (Tryz.prog.globals[1]?).map (·.type) = some 122 := by kernel_rfl
theorem tRng : (Tryz.prog.globals[2]?).map (·.type) = some 122 := by kernel_rfl
theorem uErr : Tryz.prog.underlying 122 = some (.interface (Tryz.prog.methodsAt 122)) := by kernel_rfl
theorem tTab : (Tryz.prog.globals[3]?).map (·.type) = some 246 := by kernel_rfl
theorem ex_of {W : World} (h : Lib.VarReads Tryz.prog W "internal/strconv.uint64pow10" Rows.laid_internal_strconv_uint64pow10) : Ex (covs []) W := by
  obtain ⟨g', t', cs, fuel, p, h1, h2, h3, h4⟩ := h
  obtain rfl := Option.some.inj (gTab.symm.trans h1)
  obtain rfl := Option.some.inj (tTab.symm.trans h2)
  have hc := Lib.cells_of_tab (k := .u64) (zs := Lib.pow10Tab) (show Tryz.prog.underlying 246 = some (.array 20 117) by kernel_rfl) (by kernel_rfl) (by kernel_rfl) (by kernel_rfl) h4
  intro q hq
  obtain rfl : q = (3, _) := by simpa [exL] using hq
  refine ⟨?_, fun o ⟨x, hx, _⟩ => by cases hx⟩
  unfold World.var? at h3
  rw [gTab] at h3
  simp only [Option.bind_some] at h3
  cases ho : W.heap[3]? with
  | none => rw [ho] at h3; cases h3
  | some ob =>
    rw [ho] at h3
    cases ob <;> simp at h3
    rename_i c T fr
    subst h3
    exact ⟨T, fr, by rw [show c = (Lib.pow10Tab.map fun z => Value.int .u64 z).toArray from Array.toList_inj.1 hc]; rfl⟩
theorem env_of {W : World} (h1 : Lib.VarReads Tryz.prog W "strconv.ErrSyntax" Rows.laid_strconv_ErrSyntax) (h2 : Lib.VarReads Tryz.prog W "strconv.ErrRange" Rows.laid_strconv_ErrRange) (hs : W.ShapedOpen Tryz.prog) : Env (Gw W) where
  syn := cell_of_iface gSyn tSyn uErr h1
  rng := cell_of_iface gRng tRng uErr h2
  mxl := by
    have h := cell_of_shapedOpen_int (P := Tryz.prog) (w := W) (g := 0) (t := 3) (zero := #[.int .i64 0]) (k := .i64) hs (of_decide_eq_true (by kernel_rfl)) (by kernel_rfl) rfl (by kernel_rfl) (by kernel_rfl) (by kernel_rfl)
    obtain ⟨m, hm⟩ := h
    exact ⟨m, hm⟩
end Go.Proofs.YtkmigdmdppkpoaaGreatDoor.Gb
namespace Go.Proofs.YtkmigdmdppkpoaaGreatDoor.codeBack
open Go Go.Proofs Go.ChangeShapes Go.WideShapes Go.ChangeAt Go.RowKit Go.ChangeMaps
set_option linter.unusedVariables false
attribute [local irreducible] Tryz.prog
theorem wf_u8 {z : Int} (h : (Lit.int .u8 z).wf = true) : 0 ≤ z ∧ z < 256 := by
  simp [Lit.wf, IntKind.min, IntKind.max, IntKind.signed, IntKind.bits] at h
  omega
theorem walk (W : World) (hE : Gb.Env (Gb.Gw W)) (hX : Gb.Ex (Gb.covs []) W) (x : List (Int × Int)) (A : Option Addr) (c : Nat) (hA : Gb.Sl Gb.Kd.ins (Gb.Gw W) A x) (hl : x.length ≤ c) (hx : x.length * 16 ≤ 140737488351232)
    (y : List Int) (B : Option Addr) (d : Nat) (hB : Gb.Sl (Gb.Kd.int .u8) (Gb.Gw W) B y) (hm : y.length ≤ d) (hy : y.length ≤ 140737488351232 ∧ ∀ z ∈ y, (Lit.int .u8 z).wf = true) :
    Calls Tryz.prog 11 #[.slice A x.length c, .slice B y.length d] W fun e W' => e = .returned (.bool true) ∧ Gb.Kept W W' :=
  (Gb.codeBack_fn (Gb.Gw W) hE A B x y c d hA hx hB (fun z hz => wf_u8 (hy.2 z hz)) hy.1).keptG (R' := fun e => e = .returned (.bool true)) (fun e G' H' h => h.1) (Gb.Sat.whole W) hX
theorem own : ownKnob Tryz.prog.godebug = none := by kernel_rfl
theorem laidOut : laidOutB Tryz.prog = true := by kernel_rfl
set_option maxRecDepth 100000 in
theorem lifted (os : Os) (started : os.Started) (H : Type) (enc : TypeId × Value → H) :
    ReturnsInHanded {} Tryz.checked os 11 .any (fun w args => (Rows.codeBackSpec.pre enc Tryz.prog Tryz.f11 [] false w args ∧ laidMetH Tryz.prog Rows.codeBackRow.laid w) ∧ sizedMet enc Tryz.prog Tryz.f11 (OpenSpec.ofChange Rows.codeBackSpec) false w args)
      (Rows.codeBackSpec.post enc Tryz.prog Tryz.f11 false true false false) := by
  refine Gb.handed_all (C := Tryz.checked) (X := fun w => laidMetH Tryz.prog Rows.codeBackRow.laid w) (fun _ _ hh h => h.of_heap hh) own started (by kernel_rfl) Tryz.func11
    (ChangeSpec.witness_shaped (enc := enc) (C := Tryz.checked) (os := os) (X := fun w _ => laidMetH Tryz.prog Rows.codeBackRow.laid w) false (World.laidAll Tryz.prog os Rows.codeBackRow.laid) #[.slice none 0 0, .slice none 0 0] 8 (World.laidAll_os _ _ _)
      (World.shaped_of_ZipB (by kernel_rfl) (by kernel_rfl)) (by kernel_rfl) (by kernel_rfl) (by kernel_rfl)
      (by rw [MakeChecks.laidMetH_plain _ _ _ (by kernel_rfl)]; exact laidMet_laidAll _ (by kernel_rfl) (by kernel_rfl))) ?_
  intro W base args ds gs before hval0 hW hsz0 hL hsh
  rw [MakeChecks.laidMetH_plain _ _ _ (by kernel_rfl)] at hL
  have hE := Gb.env_of (Lib.laidMet.reads hL (by simp [Rows.codeBackRow])) (Lib.laidMet.reads hL (by simp [Rows.codeBackRow])) hsh
  have hX := Gb.ex_of (Lib.laidMet.reads hL (by simp [Rows.codeBackRow]))
  have hsz : (DataW.weightsEach Tryz.prog (Tryz.f11.params.toList ++ Rows.codeBackSpec.plain.varTypes Tryz.prog) (ds ++ gs)).all (· ≤ reachBytes) = true := hsz0
  have hval : ∀ (j : Nat) t v, Tryz.f11.params[j]? = some t → args[j]? = some v → Value.okWide Tryz.prog W .any base t v := hval0
  have hW' := hW
  obtain ⟨p, q, hA0, hV, rfl, hfz, hnd⟩ := hW
  have hA : DataW.TrodAll enc Tryz.prog W 0 (fun _ => true) true Tryz.f11.params.toList args.toList ds p := hA0
  rw [Tryz.params11] at hA hval hsz
  obtain ⟨v0, vs0, d0, ds0, p0, q0, hargs, rfl, rfl, h0, r0⟩ := trodAll_cons hA
  obtain ⟨v1, vs1, d1, ds1, p1, q1, rfl, rfl, rfl, h1, r1⟩ := trodAll_cons r0
  obtain ⟨rfl, rfl, rfl⟩ := trodAll_nil r1
  obtain rfl : args = #[v0, v1] := by cases args; simp_all
  obtain ⟨rfl, rfl⟩ := trodVars_none hV
  obtain ⟨x0, A0, c0, rfl, hD0, hM0, hN0⟩ := Gb.open_ins enc W (hval 0 43 v0 rfl rfl) h0 (Gb.sized_each hsz (j := 0) rfl rfl)
  obtain ⟨x1, A1, c1, rfl, hD1, hM1, hN1⟩ := Gb.open_bytes enc W (hval 1 65 v1 rfl rfl) h1 (Gb.sized_each hsz (j := 1) rfl rfl)
  clear hA0 hval0 hsz0 hsz
  refine (walk W hE hX x0 A0 c0 hD0 hM0 hN0 x1 A1 c1 hD1 hM1 hN1).mono fun e W' ⟨he, hg⟩ => ?_
  subst he
  exact ⟨_, rfl, _, _, _, [], _, [], hW', trodAll_mk1 (shut_bool Tryz.underlying4 _), (trodAll_cons_mk (Gb.Kept.trod laidOut (by kernel_rfl) (of_decide_eq_true (by kernel_rfl)) h0 hg) (trodAll_cons_mk (Gb.Kept.trod laidOut (by kernel_rfl) (of_decide_eq_true (by kernel_rfl)) h1 hg) trodAll_mk0)), rfl, hg.frame _, fun h => by cases h⟩
theorem over : Rows.codeBackRow.holds Tryz.pinned (OpenSpec.ofChange Rows.codeBackSpec) :=
  OpenClaim.holds_of_wide 11 Tryz.f11 rfl rfl rfl rfl rfl rfl rfl ⟨rfl, rfl, rfl, rfl, rfl⟩ rfl rfl rfl rfl rfl (by kernel_rfl) Tryz.func11 (by kernel_rfl)
    (of_decide_eq_true (by kernel_rfl)) (by unfold Func.isWrapper; first | (rw [if_pos (by decide +kernel)]; kernel_rfl) | (rw [if_neg (by decide +kernel)]; exact ⟨rfl, rfl⟩))
    (fun os started H enc _ => lifted os started H enc)
/-- the statement -/
theorem proved : Rows.CodeBackCardSaid :=
  Claim7.holds_tied_plain_at .later [] [.data, .data, .data, .data, .sentinel, .sentinel, .pinned] true (true, "a9e86093dc3b037adfe49b333739a64217995624d394bac180cb6c8a0912fb8f") true
    over (fun _ h => by cases h) (by kernel_rfl) (fun _ h => by cases h) codeBack_row_tie rfl ⟨rfl, rfl⟩ (by kernel_rfl) rfl
    (fun f fn hf hfn => by
      obtain rfl : f = 11 := Option.some.inj ((show Tryz.prog.funcNamed "treadle/treadlelaw18.CodeBack" = some 11 by kernel_rfl).symm.trans hf) |>.symm
      obtain rfl : fn = Tryz.f11 := (Option.some.inj (Tryz.func11.symm.trans hfn)).symm
      exact ⟨by kernel_rfl, fun j t ht => by
        rw [Tryz.params11] at ht
        have hm : t ∈ [43, 65] := by simpa using Array.mem_of_getElem? ht
        have hall : ([43, 65].all fun u => !Tryz.prog.wantsStandIn u) = true := by kernel_rfl
        exact (show Tryz.prog.wantsStandIn t = false by simpa using List.all_eq_true.1 hall t hm)⟩)
    (by kernel_rfl)
#print axioms proved
end Go.Proofs.YtkmigdmdppkpoaaGreatDoor.codeBack
