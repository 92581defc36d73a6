/- CodeText. -/
import Derived.Test.YtkmigdmdppkpoaaGreatDoorSg
import Derived.Test.YtkmigdmdppkpoaaGreatDoorRows
import Derived.ProofKit
import Derived.OpenShut
import Derived.Lay
import Derived.LaidMore
import Derived.Lib.LaidU8
import Derived.Shelf.Vars
import Derived.HandedShaped
import Derived.Test.YtkmigdmdppkpoaaGreatDoorTie
import Derived.Test.YtkmigdmdppkpoaaGreatDoorCards
import Derived.SevenTiedAt
import Derived.ShutString
import Derived.ChangeMaps5
set_option linter.unusedVariables false
set_option linter.unusedSimpArgs false
set_option linter.unusedSectionVars false
namespace Go.Proofs.YtkmigdmdppkpoaaGreatDoor.Gb
open Go Go.Proofs Go.MapKept
set_option linter.unusedVariables false
set_option linter.unusedSimpArgs false
set_option linter.unusedSectionVars false
attribute [local irreducible] Tryz.prog
theorem parses_lines {l : List (Int × Int)} (h : l.all mayI = true) : parsesR (l.map lineR) = (l, 0, 0) := by
  have hm : ∀ x ∈ l, mayI x = true := fun x hx => List.all_eq_true.1 h x hx
  rw [parsesR_all fun j s hj hs => ?_]
  · congr 1
    rw [List.map_map]
    have : ∀ (m : List (Int × Int)), (∀ x ∈ m, mayI x = true) → m.map ((fun s => (refR s).2) ∘ lineR) = m := by
      intro m
      induction m with
      | nil => intro _; rfl
      | cons x r ih =>
        intro hx
        rw [List.map_cons, ih fun y hy => hx y (List.mem_cons_of_mem _ hy)]
        show (refR (lineR x)).2 :: r = _
        rw [ref_line (hx x (List.mem_cons_self ..))]
    exact this l hm
  · rw [List.getElem?_map] at hs
    cases hx : l[j]? with
    | none => rw [hx] at hs; cases hs
    | some x =>
      rw [hx] at hs
      obtain rfl : lineR x = s := Option.some.inj hs
      rw [ref_line (hm x (List.mem_of_getElem? hx))]
theorem parses_cases (l : List ByteArray) : (∃ k : Nat, k < l.length ∧ parsesR l = ([], 180, (k : Int))) ∨ ((∀ s ∈ l, (refR s).1 = true) ∧ parsesR l = (l.map fun s => (refR s).2, 0, 0)) := by
  by_cases h : ∀ s ∈ l, (refR s).1 = true
  · exact .inr ⟨h, parsesR_all fun j s hj hs => h s (List.mem_of_getElem? hs)⟩
  · refine .inl ?_
    unfold parsesR
    split
    · rename_i k hk
      exact ⟨k, by simpa using List.mem_of_find?_eq_some hk, rfl⟩
    · rename_i hk
      exfalso
      apply h
      intro s hs
      obtain ⟨j, hj⟩ := List.mem_iff_getElem?.1 hs
      have := List.find?_eq_none.1 hk j (by simpa using (List.getElem?_eq_some_iff.1 hj).1)
      rw [hj] at this
      simpa using this
theorem lines_back {l : List ByteArray} (h : ∀ s ∈ l, (refR s).1 = true) : linesR (l.map fun s => (refR s).2) = (l, 0) := by
  unfold linesR
  rw [if_pos]
  · congr 1
    rw [List.map_map]
    induction l with
    | nil => rfl
    | cons s r ih =>
      rw [List.map_cons, ih fun t ht => h t (List.mem_cons_of_mem _ ht)]
      show lineR (refR s).2 :: r = _
      rw [(ref_ok (h s (List.mem_cons_self ..))).2]
  · rw [List.all_map, List.all_eq_true]
    intro s hs
    have h1 := (ref_ok (h s hs)).1
    rw [Function.comp_apply]
    exact h1
theorem lines_err (l : List (Int × Int)) : (linesR l).2 = (bytesR l).2 := by
  unfold linesR bytesR
  cases h : l.all mayI with
  | true => rw [if_pos rfl, if_pos rfl]
  | false => rw [if_neg (by simp), if_neg (by simp)]
theorem line_small {x : Int × Int} (h : mayI x = true) : (lineR x).size ≤ 140737488351232 := by
  obtain ⟨b1, b2, b3, b4⟩ := mayI_bounds h
  have h1 := name_small x.1
  have h2 := decS_size x.2.toNat (by omega)
  have h3 := line_size x
  generalize (lineR x).size = q at h3 ⊢
  generalize (rowC x.1).name.size = r at h1 h3
  generalize (decS x.2.toNat).size = t at h2 h3
  cases hn : (rowC x.1).n with
  | true => rw [hn, if_pos rfl] at h3; omega
  | false => rw [hn, if_neg (by simp)] at h3; omega
attribute [local irreducible] parsesR linesR bytesR
set_option maxHeartbeats 2000000 in
theorem codeText_fn (G : Gh) (hE : Env G) (A B : Option Addr) (l : List (Int × Int)) (m : List ByteArray) (ca cb : Nat) (hA : Sl Kd.ins G A l) (hl : l.length * 16 ≤ 140737488351232) (hB : Sl Kd.str G B m) (hm : m.length * 16 ≤ 140737488351232) (hsz : ∀ s ∈ m, s.size ≤ 140737488351232) :
    Fn Tryz.prog 10 #[.slice A l.length ca, .slice B m.length cb] G [] fun e G' H' => e = .returned (.bool true) ∧ G.le G' ∧ H' = [] := by
  refine Fn.enter Tryz.func10 rfl rfl fun w0 => ?_
  refine gom ?_
  refine WL.op (by kernel_rfl) (OW.callK rfl (Lines_fn G hE A l ca hA hl) rfl fun v' G' H' h hg => ?_)
  obtain ⟨A2, c2, x2, he, rfl, h2, rfl⟩ := h
  cases he
  refine WL.frozenVec h2 (by (repeat first | exact .here | apply At.there)) fun G1 hg1 hz1 => ?_
  have hs1 := TxVec.sl hz1
  refine gom ?_
  refine WL.op (by kernel_rfl) (OW.callK rfl (Bytes_fn G1 A l ca (hA.mono hg1) (by omega)) rfl fun v' G' H' h hg => ?_)
  obtain ⟨A3, c3, x3, he, rfl, h3, rfl⟩ := h
  cases he
  have e1 : ((linesR l).2 != (bytesR l).2) = false := by rw [lines_err]; simp
  have hm' := parsesR_len m
  cases hok : l.all mayI with
  | false =>
    have hr : (linesR l).2 = 180 := by unfold linesR; rw [hok]; rfl
    have e2 : ((linesR l).2 == 0) = false := by rw [hr]; rfl
    have hg4 : G.le G1 := hg1
    obtain ⟨G4, hG4⟩ : ∃ G4, G4 = G1 := ⟨_, rfl⟩
    rw [← hG4] at hg4 ⊢
    refine gom ?_
    refine WL.op (by kernel_rfl) (OW.callK rfl (Parse_fn G4 (hE.mono hg4) B m cb (hB.mono hg4) hm hsz) rfl fun v' G' H' h hg => ?_)
    obtain ⟨A5, c5, x5, he, rfl, h5, rfl⟩ := h
    cases he
    refine WL.frozenVec h5 (by (repeat first | exact .here | apply At.there)) fun G5 hg5 hz5 => ?_
    have hs5 := InsV.sl hz5
    have hg6 := Gh.le_trans hg4 hg5
    refine gom ?_
    refine WL.op (by kernel_rfl) (OW.alloc rfl fun b12 => ?_)
    rcases parses_cases m with ⟨k, hk, hpk⟩ | ⟨hgood, hpk⟩
    · have y1 : decide ((0 : Int) ≤ (k : Int)) = true := decide_eq_true (by omega)
      have y2 : decide ((k : Int) < (m.length : Int)) = true := decide_eq_true (by omega)
      rw [hpk]
      refine gom ?_
      refine WL.p (Gp.neFault rfl rfl) (by kernel_rfl) rfl ?_
      rw [show decide (((180 : Int), (k : Int)) = (0, 0)) = false from decide_eq_false (fun e => by cases e)]
      refine gom ?_
      refine WL.op (by kernel_rfl) (OW.callK rfl (awake_fn _ (hE.mono hg6)) rfl fun v' G' H' h hg => ?_)
      obtain ⟨he, hg7, rfl⟩ := h
      cases he
      refine gom ?_
      refine WC.ret ?_
      refine WK.un ?_
      exact QF.p1 (.inl rfl) rfl (.tmp rfl) (⟨rfl, Gh.le_trans hg6 hg7, rfl⟩)
    · have hb := lines_back hgood
      rw [hpk] at hs5 hm' ⊢
      refine gom ?_
      refine WL.p (Gp.neFault rfl rfl) (by kernel_rfl) rfl ?_
      refine gom ?_
      refine WL.op (by kernel_rfl) (OW.callK rfl (Lines_fn G5 (hE.mono hg6) A5 (m.map fun s => (refR s).2) c5 hs5 (by rw [List.length_map]; omega)) rfl fun v' G' H' h hg => ?_)
      obtain ⟨A6, c6, x6, he, rfl, h6, rfl⟩ := h
      cases he
      rw [hb] at h6 ⊢
      refine WL.frozenVec h6 (by (repeat first | exact .here | apply At.there)) fun G6 hg7 hz6 => ?_
      have hs6 := TxVec.sl hz6
      have hg8 := Gh.le_trans hg6 hg7
      refine gom ?_
      refine WL.op (by kernel_rfl) (OW.callK rfl (sameTexts_fn G6 A6 B m m c6 cb hs6 (hB.mono hg8) (by omega)) rfl fun v' G' H' h hg => ?_)
      obtain ⟨he, rfl, rfl⟩ := h
      cases he
      rw [decide_eq_true rfl]
      refine gom ?_
      refine WL.op (by kernel_rfl) (OW.callK rfl (awake_fn _ (hE.mono hg8)) rfl fun v' G' H' h hg => ?_)
      obtain ⟨he, hg9, rfl⟩ := h
      cases he
      refine gom ?_
      refine WC.ret ?_
      refine WK.un ?_
      exact QF.p1 (.inl rfl) rfl (.tmp rfl) (⟨rfl, Gh.le_trans hg8 hg9, rfl⟩)
  | true =>
    have hr : linesR l = (l.map lineR, 0) := by unfold linesR; rw [hok, if_pos rfl]
    have e2 : ((linesR l).2 == 0) = true := by rw [hr]; rfl
    have hp : parsesR (linesR l).1 = (l, 0, 0) := by rw [hr]; exact parses_lines hok
    have hll := linesR_len l
    have hsl : ∀ s ∈ (linesR l).1, s.size ≤ 140737488351232 := by
      rw [hr]
      intro s hs
      obtain ⟨x, hx, rfl⟩ := List.mem_map.1 hs
      exact line_small (List.all_eq_true.1 hok x hx)
    refine gom ?_
    refine WL.op (by kernel_rfl) (OW.callK rfl (Parse_fn G1 (hE.mono hg1) A2 (linesR l).1 c2 hs1 (by omega) hsl) rfl fun v' G' H' h hg => ?_)
    obtain ⟨A4, c4, x4, he, rfl, h4, rfl⟩ := h
    cases he
    rw [hp] at h4 ⊢
    refine WL.frozenVec h4 (by (repeat first | exact .here | apply At.there)) fun G4 hg2 hz4 => ?_
    have hs4 := InsV.sl hz4
    have hg4 := Gh.le_trans hg1 hg2
    refine gom ?_
    refine WL.op (by kernel_rfl) (OW.alloc rfl fun b10 => ?_)
    refine gom ?_
    refine WL.p (Gp.neFault rfl rfl) (by kernel_rfl) rfl ?_
    refine gom ?_
    refine WL.op (by kernel_rfl) (OW.callK rfl (sameInstrs_fn G4 A A4 l l ca c4 (hA.mono hg4) hs4 (by omega)) rfl fun v' G' H' h hg => ?_)
    obtain ⟨he, rfl, rfl⟩ := h
    cases he
    rw [decide_eq_true rfl]
    refine gom ?_
    refine WL.op (by kernel_rfl) (OW.callK rfl (Parse_fn G4 (hE.mono hg4) B m cb (hB.mono hg4) hm hsz) rfl fun v' G' H' h hg => ?_)
    obtain ⟨A5, c5, x5, he, rfl, h5, rfl⟩ := h
    cases he
    refine WL.frozenVec h5 (by (repeat first | exact .here | apply At.there)) fun G5 hg5 hz5 => ?_
    have hs5 := InsV.sl hz5
    have hg6 := Gh.le_trans hg4 hg5
    refine gom ?_
    refine WL.op (by kernel_rfl) (OW.alloc rfl fun b12 => ?_)
    rcases parses_cases m with ⟨k, hk, hpk⟩ | ⟨hgood, hpk⟩
    · have y1 : decide ((0 : Int) ≤ (k : Int)) = true := decide_eq_true (by omega)
      have y2 : decide ((k : Int) < (m.length : Int)) = true := decide_eq_true (by omega)
      rw [hpk]
      refine gom ?_
      refine WL.p (Gp.neFault rfl rfl) (by kernel_rfl) rfl ?_
      rw [show decide (((180 : Int), (k : Int)) = (0, 0)) = false from decide_eq_false (fun e => by cases e)]
      refine gom ?_
      refine WL.op (by kernel_rfl) (OW.callK rfl (awake_fn _ (hE.mono hg6)) rfl fun v' G' H' h hg => ?_)
      obtain ⟨he, hg7, rfl⟩ := h
      cases he
      refine gom ?_
      refine WC.ret ?_
      refine WK.un ?_
      exact QF.p1 (.inl rfl) rfl (.tmp rfl) (⟨rfl, Gh.le_trans hg6 hg7, rfl⟩)
    · have hb := lines_back hgood
      rw [hpk] at hs5 hm' ⊢
      refine gom ?_
      refine WL.p (Gp.neFault rfl rfl) (by kernel_rfl) rfl ?_
      refine gom ?_
      refine WL.op (by kernel_rfl) (OW.callK rfl (Lines_fn G5 (hE.mono hg6) A5 (m.map fun s => (refR s).2) c5 hs5 (by rw [List.length_map]; omega)) rfl fun v' G' H' h hg => ?_)
      obtain ⟨A6, c6, x6, he, rfl, h6, rfl⟩ := h
      cases he
      rw [hb] at h6 ⊢
      refine WL.frozenVec h6 (by (repeat first | exact .here | apply At.there)) fun G6 hg7 hz6 => ?_
      have hs6 := TxVec.sl hz6
      have hg8 := Gh.le_trans hg6 hg7
      refine gom ?_
      refine WL.op (by kernel_rfl) (OW.callK rfl (sameTexts_fn G6 A6 B m m c6 cb hs6 (hB.mono hg8) (by omega)) rfl fun v' G' H' h hg => ?_)
      obtain ⟨he, rfl, rfl⟩ := h
      cases he
      rw [decide_eq_true rfl]
      refine gom ?_
      refine WL.op (by kernel_rfl) (OW.callK rfl (awake_fn _ (hE.mono hg8)) rfl fun v' G' H' h hg => ?_)
      obtain ⟨he, hg9, rfl⟩ := h
      cases he
      refine gom ?_
      refine WC.ret ?_
      refine WK.un ?_
      exact QF.p1 (.inl rfl) rfl (.tmp rfl) (⟨rfl, Gh.le_trans hg8 hg9, rfl⟩)
end Go.Proofs.YtkmigdmdppkpoaaGreatDoor.Gb
namespace Go.Proofs.YtkmigdmdppkpoaaGreatDoor.Gb
open Go Go.Proofs
set_option linter.unusedVariables false
set_option linter.unusedSimpArgs false
set_option linter.unusedSectionVars false
attribute [local irreducible] Tryz.prog

/-- a row's wrap: what is listed, what the world's shape gives, and the weights -/
theorem handed_all {H : Type} {enc : TypeId × Value → H} {a : Assume} {C : Checked} {os : Os} {f : FuncId} {fn : Func} {s : ChangeSpec} {conds : List PathCond} {apart fresh handsOn again : Bool} {X : World → Prop}
    (hX : ∀ (w w' : World), w.heap = w'.heap → X w → X w')
    (own : ownKnob C.prog.godebug = none) (started : os.Started) (noInit : C.prog.inits.idxOf? f = none) (hfn : C.prog.funcs[f]? = some fn)
    (witness : ∃ (w : World) (tape : Tape) (i : Input), w.os = os ∧ (w.forCall tape i).Shaped C.prog ∧ i.vars = [] ∧ Input.okWide C.prog (w.forCall tape i) .any w.heap.size f i ∧
      ((s.pre enc C.prog fn conds apart (w.forCall tape i).memory i.args ∧ X (w.forCall tape i).memory) ∧ sizedMet enc C.prog fn (OpenSpec.ofChange s) apart (w.forCall tape i).memory i.args) ∧ a.holds C.prog (lone (Frame.enter C.prog f i.args .normal) [] (w.forCall tape i)))
    (contract : ∀ (W : World) (base : Nat) (args : Array Value) (ds gs : List (DataW H)) (before : List MemPlace),
      (∀ (j : Nat) t v, fn.params[j]? = some t → args[j]? = some v → Value.okWide C.prog W .any base t v) →
      DataW.Whole enc C.prog fn.params.toList s.vars apart W args.toList ds gs before →
      (DataW.weightsEach C.prog (fn.params.toList ++ s.plain.varTypes C.prog) (ds ++ gs)).all (· ≤ reachBytes) = true → X W → W.ShapedOpen C.prog →
      Calls C.prog f args W fun e W' => ∃ v, e = .returned v ∧ s.post enc C.prog fn apart fresh handsOn again W args v W') :
    ReturnsInHanded a C os f .any (fun w args => (s.pre enc C.prog fn conds apart w args ∧ X w) ∧ sizedMet enc C.prog fn (OpenSpec.ofChange s) apart w args) (s.post enc C.prog fn apart fresh handsOn again) := by
  refine returnsInHanded_of_calls own started noInit witness ?_
  intro w tape i _ hsh _ hok hpre hholds
  obtain ⟨_, _, _, fn', hfn', _, _, _, _, hval⟩ := hok
  obtain rfl : fn' = fn := Option.some.inj (hfn'.symm.trans hfn)
  obtain ⟨⟨⟨ds, gs, before, hw, hc⟩, hx⟩, hz⟩ := hpre
  have hw' := DataW.Whole.of_heap (w' := w.forCall tape i) (by rfl) hw
  refine (contract (w.forCall tape i) w.heap.size i.args ds gs before hval hw' (hz.weights hw) (hX _ _ (by rfl) hx) hsh).mono fun e W' ⟨v, he, hp⟩ => ?_
  subst he
  exact ChangeSpec.post_blind hp

theorem gSyn : Tryz.prog.globalNamed "strconv.ErrSyntax" = some 1 := by kernel_rfl
theorem gRng : Tryz.prog.globalNamed "strconv.ErrRange" = some 2 := by kernel_rfl
theorem cell_of_iface {W : World} {n nm : String} {g t : Nat} {ms : Array (String × TypeId)} {d : DataW Unit} (hg : Tryz.prog.globalNamed n = some g) (ht : (Tryz.prog.globals[g]?).map (·.type) = some t) (hu : Tryz.prog.underlying t = some (.interface ms)) (h : Lib.VarReads Tryz.prog W n (.iface nm d)) :
    ∃ te pe, Gw W g 0 = some (.iface te pe) := by
  obtain ⟨g', t', cs, fuel, p, h1, h2, h3, h4⟩ := h
  obtain rfl := Option.some.inj (hg.symm.trans h1)
  obtain rfl := Option.some.inj (ht.symm.trans h2)
  obtain ⟨_, u, v, hc, _⟩ := iface_of_trod hu h4
  refine ⟨u, v, ?_⟩
  have := World.var?_cell h1 h3 0
  unfold Gw
  rw [this, ← Array.getElem?_toList, hc]; rfl
theorem tSyn : (Tryz.prog.globals[1]?).map (·.type) = some 122 := by kernel_rfl
theorem tRng : (Tryz.prog.globals[2]?).map (·.type) = some 122 := by kernel_rfl
theorem uErr : Tryz.prog.underlying 122 = some (.interface (Tryz.prog.methodsAt 122)) := by kernel_rfl
theorem tTab : (Tryz.prog.globals[3]?).map (·.type) = some 246 := by kernel_rfl
theorem ex_of {W : World} (h : Lib.VarReads Tryz.prog W "internal/strconv.uint64pow10" Rows.laid_internal_strconv_uint64pow10) : Ex (covs []) W := by
  obtain ⟨g', t', cs, fuel, p, h1, h2, h3, h4⟩ := h
  obtain rfl := Option.some.inj (gTab.symm.trans h1)
  obtain rfl := Option.some.inj (tTab.symm.trans h2)
  have hc := Lib.cells_of_tab (k := .u64) (zs := Lib.pow10Tab) (show Tryz.prog.underlying 246 = some (.array 20 117) by kernel_rfl) (by kernel_rfl) (by kernel_rfl) (by kernel_rfl) h4
  intro q hq
  obtain rfl : q = (3, _) := by simpa [exL] using hq
  refine ⟨?_, fun o ⟨x, hx, _⟩ => by cases hx⟩
  unfold World.var? at h3
  rw [gTab] at h3
  simp only [Option.bind_some] at h3
  cases ho : W.heap[3]? with
  | none => rw [ho] at h3; cases h3
  | some ob =>
    rw [ho] at h3
    cases ob <;> simp at h3
    rename_i c T fr
    subst h3
    exact ⟨T, fr, by rw [show c = (Lib.pow10Tab.map fun z => Value.int .u64 z).toArray from Array.toList_inj.1 hc]; rfl⟩
theorem env_of {W : World} (h1 : Lib.VarReads Tryz.prog W "strconv.ErrSyntax" Rows.laid_strconv_ErrSyntax) (h2 : Lib.VarReads Tryz.prog W "strconv.ErrRange" Rows.laid_strconv_ErrRange) (hs : W.ShapedOpen Tryz.prog) : Env (Gw W) where
  syn := cell_of_iface gSyn tSyn uErr h1
  rng := cell_of_iface gRng tRng uErr h2
  mxl := by
    have h := cell_of_shapedOpen_int (P := Tryz.prog) (w := W) (g := 0) (t := 3) (zero := #[.int .i64 0]) (k := .i64) hs (of_decide_eq_true (by kernel_rfl)) (by kernel_rfl) rfl (by kernel_rfl) (by kernel_rfl) (by kernel_rfl)
    obtain ⟨m, hm⟩ := h
    exact ⟨m, hm⟩
end Go.Proofs.YtkmigdmdppkpoaaGreatDoor.Gb
namespace Go.Proofs.YtkmigdmdppkpoaaGreatDoor.codeText
open Go Go.Proofs Go.ChangeShapes Go.WideShapes Go.ChangeAt Go.RowKit Go.ChangeMaps
set_option linter.unusedVariables false
attribute [local irreducible] Tryz.prog
theorem walk (W : World) (hE : Gb.Env (Gb.Gw W)) (hX : Gb.Ex (Gb.covs []) W) (x : List (Int × Int)) (A : Option Addr) (c : Nat) (hA : Gb.Sl Gb.Kd.ins (Gb.Gw W) A x) (hl : x.length ≤ c) (hx : x.length * 16 ≤ 140737488351232)
    (y : List ByteArray) (B : Option Addr) (d : Nat) (hB : Gb.Sl Gb.Kd.str (Gb.Gw W) B y) (hm : y.length ≤ d) (hy : y.length * 16 ≤ 140737488351232 ∧ ∀ s ∈ y, s.size ≤ 140737488351232) :
    Calls Tryz.prog 10 #[.slice A x.length c, .slice B y.length d] W fun e W' => e = .returned (.bool true) ∧ Gb.Kept W W' :=
  (Gb.codeText_fn (Gb.Gw W) hE A B x y c d hA hx hB hy.1 hy.2).keptG (R' := fun e => e = .returned (.bool true)) (fun e G' H' h => h.1) (Gb.Sat.whole W) hX
theorem own : ownKnob Tryz.prog.godebug = none := by kernel_rfl
theorem laidOut : laidOutB Tryz.prog = true := by kernel_rfl
set_option maxRecDepth 100000 in
theorem lifted (os : Os) (started : os.Started) (H : Type) (enc : TypeId × Value → H) :
    ReturnsInHanded {} Tryz.checked os 10 .any (fun w args => (Rows.codeTextSpec.pre enc Tryz.prog Tryz.f10 [] false w args ∧ laidMetH Tryz.prog Rows.codeTextRow.laid w) ∧ sizedMet enc Tryz.prog Tryz.f10 (OpenSpec.ofChange Rows.codeTextSpec) false w args)
      (Rows.codeTextSpec.post enc Tryz.prog Tryz.f10 false true false false) := by
  refine Gb.handed_all (C := Tryz.checked) (X := fun w => laidMetH Tryz.prog Rows.codeTextRow.laid w) (fun _ _ hh h => h.of_heap hh) own started (by kernel_rfl) Tryz.func10
    (ChangeSpec.witness_shaped (enc := enc) (C := Tryz.checked) (os := os) (X := fun w _ => laidMetH Tryz.prog Rows.codeTextRow.laid w) false (World.laidAll Tryz.prog os Rows.codeTextRow.laid) #[.slice none 0 0, .slice none 0 0] 8 (World.laidAll_os _ _ _)
      (World.shaped_of_ZipB (by kernel_rfl) (by kernel_rfl)) (by kernel_rfl) (by kernel_rfl) (by kernel_rfl)
      (by rw [MakeChecks.laidMetH_plain _ _ _ (by kernel_rfl)]; exact laidMet_laidAll _ (by kernel_rfl) (by kernel_rfl))) ?_
  intro W base args ds gs before hval0 hW hsz0 hL hsh
  rw [MakeChecks.laidMetH_plain _ _ _ (by kernel_rfl)] at hL
  have hE := Gb.env_of (Lib.laidMet.reads hL (by simp [Rows.codeTextRow])) (Lib.laidMet.reads hL (by simp [Rows.codeTextRow])) hsh
  have hX := Gb.ex_of (Lib.laidMet.reads hL (by simp [Rows.codeTextRow]))
  have hsz : (DataW.weightsEach Tryz.prog (Tryz.f10.params.toList ++ Rows.codeTextSpec.plain.varTypes Tryz.prog) (ds ++ gs)).all (· ≤ reachBytes) = true := hsz0
  have hval : ∀ (j : Nat) t v, Tryz.f10.params[j]? = some t → args[j]? = some v → Value.okWide Tryz.prog W .any base t v := hval0
  have hW' := hW
  obtain ⟨p, q, hA0, hV, rfl, hfz, hnd⟩ := hW
  have hA : DataW.TrodAll enc Tryz.prog W 0 (fun _ => true) true Tryz.f10.params.toList args.toList ds p := hA0
  rw [Tryz.params10] at hA hval hsz
  obtain ⟨v0, vs0, d0, ds0, p0, q0, hargs, rfl, rfl, h0, r0⟩ := trodAll_cons hA
  obtain ⟨v1, vs1, d1, ds1, p1, q1, rfl, rfl, rfl, h1, r1⟩ := trodAll_cons r0
  obtain ⟨rfl, rfl, rfl⟩ := trodAll_nil r1
  obtain rfl : args = #[v0, v1] := by cases args; simp_all
  obtain ⟨rfl, rfl⟩ := trodVars_none hV
  obtain ⟨x0, A0, c0, rfl, hD0, hM0, hN0⟩ := Gb.open_ins enc W (hval 0 43 v0 rfl rfl) h0 (Gb.sized_each hsz (j := 0) rfl rfl)
  obtain ⟨x1, A1, c1, rfl, hD1, hM1, hN1⟩ := Gb.open_strs enc W (hval 1 59 v1 rfl rfl) h1 (Gb.sized_each hsz (j := 1) rfl rfl)
  clear hA0 hval0 hsz0 hsz
  refine (walk W hE hX x0 A0 c0 hD0 hM0 hN0 x1 A1 c1 hD1 hM1 hN1).mono fun e W' ⟨he, hg⟩ => ?_
  subst he
  exact ⟨_, rfl, _, _, _, [], _, [], hW', trodAll_mk1 (shut_bool Tryz.underlying4 _), (trodAll_cons_mk (Gb.Kept.trod laidOut (by kernel_rfl) (of_decide_eq_true (by kernel_rfl)) h0 hg) (trodAll_cons_mk (Gb.Kept.trod laidOut (by kernel_rfl) (of_decide_eq_true (by kernel_rfl)) h1 hg) trodAll_mk0)), rfl, hg.frame _, fun h => by cases h⟩
theorem over : Rows.codeTextRow.holds Tryz.pinned (OpenSpec.ofChange Rows.codeTextSpec) :=
  OpenClaim.holds_of_wide 10 Tryz.f10 rfl rfl rfl rfl rfl rfl rfl ⟨rfl, rfl, rfl, rfl, rfl⟩ rfl rfl rfl rfl rfl (by kernel_rfl) Tryz.func10 (by kernel_rfl)
    (of_decide_eq_true (by kernel_rfl)) (by unfold Func.isWrapper; first | (rw [if_pos (by decide +kernel)]; kernel_rfl) | (rw [if_neg (by decide +kernel)]; exact ⟨rfl, rfl⟩))
    (fun os started H enc _ => lifted os started H enc)
/-- the statement -/
theorem proved : Rows.CodeTextCardSaid :=
  Claim7.holds_tied_plain_at .later [] [.data, .data, .data, .data, .sentinel, .sentinel, .pinned] true (true, "a9e86093dc3b037adfe49b333739a64217995624d394bac180cb6c8a0912fb8f") true
    over (fun _ h => by cases h) (by kernel_rfl) (fun _ h => by cases h) codeText_row_tie rfl ⟨rfl, rfl⟩ (by kernel_rfl) rfl
    (fun f fn hf hfn => by
      obtain rfl : f = 10 := Option.some.inj ((show Tryz.prog.funcNamed "treadle/treadlelaw18.CodeText" = some 10 by kernel_rfl).symm.trans hf) |>.symm
      obtain rfl : fn = Tryz.f10 := (Option.some.inj (Tryz.func10.symm.trans hfn)).symm
      exact ⟨by kernel_rfl, fun j t ht => by
        rw [Tryz.params10] at ht
        have hm : t ∈ [43, 59] := by simpa using Array.mem_of_getElem? ht
        have hall : ([43, 59].all fun u => !Tryz.prog.wantsStandIn u) = true := by kernel_rfl
        exact (show Tryz.prog.wantsStandIn t = false by simpa using List.all_eq_true.1 hall t hm)⟩)
    (by kernel_rfl)
#print axioms proved
end Go.Proofs.YtkmigdmdppkpoaaGreatDoor.codeText
