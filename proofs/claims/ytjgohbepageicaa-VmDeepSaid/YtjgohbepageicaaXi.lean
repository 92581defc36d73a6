/- Calls within one another, as the statement has them. -/
import Derived.Test.YtjgohbepageicaaXd
namespace Go.Proofs.Ytjgohbepageicaa.Gb
open Go Go.Proofs
set_option linter.unusedVariables false
set_option linter.unusedSimpArgs false
set_option linter.unusedSectionVars false

section
variable {L : List (Nat × Value)} {d : Option Tmp} {ty : TypeId} {pos : String} {af : Array Edge} {gu : Option (Nat × Bool)}
theorem Gp.remd {P : Program} {t t' : TypeId} {x y : Operand} {k : IntKind} {m n r : Int} (hx : ev L x = some (.int k m)) (hy : ev L y = some (.int k n)) (hn : n ≠ 0) (h : m.tmod n = r) : Gp P L ⟨d, .binOp .rem t x y t', ty, pos, af, gu⟩ (.int k r) := h ▸ Gp.rem hx hy hn
theorem Gp.convId {P : Program} {s t : TypeId} {x : Operand} {k k' : IntKind} {m r : Int} {ds : TypeDesc} (hx : ev L x = some (.int k m)) [hs : Und P s ds] [ht : Und P t (.int k')] (h : k'.wrap m = r) : Gp P L ⟨d, .convert s t x, ty, pos, af, gu⟩ (.int k' r) := h ▸ Gp.convI hx
theorem Gp.ltId {P : Program} {t t' : TypeId} {x y : Operand} {k : IntKind} {m n : Int} {r : Bool} (hx : ev L x = some (.int k m)) (hy : ev L y = some (.int k n)) (h : decide (m < n) = r) : Gp P L ⟨d, .binOp .lss t x y t', ty, pos, af, gu⟩ (.bool r) := h ▸ Gp.ltI hx hy
theorem Gp.muld {P : Program} {t t' : TypeId} {x y : Operand} {k : IntKind} {m n r : Int} (hx : ev L x = some (.int k m)) (hy : ev L y = some (.int k n)) (h : k.wrap (m * n) = r) : Gp P L ⟨d, .binOp .mul t x y t', ty, pos, af, gu⟩ (.int k r) := h ▸ Gp.mul hx hy
end

def deepPr (many i : Nat) : Pr := ⟨⟨#[102]⟩, false, [], 0, 0, if i + 1 < many then [(7, ((i + 1 : Nat) : Int)), (9, 0)] else [(9, 0)]⟩
def deepL (many n : Nat) : List Pr := (List.range n).map (deepPr many)
def deepPg (many : Nat) : Pg := ⟨[], deepL many many⟩
def deepOK (m : Nat) : Bool := let o := runR (deepPg m) 0 1000 []; if 64 < m then o.en == 4 && o.steps == 64 else o.en == 1 && o.steps == 2 * (m : Int) - 1
theorem deep_all : (List.range 71).all (fun m => m == 0 || deepOK m) = true := by kernel_rfl
theorem deep_ok {m : Nat} (h : m ≤ 70) (h0 : m ≠ 0) : deepOK m = true := by
  have := List.all_eq_true.1 deep_all m (List.mem_range.2 (by omega))
  simpa [h0] using this
theorem deepL_get {many n j : Nat} {p : Pr} (h : (deepL many n)[j]? = some p) : j < n ∧ p = deepPr many j := by
  unfold deepL at h
  have hj : j < n := by have := (List.getElem?_eq_some_iff.1 h).1; simpa using this
  rw [List.getElem?_map, List.getElem?_range hj] at h
  simp only [Option.map_some, Option.some.injEq] at h
  exact ⟨hj, h.symm⟩
theorem deepL_succ (many n : Nat) : deepL many (n + 1) = deepL many n ++ [deepPr many n] := by simp [deepL, List.range_succ]
theorem deepL_length (many n : Nat) : (deepL many n).length = n := by simp [deepL]
theorem deep_B (m : Nat) (h : m ≤ 70) : PgB (deepPg m) := by
  refine ⟨by simp [deepPg], by simp only [deepPg, deepL_length]; omega, fun p hp => ?_, fun p hp => ?_⟩
  · obtain ⟨j, hj⟩ := List.getElem?_of_mem hp
    obtain ⟨_, rfl⟩ := deepL_get hj
    simp [deepPr]
  · obtain ⟨j, hj⟩ := List.getElem?_of_mem hp
    obtain ⟨_, rfl⟩ := deepL_get hj
    unfold deepPr; dsimp only; split <;> simp

/-- the procedures so far, in cells -/
def DV (G : Gh) (many n : Nat) (cs : List Value) : Prop := cs.length = n * 6 ∧ ∀ j p, (deepL many n)[j]? = some p → Kd.prc.K G p ((cs.drop (j * 6)).take 6)
theorem DV.snoc {G G' : Gh} {many n : Nat} {cs es : List Value} (h : DV G many n cs) (hg : G.le G') (he : es.length = 6) (hk : Kd.prc.K G' (deepPr many n) es) : DV G' many (n + 1) (cs ++ es) := by
  refine ⟨by simp [h.1, he]; omega, fun j p hp => ?_⟩
  obtain ⟨hj, rfl⟩ := deepL_get hp
  rcases Nat.lt_or_ge j n with h1 | h1
  · have h2 := Kd.prc.mono hg (h.2 j (deepPr many j) (by unfold deepL; rw [List.getElem?_map, List.getElem?_range h1]; rfl))
    rw [List.drop_append_of_le_length (by rw [h.1]; omega), List.take_append_of_le_length (by rw [List.length_drop, h.1]; omega)]
    exact h2
  · obtain rfl : j = n := by omega
    rw [← h.1, List.drop_left, List.take_of_length_le (by omega)]
    exact hk

theorem Run_deep (G : Gh) (m : Nat) (PA : Option Addr) (pc : Nat) (hm : m ≤ 70) (hP : Sl Kd.prc G PA (deepPg m).procs) :
    Fn Try.prog 15 #[.agg #[.slice none 0 0, .slice PA m pc, .slice none 0 0], .int .i64 0, .int .i64 1000, .slice none 0 0] G []
      fun e G' H' => ∃ A' cap' x', e = .returned (ocV (runR (deepPg m) 0 1000 []) A' cap') ∧ G.le G' ∧ VVec A' cap' (runR (deepPg m) 0 1000 []).out x' ∧ H' = [x'] := by
  have h := Run_fn G (deepPg m) none PA 0 pc (.slice none 0 0) (Sl.nil _ _ _) hP (deep_B m hm) 0 1000 (by decide) none 0 [] [] (Rds.nil _ _ _) (by simp)
  have e : (deepPg m).procs.length = m := deepL_length m m
  rw [e] at h
  exact h
attribute [local irreducible] Try.prog

theorem deep_fn (G : Gh) (o : Int) (ho0 : 0 ≤ o) (ho1 : o ≤ 255) : Fn Try.prog 7 #[.int .u8 o] G [] fun e G' H' => e = .returned (.bool true) ∧ G.le G' ∧ H' = [] := by
  obtain ⟨m, hm⟩ : ∃ m : Nat, (m : Int) = o.tmod 70 + 1 := ⟨(o.tmod 70 + 1).toNat, by rw [Int.tmod_eq_emod_of_nonneg ho0]; omega⟩
  have hm0 : 1 ≤ m := by rw [Int.tmod_eq_emod_of_nonneg ho0] at hm; omega
  have hm1 : m ≤ 70 := by rw [Int.tmod_eq_emod_of_nonneg ho0] at hm; omega
  have hok := deep_ok hm1 (by omega)
  refine Fn.enter Try.func7 rfl rfl fun w0 => ?_
  refine WC.seq ?_
  refine WC.region ?_
  refine WL.p (Gp.assign rfl) (by kernel_rfl) rfl ?_
  refine WL.nil ?_
  repeat (first | with_reducible refine WK.thN ?_ | with_reducible refine WK.thR ?_ | with_reducible refine WK.thE ?_ | with_reducible refine WK.thP ?_ | with_reducible refine WK.blN ?_ | with_reducible refine WK.blR ?_ | with_reducible refine WK.blP ?_ | with_reducible refine WK.blE ?_ | with_reducible refine WK.blO rfl ?_ | with_reducible refine WK.thJ ?_)
  refine WC.seq ?_
  refine WC.region ?_
  refine WL.p (Gp.move rfl) (by kernel_rfl) rfl ?_
  refine WL.p (Gp.convId rfl (wrap_small (x := o) (by omega) (by omega))) (by kernel_rfl) rfl ?_
  refine WL.p (Gp.remd rfl rfl (by decide) (show o.tmod 70 = (m : Int) - 1 by omega)) (by kernel_rfl) rfl ?_
  refine WL.p (Gp.add' rfl rfl (show IntKind.i64.wrap ((m : Int) - 1 + 1) = (m : Int) by rw [wrap_small (by omega) (by omega)]; omega)) (by kernel_rfl) rfl ?_
  refine WL.p (Gp.assign rfl) (by kernel_rfl) rfl ?_
  refine WL.nil ?_
  repeat (first | with_reducible refine WK.thN ?_ | with_reducible refine WK.thR ?_ | with_reducible refine WK.thE ?_ | with_reducible refine WK.thP ?_ | with_reducible refine WK.blN ?_ | with_reducible refine WK.blR ?_ | with_reducible refine WK.blP ?_ | with_reducible refine WK.blE ?_ | with_reducible refine WK.blO rfl ?_ | with_reducible refine WK.thJ ?_)
  refine WC.seq ?_
  refine WC.region ?_
  refine WL.p (Gp.assign rfl) (by kernel_rfl) rfl ?_
  refine WL.nil ?_
  repeat (first | with_reducible refine WK.thN ?_ | with_reducible refine WK.thR ?_ | with_reducible refine WK.thE ?_ | with_reducible refine WK.thP ?_ | with_reducible refine WK.blN ?_ | with_reducible refine WK.blR ?_ | with_reducible refine WK.blP ?_ | with_reducible refine WK.blE ?_ | with_reducible refine WK.blO rfl ?_ | with_reducible refine WK.thJ ?_)
  refine WC.seq ?_
  refine WC.seq ?_
  refine WC.region ?_
  refine WL.p (Gp.assign rfl) (by kernel_rfl) rfl ?_
  refine WL.nil ?_
  repeat (first | with_reducible refine WK.thN ?_ | with_reducible refine WK.thR ?_ | with_reducible refine WK.thE ?_ | with_reducible refine WK.thP ?_ | with_reducible refine WK.blN ?_ | with_reducible refine WK.blR ?_ | with_reducible refine WK.blP ?_ | with_reducible refine WK.blE ?_ | with_reducible refine WK.blO rfl ?_ | with_reducible refine WK.thJ ?_)
  refine WC.block ?_  -- 0
  refine WC.nothing ?_
  refine WC.loop (X := Nat × Gh × List Value × Option Addr × Nat × Own) (fun x => [(5, .int .i64 x.1), (4, .slice x.2.2.2.1 x.1 x.2.2.2.2.1), (3, .int .i64 m)]) (fun x => x.2.1) (fun x => [x.2.2.2.2.2]) (fun x => m - x.1)
    (fun x => x.1 ≤ m ∧ G.le x.2.1 ∧ Vec 55 6 x.2.2.2.1 x.1 x.2.2.2.2.1 x.2.2.1 x.2.2.2.2.2 ∧ DV x.2.1 m x.1 x.2.2.1) (0, G, [], none, 0, .spare 0 0 0)
    ⟨by omega, G.le_refl, ⟨rfl, .inl ⟨rfl, rfl, rfl, rfl⟩⟩, ⟨rfl, fun j p hp => by simp [deepL] at hp⟩⟩ (by exact ⟨rfl, rfl, rfl, trivial⟩) rfl (List.Sublist.refl _) fun x hx => ?_
  obtain ⟨i, G1, cs, A, cap, ox⟩ := x
  obtain ⟨hi, hg1, hv, hd⟩ := hx
  dsimp only at hi hg1 hv hd
  refine WC.seq ?_
  refine WC.seq ?_
  refine WC.region ?_
  refine WL.p (Gp.move rfl) (by kernel_rfl) rfl ?_
  refine WL.p (Gp.move rfl) (by kernel_rfl) rfl ?_
  (first | refine WL.p (Gp.ltI rfl rfl) (by kernel_rfl) rfl ?_ | refine WL.p (Gp.ltS rfl rfl) (by kernel_rfl) rfl ?_)
  refine WL.nil ?_
  repeat (first | with_reducible refine WK.thN ?_ | with_reducible refine WK.thR ?_ | with_reducible refine WK.thE ?_ | with_reducible refine WK.thP ?_ | with_reducible refine WK.blN ?_ | with_reducible refine WK.blR ?_ | with_reducible refine WK.blP ?_ | with_reducible refine WK.blE ?_ | with_reducible refine WK.blO rfl ?_ | with_reducible refine WK.thJ ?_)
  refine WC.cond rfl (fun hc1 => ?_) (fun hc1 => ?_)
  · -- yes
    have hlt : i < m := by have h := of_decide_eq_true hc1; omega
    refine WC.skip ?_
    repeat (first | with_reducible refine WK.thN ?_ | with_reducible refine WK.thR ?_ | with_reducible refine WK.thE ?_ | with_reducible refine WK.thP ?_ | with_reducible refine WK.blN ?_ | with_reducible refine WK.blR ?_ | with_reducible refine WK.blP ?_ | with_reducible refine WK.blE ?_ | with_reducible refine WK.blO rfl ?_ | with_reducible refine WK.thJ ?_)
    refine WC.seq ?_
    refine WC.block ?_  -- 1
    refine WC.seq ?_
    refine WC.region ?_
    refine WL.p (Gp.build rfl rfl) (by kernel_rfl) rfl ?_
    refine WL.op (by kernel_rfl) (OW.buildSlice rfl (by kernel_rfl) (by kernel_rfl) (by rfl) rfl fun b2 => ?_)
    refine WL.p (Gp.assign rfl) (by kernel_rfl) rfl ?_
    refine WL.nil ?_
    repeat (first | with_reducible refine WK.thN ?_ | with_reducible refine WK.thR ?_ | with_reducible refine WK.thE ?_ | with_reducible refine WK.thP ?_ | with_reducible refine WK.blN ?_ | with_reducible refine WK.blR ?_ | with_reducible refine WK.blP ?_ | with_reducible refine WK.blE ?_ | with_reducible refine WK.blO rfl ?_ | with_reducible refine WK.thJ ?_)
    refine WC.seq ?_
    refine WC.seq ?_
    refine WC.region ?_
    refine WL.p (Gp.move rfl) (by kernel_rfl) rfl ?_
    refine WL.p (Gp.add' rfl rfl (show IntKind.i64.wrap ((i : Int) + 1) = ((i + 1 : Nat) : Int) by rw [wrap_small (by omega) (by omega)]; omega)) (by kernel_rfl) rfl ?_
    refine WL.p (Gp.move rfl) (by kernel_rfl) rfl ?_
    (first | refine WL.p (Gp.ltI rfl rfl) (by kernel_rfl) rfl ?_ | refine WL.p (Gp.ltS rfl rfl) (by kernel_rfl) rfl ?_)
    refine WL.nil ?_
    repeat (first | with_reducible refine WK.thN ?_ | with_reducible refine WK.thR ?_ | with_reducible refine WK.thE ?_ | with_reducible refine WK.thP ?_ | with_reducible refine WK.blN ?_ | with_reducible refine WK.blR ?_ | with_reducible refine WK.blP ?_ | with_reducible refine WK.blE ?_ | with_reducible refine WK.blO rfl ?_ | with_reducible refine WK.thJ ?_)
    refine WC.cond rfl (fun hc3 => ?_) (fun hc3 => ?_)
    · -- yes
      have hlt2 : i + 1 < m := by have h := of_decide_eq_true hc3; omega
      refine WC.region ?_
      refine WL.p (Gp.move rfl) (by kernel_rfl) rfl ?_
      refine WL.p (Gp.add' rfl rfl (show IntKind.i64.wrap ((i : Int) + 1) = ((i + 1 : Nat) : Int) by rw [wrap_small (by omega) (by omega)]; omega)) (by kernel_rfl) rfl ?_
      refine WL.p (Gp.build rfl rfl) (by kernel_rfl) rfl ?_
      refine WL.p (Gp.build rfl rfl) (by kernel_rfl) rfl ?_
      refine WL.op (by kernel_rfl) (OW.buildSlice rfl (by kernel_rfl) (by kernel_rfl) (by rfl) rfl fun b4 => ?_)
      refine WL.p (Gp.assign rfl) (by kernel_rfl) rfl ?_
      refine WL.nil ?_
      repeat (first | with_reducible refine WK.thN ?_ | with_reducible refine WK.thR ?_ | with_reducible refine WK.thE ?_ | with_reducible refine WK.thP ?_ | with_reducible refine WK.blN ?_ | with_reducible refine WK.blR ?_ | with_reducible refine WK.blP ?_ | with_reducible refine WK.blE ?_ | with_reducible refine WK.blO rfl ?_ | with_reducible refine WK.thJ ?_)
      refine WC.frozenVec (T := 51) (sz := 2) (A := some ⟨b4, 0, none⟩) (n := 2) (cap := 2) (cs := [.int .i64 7, .int .i64 ((i + 1 : Nat) : Int), .int .i64 9, .int .i64 0]) ⟨rfl, .inr ⟨b4, _, rfl, rfl, Nat.le_refl _, rfl, rfl⟩⟩ .here fun G2 h2 z2 => ?_
      have hI : Sl Kd.ins G2 (some ⟨b4, 0, none⟩) (deepPr m i).code := by
        rw [show (deepPr m i).code = [(7, ((i + 1 : Nat) : Int)), (9, 0)] by unfold deepPr; simp only []; rw [if_pos (by omega)]]
        refine Sl.ofCs (k := Kd.ins) z2 rfl (by decide) (fun j x hx => by
          match j, hx with
          | 0, hx => cases hx; rfl
          | 1, hx => cases hx; rfl)
      refine WC.region ?_
      refine WL.p (Gp.move rfl) (by kernel_rfl) rfl ?_
      refine WL.p (Gp.move rfl) (by kernel_rfl) rfl ?_
      refine WL.p (Gp.build rfl rfl) (by kernel_rfl) rfl ?_
      refine WL.op (by kernel_rfl) (OW.buildSlice rfl (by kernel_rfl) (by kernel_rfl) (by rfl) rfl fun b5 => ?_)
      refine WL.op (by kernel_rfl) (OW.append rfl rfl (by kernel_rfl) (by kernel_rfl) hv (by (repeat first | exact .here | apply At.there)) (Rds.blk0 (cs := [.string ⟨#[102]⟩, .bool false, .slice none 0 0, .int .i64 0, .int .i64 0, .slice (some ⟨b4, 0, none⟩) 2 2]) .here rfl) rfl rfl (by omega) (by omega) rfl fun A' cap' o' hv' => ?_)
      refine WL.p (Gp.assign rfl) (by kernel_rfl) rfl ?_
      refine WL.nil ?_
      repeat (first | with_reducible refine WK.thN ?_ | with_reducible refine WK.thR ?_ | with_reducible refine WK.thE ?_ | with_reducible refine WK.thP ?_ | with_reducible refine WK.blN ?_ | with_reducible refine WK.blR ?_ | with_reducible refine WK.blP ?_ | with_reducible refine WK.blE ?_ | with_reducible refine WK.blO rfl ?_ | with_reducible refine WK.thJ ?_)
      refine WC.region ?_
      refine WL.p (Gp.move rfl) (by kernel_rfl) rfl ?_
      refine WL.p (Gp.add' rfl rfl (show IntKind.i64.wrap ((i : Int) + 1) = ((i + 1 : Nat) : Int) by rw [wrap_small (by omega) (by omega)]; omega)) (by kernel_rfl) rfl ?_
      refine WL.p (Gp.assign rfl) (by kernel_rfl) rfl ?_
      refine WL.nil ?_
      repeat (first | with_reducible refine WK.thN ?_ | with_reducible refine WK.thR ?_ | with_reducible refine WK.thE ?_ | with_reducible refine WK.thP ?_ | with_reducible refine WK.blN ?_ | with_reducible refine WK.blR ?_ | with_reducible refine WK.blP ?_ | with_reducible refine WK.blE ?_ | with_reducible refine WK.blO rfl ?_ | with_reducible refine WK.thJ ?_)
      refine WK.pk (H' := [o']) (by repeat (first | exact Pk.nil | exact Pk.all | exact Pk.app | exact Pk.appR | with_reducible apply Pk.na | (apply Pk.cons; (repeat first | exact .here | apply Rem.there | apply Rem.app)) | apply Pk.skip | apply Pk.skipA)) ?_
      have hcode : (deepPr m i).code.length = 2 := by unfold deepPr; simp only []; rw [if_pos (by omega)]; rfl
      have hk : Kd.prc.K G2 (deepPr m i) [.string ⟨#[102]⟩, .bool false, .slice none 0 0, .int .i64 0, .int .i64 0, .slice (some ⟨b4, 0, none⟩) 2 2] :=
        ⟨none, 0, some ⟨b4, 0, none⟩, 2, by rw [hcode]; rfl, Sl.nil _ _ _, hI⟩
      exact WK.again (i + 1, G2, cs ++ [.string ⟨#[102]⟩, .bool false, .slice none 0 0, .int .i64 0, .int .i64 0, .slice (some ⟨b4, 0, none⟩) 2 2], A', cap', o') (by dsimp only; omega) ⟨by dsimp only; omega, Gh.le_trans hg1 h2, hv', hd.snoc h2 rfl hk⟩ (by exact ⟨rfl, rfl, rfl, trivial⟩) rfl (List.Sublist.refl _)
    · -- no
      have hge : ¬ i + 1 < m := by have h := of_decide_eq_false hc3; omega
      refine WC.skip ?_
      repeat (first | with_reducible refine WK.thN ?_ | with_reducible refine WK.thR ?_ | with_reducible refine WK.thE ?_ | with_reducible refine WK.thP ?_ | with_reducible refine WK.blN ?_ | with_reducible refine WK.blR ?_ | with_reducible refine WK.blP ?_ | with_reducible refine WK.blE ?_ | with_reducible refine WK.blO rfl ?_ | with_reducible refine WK.thJ ?_)
      refine WC.frozenVec (T := 51) (sz := 2) (A := some ⟨b2, 0, none⟩) (n := 1) (cap := 1) (cs := [.int .i64 9, .int .i64 0]) ⟨rfl, .inr ⟨b2, _, rfl, rfl, Nat.le_refl _, rfl, rfl⟩⟩ .here fun G2 h2 z2 => ?_
      have hI : Sl Kd.ins G2 (some ⟨b2, 0, none⟩) (deepPr m i).code := by
        rw [show (deepPr m i).code = [(9, 0)] by unfold deepPr; simp only []; rw [if_neg (by omega)]]
        refine Sl.ofCs (k := Kd.ins) z2 rfl (by decide) (fun j x hx => by
          match j, hx with
          | 0, hx => cases hx; rfl)
      refine WC.region ?_
      refine WL.p (Gp.move rfl) (by kernel_rfl) rfl ?_
      refine WL.p (Gp.move rfl) (by kernel_rfl) rfl ?_
      refine WL.p (Gp.build rfl rfl) (by kernel_rfl) rfl ?_
      refine WL.op (by kernel_rfl) (OW.buildSlice rfl (by kernel_rfl) (by kernel_rfl) (by rfl) rfl fun b5 => ?_)
      refine WL.op (by kernel_rfl) (OW.append rfl rfl (by kernel_rfl) (by kernel_rfl) hv (by (repeat first | exact .here | apply At.there)) (Rds.blk0 (cs := [.string ⟨#[102]⟩, .bool false, .slice none 0 0, .int .i64 0, .int .i64 0, .slice (some ⟨b2, 0, none⟩) 1 1]) .here rfl) rfl rfl (by omega) (by omega) rfl fun A' cap' o' hv' => ?_)
      refine WL.p (Gp.assign rfl) (by kernel_rfl) rfl ?_
      refine WL.nil ?_
      repeat (first | with_reducible refine WK.thN ?_ | with_reducible refine WK.thR ?_ | with_reducible refine WK.thE ?_ | with_reducible refine WK.thP ?_ | with_reducible refine WK.blN ?_ | with_reducible refine WK.blR ?_ | with_reducible refine WK.blP ?_ | with_reducible refine WK.blE ?_ | with_reducible refine WK.blO rfl ?_ | with_reducible refine WK.thJ ?_)
      refine WC.region ?_
      refine WL.p (Gp.move rfl) (by kernel_rfl) rfl ?_
      refine WL.p (Gp.add' rfl rfl (show IntKind.i64.wrap ((i : Int) + 1) = ((i + 1 : Nat) : Int) by rw [wrap_small (by omega) (by omega)]; omega)) (by kernel_rfl) rfl ?_
      refine WL.p (Gp.assign rfl) (by kernel_rfl) rfl ?_
      refine WL.nil ?_
      repeat (first | with_reducible refine WK.thN ?_ | with_reducible refine WK.thR ?_ | with_reducible refine WK.thE ?_ | with_reducible refine WK.thP ?_ | with_reducible refine WK.blN ?_ | with_reducible refine WK.blR ?_ | with_reducible refine WK.blP ?_ | with_reducible refine WK.blE ?_ | with_reducible refine WK.blO rfl ?_ | with_reducible refine WK.thJ ?_)
      refine WK.pk (H' := [o']) (by repeat (first | exact Pk.nil | exact Pk.all | exact Pk.app | exact Pk.appR | with_reducible apply Pk.na | (apply Pk.cons; (repeat first | exact .here | apply Rem.there | apply Rem.app)) | apply Pk.skip | apply Pk.skipA)) ?_
      have hcode : (deepPr m i).code.length = 1 := by unfold deepPr; simp only []; rw [if_neg (by omega)]; rfl
      have hk : Kd.prc.K G2 (deepPr m i) [.string ⟨#[102]⟩, .bool false, .slice none 0 0, .int .i64 0, .int .i64 0, .slice (some ⟨b2, 0, none⟩) 1 1] :=
        ⟨none, 0, some ⟨b2, 0, none⟩, 1, by rw [hcode]; rfl, Sl.nil _ _ _, hI⟩
      exact WK.again (i + 1, G2, cs ++ [.string ⟨#[102]⟩, .bool false, .slice none 0 0, .int .i64 0, .int .i64 0, .slice (some ⟨b2, 0, none⟩) 1 1], A', cap', o') (by dsimp only; omega) ⟨by dsimp only; omega, Gh.le_trans hg1 h2, hv', hd.snoc h2 rfl hk⟩ (by exact ⟨rfl, rfl, rfl, trivial⟩) rfl (List.Sublist.refl _)
  · -- no
    obtain rfl : i = m := by have h := of_decide_eq_false hc1; omega
    refine WC.exit ?_
    repeat (first | with_reducible refine WK.thN ?_ | with_reducible refine WK.thR ?_ | with_reducible refine WK.thE ?_ | with_reducible refine WK.thP ?_ | with_reducible refine WK.blN ?_ | with_reducible refine WK.blR ?_ | with_reducible refine WK.blP ?_ | with_reducible refine WK.blE ?_ | with_reducible refine WK.blO rfl ?_ | with_reducible refine WK.thJ ?_)
    refine WC.frozenVec hv .here fun G2 h2 z2 => ?_
    have hP : Sl Kd.prc G2 A (deepPg i).procs := Sl.ofCs (k := Kd.prc) z2 (by rw [hd.1]; show _ = (deepL i i).length * 6; rw [deepL_length]) (by decide) (fun j p hp => Kd.prc.mono h2 (hd.2 j p hp))
    refine WC.seq ?_
    refine WC.region ?_
    refine WL.p (Gp.move rfl) (by kernel_rfl) rfl ?_
    refine WL.p (Gp.build rfl rfl) (by kernel_rfl) rfl ?_
    refine WL.op (by kernel_rfl) (OW.callR rfl (Pk.perm (by repeat (first | exact Pk.nil | exact Pk.all | exact Pk.app | exact Pk.appR | with_reducible apply Pk.na | (apply Pk.cons; (repeat first | exact .here | apply Rem.there | apply Rem.app)) | apply Pk.skip | apply Pk.skipA))) (Run_deep _ i A cap hm1 hP) rfl (by intro e G' H' h; repeat (first | exact ⟨_, h.1⟩ | (obtain ⟨_, h⟩ := h))) fun v' G' H' h hg => ?_)
    obtain ⟨A1, cap1, x1, he, hg2, hx1, rfl⟩ := h
    cases he
    refine WL.op (by kernel_rfl) (OW.alloc rfl fun b7 => ?_)
    refine WL.op (by kernel_rfl) (OW.store rfl rfl (by (repeat first | exact .here | apply At.there)) rfl (by rfl) (by rfl) (by kernel_rfl) (by rfl) ?_ rfl)
    refine WL.nil ?_
    repeat (first | with_reducible refine WK.thN ?_ | with_reducible refine WK.thR ?_ | with_reducible refine WK.thE ?_ | with_reducible refine WK.thP ?_ | with_reducible refine WK.blN ?_ | with_reducible refine WK.blR ?_ | with_reducible refine WK.blP ?_ | with_reducible refine WK.blE ?_ | with_reducible refine WK.blO rfl ?_ | with_reducible refine WK.thJ ?_)
    unfold deepOK at hok
    dsimp only at hok
    generalize hor : runR (deepPg i) 0 1000 [] = oc at *
    refine WC.seq ?_
    refine WC.seq ?_
    refine WC.region ?_
    refine WL.p (Gp.move rfl) (by kernel_rfl) rfl ?_
    (first | refine WL.p (Gp.gtI rfl rfl) (by kernel_rfl) rfl ?_ | refine WL.p (Gp.gtS rfl rfl) (by kernel_rfl) rfl ?_)
    refine WL.nil ?_
    repeat (first | with_reducible refine WK.thN ?_ | with_reducible refine WK.thR ?_ | with_reducible refine WK.thE ?_ | with_reducible refine WK.thP ?_ | with_reducible refine WK.blN ?_ | with_reducible refine WK.blR ?_ | with_reducible refine WK.blP ?_ | with_reducible refine WK.blE ?_ | with_reducible refine WK.blO rfl ?_ | with_reducible refine WK.thJ ?_)
    refine WC.cond rfl (fun hc8 => ?_) (fun hc8 => ?_)
    · -- yes
      rw [if_pos (by have h := of_decide_eq_true hc8; omega), Bool.and_eq_true] at hok
      refine WC.seq ?_
      refine WC.region ?_
      refine WL.p (Gp.fieldAddr rfl) (by kernel_rfl) rfl ?_
      refine WL.v (Gv.load1 rfl (by (repeat first | exact .here | apply At.there)) rfl) (by kernel_rfl) rfl ?_
      refine WL.p (Gp.eqI' rfl rfl hok.1) (by kernel_rfl) rfl ?_
      refine WL.p (Gp.move rfl) (by kernel_rfl) rfl ?_
      refine WL.p (Gp.fieldAddr rfl) (by kernel_rfl) rfl ?_
      refine WL.v (Gv.load1 rfl (by (repeat first | exact .here | apply At.there)) rfl) (by kernel_rfl) rfl ?_
      refine WL.p (Gp.eqI' rfl rfl hok.2) (by kernel_rfl) rfl ?_
      (first | refine WL.p (Gp.pickT rfl rfl) (by kernel_rfl) rfl ?_ | refine WL.p (Gp.pickF rfl rfl) (by kernel_rfl) rfl ?_)
      refine WL.p (Gp.move rfl) (by kernel_rfl) rfl ?_
      refine WL.op (by kernel_rfl) (OW.callR rfl (Pk.perm (by repeat (first | exact Pk.nil | exact Pk.all | exact Pk.app | exact Pk.appR | with_reducible apply Pk.na | (apply Pk.cons; (repeat first | exact .here | apply Rem.there | apply Rem.app)) | apply Pk.skip | apply Pk.skipA))) (awake_fn _) rfl (by intro e G' H' h; repeat (first | exact ⟨_, h.1⟩ | (obtain ⟨_, h⟩ := h))) fun v' G' H' h hg => ?_)
      obtain ⟨he, hg3, rfl⟩ := h
      cases he
      (first | refine WL.p (Gp.pickT rfl rfl) (by kernel_rfl) rfl ?_ | refine WL.p (Gp.pickF rfl rfl) (by kernel_rfl) rfl ?_)
      refine WL.p (Gp.assign rfl) (by kernel_rfl) rfl ?_
      refine WL.nil ?_
      repeat (first | with_reducible refine WK.thN ?_ | with_reducible refine WK.thR ?_ | with_reducible refine WK.thE ?_ | with_reducible refine WK.thP ?_ | with_reducible refine WK.blN ?_ | with_reducible refine WK.blR ?_ | with_reducible refine WK.blP ?_ | with_reducible refine WK.blE ?_ | with_reducible refine WK.blO rfl ?_ | with_reducible refine WK.thJ ?_)
      refine WC.ret ?_
      repeat (first | with_reducible refine WK.thN ?_ | with_reducible refine WK.thR ?_ | with_reducible refine WK.thE ?_ | with_reducible refine WK.thP ?_ | with_reducible refine WK.blN ?_ | with_reducible refine WK.blR ?_ | with_reducible refine WK.blP ?_ | with_reducible refine WK.blE ?_ | with_reducible refine WK.blO rfl ?_ | with_reducible refine WK.thJ ?_)
      exact QF.p1 (.inl rfl) rfl (.tmp rfl) (⟨rfl, Gh.le_trans hg1 (Gh.le_trans h2 (Gh.le_trans hg2 hg3)), rfl⟩) (by repeat (first | exact Pk.nil | exact Pk.all | exact Pk.app | exact Pk.appR | with_reducible apply Pk.na | (apply Pk.cons; (repeat first | exact .here | apply Rem.there | apply Rem.app)) | apply Pk.skip | apply Pk.skipA))
    · -- no
      rw [if_neg (by have h := of_decide_eq_false hc8; omega), Bool.and_eq_true] at hok
      refine WC.skip ?_
      repeat (first | with_reducible refine WK.thN ?_ | with_reducible refine WK.thR ?_ | with_reducible refine WK.thE ?_ | with_reducible refine WK.thP ?_ | with_reducible refine WK.blN ?_ | with_reducible refine WK.blR ?_ | with_reducible refine WK.blP ?_ | with_reducible refine WK.blE ?_ | with_reducible refine WK.blO rfl ?_ | with_reducible refine WK.thJ ?_)
      refine WC.seq ?_
      refine WC.region ?_
      refine WL.p (Gp.fieldAddr rfl) (by kernel_rfl) rfl ?_
      refine WL.v (Gv.load1 rfl (by (repeat first | exact .here | apply At.there)) rfl) (by kernel_rfl) rfl ?_
      refine WL.p (Gp.eqI' rfl rfl hok.1) (by kernel_rfl) rfl ?_
      refine WL.p (Gp.move rfl) (by kernel_rfl) rfl ?_
      refine WL.p (Gp.fieldAddr rfl) (by kernel_rfl) rfl ?_
      refine WL.v (Gv.load1 rfl (by (repeat first | exact .here | apply At.there)) rfl) (by kernel_rfl) rfl ?_
      refine WL.p (Gp.move rfl) (by kernel_rfl) rfl ?_
      refine WL.p (Gp.muld rfl rfl (wrap_small (x := 2 * (i : Int)) (by omega) (by omega))) (by kernel_rfl) rfl ?_
      refine WL.p (Gp.sub' rfl rfl (wrap_small (x := 2 * (i : Int) - 1) (by omega) (by omega))) (by kernel_rfl) rfl ?_
      refine WL.p (Gp.eqI' rfl rfl hok.2) (by kernel_rfl) rfl ?_
      (first | refine WL.p (Gp.pickT rfl rfl) (by kernel_rfl) rfl ?_ | refine WL.p (Gp.pickF rfl rfl) (by kernel_rfl) rfl ?_)
      refine WL.p (Gp.move rfl) (by kernel_rfl) rfl ?_
      refine WL.op (by kernel_rfl) (OW.callR rfl (Pk.perm (by repeat (first | exact Pk.nil | exact Pk.all | exact Pk.app | exact Pk.appR | with_reducible apply Pk.na | (apply Pk.cons; (repeat first | exact .here | apply Rem.there | apply Rem.app)) | apply Pk.skip | apply Pk.skipA))) (awake_fn _) rfl (by intro e G' H' h; repeat (first | exact ⟨_, h.1⟩ | (obtain ⟨_, h⟩ := h))) fun v' G' H' h hg => ?_)
      obtain ⟨he, hg3, rfl⟩ := h
      cases he
      (first | refine WL.p (Gp.pickT rfl rfl) (by kernel_rfl) rfl ?_ | refine WL.p (Gp.pickF rfl rfl) (by kernel_rfl) rfl ?_)
      refine WL.p (Gp.assign rfl) (by kernel_rfl) rfl ?_
      refine WL.nil ?_
      repeat (first | with_reducible refine WK.thN ?_ | with_reducible refine WK.thR ?_ | with_reducible refine WK.thE ?_ | with_reducible refine WK.thP ?_ | with_reducible refine WK.blN ?_ | with_reducible refine WK.blR ?_ | with_reducible refine WK.blP ?_ | with_reducible refine WK.blE ?_ | with_reducible refine WK.blO rfl ?_ | with_reducible refine WK.thJ ?_)
      refine WC.ret ?_
      repeat (first | with_reducible refine WK.thN ?_ | with_reducible refine WK.thR ?_ | with_reducible refine WK.thE ?_ | with_reducible refine WK.thP ?_ | with_reducible refine WK.blN ?_ | with_reducible refine WK.blR ?_ | with_reducible refine WK.blP ?_ | with_reducible refine WK.blE ?_ | with_reducible refine WK.blO rfl ?_ | with_reducible refine WK.thJ ?_)
      exact QF.p1 (.inl rfl) rfl (.tmp rfl) (⟨rfl, Gh.le_trans hg1 (Gh.le_trans h2 (Gh.le_trans hg2 hg3)), rfl⟩) (by repeat (first | exact Pk.nil | exact Pk.all | exact Pk.app | exact Pk.appR | with_reducible apply Pk.na | (apply Pk.cons; (repeat first | exact .here | apply Rem.there | apply Rem.app)) | apply Pk.skip | apply Pk.skipA))
end Go.Proofs.Ytjgohbepageicaa.Gb
