/- Instructions in bytes: walked. A string appended to bytes of ours. Layer 22: wire: texts, numbers, truths, put. Layer 22: the writer: walked. Layer 22: the writer: values, heads, procedures: walked. Layer 22: the writer: heads, procedures: walked. Layer 22: a constant's bytes; the writer's first text. Layer 22: object.Bytes: walked. Layer 22: the two small objects of the law's last word: they must be taken (no program in sight). Layer 22: the law's own small objects: walked. The machine's stack and its small helpers, part 2. The machine's values and tests. Numbers and texts compared and reckoned with. What is taken from the stack, and laid there. Values of a type are taken; two are compared. Two values are compared by their order. A program and a machine in memory; frames are entered, copied, found. -/
import Derived.Test.YtcnlkfocbbkdhaaGreatDoorSf
import Derived.Lib.AppendStr
set_option linter.unusedVariables false
set_option linter.unusedSimpArgs false
set_option linter.unusedSectionVars false
namespace Go.Proofs.YtcnlkfocbbkdhaaGreatDoor.Gb
open Go Go.Proofs
section
open Go.MapKept
attribute [local irreducible] Tryz.prog
def mayI (i : Int × Int) : Bool := mayR i.1 i.2
def encI (i : Int × Int) : List Int := i.1 :: (if (rowC i.1).n then uintL i.2.toNat else [])
def encP (l : List (Int × Int)) (k : Nat) : List Int := uintL l.length ++ (l.take k).flatMap encI
def bytesR (l : List (Int × Int)) : List Int × Int := if l.all mayI then (encP l l.length, 0) else ([], 180)
theorem mayI_bounds {i : Int × Int} (h : mayI i = true) : 1 ≤ i.1 ∧ i.1 ≤ 26 ∧ 0 ≤ i.2 ∧ i.2 ≤ 2147483647 := by
 unfold mayI mayR at h
 simp only [Bool.and_eq_true, decide_eq_true_eq] at h
 obtain ⟨h1, h2, h3, _⟩ := h
 rw [← is_row] at h1
 simp at h1
 exact ⟨h1.1, h1.2, h2, h3⟩
theorem encI_length {i : Int × Int} (h : mayI i = true) : (encI i).length ≤ 6 := by
 obtain ⟨_, _, h1, h2⟩ := mayI_bounds h
 unfold encI
 rw [List.length_cons]
 split
 ·have := uintL_length 4 i.2.toNat (by omega); omega
 ·simp
theorem flat_le {l : List (Int × Int)} : ∀ {k : Nat}, (∀ j i, j < k → l[j]? = some i → mayI i = true) → ((l.take k).flatMap encI).length ≤ 6 * k
 | 0, _ => by simp
 | k + 1, h => by
  have ih := flat_le (l := l) (k := k) fun j i hj hi => h j i (by omega) hi
  cases hk : l[k]? with
  | none =>
   rw [List.getElem?_eq_none_iff] at hk
   rw [List.take_of_length_le (by omega), ← List.take_of_length_le hk]; omega
  | some i =>
   rw [take_snoc' hk, List.flatMap_append, List.length_append]
   have := encI_length (h k i (by omega) hk)
   simp only [List.flatMap_cons, List.flatMap_nil, List.append_nil]
   omega
theorem encP_snoc {l : List (Int × Int)} {k : Nat} {i : Int × Int} (h : l[k]? = some i) : encP l (k + 1) = encP l k ++ encI i := by
 unfold encP
 rw [take_snoc' h, List.flatMap_append, List.append_assoc]
 simp
theorem u8code {c : Int} (h : 1 ≤ c ∧ c ≤ 26) : IntKind.u8.wrap c = c := by
 obtain ⟨k, rfl⟩ : ∃ k : Nat, c = k := ⟨c.toNat, by omega⟩
 rw [u8w, Nat.mod_eq_of_lt (by omega)]
theorem u64n {n : Int} (h : 0 ≤ n ∧ n ≤ 9223372036854775807) : IntKind.u64.wrap n = ((n.toNat : Nat) : Int) := by
 obtain ⟨k, rfl⟩ : ∃ k : Nat, n = k := ⟨n.toNat, by omega⟩
 simp [IntKind.wrap, IntKind.signed, IntKind.bits]; omega
set_option maxHeartbeats 2000000 in
theorem Bytes_fn (G : Gh) (A : Option Addr) (l : List (Int × Int)) (cap : Nat) (hA : Sl Kd.ins G A l) (hl : l.length ≤ 9000000000000) :
  Fn Tryz.prog 109 #[.slice A l.length cap] G [] fun e G' H' => ∃ A' cap' x', e = .returned (.tuple #[.slice A' (bytesR l).1.length cap', .int .i64 (bytesR l).2]) ∧ G = G' ∧ BVec A' (bytesR l).1 cap' x' ∧ H' = [x'] := by
 refine Fn.enter Tryz.func109 rfl rfl fun w0 => ?_
 refine gom ?_
 refine WL.pp (Gp.convTo (r := ((l.length : Nat) : Int)) rfl (by rw [u64n ⟨by omega, by omega⟩]; rfl)) ?_
 refine WL.nothing ?_
 refine WL.oo (OW.callK rfl (putUint_fn G none [] 0 (.spare 0 0 0) BVec.nil l.length (by omega) (by decide)) rfl fun v' G' H' h hg => ?_)
 obtain ⟨A1, c1, x1, he, rfl, h1, rfl⟩ := h
 cases he
 have hbase : [] ++ uintL l.length = encP l 0 := by simp [encP]
 rw [hbase] at h1 ⊢
 refine gom ?_
 refine WC.loop (X := Nat × Option Addr × Nat × Own) (fun s => [(4, .slice s.2.1 (encP l s.1).length s.2.2.1), (11, .slice A l.length cap), (12, .int .i64 l.length), (13, .int .i64 s.1)]) (fun _ => G) (fun s => [s.2.2.2]) (fun s => l.length - s.1) (fun s => s.1 ≤ l.length ∧ BVec s.2.1 (encP l s.1) s.2.2.1 s.2.2.2 ∧ ∀ j i, j < s.1 → l[j]? = some i → mayI i = true) (0, A1, c1, x1) ⟨Nat.zero_le _, h1, (fun j i h => absurd h (Nat.not_lt_zero _))⟩ (by exact ⟨rfl, rfl, rfl, rfl, trivial⟩) rfl (List.Sublist.refl _) fun s hs => ?_
 obtain ⟨k, B, c, o⟩ := s
 obtain ⟨hk, hv, hall⟩ := hs
 dsimp only at hk hv hall
 have x2 := wrapS k (by omega)
 by_cases hlt : k < l.length
 rotate_left
 ·have e2 : decide ((k : Int) < (l.length : Int)) = false := decide_eq_false (by omega)
  obtain rfl : k = l.length := by omega
  have hr : bytesR l = (encP l l.length, 0) := by rw [bytesR, all_of hall (by omega), if_pos rfl]
  rw [hr]
  refine gom ?_
  refine WC.rt ?_
  exact QF.p2 (.inl rfl) rfl (.tmp rfl) (.tmp rfl) (⟨B, c, o, rfl, rfl, hv, rfl⟩)
 have e2 : decide ((k : Int) < (l.length : Int)) = true := decide_eq_true (by omega)
 obtain ⟨i, hi⟩ : ∃ i, l[k]? = some i := ⟨_, List.getElem?_eq_getElem (by omega)⟩
 obtain ⟨ib, io, ics, rfl, hik, hic⟩ := hA k i hi
 obtain rfl : ics = [.int .i64 i.1, .int .i64 i.2] := hik
 have x0 : (0 : Int) ≤ (k : Int) := by omega
 have x1' : (k : Int) < (l.length : Int) := by omega
 refine gom ?_
 refine WL.oo (OW.alloc rfl fun b6 => ?_)
 refine gom ?_
 refine WL.oo (OW.callK rfl (may_fn G i.1 i.2) rfl fun v' G' H' h hg => ?_)
 obtain ⟨he, rfl, rfl⟩ := h
 cases he
 cases hm : mayR i.1 i.2 with
 | false =>
  have hr : bytesR l = ([], 180) := by rw [bytesR, all_not hi (show mayI i = false from hm)]; rfl
  rw [hr]
  refine gom ?_
  refine WC.nothing ?_
  refine WC.rt ?_
  exact QF.p2 (.inl rfl) rfl (.tmp rfl) (.tmp rfl) (⟨none, 0, _, rfl, rfl, BVec.nil, rfl⟩)
 | true =>
 obtain ⟨b1, b2, b3, b4⟩ := mayI_bounds (i := i) hm
 have hle := flat_le hall
 have hlu := uintL_len10 (n := l.length) (by omega)
 have hel : (encP l k).length = (uintL l.length).length + ((l.take k).flatMap encI).length := by rw [encP, List.length_append]
 refine gom ?_
 refine WL.pp (Gp.convTo (r := i.1) rfl (u8code ⟨b1, b2⟩)) ?_
 refine WL.op kr (OW.buildSlice rfl kr kr (by rfl) rfl fun b24 => ?_)
 refine WL.oo (OW.append rfl rfl kr kr hv atA (Rds.blk0 (cs := [.int .u8 i.1]) .here rfl) rfl rfl (by dsimp only; omega) (by dsimp only; omega) rfl fun A3 c3 o3 hv3 => ?_)
 have h3 := BVec.snoc hv3
 refine gom ?_
 refine WL.oo (OW.callK rfl (rowOf_fn G i.1) rfl fun v' G' H' h hg => ?_)
 obtain ⟨he, rfl, rfl⟩ := h
 cases he
 refine WL.pp (Gp.rowN (r := rowC i.1) rfl) ?_
 have hl3 : (encP l k).length + 1 = (encP l k ++ [i.1]).length := by rw [List.length_append]; rfl
 have hst := all_step (f := mayI) hi hall hm
 cases hn : (rowC i.1).n with
 | true =>
  have hen : encP l (k + 1) = encP l k ++ [i.1] ++ uintL i.2.toNat := by rw [encP_snoc hi, encI, hn, List.append_assoc]; rfl
  refine gom ?_
  refine WL.pp (Gp.convTo (r := ((i.2.toNat : Nat) : Int)) rfl (u64n ⟨b3, by omega⟩)) ?_
  rw [hl3]
  refine WL.oo (OW.callK rfl (putUint_fn G A3 (encP l k ++ [i.1]) c3 o3 h3 i.2.toNat (by omega) (by omega)) rfl fun v' G' H' h hg => ?_)
  obtain ⟨A4, c4, x4, he, rfl, h4, rfl⟩ := h
  cases he
  rw [← hen] at h4 ⊢
  refine gom ?_
  exact WK.again (k + 1, A4, c4, x4) (by dsimp only; omega) ⟨by dsimp only; omega, h4, hst⟩ (by exact ⟨rfl, rfl, rfl, rfl, trivial⟩) rfl (by first | exact List.Sublist.refl _ | simp)
 | false =>
  have hen : encP l (k + 1) = encP l k ++ [i.1] := by rw [encP_snoc hi, encI, hn]; rfl
  rw [← hen] at h3 hl3
  refine gom ?_
  refine WK.pick [o3] ?_
  exact WK.again (k + 1, A3, c3, o3) (by dsimp only; omega) ⟨by dsimp only; omega, h3, hst⟩ (by exact ⟨by show _ = some (Value.slice A3 _ c3); rw [← hl3]; rfl, rfl, rfl, rfl, trivial⟩) rfl (List.Sublist.refl _)
end
section
open Go.MapKept
section
variable {P : Program} {Q : Exit → Act → World → Prop} {cx : Cx} {L : List (Nat × Value)} {G : Gh} {H : List Own} {K : List (Nat × Value) → Gh → List Own → Prop}
 {d : Option Tmp} {ty : TypeId} {pos : String} {af : Array Edge} {gu : Option (Nat × Bool)}
theorem OW.appendStr {t u e : TypeId} {x y : Operand} {A : Option Addr} {n cap j : Nat} {cs : List Value} {s : ByteArray} {o : Own} (hx : ev L x = some (.slice A n cap)) (hy : ev L y = some (.string s)) [hu : Und P t (.slice e)] [hu2 : Und P u .string] [hi : Inf P e 1 1 (.int .u8 0)]
  (hv : Vec e 1 A n cap cs o) (hj : At H j o) (hb : n + s.size ≤ 140737488355328) (hd : dOk d cx.N = true)
  (k : ∀ A' cap' o', Vec e 1 A' (n + s.size) cap' (cs ++ Lib.strCells s) o' → K (putL d (.slice A' (n + s.size) cap') L) G (H.set j o')) :
  OW P Q ⟨d, .call { callee := .builtin .append, args := #[x, y], argTypes := #[t, u] }, ty, pos, af, gu⟩ cx L G H K := by
 refine OW.gives hd fun a w st => ?_
 obtain ⟨ie, hi1, hi2, hi3, hi4⟩ := hi.info
 have hu' := hu.h
 have hu2' := hu2.h
 have hl := Lib.strCells_length s
 have h1 := Lib.strCells_oneCell s
 have hrun : ∀ v w', (Builtin.append_ #[t, u] ty #[.slice A n cap, .string s]).run P w = .ok v w' → (execOp a.eval ⟨d, .call { callee := .builtin .append, args := #[x, y], argTypes := #[t, u] }, ty, pos, af, gu⟩).run P w = .ok (.value v) w' := by
  intro v w' h
  simp only [execOp, resolve, invoke, builtin, Sem.run_bind, Sem.run_pure, Result.andThen_ok, List.map_toArray, List.map_cons, List.map_nil, st.eval hx, st.eval hy, h]
 by_cases hm : s.size = 0
 ·have hn : Lib.strCells s = [] := List.eq_nil_of_length_eq_zero (by rw [hl, hm])
  have hda : s.data = #[] := Array.eq_empty_of_size_eq_zero hm
  refine ⟨.slice A n cap, w, G, H, .inl (hrun _ _ ?_), st.sat, Stp.drew rfl, ?_⟩
  ·have hle := hv.le
   cases A with
   | none => simp [Builtin.append_, run_underlying hu', run_underlying hu2', sizeOf, typeInfo, hi1, Builtin.lenOf, Builtin.firstCells, hle, hm, hda]
   | some ad => simp [Builtin.append_, run_underlying hu', run_underlying hu2', sizeOf, typeInfo, hi1, Builtin.lenOf, Builtin.firstCells, hle, hm, hda, storeCells]
  ·have := k A cap o (by rw [hm, hn, List.append_nil]; exact hv)
   rw [set_same H j o hj.get, hm] at this
   exact this
 ·have hm0 : 0 < s.size := by omega
  have hcl := hv.1
  obtain ⟨_, ⟨rfl, rfl, rfl, rfl⟩ | ⟨b, c, rfl, rfl, hnc, hcs, htk⟩⟩ := hv
  ·have hcs0 : cs = [] := List.eq_nil_of_length_eq_zero (by simpa using hcl)
   subst hcs0
   have hr := run_append_nil_string (P := P) w t u ty e ie (.int .u8 0) hu' hu2' hi1 hi2 s hm0 (by omega) (by rw [hi4]; omega)
   have hg := grownCap_ge w s.size 0 e
   have hsw := st.sat.swap hj (.cells (s.data.map (fun b => Value.int .u8 b.toNat) ++ Builtin.zeroCells (Value.int .u8 0).cells (grownCap w s.size 0 e - s.size)) e) rfl
   have hz : (Value.int IntKind.u8 0).cells.size = 1 := rfl
   have hcl' : (s.data.map (fun b => Value.int IntKind.u8 b.toNat)).size = s.size := by rw [Array.size_map]; rfl
   refine ⟨_, _, G, _, .inl (hrun _ _ hr), hsw.1, hsw.2, ?_⟩
   have := k (some ⟨w.heap.size, 0, none⟩) (grownCap w s.size 0 e) (.blk w.heap.size (.cells (s.data.map (fun b => Value.int .u8 b.toNat) ++ Builtin.zeroCells (Value.int .u8 0).cells (grownCap w s.size 0 e - s.size)) e)) ⟨by simp [hl], .inr ⟨_, _, rfl, rfl, by omega, ?_, ?_⟩⟩
   ·simpa using this
   ·rw [Array.size_append, hcl', zeroCells_size hz]; omega
   ·have he : (s.data.map (fun b => Value.int IntKind.u8 b.toNat)).toList = Lib.strCells s := by simp [Lib.strCells]
    simp only [Array.toList_append, List.nil_append, Nat.zero_add, he]
    rw [Nat.mul_one, ← hl]; exact List.take_left
  ·have hbw : w.heap[b]? = some (.cells c e (0, 0)) := st.sat.hold _ (List.mem_of_getElem? hj.get)
   by_cases hroom : n + s.size ≤ cap
   ·have hfit : n + (Lib.strCells s).length ≤ c.size := by rw [hl, hcs]; omega
    have hr := Lib.run_append_room_string (P := P) w t u ty e ie hu' hu2' hi1 hi3 b n cap c hbw s hroom (by rw [hl] at hfit; exact hfit)
    have hsp := st.sat.splice (o := n) (cs := Lib.strCells s) hj hfit
    have hrow : (List.take n c.toList ++ Lib.strCells s ++ List.drop (n + s.size) c.toList).toArray = splice c n (Lib.strCells s) := by unfold splice; rw [hl]
    rw [hrow] at hr
    refine ⟨_, _, G, _, .inl (hrun _ _ hr), hsp.1, hsp.2, k _ _ _ ⟨by rw [List.length_append, hcl, hl, Nat.add_mul]; omega, .inr ⟨b, _, rfl, rfl, hroom, by rw [size_splice hfit, hcs], ?_⟩⟩⟩
    simp only [splice]
    rw [Nat.mul_one] at htk
    rw [htk, show (n + s.size) * 1 = (cs ++ Lib.strCells s).length by rw [List.length_append, hcl, hl]; omega]
    exact List.take_left
   ·have holds : ∀ j v, cs[j]? = some v → w.cell? ((⟨b, 0, none⟩ : Addr).add j) = some v := fun j v e => by
     rw [cell_add, cell_of_row w b _ c _ _ hbw, ← htk] at *
     rw [List.getElem?_take] at e
     split at e
     ·simpa using e
     ·cases e
    have hr := Lib.run_append_grow_string (P := P) w t u ty e ie (.int .u8 0) hu' hu2' hi1 hi2 ⟨b, 0, none⟩ n cap cs (by rw [hi3]; exact hcl) holds s (by omega) (by omega) (growslice_fits (by omega) (by rw [hi4]; omega))
    have hg := grownCap_ge w (n + s.size) cap e
    have hsw := st.sat.swap hj (.cells (cs.toArray ++ (Lib.strCells s).toArray ++ Builtin.zeroCells (Value.int .u8 0).cells (grownCap w (n + s.size) cap e - (n + s.size))) e) rfl
    have hz : (Value.int IntKind.u8 0).cells.size = 1 := rfl
    refine ⟨_, _, G, _, .inl (hrun _ _ hr), hsw.1, hsw.2, k _ _ _ ⟨by rw [List.length_append, hcl, hl, Nat.add_mul]; omega, .inr ⟨_, _, rfl, rfl, hg, ?_, ?_⟩⟩⟩
    ·simp only [Array.size_append, List.size_toArray, zeroCells_size hz, hl, hcl]; omega
    ·simp only [Array.toList_append]
     rw [show (n + s.size) * 1 = (cs ++ Lib.strCells s).length by rw [List.length_append, hcl, hl]; omega]
     exact List.take_left
end
def strI (s : ByteArray) : List Int := s.data.toList.map fun b => (b.toNat : Int)
theorem strI_length (s : ByteArray) : (strI s).length = s.size := by rw [strI, List.length_map, Array.length_toList]; rfl
theorem strI_cells (s : ByteArray) : Lib.strCells s = u8s (strI s) := by simp [Lib.strCells, u8s, strI]
theorem BVec.str {A : Option Addr} {l : List Int} {cap : Nat} {x : Own} {s : ByteArray} (h : Vec 5 1 A (l.length + s.size) cap (u8s l ++ Lib.strCells s) x) : BVec A (l ++ strI s) cap x := by
 unfold BVec; rw [u8s_append, List.length_append, strI_length, ← strI_cells]; exact h
theorem BVec.more {A : Option Addr} {l m : List Int} {cap : Nat} {x : Own} (h : Vec 5 1 A (l.length + m.length) cap (u8s l ++ u8s m) x) : BVec A (l ++ m) cap x := by
 unfold BVec; rw [u8s_append, List.length_append]; exact h
end
section
open Go.MapKept
section
variable {P : Program} {L : List (Nat × Value)} {d : Option Tmp} {ty : TypeId} {pos : String} {af : Array Edge} {gu : Option (Nat × Bool)}
theorem Gp.shlT {t t' : TypeId} {x y : Operand} {k k' : IntKind} {m n r : Int} (hx : ev L x = some (.int k m)) (hy : ev L y = some (.int k' n)) (hn : 0 ≤ n) (hr : k.wrap (m * 2 ^ min n.toNat k.bits) = r) : Gp P L ⟨d, .binOp .shl t x y t', ty, pos, af, gu⟩ (.int k r) :=
 fun a st w => by subst hr; simp [execOp, st.eval hx, st.eval hy, eqGuard_shl, binOp_shl, shift_shl_any k k' m n hn]
theorem Gp.xorT {t t' : TypeId} {x y : Operand} {k : IntKind} {m n r : Int} (hx : ev L x = some (.int k m)) (hy : ev L y = some (.int k n)) (hr : bits .xor k m n = r) : Gp P L ⟨d, .binOp .xor t x y t', ty, pos, af, gu⟩ (.int k r) :=
 fun a st w => by subst hr; simp [execOp, st.eval hx, st.eval hy, eqGuard_xor, binOp_xor, intBits_xor]
end
attribute [local irreducible] Tryz.prog
def zzN (n : Int) : Nat := if 0 ≤ n then (2 * n).toNat else (-2 * n - 1).toNat
theorem zz_step {n : Int} (h : -9223372036854775808 ≤ n ∧ n ≤ 9223372036854775807) :
  bits .xor .u64 (IntKind.u64.wrap (IntKind.u64.wrap n * 2 ^ min (1 : Int).toNat IntKind.u64.bits)) (IntKind.u64.wrap (n / 2 ^ min (63 : Int).toNat IntKind.i64.bits)) = ((zzN n : Nat) : Int) := by
 have e1 : min (1 : Int).toNat IntKind.u64.bits = 1 := rfl
 have e2 : min (63 : Int).toNat IntKind.i64.bits = 63 := rfl
 have w : ∀ z : Int, IntKind.u64.wrap z = z % 18446744073709551616 := fun z => by simp [IntKind.wrap, IntKind.signed, IntKind.bits]
 rw [e1, e2, w, w, w]
 unfold zzN
 by_cases h0 : 0 ≤ n
 ·rw [if_pos h0]
  have a1 : n % 18446744073709551616 * 2 ^ 1 % 18446744073709551616 = (((2 * n).toNat : Nat) : Int) := by omega
  have a2 : n / 2 ^ 63 % 18446744073709551616 = ((0 : Nat) : Int) := by omega
  rw [a1, a2, bits_xor_u64_nat _ _ (by omega) (by omega), Nat.xor_zero]
 ·rw [if_neg h0]
  have a1 : n % 18446744073709551616 * 2 ^ 1 % 18446744073709551616 = (((2 * n + 18446744073709551616).toNat : Nat) : Int) := by omega
  have a2 : n / 2 ^ 63 % 18446744073709551616 = ((18446744073709551615 : Nat) : Int) := by omega
  rw [a1, a2, bits_xor_u64_nat _ _ (by omega) (by omega)]
  have hx : ∀ m : Nat, m < 2 ^ 64 → m ^^^ (2 ^ 64 - 1) = 2 ^ 64 - 1 - m := fun m hm => by
   apply Nat.eq_of_testBit_eq
   intro i
   rw [Nat.testBit_xor, Nat.testBit_two_pow_sub_one, show 2 ^ 64 - 1 - m = 2 ^ 64 - (m + 1) by omega, Nat.testBit_two_pow_sub_succ hm]
   by_cases hi : i < 64
   ·simp [hi]
   ·have : m.testBit i = false := Nat.testBit_lt_two_pow (Nat.lt_of_lt_of_le hm (Nat.pow_le_pow_right (by decide) (by omega)))
    simp [hi, this]
  have := hx (2 * n + 18446744073709551616).toNat (by omega)
  rw [show (2 : Nat) ^ 64 - 1 = 18446744073709551615 by decide] at this
  rw [this]; omega
theorem zzN_lt {n : Int} (h : -9223372036854775808 ≤ n ∧ n ≤ 9223372036854775807) : zzN n < 18446744073709551616 := by unfold zzN; split <;> omega
def strsI (ss : List ByteArray) : List Int := ss.flatMap fun s => uintL s.size ++ strI s
theorem strsI_snoc {ss : List ByteArray} {k : Nat} {s : ByteArray} (h : ss[k]? = some s) : strsI (ss.take (k + 1)) = strsI (ss.take k) ++ uintL s.size ++ strI s := by
 unfold strsI
 rw [take_snoc' h, List.flatMap_append]; simp [List.append_assoc]
theorem strsI_take {ss : List ByteArray} (k : Nat) : (strsI (ss.take k)).length ≤ (strsI ss).length := by
 conv => rhs; rw [← List.take_append_drop k ss]
 unfold strsI
 rw [List.flatMap_append, List.length_append]; omega
theorem freshN_fn (G : Gh) (A : Option Addr) (l : List Int) (cap : Nat) (x : Own) (hx : BVec A l cap x) (hl : l.length ≤ 100000000000000) (k : Nat) (hk : k ≤ 1000) :
  Fn Tryz.prog 151 #[.slice A l.length cap, .int .i64 k] G [x] fun e G' H' => ∃ A' cap' x', e = .returned (.slice A' l.length cap') ∧ G = G' ∧ BVec A' l cap' x' ∧ H' = [x'] := by
 refine Fn.enter Tryz.func151 rfl rfl fun w0 => ?_
 have x2 : IntKind.i64.wrap ((l.length : Int) + k) = ((l.length + k : Nat) : Int) := by rw [wrapI (by omega) (by omega)]; rfl
 refine gom ?_
 refine WL.oo (OW.makeSlice2 (n := 1) (z := .int .u8 0) (m := (l.length : Int)) (c := ((l.length + k : Nat) : Int)) rfl rfl rfl (by omega) (by omega) (by omega) (by omega) rfl fun tb o1 ho1 => ?_)
 rw [Int.toNat_natCast, Int.toNat_natCast] at ho1 ⊢
 refine gom ?_
 refine WL.oo (OW.copy rfl rfl kr ho1 .here (hx.rds (.there .here)) (u8s_length l) (u8s_one l) (Nat.le_refl _) rfl fun o2 ho2 => ?_)
 have h2 : BVec (some ⟨tb, 0, none⟩) l (l.length + k) o2 := by
  unfold BVec
  rw [List.drop_eq_nil_of_le (by rw [repS_length]; exact Nat.le_refl _), List.append_nil] at ho2
  exact ho2
 refine gom ?_
 refine WC.rt ?_
 exact QF.p1 (.inl rfl) rfl (.tmp rfl) (⟨_, _, o2, rfl, rfl, h2, rfl⟩)
theorem texts_fn (G : Gh) (A : Option Addr) (l : List Int) (cap : Nat) (x : Own) (hx : BVec A l cap x) (SA : Option Addr) (ss : List ByteArray) (sc : Nat) (hS : Sl Kd.str G SA ss) (hsl : ss.length ≤ 1000) (hl : l.length + (strsI ss).length ≤ 100000000000000) :
  Fn Tryz.prog 150 #[.slice A l.length cap, .slice SA ss.length sc] G [x] fun e G' H' => ∃ A' cap' x', e = .returned (.slice A' (l ++ strsI ss).length cap') ∧ G = G' ∧ BVec A' (l ++ strsI ss) cap' x' ∧ H' = [x'] := by
 refine Fn.enter Tryz.func150 rfl rfl fun w0 => ?_
 refine gom ?_
 have hnil : l ++ strsI (ss.take 0) = l := by simp [strsI]
 refine WC.loop (X := Nat × Option Addr × Nat × Own) (fun s => [(0, .slice s.2.1 (l ++ strsI (ss.take s.1)).length s.2.2.1), (7, .slice SA ss.length sc), (8, .int .i64 ss.length), (9, .int .i64 s.1)]) (fun _ => G) (fun s => [s.2.2.2]) (fun s => ss.length - s.1) (fun s => s.1 ≤ ss.length ∧ BVec s.2.1 (l ++ strsI (ss.take s.1)) s.2.2.1 s.2.2.2) (0, A, cap, x) ⟨Nat.zero_le _, by rw [hnil]; exact hx⟩ (by exact ⟨by show _ = some (Value.slice A _ cap); rw [hnil]; rfl, rfl, rfl, rfl, trivial⟩) rfl (List.Sublist.refl _) (fun s hs => ?_)
 obtain ⟨k, B, c, o⟩ := s
 obtain ⟨hk, hv⟩ := hs
 dsimp only at hk hv
 have x2 := wrapS k (by omega)
 by_cases hlt : k < ss.length
 rotate_left
 ·have e2 : decide ((k : Int) < (ss.length : Int)) = false := decide_eq_false (by omega)
  rw [List.take_of_length_le (by omega)] at hv
  have ht : ss.take k = ss := List.take_of_length_le (by omega)
  refine gom ?_
  refine WC.rt ?_
  exact QF.p1 (.inl rfl) rfl (.tmp rfl) (⟨B, c, o, by dsimp only; rw [ht], rfl, hv, rfl⟩)
 have e2 : decide ((k : Int) < (ss.length : Int)) = true := decide_eq_true (by omega)
 obtain ⟨s, hs⟩ : ∃ s, ss[k]? = some s := ⟨_, List.getElem?_eq_getElem (by omega)⟩
 obtain ⟨ib, io, ics, rfl, hik, hic⟩ := hS k s hs
 obtain rfl : ics = [.string s] := hik
 have x0 : (0 : Int) ≤ (k : Int) := by omega
 have x1' : (k : Int) < (ss.length : Int) := by omega
 have hle := strsI_take (ss := ss) (k + 1)
 rw [strsI_snoc hs, List.length_append, List.length_append, strI_length] at hle
 have hal : (l ++ strsI (ss.take k)).length = l.length + (strsI (ss.take k)).length := List.length_append
 refine gom ?_
 refine WL.pp (Gp.convTo (r := ((s.size : Nat) : Int)) rfl (by rw [u64n ⟨by omega, by omega⟩]; rfl)) ?_
 refine WL.oo (OW.callK rfl (short_fn G B (l ++ strsI (ss.take k)) c o hv s.size (by omega) (by omega)) rfl fun v' G' H' h hg => ?_)
 obtain ⟨A1, c1, x1, he, rfl, h1, rfl⟩ := h
 cases he
 have hb1 : (l ++ strsI (ss.take k) ++ uintL s.size).length = l.length + (strsI (ss.take k)).length + (uintL s.size).length := by rw [List.length_append, hal]
 refine gom ?_
 refine WL.oo (OW.appendStr rfl rfl h1 atA (by omega) rfl fun A2 c2 o2 hv2 => ?_)
 have h2 := BVec.str hv2
 have hen : l ++ strsI (ss.take k) ++ uintL s.size ++ strI s = l ++ strsI (ss.take (k + 1)) := by rw [strsI_snoc hs]; simp only [List.append_assoc]
 have hl2 : (l ++ strsI (ss.take k) ++ uintL s.size).length + s.size = (l ++ strsI (ss.take (k + 1))).length := by rw [← hen, List.length_append (bs := strI s), strI_length]
 rw [hen] at h2
 refine gom ?_
 refine WK.pick [o2] ?_
 exact WK.again (k + 1, A2, c2, o2) (by dsimp only; omega) ⟨by dsimp only; omega, h2⟩ (by exact ⟨by show _ = some (Value.slice A2 _ c2); rw [← hl2]; rfl, rfl, rfl, rfl, trivial⟩) rfl (List.Sublist.refl _)
theorem putText_fn (G : Gh) (A : Option Addr) (l : List Int) (cap : Nat) (x : Own) (hx : BVec A l cap x) (SA : Option Addr) (ss : List ByteArray) (sc : Nat) (hS : Sl Kd.str G SA ss) (hsl : ss.length ≤ 1000) (hl : l.length + (strsI ss).length ≤ 100000000000000) :
  Fn Tryz.prog 104 #[.slice A l.length cap, .slice SA ss.length sc] G [x] fun e G' H' => ∃ A' cap' x', e = .returned (.slice A' (l ++ strsI ss).length cap') ∧ G = G' ∧ BVec A' (l ++ strsI ss) cap' x' ∧ H' = [x'] := by
 refine Fn.enter Tryz.func104 rfl rfl fun w0 => ?_
 refine gom ?_
 refine WL.oo (OW.callK rfl (freshN_fn G A l cap x hx (by omega) 16 (by decide)) rfl fun v' G' H' h hg => ?_)
 obtain ⟨A1, c1, x1, he, rfl, h1, rfl⟩ := h
 cases he
 refine gom ?_
 refine WL.oo (OW.callK rfl (texts_fn G A1 l c1 x1 h1 SA ss sc hS hsl hl) rfl fun v' G' H' h hg => ?_)
 obtain ⟨A2, c2, x2, he, rfl, h2, rfl⟩ := h
 cases he
 refine gom ?_
 refine WC.rt ?_
 exact QF.p1 (.inl rfl) rfl (.tmp rfl) (⟨_, _, x2, rfl, rfl, h2, rfl⟩)
theorem putInt_fn (G : Gh) (A : Option Addr) (l : List Int) (cap : Nat) (x : Own) (hx : BVec A l cap x) (n : Int) (hn : -9223372036854775808 ≤ n ∧ n ≤ 9223372036854775807) (hl : l.length ≤ 100000000000000) :
  Fn Tryz.prog 106 #[.slice A l.length cap, .int .i64 n] G [x] fun e G' H' => ∃ A' cap' x', e = .returned (.slice A' (l ++ uintL (zzN n)).length cap') ∧ G = G' ∧ BVec A' (l ++ uintL (zzN n)) cap' x' ∧ H' = [x'] := by
 refine Fn.enter Tryz.func106 rfl rfl fun w0 => ?_
 refine gom ?_
 refine WL.oo (OW.callK rfl (fresh_fn G A l cap x hx (by omega)) rfl fun v' G' H' h hg => ?_)
 obtain ⟨A1, c1, x1, he, rfl, h1, rfl⟩ := h
 cases he
 refine gom ?_
 refine WL.pp (Gp.convTo (r := IntKind.u64.wrap n) rfl rfl) ?_
 refine WL.pp (Gp.shlT (r := IntKind.u64.wrap (IntKind.u64.wrap n * 2 ^ min (1 : Int).toNat IntKind.u64.bits)) rfl rfl (by decide) rfl) ?_
 refine gom ?_
 refine WL.pp (Gp.shrTo (r := n / 2 ^ min (63 : Int).toNat IntKind.i64.bits) rfl rfl (by decide) rfl) ?_
 refine WL.pp (Gp.convTo (r := IntKind.u64.wrap (n / 2 ^ min (63 : Int).toNat IntKind.i64.bits)) rfl rfl) ?_
 refine WL.pp (Gp.xorT (r := ((zzN n : Nat) : Int)) rfl rfl (zz_step hn)) ?_
 refine WL.oo (OW.callK rfl (short_fn G A1 l c1 x1 h1 (zzN n) (zzN_lt hn) hl) rfl fun v' G' H' h hg => ?_)
 obtain ⟨A2, c2, x2, he, rfl, h2, rfl⟩ := h
 cases he
 refine gom ?_
 refine WC.rt ?_
 exact QF.p1 (.inl rfl) rfl (.tmp rfl) (⟨_, _, x2, rfl, rfl, h2, rfl⟩)
def boolI (b : Bool) : Int := if b then 1 else 0
theorem putBool_fn (G : Gh) (A : Option Addr) (l : List Int) (cap : Nat) (x : Own) (hx : BVec A l cap x) (b : Bool) (hl : l.length ≤ 100000000000000) :
  Fn Tryz.prog 107 #[.slice A l.length cap, .bool b] G [x] fun e G' H' => ∃ A' cap' x', e = .returned (.slice A' (l ++ [boolI b]).length cap') ∧ G = G' ∧ BVec A' (l ++ [boolI b]) cap' x' ∧ H' = [x'] := by
 refine Fn.enter Tryz.func107 rfl rfl fun w0 => ?_
 cases b with
 | true =>
  refine gom ?_
  refine WL.oo (OW.callK rfl (freshN_fn G A l cap x hx (by omega) 1 (by decide)) rfl fun v' G' H' h hg => ?_)
  obtain ⟨A1, c1, x1, he, rfl, h1, rfl⟩ := h
  cases he
  refine WL.op kr (OW.buildSlice rfl kr kr (by rfl) rfl fun b8 => ?_)
  refine WL.oo (OW.append rfl rfl kr kr h1 atA (Rds.blk0 (cs := [.int .u8 1]) .here rfl) rfl rfl (by omega) (by omega) rfl fun A3 c3 o3 hv3 => ?_)
  have h3 := BVec.snoc hv3
  have hl3 : l.length + 1 = (l ++ [(1 : Int)]).length := by rw [List.length_append]; rfl
  refine gom ?_
  refine WC.rt ?_
  exact QF.p1 (.inl rfl) rfl (.tmp rfl) (⟨A3, c3, o3, by rw [show boolI true = 1 from rfl, ← hl3], rfl, h3, rfl⟩)
 | false =>
  refine gom ?_
  refine WL.oo (OW.callK rfl (freshN_fn G A l cap x hx (by omega) 1 (by decide)) rfl fun v' G' H' h hg => ?_)
  obtain ⟨A1, c1, x1, he, rfl, h1, rfl⟩ := h
  cases he
  refine WL.op kr (OW.buildSlice rfl kr kr (by rfl) rfl fun b12 => ?_)
  refine WL.oo (OW.append rfl rfl kr kr h1 atA (Rds.blk0 (cs := [.int .u8 0]) .here rfl) rfl rfl (by omega) (by omega) rfl fun A3 c3 o3 hv3 => ?_)
  have h3 := BVec.snoc hv3
  have hl3 : l.length + 1 = (l ++ [(0 : Int)]).length := by rw [List.length_append]; rfl
  refine gom ?_
  refine WC.rt ?_
  exact QF.p1 (.inl rfl) rfl (.tmp rfl) (⟨A3, c3, o3, by rw [show boolI false = 0 from rfl, ← hl3], rfl, h3, rfl⟩)
end
section
open Go.MapKept
attribute [local irreducible] Tryz.prog
abbrev wrB (wb : Nat) (A : Option Addr) (n cap : Nat) : Own := .blk wb (.cells #[.slice A n cap] 115 (0, 0))
def WrP (wb : Nat) (l more : List Int) (G : Gh) (e : Ending) (G' : Gh) (H' : List Own) : Prop :=
 ∃ A' cap' x', e = .returned (.tuple #[]) ∧ G.le G' ∧ BVec A' (l ++ more) cap' x' ∧ H' = [wrB wb A' (l ++ more).length cap', x']
def txtI (s : ByteArray) : List Int := uintL s.size ++ strI s
def uI (n : Int) : List Int := uintL (IntKind.u64.wrap n).toNat
theorem u64_wrap (n : Int) : IntKind.u64.wrap n = (((IntKind.u64.wrap n).toNat : Nat) : Int) ∧ (IntKind.u64.wrap n).toNat < 18446744073709551616 := by
 have w : IntKind.u64.wrap n = n % 18446744073709551616 := by simp [IntKind.wrap, IntKind.signed, IntKind.bits]
 rw [w]; omega
theorem uI_len (n : Int) : (uI n).length ≤ 10 := uintL_len10 (u64_wrap n).2
def kindI (t : Int) : List Int := [IntKind.u8.wrap t]
theorem uint_fn (G : Gh) (wb : Nat) (A : Option Addr) (l : List Int) (cap : Nat) (x : Own) (hx : BVec A l cap x) (n : Int) (hl : l.length ≤ 100000000000000) :
  Fn Tryz.prog 61 #[.pointer (some ⟨wb, 0, none⟩), .int .i64 n] G [wrB wb A l.length cap, x] (WrP wb l (uI n) G) := by
 refine Fn.enter Tryz.func61 rfl rfl fun w0 => ?_
 refine gom ?_
 refine WL.pp (Gp.convTo (r := (((IntKind.u64.wrap n).toNat : Nat) : Int)) rfl (u64_wrap n).1) ?_
 refine WL.oo (OW.callK rfl (putUint_fn G A l cap x hx (IntKind.u64.wrap n).toNat (u64_wrap n).2 hl) rfl fun v' G' H' h hg => ?_)
 obtain ⟨A1, c1, x1, he, rfl, h1, rfl⟩ := h
 cases he
 refine gom ?_
 refine WK.un ?_
 exact QF.p0 (.inr rfl) rfl  (⟨A1, c1, x1, rfl, Gh.le_refl _, h1, rfl⟩)
theorem text_fn (G : Gh) (wb : Nat) (A : Option Addr) (l : List Int) (cap : Nat) (x : Own) (hx : BVec A l cap x) (s : ByteArray) (hl : l.length + s.size ≤ 90000000000000) :
  Fn Tryz.prog 59 #[.pointer (some ⟨wb, 0, none⟩), .string s] G [wrB wb A l.length cap, x] (WrP wb l (txtI s) G) := by
 refine Fn.enter Tryz.func59 rfl rfl fun w0 => ?_
 have hst : strsI [s] = txtI s := by simp [strsI, txtI]
 have h10 := uintL_len10 (n := s.size) (by omega)
 have hlt : (txtI s).length ≤ s.size + 10 := by rw [txtI, List.length_append, strI_length]; omega
 refine gom ?_
 refine WL.op kr (OW.buildSlice rfl kr kr (by rfl) rfl fun b6 => ?_)
 refine WL.freezeK (k := Kd.str) (A := some ⟨_, 0, none⟩) (T := 9) (cap := 1) (l := [s]) (by decide) ⟨[.string s], ⟨rfl, .inr ⟨_, _, rfl, rfl, Nat.le_refl _, rfl, rfl⟩⟩, KFl.one (k := Kd.str) rfl⟩ .here fun G1 hg1 hS => ?_
 refine gom ?_
 refine WL.oo (OW.callK rfl (putText_fn G1 A l cap x hx _ [s] 1 hS (by simp) (by rw [hst]; omega)) rfl fun v' G' H' h hg => ?_)
 obtain ⟨A1, c1, x1, he, rfl, h1, rfl⟩ := h
 cases he
 rw [hst] at h1 ⊢
 refine gom ?_
 refine WK.un ?_
 exact QF.p0 (.inr rfl) rfl  (⟨A1, c1, x1, rfl, hg1, h1, rfl⟩)
theorem kind_fn (G : Gh) (wb : Nat) (A : Option Addr) (l : List Int) (cap : Nat) (x : Own) (hx : BVec A l cap x) (t : Int) (hl : l.length ≤ 100000000000000) :
  Fn Tryz.prog 105 #[.pointer (some ⟨wb, 0, none⟩), .int .i64 t] G [wrB wb A l.length cap, x] (WrP wb l (kindI t) G) := by
 refine Fn.enter Tryz.func105 rfl rfl fun w0 => ?_
 refine gom ?_
 refine WL.pp (Gp.convTo (r := IntKind.u8.wrap t) rfl rfl) ?_
 refine WL.op kr (OW.buildSlice rfl kr kr (by rfl) rfl fun b7 => ?_)
 refine WL.oo (OW.append rfl rfl kr kr hx atA (Rds.blk0 (cs := [.int .u8 (IntKind.u8.wrap t)]) .here rfl) rfl rfl (by omega) (by omega) rfl fun A3 c3 o3 hv3 => ?_)
 have h3 := BVec.snoc hv3
 have hl3 : l.length + 1 = (l ++ kindI t).length := by rw [List.length_append]; rfl
 refine gom ?_
 refine WK.un ?_
 exact QF.p0 (.inr rfl) rfl  (⟨A3, c3, o3, rfl, Gh.le_refl _, h3, by rw [← hl3]⟩)
end
section
open Go.MapKept
attribute [local irreducible] Tryz.prog
def valI (v : V) : List Int := kindI v.t ++ (if v.t = 1 then uintL (zzN v.i) else if v.t = 2 then [boolI v.b] else if v.t = 3 then txtI v.s else [])
def valsI (vs : List V) : List Int := uI vs.length ++ vs.flatMap valI
def headI (s : ByteArray) (ps : List Int) (r : Int) : List Int := txtI s ++ uI ps.length ++ ps.flatMap kindI ++ kindI r
def procI (p : Pr) : List Int := headI p.name p.params p.result ++ [boolI p.exp] ++ uI p.locals ++ (bytesR p.code).1
def procsI (ps : List Pr) : List Int := uI ps.length ++ ps.flatMap procI
section
variable {α : Type} {f : α → List Int} {l : List α} {k : Nat} {a : α}
theorem flat_snoc (h : l[k]? = some a) : (l.take (k + 1)).flatMap f = (l.take k).flatMap f ++ f a := by rw [take_snoc' h, List.flatMap_append]; simp
theorem flat_take (k : Nat) : ((l.take k).flatMap f).length ≤ (l.flatMap f).length := by
 conv => rhs; rw [← List.take_append_drop k l]
 rw [List.flatMap_append, List.length_append]; omega
theorem flat_at (h : l[k]? = some a) : ((l.take k).flatMap f).length + (f a).length ≤ (l.flatMap f).length := by
 rw [← List.length_append, ← flat_snoc h]; exact flat_take _
end
structure WrS where
 i : Nat
 A : Option Addr
 cap : Nat
 x : Own
 G : Gh
 n : Nat
set_option maxRecDepth 20000 in
set_option maxHeartbeats 2000000 in
theorem wvalues_fn (G : Gh) (wb : Nat) (A : Option Addr) (l : List Int) (cap : Nat) (x : Own) (hx : BVec A l cap x) (VA : Option Addr) (vs : List V) (vc : Nat) (hV : Sl Kd.val G VA vs) (hi : ∀ v ∈ vs, -9223372036854775808 ≤ v.i ∧ v.i ≤ 9223372036854775807) (hvl : vs.length ≤ 1000000000) (hl : l.length + (valsI vs).length ≤ 80000000000000) :
  Fn Tryz.prog 60 #[.pointer (some ⟨wb, 0, none⟩), .slice VA vs.length vc] G [wrB wb A l.length cap, x] (WrP wb l (valsI vs) G) := by
 refine Fn.enter Tryz.func60 rfl rfl fun w0 => ?_
 refine gom ?_
 refine WL.oo (OW.callK rfl (uint_fn G wb A l cap x hx (vs.length : Int) (by omega)) rfl fun v' G' H' h hg => ?_)
 obtain ⟨A1, c1, x1, he, hg1, h1, rfl⟩ := h
 cases he
 refine gom ?_
 have hb : ∀ k, (l ++ uI vs.length ++ (vs.take k).flatMap valI).length = l.length + (uI vs.length).length + ((vs.take k).flatMap valI).length := fun k => by rw [List.length_append, List.length_append]
 have hvl' : (valsI vs).length = (uI vs.length).length + (vs.flatMap valI).length := by rw [valsI, List.length_append]
 have h00 : l ++ uI vs.length ++ (vs.take 0).flatMap valI = l ++ uI vs.length := by simp
 refine WC.loop (X := WrS) (fun s => [(0, .pointer (some ⟨wb, 0, none⟩)), (10, .slice VA vs.length vc), (11, .int .i64 vs.length), (12, .int .i64 s.i)]) (fun s => s.G) (fun s => [wrB wb s.A s.n s.cap, s.x]) (fun s => vs.length - s.i) (fun s => s.i ≤ vs.length ∧ G.le s.G ∧ BVec s.A (l ++ uI vs.length ++ (vs.take s.i).flatMap valI) s.cap s.x ∧ s.n = (l ++ uI vs.length ++ (vs.take s.i).flatMap valI).length)
  ⟨0, A1, c1, x1, G', (l ++ uI vs.length).length⟩ ⟨Nat.zero_le _, hg1, by rw [h00]; exact h1, by dsimp only; rw [h00]⟩ (by exact ⟨rfl, rfl, rfl, rfl, trivial⟩) rfl (List.Sublist.refl _) (fun s hs => ?_)
 obtain ⟨k, B, c, o, G2, n⟩ := s
 obtain ⟨hk, hg2, hv, hn⟩ := hs
 dsimp only at hk hg2 hv hn
 have x2 := wrapS k (by omega)
 by_cases hlt : k < vs.length
 rotate_left
 ·have e2 : decide ((k : Int) < (vs.length : Int)) = false := decide_eq_false (by omega)
  have ht : l ++ uI vs.length ++ (vs.take k).flatMap valI = l ++ valsI vs := by rw [List.take_of_length_le (by omega), valsI, List.append_assoc]
  rw [ht] at hv hn
  subst hn
  refine gom ?_
  refine WK.un ?_
  exact QF.p0 (.inr rfl) rfl  (⟨B, c, o, rfl, hg2, hv, rfl⟩)
 have e2 : decide ((k : Int) < (vs.length : Int)) = true := decide_eq_true (by omega)
 obtain ⟨v, hvk⟩ : ∃ v, vs[k]? = some v := ⟨_, List.getElem?_eq_getElem (by omega)⟩
 have hvi := hi v (List.mem_of_getElem? hvk)
 have hV2 := hV.mono hg2
 obtain ⟨ib, io, ics, rfl, hik, hic⟩ := hV2 k v hvk
 obtain rfl : ics = vcells v := hik
 have x0 : (0 : Int) ≤ (k : Int) := by omega
 have x1' : (k : Int) < (vs.length : Int) := by omega
 have hfa := flat_at (f := valI) hvk
 have hfs := flat_snoc (f := valI) hvk
 have hva : (valI v).length = 1 + (if v.t = 1 then uintL (zzN v.i) else if v.t = 2 then [boolI v.b] else if v.t = 3 then txtI v.s else []).length := by rw [valI, List.length_append]; rfl
 have hbk := hb k
 generalize hM : l ++ uI vs.length ++ (vs.take k).flatMap valI = M at *
 have hnext : l ++ uI vs.length ++ (vs.take (k + 1)).flatMap valI = M ++ valI v := by rw [hfs, ← List.append_assoc, hM]
 subst hn
 have hkl : (M ++ kindI v.t).length = M.length + 1 := by rw [List.length_append]; rfl
 refine gom ?_
 refine WL.oo (OW.alloc rfl fun b5 => ?_)
 refine gom ?_
 refine WL.oo (OW.callK rfl (kind_fn G2 wb B M c o hv v.t (by omega)) rfl fun v' G' H' h hg => ?_)
 obtain ⟨A3, c3, x3, he, hg3, h3, rfl⟩ := h
 cases he
 by_cases t1 : v.t = 1
 ·have e1 : (v.t == 1) = true := by rw [beq_iff_eq]; exact t1
  rw [if_pos t1] at hva
  have hen : M ++ kindI v.t ++ uintL (zzN v.i) = M ++ valI v := by rw [valI, if_pos t1, List.append_assoc]
  refine gom ?_
  refine WQ.one kr kr (OW.callK rfl (putInt_fn G' A3 (M ++ kindI v.t) c3 x3 h3 v.i hvi (by omega)) rfl fun v' G' H' h hg => ?_)
  obtain ⟨A4, c4, x4, he, rfl, h4, rfl⟩ := h
  cases he
  rw [hen] at h4 ⊢
  refine gom ?_
  refine WQ.one kr kr (OW.store rfl rfl atA rfl (by rfl) (by rfl) kr (by rfl) ?_ rfl)
  refine gom ?_
  refine WK.pick [wrB wb A4 (M ++ valI v).length c4, x4] ?_
  exact WK.again ⟨k + 1, A4, c4, x4, G', (M ++ valI v).length⟩ (by dsimp only; omega) ⟨by dsimp only; omega, Gh.le_trans hg2 hg3, by dsimp only; rw [hnext]; exact h4, by dsimp only; rw [hnext]⟩ (by exact ⟨rfl, rfl, rfl, rfl, trivial⟩) rfl (List.Sublist.refl _)
 have e1 : (v.t == 1) = false := by rw [beq_eq_false_iff_ne]; exact t1
 rw [if_neg t1] at hva
 by_cases t2 : v.t = 2
 ·have e2' : (v.t == 2) = true := by rw [beq_iff_eq]; exact t2
  rw [if_pos t2] at hva
  have hen : M ++ kindI v.t ++ [boolI v.b] = M ++ valI v := by rw [valI, if_neg t1, if_pos t2, List.append_assoc]
  refine gom ?_
  refine WQ.one kr kr (OW.callK rfl (putBool_fn G' A3 (M ++ kindI v.t) c3 x3 h3 v.b (by omega)) rfl fun v' G' H' h hg => ?_)
  obtain ⟨A4, c4, x4, he, rfl, h4, rfl⟩ := h
  cases he
  rw [hen] at h4 ⊢
  refine gom ?_
  refine WQ.one kr kr (OW.store rfl rfl atA rfl (by rfl) (by rfl) kr (by rfl) ?_ rfl)
  refine gom ?_
  refine WK.pick [wrB wb A4 (M ++ valI v).length c4, x4] ?_
  exact WK.again ⟨k + 1, A4, c4, x4, G', (M ++ valI v).length⟩ (by dsimp only; omega) ⟨by dsimp only; omega, Gh.le_trans hg2 hg3, by dsimp only; rw [hnext]; exact h4, by dsimp only; rw [hnext]⟩ (by exact ⟨rfl, rfl, rfl, rfl, trivial⟩) rfl (List.Sublist.refl _)
 have e2' : (v.t == 2) = false := by rw [beq_eq_false_iff_ne]; exact t2
 rw [if_neg t2] at hva
 by_cases t3 : v.t = 3
 ·have e3 : (v.t == 3) = true := by rw [beq_iff_eq]; exact t3
  rw [if_pos t3] at hva
  have hen : M ++ kindI v.t ++ txtI v.s = M ++ valI v := by rw [valI, if_neg t1, if_neg t2, if_pos t3, List.append_assoc]
  have htx : (txtI v.s).length = (uintL v.s.size).length + v.s.size := by rw [txtI, List.length_append, strI_length]
  refine gom ?_
  refine WL.oo (OW.callK rfl (text_fn G' wb A3 (M ++ kindI v.t) c3 x3 h3 v.s (by omega)) rfl fun v' G' H' h hg => ?_)
  obtain ⟨G3, rfl⟩ : ∃ G3, G3 = G' := ⟨_, rfl⟩
  obtain ⟨A4, c4, x4, he, hg4, h4, rfl⟩ := h
  cases he
  rw [hen] at h4 ⊢
  refine gom ?_
  refine WK.pick [wrB wb A4 (M ++ valI v).length c4, x4] ?_
  exact WK.again ⟨k + 1, A4, c4, x4, _, (M ++ valI v).length⟩ (by dsimp only; omega) ⟨by dsimp only; omega, Gh.le_trans hg2 (Gh.le_trans hg3 hg4), by dsimp only; rw [hnext]; exact h4, by dsimp only; rw [hnext]⟩ (by exact ⟨rfl, rfl, rfl, rfl, trivial⟩) rfl (List.Sublist.refl _)
 have e3 : (v.t == 3) = false := by rw [beq_eq_false_iff_ne]; exact t3
 have hen : M ++ kindI v.t = M ++ valI v := by rw [valI, if_neg t1, if_neg t2, if_neg t3, List.append_nil]
 rw [hen] at h3 ⊢
 refine gom ?_
 refine WK.pick [wrB wb A3 (M ++ valI v).length c3, x3] ?_
 exact WK.again ⟨k + 1, A3, c3, x3, G', (M ++ valI v).length⟩ (by dsimp only; omega) ⟨by dsimp only; omega, Gh.le_trans hg2 hg3, by dsimp only; rw [hnext]; exact h3, by dsimp only; rw [hnext]⟩ (by exact ⟨rfl, rfl, rfl, rfl, trivial⟩) rfl (List.Sublist.refl _)
end
section
open Go.MapKept
attribute [local irreducible] Tryz.prog bytesR
theorem kinds_len : ∀ ps : List Int, (ps.flatMap kindI).length = ps.length
 | [] => rfl
 | p :: ps => by rw [List.flatMap_cons, List.length_append, kinds_len ps]; show 1 + _ = _; rw [List.length_cons]; omega
theorem headI_len (s : ByteArray) (ps : List Int) (r : Int) : (headI s ps r).length = (txtI s).length + (uI ps.length).length + ps.length + 1 := by
 simp only [headI, List.length_append, kinds_len]; rfl
set_option maxRecDepth 20000 in
set_option maxHeartbeats 2000000 in
theorem whead_fn (G : Gh) (wb : Nat) (A : Option Addr) (l : List Int) (cap : Nat) (x : Own) (hx : BVec A l cap x) (s : ByteArray) (VA : Option Addr) (vs : List Int) (vc : Nat) (r : Int) (hV : Sl (Kd.int .i64) G VA vs) (hl : l.length + (headI s vs r).length ≤ 80000000000000) :
  Fn Tryz.prog 62 #[.pointer (some ⟨wb, 0, none⟩), .string s, .slice VA vs.length vc, .int .i64 r] G [wrB wb A l.length cap, x] (WrP wb l (headI s vs r) G) := by
 have hhl := headI_len s vs r
 have htx : (txtI s).length = (uintL s.size).length + s.size := by rw [txtI, List.length_append, strI_length]
 refine Fn.enter Tryz.func62 rfl rfl fun w0 => ?_
 refine gom ?_
 refine WL.oo (OW.callK rfl (text_fn G wb A l cap x hx s (by omega)) rfl fun v' G' H' h hg => ?_)
 obtain ⟨A0, c0, x0, he, hg0, h0, rfl⟩ := h
 cases he
 obtain ⟨G1, rfl⟩ : ∃ G1, G1 = G' := ⟨_, rfl⟩
 have hb0 : (l ++ txtI s).length = l.length + (txtI s).length := List.length_append
 refine gom ?_
 refine WL.oo (OW.callK rfl (uint_fn G1 wb A0 (l ++ txtI s) c0 x0 h0 (vs.length : Int) (by omega)) rfl fun v' G' H' h hg => ?_)
 obtain ⟨A1, c1, x1, he, hg1, h1, rfl⟩ := h
 cases he
 refine gom ?_
 generalize hB : l ++ txtI s ++ uI vs.length = N at *
 have hbN : N.length = l.length + (txtI s).length + (uI vs.length).length := by rw [← hB, List.length_append, List.length_append]
 have h00 : N ++ (vs.take 0).flatMap kindI = N := by simp
 refine WC.loop (X := WrS) (fun s => [(0, .pointer (some ⟨wb, 0, none⟩)), (3, .int .i64 r), (17, .slice VA vs.length vc), (18, .int .i64 vs.length), (19, .int .i64 s.i)]) (fun s => s.G) (fun s => [wrB wb s.A s.n s.cap, s.x]) (fun s => vs.length - s.i) (fun s => s.i ≤ vs.length ∧ G.le s.G ∧ BVec s.A (N ++ (vs.take s.i).flatMap kindI) s.cap s.x ∧ s.n = (N ++ (vs.take s.i).flatMap kindI).length)
  ⟨0, A1, c1, x1, G', N.length⟩ ⟨Nat.zero_le _, Gh.le_trans hg0 hg1, by rw [h00]; exact h1, by dsimp only; rw [h00]⟩ (by exact ⟨rfl, rfl, rfl, rfl, rfl, trivial⟩) rfl (List.Sublist.refl _) (fun s hs => ?_)
 obtain ⟨k, B, c, o, G2, n⟩ := s
 obtain ⟨hk, hg2, hv, hn⟩ := hs
 dsimp only at hk hg2 hv hn
 have x2 := wrapS k (by omega)
 by_cases hlt : k < vs.length
 rotate_left
 ·have e2 : decide ((k : Int) < (vs.length : Int)) = false := decide_eq_false (by omega)
  rw [List.take_of_length_le (by omega)] at hv hn
  have hbk : (N ++ vs.flatMap kindI).length = N.length + vs.length := by rw [List.length_append, kinds_len]
  subst hn
  refine gom ?_
  refine WL.oo (OW.callK rfl (kind_fn G2 wb B _ c o hv r (by omega)) rfl fun v' G' H' h hg => ?_)
  obtain ⟨A3, c3, x3, he, hg3, h3, rfl⟩ := h
  cases he
  have ht : N ++ vs.flatMap kindI ++ kindI r = l ++ headI s vs r := by rw [headI, ← hB]; simp only [List.append_assoc]
  rw [ht] at h3 ⊢
  refine gom ?_
  refine WK.un ?_
  exact QF.p0 (.inr rfl) rfl  (⟨A3, c3, x3, rfl, Gh.le_trans hg2 hg3, h3, rfl⟩)
 have e2 : decide ((k : Int) < (vs.length : Int)) = true := decide_eq_true (by omega)
 obtain ⟨v, hvk⟩ : ∃ v, vs[k]? = some v := ⟨_, List.getElem?_eq_getElem (by omega)⟩
 have hV2 := hV.mono hg2
 obtain ⟨ib, io, ics, rfl, hik, hic⟩ := hV2 k v hvk
 obtain rfl : ics = [.int .i64 v] := hik
 have x0 : (0 : Int) ≤ (k : Int) := by omega
 have x1' : (k : Int) < (vs.length : Int) := by omega
 have hfs := flat_snoc (f := kindI) hvk
 have hfa := flat_take (f := kindI) (l := vs) k
 have hkk := kinds_len vs
 have hbk : (N ++ (vs.take k).flatMap kindI).length = N.length + ((vs.take k).flatMap kindI).length := List.length_append
 generalize hM : N ++ (vs.take k).flatMap kindI = M at *
 have hnext : N ++ (vs.take (k + 1)).flatMap kindI = M ++ kindI v := by rw [hfs, ← List.append_assoc, hM]
 subst hn
 refine gom ?_
 refine WL.oo (OW.callK rfl (kind_fn G2 wb B M c o hv v (by omega)) rfl fun v' G' H' h hg => ?_)
 obtain ⟨A3, c3, x3, he, hg3, h3, rfl⟩ := h
 cases he
 refine gom ?_
 refine WK.pick [wrB wb A3 (M ++ kindI v).length c3, x3] ?_
 exact WK.again ⟨k + 1, A3, c3, x3, G', (M ++ kindI v).length⟩ (by dsimp only; omega) ⟨by dsimp only; omega, Gh.le_trans hg2 hg3, by dsimp only; rw [hnext]; exact h3, by dsimp only; rw [hnext]⟩ (by exact ⟨rfl, rfl, rfl, rfl, rfl, trivial⟩) rfl (List.Sublist.refl _)
set_option maxRecDepth 20000 in
set_option maxHeartbeats 2000000 in
theorem wprocs_fn (G : Gh) (wb : Nat) (A : Option Addr) (l : List Int) (cap : Nat) (x : Own) (hx : BVec A l cap x) (VA : Option Addr) (vs : List Pr) (vc : Nat) (hV : Sl Kd.prc G VA vs) (hvl : vs.length ≤ 1000000000) (hcl : ∀ p ∈ vs, p.code.length ≤ 9000000000000) (hl : l.length + (procsI vs).length ≤ 80000000000000) :
  Fn Tryz.prog 63 #[.pointer (some ⟨wb, 0, none⟩), .slice VA vs.length vc] G [wrB wb A l.length cap, x] (WrP wb l (procsI vs) G) := by
 have hvl' : (procsI vs).length = (uI vs.length).length + (vs.flatMap procI).length := by rw [procsI, List.length_append]
 refine Fn.enter Tryz.func63 rfl rfl fun w0 => ?_
 refine gom ?_
 refine WL.oo (OW.callK rfl (uint_fn G wb A l cap x hx (vs.length : Int) (by omega)) rfl fun v' G' H' h hg => ?_)
 obtain ⟨A1, c1, x1, he, hg1, h1, rfl⟩ := h
 cases he
 refine gom ?_
 generalize hB : l ++ uI vs.length = N at *
 have hbN : N.length = l.length + (uI vs.length).length := by rw [← hB, List.length_append]
 have h00 : N ++ (vs.take 0).flatMap procI = N := by simp
 refine WC.loop (X := WrS) (fun s => [(0, .pointer (some ⟨wb, 0, none⟩)), (12, .slice VA vs.length vc), (13, .int .i64 vs.length), (14, .int .i64 s.i)]) (fun s => s.G) (fun s => [wrB wb s.A s.n s.cap, s.x]) (fun s => vs.length - s.i) (fun s => s.i ≤ vs.length ∧ G.le s.G ∧ BVec s.A (N ++ (vs.take s.i).flatMap procI) s.cap s.x ∧ s.n = (N ++ (vs.take s.i).flatMap procI).length)
  ⟨0, A1, c1, x1, G', N.length⟩ ⟨Nat.zero_le _, hg1, by rw [h00]; exact h1, by dsimp only; rw [h00]⟩ (by exact ⟨rfl, rfl, rfl, rfl, trivial⟩) rfl (List.Sublist.refl _) (fun s hs => ?_)
 obtain ⟨k, B, c, o, G2, n⟩ := s
 obtain ⟨hk, hg2, hv, hn⟩ := hs
 dsimp only at hk hg2 hv hn
 have x2 := wrapS k (by omega)
 by_cases hlt : k < vs.length
 rotate_left
 ·have e2 : decide ((k : Int) < (vs.length : Int)) = false := decide_eq_false (by omega)
  have ht : N ++ vs.flatMap procI = l ++ procsI vs := by rw [procsI, ← hB, List.append_assoc]
  rw [List.take_of_length_le (by omega), ht] at hv hn
  subst hn
  refine gom ?_
  refine WK.un ?_
  exact QF.p0 (.inr rfl) rfl  (⟨B, c, o, rfl, hg2, hv, rfl⟩)
 have e2 : decide ((k : Int) < (vs.length : Int)) = true := decide_eq_true (by omega)
 obtain ⟨v, hvk⟩ : ∃ v, vs[k]? = some v := ⟨_, List.getElem?_eq_getElem (by omega)⟩
 have hcv := hcl v (List.mem_of_getElem? hvk)
 have hV2 := hV.mono hg2
 obtain ⟨ib, io, ics, rfl, hik, hic⟩ := hV2 k v hvk
 obtain ⟨QA, qc, CA, cc, rfl, hQ, hC⟩ := hik
 have x0 : (0 : Int) ≤ (k : Int) := by omega
 have x1' : (k : Int) < (vs.length : Int) := by omega
 have hfs := flat_snoc (f := procI) hvk
 have hfa := flat_at (f := procI) hvk
 have hbk : (N ++ (vs.take k).flatMap procI).length = N.length + ((vs.take k).flatMap procI).length := List.length_append
 have hpi : (procI v).length = (headI v.name v.params v.result).length + 1 + (uI v.locals).length + (bytesR v.code).1.length := by simp only [procI, List.length_append]; rfl
 generalize hM : N ++ (vs.take k).flatMap procI = M at *
 have hnext : N ++ (vs.take (k + 1)).flatMap procI = M ++ procI v := by rw [hfs, ← List.append_assoc, hM]
 subst hn
 refine gom ?_
 refine WL.oo (OW.alloc rfl fun b5 => ?_)
 refine gom ?_
 refine WL.oo (OW.callK rfl (whead_fn G2 wb B M c o hv v.name QA v.params qc v.result hQ (by omega)) rfl fun v' G' H' h hg => ?_)
 obtain ⟨A3, c3, x3, he, hg3, h3, rfl⟩ := h
 cases he
 obtain ⟨G3, rfl⟩ : ∃ G3, G3 = G' := ⟨_, rfl⟩
 have hb3 : (M ++ headI v.name v.params v.result).length = M.length + (headI v.name v.params v.result).length := List.length_append
 refine gom ?_
 refine WQ.one kr kr (OW.callK rfl (putBool_fn G3 A3 _ c3 x3 h3 v.exp (by omega)) rfl fun v' G' H' h hg => ?_)
 obtain ⟨A4, c4, x4, he, rfl, h4, rfl⟩ := h
 cases he
 have hb4 : (M ++ headI v.name v.params v.result ++ [boolI v.exp]).length = M.length + (headI v.name v.params v.result).length + 1 := by rw [List.length_append, hb3]; rfl
 refine gom ?_
 refine WQ.one kr kr (OW.store rfl rfl atA rfl (by rfl) (by rfl) kr (by rfl) ?_ rfl)
 refine gom ?_
 refine WL.oo (OW.callK rfl (uint_fn G3 wb A4 _ c4 x4 h4 v.locals (by omega)) rfl fun v' G' H' h hg => ?_)
 obtain ⟨A5, c5, x5, he, hg5, h5, rfl⟩ := h
 cases he
 have hC5 := hC.mono (Gh.le_trans hg3 hg5)
 have hb5 : (M ++ headI v.name v.params v.result ++ [boolI v.exp] ++ uI v.locals).length = M.length + (headI v.name v.params v.result).length + 1 + (uI v.locals).length := by rw [List.length_append, hb4]
 refine gom ?_
 refine WL.oo (OW.callK rfl (Bytes_fn _ CA v.code cc hC5 hcv) rfl fun v' G' H' h hg => ?_)
 obtain ⟨A6, c6, x6, he, rfl, h6, rfl⟩ := h
 cases he
 refine gom ?_
 refine WL.oo (OW.append rfl rfl kr kr h5 atA (h6.rds atA) (u8s_length _) (u8s_one _) (by omega) (by omega) rfl fun A7 c7 x7 hv7 => ?_)
 have h7 := BVec.more hv7
 have hen : M ++ headI v.name v.params v.result ++ [boolI v.exp] ++ uI v.locals ++ (bytesR v.code).1 = M ++ procI v := by simp only [procI, List.append_assoc]
 have hl7 : (M ++ headI v.name v.params v.result ++ [boolI v.exp] ++ uI v.locals).length + (bytesR v.code).1.length = (M ++ procI v).length := by rw [← hen, List.length_append (bs := (bytesR v.code).1)]
 rw [hen] at h7
 rw [hl7]
 refine gom ?_
 refine WK.pick [wrB wb A7 (M ++ procI v).length c7, x7] ?_
 exact WK.again ⟨k + 1, A7, c7, x7, _, (M ++ procI v).length⟩ (by dsimp only; omega) ⟨by dsimp only; omega, Gh.le_trans hg2 (Gh.le_trans hg3 hg5), by dsimp only; rw [hnext]; exact h7, by dsimp only; rw [hnext]⟩ (by exact ⟨rfl, rfl, rfl, rfl, trivial⟩) rfl (List.Sublist.refl _)
end
section
open Go.MapKept
section
variable {P : Program} {Q : Exit → Act → World → Prop} {cx : Cx} {L : List (Nat × Value)} {G : Gh} {H : List Own} {K : List (Nat × Value) → Gh → List Own → Prop}
 {d : Option Tmp} {ty : TypeId} {pos : String} {af : Array Edge} {gu : Option (Nat × Bool)}
theorem OW.buildSliceN {t e n by_ len : Nat} {z : Value} {ps : Array (Nat × Operand)} {vs : List (Nat × Value)} {cells : List Value} (hp : evP L ps = some vs) [hu : Und P t (.slice e)] [hi : Inf P e n by_ z] (hlim : leLim (len * n) = true) (hz : z.cells.size = n)
  (hf : fillS (fun i => some (i * n, n)) (repS len z.cells.toList) vs = some cells) (hd : dOk d cx.N = true)
  (k : ∀ b, cx.w0.heap.size ≤ b → K (putL d (.slice (some ⟨b, 0, none⟩) len len) L) G (.blk b (.cells cells.toArray e (0, 0)) :: H)) : OW P Q ⟨d, .buildSlice t len ps, ty, pos, af, gu⟩ cx L G H K := by
 refine OW.gives hd fun a w st => ⟨.slice (some ⟨w.heap.size, 0, none⟩) len len, w.alloc (.cells cells.toArray e), G, .blk w.heap.size (.cells cells.toArray e (0, 0)) :: H, .inl ?_, st.sat.alloc _, Stp.alloc _, k _ st.stp.size⟩
 have hl := Nat.le_of_ble_eq_true hlim
 have he := Sk.evP st.slot hp
 have hl' : ¬ (16777216 < len * n) := by omega
 have hf1 := fill_of_fillS _ _ _ _ hf
 rw [← base_repS z.cells n len hz] at hf1
 have hrun : ∀ PS : Array (Nat × Value), PS.toList = vs → (Instr.buildSlice t len PS).run P w = .ok (.slice (some ⟨w.heap.size, 0, none⟩) len len) (w.alloc (.cells cells.toArray e)) := by
  intro PS he
  by_cases h0 : len * n = 0
  ·rw [h0] at hf1
   simp only [Array.range_zero', List.map_toArray, List.map_nil] at hf1
   simp [Instr.buildSlice, run_underlying hu.h, hi.sizeOf, h0, he, newRow, Array.range_zero', hf1]
  ·simp [Instr.buildSlice, run_underlying hu.h, hi.sizeOf, hi.zeroValue, h0, hl', he, hf1, newRow]
 simp only [execOp, Sem.run_bind, hrun _ he, Result.andThen_ok]
 rfl
theorem OW.convMark {t e b n cap j : Nat} {x : Operand} {c : Array Value} (hx : ev L x = some (.slice (some ⟨b, 0, none⟩) n cap)) [hu : Und P t (.slice e)] [he : Und P e (.int .u8)] (hj : At H j (.blk b (.cells c e (0, 0)))) (hb : cx.w0.heap.size ≤ b) (hd : dOk d cx.N = true)
  (k : G.le (G.add b c) → K (putL d (.slice (some ⟨b, 0, none⟩) n cap) L) (G.add b c) (H.eraseIdx j)) : OW P Q ⟨d, .convert t t x, ty, pos, af, gu⟩ cx L G H K := by
 intro next hn a w st
 have hh : w.heap[b]? = some (.cells c e (0, 0)) := st.sat.hold _ (List.mem_of_getElem? hj.get)
 have hbl : b < w.heap.size := (Array.getElem?_eq_some_iff.1 hh).1
 have hsh : w.shape? b = some (e, c.size) := by unfold World.shape?; rw [hh]
 have hrun : (execOp a.eval ⟨d, .convert t t x, ty, pos, af, gu⟩).run P w = .ok (.value (.slice (some ⟨b, 0, none⟩) n cap)) (w.freeze ⟨b, c.size, none⟩ 1) := by
  simp [execOp, st.eval hx, convert, run_underlying hu.h, run_underlying he.h, markStringish, hsh]
 have hheap : ∀ b', b' ≠ b → (w.freeze ⟨b, c.size, none⟩ 1).heap[b']? = w.heap[b']? := fun b' hne => by
  unfold World.freeze
  rw [if_neg (by decide)]
  show (w.heap.modify b _)[b']? = _
  rw [Array.getElem?_modify, if_neg (fun e => hne e.symm)]
 have hat : ∃ fr, (w.freeze ⟨b, c.size, none⟩ 1).heap[b]? = some (.cells c e fr) := by
  unfold World.freeze
  rw [if_neg (by decide)]
  refine ⟨(c.size, c.size + 1), ?_⟩
  show (w.heap.modify b _)[b]? = _
  rw [Array.getElem?_modify, if_pos rfl, hh]
  rfl
 have hcell : ∀ b' o, (w.freeze ⟨b, c.size, none⟩ 1).cell? ⟨b', o, none⟩ = w.cell? ⟨b', o, none⟩ := fun b' o => by
  by_cases hbb : b' = b
  ·subst hbb
   obtain ⟨fr, h⟩ := hat
   simp only [World.cell?, h, hh]
  ·simp only [World.cell?, hheap b' hbb]
 have hsz : (w.freeze ⟨b, c.size, none⟩ 1).heap.size = w.heap.size := by
  unfold World.freeze
  rw [if_neg (by decide)]
  exact Array.size_modify
 have hfz := st.sat.frozen hj
 have hap := List.pairwise_cons.1 (st.sat.perm (perm_at hj)).apart
 have hsat : Sat (G.add b c) (H.eraseIdx j) (w.freeze ⟨b, c.size, none⟩ 1) := by
  refine ⟨fun b' o v e => by rw [hcell]; exact hfz.2.agr b' o v e, fun y hy => ?_, hfz.2.apart, hfz.2.ghost⟩
  have hy0 := hfz.2.hold y hy
  have hne := hap.1 y hy
  cases y with
  | blk b2 o2 =>
   have : b2 ≠ b := fun e => hne b 0 rfl e.symm
   show _ = _
   rw [hheap b2 this]; exact hy0
  | spare b2 lo hi =>
   intro hlt
   obtain ⟨c2, T2, h1, h2⟩ := hy0 hlt
   have : b2 ≠ b := fun e => hne b lo rfl ⟨e.symm, Nat.le_refl _, hlt⟩
   exact ⟨c2, T2, by rw [hheap b2 this]; exact h1, h2⟩
 have hstp : Stp cx.S cx.G0 cx.w0 (G.add b c) (H.eraseIdx j) (w.freeze ⟨b, c.size, none⟩ 1) := by
  refine ⟨by rw [hsz]; exact st.stp.size, fun b' hb' => ?_, Gh.le_trans st.stp.gle hfz.1, fun b' o v e => ?_, fun y hy => st.stp.own y (List.mem_of_mem_eraseIdx hy), ?_⟩
  ·have h := st.stp.keep b' hb'
   have hne : b' ≠ b := by omega
   unfold KeepB at h ⊢
   rw [hheap b' hne]; exact h
  ·unfold Gh.add at e
   split at e
   ·rename_i hbb; subst hbb; exact .inr (.inr hb)
   ·exact st.stp.gnew b' o v e
  ·have h := st.stp.weq
   unfold World.freeze
   rw [if_neg (by decide)]
   exact h
 unfold Oper.wp
 rw [hrun]
 exact hn _ _ _ (k hfz.1) _ _ (st.put d _ hd hsat hstp)
end
attribute [local irreducible] Tryz.prog
theorem freshF_fn (G : Gh) (A : Option Addr) (l : List Int) (cap : Nat) (hA : Sl (Kd.int .u8) G A l) (hl : l.length ≤ 100000000000000) (k : Nat) (hk : k ≤ 1000) :
  Fn Tryz.prog 151 #[.slice A l.length cap, .int .i64 k] G [] fun e G' H' => ∃ A' cap' x', e = .returned (.slice A' l.length cap') ∧ G = G' ∧ BVec A' l cap' x' ∧ H' = [x'] := by
 refine Fn.enter Tryz.func151 rfl rfl fun w0 => ?_
 have x2 : IntKind.i64.wrap ((l.length : Int) + k) = ((l.length + k : Nat) : Int) := by rw [wrapI (by omega) (by omega)]; rfl
 have hrd : ∀ H : List Own, Rds G H A (u8s l) := fun H => by
  obtain ⟨cs, h1, h2⟩ := hA.kfl (H := H) (by decide)
  have : cs = u8s l := by
   apply List.ext_getElem?
   intro i
   cases hi : l[i]? with
   | none =>
    have : cs.length ≤ i := by have := h2.len; rw [List.getElem?_eq_none_iff] at hi; simp only [Kd.int] at this; omega
    rw [List.getElem?_eq_none this, u8s, List.getElem?_map, hi]; rfl
   | some z =>
    have h3 := h2.at_ i z hi
    have h4 : (cs.drop (i * 1)).take 1 = [.int .u8 z] := h3
    rw [u8s, List.getElem?_map, hi]
    have h5 : ((cs.drop (i * 1)).take 1)[0]? = some (.int .u8 z) := by rw [h4]; rfl
    rw [List.getElem?_take, if_pos (by decide), List.getElem?_drop, Nat.mul_one, Nat.add_zero] at h5
    exact h5
  rw [← this]; exact h1
 refine gom ?_
 refine WL.oo (OW.makeSlice2 (n := 1) (z := .int .u8 0) (m := (l.length : Int)) (c := ((l.length + k : Nat) : Int)) rfl rfl rfl (by omega) (by omega) (by omega) (by omega) rfl fun tb o1 ho1 => ?_)
 rw [Int.toNat_natCast, Int.toNat_natCast] at ho1 ⊢
 refine gom ?_
 refine WL.oo (OW.copy rfl rfl kr ho1 .here (hrd _) (u8s_length l) (u8s_one l) (Nat.le_refl _) rfl fun o2 ho2 => ?_)
 have h2 : BVec (some ⟨tb, 0, none⟩) l (l.length + k) o2 := by
  unfold BVec
  rw [List.drop_eq_nil_of_le (by rw [repS_length]; exact Nat.le_refl _), List.append_nil] at ho2
  exact ho2
 refine gom ?_
 refine WC.rt ?_
 exact QF.p1 (.inl rfl) rfl (.tmp rfl) (⟨_, _, o2, rfl, rfl, h2, rfl⟩)
theorem putTextF_fn (G : Gh) (A : Option Addr) (l : List Int) (cap : Nat) (hA : Sl (Kd.int .u8) G A l) (SA : Option Addr) (ss : List ByteArray) (sc : Nat) (hS : Sl Kd.str G SA ss) (hsl : ss.length ≤ 1000) (hl : l.length + (strsI ss).length ≤ 100000000000000) :
  Fn Tryz.prog 104 #[.slice A l.length cap, .slice SA ss.length sc] G [] fun e G' H' => ∃ A' cap' x', e = .returned (.slice A' (l ++ strsI ss).length cap') ∧ G = G' ∧ BVec A' (l ++ strsI ss) cap' x' ∧ H' = [x'] := by
 refine Fn.enter Tryz.func104 rfl rfl fun w0 => ?_
 refine gom ?_
 refine WL.oo (OW.callK rfl (freshF_fn G A l cap hA (by omega) 16 (by decide)) rfl fun v' G' H' h hg => ?_)
 obtain ⟨A1, c1, x1, he, rfl, h1, rfl⟩ := h
 cases he
 refine gom ?_
 refine WL.oo (OW.callK rfl (texts_fn G A1 l c1 x1 h1 SA ss sc hS hsl hl) rfl fun v' G' H' h hg => ?_)
 obtain ⟨A2, c2, x2, he, rfl, h2, rfl⟩ := h
 cases he
 refine gom ?_
 refine WC.rt ?_
 exact QF.p1 (.inl rfl) rfl (.tmp rfl) (⟨_, _, x2, rfl, rfl, h2, rfl⟩)
theorem textF_fn (G : Gh) (wb : Nat) (A : Option Addr) (l : List Int) (cap : Nat) (hA : Sl (Kd.int .u8) G A l) (s : ByteArray) (hl : l.length + s.size ≤ 90000000000000) :
  Fn Tryz.prog 59 #[.pointer (some ⟨wb, 0, none⟩), .string s] G [wrB wb A l.length cap] (WrP wb l (txtI s) G) := by
 refine Fn.enter Tryz.func59 rfl rfl fun w0 => ?_
 have hst : strsI [s] = txtI s := by simp [strsI, txtI]
 have h10 := uintL_len10 (n := s.size) (by omega)
 have hlt : (txtI s).length ≤ s.size + 10 := by rw [txtI, List.length_append, strI_length]; omega
 refine gom ?_
 refine WL.op kr (OW.buildSlice rfl kr kr (by rfl) rfl fun b6 => ?_)
 refine WL.freezeK (k := Kd.str) (A := some ⟨_, 0, none⟩) (T := 9) (cap := 1) (l := [s]) (by decide) ⟨[.string s], ⟨rfl, .inr ⟨_, _, rfl, rfl, Nat.le_refl _, rfl, rfl⟩⟩, KFl.one (k := Kd.str) rfl⟩ .here fun G1 hg1 hS => ?_
 have hA1 := hA.mono hg1
 refine gom ?_
 refine WL.oo (OW.callK rfl (putTextF_fn G1 A l cap hA1 _ [s] 1 hS (by simp) (by rw [hst]; omega)) rfl fun v' G' H' h hg => ?_)
 obtain ⟨A1, c1, x1, he, rfl, h1, rfl⟩ := h
 cases he
 rw [hst] at h1 ⊢
 refine gom ?_
 refine WK.un ?_
 exact QF.p0 (.inr rfl) rfl  (⟨A1, c1, x1, rfl, hg1, h1, rfl⟩)
end
section
open Go.MapKept
attribute [local irreducible] Tryz.prog objAns bytesR
def ndI (n : Nd) : List Int := txtI n.path ++ headI n.name n.params n.result
def magI : List Int := [116, 79, 49]
def objI (o : Ob) : List Int := magI ++ txtI o.path ++ valsI o.consts ++ uI o.needs.length ++ o.needs.flatMap ndI ++ procsI o.procs
noncomputable def bytesO (o : Ob) : List Int := if (objAns o).2.2 = 0 then objI o else []
set_option maxRecDepth 20000 in
set_option maxHeartbeats 2000000 in
theorem objBytes_fn (G : Gh) (hE : Env G) (o : Ob) (CA NA PA : Option Addr) (cc nc pc : Nat) (hO : ORep G o CA NA PA) (hL : OLim o) (hi : ∀ v ∈ o.consts, -9223372036854775808 ≤ v.i ∧ v.i ≤ 9223372036854775807) (hcl : o.consts.length ≤ 1000000000) (hnl : o.needs.length ≤ 1000000000) (hpl : o.procs.length ≤ 1000000000)
  (hpc : ∀ p ∈ o.procs, p.code.length ≤ 9000000000000) (hl : (objI o).length ≤ 70000000000000) :
  Fn Tryz.prog 27 #[.agg (obC o CA NA PA cc nc pc)] G [] fun e G' H' => ∃ A' cap' x', e = .returned (.tuple #[.slice A' (bytesO o).length cap', .int .i64 (objAns o).2.2]) ∧ G.le G' ∧ BVec A' (bytesO o) cap' x' ∧ H' = [x'] := by
 refine Fn.enter Tryz.func27 rfl rfl fun w0 => ?_
 refine WC.seq ?_
 refine WC.region ?_
 refine WL.oo (OW.box rfl rfl fun b1 => ?_)
 refine gom ?_
 refine WL.oo (OW.callK rfl (Object_fn G hE o CA NA PA cc nc pc hO hL) rfl fun v' G' H' h hg => ?_)
 obtain ⟨he, hg1, rfl⟩ := h
 cases he
 obtain ⟨G1, rfl⟩ : ∃ G1, G1 = G' := ⟨_, rfl⟩
 refine gom ?_
 refine WL.oo (OW.alloc rfl fun b4 => ?_)
 refine gom ?_
 cases herr : decide ((objAns o).2.2 = 0) with
 | false =>
  have hne := of_decide_eq_false herr
  have e1 : ((objAns o).2.2 != 0) = true := by rw [bne_iff_ne]; exact hne
  have e0 : ((objAns o).2.2 == 0) = false := by rw [beq_eq_false_iff_ne]; exact hne
  have hb : bytesO o = [] := by rw [bytesO, if_neg hne]
  rw [hb]
  first | rw [e1] | rw [e0]
  refine gom ?_
  refine WC.nothing ?_
  refine WC.rt ?_
  exact QF.p2 (.inl rfl) rfl (.tmp rfl) (.tmp rfl) (⟨none, 0, _, rfl, hg1, BVec.nil, rfl⟩)
 | true =>
 have heq := of_decide_eq_true herr
 have e1 : ((objAns o).2.2 != 0) = false := by rw [heq]; rfl
 have hb : bytesO o = objI o := by rw [bytesO, if_pos heq]
 rw [hb, heq]
 have hol : (objI o).length = 3 + (txtI o.path).length + (valsI o.consts).length + (uI o.needs.length).length + (o.needs.flatMap ndI).length + (procsI o.procs).length := by simp only [objI, List.length_append]; rfl
 have htx : (txtI o.path).length = (uintL o.path.size).length + o.path.size := by rw [txtI, List.length_append, strI_length]
 refine gom ?_
 refine WL.oo (OW.buildSliceN (cells := [.int .u8 116, .int .u8 79, .int .u8 49]) rfl kr kr (by rfl) rfl fun mb hmb => ?_)
 refine WL.oo (OW.convMark rfl .here hmb rfl fun hgm => ?_)
 have hA : Sl (Kd.int .u8) (G1.add mb #[.int .u8 116, .int .u8 79, .int .u8 49]) (some ⟨mb, 0, none⟩) magI :=
  KFl.sl (k := Kd.int .u8) (l := [116] ++ [79] ++ [49]) (by decide) (((KFl.one (cs := [.int .u8 116]) rfl).append (KFl.one (cs := [.int .u8 79]) rfl)).append (KFl.one (cs := [.int .u8 49]) rfl)) (.inr ⟨mb, rfl, fun i v e => by rw [Nat.zero_add, Gh.add_at]; simpa using e⟩)
 generalize hG2 : G1.add mb #[.int .u8 116, .int .u8 79, .int .u8 49] = G2 at hA hgm ⊢
 refine gom ?_
 refine WL.oo (OW.box rfl rfl fun b21 => ?_)
 refine gom ?_
 refine WQ.one kr kr (OW.callK rfl (textF_fn G2 b21 (some ⟨mb, 0, none⟩) magI 3 hA o.path (by rw [show magI.length = 3 from rfl]; omega)) rfl fun v' G' H' h hg => ?_)
 obtain ⟨A1, c1, x1, he, hg3, h1, rfl⟩ := h
 cases he
 obtain ⟨G3, rfl⟩ : ∃ G3, G3 = G' := ⟨_, rfl⟩
 have hg13 : G1.le G3 := Gh.le_trans hgm hg3
 have hl1 : (magI ++ txtI o.path).length = 3 + (txtI o.path).length := List.length_append
 have hO3 := hO.mono (Gh.le_trans hg1 hg13)
 refine gom ?_
 refine WQ.one kr kr (OW.callK rfl (wvalues_fn G3 b21 A1 _ c1 x1 h1 CA o.consts cc hO3.consts hi hcl (by omega)) rfl fun v' G' H' h hg => ?_)
 obtain ⟨A2, c2, x2, he, hg4, h2, rfl⟩ := h
 cases he
 obtain ⟨G4, rfl⟩ : ∃ G4, G4 = G' := ⟨_, rfl⟩
 have hl2 : (magI ++ txtI o.path ++ valsI o.consts).length = 3 + (txtI o.path).length + (valsI o.consts).length := by rw [List.length_append, hl1]
 refine gom ?_
 refine WQ.one kr kr (OW.callK rfl (uint_fn G4 b21 A2 _ c2 x2 h2 (o.needs.length : Int) (by omega)) rfl fun v' G' H' h hg => ?_)
 obtain ⟨A3, c3, x3, he, hg5, h3, rfl⟩ := h
 cases he
 obtain ⟨G5, rfl⟩ : ∃ G5, G5 = G' := ⟨_, rfl⟩
 have hl3 : (magI ++ txtI o.path ++ valsI o.consts ++ uI o.needs.length).length = 3 + (txtI o.path).length + (valsI o.consts).length + (uI o.needs.length).length := by rw [List.length_append, hl2]
 refine gom ?_
 generalize hB : magI ++ txtI o.path ++ valsI o.consts ++ uI o.needs.length = N at *
 have hg15 : G1.le G5 := Gh.le_trans hg13 (Gh.le_trans hg4 hg5)
 have h00 : N ++ (o.needs.take 0).flatMap ndI = N := by simp
 refine WC.pick [wrB b21 A3 N.length c3, x3, .blk b1 (.cells (obC o CA NA PA cc nc pc) 38 (0, 0))] ?_
 refine WC.loop (X := WrS) (fun s => [(1, .pointer (some ⟨b1, 0, none⟩)), (6, .pointer (some ⟨b21, 0, none⟩)), (42, .slice NA o.needs.length nc), (43, .int .i64 o.needs.length), (44, .int .i64 s.i)]) (fun s => s.G) (fun s => [wrB b21 s.A s.n s.cap, s.x, .blk b1 (.cells (obC o CA NA PA cc nc pc) 38 (0, 0))]) (fun s => o.needs.length - s.i) (fun s => s.i ≤ o.needs.length ∧ G1.le s.G ∧ BVec s.A (N ++ (o.needs.take s.i).flatMap ndI) s.cap s.x ∧ s.n = (N ++ (o.needs.take s.i).flatMap ndI).length)
  ⟨0, A3, c3, x3, G5, N.length⟩ ⟨Nat.zero_le _, hg15, by rw [h00]; exact h3, by dsimp only; rw [h00]⟩ (by exact ⟨rfl, rfl, rfl, rfl, rfl, trivial⟩) rfl (List.Sublist.refl _) (fun s hs => ?_)
 obtain ⟨k, B, c, x, G6, n⟩ := s
 obtain ⟨hk, hg6, hv, hn⟩ := hs
 dsimp only at hk hg6 hv hn
 have x2 := wrapS k (by omega)
 by_cases hlt : k < o.needs.length
 rotate_left
 ·have e2 : decide ((k : Int) < (o.needs.length : Int)) = false := decide_eq_false (by omega)
  have hbk : (N ++ o.needs.flatMap ndI).length = N.length + (o.needs.flatMap ndI).length := List.length_append
  rw [List.take_of_length_le (by omega)] at hv hn
  subst hn
  have hO6 := hO.mono (Gh.le_trans hg1 hg6)
  refine gom ?_
  refine WQ.one kr kr (OW.callK rfl (wprocs_fn G6 b21 B _ c x hv PA o.procs pc hO6.procs hpl hpc (by omega)) rfl fun v' G' H' h hg => ?_)
  obtain ⟨A7, c7, x7, he, hg7, h7, rfl⟩ := h
  cases he
  have ht : N ++ o.needs.flatMap ndI ++ procsI o.procs = objI o := by rw [objI, ← hB]
  rw [ht] at h7 ⊢
  refine gom ?_
  refine WC.rt ?_
  exact QF.p2 (.inl rfl) rfl (.tmp rfl) (.tmp rfl) (⟨A7, c7, x7, rfl, Gh.le_trans hg1 (Gh.le_trans hg6 hg7), h7, rfl⟩)
 have e2 : decide ((k : Int) < (o.needs.length : Int)) = true := decide_eq_true (by omega)
 obtain ⟨v, hvk⟩ : ∃ v, o.needs[k]? = some v := ⟨_, List.getElem?_eq_getElem (by omega)⟩
 have hV2 := (hO.mono (Gh.le_trans hg1 hg6)).needs
 obtain ⟨ib, io, ics, rfl, hik, hic⟩ := hV2 k v hvk
 obtain ⟨QA, qc, rfl, hQ⟩ := hik
 have x0 : (0 : Int) ≤ (k : Int) := by omega
 have x1' : (k : Int) < (o.needs.length : Int) := by omega
 have hfs := flat_snoc (f := ndI) hvk
 have hfa := flat_at (f := ndI) hvk
 have hbk : (N ++ (o.needs.take k).flatMap ndI).length = N.length + ((o.needs.take k).flatMap ndI).length := List.length_append
 have hpi : (ndI v).length = (txtI v.path).length + (headI v.name v.params v.result).length := List.length_append
 have htv : (txtI v.path).length = (uintL v.path.size).length + v.path.size := by rw [txtI, List.length_append, strI_length]
 generalize hM : N ++ (o.needs.take k).flatMap ndI = M at *
 have hnext : N ++ (o.needs.take (k + 1)).flatMap ndI = M ++ ndI v := by rw [hfs, ← List.append_assoc, hM]
 subst hn
 refine gom ?_
 refine WL.oo (OW.alloc rfl fun b8 => ?_)
 refine gom ?_
 refine WQ.one kr kr (OW.callK rfl (text_fn G6 b21 B M c x hv v.path (by omega)) rfl fun v' G' H' h hg => ?_)
 obtain ⟨A7, c7, x7, he, hg7, h7, rfl⟩ := h
 cases he
 obtain ⟨G7, rfl⟩ : ∃ G7, G7 = G' := ⟨_, rfl⟩
 have hl7 : (M ++ txtI v.path).length = M.length + (txtI v.path).length := List.length_append
 refine gom ?_
 refine WQ.one kr kr (OW.callK rfl (whead_fn G7 b21 A7 _ c7 x7 h7 v.name QA v.params qc v.result (hQ.mono hg7) (by omega)) rfl fun v' G' H' h hg => ?_)
 obtain ⟨A8, c8, x8, he, hg8, h8, rfl⟩ := h
 cases he
 have hen : M ++ txtI v.path ++ headI v.name v.params v.result = M ++ ndI v := by rw [ndI, List.append_assoc]
 rw [hen] at h8 ⊢
 refine gom ?_
 refine WK.pick [wrB b21 A8 (M ++ ndI v).length c8, x8, .blk b1 (.cells (obC o CA (some ⟨ib, io, none⟩) PA cc nc pc) 38 (0, 0))] ?_
 exact WK.again ⟨k + 1, A8, c8, x8, _, (M ++ ndI v).length⟩ (by dsimp only; omega) ⟨by dsimp only; omega, Gh.le_trans hg6 (Gh.le_trans hg7 hg8), by dsimp only; rw [hnext]; exact h8, by dsimp only; rw [hnext]⟩ (by exact ⟨rfl, rfl, rfl, rfl, rfl, trivial⟩) rfl (List.Sublist.refl _)
end
section
def l2 (t : Int) : List SS := [⟨true, false, [], []⟩, ⟨true, false, [], [t]⟩]
section
variable {w : Wd} {p : Pr} {i0 : Int × Int} {t : Int} (hc : p.code = [i0, (10, 0)]) (hp : p.params = []) (hl : p.locals = 0) (hn : nextR i0 0 = [1]) (hw : behR w i0 ⟨true, false, [], []⟩ = ⟨true, false, [], [t]⟩)
include hc hp hl hn hw
theorem two_closed : Closed w p (l2 t) where
 len := by rw [hc]; rfl
 wf s hs := by
  simp only [l2, List.mem_cons, List.not_mem_nil, or_false] at hs
  rcases hs with rfl | rfl <;> exact ⟨fun h => (by cases h), fun _ => by rw [hl]; rfl, fun h => (by cases h), by simp⟩
 zero s hs := by
  obtain rfl : _ = s := Option.some.inj hs
  have : beginS p = ⟨true, false, [], []⟩ := by unfold beginS; rw [hp, hl]; rfl
  rw [this]
  exact SS.le_refl _
 step k i s hi hs hr x hx j s' hj ht := by
  rw [hc] at hi
  match k, hi, hs with
  | 0, hi, hs =>
   obtain rfl : _ = i := Option.some.inj hi
   obtain rfl : _ = s := Option.some.inj hs
   rw [hn] at hx
   have hx1 : x = 1 := by simpa using hx
   obtain rfl : j = 1 := by omega
   obtain rfl : _ = s' := Option.some.inj ht
   rw [hw]; exact SS.le_refl _
  | 1, hi, hs =>
   obtain rfl : _ = i := Option.some.inj hi
   exact absurd hx (by simp [nextR])
  | k + 2, hi, hs => cases hs
theorem two_least : Least w p (l2 t) where
 closed := two_closed hc hp hl hn hw
 low m hm := by
  have hcl := two_closed hc hp hl hn hw
  have hlen : m.length = 2 := by rw [hm.len, hc]; rfl
  obtain ⟨m0, h0⟩ : ∃ s, m[0]? = some s := ⟨_, List.getElem?_eq_getElem (by omega)⟩
  obtain ⟨m1, h1⟩ : ∃ s, m[1]? = some s := ⟨_, List.getElem?_eq_getElem (by omega)⟩
  have hbe : beginS p = ⟨true, false, [], []⟩ := by unfold beginS; rw [hp, hl]; rfl
  have hb : (beginS p).le m0 := hm.zero m0 h0
  rw [hbe] at hb
  have hr : m0.reached = true := (hb rfl).1
  have h2 := hm.step 0 i0 m0 (by rw [hc]; rfl) h0 hr 1 (by rw [hn]; simp) 1 m1 rfl h1
  have h3 : (behR w i0 ⟨true, false, [], []⟩).le (behR w i0 m0) := behR_mono (hcl.wf _ (List.mem_cons_self ..)) (hm.wf _ (List.mem_of_getElem? h0)) hb
  have h4 := SS.le_trans h3 h2
  intro k s s' hs ht
  match k, hs, ht with
  | 0, hs, ht =>
   obtain rfl : _ = s := Option.some.inj hs
   rw [h0] at ht
   obtain rfl : _ = s' := Option.some.inj ht
   exact hb
  | 1, hs, ht =>
   obtain rfl : _ = s := Option.some.inj hs
   rw [h1] at ht
   obtain rfl : _ = s' := Option.some.inj ht
   rw [hw] at h4; exact h4
  | k + 2, hs, ht => cases hs
end
def p1 : Pr := ⟨⟨#[102]⟩, true, [], 0, 1, [(1, 0), (10, 0)]⟩
def o1 : Ob := ⟨⟨#[97]⟩, [⟨1, 7, false, ⟨#[]⟩⟩], [], [p1]⟩
def p2 : Pr := ⟨⟨#[109, 97, 105, 110]⟩, true, [], 0, 1, [(8, 0), (10, 0)]⟩
def n2 : Nd := ⟨⟨#[97]⟩, ⟨#[102]⟩, [], 1⟩
def o2 : Ob := ⟨⟨#[98]⟩, [], [n2], [p2]⟩
theorem word_f' : wordR ⟨#[102]⟩ = true := by decide +kernel
theorem word_main : wordR ⟨#[109, 97, 105, 110]⟩ = true := by decide +kernel
theorem file_a' : fileR ⟨#[97]⟩ = true := by decide +kernel
theorem file_b' : fileR ⟨#[98]⟩ = true := by decide +kernel
theorem least_1 : Least o1.wd p1 (l2 1) := two_least rfl rfl rfl (by decide +kernel) (by decide +kernel)
theorem least_2 : Least o2.wd p2 (l2 1) := two_least rfl rfl rfl (by decide +kernel) (by decide +kernel)
theorem procR_1 : procR p1 = true := by rw [procR, show p1.name = ⟨#[102]⟩ from rfl, word_f']; rfl
theorem procR_2 : procR p2 = true := by rw [procR, show p2.name = ⟨#[109, 97, 105, 110]⟩ from rfl, word_main]; rfl
theorem objR_1 : objR o1 = true := by rw [objR, show o1.path = ⟨#[97]⟩ from rfl, file_a']; decide +kernel
theorem needR_2 : needR n2 = true := by rw [needR, show n2.path = ⟨#[97]⟩ from rfl, show n2.name = ⟨#[102]⟩ from rfl, file_a', word_f']; rfl
theorem objR_2 : objR o2 = true := by rw [objR, show o2.path = ⟨#[98]⟩ from rfl, file_b', show o2.needs = [n2] from rfl, List.all_cons, needR_2]; rfl
theorem out_1 : outAt o1.wd 0 = (0, 0) := by
 rw [outAt_eq (p := p1) rfl, procOut, if_neg (by rw [procR_1]; simp), if_neg (by decide +kernel), least_1.flow]
 decide +kernel
theorem out_2 : outAt o2.wd 0 = (0, 0) := by
 rw [outAt_eq (p := p2) rfl, procOut, if_neg (by rw [procR_2]; simp), if_neg (by decide +kernel), least_2.flow]
 decide +kernel
theorem ans_1 : objAns o1 = (0, 0, 0) := by
 rw [objAns, objR_1, if_pos rfl]
 exact allR_none fun j hj => by
  obtain rfl : j = 0 := by simp [o1, Ob.wd] at hj; exact hj
  rw [out_1]
theorem ans_2 : objAns o2 = (0, 0, 0) := by
 rw [objAns, objR_2, if_pos rfl]
 exact allR_none fun j hj => by
  obtain rfl : j = 0 := by simp [o2, Ob.wd] at hj; exact hj
  rw [out_2]
end
section
open Go.MapKept
attribute [local irreducible] Tryz.prog
theorem two_ins {G : Gh} {bi : Nat} {a : Int} (h : Cs G bi 0 [.int .i64 a, .int .i64 0, .int .i64 10, .int .i64 0]) : Sl Kd.ins G (some ⟨bi, 0, none⟩) [(a, 0), (10, 0)] :=
 KFl.sl (k := Kd.ins) (l := [(a, 0)] ++ [(10, 0)]) (by decide) ((KFl.one (cs := [.int .i64 a, .int .i64 0]) rfl).append (KFl.one (cs := [.int .i64 10, .int .i64 0]) rfl)) (.inr ⟨bi, rfl, h⟩)
theorem sl_none {α : Type} {k : Kd α} {G : Gh} : Sl k G none [] := fun i x hx => by cases hx
theorem rep_1 {G : Gh} {bc bp bi : Nat} (h1 : Cs G bc 0 (vcells ⟨1, 7, false, ⟨#[]⟩⟩)) (h2 : Cs G bp 0 (prC p1 none 0 (some ⟨bi, 0, none⟩) 2).toList) (h3 : Cs G bi 0 [.int .i64 1, .int .i64 0, .int .i64 10, .int .i64 0]) : ORep G o1 (some ⟨bc, 0, none⟩) none (some ⟨bp, 0, none⟩) where
 consts := KFl.sl (k := Kd.val) (by decide) (KFl.one (k := Kd.val) (x := ⟨1, 7, false, ⟨#[]⟩⟩) rfl) (.inr ⟨bc, rfl, h1⟩)
 needs := sl_none
 procs := KFl.sl (k := Kd.prc) (by decide) (KFl.one (k := Kd.prc) (cs := (prC p1 none 0 (some ⟨bi, 0, none⟩) 2).toList) (x := p1) ⟨none, 0, some ⟨bi, 0, none⟩, 2, rfl, sl_none, two_ins h3⟩) (.inr ⟨bp, rfl, h2⟩)
theorem rep_2 {G : Gh} {bn bp bi : Nat} (h1 : Cs G bn 0 [.string n2.path, .string n2.name, .slice none 0 0, .int .i64 1]) (h2 : Cs G bp 0 (prC p2 none 0 (some ⟨bi, 0, none⟩) 2).toList) (h3 : Cs G bi 0 [.int .i64 8, .int .i64 0, .int .i64 10, .int .i64 0]) : ORep G o2 none (some ⟨bn, 0, none⟩) (some ⟨bp, 0, none⟩) where
 consts := sl_none
 needs := KFl.sl (k := Kd.ned) (by decide) (KFl.one (k := Kd.ned) (x := n2) (cs := [.string n2.path, .string n2.name, .slice none 0 0, .int .i64 1]) ⟨none, 0, rfl, sl_none⟩) (.inr ⟨bn, rfl, h1⟩)
 procs := KFl.sl (k := Kd.prc) (by decide) (KFl.one (k := Kd.prc) (cs := (prC p2 none 0 (some ⟨bi, 0, none⟩) 2).toList) (x := p2) ⟨none, 0, some ⟨bi, 0, none⟩, 2, rfl, sl_none, two_ins h3⟩) (.inr ⟨bp, rfl, h2⟩)
theorem lawOne_fn (G : Gh) : Fn Tryz.prog 20 #[] G [] fun e G' H' => ∃ CA PA, e = .returned (.agg (obC o1 CA none PA 1 0 1)) ∧ G.le G' ∧ ORep G' o1 CA none PA ∧ H' = [] := by
 refine Fn.enter Tryz.func20 rfl rfl fun w0 => ?_
 refine gom ?_
 refine WL.oo (OW.alloc rfl fun b0 => ?_)
 refine gom ?_
 refine WL.op kr (OW.buildSlice rfl kr kr (by rfl) rfl fun b4 => ?_)
 refine gom ?_
 refine WL.oo (OW.alloc rfl fun b1 => ?_)
 refine gom ?_
 refine WL.op kr (OW.buildSlice rfl kr kr (by rfl) rfl fun b7 => ?_)
 refine gom ?_
 refine WL.op kr (OW.buildSlice rfl kr kr (by rfl) rfl fun b9 => ?_)
 refine gom ?_
 refine WC.freezeC .here rfl fun G1 hg1 h1 => ?_
 refine WC.freezeC .here rfl fun G2 hg2 h2 => ?_
 refine WC.freezeC (.there .here) rfl fun G3 hg3 h3 => ?_
 refine WC.rt ?_
 exact QF.p1 (.inl rfl) rfl (.cell rfl inferInstance inferInstance atA rfl rfl) (⟨_, _, rfl, Gh.le_trans hg1 (Gh.le_trans hg2 hg3), rep_1 (h2.mono hg3) (h1.mono (Gh.le_trans hg2 hg3)) h3, rfl⟩)
theorem lawTwo_fn (G : Gh) : Fn Tryz.prog 43 #[] G [] fun e G' H' => ∃ NA PA, e = .returned (.agg (obC o2 none NA PA 0 1 1)) ∧ G.le G' ∧ ORep G' o2 none NA PA ∧ H' = [] := by
 refine Fn.enter Tryz.func43 rfl rfl fun w0 => ?_
 refine gom ?_
 refine WL.oo (OW.alloc rfl fun b0 => ?_)
 refine gom ?_
 refine WL.op kr (OW.buildSlice rfl kr kr (by rfl) rfl fun b4 => ?_)
 refine gom ?_
 refine WL.oo (OW.alloc rfl fun b1 => ?_)
 refine gom ?_
 refine WL.op kr (OW.buildSlice rfl kr kr (by rfl) rfl fun b7 => ?_)
 refine gom ?_
 refine WL.op kr (OW.buildSlice rfl kr kr (by rfl) rfl fun b9 => ?_)
 refine gom ?_
 refine WC.freezeC .here rfl fun G1 hg1 h1 => ?_
 refine WC.freezeC .here rfl fun G2 hg2 h2 => ?_
 refine WC.freezeC (.there .here) rfl fun G3 hg3 h3 => ?_
 refine WC.rt ?_
 exact QF.p1 (.inl rfl) rfl (.cell rfl inferInstance inferInstance atA rfl rfl) (⟨_, _, rfl, Gh.le_trans hg1 (Gh.le_trans hg2 hg3), rep_2 (h2.mono hg3) (h1.mono (Gh.le_trans hg2 hg3)) h3, rfl⟩)
end
section
attribute [local irreducible] Tryz.prog
theorem wrap_small {x : Int} (h0 : -1000000000000000 ≤ x) (h1 : x ≤ 1000000000000000) : IntKind.i64.wrap x = x := by rw [IntKind.wrap_i64]; omega
def halted (n : Int) : Ending := .panicked [{ v := .iface 251 (.agg #[.int .i64 n]), recovered := false }]
theorem stuck_fn (G : Gh) : Fn Tryz.prog 209 #[] G [] fun e G' H' => e = halted 6 ∧ G = G' ∧ H' = [] := by
 refine Fn.enter (vs := []) Tryz.func209 rfl rfl fun w0 => ?_
 refine WC.region ?_
 refine zw.build ?_
 refine zw.iface ?_
 refine WL.oo (OW.panic rfl (QF.panic (List.Sublist.refl _) ⟨rfl, rfl, rfl⟩))
theorem need_ok (G : Gh) : Fn Tryz.prog 193 #[.bool true] G [] fun e G' H' => e = .returned (.tuple #[]) ∧ G = G' ∧ H' = [] := by
 refine Fn.enter Tryz.func193 rfl rfl fun w0 => ?_
 refine WC.seq ?_
 refine WC.region ?_
 refine zw.move ?_
 refine zw.not ?_
 refine WL.nil ?_
 refine WK.un ?_
 refine WC.cond_false rfl ?_
 exact WC.skip (QF.ret0 (.inr rfl) rfl (List.Sublist.refl _) ⟨rfl, rfl, rfl⟩)
theorem need_no (G : Gh) : Fn Tryz.prog 193 #[.bool false] G [] fun e G' H' => e = halted 6 ∧ G = G' ∧ H' = [] := by
 refine Fn.enter Tryz.func193 rfl rfl fun w0 => ?_
 refine WC.seq ?_
 refine WC.region ?_
 refine zw.move ?_
 refine zw.not ?_
 refine WL.nil ?_
 refine WK.un ?_
 refine WC.cond_true rfl ?_
 refine WC.region ?_
 refine WL.oo (OW.call rfl (F := []) (List.Perm.refl _) (stuck_fn G) rfl (fun v G' H' h _ => by cases h.1) (fun ch G' H' h _ => ?_) (fun G' H' h => by cases h.1))
 obtain ⟨he, rfl, rfl⟩ := h
 cases he
 exact QF.panic (List.Sublist.refl _) ⟨rfl, rfl, rfl⟩
theorem truth_fn (G : Gh) (b : Bool) : Fn Tryz.prog 214 #[.bool b] G [] fun e G' H' => e = .returned (.agg #[.int .i64 2, .int .i64 0, .bool b, .string ⟨#[]⟩]) ∧ G = G' ∧ H' = [] := by
 refine Fn.enter Tryz.func214 rfl rfl fun w0 => ?_
 refine WC.seq ?_
 refine WC.region ?_
 refine WL.oo (OW.alloc rfl fun b1 => ?_)
 refine WL.nil ?_
 refine WK.un ?_
 refine WC.seq ?_
 refine WC.region ?_
 refine zw.move ?_
 refine zw.build ?_
 refine zw.st ?_
 refine WL.nil ?_
 refine WK.un ?_
 refine WC.ret ?_
 exact QF.ret1 (.inl rfl) rfl (.cell rfl inferInstance inferInstance atA rfl rfl) (List.nil_sublist _) ⟨rfl, rfl, rfl⟩
theorem number_fnQ (G : Gh) (n : Int) : Fn Tryz.prog 215 #[.int .i64 n] G [] fun e G' H' => e = .returned (.agg #[.int .i64 1, .int .i64 n, .bool false, .string ⟨#[]⟩]) ∧ G = G' ∧ H' = [] := by
 refine Fn.enter Tryz.func215 rfl rfl fun w0 => ?_
 refine WC.seq ?_
 refine WC.region ?_
 refine WL.oo (OW.alloc rfl fun b1 => ?_)
 refine WL.nil ?_
 refine WK.un ?_
 refine WC.seq ?_
 refine WC.region ?_
 refine zw.move ?_
 refine zw.build ?_
 refine zw.st ?_
 refine WL.nil ?_
 refine WK.un ?_
 refine WC.ret ?_
 exact QF.ret1 (.inl rfl) rfl (.cell rfl inferInstance inferInstance atA rfl rfl) (List.nil_sublist _) ⟨rfl, rfl, rfl⟩
theorem pop_fn (G : Gh) (b : Nat) (A : Option Addr) (cap : Nat) (p a : Int) (B : Option Addr) (m cm : Nat) (l1 l2 : List V) (x : Own) (hv : Vec 52 4 A (l1.length + l2.length) cap (vflat (l1 ++ l2)) x) (hb : l1.length + l2.length ≤ 1000000000) :
  Fn Tryz.prog 212 #[.pointer (some ⟨b, 0, none⟩), .int .i64 l2.length] G [.blk b (.cells (frC A (l1.length + l2.length) cap p a B m cm) 245 (0, 0)), x]
   fun e G' H' => ∃ A' cap' x', e = .returned (.slice A' l2.length cap') ∧ G = G' ∧ H' = [x', .blk b (.cells (frC A l1.length cap p a B m cm) 245 (0, 0)), x] ∧ Vec 52 4 A' l2.length cap' (vflat l2) x' ∧ Vec 52 4 A l1.length cap (vflat l1) x := by
 have e1 : IntKind.i64.wrap (((l1.length + l2.length : Nat) : Int) - (l2.length : Int)) = (l1.length : Int) := by rw [wrap_small] <;> omega
 have hd : (vflat (l1 ++ l2)).drop (l1.length * 4) = vflat l2 := by rw [vflat_append, ← vflat_length, List.drop_left]
 have ht : (vflat (l1 ++ l2)).take (l1.length * 4) = vflat l1 := by rw [vflat_append, ← vflat_length, List.take_left]
 have hle := hv.le
 have hv2 : Vec 52 4 A l1.length cap (vflat l1) x := ht ▸ hv.cut (m := l1.length) (by omega)
 refine Fn.enter Tryz.func212 rfl rfl fun w0 => ?_
 refine WC.seq ?_
 refine WC.region ?_
 refine zw.assign ?_
 refine WL.nil ?_
 refine WK.un ?_
 refine WC.seq ?_
 refine WC.region ?_
 refine zw.move ?_
 refine zw.nil ?_
 refine zw.fa ?_
 refine zw.ld ?_
 refine zw.len ?_
 refine zw.move ?_
 refine zw.sub ?_
 rw [e1]
 refine zw.assign ?_
 refine WL.nil ?_
 refine WK.un ?_
 refine WC.seq ?_
 refine WC.region ?_
 refine zw.move ?_
 refine zw.nil ?_
 refine zw.fa ?_
 refine zw.ld ?_
 refine zw.move ?_
 refine WL.pp (Gp.sliceFrom rfl rfl (by omega) (by omega)) ?_
 have hr := hv.rdsFrom (G := G) (H := [.blk b (.cells (frC A (l1.length + l2.length) cap p a B m cm) 245 (0, 0)), x]) (.there .here) (lo := l1.length) (by omega)
 rw [hd] at hr
 simp only [Int.toNat_natCast, Nat.add_sub_cancel_left]
 refine WL.oo (OW.callR rfl (perm_all _) (clone_vals G _ _ _ _ _ hr (vflat_length _) (vflat_one _) (fun hA => ?_) (by omega)) rfl (by rintro e G' H' ⟨A', cap', x', h, _⟩; exact ⟨_, h⟩) fun v G' H' h hg => ?_)
 ·split at hA
  ·omega
  ·rcases hv.2 with ⟨h1, h2, _⟩ | ⟨b', c', h1, _⟩
   ·omega
   ·rw [h1] at hA; cases hA
 obtain ⟨A', cap', x', he, rfl, rfl, hv'⟩ := h
 cases he
 refine zw.assign ?_
 refine WL.nil ?_
 refine WK.un ?_
 refine WC.seq ?_
 refine WC.region ?_
 refine zw.move ?_
 refine zw.move ?_
 refine zw.nil ?_
 refine zw.fa ?_
 refine zw.ld ?_
 refine zw.move ?_
 refine WL.pp (Gp.sliceTo rfl rfl (by omega) (by omega)) ?_
 refine zw.nil ?_
 refine zw.fa ?_
 refine zw.st ?_
 refine WL.nil ?_
 refine WK.un ?_
 refine WC.seq ?_
 refine WC.region ?_
 refine zw.move ?_
 refine zw.assign ?_
 refine WL.nil ?_
 refine WK.un ?_
 refine WC.ret ?_
 (refine WK.un ?_)
 exact QF.ret1 (.inl rfl) rfl (.tmp rfl) (List.Sublist.refl _) ⟨A', cap', x', rfl, rfl, rfl, hv', hv2⟩
end
section
attribute [local irreducible] Tryz.prog
def vOK (v : V) : Bool := if v.t = 1 then !v.b && v.s == ⟨#[]⟩ else if v.t = 2 then v.i == 0 && v.s == ⟨#[]⟩ else if v.t = 3 then v.i == 0 && !v.b && decide ((v.s.size : Int) ≤ 4096) else false
theorem value_fnQ (G : Gh) (v : V) : Fn Tryz.prog 138 #[.agg #[.int .i64 v.t, .int .i64 v.i, .bool v.b, .string v.s]] G [] fun e G' H' => e = .returned (.bool (vOK v)) ∧ G = G' ∧ H' = [] := by
 refine Fn.enter Tryz.func138 rfl rfl fun w0 => ?_
 refine WC.seq ?_
 refine WC.region ?_
 refine WL.oo (OW.box rfl rfl fun b1 => ?_)
 refine zw.assign ?_
 refine WL.nil ?_
 refine WK.un ?_
 refine WC.seq ?_
 refine WC.seq ?_
 refine WC.region ?_
 refine zw.fa ?_
 refine zw.ld ?_
 refine WL.nil ?_
 refine WK.un ?_
 refine WC.block ?_  -- 0
 refine WC.seq ?_
 refine WC.region ?_
 refine zw.eq ?_
 refine zw.assign ?_
 refine WL.nil ?_
 refine WK.un ?_
 refine WC.cond rfl (fun hc => ?_) (fun hc => ?_)
 ·-- yes
  have ht : v.t = 1 := by simpa using hc
  refine WC.seq ?_
  refine WC.region ?_
  refine zw.fa ?_
  refine zw.ld ?_
  refine zw.not ?_
  refine zw.move ?_
  generalize hb : v.b = b
  cases b
  all_goals (first | refine WL.p (Gp.fieldAddr rfl) (by rfl) rfl ?_ | refine WL.skip (by rfl) rfl ?_)
  all_goals (first | (first | (refine WL.v (Gv.load1 rfl atA (by first | rfl | assumption)) (by rfl) rfl ?_) | (refine WL.v (Gv.loadN rfl atA (by rfl) (by rfl)) (by rfl) rfl ?_) | (refine WL.v (Gv.loadG1 rfl (by assumption) rfl) (by rfl) rfl ?_) | (refine WL.v (Gv.loadG0 rfl (by assumption) rfl) (by rfl) rfl ?_) | (refine WL.v (Gv.loadGN rfl (by assumption) rfl) (by rfl) rfl ?_)) | refine WL.skip (by rfl) rfl ?_)
  all_goals (first | (first | refine WL.p (Gp.eqI rfl rfl) (by rfl) rfl ?_ | refine WL.p (Gp.eqS rfl rfl) (by rfl) rfl ?_ | refine WL.p (Gp.nilSl rfl) (by rfl) rfl ?_ | refine WL.p (Gp.eqB rfl rfl) (by rfl) rfl ?_) | refine WL.skip (by rfl) rfl ?_)
  all_goals (first | (first | refine WL.p (Gp.pickT rfl rfl) (by rfl) rfl ?_ | refine WL.p (Gp.pickF rfl rfl) (by rfl) rfl ?_) | refine WL.skip (by rfl) rfl ?_)
  all_goals (first | refine WL.p (Gp.assign rfl) (by rfl) rfl ?_ | refine WL.skip (by rfl) rfl ?_)
  all_goals refine WL.nil ?_
  all_goals (refine WK.un ?_)
  all_goals refine WC.ret ?_
  all_goals (refine WK.un ?_)
  all_goals exact QF.ret1 (.inl rfl) rfl (.tmp rfl) (List.nil_sublist _) ⟨by simp [vOK, ht, hb], rfl, rfl⟩
 ·-- no
  have ht1 : ¬ v.t = 1 := by simpa using hc
  refine WC.seq ?_
  refine WC.region ?_
  refine zw.eq ?_
  refine zw.assign ?_
  refine WL.nil ?_
  refine WK.un ?_
  refine WC.cond rfl (fun hc => ?_) (fun hc => ?_)
  ·-- yes
   have ht : v.t = 2 := by simpa using hc
   refine WC.seq ?_
   refine WC.region ?_
   refine zw.fa ?_
   refine zw.ld ?_
   refine zw.eq ?_
   refine zw.move ?_
   generalize hb : (v.i == 0) = b
   cases b
   all_goals (first | refine WL.p (Gp.fieldAddr rfl) (by rfl) rfl ?_ | refine WL.skip (by rfl) rfl ?_)
   all_goals (first | (first | (refine WL.v (Gv.load1 rfl atA (by first | rfl | assumption)) (by rfl) rfl ?_) | (refine WL.v (Gv.loadN rfl atA (by rfl) (by rfl)) (by rfl) rfl ?_) | (refine WL.v (Gv.loadG1 rfl (by assumption) rfl) (by rfl) rfl ?_) | (refine WL.v (Gv.loadG0 rfl (by assumption) rfl) (by rfl) rfl ?_) | (refine WL.v (Gv.loadGN rfl (by assumption) rfl) (by rfl) rfl ?_)) | refine WL.skip (by rfl) rfl ?_)
   all_goals (first | (first | refine WL.p (Gp.eqI rfl rfl) (by rfl) rfl ?_ | refine WL.p (Gp.eqS rfl rfl) (by rfl) rfl ?_ | refine WL.p (Gp.nilSl rfl) (by rfl) rfl ?_ | refine WL.p (Gp.eqB rfl rfl) (by rfl) rfl ?_) | refine WL.skip (by rfl) rfl ?_)
   all_goals (first | (first | refine WL.p (Gp.pickT rfl rfl) (by rfl) rfl ?_ | refine WL.p (Gp.pickF rfl rfl) (by rfl) rfl ?_) | refine WL.skip (by rfl) rfl ?_)
   all_goals (first | refine WL.p (Gp.assign rfl) (by rfl) rfl ?_ | refine WL.skip (by rfl) rfl ?_)
   all_goals refine WL.nil ?_
   all_goals (refine WK.un ?_)
   all_goals refine WC.ret ?_
   all_goals (refine WK.un ?_)
   all_goals exact QF.ret1 (.inl rfl) rfl (.tmp rfl) (List.nil_sublist _) ⟨by simp [vOK, ht, hb], rfl, rfl⟩
  ·-- no
   have ht2 : ¬ v.t = 2 := by simpa using hc
   refine WC.seq ?_
   refine WC.region ?_
   refine zw.eq ?_
   refine zw.assign ?_
   refine WL.nil ?_
   refine WK.un ?_
   refine WC.cond rfl (fun hc => ?_) (fun hc => ?_)
   ·-- yes
    have ht : v.t = 3 := by simpa using hc
    refine WC.seq ?_
    refine WC.region ?_
    refine zw.fa ?_
    refine zw.ld ?_
    refine zw.eq ?_
    refine zw.move ?_
    generalize hb : (v.i == 0) = b
    generalize hb' : v.b = b'
    cases b <;> cases b'
    all_goals (first | refine WL.p (Gp.fieldAddr rfl) (by rfl) rfl ?_ | refine WL.skip (by rfl) rfl ?_)
    all_goals (first | (first | (refine WL.v (Gv.load1 rfl atA (by first | rfl | assumption)) (by rfl) rfl ?_) | (refine WL.v (Gv.loadN rfl atA (by rfl) (by rfl)) (by rfl) rfl ?_) | (refine WL.v (Gv.loadG1 rfl (by assumption) rfl) (by rfl) rfl ?_) | (refine WL.v (Gv.loadG0 rfl (by assumption) rfl) (by rfl) rfl ?_) | (refine WL.v (Gv.loadGN rfl (by assumption) rfl) (by rfl) rfl ?_)) | refine WL.skip (by rfl) rfl ?_)
    all_goals (first | refine WL.p (Gp.notB rfl) (by rfl) rfl ?_ | refine WL.skip (by rfl) rfl ?_)
    all_goals (first | (first | refine WL.p (Gp.pickT rfl rfl) (by rfl) rfl ?_ | refine WL.p (Gp.pickF rfl rfl) (by rfl) rfl ?_) | refine WL.skip (by rfl) rfl ?_)
    all_goals (first | refine WL.p (Gp.move rfl) (by rfl) rfl ?_ | refine WL.skip (by rfl) rfl ?_)
    all_goals (first | refine WL.p (Gp.fieldAddr rfl) (by rfl) rfl ?_ | refine WL.skip (by rfl) rfl ?_)
    all_goals (first | (first | (refine WL.v (Gv.load1 rfl atA (by first | rfl | assumption)) (by rfl) rfl ?_) | (refine WL.v (Gv.loadN rfl atA (by rfl) (by rfl)) (by rfl) rfl ?_) | (refine WL.v (Gv.loadG1 rfl (by assumption) rfl) (by rfl) rfl ?_) | (refine WL.v (Gv.loadG0 rfl (by assumption) rfl) (by rfl) rfl ?_) | (refine WL.v (Gv.loadGN rfl (by assumption) rfl) (by rfl) rfl ?_)) | refine WL.skip (by rfl) rfl ?_)
    all_goals (first | (first | refine WL.p (Gp.lenSl rfl) (by rfl) rfl ?_ | refine WL.p (Gp.lenS rfl) (by rfl) rfl ?_) | refine WL.skip (by rfl) rfl ?_)
    all_goals (first | (first | refine WL.p (Gp.leI rfl rfl) (by rfl) rfl ?_ | refine WL.p (Gp.leS rfl rfl) (by rfl) rfl ?_) | refine WL.skip (by rfl) rfl ?_)
    all_goals (first | (first | refine WL.p (Gp.pickT rfl rfl) (by rfl) rfl ?_ | refine WL.p (Gp.pickF rfl rfl) (by rfl) rfl ?_) | refine WL.skip (by rfl) rfl ?_)
    all_goals (first | refine WL.p (Gp.assign rfl) (by rfl) rfl ?_ | refine WL.skip (by rfl) rfl ?_)
    all_goals refine WL.nil ?_
    all_goals (refine WK.un ?_)
    all_goals refine WC.ret ?_
    all_goals (refine WK.un ?_)
    all_goals exact QF.ret1 (.inl rfl) rfl (.tmp rfl) (List.nil_sublist _) ⟨by simp [vOK, ht, hb, hb'], rfl, rfl⟩
   ·-- no
    have ht3 : ¬ v.t = 3 := by simpa using hc
    refine WC.skip ?_
    refine WK.un ?_
    refine WC.seq ?_
    refine WC.region ?_
    refine zw.assign ?_
    refine WL.nil ?_
    refine WK.un ?_
    refine WC.ret ?_
    (refine WK.un ?_)
    exact QF.ret1 (.inl rfl) rfl (.tmp rfl) (List.nil_sublist _) ⟨by simp [vOK, ht1, ht2, ht3], rfl, rfl⟩
end
section
attribute [local irreducible] Tryz.prog
theorem nanI_fn (G : Gh) (x : Int) : Fn Tryz.prog 244 #[.int .i64 x] G [] fun e G' H' => e = .returned (.bool false) ∧ G = G' ∧ H' = [] := by
 refine Fn.enter Tryz.func244 rfl rfl fun w0 => ?_
 refine WC.seq ?_
 refine WC.region ?_
 refine zw.assign ?_
 refine WL.nil ?_
 refine WK.un ?_
 refine WC.seq ?_
 refine WC.region ?_
 refine zw.move ?_
 refine zw.move ?_
 refine zw.ne ?_
 refine zw.assign ?_
 refine WL.nil ?_
 refine WK.un ?_
 refine WC.ret ?_
 (refine WK.un ?_)
 exact QF.ret1 (.inl rfl) rfl (.tmp rfl) (List.nil_sublist _) ⟨by simp, rfl, rfl⟩
theorem nanS_fn (G : Gh) (x : ByteArray) : Fn Tryz.prog 245 #[.string x] G [] fun e G' H' => e = .returned (.bool false) ∧ G = G' ∧ H' = [] := by
 refine Fn.enter Tryz.func245 rfl rfl fun w0 => ?_
 refine WC.seq ?_
 refine WC.region ?_
 refine zw.assign ?_
 refine WL.nil ?_
 refine WK.un ?_
 refine WC.seq ?_
 refine WC.region ?_
 refine zw.move ?_
 refine zw.move ?_
 refine zw.ne ?_
 refine zw.assign ?_
 refine WL.nil ?_
 refine WK.un ?_
 refine WC.ret ?_
 (refine WK.un ?_)
 exact QF.ret1 (.inl rfl) rfl (.tmp rfl) (List.nil_sublist _) ⟨by rw [show (x == x) = true from by rw [beq_toListBytes]; simp]; rfl, rfl, rfl⟩
def cmpI (a b : Int) : Int := if a < b then -1 else if b < a then 1 else 0
def cmpS (a b : ByteArray) : Int := if Op.bytesLess a.toList b.toList then -1 else if Op.bytesLess b.toList a.toList then 1 else 0
theorem compareI_fn (G : Gh) (x y : Int) : Fn Tryz.prog 228 #[.int .i64 x, .int .i64 y] G [] fun e G' H' => e = .returned (.int .i64 (cmpI x y)) ∧ G = G' ∧ H' = [] := by
 refine Fn.enter Tryz.func228 rfl rfl fun w0 => ?_
 refine WC.seq ?_
 refine WC.region ?_
 refine zw.assign ?_
 refine WL.nil ?_
 refine WK.un ?_
 refine WC.seq ?_
 refine WC.region ?_
 refine zw.move ?_
 refine WL.oo (OW.callR rfl (Hf := []) (List.Perm.refl _) (nanI_fn G _) rfl (by rintro e G' H' ⟨h, _⟩; exact ⟨_, h⟩) fun v' G' H' h hg => ?_)
 obtain ⟨he, rfl, rfl⟩ := h
 cases he
 refine zw.assign ?_
 refine WL.nil ?_
 refine WK.un ?_
 refine WC.seq ?_
 refine WC.region ?_
 refine zw.move ?_
 refine WL.oo (OW.callR rfl (Hf := []) (List.Perm.refl _) (nanI_fn G _) rfl (by rintro e G' H' ⟨h, _⟩; exact ⟨_, h⟩) fun v' G' H' h hg => ?_)
 obtain ⟨he, rfl, rfl⟩ := h
 cases he
 refine zw.assign ?_
 refine WL.nil ?_
 refine WK.un ?_
 refine WC.seq ?_
 refine WC.seq ?_
 refine WC.region ?_
 refine zw.move ?_
 refine WL.nil ?_
 refine WK.un ?_
 refine WC.cond rfl (fun hc1 => ?_) (fun hc1 => ?_)
 ·-- yes
  cases hc1
 ·-- no
  refine WC.skip ?_
  refine WK.un ?_
  refine WC.seq ?_
  refine WC.seq ?_
  refine WC.region ?_
  refine zw.move ?_
  refine WL.nil ?_
  refine WK.un ?_
  refine WC.cond rfl (fun hc3 => ?_) (fun hc3 => ?_)
  ·cases hc3
  ·-- no
   refine WC.skip ?_
   refine WK.un ?_
   refine WC.seq ?_
   refine WC.seq ?_
   refine WC.region ?_
   refine zw.move ?_
   refine zw.move ?_
   refine zw.lt ?_
   refine WL.nil ?_
   refine WK.un ?_
   refine WC.cond rfl (fun hc4 => ?_) (fun hc4 => ?_)
   ·-- yes
    refine WC.seq ?_
    refine WC.region ?_
    refine zw.assign ?_
    refine WL.nil ?_
    refine WK.un ?_
    refine WC.ret ?_
    (refine WK.un ?_)
    exact QF.ret1 (.inl rfl) rfl (.tmp rfl) (List.nil_sublist _) ⟨by simp_all [cmpI], rfl, rfl⟩
   ·-- no
    refine WC.skip ?_
    refine WK.un ?_
    refine WC.seq ?_
    refine WC.seq ?_
    refine WC.region ?_
    refine zw.move ?_
    refine zw.move ?_
    refine zw.gt ?_
    refine WL.nil ?_
    refine WK.un ?_
    refine WC.cond rfl (fun hc5 => ?_) (fun hc5 => ?_)
    ·-- yes
     refine WC.seq ?_
     refine WC.region ?_
     refine zw.assign ?_
     refine WL.nil ?_
     refine WK.un ?_
     refine WC.ret ?_
     (refine WK.un ?_)
     exact QF.ret1 (.inl rfl) rfl (.tmp rfl) (List.nil_sublist _) ⟨by simp_all [cmpI], rfl, rfl⟩
    ·-- no
     refine WC.skip ?_
     refine WK.un ?_
     refine WC.seq ?_
     refine WC.region ?_
     refine zw.assign ?_
     refine WL.nil ?_
     refine WK.un ?_
     refine WC.ret ?_
     (refine WK.un ?_)
     exact QF.ret1 (.inl rfl) rfl (.tmp rfl) (List.nil_sublist _) ⟨by have h4 := hc4; have h5 := hc5; simp only [decide_eq_false_iff_not] at h4 h5; rw [cmpI, if_neg h4, if_neg h5], rfl, rfl⟩
theorem compareS_fn (G : Gh) (x y : ByteArray) : Fn Tryz.prog 229 #[.string x, .string y] G [] fun e G' H' => e = .returned (.int .i64 (cmpS x y)) ∧ G = G' ∧ H' = [] := by
 refine Fn.enter Tryz.func229 rfl rfl fun w0 => ?_
 refine WC.seq ?_
 refine WC.region ?_
 refine zw.assign ?_
 refine WL.nil ?_
 refine WK.un ?_
 refine WC.seq ?_
 refine WC.region ?_
 refine zw.move ?_
 refine WL.oo (OW.callR rfl (Hf := []) (List.Perm.refl _) (nanS_fn G _) rfl (by rintro e G' H' ⟨h, _⟩; exact ⟨_, h⟩) fun v' G' H' h hg => ?_)
 obtain ⟨he, rfl, rfl⟩ := h
 cases he
 refine zw.assign ?_
 refine WL.nil ?_
 refine WK.un ?_
 refine WC.seq ?_
 refine WC.region ?_
 refine zw.move ?_
 refine WL.oo (OW.callR rfl (Hf := []) (List.Perm.refl _) (nanS_fn G _) rfl (by rintro e G' H' ⟨h, _⟩; exact ⟨_, h⟩) fun v' G' H' h hg => ?_)
 obtain ⟨he, rfl, rfl⟩ := h
 cases he
 refine zw.assign ?_
 refine WL.nil ?_
 refine WK.un ?_
 refine WC.seq ?_
 refine WC.seq ?_
 refine WC.region ?_
 refine zw.move ?_
 refine WL.nil ?_
 refine WK.un ?_
 refine WC.cond rfl (fun hc1 => ?_) (fun hc1 => ?_)
 ·-- yes
  cases hc1
 ·-- no
  refine WC.skip ?_
  refine WK.un ?_
  refine WC.seq ?_
  refine WC.seq ?_
  refine WC.region ?_
  refine zw.move ?_
  refine WL.nil ?_
  refine WK.un ?_
  refine WC.cond rfl (fun hc3 => ?_) (fun hc3 => ?_)
  ·cases hc3
  ·-- no
   refine WC.skip ?_
   refine WK.un ?_
   refine WC.seq ?_
   refine WC.seq ?_
   refine WC.region ?_
   refine zw.move ?_
   refine zw.move ?_
   refine zw.lt ?_
   refine WL.nil ?_
   refine WK.un ?_
   refine WC.cond rfl (fun hc4 => ?_) (fun hc4 => ?_)
   ·-- yes
    refine WC.seq ?_
    refine WC.region ?_
    refine zw.assign ?_
    refine WL.nil ?_
    refine WK.un ?_
    refine WC.ret ?_
    (refine WK.un ?_)
    exact QF.ret1 (.inl rfl) rfl (.tmp rfl) (List.nil_sublist _) ⟨by simp_all [cmpS], rfl, rfl⟩
   ·-- no
    refine WC.skip ?_
    refine WK.un ?_
    refine WC.seq ?_
    refine WC.seq ?_
    refine WC.region ?_
    refine zw.move ?_
    refine zw.move ?_
    refine zw.gt ?_
    refine WL.nil ?_
    refine WK.un ?_
    refine WC.cond rfl (fun hc5 => ?_) (fun hc5 => ?_)
    ·-- yes
     refine WC.seq ?_
     refine WC.region ?_
     refine zw.assign ?_
     refine WL.nil ?_
     refine WK.un ?_
     refine WC.ret ?_
     (refine WK.un ?_)
     exact QF.ret1 (.inl rfl) rfl (.tmp rfl) (List.nil_sublist _) ⟨by simp_all [cmpS], rfl, rfl⟩
    ·-- no
     refine WC.skip ?_
     refine WK.un ?_
     refine WC.seq ?_
     refine WC.region ?_
     refine zw.assign ?_
     refine WL.nil ?_
     refine WK.un ?_
     refine WC.ret ?_
     (refine WK.un ?_)
     exact QF.ret1 (.inl rfl) rfl (.tmp rfl) (List.nil_sublist _) ⟨by simp_all [cmpS], rfl, rfl⟩
theorem or_fn (G : Gh) (b : Nat) (x y : Int) : Fn Tryz.prog 227 #[.slice (some ⟨b, 0, none⟩) 2 2] G [.blk b (.cells #[.int .i64 x, .int .i64 y] 3 (0, 0))] fun e G' H' => e = .returned (.int .i64 (if x = 0 then y else x)) ∧ G = G' ∧ H' = [] := by
 refine Fn.enter Tryz.func227 rfl rfl fun w0 => ?_
 refine WC.seq ?_
 refine WC.region ?_
 refine zw.assign ?_
 refine WL.nil ?_
 refine WK.un ?_
 refine WC.seq ?_
 refine WC.region ?_
 refine zw.assign ?_
 refine WL.nil ?_
 refine WK.un ?_
 refine WC.seq ?_
 refine WC.seq ?_
 refine WC.region ?_
 refine zw.move ?_
 refine zw.len ?_
 refine zw.move ?_
 refine WL.nil ?_
 refine WK.un ?_
 refine WC.block ?_  -- 0
 refine WC.loop (X := Nat) (fun i => [(3, .int .i64 0), (6, .slice (some ⟨b, 0, none⟩) 2 2), (7, .int .i64 2), (8, .int .i64 (i : Int))]) (fun _ => G) (fun _ => [.blk b (.cells #[.int .i64 x, .int .i64 y] 3 (0, 0))]) (fun i => 2 - i) (fun i => i ≤ 2 ∧ (1 ≤ i → x = 0) ∧ (2 ≤ i → y = 0)) 0 ⟨by omega, by omega, by omega⟩ (by exact ⟨rfl, rfl, rfl, rfl, trivial⟩) rfl (List.Sublist.refl _) fun x_1 hx => ?_
 refine WC.seq ?_
 refine WC.region ?_
 refine zw.lt ?_
 refine WL.nil ?_
 refine WK.un ?_
 refine WC.seq ?_
 obtain ⟨hi, hx0, hy0⟩ := hx
 refine WC.cond rfl (fun hc1 => ?_) (fun hc1 => ?_)
 ·-- yes
  have hlt : x_1 < 2 := by have h := hc1; simp at h; omega
  refine WC.skip ?_
  refine WK.un ?_
  refine WC.seq ?_
  refine WC.block ?_  -- 1
  refine WC.seq ?_
  obtain ⟨z, hz, hz1, hz2⟩ : ∃ z : Int, (#[Value.int .i64 x, Value.int .i64 y])[0 + ((x_1 : Int)).toNat * 1]? = some (.int .i64 z) ∧ (z = 0 → (1 ≤ x_1 + 1 → x = 0) ∧ (2 ≤ x_1 + 1 → y = 0)) ∧ (z ≠ 0 → z = if x = 0 then y else x) := by
   rcases Nat.lt_or_ge x_1 1 with h | h
   ·obtain rfl : x_1 = 0 := by omega
    exact ⟨x, rfl, fun h => ⟨fun _ => h, fun h' => by omega⟩, fun h => by rw [if_neg h]⟩
   ·obtain rfl : x_1 = 1 := by omega
    exact ⟨y, rfl, fun h => ⟨fun _ => hx0 (by omega), fun _ => h⟩, fun h => by rw [if_pos (hx0 (by omega))]⟩
  refine WC.region ?_
  refine zw.ix ?_
  refine WL.vv (Gv.load1 rfl .here hz) ?_
  refine zw.assign ?_
  refine WL.nil ?_
  refine WK.un ?_
  refine WC.seq ?_
  refine WC.region ?_
  refine zw.move ?_
  refine zw.move ?_
  refine zw.ne ?_
  refine WL.nil ?_
  refine WK.un ?_
  refine WC.cond rfl (fun hc2 => ?_) (fun hc2 => ?_)
  ·-- yes
   refine WC.seq ?_
   refine WC.region ?_
   refine zw.move ?_
   refine zw.assign ?_
   refine WL.nil ?_
   refine WK.un ?_
   refine WC.ret ?_
   (refine WK.un ?_)
   exact QF.ret1 (.inl rfl) rfl (.tmp rfl) (List.nil_sublist _) ⟨by rw [hz2 (by simpa using hc2)], rfl, rfl⟩
  ·-- no
   have hz0 : z = 0 := by simpa using hc2
   refine WC.skip ?_
   refine WK.un ?_
   refine WC.region ?_
   refine zw.add ?_
   refine zw.move ?_
   refine WL.nil ?_
   refine WK.un ?_
   exact WK.again (x_1 + 1) (by omega) ⟨by omega, (hz1 hz0).1, (hz1 hz0).2⟩ (by refine ⟨rfl, rfl, rfl, ?_, trivial⟩; show some _ = some _; rw [wrap_small (by omega) (by omega)]; rfl) rfl (List.Sublist.refl _)
 ·-- no
  have hge : 2 ≤ x_1 := by have h := hc1; simp at h; omega
  refine WC.exit ?_
  refine WK.un ?_
  refine WC.seq ?_
  refine WC.region ?_
  refine zw.move ?_
  refine zw.assign ?_
  refine WL.nil ?_
  refine WK.un ?_
  refine WC.ret ?_
  (refine WK.un ?_)
  exact QF.ret1 (.inl rfl) rfl (.tmp rfl) (List.nil_sublist _) ⟨by rw [hx0 (by omega), hy0 hge]; rfl, rfl, rfl⟩
def reckonS (c a b : Int) : Option Int :=
 if c = 18 then some (IntKind.i64.wrap (a + b)) else if c = 19 then some (IntKind.i64.wrap (a - b)) else if c = 21 then some (IntKind.i64.wrap (a * b))
 else if c = 22 then (if b = 0 then none else some (IntKind.i64.wrap (a.tdiv b))) else if c = 23 then (if b = 0 then none else some (a.tmod b)) else none
theorem wrap_sub (a b : Int) : IntKind.i64.wrap (a + IntKind.i64.wrap (-b)) = IntKind.i64.wrap (a - b) := by simp only [IntKind.wrap_i64]; omega
theorem reckon_fn (G : Gh) (c a b : Int) : Fn Tryz.prog 217 #[.int .i64 c, .int .i64 a, .int .i64 b] G [] fun e G' H' => (match reckonS c a b with | some n => e = .returned (.int .i64 n) | none => e = halted 2) ∧ G = G' ∧ H' = [] := by
 refine Fn.enter Tryz.func217 rfl rfl fun w0 => ?_
 refine WC.seq ?_
 refine WC.region ?_
 refine zw.assign ?_
 refine WL.nil ?_
 refine WK.un ?_
 refine WC.seq ?_
 refine WC.seq ?_
 refine WC.region ?_
 refine zw.move ?_
 refine WL.nil ?_
 refine WK.un ?_
 refine WC.block ?_  -- 0
 refine WC.seq ?_
 refine WC.region ?_
 refine zw.eq ?_
 refine zw.assign ?_
 refine WL.nil ?_
 refine WK.un ?_
 refine WC.cond rfl (fun hc1 => ?_) (fun hc1 => ?_)
 ·-- yes
  refine WC.seq ?_
  refine WC.region ?_
  refine zw.move ?_
  refine zw.move ?_
  refine zw.add ?_
  refine zw.assign ?_
  refine WL.nil ?_
  refine WK.un ?_
  refine WC.ret ?_
  (refine WK.un ?_)
  exact QF.ret1 (.inl rfl) rfl (.tmp rfl) (List.nil_sublist _) ⟨by simp_all [reckonS], rfl, rfl⟩
 ·-- no
  refine WC.seq ?_
  refine WC.region ?_
  refine zw.eq ?_
  refine zw.assign ?_
  refine WL.nil ?_
  refine WK.un ?_
  refine WC.cond rfl (fun hc2 => ?_) (fun hc2 => ?_)
  ·-- yes
   refine WC.seq ?_
   refine WC.region ?_
   refine zw.move ?_
   refine zw.neg ?_
   refine zw.assign ?_
   refine WL.nil ?_
   refine WK.un ?_
   refine WC.seq ?_
   refine WC.region ?_
   refine zw.move ?_
   refine zw.move ?_
   refine zw.add ?_
   refine zw.assign ?_
   refine WL.nil ?_
   refine WK.un ?_
   refine WC.ret ?_
   (refine WK.un ?_)
   exact QF.ret1 (.inl rfl) rfl (.tmp rfl) (List.nil_sublist _) ⟨by simp_all [reckonS, wrap_sub], rfl, rfl⟩
  ·-- no
   refine WC.seq ?_
   refine WC.region ?_
   refine zw.eq ?_
   refine zw.assign ?_
   refine WL.nil ?_
   refine WK.un ?_
   refine WC.cond rfl (fun hc3 => ?_) (fun hc3 => ?_)
   ·-- yes
    refine WC.seq ?_
    refine WC.region ?_
    refine zw.move ?_
    refine zw.move ?_
    refine zw.mul ?_
    refine zw.assign ?_
    refine WL.nil ?_
    refine WK.un ?_
    refine WC.ret ?_
    (refine WK.un ?_)
    exact QF.ret1 (.inl rfl) rfl (.tmp rfl) (List.nil_sublist _) ⟨by simp_all [reckonS], rfl, rfl⟩
   ·-- no
    refine WC.seq ?_
    refine WC.region ?_
    refine zw.eq ?_
    refine zw.assign ?_
    refine WL.nil ?_
    refine WK.un ?_
    refine WC.cond rfl (fun hc4 => ?_) (fun hc4 => ?_)
    ·-- yes
     refine WC.seq ?_
     refine WC.region ?_
     refine zw.move ?_
     refine zw.ne ?_
     refine WL.nil ?_
     refine WK.un ?_
     refine WC.cond rfl (fun hc5 => ?_) (fun hc5 => ?_)
     ·-- yes
      refine WC.seq ?_
      refine WC.region ?_
      refine zw.move ?_
      refine zw.move ?_
      refine WL.pp (Gp.quo rfl rfl (by simpa using ‹(b != 0) = true›)) ?_
      refine zw.assign ?_
      refine WL.nil ?_
      refine WK.un ?_
      refine WC.ret ?_
      (refine WK.un ?_)
      exact QF.ret1 (.inl rfl) rfl (.tmp rfl) (List.nil_sublist _) ⟨by simp_all [reckonS], rfl, rfl⟩
     ·-- no
      refine WC.skip ?_
      refine WK.un ?_
      refine WC.region ?_
      refine zw.build ?_
      refine zw.iface ?_
      refine WL.oo (OW.panic rfl ?_)
      refine WK.un ?_
      exact QF.panic (List.nil_sublist _) ⟨by simp_all [reckonS, halted]; rfl, rfl, rfl⟩
    ·-- no
     refine WC.seq ?_
     refine WC.region ?_
     refine zw.eq ?_
     refine zw.assign ?_
     refine WL.nil ?_
     refine WK.un ?_
     refine WC.cond rfl (fun hc6 => ?_) (fun hc6 => ?_)
     ·-- yes
      refine WC.seq ?_
      refine WC.region ?_
      refine zw.move ?_
      refine zw.ne ?_
      refine WL.nil ?_
      refine WK.un ?_
      refine WC.cond rfl (fun hc7 => ?_) (fun hc7 => ?_)
      ·-- yes
       refine WC.seq ?_
       refine WC.region ?_
       refine zw.move ?_
       refine zw.move ?_
       refine WL.pp (Gp.rem rfl rfl (by simpa using ‹(b != 0) = true›)) ?_
       refine zw.assign ?_
       refine WL.nil ?_
       refine WK.un ?_
       refine WC.ret ?_
       (refine WK.un ?_)
       exact QF.ret1 (.inl rfl) rfl (.tmp rfl) (List.nil_sublist _) ⟨by simp_all [reckonS], rfl, rfl⟩
      ·-- no
       refine WC.skip ?_
       refine WK.un ?_
       refine WC.region ?_
       refine zw.build ?_
       refine zw.iface ?_
       refine WL.oo (OW.panic rfl ?_)
       refine WK.un ?_
       exact QF.panic (List.nil_sublist _) ⟨by simp_all [reckonS, halted]; rfl, rfl, rfl⟩
     ·-- no
      refine WC.skip ?_
      refine WK.un ?_
      refine WC.region ?_
      refine zw.build ?_
      refine zw.iface ?_
      refine WL.oo (OW.panic rfl ?_)
      refine WK.un ?_
      exact QF.panic (List.nil_sublist _) ⟨by simp_all [reckonS, halted]; rfl, rfl, rfl⟩
end
section
attribute [local irreducible] Tryz.prog
abbrev frB (b : Nat) (A : Option Addr) (n cap : Nat) (p a : Int) (B : Option Addr) (m cm : Nat) : Own := .blk b (.cells (frC A n cap p a B m cm) 245 (0, 0))
abbrev VVec (A : Option Addr) (cap : Nat) (l : List V) (x : Own) : Prop := Vec 52 4 A l.length cap (vflat l) x
def Left (b : Nat) (H : List Own) : Prop := ∃ c : Array Value, c.size = 4 ∧ H = [.blk b (.cells c 245 (0, 0))]
theorem Left.of (b : Nat) (A : Option Addr) (n cap : Nat) (p a : Int) (B : Option Addr) (m cm : Nat) : Left b [frB b A n cap p a B m cm] := ⟨_, rfl, rfl⟩
theorem lay_ok (G : Gh) (mv : Value) (b : Nat) (A : Option Addr) (cap : Nat) (p a : Int) (B : Option Addr) (m cm : Nat) (l : List V) (x : Own) (v : V) (hv : VVec A cap l x) (hb : l.length < 128) :
  Fn Tryz.prog 194 #[mv, .pointer (some ⟨b, 0, none⟩), .agg #[.int .i64 v.t, .int .i64 v.i, .bool v.b, .string v.s]] G [frB b A l.length cap p a B m cm, x]
   fun e G' H' => ∃ A' cap' x', e = .returned (.tuple #[]) ∧ G = G' ∧ H' = [frB b A' (l ++ [v]).length cap' p a B m cm, x'] ∧ VVec A' cap' (l ++ [v]) x' := by
 refine Fn.enter Tryz.func194 rfl rfl fun w0 => ?_
 refine WC.seq ?_
 refine WC.region ?_
 refine WL.oo (OW.box rfl rfl fun b1 => ?_)
 refine WL.nil ?_
 refine WK.un ?_
 refine WC.seq ?_
 refine WC.region ?_
 refine zw.move ?_
 refine zw.nil ?_
 refine zw.fa ?_
 refine WL.oo (OW.callR rfl (perm_at (.there .here)) (high_fn G _ _ _ _ _ _ _ _ _) rfl (by rintro e G' H' ⟨h, _⟩; exact ⟨_, h⟩) fun v' G' H' h hg => ?_)
 obtain ⟨he, rfl, rfl⟩ := h
 cases he
 refine zw.lt ?_
 rw [show decide ((l.length : Int) < 128) = true by simp; omega]
 refine WL.oo (OW.callR rfl (Hf := []) (List.Perm.refl _) (need_ok G) rfl (by rintro e G' H' ⟨h, _⟩; exact ⟨_, h⟩) fun v' G' H' h hg => ?_)
 obtain ⟨he, rfl, rfl⟩ := h
 cases he
 refine WL.nil ?_
 refine WK.un ?_
 refine WC.draw mixed ?_
 refine za.move 0 ?_
 refine za.nil 1 ?_
 refine za.fa 2 ?_
 refine za.ld 3 ?_
 refine WA.oo 4 rfl (OW.callR rfl (Hf := [frB b A l.length cap p a B m cm, x]) (F := [.blk b1 _]) (List.Perm.cons _ (List.Perm.swap _ _ _)) (push_fn G b A l.length cap p a B m cm (vflat l) x v hv (by omega)) rfl (by rintro e G' H' ⟨_, _, _, h, _⟩; exact ⟨_, h⟩) fun v' G' H' h hg => ?_)
 obtain ⟨A', cap', x', he, rfl, rfl, hv'⟩ := h
 cases he
 refine WA.done kr ?_
 refine WK.un ?_
 exact QF.ret0 (.inr rfl) rfl (H' := [frB b A' (l.length + 1) cap' p a B m cm, x']) (by exact .cons_cons _ (.cons_cons _ (List.nil_sublist _))) ⟨A', cap', x', rfl, rfl, by simp, by
  have e1 : vflat (l ++ [v]) = vflat l ++ vcells v := by rw [vflat_append]; simp [vflat]
  have e2 : (l ++ [v]).length = l.length + 1 := by simp
  unfold VVec; rw [e1, e2]; exact hv'⟩
theorem lay_no (G : Gh) (mv : Value) (b : Nat) (A : Option Addr) (n cap : Nat) (p a : Int) (B : Option Addr) (m cm : Nat) (vv : Value) (hb : 128 ≤ n) :
  Fn Tryz.prog 194 #[mv, .pointer (some ⟨b, 0, none⟩), vv] G [frB b A n cap p a B m cm]
   fun e G' H' => e = halted 6 ∧ G = G' ∧ Left b H' := by
 refine Fn.enter Tryz.func194 rfl rfl fun w0 => ?_
 refine WC.seq ?_
 refine WC.region ?_
 refine WL.oo (OW.box rfl rfl fun b1 => ?_)
 refine WL.nil ?_
 refine WK.un ?_
 refine WC.seq ?_
 refine WC.region ?_
 refine zw.move ?_
 refine zw.nil ?_
 refine zw.fa ?_
 refine WL.oo (OW.callR rfl (perm_at (.there .here)) (high_fn G _ _ _ _ _ _ _ _ _) rfl (by rintro e G' H' ⟨h, _⟩; exact ⟨_, h⟩) fun v' G' H' h hg => ?_)
 obtain ⟨he, rfl, rfl⟩ := h
 cases he
 refine zw.lt ?_
 rw [show decide ((n : Int) < 128) = false by simp; omega]
 refine WL.oo (OW.call rfl (Hf := []) (List.Perm.refl _) (need_no G) rfl (fun v G' H' h _ => by cases h.1) (fun ch G' H' h _ => ?_) (fun G' H' h => by cases h.1))
 obtain ⟨he, rfl, rfl⟩ := h
 cases he
 refine WK.un ?_
 exact QF.panic (H' := [frB b A n cap p a B m cm]) (by exact .cons_cons _ (List.nil_sublist _)) ⟨rfl, rfl, Left.of ..⟩
theorem take_ok (G : Gh) (mv : Value) (b : Nat) (A : Option Addr) (cap : Nat) (p a : Int) (B : Option Addr) (m cm : Nat) (l1 l2 : List V) (x : Own) (hv : VVec A cap (l1 ++ l2) x) (hb : l1.length + l2.length ≤ 1000000000) :
  Fn Tryz.prog 195 #[mv, .pointer (some ⟨b, 0, none⟩), .int .i64 l2.length] G [frB b A (l1 ++ l2).length cap p a B m cm, x]
   fun e G' H' => ∃ A' cap' x', e = .returned (.slice A' l2.length cap') ∧ G = G' ∧ H' = [x', frB b A l1.length cap p a B m cm, x] ∧ VVec A' cap' l2 x' ∧ VVec A cap l1 x := by
 have e0 : (l1 ++ l2).length = l1.length + l2.length := List.length_append
 rw [e0]
 unfold VVec at hv
 rw [e0] at hv
 refine Fn.enter Tryz.func195 rfl rfl fun w0 => ?_
 refine WC.seq ?_
 refine WC.region ?_
 refine zw.assign ?_
 refine WL.nil ?_
 refine WK.un ?_
 refine WC.seq ?_
 refine WC.region ?_
 refine zw.move ?_
 refine zw.nil ?_
 refine zw.fa ?_
 refine WL.oo (OW.callR rfl (perm_at .here) (high_fn G _ _ _ _ _ _ _ _ _) rfl (by rintro e G' H' ⟨h, _⟩; exact ⟨_, h⟩) fun v' G' H' h hg => ?_)
 obtain ⟨he, rfl, rfl⟩ := h
 cases he
 refine zw.move ?_
 refine zw.ge ?_
 rw [show decide ((l2.length : Int) ≤ ((l1.length + l2.length : Nat) : Int)) = true by simp; omega]
 refine WL.oo (OW.callR rfl (Hf := []) (List.Perm.refl _) (need_ok G) rfl (by rintro e G' H' ⟨h, _⟩; exact ⟨_, h⟩) fun v' G' H' h hg => ?_)
 obtain ⟨he, rfl, rfl⟩ := h
 cases he
 refine WL.nil ?_
 refine WK.un ?_
 refine WC.seq ?_
 refine WC.region ?_
 refine zw.move ?_
 refine zw.nil ?_
 refine zw.fa ?_
 refine zw.move ?_
 refine WL.oo (OW.callR rfl (perm_all _) (pop_fn G b A cap p a B m cm l1 l2 x hv hb) rfl (by rintro e G' H' ⟨_, _, _, h, _⟩; exact ⟨_, h⟩) fun v' G' H' h hg => ?_)
 obtain ⟨A', cap', x', he, rfl, rfl, hv1, hv2⟩ := h
 cases he
 refine zw.assign ?_
 refine WL.nil ?_
 refine WK.un ?_
 refine WC.ret ?_
 (refine WK.un ?_)
 exact QF.ret1 (.inl rfl) rfl (.tmp rfl) (List.Sublist.refl _) ⟨A', cap', x', rfl, rfl, rfl, hv1, hv2⟩
theorem take_no (G : Gh) (mv : Value) (b : Nat) (A : Option Addr) (n cap : Nat) (p a : Int) (B : Option Addr) (m cm : Nat) (k : Int) (hb : (n : Int) < k) :
  Fn Tryz.prog 195 #[mv, .pointer (some ⟨b, 0, none⟩), .int .i64 k] G [frB b A n cap p a B m cm]
   fun e G' H' => e = halted 6 ∧ G = G' ∧ Left b H' := by
 refine Fn.enter Tryz.func195 rfl rfl fun w0 => ?_
 refine WC.seq ?_
 refine WC.region ?_
 refine zw.assign ?_
 refine WL.nil ?_
 refine WK.un ?_
 refine WC.seq ?_
 refine WC.region ?_
 refine zw.move ?_
 refine zw.nil ?_
 refine zw.fa ?_
 refine WL.oo (OW.callR rfl (perm_at .here) (high_fn G _ _ _ _ _ _ _ _ _) rfl (by rintro e G' H' ⟨h, _⟩; exact ⟨_, h⟩) fun v' G' H' h hg => ?_)
 obtain ⟨he, rfl, rfl⟩ := h
 cases he
 refine zw.move ?_
 refine zw.ge ?_
 rw [show decide (k ≤ (n : Int)) = false by simp; omega]
 refine WL.oo (OW.call rfl (Hf := []) (List.Perm.refl _) (need_no G) rfl (fun v G' H' h _ => by cases h.1) (fun ch G' H' h _ => ?_) (fun G' H' h => by cases h.1))
 obtain ⟨he, rfl, rfl⟩ := h
 cases he
 refine WK.un ?_
 exact QF.panic (H' := [frB b A n cap p a B m cm]) (List.Sublist.refl _) ⟨rfl, rfl, Left.of ..⟩
end
section
attribute [local irreducible] Tryz.prog
theorem vflat_elem : ∀ (l : List V) (i : Nat) (v : V), l[i]? = some v → ((vflat l).drop (i * 4)).take 4 = vcells v
 | [], i, v, h => by simp at h
 | u :: l, 0, v, h => by simp at h; subst h; simp [vflat, vcells]
 | u :: l, i + 1, v, h => by
  have ih := vflat_elem l i v (by simpa using h)
  have e : vflat (u :: l) = vcells u ++ vflat l := by simp [vflat]
  rw [e, List.drop_append, List.drop_eq_nil_of_le (by simp [vcells]; omega), List.nil_append]
  rw [show (i + 1) * 4 - (vcells u).length = i * 4 by simp [vcells]; omega]
  exact ih
theorem take_drop_of_take {α : Type} (c l : List α) (n i k : Nat) (h : c.take n = l) (hk : i + k ≤ n) : (c.drop i).take k = (l.drop i).take k := by
 subst h
 apply List.ext_getElem?
 intro j
 simp only [List.getElem?_take, List.getElem?_drop]
 by_cases hj : j < k
 ·simp [hj, show i + j < n by omega]
 ·simp [hj]
theorem VVec.elem {A : Option Addr} {cap : Nat} {l : List V} {b : Nat} {c : Array Value} {i : Nat} {v : V} (hl : c.toList.take (l.length * 4) = vflat l) (hi : l[i]? = some v) : (c.toList.drop (0 + ((i : Nat) : Int).toNat * 4)).take 4 = vcells v := by
 have hlt : i < l.length := (List.getElem?_eq_some_iff.1 hi).1
 rw [Int.toNat_natCast, Nat.zero_add, take_drop_of_take _ _ _ _ _ hl (by omega)]
 exact vflat_elem l i v hi
theorem typed_fnQ (G : Gh) (mv : Value) (b : Nat) (A : Option Addr) (cap : Nat) (p a : Int) (B : Option Addr) (m cm : Nat) (l1 l2 : List V) (x : Own) (t : Int) (hv : VVec A cap (l1 ++ l2) x) (hb : l1.length + l2.length ≤ 1000000000) :
  Fn Tryz.prog 196 #[mv, .pointer (some ⟨b, 0, none⟩), .int .i64 l2.length, .int .i64 t] G [frB b A (l1 ++ l2).length cap p a B m cm, x]
   fun e G' H' => G = G' ∧ ((∃ A' cap' x', e = .returned (.slice A' l2.length cap') ∧ (∀ v ∈ l2, v.t = t) ∧ H' = [x', frB b A l1.length cap p a B m cm, x] ∧ VVec A' cap' l2 x' ∧ VVec A cap l1 x) ∨ (e = halted 6 ∧ (∃ v ∈ l2, v.t ≠ t) ∧ Left b H')) := by
 refine Fn.enter Tryz.func196 rfl rfl fun w0 => ?_
 refine WC.seq ?_
 refine WC.region ?_
 refine zw.assign ?_
 refine WL.nil ?_
 refine WK.un ?_
 refine WC.seq ?_
 refine WC.region ?_
 refine zw.move ?_
 refine zw.move ?_
 refine zw.move ?_
 refine WL.oo (OW.callR rfl (perm_all _) (take_ok G mv b A cap p a B m cm l1 l2 x hv hb) rfl (by rintro e G' H' ⟨_, _, _, h, _⟩; exact ⟨_, h⟩) fun v' G' H' h hg => ?_)
 obtain ⟨A', cap', x', he, rfl, rfl, hv1, hv2⟩ := h
 cases he
 refine zw.assign ?_
 refine WL.nil ?_
 refine WK.un ?_
 refine WC.seq ?_
 refine WC.seq ?_
 refine WC.region ?_
 refine zw.move ?_
 refine zw.len ?_
 refine zw.move ?_
 refine WL.nil ?_
 refine WK.un ?_
 refine WC.block ?_  -- 0
 refine WC.loop (X := Nat) (fun i => [(18, .int .i64 (i : Int)), (17, .int .i64 l2.length), (16, .slice A' l2.length cap'), (9, .slice A' l2.length cap'), (3, .int .i64 t)]) (fun _ => G) (fun _ => [x', frB b A l1.length cap p a B m cm, x]) (fun i => l2.length - i) (fun i => i ≤ l2.length ∧ ∀ j u, j < i → l2[j]? = some u → u.t = t) 0 ⟨Nat.zero_le _, fun j u h => by omega⟩ (by exact ⟨rfl, rfl, rfl, rfl, rfl, trivial⟩) rfl (List.Sublist.refl _) fun i hx => ?_
 obtain ⟨hi, hall⟩ := hx
 refine WC.seq ?_
 refine WC.region ?_
 refine zw.lt ?_
 refine WL.nil ?_
 refine WK.un ?_
 refine WC.seq ?_
 refine WC.cond rfl (fun hc2 => ?_) (fun hc2 => ?_)
 ·-- yes
  have hlt : i < l2.length := by have h := hc2; simp at h; omega
  obtain ⟨v, hvi⟩ : ∃ v, l2[i]? = some v := ⟨_, List.getElem?_eq_getElem hlt⟩
  refine WC.skip ?_
  refine WK.un ?_
  refine WC.seq ?_
  refine WC.block ?_  -- 1
  refine WC.seq ?_
  refine WC.region ?_
  obtain ⟨hl, ⟨h1, h2, h3, h4⟩ | ⟨b', c, rfl, rfl, h1, h2, h3⟩⟩ := hv1
  ·omega
  refine zw.ix ?_
  refine WL.vv (Gv.loadN rfl .here (VVec.elem (A := none) (cap := 0) (b := 0) h3 hvi) rfl) ?_
  refine WL.oo (OW.alloc rfl fun b3 => ?_)
  refine zw.st ?_
  refine WL.nil ?_
  refine WK.un ?_
  refine WC.region ?_
  refine zw.fa ?_
  refine zw.ld ?_
  refine zw.move ?_
  refine zw.eq ?_
  by_cases ht : v.t = t
  ·rw [show (v.t == t) = true by simpa using ht]
   refine WL.oo (OW.callR rfl (Hf := []) (List.Perm.refl _) (need_ok G) rfl (by rintro e G' H' ⟨h, _⟩; exact ⟨_, h⟩) fun v' G' H' h hg => ?_)
   obtain ⟨he, rfl, rfl⟩ := h
   cases he
   refine WL.nil ?_
   refine WK.un ?_
   refine WC.region ?_
   refine zw.add ?_
   refine zw.move ?_
   refine WL.nil ?_
   refine WK.un ?_
   exact WK.again (i + 1) (by omega) ⟨by omega, fun j u hj hu => by
    rcases Nat.lt_or_ge j i with h | h
    ·exact hall j u h hu
    ·obtain rfl : j = i := by omega
     rw [hvi] at hu; cases hu; exact ht⟩ (by refine ⟨?_, rfl, rfl, rfl, rfl, trivial⟩; show some _ = some _; rw [wrap_small (by omega) (by omega)]; rfl) rfl (by exact .cons _ (List.Sublist.refl _))
  ·rw [show (v.t == t) = false by simpa using ht]
   refine WL.oo (OW.call rfl (Hf := []) (List.Perm.refl _) (need_no G) rfl (fun v G' H' h _ => by cases h.1) (fun ch G' H' h _ => ?_) (fun G' H' h => by cases h.1))
   obtain ⟨he, rfl, rfl⟩ := h
   cases he
   refine WK.un ?_
   exact QF.panic (H' := [frB b A l1.length cap p a B m cm]) (by exact .cons _ (.cons _ (.cons_cons _ (List.nil_sublist _)))) ⟨rfl, .inr ⟨rfl, ⟨v, List.mem_of_getElem? hvi, ht⟩, Left.of ..⟩⟩
 ·-- no
  have hge : i = l2.length := by have h := hc2; simp at h; omega
  refine WC.exit ?_
  refine WK.un ?_
  refine WC.seq ?_
  refine WC.region ?_
  refine zw.move ?_
  refine zw.assign ?_
  refine WL.nil ?_
  refine WK.un ?_
  refine WC.ret ?_
  (refine WK.un ?_)
  exact QF.ret1 (.inl rfl) rfl (.tmp rfl) (List.Sublist.refl _) ⟨rfl, .inl ⟨A', cap', x', rfl, fun v hvm => by obtain ⟨j, hj, rfl⟩ := List.getElem_of_mem hvm; exact hall j _ (by omega) (List.getElem?_eq_getElem hj), rfl, hv1, hv2⟩⟩
end
section
attribute [local irreducible] Tryz.prog
def ordN (u v : V) : Int := if cmpI u.i v.i = 0 then cmpS u.s v.s else cmpI u.i v.i
def ordS (c : Int) (u v : V) : Bool := if c = 14 then decide (ordN u v < 0) else if c = 15 then decide (ordN u v ≤ 0) else if c = 16 then decide (0 < ordN u v) else decide (0 ≤ ordN u v)
def ordOK (u v : V) : Prop := u.t = v.t ∧ (u.t = 1 ∨ u.t = 3)
theorem two_at {c : Array Value} {l : List Value} {n j : Nat} {w : Value} (h : c.toList.take n = l) (hw : l[j]? = some w) : c[j]? = some w := by
 subst h
 rw [List.getElem?_take] at hw
 split at hw
 ·rw [← Array.getElem?_toList]; exact hw
 ·cases hw
theorem two_lo {c : Array Value} {u v : V} {n j : Nat} {w : Value} (h : c.toList.take n = vflat [u, v]) (hw : (vcells u)[j]? = some w) : c[0 + (0 : Int).toNat * 4 + j]? = some w := by
 have hj : j < (vcells u).length := (List.getElem?_eq_some_iff.1 hw).1
 have e : (0 + (0 : Int).toNat * 4 + j) = j := by simp
 rw [e]
 refine two_at h ?_
 show (vcells u ++ (vcells v ++ []))[j]? = _
 rw [List.getElem?_append_left hj]; exact hw
theorem two_hi {c : Array Value} {u v : V} {n j : Nat} {w : Value} (h : c.toList.take n = vflat [u, v]) (hw : (vcells v)[j]? = some w) : c[0 + (1 : Int).toNat * 4 + j]? = some w := by
 have hj : j < (vcells v).length := (List.getElem?_eq_some_iff.1 hw).1
 have e : (0 + (1 : Int).toNat * 4 + j) = 4 + j := by simp
 rw [e]
 refine two_at h ?_
 show (vcells u ++ (vcells v ++ []))[4 + j]? = _
 rw [List.getElem?_append_right (by show 4 ≤ 4 + j; omega)]
 show (vcells v ++ [])[4 + j - 4]? = _
 rw [Nat.add_sub_cancel_left, List.append_nil]; exact hw
theorem ordered_fn (G : Gh) (mv : Value) (b : Nat) (A : Option Addr) (cap : Nat) (p a : Int) (B : Option Addr) (m cm : Nat) (l1 : List V) (u v : V) (x : Own) (c : Int) (hv : VVec A cap (l1 ++ [u, v]) x) (hb : l1.length + 2 ≤ 1000000000) :
  Fn Tryz.prog 216 #[mv, .pointer (some ⟨b, 0, none⟩), .int .i64 c] G [frB b A (l1 ++ [u, v]).length cap p a B m cm, x]
   fun e G' H' => G = G' ∧ ((e = .returned (.bool (ordS c u v)) ∧ ordOK u v ∧ H' = [frB b A l1.length cap p a B m cm, x] ∧ VVec A cap l1 x) ∨ (e = halted 6 ∧ ¬ ordOK u v ∧ Left b H')) := by
 refine Fn.enter Tryz.func216 rfl rfl fun w0 => ?_
 refine WC.seq ?_
 refine WC.region ?_
 refine zw.assign ?_
 refine WL.nil ?_
 refine WK.un ?_
 refine WC.seq ?_
 refine WC.region ?_
 refine zw.move ?_
 refine zw.move ?_
 refine WL.oo (OW.callR rfl (perm_all _) (take_ok G mv b A cap p a B m cm l1 [u, v] x hv hb) rfl (by rintro e G' H' ⟨_, _, _, h, _⟩; exact ⟨_, h⟩) fun v' G' H' h hg => ?_)
 obtain ⟨A', cap', x', he, rfl, rfl, hv1, hv2⟩ := h
 cases he
 refine zw.assign ?_
 refine WL.nil ?_
 refine WK.un ?_
 obtain ⟨hl, ⟨h1, h2, h3, h4⟩ | ⟨b', c', rfl, rfl, h1, h2, h3⟩⟩ := hv1
 ·simp at h2
 have hc0 : ∀ (j : Nat) (w : Value), (vcells u)[j]? = some w → c'[0 + (0 : Int).toNat * 4 + j]? = some w := fun j w hw => two_lo h3 hw
 have hc1 : ∀ (j : Nat) (w : Value), (vcells v)[j]? = some w → c'[0 + (1 : Int).toNat * 4 + j]? = some w := fun j w hw => two_hi h3 hw
 refine WC.join (X := Unit) (fun _ => [(7, .slice (some ⟨b', 0, none⟩) 2 cap'), (2, .int .i64 c)]) (fun _ => G) (fun _ => [.blk b' (.cells c' 52 (0, 0)), frB b A l1.length cap p a B m cm, x]) (fun _ => ordOK u v) ?_ fun _ hok => ?_
 ·refine WC.draw mixed ?_
  refine za.move 0 ?_
  refine za.ix 1 ?_
  refine za.fa 2 ?_
  refine WA.vv 3 rfl (Gv.load1 rfl .here (hc0 0 _ rfl)) ?_
  refine za.move 4 ?_
  refine za.ix 5 ?_
  refine za.fa 6 ?_
  refine WA.vv 7 rfl (Gv.load1 rfl .here (hc1 0 _ rfl)) ?_
  refine za.eq 8 ?_
  refine za.move 9 ?_
  by_cases e1 : u.t = v.t
  ·rw [show (u.t == v.t) = true by simpa using e1]
   refine za.move 10 ?_
   refine za.ix 11 ?_
   refine za.fa 12 ?_
   refine WA.vv 13 rfl (Gv.load1 rfl .here (hc0 0 _ rfl)) ?_
   refine za.eq 14 ?_
   refine za.move 15 ?_
   by_cases e2 : u.t = 1
   ·rw [show (u.t == 1) = true by simpa using e2]
    refine za.skip 16 ?_
    refine za.skip 17 ?_
    refine za.skip 18 ?_
    refine za.skip 19 ?_
    refine za.skip 20 ?_
    refine za.pick 21 ?_
    refine za.pick 22 ?_
    refine WA.oo 23 rfl (OW.callR rfl (Hf := []) (List.Perm.refl _) (need_ok G) rfl (by rintro e G' H' ⟨h, _⟩; exact ⟨_, h⟩) fun v' G' H' h hg => ?_)
    obtain ⟨he, rfl, rfl⟩ := h
    cases he
    refine WA.done kr ?_
    refine WK.un ?_
    exact WK.meet () ⟨e1, .inl e2⟩ (by exact ⟨rfl, rfl, trivial⟩) rfl (List.Sublist.refl _)
   ·rw [show (u.t == 1) = false by simpa using e2]
    refine za.move 16 ?_
    refine za.ix 17 ?_
    refine za.fa 18 ?_
    refine WA.vv 19 rfl (Gv.load1 rfl .here (hc0 0 _ rfl)) ?_
    refine za.eq 20 ?_
    refine za.pick 21 ?_
    refine za.pick 22 ?_
    by_cases e3 : u.t = 3
    ·rw [show (u.t == 3) = true by simpa using e3]
     refine WA.oo 23 rfl (OW.callR rfl (Hf := []) (List.Perm.refl _) (need_ok G) rfl (by rintro e G' H' ⟨h, _⟩; exact ⟨_, h⟩) fun v' G' H' h hg => ?_)
     obtain ⟨he, rfl, rfl⟩ := h
     cases he
     refine WA.done kr ?_
     refine WK.un ?_
     exact WK.meet () ⟨e1, .inr e3⟩ (by exact ⟨rfl, rfl, trivial⟩) rfl (List.Sublist.refl _)
    ·rw [show (u.t == 3) = false by simpa using e3]
     refine WA.oo 23 rfl (OW.call rfl (Hf := []) (List.Perm.refl _) (need_no G) rfl (fun v G' H' h _ => by cases h.1) (fun ch G' H' h _ => ?_) (fun G' H' h => by cases h.1))
     obtain ⟨he, rfl, rfl⟩ := h
     cases he
     refine WK.un ?_
     exact QF.panic (H' := [frB b A l1.length cap p a B m cm]) (by exact .cons _ (.cons_cons _ (List.nil_sublist _))) ⟨rfl, .inr ⟨rfl, fun h => h.2.elim e2 e3, Left.of ..⟩⟩
  ·rw [show (u.t == v.t) = false by simpa using e1]
   refine za.skip 10 ?_
   refine za.skip 11 ?_
   refine za.skip 12 ?_
   refine za.skip 13 ?_
   refine za.skip 14 ?_
   refine za.skip 15 ?_
   refine za.skip 16 ?_
   refine za.skip 17 ?_
   refine za.skip 18 ?_
   refine za.skip 19 ?_
   refine za.skip 20 ?_
   refine za.skip 21 ?_
   refine za.pick 22 ?_
   refine WA.oo 23 rfl (OW.call rfl (Hf := []) (List.Perm.refl _) (need_no G) rfl (fun v G' H' h _ => by cases h.1) (fun ch G' H' h _ => ?_) (fun G' H' h => by cases h.1))
   obtain ⟨he, rfl, rfl⟩ := h
   cases he
   refine WK.un ?_
   exact QF.panic (H' := [frB b A l1.length cap p a B m cm]) (by exact .cons _ (.cons_cons _ (List.nil_sublist _))) ⟨rfl, .inr ⟨rfl, fun h => e1 h.1, Left.of ..⟩⟩
 refine WC.seq ?_
 refine WC.drawB mixed ?_
 refine zb.move 0 ?_
 refine zb.ix 1 ?_
 refine zb.fa 2 ?_
 refine WB.vv 3 rfl (Gv.load1 rfl .here (hc0 1 _ rfl)) ?_
 refine zb.move 4 ?_
 refine zb.ix 5 ?_
 refine zb.fa 6 ?_
 refine WB.vv 7 rfl (Gv.load1 rfl .here (hc1 1 _ rfl)) ?_
 refine zb.move 9 ?_
 refine zb.ix 10 ?_
 refine zb.fa 11 ?_
 refine WB.vv 12 rfl (Gv.load1 rfl .here (hc0 3 _ rfl)) ?_
 refine zb.move 13 ?_
 refine zb.ix 14 ?_
 refine zb.fa 15 ?_
 refine WB.vv 16 rfl (Gv.load1 rfl .here (hc1 3 _ rfl)) ?_
 refine WB.oo 8 rfl (OW.callR rfl (Hf := []) (List.Perm.refl _) (compareI_fn G _ _) rfl (by rintro e G' H' ⟨h, _⟩; exact ⟨_, h⟩) fun v' G' H' h hg => ?_)
 obtain ⟨he, rfl, rfl⟩ := h
 cases he
 refine ⟨fun w hw => hw.leSub (Gh.le_refl _) (List.Sublist.refl _), ?_⟩
 refine WB.oo 17 rfl (OW.callR rfl (Hf := []) (List.Perm.refl _) (compareS_fn G _ _) rfl (by rintro e G' H' ⟨h, _⟩; exact ⟨_, h⟩) fun v' G' H' h hg => ?_)
 obtain ⟨he, rfl, rfl⟩ := h
 cases he
 refine ⟨fun w hw => hw.leSub (Gh.le_refl _) (List.Sublist.refl _), ?_⟩
 refine WB.one (i := 18) kr rfl kr (OW.buildSlice rfl kr kr (by rfl) rfl fun b3 => ?_)
 refine ⟨fun w hw => hw.leSub (Gh.le_refl _) (List.sublist_cons_self _ _), ?_⟩
 refine WB.oo 19 rfl (OW.callR rfl (perm_at .here) (or_fn G b3 _ _) rfl (by rintro e G' H' ⟨h, _⟩; exact ⟨_, h⟩) fun v' G' H' h hg => ?_)
 obtain ⟨he, rfl, rfl⟩ := h
 cases he
 refine ⟨fun w hw => hw.leSub (Gh.le_refl _) (List.Sublist.refl _), ?_⟩
 refine zb.assign 20 ?_
 refine WB.done kr ?_
 refine WK.un ?_
 refine WC.seq ?_
 refine WC.seq ?_
 refine WC.region ?_
 refine zw.move ?_
 refine WL.nil ?_
 refine WK.un ?_
 refine WC.block ?_  -- 0
 refine WC.seq ?_
 refine WC.region ?_
 refine zw.eq ?_
 refine zw.assign ?_
 refine WL.nil ?_
 refine WK.un ?_
 refine WC.cond rfl (fun hc2 => ?_) (fun hc2 => ?_)
 ·-- yes
  refine WC.seq ?_
  refine WC.region ?_
  refine zw.move ?_
  refine zw.lt ?_
  refine zw.assign ?_
  refine WL.nil ?_
  refine WK.un ?_
  refine WC.ret ?_
  (refine WK.un ?_)
  exact QF.ret1 (.inl rfl) rfl (.tmp rfl) (by exact .cons _ (List.Sublist.refl _)) ⟨rfl, .inl ⟨by rw [ordS, if_pos (show c = 14 by simpa using hc2)]; rfl, hok, rfl, hv2⟩⟩
 ·-- no
  have h14 : ¬ c = 14 := by simpa using hc2
  refine WC.seq ?_
  refine WC.region ?_
  refine zw.eq ?_
  refine zw.assign ?_
  refine WL.nil ?_
  refine WK.un ?_
  refine WC.cond rfl (fun hc2 => ?_) (fun hc2 => ?_)
  ·-- yes
   refine WC.seq ?_
   refine WC.region ?_
   refine zw.move ?_
   refine zw.le ?_
   refine zw.assign ?_
   refine WL.nil ?_
   refine WK.un ?_
   refine WC.ret ?_
   (refine WK.un ?_)
   exact QF.ret1 (.inl rfl) rfl (.tmp rfl) (by exact .cons _ (List.Sublist.refl _)) ⟨rfl, .inl ⟨by rw [ordS, if_neg h14, if_pos (show c = 15 by simpa using hc2)]; rfl, hok, rfl, hv2⟩⟩
  ·-- no
   have h15 : ¬ c = 15 := by simpa using hc2
   refine WC.seq ?_
   refine WC.region ?_
   refine zw.eq ?_
   refine zw.assign ?_
   refine WL.nil ?_
   refine WK.un ?_
   refine WC.cond rfl (fun hc2 => ?_) (fun hc2 => ?_)
   ·-- yes
    refine WC.seq ?_
    refine WC.region ?_
    refine zw.move ?_
    refine zw.gt ?_
    refine zw.assign ?_
    refine WL.nil ?_
    refine WK.un ?_
    refine WC.ret ?_
    (refine WK.un ?_)
    exact QF.ret1 (.inl rfl) rfl (.tmp rfl) (by exact .cons _ (List.Sublist.refl _)) ⟨rfl, .inl ⟨by rw [ordS, if_neg h14, if_neg h15, if_pos (show c = 16 by simpa using hc2)]; rfl, hok, rfl, hv2⟩⟩
   ·-- no
    have h16 : ¬ c = 16 := by simpa using hc2
    refine WC.skip ?_
    refine WK.un ?_
    refine WC.seq ?_
    refine WC.region ?_
    refine zw.move ?_
    refine zw.ge ?_
    refine zw.assign ?_
    refine WL.nil ?_
    refine WK.un ?_
    refine WC.ret ?_
    (refine WK.un ?_)
    exact QF.ret1 (.inl rfl) rfl (.tmp rfl) (by exact .cons _ (List.Sublist.refl _)) ⟨rfl, .inl ⟨by rw [ordS, if_neg h14, if_neg h15, if_neg h16]; rfl, hok, rfl, hv2⟩⟩
end
section
attribute [local irreducible] Tryz.prog
structure Pg where
 consts : List V
 procs : List Pr
abbrev mcC (c1 c2 c3 : Value) (FA : Option Addr) (n cap : Nat) (en : Int) (v : V) (OA : Option Addr) (on ocap : Nat) (st : Int) (ed : Bool) : Array Value :=
 #[c1, c2, c3, .slice FA n cap, .int .i64 en, .int .i64 v.t, .int .i64 v.i, .bool v.b, .string v.s, .slice OA on ocap, .int .i64 st, .bool ed]
abbrev mcB (mb : Nat) (c1 c2 c3 : Value) (FA : Option Addr) (n cap : Nat) (en : Int) (v : V) (OA : Option Addr) (on ocap : Nat) (st : Int) (ed : Bool) : Own := .blk mb (.cells (mcC c1 c2 c3 FA n cap en v OA on ocap st ed) 160 (0, 0))
def ptrs (bs : List Nat) : List Value := bs.map fun b => .pointer (some ⟨b, 0, none⟩)
abbrev PVec (A : Option Addr) (cap : Nat) (bs : List Nat) (x : Own) : Prop := Vec 241 1 A bs.length cap (ptrs bs) x
def sizedP (p : Pr) : Bool := decide ((p.params.length : Int) ≤ p.locals) && decide (p.locals ≤ 64)
theorem sized_fn (G : Gh) (nm : ByteArray) (ex : Bool) (PA : Option Addr) (n pc : Nat) (lo re : Int) (cv : Value) :
  Fn Tryz.prog 137 #[.agg #[.string nm, .bool ex, .slice PA n pc, .int .i64 lo, .int .i64 re, cv]] G [] fun e G' H' => e = .returned (.bool (decide ((n : Int) ≤ lo) && decide (lo ≤ 64))) ∧ G = G' ∧ H' = [] := by
 refine Fn.enter Tryz.func137 rfl rfl fun w0 => ?_
 refine WC.seq ?_
 refine WC.region ?_
 refine WL.oo (OW.box rfl rfl fun b1 => ?_)
 refine zw.assign ?_
 refine WL.nil ?_
 refine WK.un ?_
 refine WC.seq ?_
 refine WC.region ?_
 refine zw.fa ?_
 refine zw.ld ?_
 refine zw.fa ?_
 refine zw.ld ?_
 refine zw.len ?_
 refine zw.ge ?_
 refine zw.move ?_
 generalize hb : decide ((n : Int) ≤ lo) = b
 cases b
 all_goals (first | refine WL.p (Gp.fieldAddr rfl) (by rfl) rfl ?_ | refine WL.skip (by rfl) rfl ?_)
 all_goals (first | (first | (refine WL.v (Gv.load1 rfl atA (by first | rfl | assumption)) (by rfl) rfl ?_) | (refine WL.v (Gv.loadN rfl atA (by rfl) (by rfl)) (by rfl) rfl ?_) | (refine WL.v (Gv.loadG1 rfl (by assumption) rfl) (by rfl) rfl ?_) | (refine WL.v (Gv.loadG0 rfl (by assumption) rfl) (by rfl) rfl ?_) | (refine WL.v (Gv.loadGN rfl (by assumption) rfl) (by rfl) rfl ?_)) | refine WL.skip (by rfl) rfl ?_)
 all_goals (first | (first | refine WL.p (Gp.leI rfl rfl) (by rfl) rfl ?_ | refine WL.p (Gp.leS rfl rfl) (by rfl) rfl ?_) | refine WL.skip (by rfl) rfl ?_)
 all_goals (first | (first | refine WL.p (Gp.pickT rfl rfl) (by rfl) rfl ?_ | refine WL.p (Gp.pickF rfl rfl) (by rfl) rfl ?_) | refine WL.skip (by rfl) rfl ?_)
 all_goals (first | refine WL.p (Gp.assign rfl) (by rfl) rfl ?_ | refine WL.skip (by rfl) rfl ?_)
 all_goals refine WL.nil ?_
 all_goals (refine WK.un ?_)
 all_goals refine WC.ret ?_
 all_goals (refine WK.un ?_)
 all_goals exact QF.ret1 (.inl rfl) rfl (.tmp rfl) (List.nil_sublist _) ⟨by simp, rfl, rfl⟩
theorem top_fn (G : Gh) (mb : Nat) (c1 c2 c3 : Value) (FA : Option Addr) (cap : Nat) (en : Int) (v : V) (OA : Option Addr) (on ocap : Nat) (st : Int) (ed : Bool) (bs : List Nat) (b : Nat) (x : Own)
  (hv : PVec FA cap (bs ++ [b]) x) (hb : bs.length ≤ 1000000000) :
  Fn Tryz.prog 164 #[.pointer (some ⟨mb, 0, none⟩)] G [mcB mb c1 c2 c3 FA (bs ++ [b]).length cap en v OA on ocap st ed, x]
   fun e G' H' => e = .returned (.pointer (some ⟨b, 0, none⟩)) ∧ G = G' ∧ H' = [mcB mb c1 c2 c3 FA (bs ++ [b]).length cap en v OA on ocap st ed, x] := by
 have hlen : (bs ++ [b]).length = bs.length + 1 := by simp
 have hz : IntKind.i64.wrap (((bs ++ [b]).length : Int) - 1) = (bs.length : Int) := by rw [hlen, wrap_small (by omega) (by omega)]; omega
 obtain ⟨hl, ⟨h1, h2, h3, h4⟩ | ⟨b', c', rfl, rfl, h1, h2, h3⟩⟩ := id hv
 ·simp at h2
 refine Fn.enter Tryz.func164 rfl rfl fun w0 => ?_
 refine WC.seq ?_
 refine WC.region ?_
 refine zw.assign ?_
 refine WL.nil ?_
 refine WK.un ?_
 refine WC.seq ?_
 refine WC.draw mixed ?_
 refine za.move 0 ?_
 refine za.nil 1 ?_
 refine za.fa 2 ?_
 refine za.move 4 ?_
 refine za.nil 5 ?_
 refine za.fa 6 ?_
 refine za.ld 7 ?_
 refine za.len 8 ?_
 refine WA.pp 9 rfl (Gp.sub' rfl rfl hz) ?_
 refine za.ld 3 ?_
 refine za.ix 10 ?_
 refine WA.vv 11 rfl (Gv.load1 rfl (.there .here) (by have h := congrArg (fun l => l[bs.length]?) h3; simp [ptrs, hlen] at h; simpa using h)) ?_
 refine za.assign 12 ?_
 refine WA.done kr ?_
 refine WK.un ?_
 refine WC.ret ?_
 (refine WK.un ?_)
 exact QF.ret1 (.inl rfl) rfl (.tmp rfl) (List.Sublist.refl _) ⟨rfl, rfl, rfl⟩
theorem copied_fnQ (G : Gh) (b : Nat) (A : Option Addr) (cap : Nat) (p a : Int) (B : Option Addr) (cm : Nat) (l m : List V) (x y : Own) (hx : VVec A cap l x) (hy : VVec B cm m y) (hl : l.length ≤ 1000000000) (hm : m.length ≤ 1000000000) :
  Fn Tryz.prog 165 #[.pointer (some ⟨b, 0, none⟩)] G [frB b A l.length cap p a B m.length cm, x, y]
   fun e G' H' => ∃ A' cap' B' cm' x' y', e = .returned (.agg (frC A' l.length cap' p a B' m.length cm')) ∧ G = G' ∧ H' = [x', y', frB b A l.length cap p a B m.length cm, x, y] ∧ VVec A' cap' l x' ∧ VVec B' cm' m y' := by
 have none_zero : ∀ {A : Option Addr} {cap : Nat} {l : List V} {x : Own}, VVec A cap l x → A = none → l.length = 0 := by
  rintro A cap l x ⟨_, ⟨_, h, _⟩ | ⟨b, c, h, _⟩⟩ hA
  ·exact h
  ·rw [h] at hA; cases hA
 refine Fn.enter Tryz.func165 rfl rfl fun w0 => ?_
 refine WC.seq ?_
 refine WC.region ?_
 refine WL.oo (OW.alloc rfl fun b2 => ?_)
 refine WL.nil ?_
 refine WK.un ?_
 refine WC.seq ?_
 refine WC.region ?_
 refine zw.move ?_
 refine zw.nil ?_
 refine zw.ld ?_
 refine WL.oo (OW.alloc rfl fun b3 => ?_)
 refine zw.st ?_
 refine WL.nil ?_
 refine WK.un ?_
 refine WC.seq ?_
 refine WC.region ?_
 refine zw.move ?_
 refine zw.nil ?_
 refine zw.fa ?_
 refine zw.fa ?_
 refine zw.ld ?_
 refine WL.oo (OW.callK rfl (clone_vals G [frB b A l.length cap p a B m.length cm, x] A l.length cap (vflat l) (hx.rds (.there .here)) (vflat_length l) (vflat_one l) (none_zero hx) (by omega)) rfl fun v' G' H' h hg => ?_)
 obtain ⟨A', cap', x', he, rfl, rfl, hx'⟩ := h
 cases he
 refine zw.fa ?_
 refine zw.fa ?_
 refine zw.st ?_
 refine WL.nil ?_
 refine WK.un ?_
 refine WC.seq ?_
 refine WC.region ?_
 refine zw.move ?_
 refine zw.nil ?_
 refine zw.fa ?_
 refine zw.ld ?_
 refine WL.oo (OW.callK rfl (clone_vals G [frB b A l.length cap p a B m.length cm, y] B m.length cm (vflat m) (hy.rds (.there .here)) (vflat_length m) (vflat_one m) (none_zero hy) (by omega)) rfl fun v' G' H' h hg => ?_)
 obtain ⟨B', cm', y', he, rfl, rfl, hy'⟩ := h
 cases he
 refine zw.fa ?_
 refine zw.st ?_
 refine WL.nil ?_
 refine WK.un ?_
 refine WC.seq ?_
 refine WC.region ?_
 refine zw.ld ?_
 refine zw.st ?_
 refine WL.nil ?_
 refine WK.un ?_
 refine WC.rt ?_
 exact QF.p1 (.inl rfl) rfl (.cell rfl inferInstance inferInstance atA rfl rfl) (⟨A', cap', B', cm', x', y', rfl, rfl, rfl, hx', hy'⟩)
end
end Go.Proofs.YtcnlkfocbbkdhaaGreatDoor.Gb
