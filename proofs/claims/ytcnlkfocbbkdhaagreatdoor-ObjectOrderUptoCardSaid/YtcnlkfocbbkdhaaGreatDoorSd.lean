/- The verifier finds the least states of a procedure: walked. Whether what an instruction takes is of the right types; what is wrong with an instruction: walked. What is wrong with an instruction that is reached, and with the first such: walked. Values, heads, instructions by themselves: walked. Contracts of the library, laid at this program by the kit. From a contract of the small logic to what a row asks: of what was there nothing turns. Texts: single bytes, parts of texts; the library's contracts as those of the small logic. Words: walked. -/
import Derived.Test.YtcnlkfocbbkdhaaGreatDoorSc
import Derived.Shelf.Small.Strs
import Derived.Shelf.Strconv.Itoa0
import Derived.Shelf.Strconv.Itoa1
import Derived.Shelf.LaysM
import Derived.Shelf.Strconv.Itoa2
import Derived.Shelf.Strconv.Itoa3
import Derived.Shelf.Strconv.Itoa4
import Derived.Shelf.Strconv.ParseIntEmpty
import Derived.Shelf.Strconv.Clone
import Derived.Shelf.Strconv.SyntaxError
import Derived.Shelf.LaysC
import Derived.Shelf.Strconv.ToError
import Derived.Shelf.Strconv.Lower
import Derived.Shelf.Strconv.ParseUint10
import Derived.Shelf.Strconv.ParseUint10Empty
import Derived.Shelf.Strconv.ParseUint10Any
import Derived.Shelf.Strconv.ParseInt10
import Derived.Shelf.Strconv.RangeError
import Derived.Shelf.Strconv.ToErrorRange
import Derived.Shelf.Strconv.ParseUintEmpty
import Derived.Shelf.Strconv.ParseUint10b64
import Derived.Shelf.Strconv.ParseUint10b32
import Derived.Shelf.Strconv.ParseUint10b16
import Derived.Shelf.Strconv.ParseUint10b8
import Derived.Shelf.Strconv.ParseUint10At
import Derived.Shelf.Strconv.ParseInt10At64
import Derived.Shelf.Strconv.ParseInt10At32
import Derived.Shelf.Strconv.ParseInt10At16
import Derived.Shelf.Strconv.ParseInt10At8
import Derived.Shelf.Strconv.ParseInt10All
import Derived.Shelf.Strconv.ParseIntPublic10
import Derived.Shelf.Strings.Search1
import Derived.Shelf.Strings.Search2
import Derived.Shelf.Strings.Search3
import Derived.Shelf.Strings.Count
import Derived.Shelf.Strings.Shaped
import Derived.Shelf.Strings.Prefix
import Derived.Shelf.Strings.Split
import Derived.Shelf.Unicode.Decode
import Derived.Shelf.Strings.RuneCount
import Derived.Shelf.Strings.Explode
import Derived.Shelf.Unicode.DecodeSlow
import Derived.Shelf.Unicode.DecodeAny
import Derived.Test.YtcnlkfocbbkdhaaGreatDoorProg
import Derived.RowKit3
import Derived.Laws.Strings3
import Derived.Laws.BytesArg
import Derived.Lib.SmallJoins
set_option linter.unusedVariables false
set_option linter.unusedSimpArgs false
set_option linter.unusedSectionVars false
namespace Go.Proofs.YtcnlkfocbbkdhaaGreatDoor.Gb
open Go Go.Proofs
section
open Go.MapKept
attribute [local irreducible] Tryz.prog
structure FL where
 l : List SS
 m : List (Int × Value)
 G : Gh
 cs : List Value
 c : Array Value
 es : Array MapEntry
 ck : Nat
abbrev prC (p : Pr) (QA : Option Addr) (qc : Nat) (IA : Option Addr) (ic : Nat) : Array Value := #[.string p.name, .bool p.exp, .slice QA p.params.length qc, .int .i64 p.locals, .int .i64 p.result, .slice IA p.code.length ic]
abbrev prB (b : Nat) (p : Pr) (QA : Option Addr) (qc : Nat) (IA : Option Addr) (ic : Nat) : Own := .blk b (.cells (prC p QA qc IA ic) 47 (0, 0))
section
variable (G : Gh) (w : Wd) (p : Pr) (bw : Nat) (CA NA PA : Option Addr) (cc nc pc : Nat) (QA IA : Option Addr) (qc ic : Nat) (hW : WRep G w bw CA NA PA cc nc pc) (hQ : Sl (Kd.int .i64) G QA p.params) (hI : Sl Kd.ins G IA p.code) (hp : POk w p)
include hW hQ hI hp
theorem flow_fn :
  Fn Tryz.prog 91 #[.pointer (some ⟨bw, 0, none⟩), .agg (prC p QA qc IA ic)] G []
   fun e G' H' => ∃ bf TA tc l, e = .returned (.pointer (some ⟨bf, 0, none⟩)) ∧ G.le G' ∧ FRep G' p bf bw QA IA qc ic TA l.length tc ∧ Sl Kd.ss G' TA l ∧ l.length ≤ tc ∧ Least w p l ∧ H' = [] := by
 have hfew := hp.few
 have hpos := hp.pos
 have hpar := hp.par
 have hloc := hp.loc
 refine Fn.enter Tryz.func91 rfl rfl fun w0 => ?_
 refine WC.seq ?_
 refine WC.region ?_
 refine WL.oo (OW.box rfl rfl fun b3 => ?_)
 refine zw.assign ?_
 refine WL.nil ?_
 refine WK.un ?_
 refine WC.seq ?_
 refine WC.drawS (Hs := [prB b3 p QA qc IA ic]) mixed pkA ?_
 refine zb.move 0 ?_
 refine zb.fa 2 ?_
 refine zb.ld 3 ?_
 refine zb.len 4 ?_
 refine zb.ld 1 ?_
 refine WB.oo 5 rfl (OW.makeSlice (n := 4) (z := .agg #[.bool false, .bool false, .slice none 0 0, .slice none 0 0]) rfl rfl rfl (by omega) (by omega) (by omega) rfl fun tb o1 ho1 => ?_)
 rw [Int.toNat_natCast] at ho1 ⊢
 refine ⟨fun w hw => hw.pk pkA, ?_⟩
 refine zb.build 6 ?_
 refine WB.oo 7 rfl (OW.box rfl rfl fun b5 => ?_)
 refine ⟨fun w hw => hw.pk pkA, ?_⟩
 refine zb.assign 8 ?_
 refine WB.done kr ?_
 refine WK.un ?_
 refine WC.pick [.blk b5 (.cells #[.pointer (some ⟨bw, 0, none⟩), .string p.name, .bool p.exp, .slice QA p.params.length qc, .int .i64 p.locals, .int .i64 p.result, .slice IA p.code.length ic, .slice (some ⟨tb, 0, none⟩) p.code.length p.code.length] 201 (0, 0)), o1, prB b3 p QA qc IA ic] ?_
 refine WC.freezeC .here rfl fun G1 hg1 hf1 => ?_
 have hF : FRep G1 p b5 bw QA IA qc ic (some ⟨tb, 0, none⟩) p.code.length p.code.length := ⟨hf1, hQ.mono hg1, hI.mono hg1⟩
 refine WC.seq ?_
 refine WC.region ?_
 refine zw.fa ?_
 refine zw.ld ?_
 refine WL.oo (OW.makeSlice (n := 1) (z := .int .i64 0) rfl rfl rfl (by omega) (by omega) (by omega) rfl fun vb o2 ho2 => ?_)
 refine zw.build ?_
 refine WL.oo (OW.alloc rfl fun b6 => ?_)
 refine zw.st ?_
 refine WL.nil ?_
 refine WK.un ?_
 refine WC.seq ?_
 refine WC.region ?_
 refine zw.fa ?_
 refine zw.ld ?_
 refine zw.fa ?_
 refine zw.ld ?_
 refine WL.oo (OW.copy rfl rfl kr ho2 atA (hF.params.ints) (ints_length _) (ints_one _) (by omega) rfl fun o3 ho3 => ?_)
 refine WL.nil ?_
 refine WK.un ?_
 have hbl : (beginS p).vars.length = p.locals.toNat := by simp [beginS]; omega
 have hb3 : ints p.params ++ (repS p.locals.toNat (Value.int .i64 0).cells.toList).drop (p.params.length * 1) = ints (beginS p).vars := by
  rw [show (Value.int .i64 0).cells.toList = [Value.int .i64 0] from rfl, ints_rep, ← ints_drop, ← ints_append, Nat.mul_one, List.drop_replicate]; rfl
 rw [hb3] at ho3
 refine WC.frozenVec ho3 atA fun G2 hg2 z2 => ?_
 have hbs : Sl (Kd.int .i64) G2 (some ⟨vb, 0, none⟩) (beginS p).vars := IVec.sl z2
 have hbR : SRep G2 (beginS p) (some ⟨vb, 0, none⟩) p.locals.toNat none 0 := ⟨by omega, Nat.le_refl _, hbs, Sl.nil _ _ _⟩
 obtain ⟨xb, xc, hxb, rfl⟩ := ho1.isBlk hpos
 obtain rfl : tb = xb := by cases hxb; rfl
 have hF2 := hF.mono hg2
 have hfc := hF2.cells
 obtain ⟨_, hfit1, hput1⟩ := Vec.put (i := 0) ho1 hpos [.bool true, .bool false, .slice (some ⟨vb, 0, none⟩) p.locals.toNat p.locals.toNat, .slice none 0 0] rfl
 have hble1 : Nat.ble (0 + (0 : Int).toNat * 4 + 4) xc.size = true := Nat.ble_eq_true_of_le hfit1
 have x0 : (0 : Int) < (p.code.length : Int) := by omega
 refine gom ?_
 refine WQ.one kr kr (OW.store (n := 4) (cs := [.bool true, .bool false, .slice (some ⟨vb, 0, none⟩) p.locals.toNat p.locals.toNat, .slice none 0 0]) rfl rfl atA rfl rfl rfl hble1 rfl ?_ rfl)
 refine gom ?_
 refine WL.oo (OW.makeMap rfl fun bm => ?_)
 refine WL.oo (OW.insert (emb := fun n : Int => Value.int .i64 n) (key := 0) (v := .int .i64 1) rfl rfl rfl atA MRel.empty rfl fun es1 ck1 hm1 => ?_)
 refine gom ?_
 have hkv0 : KV Kd.ss G2 ((List.replicate p.code.length ss0).set 0 (beginS p)) ((repS p.code.length (Value.agg #[.bool false, .bool false, .slice none 0 0, .slice none 0 0]).cells.toList).take (0 * 4) ++ [.bool true, .bool false, .slice (some ⟨vb, 0, none⟩) p.locals.toNat p.locals.toNat, .slice none 0 0] ++ (repS p.code.length (Value.agg #[.bool false, .bool false, .slice none 0 0, .slice none 0 0]).cells.toList).drop (0 * 4 + [Value.bool true, .bool false, .slice (some ⟨vb, 0, none⟩) p.locals.toNat p.locals.toNat, .slice none 0 0].length)) := by
  refine KV.set (k := Kd.ss) (KV.rep (k := Kd.ss) (x := ss0) ⟨none, 0, none, 0, rfl, ⟨Nat.le_refl _, Nat.le_refl _⟩, Sl.nil _ _ _, Sl.nil _ _ _⟩ _) ?_ (by simpa using hpos)
  have h := hbR.kd
  rw [hbl] at h
  exact h
 refine WC.pick [.blk tb (.cells _ 203 (0, 0)), .blk bm (.map es1 ck1), prB b3 p QA qc IA ic] ?_
 refine WC.loop (X := FL) (fun x => [(3, .pointer (some ⟨b3, 0, none⟩)), (5, .pointer (some ⟨b5, 0, none⟩)), (7, .map (some bm))]) (fun x => x.G) (fun x => [.blk tb (.cells x.c 203 (0, 0)), .blk bm (.map x.es x.ck), prB b3 p QA qc IA ic]) (fun x => 2 * sumW p.locals.toNat x.l + x.m.length)
  (fun x => FInv w p x.l (x.m.map (·.1)) ∧ MRel (fun n : Int => Value.int .i64 n) (.int .i64) x.es x.ck x.m ∧ SVec (some ⟨tb, 0, none⟩) p.code.length p.code.length x.cs (.blk tb (.cells x.c 203 (0, 0))) ∧ KV Kd.ss x.G x.l x.cs ∧ G2.le x.G)
  ⟨(List.replicate p.code.length ss0).set 0 (beginS p), [(0, .int .i64 1)], G2, _, _, es1, ck1⟩ ⟨FInv.first hpar hpos, hm1, hput1, hkv0, Gh.le_refl _⟩ (by exact ⟨rfl, rfl, rfl, trivial⟩) rfl (List.Sublist.refl _) fun x hx => ?_
 obtain ⟨l, m, G3, cs, c, es, ck⟩ := x
 obtain ⟨hinv, hmr, hsv, hkv, hg3⟩ := hx
 dsimp only at hinv hmr hsv hkv hg3
 have hll := hinv.len
 have hF3 := hF2.mono hg3
 have hfc3 := hF3.cells
 refine WC.seq ?_
 refine WC.seq ?_
 refine WC.region ?_
 refine zw.move ?_
 refine WL.vv (Gv.lenMap (emb := fun n : Int => Value.int .i64 n) rfl atA hmr) ?_
 by_cases hm0 : m.length = 0
 ·have y0 : decide ((0 : Int) < (m.length : Int)) = false := decide_eq_false (by omega)
  refine gom ?_
  refine WC.frozenVec hsv .here fun G4 hg4 z4 => ?_
  have hm00 : m = [] := List.eq_nil_of_length_eq_zero hm0
  subst hm00
  refine WC.rt ?_
  exact QF.p1 (.inl rfl) rfl (.tmp rfl) (⟨b5, some ⟨tb, 0, none⟩, p.code.length, l, rfl, Gh.le_trans hg1 (Gh.le_trans hg2 (Gh.le_trans hg3 hg4)), by rw [hll]; exact hF3.mono hg4, (hkv.mono hg4).sl (by decide) z4, by omega, hinv.least, rfl⟩)
 have y0 : decide ((0 : Int) < (m.length : Int)) = true := decide_eq_true (by omega)
 refine gom ?_
 refine WL.oo (OW.rangeMap (emb := fun n : Int => Value.int .i64 n) rfl atA hmr rfl fun it hir => ?_)
 refine gom ?_
 refine WC.loop (X := Int × Array Nat × List (Int × Value)) (fun x => [(3, .pointer (some ⟨b3, 0, none⟩)), (5, .pointer (some ⟨b5, 0, none⟩)), (7, .map (some bm)), (8, .int .i64 x.1), (46, .pointer (some ⟨it, 0, none⟩))]) (fun x => G3)
  (fun x => [.blk it (.mapIter (some bm) ck x.2.1 ck), .blk tb (.cells c 203 (0, 0)), .blk bm (.map es ck), prB b3 p QA qc IA ic]) (fun x => x.2.2.length)
  (fun x => IRel (fun n : Int => Value.int .i64 n) es x.2.1 x.2.2 ∧ (∀ q ∈ m, q ∈ x.2.2 ∨ x.1 ≤ q.1) ∧ (x.1 = p.code.length ∨ x.1 ∈ m.map (·.1)) ∧ ∀ q ∈ x.2.2, q ∈ m)
  ((p.code.length : Int), #[], m) ⟨hir, fun q hq => .inl hq, .inl rfl, fun q hq => hq⟩ (by exact ⟨rfl, rfl, rfl, rfl, rfl, trivial⟩) rfl (List.Sublist.refl _) fun x hx => ?_
 obtain ⟨cur, seen, rem⟩ := x
 obtain ⟨hir2, hlow, hcur, hsub⟩ := hx
 dsimp only at hir2 hlow hcur hsub
 refine WC.seq ?_
 refine WC.region ?_
 refine WL.oo (OW.next (emb := fun n : Int => Value.int .i64 n) rfl atA atA hmr hir2 rfl (fun h0 => ?_) (fun q hq e he hek hev hir3 => ?_))
 rotate_left
 ·
  refine gom ?_
  refine WL.vv (Gv.entry (emb := fun n : Int => Value.int .i64 n) rfl atA atA hmr he hek hev) ?_
  refine gom ?_
  refine WL.pp (Gp.minI rfl rfl rfl) ?_
  refine gom ?_
  have hok : ∀ q' ∈ m, q' ∈ delA rem q.1 ∨ (if q.1 < cur then q.1 else cur) ≤ q'.1 := fun q' hq' => by
   rcases hlow q' hq' with h | h
   ·by_cases hqq : q'.1 = q.1
    ·right; split <;> omega
    ·left; unfold delA; exact List.mem_filter.2 ⟨h, by simpa using hqq⟩
   ·right; split <;> omega
  have hok2 : (if q.1 < cur then q.1 else cur) = p.code.length ∨ (if q.1 < cur then q.1 else cur) ∈ m.map (·.1) := by
   split
   ·right; exact List.mem_map.2 ⟨q, hsub q hq, rfl⟩
   ·exact hcur
  have hok3 : ∀ q' ∈ delA rem q.1, q' ∈ m := fun q' hq' => by unfold delA at hq'; exact hsub q' (List.mem_filter.1 hq').1
  have hlt := length_delA (List.mem_map.2 ⟨q, hq, rfl⟩)
  exact WK.again ((if q.1 < cur then q.1 else cur), seen.push e.born, delA rem q.1) (by dsimp only; exact hlt) ⟨hir3, hok, hok2, hok3⟩ (by exact ⟨rfl, rfl, rfl, rfl, rfl, trivial⟩) rfl (List.Sublist.refl _)
 subst h0
 obtain ⟨q0, hq0⟩ : ∃ q, q ∈ m := List.exists_mem_of_length_pos (by omega)
 have hcm : cur ∈ m.map (·.1) := by
  refine hcur.resolve_left fun hc => ?_
  obtain ⟨k, s, h1, h2, _⟩ := hinv.todo q0.1 (List.mem_map.2 ⟨q0, hq0, rfl⟩)
  have h3 := (List.getElem?_eq_some_iff.1 h2).1
  have h4 := (hlow q0 hq0).resolve_left (by simp)
  omega
 obtain ⟨kq, s0, hck, hs0, hr0⟩ := hinv.todo cur hcm
 subst hck
 have hkq := (List.getElem?_eq_some_iff.1 hs0).1
 obtain ⟨i, hi⟩ : ∃ i, p.code[kq]? = some i := ⟨_, List.getElem?_eq_getElem (by omega)⟩
 obtain ⟨hi0, hiE⟩ := hp.ins kq i hi
 obtain ⟨ic1, in1⟩ := i
 obtain ⟨nn, rfl⟩ : ∃ nn : Nat, in1 = nn := ⟨in1.toNat, by dsimp only at hi0; omega⟩
 dsimp only at hiE
 rw [Int.toNat_natCast] at hiE
 have hw0 := hinv.wf s0 (List.mem_of_getElem? hs0)
 have hv0 := hw0.vars hr0
 obtain ⟨VA, vc, SA, sc, hes0, hS0⟩ := Kd.ss_rep (hkv.2 kq s0 hs0)
 have hst0 := hw0.high
 obtain ⟨ib, io, ics, rfl, hik, hic⟩ := hI kq _ hi
 obtain rfl : ics = [.int .i64 ic1, .int .i64 nn] := hik
 have hic3 := hic.mono (Gh.le_trans hg1 (Gh.le_trans hg2 hg3))
 refine gom ?_
 refine WL.oo (OW.mapDel (emb := fun n : Int => Value.int .i64 n) rfl rfl atA hmr rfl fun es2 ck2 hmr2 => ?_)
 refine go ?_
 obtain ⟨sB, hsB⟩ : ∃ sB, sB = behR w (ic1, (nn : Int)) s0 := ⟨_, rfl⟩
 have hwB : sB.wf p.locals.toNat := by rw [hsB]; exact behR_wf hw0 hr0
 have hrB : sB.reached = true := by rw [hsB, behR_reached]; exact hr0
 have hin := hinv.into (T' := (delA m (kq : Int)).map (·.1)) hcm hi hs0 (fun x hx => (mem_delA.1 hx).1) (fun x hx hne => mem_delA.2 ⟨hx, hne⟩)
 have hμ : 2 * sumW p.locals.toNat l + (delA m (kq : Int)).length < 2 * sumW p.locals.toNat l + m.length := by have := length_delA hcm; omega
 have hWG := hW.mono (Gh.le_trans hg1 (Gh.le_trans hg2 hg3))
 refine WC.joinG (X := Gh × Option Addr × Nat × Option Addr × Nat × Nat) (fun t => [(3, .pointer (some ⟨b3, 0, none⟩)), (5, .pointer (some ⟨b5, 0, none⟩)), (7, .map (some bm)), (8, .int .i64 kq), (10, .pointer (some ⟨t.2.2.2.2.2, 0, none⟩))]) (fun t => t.1)
  (fun t => [.blk t.2.2.2.2.2 (.cells #[.bool sB.reached, .bool sB.unlike, .slice t.2.1 sB.vars.length t.2.2.1, .slice t.2.2.2.1 sB.stack.length t.2.2.2.2.1] 203 (0, 0)), .blk tb (.cells c 203 (0, 0)), .blk bm (.map es2 ck2), prB b3 p QA qc (some ⟨ib, io, none⟩) ic]) (fun t => G3.le t.1 ∧ SRep t.1 sB t.2.1 t.2.2.1 t.2.2.2.1 t.2.2.2.2.1) ?_ fun t ht => ?_
 ·obtain ⟨rb, ro, hrr, hread⟩ := (Vec.rds hsv .here : Rds G3 [.blk tb (.cells c 203 (0, 0))] (some ⟨tb, 0, none⟩) cs).resolve_left (fun h => by have h1 := hkv.1; rw [h] at h1; simp [Kd.ss] at h1; omega)
  cases hrr
  have z0 : (0 : Int) ≤ (kq : Int) := by omega
  have z1 : (kq : Int) < (p.code.length : Int) := by omega
  refine WC.drawS (Hs := [.blk tb (.cells c 203 (0, 0)), prB b3 p QA qc (some ⟨ib, io, none⟩) ic]) mixed pkA ?_
  refine zb.move 0 ?_
  refine zb.fa 1 ?_
  refine zb.ld 2 ?_
  refine zb.move 3 ?_
  refine zb.ix 4 ?_
  refine WB.vv 5 rfl (Gv.loadGN rfl hic3 rfl) ?_
  refine zb.move 6 ?_
  refine zb.nil 7 ?_
  refine zb.fa 8 ?_
  refine zb.ld 9 ?_
  refine zb.move 10 ?_
  refine zb.ix 11 ?_
  refine WB.vv 12 rfl (Gv.loadRN (i := ((kq : Nat) : Int).toNat * 4) rfl hread (.cons_cons _ (List.nil_sublist _)) hes0 rfl) ?_
  have hbf := behind_fn G3 w p b5 bw CA NA _ cc nc pc QA _ qc ic _ _ _ hWG hF3 s0 VA vc SA sc hS0 (by omega) (by omega) ic1 nn (by rw [hv0]; exact hiE)
  rw [← hsB] at hbf
  refine WB.two (i := 13) (j := 14) kr rfl rfl kr kr (OW.callK rfl hbf rfl fun v' G' H' h hg => ?_) (OW.alloc rfl fun b10 => ?_)
  ·obtain ⟨V1, v1, S1, s1, he, hg4, hR4, rfl⟩ := h
   cases he
   refine ⟨fun w hw => (hw.pk pkA).le hg4, ?_⟩
   refine WB.oo 14 rfl (OW.alloc rfl fun b10 => ?_)
   refine ⟨fun w hw => (hw.pk pkA).le hg4, ?_⟩
   refine zb.st 15 ?_
   refine ⟨fun w hw => (hw.pk pkA).le hg4, ?_⟩
   refine WB.done kr ?_
   refine WK.un ?_
   refine WK.pick [.blk b10 (.cells #[.bool sB.reached, .bool sB.unlike, .slice V1 sB.vars.length v1, .slice S1 sB.stack.length s1] 203 (0, 0)), .blk tb (.cells c 203 (0, 0)), .blk bm (.map es2 ck2), prB b3 p QA qc (some ⟨ib, io, none⟩) ic] ?_
   exact WK.meet (G', V1, v1, S1, s1, b10) ⟨hg4, hR4⟩ (by exact ⟨rfl, rfl, rfl, rfl, rfl, trivial⟩) rfl (List.Sublist.refl _)
  ·refine ⟨fun w hw => hw.pk pkA, ?_⟩
   refine WB.oo 13 rfl (OW.callK rfl hbf rfl fun v' G' H' h hg => ?_)
   obtain ⟨V1, v1, S1, s1, he, hg4, hR4, rfl⟩ := h
   cases he
   refine ⟨fun w hw => (hw.pk pkA).le hg4, ?_⟩
   refine zb.st 15 ?_
   refine ⟨fun w hw => (hw.pk pkA).le hg4, ?_⟩
   refine WB.done kr ?_
   refine WK.un ?_
   refine WK.pick [.blk b10 (.cells #[.bool sB.reached, .bool sB.unlike, .slice V1 sB.vars.length v1, .slice S1 sB.stack.length s1] 203 (0, 0)), .blk tb (.cells c 203 (0, 0)), .blk bm (.map es2 ck2), prB b3 p QA qc (some ⟨ib, io, none⟩) ic] ?_
   exact WK.meet (G', V1, v1, S1, s1, b10) ⟨hg4, hR4⟩ (by exact ⟨rfl, rfl, rfl, rfl, rfl, trivial⟩) rfl (List.Sublist.refl _)
 obtain ⟨G4, V1, v1, S1, s1, b10⟩ := t
 obtain ⟨hg4, hR4⟩ := ht
 dsimp only at hg4 hR4
 have hF4 := hF3.mono hg4
 have hfc4 := hF4.cells
 have hic4 := hic3.mono hg4
 have z0 : (0 : Int) ≤ (kq : Int) := by omega
 have z1 : (kq : Int) < (p.code.length : Int) := by omega
 refine gom ?_
 refine WL.oo (OW.callK rfl (next_fn _ ic1 nn kq (by omega)) rfl fun v' G' H' h hg => ?_)
 obtain ⟨XA, xcap, he, hg5, hx5, rfl⟩ := h
 cases he
 obtain ⟨nx, hnx⟩ : ∃ nx, nx = nextR (ic1, (nn : Int)) kq := ⟨_, rfl⟩
 rw [← hnx] at hx5 ⊢
 have hnxl : nx.length ≤ 2 := by rw [hnx]; unfold nextR; split; simp; split; simp; split <;> simp
 refine gom ?_
 refine WC.pick [.blk b10 (.cells #[.bool sB.reached, .bool sB.unlike, .slice V1 sB.vars.length v1, .slice S1 sB.stack.length s1] 203 (0, 0)), .blk tb (.cells c 203 (0, 0)), .blk bm (.map es2 ck2), prB b3 p QA qc (some ⟨ib, io, none⟩) ic] ?_
 refine WC.loop (X := Nat × FL) (fun x => [(3, .pointer (some ⟨b3, 0, none⟩)), (5, .pointer (some ⟨b5, 0, none⟩)), (7, .map (some bm)), (10, .pointer (some ⟨b10, 0, none⟩)), (76, .slice XA nx.length xcap), (77, .int .i64 nx.length), (78, .int .i64 x.1)]) (fun x => x.2.G) (fun x => [.blk b10 (.cells #[.bool sB.reached, .bool sB.unlike, .slice V1 sB.vars.length v1, .slice S1 sB.stack.length s1] 203 (0, 0)), .blk tb (.cells x.2.c 203 (0, 0)), .blk bm (.map x.2.es x.2.ck), prB b3 p QA qc (some ⟨ib, io, none⟩) ic]) (fun x => nx.length - x.1)
  (fun x => x.1 ≤ nx.length ∧ FIn w p x.2.l (x.2.m.map (·.1)) kq (ic1, (nn : Int)) s0 ((nx.take x.1).reverse) ∧ MRel (fun n : Int => Value.int .i64 n) (.int .i64) x.2.es x.2.ck x.2.m ∧ SVec (some ⟨tb, 0, none⟩) p.code.length p.code.length x.2.cs (.blk tb (.cells x.2.c 203 (0, 0))) ∧ KV Kd.ss x.2.G x.2.l x.2.cs ∧ G'.le x.2.G ∧ 2 * sumW p.locals.toNat x.2.l + x.2.m.length < 2 * sumW p.locals.toNat l + m.length)
  (0, ⟨l, delA m (kq : Int), G', cs, c, es2, ck2⟩) ⟨Nat.zero_le _, hin, hmr2, hsv, hkv.mono (Gh.le_trans hg4 hg5), Gh.le_refl _, hμ⟩ (by exact ⟨rfl, rfl, rfl, rfl, rfl, rfl, rfl, trivial⟩) rfl (List.Sublist.refl _) fun x hx => ?_
 obtain ⟨j, l2, m2, G6, cs2, c2, es3, ck3⟩ := x
 obtain ⟨hj, hin2, hmr3, hsv2, hkv2, hg6, hμ2⟩ := hx
 dsimp only at hj hin2 hmr3 hsv2 hkv2 hg6 hμ2
 by_cases hjl : j < nx.length
 rotate_left
 ·have y1 : decide ((j : Int) < (nx.length : Int)) = false := decide_eq_false (by omega)
  have hdone := hin2.done (fun x hx => .inl (by rw [← hnx] at hx; rw [List.take_of_length_le (by omega)]; simpa using hx))
  refine gom ?_
  refine WK.pick [.blk tb (.cells c2 203 (0, 0)), .blk bm (.map es3 ck3), prB b3 p QA qc (some ⟨ib, io, none⟩) ic] ?_
  exact WK.again ⟨l2, m2, G6, cs2, c2, es3, ck3⟩ (by dsimp only; exact hμ2) ⟨hdone, hmr3, hsv2, hkv2, Gh.le_trans hg3 (Gh.le_trans hg4 (Gh.le_trans hg5 hg6))⟩ (by exact ⟨rfl, rfl, rfl, trivial⟩) rfl (List.Sublist.refl _)
 have y1 : decide ((j : Int) < (nx.length : Int)) = true := decide_eq_true (by omega)
 obtain ⟨x, hx⟩ : ∃ x, nx[j]? = some x := ⟨_, List.getElem?_eq_getElem hjl⟩
 have hxm : x ∈ nextR (ic1, (nn : Int)) kq := by rw [← hnx]; exact List.mem_of_getElem? hx
 have hx0 := nextR_nonneg hxm
 obtain ⟨k, rfl⟩ : ∃ k : Nat, x = k := ⟨x.toNat, by omega⟩
 have htake : (nx.take (j + 1)).reverse = (k : Int) :: (nx.take j).reverse := by rw [List.take_add_one, hx]; simp
 obtain ⟨xb', xo', rfl, hxc⟩ := hx5.at hx
 have hxc6 := hxc.mono hg6
 have w0' : (0 : Int) ≤ (j : Int) := by omega
 have w1 : (j : Int) < (nx.length : Int) := by omega
 have w2 := wrapS j (by omega)
 by_cases hkl : p.code.length ≤ k
 ·have y2 : decide ((p.code.length : Int) ≤ (k : Int)) = true := decide_eq_true (by omega)
  refine gom ?_
  exact WK.again (j + 1, ⟨l2, m2, G6, cs2, c2, es3, ck3⟩) (by dsimp only; omega) ⟨by dsimp only; omega, by dsimp only; rw [htake]; exact hin2.pass (by omega), hmr3, hsv2, hkv2, hg6, hμ2⟩ (by exact ⟨rfl, rfl, rfl, rfl, rfl, rfl, rfl, trivial⟩) rfl (List.Sublist.refl _)
 have y2 : decide ((p.code.length : Int) ≤ (k : Int)) = false := decide_eq_false (by omega)
 have hl2 := hin2.len
 obtain ⟨s, hs⟩ : ∃ s, l2[k]? = some s := ⟨_, List.getElem?_eq_getElem (by omega)⟩
 have hws := hin2.wf s (List.mem_of_getElem? hs)
 have hvs : s.vars.length ≤ 1000 := by
  cases hr : s.reached with
  | false => rw [hws.bare hr]; simp
  | true => rw [hws.vars hr]; omega
 have hks := hws.high
 obtain ⟨VK, vk, SK, sk, hesk, hSk⟩ := Kd.ss_rep (hkv2.2 k s hs)
 have hF6 := hF4.mono (Gh.le_trans hg5 hg6)
 have hfc6 := hF6.cells
 have hR6 := hR4.mono (Gh.le_trans hg5 hg6)
 obtain ⟨rb, ro, hrr, hread⟩ := (Vec.rds hsv2 .here : Rds G6 [.blk tb (.cells c2 203 (0, 0))] (some ⟨tb, 0, none⟩) cs2).resolve_left (fun h => by have h1 := hkv2.1; rw [h] at h1; simp [Kd.ss] at h1; omega)
 cases hrr
 have v0' : (0 : Int) ≤ (k : Int) := by omega
 have v1' : (k : Int) < (p.code.length : Int) := by omega
 obtain ⟨sJ, hsJ⟩ : ∃ sJ, sJ = joinS s sB := ⟨_, rfl⟩
 have hwJ : sJ.wf p.locals.toNat := by rw [hsJ]; exact joinS_wf hws hwB
 have hvJ : sJ.vars.length ≤ 1000 := by
  cases hr : sJ.reached with
  | false => rw [hwJ.bare hr]; simp
  | true => rw [hwJ.vars hr]; omega
 have hkJ := hwJ.high
 refine go ?_
 refine WC.joinG (X := Gh × Option Addr × Nat × Option Addr × Nat × Nat) (fun t => [(3, .pointer (some ⟨b3, 0, none⟩)), (5, .pointer (some ⟨b5, 0, none⟩)), (7, .map (some bm)), (10, .pointer (some ⟨b10, 0, none⟩)), (12, .int .i64 k), (76, .slice (some ⟨xb', xo', none⟩) nx.length xcap), (77, .int .i64 nx.length), (78, .int .i64 j), (13, .pointer (some ⟨t.2.2.2.2.2, 0, none⟩))]) (fun t => t.1)
  (fun t => [.blk t.2.2.2.2.2 (.cells #[.bool sJ.reached, .bool sJ.unlike, .slice t.2.1 sJ.vars.length t.2.2.1, .slice t.2.2.2.1 sJ.stack.length t.2.2.2.2.1] 203 (0, 0)), .blk b10 (.cells #[.bool sB.reached, .bool sB.unlike, .slice V1 sB.vars.length v1, .slice S1 sB.stack.length s1] 203 (0, 0)), .blk tb (.cells c2 203 (0, 0)), .blk bm (.map es3 ck3), prB b3 p QA qc (some ⟨ib, io, none⟩) ic]) (fun t => G6.le t.1 ∧ SRep t.1 sJ t.2.1 t.2.2.1 t.2.2.2.1 t.2.2.2.2.1) ?_ fun t ht => ?_
 ·refine WC.drawS (Hs := [.blk b10 (.cells #[.bool sB.reached, .bool sB.unlike, .slice V1 sB.vars.length v1, .slice S1 sB.stack.length s1] 203 (0, 0)), .blk tb (.cells c2 203 (0, 0))]) mixed pkA ?_
  refine zb.move 0 ?_
  refine zb.nil 1 ?_
  refine zb.fa 2 ?_
  refine zb.ld 3 ?_
  refine zb.move 4 ?_
  refine zb.ix 5 ?_
  refine WB.vv 6 rfl (Gv.loadRN (i := ((k : Nat) : Int).toNat * 4) rfl hread (List.sublist_cons_self _ _) hesk rfl) ?_
  refine zb.ld 7 ?_
  have hjf := joined_fn G6 s sB VK V1 vk v1 SK S1 sk s1 hSk hR6 (fun h1 h2 => by rw [hws.vars h1, hwB.vars h2]) (by omega) (by omega)
  rw [← hsJ] at hjf
  refine WB.two (i := 8) (j := 9) kr rfl rfl kr kr (OW.callK rfl hjf rfl fun v' G' H' h hg => ?_) (OW.alloc rfl fun b13 => ?_)
  ·obtain ⟨V2, v2, S2, s2, he, hg7, hR7, rfl⟩ := h
   cases he
   refine ⟨fun w hw => (hw.pk pkA).le hg7, ?_⟩
   refine WB.oo 9 rfl (OW.alloc rfl fun b13 => ?_)
   refine ⟨fun w hw => (hw.pk pkA).le hg7, ?_⟩
   refine zb.st 10 ?_
   refine ⟨fun w hw => (hw.pk pkA).le hg7, ?_⟩
   refine WB.done kr ?_
   refine WK.un ?_
   refine WK.pick [.blk b13 (.cells #[.bool sJ.reached, .bool sJ.unlike, .slice V2 sJ.vars.length v2, .slice S2 sJ.stack.length s2] 203 (0, 0)), .blk b10 (.cells #[.bool sB.reached, .bool sB.unlike, .slice V1 sB.vars.length v1, .slice S1 sB.stack.length s1] 203 (0, 0)), .blk tb (.cells c2 203 (0, 0)), .blk bm (.map es3 ck3), prB b3 p QA qc (some ⟨ib, io, none⟩) ic] ?_
   exact WK.meet (G', V2, v2, S2, s2, b13) ⟨hg7, hR7⟩ (by exact ⟨rfl, rfl, rfl, rfl, rfl, rfl, rfl, rfl, rfl, trivial⟩) rfl (List.Sublist.refl _)
  ·refine ⟨fun w hw => hw.pk pkA, ?_⟩
   refine WB.oo 8 rfl (OW.callK rfl hjf rfl fun v' G' H' h hg => ?_)
   obtain ⟨V2, v2, S2, s2, he, hg7, hR7, rfl⟩ := h
   cases he
   refine ⟨fun w hw => (hw.pk pkA).le hg7, ?_⟩
   refine zb.st 10 ?_
   refine ⟨fun w hw => (hw.pk pkA).le hg7, ?_⟩
   refine WB.done kr ?_
   refine WK.un ?_
   refine WK.pick [.blk b13 (.cells #[.bool sJ.reached, .bool sJ.unlike, .slice V2 sJ.vars.length v2, .slice S2 sJ.stack.length s2] 203 (0, 0)), .blk b10 (.cells #[.bool sB.reached, .bool sB.unlike, .slice V1 sB.vars.length v1, .slice S1 sB.stack.length s1] 203 (0, 0)), .blk tb (.cells c2 203 (0, 0)), .blk bm (.map es3 ck3), prB b3 p QA qc (some ⟨ib, io, none⟩) ic] ?_
   exact WK.meet (G', V2, v2, S2, s2, b13) ⟨hg7, hR7⟩ (by exact ⟨rfl, rfl, rfl, rfl, rfl, rfl, rfl, rfl, rfl, trivial⟩) rfl (List.Sublist.refl _)
 obtain ⟨G7, V2, v2, S2, s2, b13⟩ := t
 obtain ⟨hg7, hR7⟩ := ht
 dsimp only at hg7 hR7
 have hF7 := hF6.mono hg7
 have hfc7 := hF7.cells
 have hread7 : ∀ w, Sat G7 [.blk tb (.cells c2 203 (0, 0))] w → ∀ j v, cs2[j]? = some v → w.cell? ⟨tb, 0 + j, none⟩ = some v := fun w hw => hread w (hw.le hg7)
 have hSk7 := hSk.mono hg7
 have hsf := same_fn G7 [] sJ s V2 VK v2 vk S2 SK s2 sk hR7 hSk7 (by omega) (by omega)
 refine gom ?_
 refine WQ.tv (Gv.loadRN (i := ((k : Nat) : Int).toNat * 4) rfl hread7 (.cons _ (.cons _ (.cons_cons _ (List.nil_sublist _)))) hesk rfl) kr kr rfl ?_
 refine WQ.one kr kr (OW.callK rfl (hsf) rfl fun v' G' H' h hg => ?_)
 obtain ⟨he, rfl, rfl⟩ := h
 cases he
 by_cases heq : sJ = s
 ·rw [decide_eq_true heq]
  refine gom ?_
  refine WK.pick [.blk b10 (.cells #[.bool sB.reached, .bool sB.unlike, .slice V1 sB.vars.length v1, .slice S1 sB.stack.length s1] 203 (0, 0)), .blk tb (.cells c2 203 (0, 0)), .blk bm (.map es3 ck3), prB b3 p QA qc (some ⟨ib, io, none⟩) ic] ?_
  exact WK.again (j + 1, ⟨l2, m2, G7, cs2, c2, es3, ck3⟩) (by dsimp only; omega) ⟨by dsimp only; omega, by dsimp only; rw [htake]; exact hin2.same hs (by rw [← hsB, ← hsJ]; exact heq), hmr3, hsv2, hkv2.mono hg7, Gh.le_trans hg6 hg7, hμ2⟩ (by exact ⟨rfl, rfl, rfl, rfl, rfl, rfl, rfl, trivial⟩) rfl (List.Sublist.refl _)
 rw [decide_eq_false heq]
 have hcf := copied_fn G7 sJ V2 v2 S2 s2 hR7 (by omega) (by omega)
 refine WQ.tp (Gp.notB rfl) kr kr rfl ?_
 refine WQ.done kr ?_
 refine go ?_
 refine WC.drawS (Hs := [.blk b13 (.cells #[.bool sJ.reached, .bool sJ.unlike, .slice V2 sJ.vars.length v2, .slice S2 sJ.stack.length s2] 203 (0, 0))]) mixed pkA ?_
 refine zb.move 0 ?_
 refine zb.nil 1 ?_
 refine zb.fa 2 ?_
 refine zb.move 4 ?_
 refine zb.ld 5 ?_
 refine zb.ld 3 ?_
 refine WB.oo 6 rfl (OW.callK rfl (hcf) rfl fun v' G' H' h hg => ?_)
 obtain ⟨V3, v3, S3, s3, x3, y3, he, rfl, rfl, hx3, hy3⟩ := h
 cases he
 refine ⟨fun w hw => hw.pk pkA, ?_⟩
 obtain ⟨_, hfitK, hputK⟩ := Vec.put hsv2 (show k < p.code.length by omega) [.bool sJ.reached, .bool sJ.unlike, .slice V3 sJ.vars.length v3, .slice S3 sJ.stack.length s3] rfl
 have hfitK' : k * 4 + 4 ≤ c2.size := hfitK
 have hbleK : Nat.ble (0 + ((k : Nat) : Int).toNat * 4 + 4) c2.size = true := Nat.ble_eq_true_of_le (by omega)
 refine zb.ix 7 ?_
 refine WB.oo 8 rfl (OW.store (n := 4) (cs := [.bool sJ.reached, .bool sJ.unlike, .slice V3 sJ.vars.length v3, .slice S3 sJ.stack.length s3]) rfl rfl atA rfl rfl rfl hbleK rfl ?_ rfl)
 refine ⟨fun w hw => hw.pk pkA, ?_⟩
 refine WB.done kr ?_
 refine WK.un ?_
 have ek : 0 + ((k : Nat) : Int).toNat * 4 = k * 4 := by omega
 rw [ek]
 refine WC.pick [.blk tb (.cells (splice c2 (k * 4) [.bool sJ.reached, .bool sJ.unlike, .slice V3 sJ.vars.length v3, .slice S3 sJ.stack.length s3]) 203 (0, 0)), x3, y3, .blk b10 (.cells #[.bool sB.reached, .bool sB.unlike, .slice V1 sB.vars.length v1, .slice S1 sB.stack.length s1] 203 (0, 0)), .blk bm (.map es3 ck3), prB b3 p QA qc (some ⟨ib, io, none⟩) ic] ?_
 refine WC.frozenVec hx3 atA fun G8 hg8 z8 => ?_
 refine WC.frozenVec hy3 atA fun G9 hg9 z9 => ?_
 have hR9 : SRep G9 sJ V3 v3 S3 s3 := ⟨hx3.le, hy3.le, (IVec.sl z8).mono hg9, IVec.sl z9⟩
 have hkv9 := KV.set (k := Kd.ss) (hkv2.mono (Gh.le_trans hg7 (Gh.le_trans hg8 hg9))) hR9.kd (i := k) (by omega)
 refine go ?_
 refine WL.oo (OW.mapSet (emb := fun n : Int => Value.int .i64 n) rfl rfl rfl atA hmr3 rfl fun es4 ck4 hmr4 => ?_)
 refine gom ?_
 refine WK.pick [.blk b10 (.cells #[.bool sB.reached, .bool sB.unlike, .slice V1 sB.vars.length v1, .slice S1 sB.stack.length s1] 203 (0, 0)), .blk tb (.cells (splice c2 (k * 4) [.bool sJ.reached, .bool sJ.unlike, .slice V3 sJ.vars.length v3, .slice S3 sJ.stack.length s3]) 203 (0, 0)), .blk bm (.map es4 ck4), prB b3 p QA qc (some ⟨ib, io, none⟩) ic] ?_
 have hne : joinS s (behR w (ic1, (nn : Int)) s0) ≠ s := by rw [← hsB, ← hsJ]; exact heq
 have hturn := hin2.turn (T' := (setA m2 (k : Int) (.int .i64 1)).map (·.1)) hxm hs (fun x => mem_setA)
 have hrise := hin2.rises hs hne
 have hlen4 := length_setA (m := m2) (k := (k : Int)) (v := .int .i64 1)
 rw [← hsB, ← hsJ] at hturn hrise
 exact WK.again (j + 1, ⟨l2.set k sJ, setA m2 (k : Int) (.int .i64 1), G9, _, _, es4, ck4⟩) (by dsimp only; omega) ⟨by dsimp only; omega, by dsimp only; rw [htake]; exact hturn, hmr4, hputK, hkv9, Gh.le_trans hg6 (Gh.le_trans hg7 (Gh.le_trans hg8 hg9)), by dsimp only; omega⟩ (by exact ⟨rfl, rfl, rfl, rfl, rfl, rfl, rfl, trivial⟩) rfl (List.Sublist.refl _)
end
end
section
attribute [local irreducible] Tryz.prog
theorem all_fn (G : Gh) (t : Int) (b : Nat) (A : Option Addr) (l : List Int) (cap : Nat) (hA : Sl (Kd.int .i64) G A l) (hl : l.length ≤ 1000000000) :
  Fn Tryz.prog 192 #[.int .i64 t, .pointer (some ⟨b, 0, none⟩)] G [.blk b (.cells #[.slice A l.length cap] 43 (0, 0))]
   fun e G' H' => e = .returned (.bool (allT t l)) ∧ G = G' ∧ H' = [.blk b (.cells #[.slice A l.length cap] 43 (0, 0))] := by
 refine Fn.enter Tryz.func192 rfl rfl fun w0 => ?_
 refine gom ?_
 refine WC.loop (X := Nat) (fun i => [(0, .int .i64 t), (6, .slice A l.length cap), (7, .int .i64 l.length), (8, .int .i64 i)]) (fun _ => G) (fun _ => [.blk b (.cells #[.slice A l.length cap] 43 (0, 0))]) (fun i => l.length - i) (fun i => i ≤ l.length ∧ ∀ j x, j < i → l[j]? = some x → x = t) 0 ⟨Nat.zero_le _, fun j x h => by omega⟩ (by exact ⟨rfl, rfl, rfl, rfl, trivial⟩) rfl (List.Sublist.refl _) fun i hx => ?_
 obtain ⟨hi, hall⟩ := hx
 by_cases hlt : i < l.length
 rotate_left
 ·have e2 : decide ((i : Int) < (l.length : Int)) = false := decide_eq_false (by omega)
  have he : allT t l = true := by
   unfold allT
   rw [List.all_eq_true]
   intro x hx
   obtain ⟨j, hj⟩ := List.getElem?_of_mem hx
   have := hall j x (by have := (List.getElem?_eq_some_iff.1 hj).1; omega) hj
   simpa using this
  refine gom ?_
  refine WC.rt ?_
  exact QF.p1 (.inl rfl) rfl (.tmp rfl) (⟨by rw [he], rfl, rfl⟩)
 have e2 : decide ((i : Int) < (l.length : Int)) = true := decide_eq_true (by omega)
 obtain ⟨x, hx⟩ : ∃ x, l[i]? = some x := ⟨_, List.getElem?_eq_getElem hlt⟩
 obtain ⟨ab, ao, rfl, hca⟩ := hA.at hx
 have x0 : (0 : Int) ≤ i := by omega
 have x2 : (i : Int) < (l.length : Int) := by omega
 have x4 := wrapS i (by omega)
 by_cases hxt : x = t
 ·have e3 : (x != t) = false := by simpa using hxt
  refine gom ?_
  exact WK.again (i + 1) (by omega) ⟨by omega, fun j y hj hy => by
   rcases Nat.lt_or_ge j i with h | h
   ·exact hall j y h hy
   ·obtain rfl : j = i := by omega
    rw [hx] at hy; cases hy; exact hxt⟩ (by exact ⟨rfl, rfl, rfl, rfl, trivial⟩) rfl (List.Sublist.refl _)
 ·have e3 : (x != t) = true := by simpa using hxt
  have he : allT t l = false := by
   unfold allT
   rw [List.all_eq_false]
   exact ⟨x, List.mem_of_getElem? hx, by simpa using hxt⟩
  refine gom ?_
  refine WC.rt ?_
  exact QF.p1 (.inl rfl) rfl (.tmp rfl) (⟨by rw [he], rfl, rfl⟩)
theorem Cs.drop {G : Gh} {b o : Nat} {cs : List Value} (h : Cs G b o cs) (k : Nat) : Cs G b (o + k) (cs.drop k) := fun j v e => by
 rw [List.getElem?_drop] at e
 rw [Nat.add_assoc]; exact h _ v e
theorem FRep.proc {G : Gh} {p : Pr} {bf bw : Nat} {PA CA : Option Addr} {pc cc : Nat} {TA : Option Addr} {tn tc : Nat} (h : FRep G p bf bw PA CA pc cc TA tn tc) :
  Cs G bf (0 + 1) [.string p.name, .bool p.exp, .slice PA p.params.length pc, .int .i64 p.locals, .int .i64 p.result, .slice CA p.code.length cc, .slice TA tn tc] := h.cells.drop 1
section
variable (G : Gh) (w : Wd) (p : Pr) (bf bw : Nat) (CA NA PA : Option Addr) (cc nc pc : Nat) (QA IA : Option Addr) (qc ic : Nat) (TA : Option Addr) (tn tc : Nat) (hW : WRep G w bw CA NA PA cc nc pc) (hF : FRep G p bf bw QA IA qc ic TA tn tc)
include hW hF
set_option maxHeartbeats 4000000 in
theorem kinds_fn (s : SS) (VA : Option Addr) (vc : Nat) (SA : Option Addr) (sc : Nat) (hS : SRep G s VA vc SA sc) (hv : s.vars.length ≤ 1000000000) (c : Int) (n : Nat) (ho : EOk w s.vars.length c n) (A : Option Addr) (cap : Nat) (top : List Int) (hA : Sl (Kd.int .i64) G A top) (ht : top.length ≤ 1000000000)
  (h1 : c = 3 ∨ c = 11 → 1 ≤ top.length) (h2 : c = 12 ∨ c = 13 → 2 ≤ top.length) :
  Fn Tryz.prog 162 #[.pointer (some ⟨bf, 0, none⟩), .agg #[.int .i64 c, .int .i64 n], ssV s VA vc SA sc, .slice A top.length cap] G []
   fun e G' H' => e = .returned (.bool (kindsR w p (c, n) s top)) ∧ G = G' ∧ H' = [] := by
 have hfc := hF.cells
 have hwc := hW.cells
 have hfp := hF.proc
 obtain ⟨sr, su, sv, sk⟩ := s
 dsimp only at hv ho
 obtain ⟨ho1, ho2, ho3, ho7, ho8⟩ := ho
 refine Fn.enter Tryz.func162 rfl rfl fun w0 => ?_
 refine WC.seq ?_
 refine WC.region ?_
 refine WL.oo (OW.box rfl rfl fun b1 => ?_)
 refine WL.oo (OW.box rfl rfl fun b2 => ?_)
 refine WL.oo (OW.box rfl rfl fun b3 => ?_)
 refine gom ?_
 refine WL.pp (Gp.makeFunc rfl rfl) ?_
 refine WL.pick [.blk b3 (.cells #[.slice A top.length cap] 43 (0, 0)), .blk b2 (.cells #[.bool sr, .bool su, .slice VA sv.length vc, .slice SA sk.length sc] 203 (0, 0)), .blk b1 (.cells #[.int .i64 c, .int .i64 n] 50 (0, 0))] ?_
 by_cases c2 : c = 2
 ·subst c2
  obtain ⟨v, hvv⟩ : ∃ v, sv[n]? = some v := ⟨_, List.getElem?_eq_getElem (ho2 rfl)⟩
  obtain ⟨cb, co, rfl, hcs⟩ := hS.vars.at hvv
  have x0 : (0 : Int) ≤ (n : Int) := by omega
  have x1 : (n : Int) < (sv.length : Int) := by have := ho2 rfl; omega
  have he : kindsR w p ((2 : Int), (n : Int)) ⟨sr, su, sv, sk⟩ top = (v != 0) := by unfold kindsR; simp [hvv]
  refine gom ?_
  refine WC.rt ?_
  exact QF.p1 (.inl rfl) rfl (.tmp rfl) (⟨by rw [he], rfl, rfl⟩)
 have y2 : (c == 2) = false := by simpa using c2
 by_cases c3 : c = 3
 ·subst c3
  obtain ⟨x, hx⟩ : ∃ x, top[0]? = some x := ⟨_, List.getElem?_eq_getElem (by have := h1 (by decide); omega)⟩
  obtain ⟨cb, co, rfl, hcs⟩ := hA.at hx
  have z1 : (0 : Int) < (top.length : Int) := by have := h1 (by decide); omega
  have he : kindsR w p ((3 : Int), (n : Int)) ⟨sr, su, sv, sk⟩ top = (x != 0) := by unfold kindsR; simp [hx]
  refine gom ?_
  refine WC.rt ?_
  exact QF.p1 (.inl rfl) rfl (.tmp rfl) (⟨by rw [he], rfl, rfl⟩)
 have y3 : (c == 3) = false := by simpa using c3
 by_cases c11 : c = 11
 ·subst c11
  obtain ⟨x, hx⟩ : ∃ x, top[0]? = some x := ⟨_, List.getElem?_eq_getElem (by have := h1 (by decide); omega)⟩
  obtain ⟨cb, co, rfl, hcs⟩ := hA.at hx
  have z1 : (0 : Int) < (top.length : Int) := by have := h1 (by decide); omega
  have he : kindsR w p ((11 : Int), (n : Int)) ⟨sr, su, sv, sk⟩ top = (x != 0) := by unfold kindsR; simp [hx]
  refine gom ?_
  refine WC.rt ?_
  exact QF.p1 (.inl rfl) rfl (.tmp rfl) (⟨by rw [he], rfl, rfl⟩)
 have y11 : (c == 11) = false := by simpa using c11
 by_cases c6 : c = 6
 ·subst c6
  have he : kindsR w p ((6 : Int), (n : Int)) ⟨sr, su, sv, sk⟩ top = allT 2 top := by unfold kindsR; simp
  refine gom ?_
  refine WL.oo (OW.callVK rfl rfl rfl (all_fn G 2 b3 A top cap hA ht) rfl fun v' G' H' h hg => ?_)
  obtain ⟨h0, rfl, rfl⟩ := h
  cases h0
  refine gom ?_
  refine WC.rt ?_
  exact QF.p1 (.inl rfl) rfl (.tmp rfl) (⟨by rw [he], rfl, rfl⟩)
 have y6 : (c == 6) = false := by simpa using c6
 by_cases c25 : c = 25
 ·subst c25
  have he : kindsR w p ((25 : Int), (n : Int)) ⟨sr, su, sv, sk⟩ top = allT 2 top := by unfold kindsR; simp
  refine gom ?_
  refine WL.oo (OW.callVK rfl rfl rfl (all_fn G 2 b3 A top cap hA ht) rfl fun v' G' H' h hg => ?_)
  obtain ⟨h0, rfl, rfl⟩ := h
  cases h0
  refine gom ?_
  refine WC.rt ?_
  exact QF.p1 (.inl rfl) rfl (.tmp rfl) (⟨by rw [he], rfl, rfl⟩)
 have y25 : (c == 25) = false := by simpa using c25
 by_cases c7 : c = 7
 ·subst c7
  obtain ⟨q, hq⟩ : ∃ q, w.procs[n]? = some q := ⟨_, List.getElem?_eq_getElem (ho7 rfl)⟩
  obtain ⟨cb, co, cs, rfl, hk, hcs⟩ := hW.procs n q hq
  obtain ⟨PA2, pc2, CA2, cc2, rfl, hk1, hk2⟩ := hk
  have x0 : (0 : Int) ≤ (n : Int) := by omega
  have x1 : (n : Int) < (w.procs.length : Int) := by have := ho7 rfl; omega
  have he : kindsR w p ((7 : Int), (n : Int)) ⟨sr, su, sv, sk⟩ top = (top == q.params) := by unfold kindsR; simp [hq]
  refine gom ?_
  refine WQ.one kr kr (OW.callK rfl (equal_types G [] A PA2 cap pc2 top q.params hA hk1 (by omega)) rfl fun v' G' H' h hg => ?_)
  obtain ⟨h0, rfl, rfl⟩ := h
  cases h0
  refine gom ?_
  refine WC.rt ?_
  exact QF.p1 (.inl rfl) rfl (.tmp rfl) (⟨by rw [he], rfl, rfl⟩)
 have y7 : (c == 7) = false := by simpa using c7
 by_cases c8 : c = 8
 ·subst c8
  obtain ⟨q, hq⟩ : ∃ q, w.needs[n]? = some q := ⟨_, List.getElem?_eq_getElem (ho8 rfl)⟩
  obtain ⟨cb, co, cs, rfl, hk, hcs⟩ := hW.needs n q hq
  obtain ⟨PA2, pc2, rfl, hk1⟩ := hk
  have x0 : (0 : Int) ≤ (n : Int) := by omega
  have x1 : (n : Int) < (w.needs.length : Int) := by have := ho8 rfl; omega
  have he : kindsR w p ((8 : Int), (n : Int)) ⟨sr, su, sv, sk⟩ top = (top == q.params) := by unfold kindsR; simp [hq]
  refine gom ?_
  refine WQ.one kr kr (OW.callK rfl (equal_types G [] A PA2 cap pc2 top q.params hA hk1 (by omega)) rfl fun v' G' H' h hg => ?_)
  obtain ⟨h0, rfl, rfl⟩ := h
  cases h0
  refine gom ?_
  refine WC.rt ?_
  exact QF.p1 (.inl rfl) rfl (.tmp rfl) (⟨by rw [he], rfl, rfl⟩)
 have y8 : (c == 8) = false := by simpa using c8
 by_cases c10 : c = 10
 ·subst c10
  have he : kindsR w p ((10 : Int), (n : Int)) ⟨sr, su, sv, sk⟩ top = allT p.result top := by unfold kindsR; simp
  refine gom ?_
  refine WL.oo (OW.callVK rfl rfl rfl (all_fn G p.result b3 A top cap hA ht) rfl fun v' G' H' h hg => ?_)
  obtain ⟨h0, rfl, rfl⟩ := h
  cases h0
  refine gom ?_
  refine WC.rt ?_
  exact QF.p1 (.inl rfl) rfl (.tmp rfl) (⟨by rw [he], rfl, rfl⟩)
 have y10 : (c == 10) = false := by simpa using c10
 by_cases c12 : c = 12
 ·subst c12
  obtain ⟨x, hx⟩ : ∃ x, top[0]? = some x := ⟨_, List.getElem?_eq_getElem (by have := h2 (by decide); omega)⟩
  obtain ⟨y, hy⟩ : ∃ y, top[1]? = some y := ⟨_, List.getElem?_eq_getElem (by have := h2 (by decide); omega)⟩
  obtain ⟨cb, co, rfl, hcs⟩ := hA.at hx
  obtain ⟨cb', co', hce, hcs2⟩ := hA.at hy
  cases hce
  have z1 : (0 : Int) < (top.length : Int) := by have := h2 (by decide); omega
  have z2 : (1 : Int) < (top.length : Int) := by have := h2 (by decide); omega
  have he : kindsR w p ((12 : Int), (n : Int)) ⟨sr, su, sv, sk⟩ top = (x == y && x != 0) := by unfold kindsR; simp [hx, hy]
  cases hxy : (x == y) with
  | true =>
   refine gom ?_
   refine WC.rt ?_
   exact QF.p1 (.inl rfl) rfl (.tmp rfl) (⟨by rw [he, hxy]; rfl, rfl, rfl⟩)
  | false =>
   refine gom ?_
   refine WC.rt ?_
   exact QF.p1 (.inl rfl) rfl (.tmp rfl) (⟨by rw [he, hxy]; rfl, rfl, rfl⟩)
 have y12 : (c == 12) = false := by simpa using c12
 by_cases c13 : c = 13
 ·subst c13
  obtain ⟨x, hx⟩ : ∃ x, top[0]? = some x := ⟨_, List.getElem?_eq_getElem (by have := h2 (by decide); omega)⟩
  obtain ⟨y, hy⟩ : ∃ y, top[1]? = some y := ⟨_, List.getElem?_eq_getElem (by have := h2 (by decide); omega)⟩
  obtain ⟨cb, co, rfl, hcs⟩ := hA.at hx
  obtain ⟨cb', co', hce, hcs2⟩ := hA.at hy
  cases hce
  have z1 : (0 : Int) < (top.length : Int) := by have := h2 (by decide); omega
  have z2 : (1 : Int) < (top.length : Int) := by have := h2 (by decide); omega
  have he : kindsR w p ((13 : Int), (n : Int)) ⟨sr, su, sv, sk⟩ top = (x == y && x != 0) := by unfold kindsR; simp [hx, hy]
  cases hxy : (x == y) with
  | true =>
   refine gom ?_
   refine WC.rt ?_
   exact QF.p1 (.inl rfl) rfl (.tmp rfl) (⟨by rw [he, hxy]; rfl, rfl, rfl⟩)
  | false =>
   refine gom ?_
   refine WC.rt ?_
   exact QF.p1 (.inl rfl) rfl (.tmp rfl) (⟨by rw [he, hxy]; rfl, rfl, rfl⟩)
 have y13 : (c == 13) = false := by simpa using c13
 by_cases c14 : c = 14
 ·subst c14
  have he : kindsR w p ((14 : Int), (n : Int)) ⟨sr, su, sv, sk⟩ top = (allT 1 top || allT 3 top) := by unfold kindsR; simp
  refine gom ?_
  refine WL.oo (OW.callVK rfl rfl rfl (all_fn G 1 b3 A top cap hA ht) rfl fun v' G' H' h hg => ?_)
  obtain ⟨h0, rfl, rfl⟩ := h
  cases h0
  cases h5 : allT 1 top with
  | true =>
   refine gom ?_
   refine WC.rt ?_
   exact QF.p1 (.inl rfl) rfl (.tmp rfl) (⟨by rw [he, h5]; rfl, rfl, rfl⟩)
  | false =>
   refine gom ?_
   refine WL.oo (OW.callVK rfl rfl rfl (all_fn G 3 b3 A top cap hA ht) rfl fun v' G' H' h hg => ?_)
   obtain ⟨h0, rfl, rfl⟩ := h
   cases h0
   refine gom ?_
   refine WC.rt ?_
   exact QF.p1 (.inl rfl) rfl (.tmp rfl) (⟨by rw [he, h5]; rfl, rfl, rfl⟩)
 have y14 : (c == 14) = false := by simpa using c14
 by_cases c15 : c = 15
 ·subst c15
  have he : kindsR w p ((15 : Int), (n : Int)) ⟨sr, su, sv, sk⟩ top = (allT 1 top || allT 3 top) := by unfold kindsR; simp
  refine gom ?_
  refine WL.oo (OW.callVK rfl rfl rfl (all_fn G 1 b3 A top cap hA ht) rfl fun v' G' H' h hg => ?_)
  obtain ⟨h0, rfl, rfl⟩ := h
  cases h0
  cases h5 : allT 1 top with
  | true =>
   refine gom ?_
   refine WC.rt ?_
   exact QF.p1 (.inl rfl) rfl (.tmp rfl) (⟨by rw [he, h5]; rfl, rfl, rfl⟩)
  | false =>
   refine gom ?_
   refine WL.oo (OW.callVK rfl rfl rfl (all_fn G 3 b3 A top cap hA ht) rfl fun v' G' H' h hg => ?_)
   obtain ⟨h0, rfl, rfl⟩ := h
   cases h0
   refine gom ?_
   refine WC.rt ?_
   exact QF.p1 (.inl rfl) rfl (.tmp rfl) (⟨by rw [he, h5]; rfl, rfl, rfl⟩)
 have y15 : (c == 15) = false := by simpa using c15
 by_cases c16 : c = 16
 ·subst c16
  have he : kindsR w p ((16 : Int), (n : Int)) ⟨sr, su, sv, sk⟩ top = (allT 1 top || allT 3 top) := by unfold kindsR; simp
  refine gom ?_
  refine WL.oo (OW.callVK rfl rfl rfl (all_fn G 1 b3 A top cap hA ht) rfl fun v' G' H' h hg => ?_)
  obtain ⟨h0, rfl, rfl⟩ := h
  cases h0
  cases h5 : allT 1 top with
  | true =>
   refine gom ?_
   refine WC.rt ?_
   exact QF.p1 (.inl rfl) rfl (.tmp rfl) (⟨by rw [he, h5]; rfl, rfl, rfl⟩)
  | false =>
   refine gom ?_
   refine WL.oo (OW.callVK rfl rfl rfl (all_fn G 3 b3 A top cap hA ht) rfl fun v' G' H' h hg => ?_)
   obtain ⟨h0, rfl, rfl⟩ := h
   cases h0
   refine gom ?_
   refine WC.rt ?_
   exact QF.p1 (.inl rfl) rfl (.tmp rfl) (⟨by rw [he, h5]; rfl, rfl, rfl⟩)
 have y16 : (c == 16) = false := by simpa using c16
 by_cases c17 : c = 17
 ·subst c17
  have he : kindsR w p ((17 : Int), (n : Int)) ⟨sr, su, sv, sk⟩ top = (allT 1 top || allT 3 top) := by unfold kindsR; simp
  refine gom ?_
  refine WL.oo (OW.callVK rfl rfl rfl (all_fn G 1 b3 A top cap hA ht) rfl fun v' G' H' h hg => ?_)
  obtain ⟨h0, rfl, rfl⟩ := h
  cases h0
  cases h5 : allT 1 top with
  | true =>
   refine gom ?_
   refine WC.rt ?_
   exact QF.p1 (.inl rfl) rfl (.tmp rfl) (⟨by rw [he, h5]; rfl, rfl, rfl⟩)
  | false =>
   refine gom ?_
   refine WL.oo (OW.callVK rfl rfl rfl (all_fn G 3 b3 A top cap hA ht) rfl fun v' G' H' h hg => ?_)
   obtain ⟨h0, rfl, rfl⟩ := h
   cases h0
   refine gom ?_
   refine WC.rt ?_
   exact QF.p1 (.inl rfl) rfl (.tmp rfl) (⟨by rw [he, h5]; rfl, rfl, rfl⟩)
 have y17 : (c == 17) = false := by simpa using c17
 by_cases c18 : c = 18
 ·subst c18
  have he : kindsR w p ((18 : Int), (n : Int)) ⟨sr, su, sv, sk⟩ top = allT 1 top := by unfold kindsR; simp
  refine gom ?_
  refine WL.oo (OW.callVK rfl rfl rfl (all_fn G 1 b3 A top cap hA ht) rfl fun v' G' H' h hg => ?_)
  obtain ⟨h0, rfl, rfl⟩ := h
  cases h0
  refine gom ?_
  refine WC.rt ?_
  exact QF.p1 (.inl rfl) rfl (.tmp rfl) (⟨by rw [he], rfl, rfl⟩)
 have y18 : (c == 18) = false := by simpa using c18
 by_cases c19 : c = 19
 ·subst c19
  have he : kindsR w p ((19 : Int), (n : Int)) ⟨sr, su, sv, sk⟩ top = allT 1 top := by unfold kindsR; simp
  refine gom ?_
  refine WL.oo (OW.callVK rfl rfl rfl (all_fn G 1 b3 A top cap hA ht) rfl fun v' G' H' h hg => ?_)
  obtain ⟨h0, rfl, rfl⟩ := h
  cases h0
  refine gom ?_
  refine WC.rt ?_
  exact QF.p1 (.inl rfl) rfl (.tmp rfl) (⟨by rw [he], rfl, rfl⟩)
 have y19 : (c == 19) = false := by simpa using c19
 by_cases c21 : c = 21
 ·subst c21
  have he : kindsR w p ((21 : Int), (n : Int)) ⟨sr, su, sv, sk⟩ top = allT 1 top := by unfold kindsR; simp
  refine gom ?_
  refine WL.oo (OW.callVK rfl rfl rfl (all_fn G 1 b3 A top cap hA ht) rfl fun v' G' H' h hg => ?_)
  obtain ⟨h0, rfl, rfl⟩ := h
  cases h0
  refine gom ?_
  refine WC.rt ?_
  exact QF.p1 (.inl rfl) rfl (.tmp rfl) (⟨by rw [he], rfl, rfl⟩)
 have y21 : (c == 21) = false := by simpa using c21
 by_cases c22 : c = 22
 ·subst c22
  have he : kindsR w p ((22 : Int), (n : Int)) ⟨sr, su, sv, sk⟩ top = allT 1 top := by unfold kindsR; simp
  refine gom ?_
  refine WL.oo (OW.callVK rfl rfl rfl (all_fn G 1 b3 A top cap hA ht) rfl fun v' G' H' h hg => ?_)
  obtain ⟨h0, rfl, rfl⟩ := h
  cases h0
  refine gom ?_
  refine WC.rt ?_
  exact QF.p1 (.inl rfl) rfl (.tmp rfl) (⟨by rw [he], rfl, rfl⟩)
 have y22 : (c == 22) = false := by simpa using c22
 by_cases c23 : c = 23
 ·subst c23
  have he : kindsR w p ((23 : Int), (n : Int)) ⟨sr, su, sv, sk⟩ top = allT 1 top := by unfold kindsR; simp
  refine gom ?_
  refine WL.oo (OW.callVK rfl rfl rfl (all_fn G 1 b3 A top cap hA ht) rfl fun v' G' H' h hg => ?_)
  obtain ⟨h0, rfl, rfl⟩ := h
  cases h0
  refine gom ?_
  refine WC.rt ?_
  exact QF.p1 (.inl rfl) rfl (.tmp rfl) (⟨by rw [he], rfl, rfl⟩)
 have y23 : (c == 23) = false := by simpa using c23
 by_cases c24 : c = 24
 ·subst c24
  have he : kindsR w p ((24 : Int), (n : Int)) ⟨sr, su, sv, sk⟩ top = allT 1 top := by unfold kindsR; simp
  refine gom ?_
  refine WL.oo (OW.callVK rfl rfl rfl (all_fn G 1 b3 A top cap hA ht) rfl fun v' G' H' h hg => ?_)
  obtain ⟨h0, rfl, rfl⟩ := h
  cases h0
  refine gom ?_
  refine WC.rt ?_
  exact QF.p1 (.inl rfl) rfl (.tmp rfl) (⟨by rw [he], rfl, rfl⟩)
 have y24 : (c == 24) = false := by simpa using c24
 by_cases c20 : c = 20
 ·subst c20
  have he : kindsR w p ((20 : Int), (n : Int)) ⟨sr, su, sv, sk⟩ top = allT 3 top := by unfold kindsR; simp
  refine gom ?_
  refine WL.oo (OW.callVK rfl rfl rfl (all_fn G 3 b3 A top cap hA ht) rfl fun v' G' H' h hg => ?_)
  obtain ⟨h0, rfl, rfl⟩ := h
  cases h0
  refine gom ?_
  refine WC.rt ?_
  exact QF.p1 (.inl rfl) rfl (.tmp rfl) (⟨by rw [he], rfl, rfl⟩)
 have y20 : (c == 20) = false := by simpa using c20
 by_cases c26 : c = 26
 ·subst c26
  have he : kindsR w p ((26 : Int), (n : Int)) ⟨sr, su, sv, sk⟩ top = allT 3 top := by unfold kindsR; simp
  refine gom ?_
  refine WL.oo (OW.callVK rfl rfl rfl (all_fn G 3 b3 A top cap hA ht) rfl fun v' G' H' h hg => ?_)
  obtain ⟨h0, rfl, rfl⟩ := h
  cases h0
  refine gom ?_
  refine WC.rt ?_
  exact QF.p1 (.inl rfl) rfl (.tmp rfl) (⟨by rw [he], rfl, rfl⟩)
 have y26 : (c == 26) = false := by simpa using c26
 have he : kindsR w p (c, (n : Int)) ⟨sr, su, sv, sk⟩ top = true := by
  unfold kindsR
  rw [if_neg c2, if_neg (by simp [c3, c11]), if_neg (by simp [c6, c25]), if_neg c7, if_neg c8, if_neg c10, if_neg (by simp [c12, c13]), if_neg (by omega), if_neg (by simp [c20, c26]), if_neg (by omega)]
 refine gom ?_
 refine WC.rt ?_
 exact QF.p1 (.inl rfl) rfl (.tmp rfl) (⟨by rw [he], rfl, rfl⟩)
end
end
section
attribute [local irreducible] Tryz.prog
theorem Sl.fromG {α : Type} {k : Kd α} {G : Gh} {A : Option Addr} {xs : List α} {cap lo : Nat} (h : Sl k G A xs) (hc : xs.length ≤ cap) : Sl k G (if cap = lo then A else A.map (·.add (lo * k.n))) (xs.drop lo) := fun i x hx => by
 rw [List.getElem?_drop] at hx
 have hl := (List.getElem?_eq_some_iff.1 hx).1
 obtain ⟨b, o, cs, rfl, h1, h2⟩ := h (lo + i) x hx
 rw [if_neg (by omega)]
 refine ⟨b, o + lo * k.n, cs, ?_, h1, ?_⟩
 ·simp only [Option.map_some, Addr.add]
  split
  ·rename_i h0; rw [h0]; rfl
  ·rfl
 ·rw [show o + lo * k.n + i * k.n = o + (lo + i) * k.n by rw [Nat.add_mul]; omega]; exact h2
theorem effC_one {w : Wd} {vars : List Int} {c n : Int} (h : c = 3 ∨ c = 11) : (effC w vars (c, n)).1 = 1 := by rcases h with rfl | rfl <;> rfl
theorem effC_two {w : Wd} {vars : List Int} {c n : Int} (h : c = 12 ∨ c = 13) : (effC w vars (c, n)).1 = 2 := by rcases h with rfl | rfl <;> rfl
section
variable (G : Gh) (w : Wd) (p : Pr) (bf bw : Nat) (CA NA PA : Option Addr) (cc nc pc : Nat) (QA IA : Option Addr) (qc ic : Nat) (TA : Option Addr) (tc : Nat) (l : List SS) (hW : WRep G w bw CA NA PA cc nc pc) (hF : FRep G p bf bw QA IA qc ic TA l.length tc) (hT : Sl Kd.ss G TA l) (hp : POk w p) (hc : Closed w p l)
include hW hF hT hp hc
theorem at_fn (k : Nat) (s : SS) (i : Int × Int) (hs : l[k]? = some s) (hi : p.code[k]? = some i) (hr : s.reached = true) :
  Fn Tryz.prog 136 #[.pointer (some ⟨bf, 0, none⟩), .int .i64 k] G []
   fun e G' H' => e = .returned (.int .i64 (metR w p k i s)) ∧ G.le G' ∧ H' = [] := by
 have hfc := hF.cells
 have hfp := hF.proc
 have hfew := hp.few
 have hloc := hp.loc
 have hll := hc.len
 obtain ⟨hi0, hiE⟩ := hp.ins k i hi
 obtain ⟨ic1, in1⟩ := i
 obtain ⟨nn, rfl⟩ : ∃ nn : Nat, in1 = nn := ⟨in1.toNat, by dsimp only at hi0; omega⟩
 dsimp only at hiE
 rw [Int.toNat_natCast] at hiE
 have hkl := (List.getElem?_eq_some_iff.1 hs).1
 have hws := hc.wf s (List.mem_of_getElem? hs)
 have hvs := hws.vars hr
 have hks := hws.high
 obtain ⟨sb, so, scs, rfl, hsk, hsc⟩ := hT k s hs
 obtain ⟨VA, vc, SA, sc, rfl, hS⟩ := Kd.ss_rep hsk
 obtain ⟨ib, io, ics, rfl, hik, hic⟩ := hF.code k _ hi
 obtain rfl : ics = [.int .i64 ic1, .int .i64 nn] := hik
 have hfc2 : Cs G bf (0 + 1 + 5) [.slice (some ⟨ib, io, none⟩) p.code.length ic, .slice (some ⟨sb, so, none⟩) l.length tc] := hfp.drop 5
 have z0 : (0 : Int) ≤ (k : Int) := by omega
 have z1 : (k : Int) < (p.code.length : Int) := by omega
 have z2 : (k : Int) < (l.length : Int) := by omega
 refine Fn.enter Tryz.func136 rfl rfl fun w0 => ?_
 refine go ?_
 refine WC.joinG (X := Nat × Nat) (fun t => [(0, .pointer (some ⟨bf, 0, none⟩)), (1, .int .i64 k), (5, .pointer (some ⟨t.1, 0, none⟩)), (6, .pointer (some ⟨t.2, 0, none⟩))]) (fun _ => G)
  (fun t => [.blk t.1 (.cells #[.int .i64 ic1, .int .i64 nn] 50 (0, 0)), .blk t.2 (.cells #[.bool s.reached, .bool s.unlike, .slice VA s.vars.length vc, .slice SA s.stack.length sc] 203 (0, 0))]) (fun _ => True) ?_ fun t _ => ?_
 ·refine WC.drawS (Hs := []) mixed pkA ?_
  refine zb.move 0 ?_
  refine zb.nil 1 ?_
  refine zb.fa 2 ?_
  refine zb.fa 3 ?_
  refine WB.vv 4 rfl (Gv.loadG1 (i := 0) rfl hfc2 rfl) ?_
  refine zb.move 5 ?_
  refine zb.ix 6 ?_
  refine WB.vv 7 rfl (Gv.loadGN rfl hic rfl) ?_
  refine zb.move 8 ?_
  refine zb.nil 9 ?_
  refine zb.fa 10 ?_
  refine WB.vv 11 rfl (Gv.loadG1 (i := 7) rfl hfc rfl) ?_
  refine zb.move 12 ?_
  refine zb.ix 13 ?_
  refine WB.vv 14 rfl (Gv.loadGN rfl hsc rfl) ?_
  refine WB.two (i := 15) (j := 16) kr rfl rfl kr kr (OW.alloc rfl fun b5 => ?_) (OW.alloc rfl fun b6 => ?_)
  ·refine ⟨fun w hw => hw.pk pkA, ?_⟩
   refine WB.oo 16 rfl (OW.alloc rfl fun b6 => ?_)
   refine ⟨fun w hw => hw.pk pkA, ?_⟩
   refine zb.st 17 ?_
   refine ⟨fun w hw => hw.pk pkA, ?_⟩
   refine zb.st 18 ?_
   refine ⟨fun w hw => hw.pk pkA, ?_⟩
   refine WB.done kr ?_
   refine WK.un ?_
   refine WK.pick [.blk b5 (.cells #[.int .i64 ic1, .int .i64 nn] 50 (0, 0)), .blk b6 (.cells #[.bool s.reached, .bool s.unlike, .slice VA s.vars.length vc, .slice SA s.stack.length sc] 203 (0, 0))] ?_
   exact WK.meet (b5, b6) trivial (by exact ⟨rfl, rfl, rfl, rfl, trivial⟩) rfl (List.Sublist.refl _)
  ·refine ⟨fun w hw => hw.pk pkA, ?_⟩
   refine WB.oo 15 rfl (OW.alloc rfl fun b5 => ?_)
   refine ⟨fun w hw => hw.pk pkA, ?_⟩
   refine zb.st 17 ?_
   refine ⟨fun w hw => hw.pk pkA, ?_⟩
   refine zb.st 18 ?_
   refine ⟨fun w hw => hw.pk pkA, ?_⟩
   refine WB.done kr ?_
   refine WK.un ?_
   refine WK.pick [.blk b5 (.cells #[.int .i64 ic1, .int .i64 nn] 50 (0, 0)), .blk b6 (.cells #[.bool s.reached, .bool s.unlike, .slice VA s.vars.length vc, .slice SA s.stack.length sc] 203 (0, 0))] ?_
   exact WK.meet (b5, b6) trivial (by exact ⟨rfl, rfl, rfl, rfl, trivial⟩) rfl (List.Sublist.refl _)
 obtain ⟨b5, b6⟩ := t
 refine gom ?_
 refine WL.oo (OW.callK rfl (next_fn _ ic1 nn k (by omega)) rfl fun v' G' H' h hg => ?_)
 obtain ⟨XA, xcap, he, hg5, hx5, rfl⟩ := h
 cases he
 obtain ⟨nx, hnx⟩ : ∃ nx, nx = nextR (ic1, (nn : Int)) k := ⟨_, rfl⟩
 rw [← hnx] at hx5 ⊢
 have hnxl : nx.length ≤ 2 := by rw [hnx]; unfold nextR; split; simp; split; simp; split <;> simp
 have hfc5 := hfc.mono hg5
 have hfp5 := hfp.mono hg5
 have hfc25 := hfc2.mono hg5
 refine gom ?_
 refine WC.pick [.blk b5 (.cells #[.int .i64 ic1, .int .i64 nn] 50 (0, 0)), .blk b6 (.cells #[.bool s.reached, .bool s.unlike, .slice VA s.vars.length vc, .slice SA s.stack.length sc] 203 (0, 0))] ?_
 refine WC.loop (X := Nat) (fun j => [(0, .pointer (some ⟨bf, 0, none⟩)), (5, .pointer (some ⟨b5, 0, none⟩)), (6, .pointer (some ⟨b6, 0, none⟩)), (30, .slice XA nx.length xcap), (31, .int .i64 nx.length), (32, .int .i64 j)]) (fun _ => G') (fun _ => [.blk b5 (.cells #[.int .i64 ic1, .int .i64 nn] 50 (0, 0)), .blk b6 (.cells #[.bool s.reached, .bool s.unlike, .slice VA s.vars.length vc, .slice SA s.stack.length sc] 203 (0, 0))])
  (fun j => nx.length - j) (fun j => j ≤ nx.length ∧ ∀ (q : Nat) x, q < j → nx[q]? = some x → x < (p.code.length : Int)) 0 ⟨Nat.zero_le _, fun q x h => by omega⟩ (by exact ⟨rfl, rfl, rfl, rfl, rfl, rfl, trivial⟩) rfl (List.Sublist.refl _) fun j hj => ?_
 obtain ⟨hj, hall⟩ := hj
 have hmet : metR w p k (ic1, (nn : Int)) s = if nx.any (fun x => decide ((p.code.length : Int) ≤ x)) then 183
   else if badS w (ic1, (nn : Int)) s then 181
   else if (ic1 = 9 ∧ p.result ≠ 0) ∨ (ic1 = 10 ∧ p.result = 0) then 181
   else if kindsR w p (ic1, (nn : Int)) s (s.stack.drop (s.stack.length - (effC w s.vars (ic1, (nn : Int))).1)) = false then 184 else 0 := by rw [hnx]; rfl
 by_cases hjl : j < nx.length
 ·
  have y1 : decide ((j : Int) < (nx.length : Int)) = true := decide_eq_true (by omega)
  obtain ⟨x, hx⟩ : ∃ x, nx[j]? = some x := ⟨_, List.getElem?_eq_getElem hjl⟩
  obtain ⟨xb', xo', rfl, hxc⟩ := hx5.at hx
  have w0' : (0 : Int) ≤ (j : Int) := by omega
  have w1 : (j : Int) < (nx.length : Int) := by omega
  have w2 := wrapS j (by omega)
  by_cases hxl : (p.code.length : Int) ≤ x
  ·have y2 : decide ((p.code.length : Int) ≤ x) = true := decide_eq_true hxl
   have hm : metR w p k (ic1, (nn : Int)) s = 183 := by
    rw [hmet, if_pos (List.any_eq_true.2 ⟨x, List.mem_of_getElem? hx, decide_eq_true hxl⟩)]
   rw [hm]
   refine gom ?_
   refine WC.rt ?_
   exact QF.p1 (.inl rfl) rfl (.tmp rfl) (⟨rfl, hg5, rfl⟩)
  ·have y2 : decide ((p.code.length : Int) ≤ x) = false := decide_eq_false hxl
   refine gom ?_
   exact WK.again (j + 1) (by omega) ⟨by omega, fun q y hq hy => by
    rcases Nat.lt_or_ge q j with h | h
    ·exact hall q y h hy
    ·obtain rfl : q = j := by omega
     rw [hx] at hy; cases hy; omega⟩ (by exact ⟨rfl, rfl, rfl, rfl, rfl, rfl, trivial⟩) rfl (List.Sublist.refl _)
 have y1 : decide ((j : Int) < (nx.length : Int)) = false := decide_eq_false (by omega)
 have hany : ¬ (nx.any (fun x => decide ((p.code.length : Int) ≤ x)) = true) := by
  intro h
  obtain ⟨x, hx, hx2⟩ := List.any_eq_true.1 h
  obtain ⟨q, hq⟩ := List.getElem?_of_mem hx
  have := hall q x (by have := (List.getElem?_eq_some_iff.1 hq).1; omega) hq
  have := of_decide_eq_true hx2
  omega
 rw [if_neg hany] at hmet
 have hW5 := hW.mono hg5
 have hF5 := hF.mono hg5
 have hS5 := hS.mono hg5
 refine gom ?_
 refine WL.oo (OW.callK rfl (effect_fn G' w p bf bw CA NA PA cc nc pc QA (some ⟨ib, io, none⟩) qc ic (some ⟨sb, so, none⟩) l.length tc hW5 hF5 s VA vc SA sc hS5 (by omega) ic1 nn (by rw [hvs]; exact hiE)) rfl fun v' G' H' h hg => ?_)
 obtain ⟨LA, lc, he, hg6, hs6, rfl⟩ := h
 cases he
 have htk := hW.takes s.vars (ic1, (nn : Int))
 have hly := effC_lays w s.vars (ic1, (nn : Int))
 obtain ⟨sr, su, sv, sk⟩ := s
 dsimp only at hr hvs hks hmet hs6 htk hly ⊢
 subst hr
 obtain ⟨tk, htke⟩ : ∃ tk, tk = (effC w sv (ic1, (nn : Int))).1 := ⟨_, rfl⟩
 obtain ⟨ly, hlye⟩ : ∃ ly, ly = (effC w sv (ic1, (nn : Int))).2 := ⟨_, rfl⟩
 rw [← htke] at htk hmet
 rw [← hlye] at hly hs6
 rw [← htke, ← hlye]
 have hgl := Gh.le_trans hg5 hg6
 have hfc6 := hfc.mono hgl
 have hfp6 := hfp.mono hgl
 have y3 : IntKind.i64.wrap ((sk.length : Int) - (tk : Int)) = (sk.length : Int) - (tk : Int) := wrapI (by omega) (by omega)
 by_cases hb : badS w (ic1, (nn : Int)) ⟨true, su, sv, sk⟩
 ·have hb' : su = true ∨ (sk.length < tk ∨ 128 < sk.length - tk + ly.length) := by unfold badS at hb; rw [htke, hlye]; exact hb
  rw [if_pos hb] at hmet
  rw [hmet]
  cases su with
  | true =>
   refine gom ?_
   refine WC.rt ?_
   exact QF.p1 (.inl rfl) rfl (.tmp rfl) (⟨rfl, hgl, rfl⟩)
  | false =>
  by_cases h1 : sk.length < tk
  ·have y7 : decide ((sk.length : Int) - (tk : Int) < 0) = true := decide_eq_true (by omega)
   refine gom ?_
   refine WC.rt ?_
   exact QF.p1 (.inl rfl) rfl (.tmp rfl) (⟨rfl, hgl, rfl⟩)
  ·have y7 : decide ((sk.length : Int) - (tk : Int) < 0) = false := decide_eq_false (by omega)
   have h2 : 128 < sk.length - tk + ly.length := by
    rcases hb' with h | h | h
    ·cases h
    ·exact absurd h h1
    ·exact h
   have y8 : IntKind.i64.wrap ((sk.length : Int) - (tk : Int) + (ly.length : Int)) = (sk.length : Int) - (tk : Int) + (ly.length : Int) := wrapI (by omega) (by omega)
   have y9 : decide ((128 : Int) < (sk.length : Int) - (tk : Int) + (ly.length : Int)) = true := decide_eq_true (by omega)
   refine gom ?_
   refine WC.rt ?_
   exact QF.p1 (.inl rfl) rfl (.tmp rfl) (⟨rfl, hgl, rfl⟩)
 rw [if_neg hb] at hmet
 have hb' : ¬ (su = true ∨ (sk.length < tk ∨ 128 < sk.length - tk + ly.length)) := by unfold badS at hb; rw [htke, hlye]; exact hb
 have hus : su = false := by cases h : su with | false => rfl | true => exact absurd (.inl h) hb'
 subst hus
 have h1 : ¬ sk.length < tk := fun h => hb' (.inr (.inl h))
 have h2 : ¬ 128 < sk.length - tk + ly.length := fun h => hb' (.inr (.inr h))
 have y7 : decide ((sk.length : Int) - (tk : Int) < 0) = false := decide_eq_false (by omega)
 have y8 : IntKind.i64.wrap ((sk.length : Int) - (tk : Int) + (ly.length : Int)) = (sk.length : Int) - (tk : Int) + (ly.length : Int) := wrapI (by omega) (by omega)
 have y9 : decide ((128 : Int) < (sk.length : Int) - (tk : Int) + (ly.length : Int)) = false := decide_eq_false (by omega)
 by_cases h9 : (ic1 = 9 ∧ p.result ≠ 0) ∨ (ic1 = 10 ∧ p.result = 0)
 ·rw [if_pos h9] at hmet
  rw [hmet]
  rcases h9 with ⟨rfl, h9⟩ | ⟨rfl, h9⟩
  ·have hrb : (p.result != 0) = true := by simpa using h9
   refine gom ?_
   refine WC.rt ?_
   exact QF.p1 (.inl rfl) rfl (.tmp rfl) (⟨rfl, hgl, rfl⟩)
  ·have hrb : (p.result != 0) = false := by simpa using h9
   refine gom ?_
   refine WC.rt ?_
   exact QF.p1 (.inl rfl) rfl (.tmp rfl) (⟨rfl, hgl, rfl⟩)
 rw [if_neg h9] at hmet
 have hto : (sk.drop (sk.length - tk)).length = tk := by rw [List.length_drop]; omega
 have hkf := kinds_fn _ w p bf bw CA NA PA cc nc pc QA (some ⟨ib, io, none⟩) qc ic (some ⟨sb, so, none⟩) l.length tc (hW.mono hgl) (hF.mono hgl) ⟨true, false, sv, sk⟩ VA vc SA sc (hS.mono hgl) (by dsimp only; omega) ic1 nn (by dsimp only; rw [hvs]; exact hiE)
  (if sc = sk.length - tk then SA else SA.map (·.add ((sk.length - tk) * (Kd.int .i64).n))) (sc - (sk.length - tk)) (sk.drop (sk.length - tk)) ((hS.mono hgl).stack.fromG hS.hs) (by rw [hto]; omega)
  (fun h => by rw [hto, htke, effC_one h]; exact Nat.le_refl _) (fun h => by rw [hto, htke, effC_two h]; exact Nat.le_refl _)
 have hl5 : sk.length - (sk.length - tk) = (sk.drop (sk.length - tk)).length := by rw [List.length_drop]
 have e5 : ((sk.length : Int) - (tk : Int)).toNat = sk.length - tk := by omega
 have hsc := hS.hs
 have fin : ∀ b, kindsR w p (ic1, (nn : Int)) ⟨true, false, sv, sk⟩ (sk.drop (sk.length - tk)) = b → metR w p k (ic1, (nn : Int)) ⟨true, false, sv, sk⟩ = if b = false then 184 else 0 := fun b hb => by rw [hmet, hb]
 by_cases d9 : ic1 = 9
 ·subst d9
  have hres : p.result = 0 := by
   apply Decidable.byContradiction; intro h; exact h9 (.inl ⟨rfl, h⟩)
  have hrb : (p.result != 0) = false := by rw [hres]; rfl
  refine gom ?_
  refine WQ.tp (Gp.sliceFrom rfl rfl (by omega) (by dsimp only at hsc; omega)) kr kr rfl ?_
  rw [e5, hl5]
  refine WQ.one kr kr (OW.callK rfl (hkf) rfl fun v' G' H' h hg => ?_)
  obtain ⟨he, rfl, rfl⟩ := h
  cases he
  cases hb5 : kindsR w p ((9 : Int), (nn : Int)) ⟨true, false, sv, sk⟩ (sk.drop (sk.length - tk)) with
  | true =>
   refine gom ?_
   refine WC.rt ?_
   exact QF.p1 (.inl rfl) rfl (.tmp rfl) (⟨by rw [fin _ hb5]; rfl, hgl, rfl⟩)
  | false =>
   refine gom ?_
   refine WC.rt ?_
   exact QF.p1 (.inl rfl) rfl (.tmp rfl) (⟨by rw [fin _ hb5]; rfl, hgl, rfl⟩)
 have y10 : (ic1 == 9) = false := by simpa using d9
 by_cases d10 : ic1 = 10
 ·subst d10
  have hres : p.result ≠ 0 := fun h => h9 (.inr ⟨rfl, h⟩)
  have hrb : (p.result != 0) = true := by simpa using hres
  refine gom ?_
  refine WQ.tp (Gp.sliceFrom rfl rfl (by omega) (by dsimp only at hsc; omega)) kr kr rfl ?_
  rw [e5, hl5]
  refine WQ.one kr kr (OW.callK rfl (hkf) rfl fun v' G' H' h hg => ?_)
  obtain ⟨he, rfl, rfl⟩ := h
  cases he
  cases hb5 : kindsR w p ((10 : Int), (nn : Int)) ⟨true, false, sv, sk⟩ (sk.drop (sk.length - tk)) with
  | true =>
   refine gom ?_
   refine WC.rt ?_
   exact QF.p1 (.inl rfl) rfl (.tmp rfl) (⟨by rw [fin _ hb5]; rfl, hgl, rfl⟩)
  | false =>
   refine gom ?_
   refine WC.rt ?_
   exact QF.p1 (.inl rfl) rfl (.tmp rfl) (⟨by rw [fin _ hb5]; rfl, hgl, rfl⟩)
 have y11 : (ic1 == 10) = false := by simpa using d10
 refine gom ?_
 refine WQ.tp (Gp.sliceFrom rfl rfl (by omega) (by dsimp only at hsc; omega)) kr kr rfl ?_
 rw [e5, hl5]
 refine WQ.one kr kr (OW.callK rfl (hkf) rfl fun v' G' H' h hg => ?_)
 obtain ⟨he, rfl, rfl⟩ := h
 cases he
 cases hb5 : kindsR w p (ic1, (nn : Int)) ⟨true, false, sv, sk⟩ (sk.drop (sk.length - tk)) with
 | true =>
  refine gom ?_
  refine WC.rt ?_
  exact QF.p1 (.inl rfl) rfl (.tmp rfl) (⟨by rw [fin _ hb5]; rfl, hgl, rfl⟩)
 | false =>
  refine gom ?_
  refine WC.rt ?_
  exact QF.p1 (.inl rfl) rfl (.tmp rfl) (⟨by rw [fin _ hb5]; rfl, hgl, rfl⟩)
theorem wrong_fn : Fn Tryz.prog 92 #[.pointer (some ⟨bf, 0, none⟩)] G []
      fun e G' H' => e = .returned (.tuple #[.int .i64 (wrongR w p l).1, .int .i64 (wrongR w p l).2]) ∧ G.le G' ∧ H' = [] := by
 have hfc := hF.cells
 have hfew := hp.few
 have hll := hc.len
 refine Fn.enter Tryz.func92 rfl rfl fun w0 => ?_
 refine gom ?_
 refine WC.loop (X := Nat × Gh) (fun x => [(0, .pointer (some ⟨bf, 0, none⟩)), (10, .slice TA l.length tc), (11, .int .i64 l.length), (12, .int .i64 x.1)]) (fun x => x.2) (fun _ => []) (fun x => l.length - x.1) (fun x => x.1 ≤ l.length ∧ G.le x.2 ∧ ∀ j, j < x.1 → badAt w p l j = 0) (0, G) ⟨Nat.zero_le _, Gh.le_refl _, fun j h => by omega⟩ (by exact ⟨rfl, rfl, rfl, rfl, trivial⟩) rfl (List.Sublist.refl _) fun x hx => ?_
 obtain ⟨k, G1⟩ := x
 obtain ⟨hk, hg1, hall⟩ := hx
 dsimp only at hk hg1 hall
 by_cases hlt : k < l.length
 rotate_left
 ·have e2 : decide ((k : Int) < (l.length : Int)) = false := decide_eq_false (by omega)
  have he : wrongR w p l = (0, 0) := firstR_none fun j hj => hall j (by omega)
  refine gom ?_
  refine WC.rt ?_
  exact QF.p2 (.inl rfl) rfl (.tmp rfl) (.tmp rfl) (⟨by rw [he], hg1, rfl⟩)
 have e2 : decide ((k : Int) < (l.length : Int)) = true := decide_eq_true (by omega)
 obtain ⟨s, hs⟩ : ∃ s, l[k]? = some s := ⟨_, List.getElem?_eq_getElem hlt⟩
 obtain ⟨i, hi⟩ : ∃ i, p.code[k]? = some i := ⟨_, List.getElem?_eq_getElem (by omega)⟩
 have hT1 := hT.mono hg1
 obtain ⟨sb, so, scs, rfl, hsk, hsc⟩ := hT1 k s hs
 obtain ⟨VA, vc, SA, sc, rfl, hS⟩ := Kd.ss_rep hsk
 have x0 : (0 : Int) ≤ (k : Int) := by omega
 have x1 : (k : Int) < (l.length : Int) := by omega
 have x2 := wrapS k (by omega)
 refine go ?_
 refine WL.oo (OW.alloc rfl fun b5 => ?_)
 cases hr : s.reached with
 | false =>
  refine gom ?_
  exact WK.again (k + 1, G1) (by dsimp only; omega) ⟨by dsimp only; omega, hg1, fun j hj => by
   rcases Nat.lt_or_ge j k with h | h
   ·exact hall j h
   ·obtain rfl : j = k := by dsimp only at hj; omega
    unfold badAt; rw [hs, hi]; simp [hr]⟩ (by exact ⟨rfl, rfl, rfl, rfl, trivial⟩) rfl (List.nil_sublist _)
 | true =>
 have hba : badAt w p l k = metR w p k i s := by unfold badAt; rw [hs, hi]; simp [hr]
 refine gom ?_
 refine WL.oo (OW.callK rfl (at_fn G1 w p bf bw CA NA PA cc nc pc QA IA qc ic (some ⟨sb, so, none⟩) tc l (hW.mono hg1) (hF.mono hg1) hT1 hp hc k s i hs hi hr) rfl fun v' G' H' h hg => ?_)
 obtain ⟨he, hg2, rfl⟩ := h
 cases he
 rw [← hba]
 by_cases hb : badAt w p l k = 0
 ·have e3 : (badAt w p l k != 0) = false := by simpa using hb
  refine gom ?_
  exact WK.again (k + 1, G') (by dsimp only; omega) ⟨by dsimp only; omega, Gh.le_trans hg1 hg2, fun j hj => by
   rcases Nat.lt_or_ge j k with h | h
   ·exact hall j h
   ·obtain rfl : j = k := by dsimp only at hj; omega
    exact hb⟩ (by exact ⟨rfl, rfl, rfl, rfl, trivial⟩) rfl (List.nil_sublist _)
 ·have e3 : (badAt w p l k != 0) = true := by simpa using hb
  have he : wrongR w p l = ((k : Int), badAt w p l k) := firstR_at hlt hall hb
  refine gom ?_
  refine WC.rt ?_
  exact QF.p2 (.inl rfl) rfl (.tmp rfl) (.tmp rfl) (⟨by rw [he], Gh.le_trans hg1 hg2, rfl⟩)
end
end
section
theorem bytes_beq (a b : ByteArray) : (a == b) = decide (a = b) := by
 rw [beq_toListBytes, ByteArray.toList_eq, ByteArray.toList_eq]
 obtain ⟨⟨a⟩⟩ := a
 obtain ⟨⟨b⟩⟩ := b
 rw [Bool.eq_iff_iff]
 simp
section
variable {L : List (Nat × Value)} {d : Option Tmp} {ty : TypeId} {pos : String} {af : Array Edge} {gu : Option (Nat × Bool)}
theorem Gp.eqV {x y : Operand} {t' : TypeId} {u v : V} (hx : ev L x = some (.agg #[.int .i64 u.t, .int .i64 u.i, .bool u.b, .string u.s])) (hy : ev L y = some (.agg #[.int .i64 v.t, .int .i64 v.i, .bool v.b, .string v.s])) :
  Gp Tryz.prog L ⟨d, .binOp .eql 52 x y t', ty, pos, af, gu⟩ (.bool (decide (u = v))) := fun a st w => by
 have h1 : Tryz.prog.eqGuardType Tryz.prog.depth 52 = false := by kernel_rfl
 have h2 : Tryz.prog.underlying 52 = some (.struct (Tryz.prog.fieldsOf 52)) := by kernel_rfl
 have h3 : Tryz.prog.stoodInHeld 52 = false := by kernel_rfl
 have key : (Op.eqFields 9999 #[.int .i64 u.t, .int .i64 u.i, .bool u.b, .string u.s] #[.int .i64 v.t, .int .i64 v.i, .bool v.b, .string v.s] (Tryz.prog.fieldsOf 52).toList).run Tryz.prog w = .ok (decide (u = v)) w := by
  have a0 := fun w => (inferInstance : Agg Tryz.prog 44 false).h w
  have a1 := fun w => (inferInstance : Agg Tryz.prog 2 false).h w
  have a2 := fun w => (inferInstance : Agg Tryz.prog 4 false).h w
  have a3 := fun w => (inferInstance : Agg Tryz.prog 9 false).h w
  have u0 : Tryz.prog.underlying 44 = some (.int .i64) := Und.h
  have u1 : Tryz.prog.underlying 2 = some (.int .i64) := Und.h
  have u2 : Tryz.prog.underlying 4 = some .bool := Und.h
  have u3 : Tryz.prog.underlying 9 = some .string := Und.h
  have e : decide (u = v) = (u.t == v.t && (u.i == v.i && (u.b == v.b && (u.s.toList == v.s.toList)))) := by
   rw [← beq_toListBytes, bytes_beq]
   obtain ⟨t, i, b, s⟩ := u
   obtain ⟨t', i', b', s'⟩ := v
   rw [Bool.eq_iff_iff]
   simp
  rw [e]
  simp only [Program.fieldsOf, Tryz.underlying52]
  simp only [Op.eqFields, part, Sem.run_bind, a0, a1, a2, a3, Result.andThen_ok, Sem.run_ite]
  simp [run_equalIn_int _ _ _ _ _ _ _ u0, run_equalIn_int _ _ _ _ _ _ _ u1, run_equalIn_bool' _ _ _ _ _ u2, run_equalIn_string _ _ _ _ _ u3]
  by_cases q0 : u.t = v.t <;> by_cases q1 : u.i = v.i <;> by_cases q2 : u.b = v.b <;> by_cases q3 : u.s.toList = v.s.toList <;> simp [q0, q1, q2, q3]
 simp only [execOp, Sem.run_bind, st.eval hx, st.eval hy, run_eqGuard_agg w .eql _ x y _ _ h1, Result.andThen_ok, run_eql_struct, run_equalIn_agg w 9999 _ _ _ h2 h3, key]
 rfl
end
attribute [local irreducible] Tryz.prog
theorem typed_fn (G : Gh) (H : List Own) (t : Int) : Fn Tryz.prog 129 #[.int .i64 t] G H fun e G' H' => e = .returned (.bool (typedR t)) ∧ G = G' ∧ H' = H := by
 refine Fn.enter Tryz.func129 rfl rfl fun w0 => ?_
 cases h1 : decide (1 ≤ t) with
 | true =>
  refine gom ?_
  refine WC.rt ?_
  exact QF.p1 (.inl rfl) rfl (.tmp rfl) (⟨by rw [typedR, h1, Bool.true_and], rfl, rfl⟩)
 | false =>
  refine gom ?_
  refine WC.rt ?_
  exact QF.p1 (.inl rfl) rfl (.tmp rfl) (⟨by rw [typedR, h1, Bool.false_and], rfl, rfl⟩)
theorem value_fn (G : Gh) (v : V) : Fn Tryz.prog 127 #[.agg #[.int .i64 v.t, .int .i64 v.i, .bool v.b, .string v.s]] G [] fun e G' H' => e = .returned (.bool (valueR v)) ∧ G = G' ∧ H' = [] := by
 obtain ⟨t, i, b, s⟩ := v
 refine Fn.enter Tryz.func127 rfl rfl fun w0 => ?_
 refine WC.seq ?_
 refine WC.region ?_
 refine WL.oo (OW.box rfl rfl fun b1 => ?_)
 refine gom ?_
 refine WL.oo (OW.alloc rfl fun b3 => ?_)
 have fin : ∀ (u : V) (b : Bool), decide ((⟨t, i, b, s⟩ : V) = u) = decide ((⟨t, i, b, s⟩ : V) = u) := fun _ _ => rfl
 by_cases h1 : t = 1
 ·subst h1
  refine gom ?_
  refine WL.pp (Gp.eqV (u := ⟨1, i, b, s⟩) (v := ⟨1, i, false, ⟨#[]⟩⟩) rfl rfl) ?_
  have hv : valueR ⟨1, i, b, s⟩ = (decide ((⟨1, i, b, s⟩ : V) = ⟨1, i, false, ⟨#[]⟩⟩) && decide ((s.size : Int) ≤ 4096)) := rfl
  rw [hv]
  cases h5 : decide ((⟨1, i, b, s⟩ : V) = ⟨1, i, false, ⟨#[]⟩⟩) with
  | true =>
   refine gom ?_
   refine WC.rt ?_
   exact QF.p1 (.inl rfl) rfl (.tmp rfl) (⟨by rw [Bool.true_and], rfl, rfl⟩)
  | false =>
   refine gom ?_
   refine WC.rt ?_
   exact QF.p1 (.inl rfl) rfl (.tmp rfl) (⟨by rw [Bool.false_and], rfl, rfl⟩)
 have y1 : (t == 1) = false := by simpa using h1
 by_cases h2 : t = 2
 ·subst h2
  refine gom ?_
  refine WL.pp (Gp.eqV (u := ⟨2, i, b, s⟩) (v := ⟨2, 0, b, ⟨#[]⟩⟩) rfl rfl) ?_
  have hv : valueR ⟨2, i, b, s⟩ = (decide ((⟨2, i, b, s⟩ : V) = ⟨2, 0, b, ⟨#[]⟩⟩) && decide ((s.size : Int) ≤ 4096)) := rfl
  rw [hv]
  cases h5 : decide ((⟨2, i, b, s⟩ : V) = ⟨2, 0, b, ⟨#[]⟩⟩) with
  | true =>
   refine gom ?_
   refine WC.rt ?_
   exact QF.p1 (.inl rfl) rfl (.tmp rfl) (⟨by rw [Bool.true_and], rfl, rfl⟩)
  | false =>
   refine gom ?_
   refine WC.rt ?_
   exact QF.p1 (.inl rfl) rfl (.tmp rfl) (⟨by rw [Bool.false_and], rfl, rfl⟩)
 have y2 : (t == 2) = false := by simpa using h2
 by_cases h3 : t = 3
 ·subst h3
  refine gom ?_
  refine WL.pp (Gp.eqV (u := ⟨3, i, b, s⟩) (v := ⟨3, 0, false, s⟩) rfl rfl) ?_
  have hv : valueR ⟨3, i, b, s⟩ = (decide ((⟨3, i, b, s⟩ : V) = ⟨3, 0, false, s⟩) && decide ((s.size : Int) ≤ 4096)) := rfl
  rw [hv]
  cases h5 : decide ((⟨3, i, b, s⟩ : V) = ⟨3, 0, false, s⟩) with
  | true =>
   refine gom ?_
   refine WC.rt ?_
   exact QF.p1 (.inl rfl) rfl (.tmp rfl) (⟨by rw [Bool.true_and], rfl, rfl⟩)
  | false =>
   refine gom ?_
   refine WC.rt ?_
   exact QF.p1 (.inl rfl) rfl (.tmp rfl) (⟨by rw [Bool.false_and], rfl, rfl⟩)
 have y3 : (t == 3) = false := by simpa using h3
 have hv : valueR ⟨t, i, b, s⟩ = false := by unfold valueR; simp [h1, h2, h3]
 rw [hv]
 refine gom ?_
 refine WC.rt ?_
 exact QF.p1 (.inl rfl) rfl (.tmp rfl) (⟨rfl, rfl, rfl⟩)
theorem all_step {α : Type} {f : α → Bool} {l : List α} {i : Nat} {x : α} (hx : l[i]? = some x) (h : ∀ j y, j < i → l[j]? = some y → f y = true) (hf : f x = true) : ∀ j y, j < i + 1 → l[j]? = some y → f y = true := fun j y hj hy => by
 rcases Nat.lt_or_ge j i with h1 | h1
 ·exact h j y h1 hy
 ·obtain rfl : j = i := by omega
  rw [hx] at hy; cases hy; exact hf
theorem all_of {α : Type} {f : α → Bool} {l : List α} {i : Nat} (h : ∀ j y, j < i → l[j]? = some y → f y = true) (hi : l.length ≤ i) : l.all f = true := by
 rw [List.all_eq_true]
 intro x hx
 obtain ⟨j, hj⟩ := List.getElem?_of_mem hx
 exact h j x (by have := (List.getElem?_eq_some_iff.1 hj).1; omega) hj
theorem all_not {α : Type} {f : α → Bool} {l : List α} {i : Nat} {x : α} (hx : l[i]? = some x) (hf : f x = false) : l.all f = false := by
 rw [List.all_eq_false]
 exact ⟨x, List.mem_of_getElem? hx, by rw [hf]; simp⟩
theorem values_fn (G : Gh) (A : Option Addr) (l : List V) (cap : Nat) (hA : Sl Kd.val G A l) (hl : l.length ≤ 100000000000000) :
  Fn Tryz.prog 86 #[.slice A l.length cap] G [] fun e G' H' => e = .returned (.bool (l.all valueR)) ∧ G = G' ∧ H' = [] := by
 refine Fn.enter Tryz.func86 rfl rfl fun w0 => ?_
 refine gom ?_
 refine WC.loop (X := Nat) (fun i => [(5, .slice A l.length cap), (6, .int .i64 l.length), (7, .int .i64 i)]) (fun _ => G) (fun _ => []) (fun i => l.length - i) (fun i => i ≤ l.length ∧ ∀ j y, j < i → l[j]? = some y → valueR y = true) 0 ⟨Nat.zero_le _, fun j y h => by omega⟩ (by exact ⟨rfl, rfl, rfl, trivial⟩) rfl (List.Sublist.refl _) fun i hx => ?_
 obtain ⟨hi, hall⟩ := hx
 by_cases hlt : i < l.length
 rotate_left
 ·have e2 : decide ((i : Int) < (l.length : Int)) = false := decide_eq_false (by omega)
  refine gom ?_
  refine WC.rt ?_
  exact QF.p1 (.inl rfl) rfl (.tmp rfl) (⟨by rw [all_of hall (by omega)], rfl, rfl⟩)
 have e2 : decide ((i : Int) < (l.length : Int)) = true := decide_eq_true (by omega)
 obtain ⟨v, hv⟩ : ∃ v, l[i]? = some v := ⟨_, List.getElem?_eq_getElem hlt⟩
 obtain ⟨b, o, cs, rfl, hk, hcs⟩ := hA i v hv
 obtain rfl : cs = vcells v := hk
 have x0 : (0 : Int) ≤ (i : Int) := by omega
 have x1 : (i : Int) < (l.length : Int) := by omega
 have x2 := wrapS i (by omega)
 refine gom ?_
 refine WL.oo (OW.alloc rfl fun b4 => ?_)
 refine gom ?_
 refine WL.oo (OW.callK rfl (value_fn G v) rfl fun v' G' H' h hg => ?_)
 obtain ⟨he, rfl, rfl⟩ := h
 cases he
 cases hf : valueR v with
 | true =>
  refine gom ?_
  exact WK.again (i + 1) (by omega) ⟨by omega, all_step hv hall hf⟩ (by exact ⟨rfl, rfl, rfl, trivial⟩) rfl (List.nil_sublist _)
 | false =>
  refine gom ?_
  refine WC.rt ?_
  exact QF.p1 (.inl rfl) rfl (.tmp rfl) (⟨by rw [all_not hv hf], rfl, rfl⟩)
theorem head_fn (G : Gh) (A : Option Addr) (l : List Int) (cap : Nat) (r : Int) (hA : Sl (Kd.int .i64) G A l) (hl : l.length ≤ 100000000000000) :
  Fn Tryz.prog 88 #[.slice A l.length cap, .int .i64 r] G [] fun e G' H' => e = .returned (.bool (headR l r)) ∧ G = G' ∧ H' = [] := by
 refine Fn.enter Tryz.func88 rfl rfl fun w0 => ?_
 refine gom ?_
 refine WC.loop (X := Nat) (fun i => [(0, .slice A l.length cap), (1, .int .i64 r), (7, .slice A l.length cap), (8, .int .i64 l.length), (9, .int .i64 i)]) (fun _ => G) (fun _ => []) (fun i => l.length - i) (fun i => i ≤ l.length ∧ ∀ j y, j < i → l[j]? = some y → typedR y = true) 0 ⟨Nat.zero_le _, fun j y h => by omega⟩ (by exact ⟨rfl, rfl, rfl, rfl, rfl, trivial⟩) rfl (List.Sublist.refl _) fun i hx => ?_
 obtain ⟨hi, hall⟩ := hx
 by_cases hlt : i < l.length
 rotate_left
 ·have e2 : decide ((i : Int) < (l.length : Int)) = false := decide_eq_false (by omega)
  have ha := all_of hall (by omega)
  cases h5 : decide ((l.length : Int) ≤ 64) with
  | false =>
   refine gom ?_
   refine WC.rt ?_
   exact QF.p1 (.inl rfl) rfl (.tmp rfl) (⟨by rw [headR, ha, h5]; rfl, rfl, rfl⟩)
  | true =>
  cases h6 : (r == 0) with
  | true =>
   refine gom ?_
   refine WC.rt ?_
   exact QF.p1 (.inl rfl) rfl (.tmp rfl) (⟨by rw [headR, ha, h5, h6]; rfl, rfl, rfl⟩)
  | false =>
   refine gom ?_
   refine WL.oo (OW.callK rfl (typed_fn G [] r) rfl fun v' G' H' h hg => ?_)
   obtain ⟨he, rfl, rfl⟩ := h
   cases he
   refine gom ?_
   refine WC.rt ?_
   exact QF.p1 (.inl rfl) rfl (.tmp rfl) (⟨by rw [headR, ha, h5, h6]; rfl, rfl, rfl⟩)
 have e2 : decide ((i : Int) < (l.length : Int)) = true := decide_eq_true (by omega)
 obtain ⟨v, hv⟩ : ∃ v, l[i]? = some v := ⟨_, List.getElem?_eq_getElem hlt⟩
 obtain ⟨b, o, rfl, hcs⟩ := hA.at hv
 have x0 : (0 : Int) ≤ (i : Int) := by omega
 have x1 : (i : Int) < (l.length : Int) := by omega
 have x2 := wrapS i (by omega)
 refine gom ?_
 refine WL.oo (OW.callK rfl (typed_fn G [] v) rfl fun v' G' H' h hg => ?_)
 obtain ⟨he, rfl, rfl⟩ := h
 cases he
 cases hf : typedR v with
 | true =>
  refine gom ?_
  exact WK.again (i + 1) (by omega) ⟨by omega, all_step hv hall hf⟩ (by exact ⟨rfl, rfl, rfl, rfl, rfl, trivial⟩) rfl (List.nil_sublist _)
 | false =>
  refine gom ?_
  refine WC.rt ?_
  exact QF.p1 (.inl rfl) rfl (.tmp rfl) (⟨by rw [headR, all_not hv hf]; rfl, rfl, rfl⟩)
theorem alone_fn (G : Gh) (w : Wd) (p : Pr) (bw : Nat) (CA NA PA : Option Addr) (cc nc pc : Nat) (hW : WRep G w bw CA NA PA cc nc pc) (QA IA : Option Addr) (qc ic : Nat) (i : Int × Int) :
  Fn Tryz.prog 90 #[.pointer (some ⟨bw, 0, none⟩), .agg (prC p QA qc IA ic), .agg #[.int .i64 i.1, .int .i64 i.2]] G [] fun e G' H' => e = .returned (.int .i64 (aloneR w p i)) ∧ G = G' ∧ H' = [] := by
 have hwc := hW.cells
 obtain ⟨c, n⟩ := i
 refine Fn.enter Tryz.func90 rfl rfl fun w0 => ?_
 refine WC.seq ?_
 refine WC.region ?_
 refine WL.oo (OW.box rfl rfl fun b1 => ?_)
 refine WL.oo (OW.box rfl rfl fun b2 => ?_)
 refine gom ?_
 refine WL.oo (OW.callK rfl (may_fn G c n) rfl fun v' G' H' h hg => ?_)
 obtain ⟨he, rfl, rfl⟩ := h
 cases he
 cases hm : mayR c n with
 | false =>
  have he : aloneR w p (c, n) = 180 := by unfold aloneR; rw [if_pos hm]
  rw [he]
  refine gom ?_
  refine WC.rt ?_
  exact QF.p1 (.inl rfl) rfl (.tmp rfl) (⟨rfl, rfl, rfl⟩)
 | true =>
 have hm' : ¬ (mayR c n = false) := by rw [hm]; simp
 refine WL.pick [.blk b2 (.cells #[.int .i64 c, .int .i64 n] 50 (0, 0)), .blk b1 (.cells (prC p QA qc IA ic) 47 (0, 0))] ?_
 by_cases c1 : c = 1
 ·subst c1
  have he : aloneR w p (1, n) = if (w.consts.length : Int) ≤ n then 180 else 0 := by unfold aloneR; rw [if_neg hm', if_neg (by simp)]; rfl
  by_cases hq : (w.consts.length : Int) ≤ n
  ·have z2 : decide ((w.consts.length : Int) ≤ n) = true := decide_eq_true hq
   rw [he, if_pos hq]
   refine gom ?_
   refine WC.rt ?_
   exact QF.p1 (.inl rfl) rfl (.tmp rfl) (⟨rfl, rfl, rfl⟩)
  ·have z2 : decide ((w.consts.length : Int) ≤ n) = false := decide_eq_false hq
   rw [he, if_neg hq]
   refine gom ?_
   refine WC.rt ?_
   exact QF.p1 (.inl rfl) rfl (.tmp rfl) (⟨rfl, rfl, rfl⟩)
 have y1 : (c == 1) = false := by simpa using c1
 by_cases c2 : c = 2
 ·subst c2
  have he : aloneR w p (2, n) = if p.locals ≤ n then 180 else 0 := by unfold aloneR; rw [if_neg hm', if_neg (by simp)]; rfl
  by_cases hq : p.locals ≤ n
  ·have z2 : decide (p.locals ≤ n) = true := decide_eq_true hq
   rw [he, if_pos hq]
   refine gom ?_
   refine WC.rt ?_
   exact QF.p1 (.inl rfl) rfl (.tmp rfl) (⟨rfl, rfl, rfl⟩)
  ·have z2 : decide (p.locals ≤ n) = false := decide_eq_false hq
   rw [he, if_neg hq]
   refine gom ?_
   refine WC.rt ?_
   exact QF.p1 (.inl rfl) rfl (.tmp rfl) (⟨rfl, rfl, rfl⟩)
 have y2 : (c == 2) = false := by simpa using c2
 by_cases c3 : c = 3
 ·subst c3
  have he : aloneR w p (3, n) = if p.locals ≤ n then 180 else 0 := by unfold aloneR; rw [if_neg hm', if_neg (by simp)]; rfl
  by_cases hq : p.locals ≤ n
  ·have z2 : decide (p.locals ≤ n) = true := decide_eq_true hq
   rw [he, if_pos hq]
   refine gom ?_
   refine WC.rt ?_
   exact QF.p1 (.inl rfl) rfl (.tmp rfl) (⟨rfl, rfl, rfl⟩)
  ·have z2 : decide (p.locals ≤ n) = false := decide_eq_false hq
   rw [he, if_neg hq]
   refine gom ?_
   refine WC.rt ?_
   exact QF.p1 (.inl rfl) rfl (.tmp rfl) (⟨rfl, rfl, rfl⟩)
 have y3 : (c == 3) = false := by simpa using c3
 by_cases c7 : c = 7
 ·subst c7
  have he : aloneR w p (7, n) = if (w.procs.length : Int) ≤ n then 180 else 0 := by unfold aloneR; rw [if_neg hm', if_neg (by simp)]; rfl
  by_cases hq : (w.procs.length : Int) ≤ n
  ·have z2 : decide ((w.procs.length : Int) ≤ n) = true := decide_eq_true hq
   rw [he, if_pos hq]
   refine gom ?_
   refine WC.rt ?_
   exact QF.p1 (.inl rfl) rfl (.tmp rfl) (⟨rfl, rfl, rfl⟩)
  ·have z2 : decide ((w.procs.length : Int) ≤ n) = false := decide_eq_false hq
   rw [he, if_neg hq]
   refine gom ?_
   refine WC.rt ?_
   exact QF.p1 (.inl rfl) rfl (.tmp rfl) (⟨rfl, rfl, rfl⟩)
 have y7 : (c == 7) = false := by simpa using c7
 by_cases c8 : c = 8
 ·subst c8
  have he : aloneR w p (8, n) = if (w.needs.length : Int) ≤ n then 180 else 0 := by unfold aloneR; rw [if_neg hm', if_neg (by simp)]; rfl
  by_cases hq : (w.needs.length : Int) ≤ n
  ·have z2 : decide ((w.needs.length : Int) ≤ n) = true := decide_eq_true hq
   rw [he, if_pos hq]
   refine gom ?_
   refine WC.rt ?_
   exact QF.p1 (.inl rfl) rfl (.tmp rfl) (⟨rfl, rfl, rfl⟩)
  ·have z2 : decide ((w.needs.length : Int) ≤ n) = false := decide_eq_false hq
   rw [he, if_neg hq]
   refine gom ?_
   refine WC.rt ?_
   exact QF.p1 (.inl rfl) rfl (.tmp rfl) (⟨rfl, rfl, rfl⟩)
 have y8 : (c == 8) = false := by simpa using c8
 by_cases c5 : c = 5
 ·subst c5
  by_cases hj : (p.code.length : Int) ≤ n
  ·have z1 : decide ((p.code.length : Int) ≤ n) = true := decide_eq_true hj
   have he : aloneR w p (5, n) = 182 := by unfold aloneR; rw [if_neg hm', if_pos ⟨by simp, hj⟩]
   rw [he]
   refine gom ?_
   refine WC.rt ?_
   exact QF.p1 (.inl rfl) rfl (.tmp rfl) (⟨rfl, rfl, rfl⟩)
  ·have z1 : decide ((p.code.length : Int) ≤ n) = false := decide_eq_false hj
   have he : aloneR w p (5, n) = if (2147483647 : Int) ≤ n then 180 else 0 := by unfold aloneR; rw [if_neg hm', if_neg (fun h => hj h.2)]; rfl
   by_cases hq : (2147483647 : Int) ≤ n
   ·have z2 : decide ((2147483647 : Int) ≤ n) = true := decide_eq_true hq
    rw [he, if_pos hq]
    refine gom ?_
    refine WC.rt ?_
    exact QF.p1 (.inl rfl) rfl (.tmp rfl) (⟨rfl, rfl, rfl⟩)
   ·have z2 : decide ((2147483647 : Int) ≤ n) = false := decide_eq_false hq
    rw [he, if_neg hq]
    refine gom ?_
    refine WC.rt ?_
    exact QF.p1 (.inl rfl) rfl (.tmp rfl) (⟨rfl, rfl, rfl⟩)
 have y5 : (c == 5) = false := by simpa using c5
 by_cases c6 : c = 6
 ·subst c6
  by_cases hj : (p.code.length : Int) ≤ n
  ·have z1 : decide ((p.code.length : Int) ≤ n) = true := decide_eq_true hj
   have he : aloneR w p (6, n) = 182 := by unfold aloneR; rw [if_neg hm', if_pos ⟨by simp, hj⟩]
   rw [he]
   refine gom ?_
   refine WC.rt ?_
   exact QF.p1 (.inl rfl) rfl (.tmp rfl) (⟨rfl, rfl, rfl⟩)
  ·have z1 : decide ((p.code.length : Int) ≤ n) = false := decide_eq_false hj
   have he : aloneR w p (6, n) = if (2147483647 : Int) ≤ n then 180 else 0 := by unfold aloneR; rw [if_neg hm', if_neg (fun h => hj h.2)]; rfl
   by_cases hq : (2147483647 : Int) ≤ n
   ·have z2 : decide ((2147483647 : Int) ≤ n) = true := decide_eq_true hq
    rw [he, if_pos hq]
    refine gom ?_
    refine WC.rt ?_
    exact QF.p1 (.inl rfl) rfl (.tmp rfl) (⟨rfl, rfl, rfl⟩)
   ·have z2 : decide ((2147483647 : Int) ≤ n) = false := decide_eq_false hq
    rw [he, if_neg hq]
    refine gom ?_
    refine WC.rt ?_
    exact QF.p1 (.inl rfl) rfl (.tmp rfl) (⟨rfl, rfl, rfl⟩)
 have y6 : (c == 6) = false := by simpa using c6
 have he : aloneR w p (c, n) = if (2147483647 : Int) ≤ n then 180 else 0 := by
  unfold aloneR
  simp [hm, c1, c2, c3, c5, c6, c7, c8]
 by_cases hq : (2147483647 : Int) ≤ n
 ·have z2 : decide ((2147483647 : Int) ≤ n) = true := decide_eq_true hq
  rw [he, if_pos hq]
  refine gom ?_
  refine WC.rt ?_
  exact QF.p1 (.inl rfl) rfl (.tmp rfl) (⟨rfl, rfl, rfl⟩)
 ·have z2 : decide ((2147483647 : Int) ≤ n) = false := decide_eq_false hq
  rw [he, if_neg hq]
  refine gom ?_
  refine WC.rt ?_
  exact QF.p1 (.inl rfl) rfl (.tmp rfl) (⟨rfl, rfl, rfl⟩)
end
end Go.Proofs.YtcnlkfocbbkdhaaGreatDoor.Gb
namespace Go.Proofs
open Go Go.Shelf
def Tryz.lays137_ren : Go.Shelf.Ren := ⟨fun | 137 => 208 | 217 => 226 | 266 => 243 | n => n, fun | 9 => 9 | 5 => 5 | 3 => 3 | n => n, fun | n => n⟩
theorem Tryz.lays137 : Go.Proofs.Lays.n137 Tryz.prog Tryz.lays137_ren := {
 mixed := by kernel_rfl
 f137 := Tryz.func208.trans (congrArg some (by kernel_rfl))
 f217 := Tryz.func226.trans (congrArg some (by kernel_rfl))
 f266 := Tryz.func243.trans (congrArg some (by kernel_rfl))
 t3 := Tryz.underlying3
 a3 := Tryz.isAgg3
 z3 := Tryz.sizeOf3
 v3 := Tryz.zeroValue3
 t5 := Tryz.underlying5
 a5 := Tryz.isAgg5
 z5 := Tryz.sizeOf5
 v5 := Tryz.zeroValue5
 t9 := Tryz.underlying9
 a9 := Tryz.isAgg9
 z9 := Tryz.sizeOf9
 v9 := Tryz.zeroValue9 }
open Go.RowKit in
theorem Tryz.strings_IndexByte (s : ByteArray) (c : Int) (w : World) :
  Calls Tryz.prog 208 #[.string s, .int .u8 c] w fun e w' => e = .returned (.int .i64 (Lib.indexByte s.data.toList c.toNat.toUInt8)) ∧ w' = w := Any.strings_IndexByte Tryz.lays137 s c w
def Tryz.laysM171_ren : Go.Shelf.Ren := ⟨fun | 171 => 254 | 243 => 261 | 246 => 223 | 283 => 239 | 284 => 240 | 285 => 241 | 286 => 242 | 129 => 256 | 317 => 255 | 318 => 257 | 319 => 258 | 320 => 259 | 337 => 262 | 338 => 263 | n => n, fun | 3 => 3 | 9 => 9 | 2 => 2 | 4 => 4 | 171 => 315 | 0 => 0 | 53 => 124 | 37 => 71 | 5 => 5 | 173 => 318 | 212 => 327 | 51 => 328 | 20 => 20 | 213 => 329 | 46 => 224 | 232 => 343 | 233 => 344 | n => n, fun | 17 => 3 | 18 => 6 | 19 => 7 | n => n⟩
def Tryz.laysM173_ren : Go.Shelf.Ren := ⟨fun | 173 => 205 | 246 => 223 | 283 => 239 | 284 => 240 | 285 => 241 | 286 => 242 | 129 => 256 | 317 => 255 | 318 => 257 | 319 => 258 | 320 => 259 | 337 => 262 | 338 => 263 | n => n, fun | 2 => 2 | 3 => 3 | 9 => 9 | 4 => 4 | 171 => 315 | 0 => 0 | 53 => 124 | 37 => 71 | 5 => 5 | 173 => 318 | 212 => 327 | 51 => 328 | 20 => 20 | 213 => 329 | 46 => 224 | 232 => 343 | 233 => 344 | n => n, fun | 17 => 3 | 18 => 6 | 19 => 7 | n => n⟩
theorem Tryz.laysM173 : Go.Proofs.LaysM.n173 Tryz.prog Tryz.laysM173_ren := {
 mixed := by kernel_rfl
 f129 := Tryz.func256.trans (congrArg some (by kernel_rfl))
 f173 := Tryz.func205.trans (congrArg some (by kernel_rfl))
 f246 := Tryz.func223.trans (congrArg some (by kernel_rfl))
 f283 := Tryz.func239.trans (congrArg some (by kernel_rfl))
 f284 := Tryz.func240.trans (congrArg some (by kernel_rfl))
 f285 := Tryz.func241.trans (congrArg some (by kernel_rfl))
 f286 := Tryz.func242.trans (congrArg some (by kernel_rfl))
 f317 := Tryz.func255.trans (congrArg some (by kernel_rfl))
 f318 := Tryz.func257.trans (congrArg some (by kernel_rfl))
 f319 := Tryz.func258.trans (congrArg some (by kernel_rfl))
 f320 := Tryz.func259.trans (congrArg some (by kernel_rfl))
 f337 := Tryz.func262.trans (congrArg some (by kernel_rfl))
 f338 := Tryz.func263.trans (congrArg some (by kernel_rfl))
 t0 := Tryz.underlying0
 a0 := Tryz.isAgg0
 z0 := Tryz.sizeOf0
 v0 := Tryz.zeroValue0
 t2 := Tryz.underlying2
 a2 := Tryz.isAgg2
 z2 := Tryz.sizeOf2
 v2 := Tryz.zeroValue2
 t3 := Tryz.underlying3
 a3 := Tryz.isAgg3
 z3 := Tryz.sizeOf3
 v3 := Tryz.zeroValue3
 t4 := Tryz.underlying4
 a4 := Tryz.isAgg4
 z4 := Tryz.sizeOf4
 v4 := Tryz.zeroValue4
 t5 := Tryz.underlying5
 a5 := Tryz.isAgg5
 z5 := Tryz.sizeOf5
 v5 := Tryz.zeroValue5
 t9 := Tryz.underlying9
 a9 := Tryz.isAgg9
 z9 := Tryz.sizeOf9
 v9 := Tryz.zeroValue9
 t20 := Tryz.underlying20
 a20 := Tryz.isAgg20
 z20 := Tryz.sizeOf20
 v20 := Tryz.zeroValue20
 t37 := Tryz.underlying71
 a37 := Tryz.isAgg71
 z37 := Tryz.sizeOf71
 v37 := Tryz.zeroValue71
 t46 := Tryz.underlying224
 a46 := Tryz.isAgg224
 z46 := Tryz.sizeOf224
 v46 := Tryz.zeroValue224
 t51 := Tryz.underlying328
 a51 := Tryz.isAgg328
 z51 := Tryz.sizeOf328
 v51 := Tryz.zeroValue328
 t53 := Tryz.underlying124
 a53 := Tryz.isAgg124
 z53 := Tryz.sizeOf124
 v53 := Tryz.zeroValue124
 t171 := Tryz.underlying315
 a171 := Tryz.isAgg315
 z171 := Tryz.sizeOf315
 v171 := Tryz.zeroValue315
 t173 := Tryz.underlying318
 a173 := Tryz.isAgg318
 z173 := Tryz.sizeOf318
 v173 := Tryz.zeroValue318
 t212 := Tryz.underlying327
 a212 := Tryz.isAgg327
 z212 := Tryz.sizeOf327
 v212 := Tryz.zeroValue327
 t213 := Tryz.underlying329
 a213 := Tryz.isAgg329
 z213 := Tryz.sizeOf329
 t232 := Tryz.underlying343
 a232 := Tryz.isAgg343
 z232 := Tryz.sizeOf343
 v232 := Tryz.zeroValue343
 t233 := Tryz.underlying344
 a233 := Tryz.isAgg344
 z233 := Tryz.sizeOf344
 v233 := Tryz.zeroValue344
 g17 := by kernel_rfl
 g18 := by kernel_rfl
 g19 := by kernel_rfl
 i0 := by kernel_rfl
 i2 := by kernel_rfl
 i3 := by kernel_rfl
 i4 := by kernel_rfl
 i5 := by kernel_rfl
 i9 := by kernel_rfl
 i20 := by kernel_rfl
 i37 := by kernel_rfl
 i46 := by kernel_rfl
 i51 := by kernel_rfl
 i53 := by kernel_rfl
 i171 := by kernel_rfl
 i173 := by kernel_rfl
 i212 := by kernel_rfl
 i232 := by kernel_rfl
 i233 := by kernel_rfl
 m17 := by kernel_rfl
 m18 := by kernel_rfl
 m19 := by kernel_rfl }
open Go.RowKit Go.Sort Go.Lib in
theorem Tryz.strconv_FormatInt_10 (n : Int) (h0 : -9223372036854775808 ≤ n) (h1 : n ≤ 9223372036854775807) (w : World) (htab : Lib.TabIs Tryz.prog w "internal/strconv.uint64pow10" .u64 Lib.pow10Tab) :
  Calls Tryz.prog 205 #[.int .i64 n, .int .i64 10] w fun e w' => e = .returned (.string ⟨(Lib.itoa n).toArray⟩) ∧ ∃ k os, w' = grow (w.drewN k) os := Any.strconv_FormatInt_10 Tryz.laysM173 n h0 h1 w htab
def Tryz.laysC174_ren : Go.Shelf.Ren := ⟨fun | 174 => 204 | 247 => 221 | 245 => 222 | 287 => 234 | 279 => 235 | 280 => 236 | 281 => 237 | 282 => 238 | 321 => 250 | 322 => 251 | 316 => 252 | 171 => 254 | 205 => 253 | 243 => 261 | 246 => 223 | 283 => 239 | 284 => 240 | 285 => 241 | 286 => 242 | 129 => 256 | 317 => 255 | 318 => 257 | 319 => 258 | 320 => 259 | 337 => 262 | 338 => 263 | n => n, fun | 9 => 9 | 3 => 3 | 2 => 2 | 75 => 285 | 85 => 286 | 4 => 4 | 167 => 309 | 5 => 5 | 53 => 124 | 175 => 310 | 46 => 224 | 168 => 312 | 37 => 71 | 0 => 0 | 210 => 324 | 21 => 21 | 127 => 338 | 145 => 341 | 143 => 339 | 171 => 315 | 173 => 318 | 212 => 327 | 51 => 328 | 20 => 20 | 213 => 329 | 232 => 343 | 233 => 344 | 80 => 345 | n => n, fun | 15 => 1 | 16 => 2 | 17 => 3 | 18 => 6 | 19 => 7 | n => n⟩
theorem Tryz.laysC174 : Go.Proofs.LaysC.n174 Tryz.prog Tryz.laysC174_ren := {
 mixed := by kernel_rfl
 f129 := Tryz.func256.trans (congrArg some (by kernel_rfl))
 f171 := Tryz.func254.trans (congrArg some (by kernel_rfl))
 f174 := Tryz.func204.trans (congrArg some (by kernel_rfl))
 f205 := Tryz.func253.trans (congrArg some (by kernel_rfl))
 f243 := Tryz.func261.trans (congrArg some (by kernel_rfl))
 f245 := Tryz.func222.trans (congrArg some (by kernel_rfl))
 f246 := Tryz.func223.trans (congrArg some (by kernel_rfl))
 f247 := Tryz.func221.trans (congrArg some (by kernel_rfl))
 f279 := Tryz.func235.trans (congrArg some (by kernel_rfl))
 f280 := Tryz.func236.trans (congrArg some (by kernel_rfl))
 f281 := Tryz.func237.trans (congrArg some (by kernel_rfl))
 f282 := Tryz.func238.trans (congrArg some (by kernel_rfl))
 f283 := Tryz.func239.trans (congrArg some (by kernel_rfl))
 f284 := Tryz.func240.trans (congrArg some (by kernel_rfl))
 f285 := Tryz.func241.trans (congrArg some (by kernel_rfl))
 f286 := Tryz.func242.trans (congrArg some (by kernel_rfl))
 f287 := Tryz.func234.trans (congrArg some (by kernel_rfl))
 f316 := Tryz.func252.trans (congrArg some (by kernel_rfl))
 f317 := Tryz.func255.trans (congrArg some (by kernel_rfl))
 f318 := Tryz.func257.trans (congrArg some (by kernel_rfl))
 f319 := Tryz.func258.trans (congrArg some (by kernel_rfl))
 f320 := Tryz.func259.trans (congrArg some (by kernel_rfl))
 f321 := Tryz.func250.trans (congrArg some (by kernel_rfl))
 f322 := Tryz.func251.trans (congrArg some (by kernel_rfl))
 f337 := Tryz.func262.trans (congrArg some (by kernel_rfl))
 f338 := Tryz.func263.trans (congrArg some (by kernel_rfl))
 t0 := Tryz.underlying0
 a0 := Tryz.isAgg0
 z0 := Tryz.sizeOf0
 v0 := Tryz.zeroValue0
 t2 := Tryz.underlying2
 a2 := Tryz.isAgg2
 z2 := Tryz.sizeOf2
 v2 := Tryz.zeroValue2
 t3 := Tryz.underlying3
 a3 := Tryz.isAgg3
 z3 := Tryz.sizeOf3
 v3 := Tryz.zeroValue3
 t4 := Tryz.underlying4
 a4 := Tryz.isAgg4
 z4 := Tryz.sizeOf4
 v4 := Tryz.zeroValue4
 t5 := Tryz.underlying5
 a5 := Tryz.isAgg5
 z5 := Tryz.sizeOf5
 v5 := Tryz.zeroValue5
 t9 := Tryz.underlying9
 a9 := Tryz.isAgg9
 z9 := Tryz.sizeOf9
 v9 := Tryz.zeroValue9
 t20 := Tryz.underlying20
 a20 := Tryz.isAgg20
 z20 := Tryz.sizeOf20
 v20 := Tryz.zeroValue20
 t21 := Tryz.underlying21
 a21 := Tryz.isAgg21
 z21 := Tryz.sizeOf21
 v21 := Tryz.zeroValue21
 t37 := Tryz.underlying71
 a37 := Tryz.isAgg71
 z37 := Tryz.sizeOf71
 v37 := Tryz.zeroValue71
 t46 := Tryz.underlying224
 a46 := Tryz.isAgg224
 z46 := Tryz.sizeOf224
 v46 := Tryz.zeroValue224
 t51 := Tryz.underlying328
 a51 := Tryz.isAgg328
 z51 := Tryz.sizeOf328
 v51 := Tryz.zeroValue328
 t53 := Tryz.underlying124
 a53 := Tryz.isAgg124
 z53 := Tryz.sizeOf124
 v53 := Tryz.zeroValue124
 t75 := Tryz.underlying285
 a75 := Tryz.isAgg285
 z75 := Tryz.sizeOf285
 v75 := Tryz.zeroValue285
 t85 := Tryz.underlying286
 a85 := Tryz.isAgg286
 z85 := Tryz.sizeOf286
 v85 := Tryz.zeroValue286
 t127 := Tryz.underlying338
 a127 := Tryz.isAgg338
 z127 := Tryz.sizeOf338
 v127 := Tryz.zeroValue338
 t143 := Tryz.underlying339
 a143 := Tryz.isAgg339
 z143 := Tryz.sizeOf339
 v143 := Tryz.zeroValue339
 t145 := Tryz.underlying341
 a145 := Tryz.isAgg341
 z145 := Tryz.sizeOf341
 v145 := Tryz.zeroValue341
 t167 := Tryz.underlying309
 a167 := Tryz.isAgg309
 z167 := Tryz.sizeOf309
 v167 := Tryz.zeroValue309
 t168 := Tryz.underlying312
 a168 := Tryz.isAgg312
 z168 := Tryz.sizeOf312
 v168 := Tryz.zeroValue312
 t171 := Tryz.underlying315
 a171 := Tryz.isAgg315
 z171 := Tryz.sizeOf315
 v171 := Tryz.zeroValue315
 t173 := Tryz.underlying318
 a173 := Tryz.isAgg318
 z173 := Tryz.sizeOf318
 v173 := Tryz.zeroValue318
 t175 := Tryz.underlying310
 a175 := Tryz.isAgg310
 z175 := Tryz.sizeOf310
 v175 := Tryz.zeroValue310
 t210 := Tryz.underlying324
 a210 := Tryz.isAgg324
 z210 := Tryz.sizeOf324
 v210 := Tryz.zeroValue324
 t212 := Tryz.underlying327
 a212 := Tryz.isAgg327
 z212 := Tryz.sizeOf327
 v212 := Tryz.zeroValue327
 t213 := Tryz.underlying329
 a213 := Tryz.isAgg329
 z213 := Tryz.sizeOf329
 t232 := Tryz.underlying343
 a232 := Tryz.isAgg343
 z232 := Tryz.sizeOf343
 v232 := Tryz.zeroValue343
 t233 := Tryz.underlying344
 a233 := Tryz.isAgg344
 z233 := Tryz.sizeOf344
 v233 := Tryz.zeroValue344
 g15 := by kernel_rfl
 g16 := by kernel_rfl
 g17 := by kernel_rfl
 g18 := by kernel_rfl
 g19 := by kernel_rfl
 t80 := Tryz.underlying345
 a80 := Tryz.isAgg345
 z80 := Tryz.sizeOf345
 v80 := Tryz.zeroValue345
 i0 := by kernel_rfl
 i2 := by kernel_rfl
 i3 := by kernel_rfl
 i4 := by kernel_rfl
 i5 := by kernel_rfl
 i9 := by kernel_rfl
 i20 := by kernel_rfl
 i21 := by kernel_rfl
 i37 := by kernel_rfl
 i46 := by kernel_rfl
 i51 := by kernel_rfl
 i53 := by kernel_rfl
 i75 := by kernel_rfl
 i80 := by kernel_rfl
 i85 := by kernel_rfl
 i127 := by kernel_rfl
 i143 := by kernel_rfl
 i145 := by kernel_rfl
 i167 := by kernel_rfl
 i168 := by kernel_rfl
 i171 := by kernel_rfl
 i173 := by kernel_rfl
 i175 := by kernel_rfl
 i210 := by kernel_rfl
 i212 := by kernel_rfl
 i232 := by kernel_rfl
 i233 := by kernel_rfl
 m15 := by kernel_rfl
 m16 := by kernel_rfl
 m17 := by kernel_rfl
 m18 := by kernel_rfl
 m19 := by kernel_rfl
 c0 := by kernel_rfl
 c2 := by kernel_rfl
 c3 := by kernel_rfl
 c4 := by kernel_rfl
 c5 := by kernel_rfl
 c9 := by kernel_rfl
 c20 := by kernel_rfl
 c21 := by kernel_rfl
 c37 := by kernel_rfl
 c46 := by kernel_rfl
 c51 := by kernel_rfl
 c53 := by kernel_rfl
 c75 := by kernel_rfl
 c80 := by kernel_rfl
 c85 := by kernel_rfl
 c127 := by kernel_rfl
 c143 := by kernel_rfl
 c145 := by kernel_rfl
 c167 := by kernel_rfl
 c168 := by kernel_rfl
 c171 := by kernel_rfl
 c173 := by kernel_rfl
 c175 := by kernel_rfl
 c210 := by kernel_rfl
 c212 := by kernel_rfl
 c213 := by kernel_rfl
 c232 := by kernel_rfl
 c233 := by kernel_rfl }
open Go.RowKit in
theorem Tryz.strconv_ParseInt_10_at64_ok (s : ByteArray) (hmax : s.size ≤ 9223372036854775806) (v : Int) (h : Lib.parseIntB 64 s.data.toList = .ok v) (w : World) :
  Calls Tryz.prog 204 #[.string s, .int .i64 10, .int .i64 64] w fun e w' => e = .returned (.tuple #[.int .i64 v, .nilIface]) ∧ (w' = w ∨ ∃ t, w' = Lib.bytesWorld w 5 t) := Any.strconv_ParseInt_10_at64_ok Tryz.laysC174 s hmax v h w
open Go.RowKit in
theorem Tryz.strconv_ParseInt_10_at64_syntax (s : ByteArray) (hlim : s.size ≤ 281474976710656) (h : Lib.parseIntB 64 s.data.toList = Lib.parseIntB 64 []) (ev : Value) (w : World) (hv : w.cell? ⟨1, 0, none⟩ = some ev) (hev : ev = .nilIface ∨ ∃ te pe, ev = .iface te pe) :
  Calls Tryz.prog 204 #[.string s, .int .i64 10, .int .i64 64] w fun e w' => ∃ N, e = .returned (.tuple #[.int .i64 (0), .iface 312 (.pointer (some ⟨N, 0, none⟩))]) ∧ w.heap.size ≤ N ∧ w'.heap[N]? = some (.cells #[.string ⟨#[80, 97, 114, 115, 101, 73, 110, 116]⟩, .string s, ev] 324 (0, 0)) ∧ Below w.heap.size w w' := Any.strconv_ParseInt_10_at64_syntax Tryz.laysC174 s hlim h ev w hv hev
open Go.RowKit in
theorem Tryz.strconv_ParseInt_10_at64_range (s : ByteArray) (hlim : s.size ≤ 281474976710656) (h : Lib.parseIntB 64 s.data.toList = .range) (ev : Value) (w : World) (hv : w.cell? ⟨2, 0, none⟩ = some ev) (hev : ev = .nilIface ∨ ∃ te pe, ev = .iface te pe) :
  Calls Tryz.prog 204 #[.string s, .int .i64 10, .int .i64 64] w fun e w' => ∃ N, e = .returned (.tuple #[.int .i64 (Lib.intSat 64 s.data.toList), .iface 312 (.pointer (some ⟨N, 0, none⟩))]) ∧ w.heap.size ≤ N ∧ w'.heap[N]? = some (.cells #[.string ⟨#[80, 97, 114, 115, 101, 73, 110, 116]⟩, .string s, ev] 324 (0, 0)) ∧ Below w.heap.size w w' := Any.strconv_ParseInt_10_at64_range Tryz.laysC174 s hlim h ev w hv hev
def Tryz.lays143_ren : Go.Shelf.Ren := ⟨fun | 143 => 220 | 219 => 233 | 217 => 226 | 225 => 247 | 224 => 248 | 267 => 249 | 266 => 243 | 314 => 260 | n => n, fun | 9 => 9 | 3 => 3 | 4 => 4 | 5 => 5 | 46 => 224 | 146 => 336 | 51 => 328 | n => n, fun | 1 => 0 | n => n⟩
def Tryz.lays138_ren : Go.Shelf.Ren := ⟨fun | 138 => 219 | 195 => 230 | 218 => 232 | 143 => 220 | 219 => 233 | 217 => 226 | 225 => 247 | 224 => 248 | 267 => 249 | 266 => 243 | 314 => 260 | n => n, fun | 9 => 9 | 3 => 3 | 4 => 4 | 5 => 5 | 0 => 0 | 46 => 224 | 146 => 336 | 51 => 328 | n => n, fun | 1 => 0 | n => n⟩
def Tryz.lays99_ren : Go.Shelf.Ren := ⟨fun | 99 => 207 | 206 => 225 | n => n, fun | 9 => 9 | 4 => 4 | 3 => 3 | n => n, fun | n => n⟩
theorem Tryz.lays99 : Go.Proofs.Lays.n99 Tryz.prog Tryz.lays99_ren := {
 mixed := by kernel_rfl
 f99 := Tryz.func207.trans (congrArg some (by kernel_rfl))
 f206 := Tryz.func225.trans (congrArg some (by kernel_rfl))
 t3 := Tryz.underlying3
 a3 := Tryz.isAgg3
 z3 := Tryz.sizeOf3
 v3 := Tryz.zeroValue3
 t4 := Tryz.underlying4
 a4 := Tryz.isAgg4
 z4 := Tryz.sizeOf4
 v4 := Tryz.zeroValue4
 t9 := Tryz.underlying9
 a9 := Tryz.isAgg9
 z9 := Tryz.sizeOf9
 v9 := Tryz.zeroValue9 }
open Go.RowKit Go.Lib in
theorem Tryz.strings_HasPrefix (s p : ByteArray) (w : World) :
  Calls Tryz.prog 207 #[.string s, .string p] w fun e w' => e = .returned (.bool (Lib.hasPrefix s.data.toList p.data.toList)) ∧ w' = w := Any.strings_HasPrefix Tryz.lays99 s p w
def Tryz.lays146_ren : Go.Shelf.Ren := ⟨fun | 146 => 180 | 221 => 203 | 268 => 218 | 138 => 219 | 143 => 220 | 195 => 230 | 197 => 231 | 218 => 232 | 219 => 233 | 260 => 246 | 217 => 226 | 225 => 247 | 224 => 248 | 267 => 249 | 266 => 243 | 314 => 260 | n => n, fun | 9 => 9 | 31 => 221 | 3 => 3 | 4 => 4 | 0 => 0 | 105 => 307 | 21 => 21 | 5 => 5 | 46 => 224 | 119 => 332 | 139 => 335 | 138 => 334 | 146 => 336 | 51 => 328 | n => n, fun | 1 => 0 | 3 => 4 | 4 => 5 | n => n⟩
theorem Tryz.lays146 : Go.Proofs.Lays.n146 Tryz.prog Tryz.lays146_ren := {
 mixed := by kernel_rfl
 f138 := Tryz.func219.trans (congrArg some (by kernel_rfl))
 f143 := Tryz.func220.trans (congrArg some (by kernel_rfl))
 f146 := Tryz.func180.trans (congrArg some (by kernel_rfl))
 f195 := Tryz.func230.trans (congrArg some (by kernel_rfl))
 f197 := Tryz.func231.trans (congrArg some (by kernel_rfl))
 f217 := Tryz.func226.trans (congrArg some (by kernel_rfl))
 f218 := Tryz.func232.trans (congrArg some (by kernel_rfl))
 f219 := Tryz.func233.trans (congrArg some (by kernel_rfl))
 f221 := Tryz.func203.trans (congrArg some (by kernel_rfl))
 f224 := Tryz.func248.trans (congrArg some (by kernel_rfl))
 f225 := Tryz.func247.trans (congrArg some (by kernel_rfl))
 f260 := Tryz.func246.trans (congrArg some (by kernel_rfl))
 f266 := Tryz.func243.trans (congrArg some (by kernel_rfl))
 f267 := Tryz.func249.trans (congrArg some (by kernel_rfl))
 f268 := Tryz.func218.trans (congrArg some (by kernel_rfl))
 f314 := Tryz.func260.trans (congrArg some (by kernel_rfl))
 t0 := Tryz.underlying0
 a0 := Tryz.isAgg0
 z0 := Tryz.sizeOf0
 v0 := Tryz.zeroValue0
 t3 := Tryz.underlying3
 a3 := Tryz.isAgg3
 z3 := Tryz.sizeOf3
 v3 := Tryz.zeroValue3
 t4 := Tryz.underlying4
 a4 := Tryz.isAgg4
 z4 := Tryz.sizeOf4
 v4 := Tryz.zeroValue4
 t5 := Tryz.underlying5
 a5 := Tryz.isAgg5
 z5 := Tryz.sizeOf5
 v5 := Tryz.zeroValue5
 t9 := Tryz.underlying9
 a9 := Tryz.isAgg9
 z9 := Tryz.sizeOf9
 v9 := Tryz.zeroValue9
 t21 := Tryz.underlying21
 a21 := Tryz.isAgg21
 z21 := Tryz.sizeOf21
 v21 := Tryz.zeroValue21
 t31 := Tryz.underlying221
 a31 := Tryz.isAgg221
 z31 := Tryz.sizeOf221
 v31 := Tryz.zeroValue221
 t46 := Tryz.underlying224
 a46 := Tryz.isAgg224
 z46 := Tryz.sizeOf224
 v46 := Tryz.zeroValue224
 t51 := Tryz.underlying328
 a51 := Tryz.isAgg328
 z51 := Tryz.sizeOf328
 v51 := Tryz.zeroValue328
 t105 := Tryz.underlying307
 a105 := Tryz.isAgg307
 z105 := Tryz.sizeOf307
 v105 := Tryz.zeroValue307
 t119 := Tryz.underlying332
 a119 := Tryz.isAgg332
 z119 := Tryz.sizeOf332
 t138 := Tryz.underlying334
 a138 := Tryz.isAgg334
 z138 := Tryz.sizeOf334
 v138 := Tryz.zeroValue334
 t139 := Tryz.underlying335
 a139 := Tryz.isAgg335
 z139 := Tryz.sizeOf335
 v139 := Tryz.zeroValue335
 t146 := Tryz.underlying336
 a146 := Tryz.isAgg336
 z146 := Tryz.sizeOf336
 v146 := Tryz.zeroValue336
 g1 := by kernel_rfl
 g3 := by kernel_rfl
 g4 := by kernel_rfl }
open Go.RowKit Go.Lib in
theorem Tryz.strings_Split (s sep : ByteArray) (m : Int) (w : World) (hs : s.size < 4294967281) (hm : w.cell? ⟨0, 0, none⟩ = some (.int .i64 m)) (h1 : 1 ≤ sep.size) :
  Calls Tryz.prog 180 #[.string s, .string sep] w fun e w' =>
   e = .returned (.slice (some ⟨w.heap.size, 0, none⟩) (Lib.countB s sep + 1) (Lib.countB s sep + 1)) ∧ w' = w.alloc (.cells ((Lib.splitB sep 0 (Lib.countB s sep) s).map Value.string).toArray 9) := Any.strings_Split Tryz.lays146 (by kernel_rfl) s sep m w hs hm h1
end Go.Proofs
namespace Go.Proofs.YtcnlkfocbbkdhaaGreatDoor.Gb
open Go Go.Proofs
section
open Go Go.RowKit
structure Kept (W w' : World) : Prop where
 kb : W.keptBut w' (fun _ => False)
 heap : ∀ i, i < W.heap.size → w'.heap[i]? = W.heap[i]?
 size : W.heap.size ≤ w'.heap.size
theorem Kept.frame {W w' : World} (h : Kept W w') (may : MemPlace → Prop) : W.keptBut w' may := World.keptBut_mono (fun _ f => f.elim) h.kb
theorem Stp.kept {G0 G : Gh} {w0 w : World} {H : List Own} (h : Stp (covs []) G0 w0 G H w) : Kept w0 w := by
 have hh : ∀ i, i < w0.heap.size → w.heap[i]? = w0.heap[i]? := fun i hi => (h.keep i hi).1 fun o ⟨x, hx, _⟩ => by cases hx
 refine ⟨⟨h.weq.1, h.weq.2, fun i hi => ?_⟩, hh, h.size⟩
 rw [hh i hi]
 cases hb : w0.heap[i]? with
 | none => rfl
 | some ob => cases ob <;> simp_all
theorem Fn.keptG {P : Program} {f : FuncId} {vs : Array Value} {G : Gh} {R : Ending → Gh → List Own → Prop} (h : Fn P f vs G [] R) {R' : Ending → Prop} (hr : ∀ e G' H', R e G' H' → R' e) {w : World} (hs : Sat G [] w) (hx : Ex (covs []) w) :
  Calls P f vs w fun e w' => R' e ∧ Kept w w' :=
 (h w hs hx).mono fun e _ ⟨G', H', r, _, s⟩ => ⟨hr e G' H' r, s.kept⟩
def Gw (w : World) : Gh := fun b o => w.cell? ⟨b, o, none⟩
theorem Sat.whole (w : World) : Sat (Gw w) [] w where
 agr b o v h := h
 hold x h := by cases h
 apart := List.Pairwise.nil
 ghost x h := by cases h
structure Ext2 (w w' : World) : Prop where
 size : w.heap.size ≤ w'.heap.size
 heap : ∀ b, b < w.heap.size → w'.heap[b]? = w.heap[b]?
 weq : WEq w w'
theorem Fn.ofExt {P : Program} {f : FuncId} {vs : Array Value} {G : Gh} {R : Ending → Prop} (h : ∀ w, Sat G [] w → Ex (covs []) w → Calls P f vs w fun e w' => R e ∧ Ext2 w w') : Fn P f vs G [] fun e G' H' => R e ∧ G = G' ∧ H' = [] := fun w hs hxx =>
 (h w hs hxx).mono fun e w' ⟨hr, hx⟩ => by
  refine ⟨G, [], ⟨hr, rfl, rfl⟩, ⟨fun b o v hg => ?_, fun x hx => (by cases hx), List.Pairwise.nil, fun x hx => (by cases hx)⟩, ⟨hx.size, fun b hb => ⟨fun _ => hx.heap b hb, fun c T fr hc => ⟨c, (hx.heap b hb).trans hc, rfl, fun _ _ => rfl⟩⟩, G.le_refl, fun _ _ _ h => .inl h, fun x hx' => (by cases hx'), hx.weq⟩⟩
  have h1 := hs.agr b o v hg
  have hb : b < w.heap.size := by
   rcases Nat.lt_or_ge b w.heap.size with h | h
   ·exact h
   ·simp only [World.cell?] at h1
    rw [Array.getElem?_eq_none h] at h1; simp at h1
  simp only [World.cell?] at h1 ⊢
  rw [hx.heap b hb]; exact h1
end
section
def bytesL (s : ByteArray) : List UInt8 := s.data.toList
theorem bytesL_length (s : ByteArray) : (bytesL s).length = s.size := Array.length_toList
section
variable {P : Program} {L : List (Nat × Value)} {G : Gh} {H : List Own} {d : Option Tmp} {ty : TypeId} {pos : String} {af : Array Edge} {gu : Option (Nat × Bool)}
theorem Gp.indexS {t : TypeId} {x y : Operand} {s : ByteArray} {k : IntKind} {i : Int} {c : UInt8} (hx : ev L x = some (.string s)) (hy : ev L y = some (.int k i)) [hu : Und P t .string] (h0 : 0 ≤ i) (hc : (bytesL s)[i.toNat]? = some c) : Gp P L ⟨d, .index t x y, ty, pos, af, gu⟩ (.int .u8 c.toNat) :=
 fun a st w => by
  have hi := (List.getElem?_eq_some_iff.1 hc).1
  rw [bytesL_length] at hi
  have h1 := run_index_string (P := P) w t s k i hu.h
  rw [dif_pos ⟨h0, by omega⟩] at h1
  have h2 : s[i.toNat]'hi = c := by
   have h3 : (bytesL s)[i.toNat]? = some (s[i.toNat]'hi) := by
    unfold bytesL
    rw [List.getElem?_eq_getElem (by simpa [bytesL_length] using hi)]
    simp
    rfl
   rw [h3] at hc
   exact Option.some.inj hc
  simp only [execOp, Sem.run_bind, st.eval hx, st.eval hy, h1, Result.andThen_ok, h2]
  rfl
theorem Gp.sliceSTo {t : TypeId} {x y : Operand} {s : ByteArray} {k : IntKind} {i : Int} (hx : ev L x = some (.string s)) (hy : ev L y = some (.int k i)) [hu : Und P t .string] (h0 : 0 ≤ i) (h1 : i ≤ s.size) : Gp P L ⟨d, .slice t x none (some y) none, ty, pos, af, gu⟩ (.string (s.extract 0 i.toNat)) :=
 fun a st w => by
  have h := run_slice_string_to_if (P := P) w t s k i hu.h
  rw [if_pos ⟨h0, h1⟩] at h
  simp [execOp, st.eval hx, st.eval hy, run_sliceAt_string w t _ _ _ _ hu.h, h]
theorem Gp.sliceSFrom {t : TypeId} {x y : Operand} {s : ByteArray} {k : IntKind} {i : Int} (hx : ev L x = some (.string s)) (hy : ev L y = some (.int k i)) [hu : Und P t .string] (h0 : 0 ≤ i) (h1 : i ≤ s.size) : Gp P L ⟨d, .slice t x (some y) none none, ty, pos, af, gu⟩ (.string (s.extract i.toNat s.size)) :=
 fun a st w => by
  have h := run_slice_string_from_if (P := P) w t s k i hu.h
  rw [if_pos ⟨h0, h1⟩] at h
  simp [execOp, st.eval hx, st.eval hy, run_sliceAt_string w t _ _ _ _ hu.h, h]
theorem Gp.indexV {t m e en eb : Nat} {ze : Value} {x y : Operand} {cs : Array Value} {k : IntKind} {i : Int} {v : Value} (hu : P.underlying t = some (.array m e)) (hx : ev L x = some (.agg cs)) (hy : ev L y = some (.int k i)) [ha : Agg P e false] [hi2 : Inf P e en eb ze] (hn : en = 1) (h0 : 0 ≤ i) (h1 : i < m) (hc : cs[i.toNat]? = some v) :
  Gp P L ⟨d, .index t x y, ty, pos, af, gu⟩ v := fun a st w => by
 subst hn
 simp [execOp, st.eval hx, st.eval hy, Instr.index, asIntOf, run_underlying hu, h0, h1, hi2.sizeOf, part, ha.h, hc]
end
attribute [local irreducible] Tryz.prog
theorem Ext2.ofBelow {w w' : World} (h : Go.RowKit.Below w.heap.size w w') : Ext2 w w' := ⟨h.size, fun b hb => h.block b hb, h.os, h.output⟩
theorem Ext2.refl (w : World) : Ext2 w w := ⟨Nat.le_refl _, fun _ _ => rfl, WEq.refl w⟩
theorem gTab : Tryz.prog.globalNamed "internal/strconv.uint64pow10" = some 3 := by kernel_rfl
theorem tab_of {w : World} (h : Ex (covs []) w) : Lib.TabIs Tryz.prog w "internal/strconv.uint64pow10" .u64 Lib.pow10Tab := by
 obtain ⟨⟨T, fr, hh⟩, _⟩ := h _ (.head _)
 unfold Lib.TabIs World.var?
 rw [gTab]
 show (match w.heap[3]? with | some (.cells cs _ _) => some cs | _ => none) = _
 rw [hh]; rfl
structure Env (G : Gh) : Prop where
 syn : ∃ te pe, G 1 0 = some (.iface te pe)
 rng : ∃ te pe, G 2 0 = some (.iface te pe)
 mxl : ∃ m, G 0 0 = some (.int .i64 m)
theorem Env.mono {G G' : Gh} (h : Env G) (hg : G.le G') : Env G' :=
 ⟨let ⟨te, pe, e⟩ := h.syn; ⟨te, pe, hg _ _ _ e⟩, let ⟨te, pe, e⟩ := h.rng; ⟨te, pe, hg _ _ _ e⟩, let ⟨m, e⟩ := h.mxl; ⟨m, hg _ _ _ e⟩⟩
theorem Ext2.grow (w : World) (k : Nat) (os : Array Obj) : Ext2 w (Go.Sort.grow (w.drewN k) os) :=
 ⟨by show w.heap.size ≤ (w.heap ++ os).size; simp, fun b hb => by show (w.heap ++ os)[b]? = w.heap[b]?; rw [Array.getElem?_append_left hb], rfl, rfl⟩
theorem formatInt_fn (G : Gh) (hE : Env G) (n : Int) (h0 : -9223372036854775808 ≤ n) (h1 : n ≤ 9223372036854775807) :
  Fn Tryz.prog 205 #[.int .i64 n, .int .i64 10] G [] fun e G' H' => e = .returned (.string ⟨(Lib.itoa n).toArray⟩) ∧ G = G' ∧ H' = [] :=
 Fn.ofExt (R := fun e => e = .returned (.string ⟨(Lib.itoa n).toArray⟩)) fun w hs hx => (Tryz.strconv_FormatInt_10 n h0 h1 w (tab_of hx)).mono fun e w' ⟨he, k, os, hw⟩ => ⟨he, hw ▸ Ext2.grow w k os⟩
theorem Ext2.bytes {w w' : World} {e : TypeId} {s : ByteArray} (h : w' = w ∨ ∃ t, w' = Lib.bytesWorld w e t) : Ext2 w w' := by
 rcases h with rfl | ⟨t, rfl⟩
 ·exact Ext2.refl _
 ·exact Ext2.ofBelow (Lib.bytesWorld_below w e t)
theorem Sat.cell0 {G : Gh} {w : World} (hs : Sat G [] w) {g : Nat} {v : Value} (h : G g 0 = some v) : w.cell? ⟨g, 0, none⟩ = some v := hs.agr g 0 v h
theorem parseIntB_ok {l : List UInt8} {v : Int} (h : Lib.parseIntB 64 l = .ok v) : -9223372036854775808 ≤ v ∧ v ≤ 9223372036854775807 := by
 unfold Lib.parseIntB at h
 split at h
 ·cases h
 ·rename_i c r
  dsimp only at h
  split at h
  ·cases h
  ·cases h
  ·rename_i u hu
   split at h
   ·cases h
   ·rename_i h1
    split at h
    ·cases h
    ·rename_i h2
     simp only [Lib.NumEnd.ok.injEq] at h
     by_cases hn : c.toNat = 45
     ·rw [if_pos hn] at h
      have h2' : ¬ (2 ^ (64 - 1) < u) := fun h' => h2 ⟨hn, h'⟩
      omega
     ·rw [if_neg hn] at h
      have h1' : ¬ (2 ^ (64 - 1) ≤ u) := fun h' => h1 ⟨hn, h'⟩
      omega
def pints (e : Ending) : Prop := ∃ n v, e = .returned (.tuple #[.int .i64 n, v]) ∧ ((v = .nilIface ∧ -9223372036854775808 ≤ n ∧ n ≤ 9223372036854775807) ∨ ∃ t p, v = .iface t p)
theorem parseInt_fn (G : Gh) (hE : Env G) (s : ByteArray) (hl : s.size ≤ 281474976710656) :
  Fn Tryz.prog 204 #[.string s, .int .i64 10, .int .i64 64] G [] fun e G' H' => pints e ∧ G = G' ∧ H' = [] :=
 Fn.ofExt (R := pints) fun w hs _ => by
  cases h : Lib.parseIntB 64 s.data.toList with
  | ok v => exact (Tryz.strconv_ParseInt_10_at64_ok s (by omega) v h w).mono fun e w' ⟨he, hw⟩ => ⟨⟨v, _, he, .inl ⟨rfl, (parseIntB_ok h).1, (parseIntB_ok h).2⟩⟩, Ext2.bytes (s := s) hw⟩
  | range =>
   obtain ⟨te, pe, hv⟩ := hE.rng
   exact (Tryz.strconv_ParseInt_10_at64_range s hl h _ w (hs.cell0 hv) (.inr ⟨te, pe, rfl⟩)).mono fun e w' ⟨N, he, _, _, hb⟩ => ⟨⟨_, _, he, .inr ⟨_, _, rfl⟩⟩, Ext2.ofBelow hb⟩
  | _ =>
   obtain ⟨te, pe, hv⟩ := hE.syn
   exact (Tryz.strconv_ParseInt_10_at64_syntax s hl h _ w (hs.cell0 hv) (.inr ⟨te, pe, rfl⟩)).mono fun e w' ⟨N, he, _, _, hb⟩ => ⟨⟨0, _, he, .inr ⟨_, _, rfl⟩⟩, Ext2.ofBelow hb⟩
theorem indexByte_fn (G : Gh) (s : ByteArray) (c : Int) : Fn Tryz.prog 208 #[.string s, .int .u8 c] G [] fun e G' H' => e = .returned (.int .i64 (Lib.indexByte s.data.toList c.toNat.toUInt8)) ∧ G = G' ∧ H' = [] :=
 Fn.ofExt (R := fun e => e = .returned (.int .i64 (Lib.indexByte s.data.toList c.toNat.toUInt8))) fun w hs _ => (Tryz.strings_IndexByte s c w).mono fun e w' ⟨he, hw⟩ => ⟨he, hw ▸ Ext2.refl w⟩
theorem hasPrefix_fn (G : Gh) (s p : ByteArray) : Fn Tryz.prog 207 #[.string s, .string p] G [] fun e G' H' => e = .returned (.bool (Lib.hasPrefix s.data.toList p.data.toList)) ∧ G = G' ∧ H' = [] :=
 Fn.ofExt (R := fun e => e = .returned (.bool (Lib.hasPrefix s.data.toList p.data.toList))) fun w hs _ => (Tryz.strings_HasPrefix s p w).mono fun e w' ⟨he, hw⟩ => ⟨he, hw ▸ Ext2.refl w⟩
section
variable {P : Program} {L : List (Nat × Value)} {d : Option Tmp} {ty : TypeId} {pos : String} {af : Array Edge} {gu : Option (Nat × Bool)}
theorem Gp.eqNilNil {x : Operand} {t t' : Nat} (hx : ev L x = some .nilIface) (hu : P.underlying t = some (.interface (P.methodsAt t))) : Gp P L ⟨d, .binOp .eql t x (.const .nilIface) t', ty, pos, af, gu⟩ (.bool true) :=
 fun a st w => by
  have hc : a.eval (.const .nilIface) = .nilIface := rfl
  simp [execOp, st.eval hx, hc, eqGuard, run_eql_nil_nil w t hu]
theorem Gp.eqHeldNil {x : Operand} {t t' u : Nat} {v : Value} (hx : ev L x = some (.iface u v)) (hu : P.underlying t = some (.interface (P.methodsAt t))) : Gp P L ⟨d, .binOp .eql t x (.const .nilIface) t', ty, pos, af, gu⟩ (.bool false) :=
 fun a st w => by
  have hc : a.eval (.const .nilIface) = .nilIface := rfl
  simp [execOp, st.eval hx, hc, eqGuard, run_eql_held_nil w t u v hu]
end
def letterN (n : Int) : Bool := n == 95 || (decide (97 ≤ n) && decide (n ≤ 122)) || (decide (65 ≤ n) && decide (n ≤ 90))
def digitN (n : Int) : Bool := decide (48 ≤ n) && decide (n ≤ 57)
theorem letter_fn (G : Gh) (H : List Own) (n : Int) : Fn Tryz.prog 182 #[.int .u8 n] G H fun e G' H' => e = .returned (.bool (letterN n)) ∧ G = G' ∧ H' = H := by
 refine Fn.enter Tryz.func182 rfl rfl fun w0 => ?_
 cases h1 : (n == 95) with
 | true =>
  refine gom ?_
  refine WC.rt ?_
  exact QF.p1 (.inl rfl) rfl (.tmp rfl) (⟨by rw [letterN, h1]; rfl, rfl, rfl⟩)
 | false =>
 cases h2 : decide (97 ≤ n) with
 | true =>
  cases h3 : decide (n ≤ 122) with
  | true =>
   refine gom ?_
   refine WC.rt ?_
   exact QF.p1 (.inl rfl) rfl (.tmp rfl) (⟨by rw [letterN, h1, h2, h3]; rfl, rfl, rfl⟩)
  | false =>
   have h4 : decide (65 ≤ n) = true := by rw [decide_eq_true_iff] at h2 ⊢; omega
   have h5 : decide (n ≤ 90) = false := by rw [decide_eq_false_iff_not] at h3 ⊢; omega
   refine gom ?_
   refine WC.rt ?_
   exact QF.p1 (.inl rfl) rfl (.tmp rfl) (⟨by rw [letterN, h1, h2, h3, h4, h5]; rfl, rfl, rfl⟩)
 | false =>
  cases h4 : decide (65 ≤ n) with
  | true =>
   refine gom ?_
   refine WC.rt ?_
   exact QF.p1 (.inl rfl) rfl (.tmp rfl) (⟨by rw [letterN, h1, h2, h4]; rfl, rfl, rfl⟩)
  | false =>
   refine gom ?_
   refine WC.rt ?_
   exact QF.p1 (.inl rfl) rfl (.tmp rfl) (⟨by rw [letterN, h1, h2, h4]; rfl, rfl, rfl⟩)
theorem digit_fn (G : Gh) (H : List Own) (n : Int) : Fn Tryz.prog 185 #[.int .u8 n] G H fun e G' H' => e = .returned (.bool (digitN n)) ∧ G = G' ∧ H' = H := by
 refine Fn.enter Tryz.func185 rfl rfl fun w0 => ?_
 cases h1 : decide (48 ≤ n) with
 | true =>
  refine gom ?_
  refine WC.rt ?_
  exact QF.p1 (.inl rfl) rfl (.tmp rfl) (⟨by rw [digitN, h1]; rfl, rfl, rfl⟩)
 | false =>
  refine gom ?_
  refine WC.rt ?_
  exact QF.p1 (.inl rfl) rfl (.tmp rfl) (⟨by rw [digitN, h1]; rfl, rfl, rfl⟩)
def wordN (n : Int) : Bool := letterN n || digitN n
theorem wordc_fn (G : Gh) (H : List Own) (n : Int) : Fn Tryz.prog 184 #[.int .u8 n] G H fun e G' H' => e = .returned (.bool (wordN n)) ∧ G = G' ∧ H' = H := by
 refine Fn.enter Tryz.func184 rfl rfl fun w0 => ?_
 refine gom ?_
 refine WL.oo (OW.callK rfl (letter_fn G [] n) rfl fun v' G' H' h hg => ?_)
 obtain ⟨he, rfl, rfl⟩ := h
 cases he
 refine WL.pick H ?_
 cases h1 : letterN n with
 | true =>
  refine gom ?_
  refine WC.rt ?_
  exact QF.p1 (.inl rfl) rfl (.tmp rfl) (⟨by rw [wordN, h1]; rfl, rfl, rfl⟩)
 | false =>
  refine gom ?_
  refine WL.oo (OW.callK rfl (digit_fn G [] n) rfl fun v' G' H' h hg => ?_)
  obtain ⟨he, rfl, rfl⟩ := h
  cases he
  refine WL.pick H ?_
  refine gom ?_
  refine WC.rt ?_
  exact QF.p1 (.inl rfl) rfl (.tmp rfl) (⟨by rw [wordN, h1]; rfl, rfl, rfl⟩)
def runL (g : Int → Bool) : List UInt8 → Nat
 | [] => 0
 | c :: l => if g c.toNat then 1 + runL g l else 0
theorem runL_le (g : Int → Bool) : ∀ l, runL g l ≤ l.length
 | [] => Nat.le_refl _
 | c :: l => by have := runL_le g l; simp only [runL, List.length_cons]; split <;> omega
theorem runL_at {g : Int → Bool} : ∀ {l : List UInt8} {i : Nat}, (∀ j c, j < i → l[j]? = some c → g c.toNat = true) → i ≤ l.length → (∀ c, l[i]? = some c → g c.toNat = false) → runL g l = i
 | [], i, _, h, _ => by simp at h; simp [runL, h]
 | c :: l, 0, _, _, h => by simp [runL, h c rfl]
 | c :: l, i + 1, h1, h2, h3 => by
  have ih := runL_at (g := g) (l := l) (i := i) (fun j d hj hd => h1 (j + 1) d (by omega) (by simpa using hd)) (by simpa using h2) (fun d hd => h3 d (by simpa using hd))
  simp only [runL]
  rw [if_pos (h1 0 c (by omega) rfl), ih]; omega
theorem run_fn (G : Gh) (s : ByteArray) (f : Nat) (g : Int → Bool) [Body Tryz.prog f] (hf : ∀ n, Fn Tryz.prog f #[.int .u8 n] G [] fun e G' H' => e = .returned (.bool (g n)) ∧ G = G' ∧ H' = []) (hl : s.size ≤ 100000000000000) :
  Fn Tryz.prog 183 #[.string s, .int .i64 0, .func (.func f) #[] #[]] G [] fun e G' H' => e = .returned (.int .i64 (runL g (bytesL s))) ∧ G = G' ∧ H' = [] := by
 refine Fn.enter Tryz.func183 rfl rfl fun w0 => ?_
 refine gom ?_
 refine WC.loop (X := Nat) (fun i => [(0, .string s), (1, .int .i64 0), (2, .func (.func f) #[] #[]), (7, .int .i64 i)]) (fun _ => G) (fun _ => []) (fun i => s.size - i) (fun i => i ≤ s.size ∧ ∀ j c, j < i → (bytesL s)[j]? = some c → g c.toNat = true) 0 ⟨Nat.zero_le _, fun j c h => by omega⟩ (by exact ⟨rfl, rfl, rfl, rfl, trivial⟩) rfl (List.Sublist.refl _) fun i hx => ?_
 obtain ⟨hi, hall⟩ := hx
 have hbl := bytesL_length s
 have x1 : IntKind.i64.wrap ((0 : Int) + (i : Int)) = (i : Int) := by rw [Int.zero_add]; exact wrapI (by omega) (by omega)
 have x2 := wrapS i (by omega)
 by_cases hlt : i < s.size
 rotate_left
 ·have e2 : decide ((i : Int) < (s.size : Int)) = false := decide_eq_false (by omega)
  have hr : runL g (bytesL s) = i := runL_at hall (by omega) (fun c hc => by have := (List.getElem?_eq_some_iff.1 hc).1; omega)
  refine gom ?_
  refine WC.rt ?_
  exact QF.p1 (.inl rfl) rfl (.tmp rfl) (⟨by rw [hr], rfl, rfl⟩)
 have e2 : decide ((i : Int) < (s.size : Int)) = true := decide_eq_true (by omega)
 obtain ⟨c, hc⟩ : ∃ c, (bytesL s)[i]? = some c := ⟨_, List.getElem?_eq_getElem (by omega)⟩
 refine gom ?_
 refine WL.pp (Gp.indexS rfl rfl (by omega) hc) ?_
 refine WL.oo (OW.callVK rfl rfl rfl (hf c.toNat) rfl fun v' G' H' h hg => ?_)
 obtain ⟨he, rfl, rfl⟩ := h
 cases he
 cases hg : g c.toNat with
 | true =>
  refine gom ?_
  exact WK.again (i + 1) (by omega) ⟨by omega, fun j d hj hd => by
   rcases Nat.lt_or_ge j i with h | h
   ·exact hall j d h hd
   ·obtain rfl : j = i := by omega
    rw [hc] at hd; cases hd; exact hg⟩ (by exact ⟨rfl, rfl, rfl, rfl, trivial⟩) rfl (List.Sublist.refl _)
 | false =>
  have hr : runL g (bytesL s) = i := runL_at hall (by omega) (fun d hd => by rw [hc] at hd; cases hd; exact hg)
  refine gom ?_
  refine WC.rt ?_
  exact QF.p1 (.inl rfl) rfl (.tmp rfl) (⟨by rw [hr], rfl, rfl⟩)
end
section
attribute [local irreducible] Tryz.prog
section
variable {P : Program} {L : List (Nat × Value)} {d : Option Tmp} {ty : TypeId} {pos : String} {af : Array Edge} {gu : Option (Nat × Bool)}
theorem Gp.or {t t' : TypeId} {x y : Operand} {k : IntKind} {m n : Int} (hx : ev L x = some (.int k m)) (hy : ev L y = some (.int k n)) : Gp P L ⟨d, .binOp .or t x y t', ty, pos, af, gu⟩ (.int k (bits .or k m n)) :=
 fun a st w => by
  have h : Op.intBits .or k m n = pure (.int k (bits .or k m n)) := rfl
  simp [execOp, st.eval hx, st.eval hy, eqGuard_or, binOp_or, h]
theorem Gp.shl {t t' : TypeId} {x y : Operand} {k k' : IntKind} {m n : Int} (hx : ev L x = some (.int k m)) (hy : ev L y = some (.int k' n)) (hn : 0 ≤ n) : Gp P L ⟨d, .binOp .shl t x y t', ty, pos, af, gu⟩ (.int k (k.wrap (m * 2 ^ min n.toNat k.bits))) :=
 fun a st w => by simp [execOp, st.eval hx, st.eval hy, eqGuard_shl, binOp_shl, shift_shl_any k k' m n hn]
end
def keysL : List ByteArray := [⟨#[105, 110, 99, 108, 117, 100, 101]⟩, ⟨#[97, 115]⟩, ⟨#[101, 120, 112, 111, 114, 116]⟩, ⟨#[99, 111, 110, 115, 116]⟩, ⟨#[102, 117, 110, 99]⟩, ⟨#[118, 97, 114]⟩, ⟨#[105, 102]⟩, ⟨#[101, 108, 115, 101]⟩, ⟨#[119, 104, 105, 108, 101]⟩, ⟨#[114, 101, 116, 117, 114, 110]⟩, ⟨#[112, 114, 105, 110, 116]⟩, ⟨#[116, 114, 117, 101]⟩, ⟨#[102, 97, 108, 115, 101]⟩, ⟨#[105, 110, 116]⟩, ⟨#[98, 111, 111, 108]⟩, ⟨#[116, 101, 120, 116]⟩]
def keyR (s : ByteArray) : Bool := keysL.any (fun k => s == k)
theorem any_step {α : Type} {f : α → Bool} {l : List α} {i : Nat} {x : α} (hx : l[i]? = some x) (h : ∀ j y, j < i → l[j]? = some y → f y = false) (hf : f x = false) : ∀ j y, j < i + 1 → l[j]? = some y → f y = false := fun j y hj hy => by
 rcases Nat.lt_or_ge j i with h1 | h1
 ·exact h j y h1 hy
 ·obtain rfl : j = i := by omega
  rw [hx] at hy; cases hy; exact hf
theorem any_none {α : Type} {f : α → Bool} {l : List α} {i : Nat} (h : ∀ j y, j < i → l[j]? = some y → f y = false) (hi : l.length ≤ i) : l.any f = false := by
 rw [List.any_eq_false]
 intro x hx
 obtain ⟨j, hj⟩ := List.getElem?_of_mem hx
 rw [h j x (by have := (List.getElem?_eq_some_iff.1 hj).1; omega) hj]; simp
theorem any_at {α : Type} {f : α → Bool} {l : List α} {i : Nat} {x : α} (hx : l[i]? = some x) (hf : f x = true) : l.any f = true := List.any_eq_true.2 ⟨x, List.mem_of_getElem? hx, hf⟩
theorem strs_at {l : List ByteArray} {i : Nat} {k : ByteArray} (h : l[i]? = some k) : ((l.map Value.string).toArray)[((i : Nat) : Int).toNat]? = some (.string k) := by simp [h]
set_option maxRecDepth 100000 in
theorem key_fn (G : Gh) (s : ByteArray) : Fn Tryz.prog 186 #[.string s] G [] fun e G' H' => e = .returned (.bool (keyR s)) ∧ G = G' ∧ H' = [] := by
 refine Fn.enter Tryz.func186 rfl rfl fun w0 => ?_
 refine gom ?_
 refine WL.pp (Gp.buildArr (cells := keysL.map Value.string) Tryz.underlying283 rfl kr) ?_
 refine WL.oo (OW.alloc rfl fun b3 => ?_)
 refine WL.oo (OW.store (n := 16) (cs := keysL.map Value.string) (c' := (keysL.map Value.string).toArray) rfl rfl atA rfl kr kr kr kr ?_ rfl)
 refine WL.nil ?_
 refine WK.un ?_
 refine WC.seq ?_
 refine WC.seq ?_
 refine WC.region ?_
 refine WL.vv (Gv.loadN (cs := keysL.map Value.string) rfl atA kr kr) ?_
 refine go ?_
 refine WC.loop (X := Nat) (fun i => [(0, .string s), (7, .agg (keysL.map Value.string).toArray), (8, .int .i64 i)]) (fun _ => G) (fun _ => []) (fun i => 16 - i) (fun i => i ≤ 16 ∧ ∀ j k, j < i → keysL[j]? = some k → (s == k) = false) 0 ⟨Nat.zero_le _, fun j k h => by omega⟩ (by exact ⟨rfl, rfl, rfl, trivial⟩) rfl (List.nil_sublist _) fun i hx => ?_
 obtain ⟨hi, hall⟩ := hx
 have hkl : keysL.length = 16 := rfl
 by_cases hlt : i < 16
 rotate_left
 ·have e2 : decide ((i : Int) < 16) = false := decide_eq_false (by omega)
  refine gom ?_
  refine WC.rt ?_
  exact QF.p1 (.inl rfl) rfl (.tmp rfl) (⟨by rw [keyR, any_none hall (by omega)], rfl, rfl⟩)
 have e2 : decide ((i : Int) < 16) = true := decide_eq_true (by omega)
 obtain ⟨k, hk⟩ : ∃ k, keysL[i]? = some k := ⟨_, List.getElem?_eq_getElem (by omega)⟩
 have x2 := wrapS i (by omega)
 refine gom ?_
 refine WL.pp (Gp.indexV Tryz.underlying283 rfl rfl rfl (by omega) (by omega) (strs_at hk)) ?_
 refine go ?_
 cases hg : (s == k) with
 | false =>
  refine gom ?_
  exact WK.again (i + 1) (by omega) ⟨by omega, any_step (f := fun k => s == k) hk hall hg⟩ (by exact ⟨rfl, rfl, rfl, trivial⟩) rfl (List.Sublist.refl _)
 | true =>
  refine gom ?_
  refine WC.rt ?_
  exact QF.p1 (.inl rfl) rfl (.tmp rfl) (⟨by rw [keyR, any_at (f := fun k => s == k) hk hg], rfl, rfl⟩)
theorem nibble_fn (G : Gh) (n : Int) : Fn Tryz.prog 224 #[.int .u8 n] G [] fun e G' H' => ∃ m, e = .returned (.int .i64 m) ∧ G = G' ∧ H' = [] := by
 refine Fn.enter Tryz.func224 rfl rfl fun w0 => ?_
 refine gom ?_
 refine WL.oo (OW.callK rfl (digit_fn G [] n) rfl fun v' G' H' h hg => ?_)
 obtain ⟨he, rfl, rfl⟩ := h
 cases he
 cases h1 : digitN n with
 | true =>
  refine gom ?_
  refine zw.sub ?_
  refine zw.conv ?_
  refine gom ?_
  refine WC.rt ?_
  exact QF.p1 (.inl rfl) rfl (.tmp rfl) (⟨_, rfl, rfl, rfl⟩)
 | false =>
 cases h2 : decide (97 ≤ n) with
 | false =>
  refine gom ?_
  refine WC.rt ?_
  exact QF.p1 (.inl rfl) rfl (.tmp rfl) (⟨_, rfl, rfl, rfl⟩)
 | true =>
 cases h3 : decide (n ≤ 102) with
 | false =>
  refine gom ?_
  refine WC.rt ?_
  exact QF.p1 (.inl rfl) rfl (.tmp rfl) (⟨_, rfl, rfl, rfl⟩)
 | true =>
  refine gom ?_
  refine zw.sub ?_
  refine zw.conv ?_
  refine zw.add ?_
  refine gom ?_
  refine WC.rt ?_
  exact QF.p1 (.inl rfl) rfl (.tmp rfl) (⟨_, rfl, rfl, rfl⟩)
theorem piece_fn (G : Gh) (s : ByteArray) (hs : 0 < s.size) : Fn Tryz.prog 206 #[.string s] G [] fun e G' H' => ∃ c n : Int, e = .returned (.tuple #[.int .u8 c, .int .i64 n]) ∧ (n = 0 ∨ n = 1 ∨ n = 2 ∨ n = 4) ∧ G = G' ∧ H' = [] := by
 have hbl := bytesL_length s
 obtain ⟨c, hc⟩ : ∃ c, (bytesL s)[0]? = some c := ⟨_, List.getElem?_eq_getElem (by omega)⟩
 have hne : (s == ⟨#[]⟩) = false := by
  rw [bytes_beq]
  exact decide_eq_false fun e => by rw [e] at hs; exact absurd hs (by decide)
 have hc' : (bytesL s)[(0 : Int).toNat]? = some c := hc
 refine Fn.enter Tryz.func206 rfl rfl fun w0 => ?_
 refine gom ?_
 rw [hne]
 refine gom ?_
 refine WL.pp (Gp.indexS rfl rfl (by decide) hc') ?_
 refine gom ?_
 cases h1 : decide ((c.toNat : Int) < 32) with
 | true =>
  refine gom ?_
  refine WC.rt ?_
  exact QF.p2 (.inl rfl) rfl (.tmp rfl) (.tmp rfl) (⟨_, 0, rfl, .inl rfl, rfl, rfl⟩)
 | false =>
 refine gom ?_
 refine WL.pp (Gp.indexS rfl rfl (by decide) hc') ?_
 refine gom ?_
 cases h2 : decide ((126 : Int) < c.toNat) with
 | true =>
  refine gom ?_
  refine WC.rt ?_
  exact QF.p2 (.inl rfl) rfl (.tmp rfl) (.tmp rfl) (⟨_, 0, rfl, .inl rfl, rfl, rfl⟩)
 | false =>
 refine gom ?_
 refine WL.pp (Gp.indexS rfl rfl (by decide) hc') ?_
 refine gom ?_
 cases h3 : ((c.toNat : Int) == 34) with
 | true =>
  refine gom ?_
  refine WC.rt ?_
  exact QF.p2 (.inl rfl) rfl (.tmp rfl) (.tmp rfl) (⟨_, 0, rfl, .inl rfl, rfl, rfl⟩)
 | false =>
 refine gom ?_
 refine WL.pp (Gp.indexS rfl rfl (by decide) hc') ?_
 refine gom ?_
 cases h4 : ((c.toNat : Int) != 92) with
 | true =>
  refine gom ?_
  refine WL.pp (Gp.indexS rfl rfl (by decide) hc') ?_
  refine gom ?_
  refine WC.rt ?_
  exact QF.p2 (.inl rfl) rfl (.tmp rfl) (.tmp rfl) (⟨_, 1, rfl, .inr (.inl rfl), rfl, rfl⟩)
 | false =>
 cases h5 : decide ((s.size : Int) < 2) with
 | true =>
  refine gom ?_
  refine WC.rt ?_
  exact QF.p2 (.inl rfl) rfl (.tmp rfl) (.tmp rfl) (⟨_, 0, rfl, .inl rfl, rfl, rfl⟩)
 | false =>
 have h5' := of_decide_eq_false h5
 obtain ⟨c1, hc1⟩ : ∃ c, (bytesL s)[1]? = some c := ⟨_, List.getElem?_eq_getElem (by omega)⟩
 have hc1' : (bytesL s)[(1 : Int).toNat]? = some c1 := hc1
 refine gom ?_
 refine WL.pp (Gp.indexS rfl rfl (by decide) hc1') ?_
 refine gom ?_
 cases h6 : ((c1.toNat : Int) == 110) with
 | true =>
  refine gom ?_
  refine WC.rt ?_
  exact QF.p2 (.inl rfl) rfl (.tmp rfl) (.tmp rfl) (⟨_, 2, rfl, .inr (.inr (.inl rfl)), rfl, rfl⟩)
 | false =>
 cases h7 : ((c1.toNat : Int) == 116) with
 | true =>
  refine gom ?_
  refine WC.rt ?_
  exact QF.p2 (.inl rfl) rfl (.tmp rfl) (.tmp rfl) (⟨_, 2, rfl, .inr (.inr (.inl rfl)), rfl, rfl⟩)
 | false =>
 cases h8 : ((c1.toNat : Int) == 34) with
 | true =>
  refine gom ?_
  refine WL.pp (Gp.indexS rfl rfl (by decide) hc1') ?_
  refine gom ?_
  refine WC.rt ?_
  exact QF.p2 (.inl rfl) rfl (.tmp rfl) (.tmp rfl) (⟨_, 2, rfl, .inr (.inr (.inl rfl)), rfl, rfl⟩)
 | false =>
 cases h9 : ((c1.toNat : Int) == 92) with
 | true =>
  refine gom ?_
  refine WL.pp (Gp.indexS rfl rfl (by decide) hc1') ?_
  refine gom ?_
  refine WC.rt ?_
  exact QF.p2 (.inl rfl) rfl (.tmp rfl) (.tmp rfl) (⟨_, 2, rfl, .inr (.inr (.inl rfl)), rfl, rfl⟩)
 | false =>
 cases h10 : ((c1.toNat : Int) == 120) with
 | false =>
  refine gom ?_
  refine WC.rt ?_
  exact QF.p2 (.inl rfl) rfl (.tmp rfl) (.tmp rfl) (⟨_, 0, rfl, .inl rfl, rfl, rfl⟩)
 | true =>
 cases h11 : decide ((4 : Int) ≤ (s.size : Int)) with
 | false =>
  refine gom ?_
  refine WC.rt ?_
  exact QF.p2 (.inl rfl) rfl (.tmp rfl) (.tmp rfl) (⟨_, 0, rfl, .inl rfl, rfl, rfl⟩)
 | true =>
 have h11' := of_decide_eq_true h11
 obtain ⟨c2, hc2⟩ : ∃ c, (bytesL s)[2]? = some c := ⟨_, List.getElem?_eq_getElem (by omega)⟩
 have hc2' : (bytesL s)[(2 : Int).toNat]? = some c2 := hc2
 obtain ⟨c3, hc3⟩ : ∃ c, (bytesL s)[3]? = some c := ⟨_, List.getElem?_eq_getElem (by omega)⟩
 have hc3' : (bytesL s)[(3 : Int).toNat]? = some c3 := hc3
 refine gom ?_
 refine WL.pp (Gp.indexS rfl rfl (by decide) hc2') ?_
 refine WL.oo (OW.callK rfl (nibble_fn G c2.toNat) rfl fun v' G' H' h hg => ?_)
 obtain ⟨m2, he, rfl, rfl⟩ := h
 cases he
 cases h12 : decide ((0 : Int) ≤ m2) with
 | false =>
  refine gom ?_
  refine WC.rt ?_
  exact QF.p2 (.inl rfl) rfl (.tmp rfl) (.tmp rfl) (⟨_, 0, rfl, .inl rfl, rfl, rfl⟩)
 | true =>
 refine gom ?_
 refine WL.pp (Gp.indexS rfl rfl (by decide) hc3') ?_
 refine WL.oo (OW.callK rfl (nibble_fn G c3.toNat) rfl fun v' G' H' h hg => ?_)
 obtain ⟨m3, he, rfl, rfl⟩ := h
 cases he
 cases h13 : decide ((0 : Int) ≤ m3) with
 | false =>
  refine gom ?_
  refine WC.rt ?_
  exact QF.p2 (.inl rfl) rfl (.tmp rfl) (.tmp rfl) (⟨_, 0, rfl, .inl rfl, rfl, rfl⟩)
 | true =>
 refine go ?_
 refine WC.draw mixed ?_
 refine za.move 0 ?_
 refine WA.pp 1 rfl (Gp.indexS rfl rfl (by decide) hc2') ?_
 refine za.move 4 ?_
 refine WA.pp 5 rfl (Gp.indexS rfl rfl (by decide) hc3') ?_
 refine WA.oo 2 rfl (OW.callK rfl (nibble_fn G c2.toNat) rfl fun v' G' H' h hg => ?_)
 obtain ⟨m4, he, rfl, rfl⟩ := h
 cases he
 refine WA.pp 3 rfl (Gp.shl rfl rfl (by decide)) ?_
 refine WA.oo 6 rfl (OW.callK rfl (nibble_fn G c3.toNat) rfl fun v' G' H' h hg => ?_)
 obtain ⟨m5, he, rfl, rfl⟩ := h
 cases he
 refine WA.pp 7 rfl (Gp.or rfl rfl) ?_
 refine za.conv 8 ?_
 refine za.assign 9 ?_
 refine za.assign 10 ?_
 refine WA.done kr ?_
 refine WK.un ?_
 refine WC.rt ?_
 exact QF.p2 (.inl rfl) rfl (.tmp rfl) (.tmp rfl) (⟨_, 4, rfl, .inr (.inr (.inr rfl)), rfl, rfl⟩)
end
end Go.Proofs.YtcnlkfocbbkdhaaGreatDoor.Gb
