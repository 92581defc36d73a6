/- A program, and arguments, as a row hands them in: opened. -/
import Derived.Test.YtjgohbepageicaaGn
import Derived.Test.YtjgohbepageicaaVy
namespace Go.Proofs.Ytjgohbepageicaa.Gb
open Go Go.Proofs Go.RowKit Go.ChangeShapes Go.WideShapes

theorem list2 {α : Type} {l : List α} (h : l.length = 2) : ∃ a b, l = [a, b] := match l, h with | [a, b], _ => ⟨a, b, rfl⟩
theorem list3 {α : Type} {l : List α} (h : l.length = 3) : ∃ a b c, l = [a, b, c] := match l, h with | [a, b, c], _ => ⟨a, b, c, rfl⟩
theorem list4 {α : Type} {l : List α} (h : l.length = 4) : ∃ a b c d, l = [a, b, c, d] := match l, h with | [a, b, c, d], _ => ⟨a, b, c, d, rfl⟩
theorem list5 {α : Type} {l : List α} (h : l.length = 5) : ∃ a b c d e, l = [a, b, c, d, e] := match l, h with | [a, b, c, d, e], _ => ⟨a, b, c, d, e, rfl⟩
theorem list6 {α : Type} {l : List α} (h : l.length = 6) : ∃ a b c d e f, l = [a, b, c, d, e, f] := match l, h with | [a, b, c, d, e, f], _ => ⟨a, b, c, d, e, f, rfl⟩

theorem cellsV : Try.prog.cellsOf 33 = 4 := by kernel_rfl
theorem cellsI : Try.prog.cellsOf 51 = 2 := by kernel_rfl
theorem cellsP : Try.prog.cellsOf 55 = 6 := by kernel_rfl
theorem cellsG : Try.prog.cellsOf 26 = 3 := by kernel_rfl
theorem cellsN : Try.prog.cellsOf 28 = 5 := by kernel_rfl
theorem cells_int : Try.prog.cellsOf 3 = 1 := by kernel_rfl
theorem cells_typ : Try.prog.cellsOf 31 = 1 := by kernel_rfl
theorem cells_cod : Try.prog.cellsOf 43 = 1 := by kernel_rfl
theorem cells_i64 : Try.prog.cellsOf 2 = 1 := by kernel_rfl
theorem cells_bool : Try.prog.cellsOf 4 = 1 := by kernel_rfl
theorem cells_str : Try.prog.cellsOf 9 = 1 := by kernel_rfl
theorem cells_lv : Try.prog.cellsOf 22 = 1 := by kernel_rfl
theorem cells_lp : Try.prog.cellsOf 23 = 1 := by kernel_rfl
theorem cells_li : Try.prog.cellsOf 52 = 1 := by kernel_rfl
theorem cells_lt : Try.prog.cellsOf 53 = 1 := by kernel_rfl
theorem bytes_typ : Try.prog.bytesOf 31 = 8 := by kernel_rfl
theorem bytesI : Try.prog.bytesOf 51 = 16 := by kernel_rfl
theorem bytesV : Try.prog.bytesOf 33 = 40 := by kernel_rfl
theorem bytesP : Try.prog.bytesOf 55 = 88 := by kernel_rfl
theorem cells_lo : Try.prog.cellsOf 24 = 1 := by kernel_rfl

section
attribute [local irreducible] Try.prog
variable {H : Type} (enc : TypeId × Value → H) (w : World)

theorem Opens.value : Opens enc Try.prog w 33 Kd.val (fun v => v.s.size ≤ 140737488351232) := by
  intro fuel cs d ps hd hw
  obtain ⟨hl, hf⟩ := field_open enc Try.prog w Try.underlying33 hd hw
  obtain ⟨c0, c1, c2, c3, rfl⟩ := list4 (hl.trans cellsV)
  obtain ⟨t, h0, _⟩ := hf 0 _ rfl rfl rfl cells_typ (Opens.int enc Try.prog w Try.underlying31)
  obtain ⟨i, h1, _⟩ := hf 1 _ rfl rfl rfl cells_i64 (Opens.int enc Try.prog w Try.underlying2)
  obtain ⟨b, h2, _⟩ := hf 2 _ rfl rfl rfl cells_bool (Opens.bool enc Try.prog w Try.underlying4)
  obtain ⟨s, h3, hs⟩ := hf 3 _ rfl rfl rfl cells_str (Opens.str enc Try.prog w Try.underlying9)
  have e0 : [c0] = [Value.int .i64 t] := h0
  have e1 : [c1] = [Value.int .i64 i] := h1
  have e2 : [c2] = [Value.bool b] := h2
  have e3 : [c3] = [Value.string s] := h3
  cases e0; cases e1; cases e2; cases e3
  exact ⟨⟨t, i, b, s⟩, rfl, hs⟩

theorem Opens.instr : Opens enc Try.prog w 51 Kd.ins (fun _ => True) := by
  intro fuel cs d ps hd hw
  obtain ⟨hl, hf⟩ := field_open enc Try.prog w Try.underlying51 hd hw
  obtain ⟨c0, c1, rfl⟩ := list2 (hl.trans cellsI)
  obtain ⟨c, h0, _⟩ := hf 0 _ rfl rfl rfl cells_cod (Opens.int enc Try.prog w Try.underlying43)
  obtain ⟨n, h1, _⟩ := hf 1 _ rfl rfl rfl cells_int (Opens.int enc Try.prog w Try.underlying3)
  have e0 : [c0] = [Value.int .i64 c] := h0
  have e1 : [c1] = [Value.int .i64 n] := h1
  cases e0; cases e1
  exact ⟨(c, n), rfl, trivial⟩

theorem Opens.proc : Opens enc Try.prog w 55 Kd.prc (fun p => p.params.length * 8 ≤ 140737488351232 ∧ p.code.length * 16 ≤ 140737488351232) := by
  intro fuel cs d ps hd hw
  obtain ⟨hl, hf⟩ := field_open enc Try.prog w Try.underlying55 hd hw
  obtain ⟨c0, c1, c2, c3, c4, c5, rfl⟩ := list6 (hl.trans cellsP)
  obtain ⟨nm, h0, _⟩ := hf 0 _ rfl rfl rfl cells_str (Opens.str enc Try.prog w Try.underlying9)
  obtain ⟨ex, h1, _⟩ := hf 1 _ rfl rfl rfl cells_bool (Opens.bool enc Try.prog w Try.underlying4)
  obtain ⟨pr, h2, hp⟩ := hf 2 _ rfl rfl rfl cells_lt (Opens.slice enc Try.prog w Try.underlying53 (k := Kd.int .i64) cells_typ (by decide) bytes_typ (Opens.int enc Try.prog w Try.underlying31))
  obtain ⟨lo, h3, _⟩ := hf 3 _ rfl rfl rfl cells_int (Opens.int enc Try.prog w Try.underlying3)
  obtain ⟨re, h4, _⟩ := hf 4 _ rfl rfl rfl cells_typ (Opens.int enc Try.prog w Try.underlying31)
  obtain ⟨co, h5, hc⟩ := hf 5 _ rfl rfl rfl cells_li (Opens.slice enc Try.prog w Try.underlying52 (k := Kd.ins) cellsI (by decide) bytesI (Opens.instr enc w))
  obtain ⟨PA, pc, h2', _, hPA⟩ := h2
  obtain ⟨CA, cc, h5', _, hCA⟩ := h5
  have e0 : [c0] = [Value.string nm] := h0
  have e1 : [c1] = [Value.bool ex] := h1
  have e2 : [c2] = [Value.slice PA pr.length pc] := h2'
  have e3 : [c3] = [Value.int .i64 lo] := h3
  have e4 : [c4] = [Value.int .i64 re] := h4
  have e5 : [c5] = [Value.slice CA co.length cc] := h5'
  cases e0; cases e1; cases e2; cases e3; cases e4; cases e5
  exact ⟨⟨nm, ex, pr, lo, re, co⟩, ⟨PA, pc, CA, cc, rfl, hPA, hCA⟩, hp.1, hc.1⟩

/-- a statement's program, procedure and arguments -/
structure GivenR where
  pg : Pg
  n : Int
  args : List V

theorem open_given {v : Value} {d : DataW H} {ps : List MemPlace} {base : Nat} (hval : Value.okWide Try.prog w .any base 28 v) (hd : DataW.Trod enc Try.prog w 0 (fun _ => true) true 28 v d ps) (hw : ∀ n ∈ d.weights Try.prog 28, n ≤ reachBytes) :
    ∃ (x : GivenR) (CA PA AA : Option Addr) (cc pc ac : Nat) (qv : Value), v = .agg #[.slice CA x.pg.consts.length cc, .slice PA x.pg.procs.length pc, qv, .int .i64 x.n, .slice AA x.args.length ac] ∧
      Sl Kd.val (Gw w) CA x.pg.consts ∧ Sl Kd.prc (Gw w) PA x.pg.procs ∧ Sl Kd.val (Gw w) AA x.args ∧ PgB x.pg ∧ x.args.length * 40 ≤ 140737488351232 := by
  obtain ⟨cells, rfl, _⟩ := okWide_struct Try.underlying28 hval
  obtain ⟨fuel, hd⟩ := hd
  obtain ⟨hl, hr⟩ := field_raw enc Try.prog w Try.underlying28 hd hw
  obtain ⟨_, hf⟩ := field_open enc Try.prog w Try.underlying28 hd hw
  have hcl : (Value.agg cells).cells.toList = cells.toList := rfl
  rw [hcl] at hl hr hf
  obtain ⟨c0, c1, c2, c3, c4, hcs⟩ := list5 (hl.trans cellsN)
  rw [hcs] at hr hf
  obtain ⟨n, h3, _⟩ := hf 1 _ rfl rfl rfl cells_int (Opens.int enc Try.prog w Try.underlying3)
  obtain ⟨args, h4, ha⟩ := hf 2 _ rfl rfl rfl cells_lv (Opens.slice enc Try.prog w Try.underlying22 (k := Kd.val) cellsV (by decide) bytesV (Opens.value enc w))
  obtain ⟨fuel', d', ps', hp, hpw⟩ := hr 0 _ rfl rfl rfl cellsG
  obtain ⟨_, hg⟩ := field_open enc Try.prog w Try.underlying26 hp hpw
  obtain ⟨co, h0, hc⟩ := hg 0 _ rfl rfl rfl cells_lv (Opens.slice enc Try.prog w Try.underlying22 (k := Kd.val) cellsV (by decide) bytesV (Opens.value enc w))
  obtain ⟨prs, h1, hpr⟩ := hg 1 _ rfl rfl rfl cells_lp (Opens.slice enc Try.prog w Try.underlying23 (k := Kd.prc) cellsP (by decide) bytesP (Opens.proc enc w))
  obtain ⟨CA, cc, h0', _, hCA⟩ := h0
  obtain ⟨PA, pc, h1', _, hPA⟩ := h1
  obtain ⟨AA, ac, h4', _, hAA⟩ := h4
  have e0 : [c0] = [Value.slice CA co.length cc] := h0'
  have e1 : [c1] = [Value.slice PA prs.length pc] := h1'
  have e3 : [c3] = [Value.int .i64 n] := h3
  have e4 : [c4] = [Value.slice AA args.length ac] := h4'
  cases e0; cases e1; cases e3; cases e4
  refine ⟨⟨⟨co, prs⟩, n, args⟩, CA, PA, AA, cc, pc, ac, c2, ?_, hCA, hPA, hAA, ⟨?_, ?_, fun p hp => ?_, fun p hp => ?_⟩, ha.1⟩
  · congr 1
    cases cells
    simp at hcs
    rw [hcs]
  · have := hc.1; dsimp only; omega
  · have := hpr.1; dsimp only; omega
  · have := (hpr.2 p hp).1; omega
  · have := (hpr.2 p hp).2; omega
end
end Go.Proofs.Ytjgohbepageicaa.Gb
