/- What is known of the types and functions of this seat, as the rules of the small logic ask for it. Two that may come in either order; single cells of what is ours. Steps of a walk taken one behind the other, as far as they are plain. Maps: laws for those that are ours; ranges over them. -/
import Derived.Test.YtcnlkfocbbkdhaaGreatDoorOb
import Derived.Test.YtcnlkfocbbkdhaaGreatDoorProg
import Derived.MapKept
import Derived.Maps.RangeRun
import Derived.Carry
set_option linter.unusedVariables false
set_option linter.unusedSimpArgs false
set_option linter.unusedSectionVars false
namespace Go.Proofs.YtcnlkfocbbkdhaaGreatDoor.Gb
open Go Go.Proofs
instance : Und Tryz.prog 2 (.int .i64) := ⟨by kernel_rfl⟩
instance inf2 : Inf Tryz.prog 2 1 8 (.int .i64 0) := ⟨by kernel_rfl⟩
instance : Agg Tryz.prog 2 false := ⟨fun w => by simp [isAgg, run_underlying Tryz.underlying2]⟩
instance : Und Tryz.prog 3 (.int .i64) := ⟨by kernel_rfl⟩
instance inf3 : Inf Tryz.prog 3 1 8 (.int .i64 0) := ⟨by kernel_rfl⟩
instance : Agg Tryz.prog 3 false := ⟨fun w => by simp [isAgg, run_underlying Tryz.underlying3]⟩
instance : Und Tryz.prog 4 .bool := ⟨by kernel_rfl⟩
instance inf4 : Inf Tryz.prog 4 1 1 (.bool false) := ⟨by kernel_rfl⟩
instance : Agg Tryz.prog 4 false := ⟨fun w => by simp [isAgg, run_underlying Tryz.underlying4]⟩
instance : Und Tryz.prog 5 (.int .u8) := ⟨by kernel_rfl⟩
instance inf5 : Inf Tryz.prog 5 1 1 (.int .u8 0) := ⟨by kernel_rfl⟩
instance : Agg Tryz.prog 5 false := ⟨fun w => by simp [isAgg, run_underlying Tryz.underlying5]⟩
instance : Und Tryz.prog 6 (.int .u8) := ⟨by kernel_rfl⟩
instance inf6 : Inf Tryz.prog 6 1 1 (.int .u8 0) := ⟨by kernel_rfl⟩
instance : Agg Tryz.prog 6 false := ⟨fun w => by simp [isAgg, run_underlying Tryz.underlying6]⟩
instance inf7 : Inf Tryz.prog 7 4 24 (.agg #[(.int .i64 0), (.int .i64 0), (.bool false), (.int .u8 0)]) := ⟨by kernel_rfl⟩
instance : Agg Tryz.prog 7 true := ⟨fun w => by simp [isAgg, run_underlying Tryz.underlying7]⟩
instance : Plc Tryz.prog 7 [(0, 1), (1, 1), (2, 1), (3, 1)] := ⟨fun w => ⟨_, Tryz.underlying7, run_places w _ _ (by kernel_rfl)⟩⟩
instance : Fld Tryz.prog 7 0 0 := mk_fld Tryz.underlying7 rfl (inf2).pos rfl
instance : Fld Tryz.prog 7 1 1 := mk_fld Tryz.underlying7 rfl (inf3).pos rfl
instance : Fld Tryz.prog 7 2 2 := mk_fld Tryz.underlying7 rfl (inf4).pos rfl
instance : Fld Tryz.prog 7 3 3 := mk_fld Tryz.underlying7 rfl (inf6).pos rfl
instance inf8 : Inf Tryz.prog 8 4 24 (.agg #[(.int .i64 0), (.int .i64 0), (.bool false), (.int .u8 0)]) := ⟨by kernel_rfl⟩
instance : Agg Tryz.prog 8 true := ⟨fun w => by simp [isAgg, run_underlying Tryz.underlying8]⟩
instance : Plc Tryz.prog 8 [(0, 1), (1, 1), (2, 1), (3, 1)] := ⟨fun w => ⟨_, Tryz.underlying8, run_places w _ _ (by kernel_rfl)⟩⟩
instance : Fld Tryz.prog 8 0 0 := mk_fld Tryz.underlying8 rfl (inf2).pos rfl
instance : Fld Tryz.prog 8 1 1 := mk_fld Tryz.underlying8 rfl (inf3).pos rfl
instance : Fld Tryz.prog 8 2 2 := mk_fld Tryz.underlying8 rfl (inf4).pos rfl
instance : Fld Tryz.prog 8 3 3 := mk_fld Tryz.underlying8 rfl (inf6).pos rfl
instance : Und Tryz.prog 9 .string := ⟨by kernel_rfl⟩
instance inf9 : Inf Tryz.prog 9 1 16 (.string ⟨#[]⟩) := ⟨by kernel_rfl⟩
instance : Agg Tryz.prog 9 false := ⟨fun w => by simp [isAgg, run_underlying Tryz.underlying9]⟩
instance : Und Tryz.prog 10 .string := ⟨by kernel_rfl⟩
instance inf10 : Inf Tryz.prog 10 1 16 (.string ⟨#[]⟩) := ⟨by kernel_rfl⟩
instance : Agg Tryz.prog 10 false := ⟨fun w => by simp [isAgg, run_underlying Tryz.underlying10]⟩
instance : Und Tryz.prog 11 .string := ⟨by kernel_rfl⟩
instance inf11 : Inf Tryz.prog 11 1 16 (.string ⟨#[]⟩) := ⟨by kernel_rfl⟩
instance : Agg Tryz.prog 11 false := ⟨fun w => by simp [isAgg, run_underlying Tryz.underlying11]⟩
instance : Und Tryz.prog 12 (.int .u64) := ⟨by kernel_rfl⟩
instance inf12 : Inf Tryz.prog 12 1 8 (.int .u64 0) := ⟨by kernel_rfl⟩
instance : Agg Tryz.prog 12 false := ⟨fun w => by simp [isAgg, run_underlying Tryz.underlying12]⟩
instance inf13 : Inf Tryz.prog 13 2 24 (.agg #[(.string ⟨#[]⟩), (.int .u64 0)]) := ⟨by kernel_rfl⟩
instance : Agg Tryz.prog 13 true := ⟨fun w => by simp [isAgg, run_underlying Tryz.underlying13]⟩
instance : Plc Tryz.prog 13 [(0, 1), (1, 1)] := ⟨fun w => ⟨_, Tryz.underlying13, run_places w _ _ (by kernel_rfl)⟩⟩
instance : Fld Tryz.prog 13 0 0 := mk_fld Tryz.underlying13 rfl (inf9).pos rfl
instance : Fld Tryz.prog 13 1 1 := mk_fld Tryz.underlying13 rfl (inf12).pos rfl
instance inf14 : Inf Tryz.prog 14 2 24 (.agg #[(.string ⟨#[]⟩), (.int .u64 0)]) := ⟨by kernel_rfl⟩
instance : Agg Tryz.prog 14 true := ⟨fun w => by simp [isAgg, run_underlying Tryz.underlying14]⟩
instance : Plc Tryz.prog 14 [(0, 1), (1, 1)] := ⟨fun w => ⟨_, Tryz.underlying14, run_places w _ _ (by kernel_rfl)⟩⟩
instance : Fld Tryz.prog 14 0 0 := mk_fld Tryz.underlying14 rfl (inf9).pos rfl
instance : Fld Tryz.prog 14 1 1 := mk_fld Tryz.underlying14 rfl (inf12).pos rfl
instance : Und Tryz.prog 15 (.pointer 347) := ⟨by kernel_rfl⟩
instance inf15 : Inf Tryz.prog 15 1 8 (.pointer none) := ⟨by kernel_rfl⟩
instance : Agg Tryz.prog 15 false := ⟨fun w => by simp [isAgg, run_underlying Tryz.underlying15]⟩
instance : Und Tryz.prog 16 (.pointer 350) := ⟨by kernel_rfl⟩
instance inf16 : Inf Tryz.prog 16 1 8 (.pointer none) := ⟨by kernel_rfl⟩
instance : Agg Tryz.prog 16 false := ⟨fun w => by simp [isAgg, run_underlying Tryz.underlying16]⟩
instance : Und Tryz.prog 17 (.pointer 357) := ⟨by kernel_rfl⟩
instance inf17 : Inf Tryz.prog 17 1 8 (.pointer none) := ⟨by kernel_rfl⟩
instance : Agg Tryz.prog 17 false := ⟨fun w => by simp [isAgg, run_underlying Tryz.underlying17]⟩
instance inf18 : Inf Tryz.prog 18 1 8 (.agg #[(.pointer none)]) := ⟨by kernel_rfl⟩
instance : Agg Tryz.prog 18 true := ⟨fun w => by simp [isAgg, run_underlying Tryz.underlying18]⟩
instance : Plc Tryz.prog 18 [(0, 1)] := ⟨fun w => ⟨_, Tryz.underlying18, run_places w _ _ (by kernel_rfl)⟩⟩
instance : Fld Tryz.prog 18 0 0 := mk_fld Tryz.underlying18 rfl (inf17).pos rfl
instance inf19 : Inf Tryz.prog 19 1 8 (.agg #[(.pointer none)]) := ⟨by kernel_rfl⟩
instance : Agg Tryz.prog 19 true := ⟨fun w => by simp [isAgg, run_underlying Tryz.underlying19]⟩
instance : Plc Tryz.prog 19 [(0, 1)] := ⟨fun w => ⟨_, Tryz.underlying19, run_places w _ _ (by kernel_rfl)⟩⟩
instance : Fld Tryz.prog 19 0 0 := mk_fld Tryz.underlying19 rfl (inf17).pos rfl
instance : Und Tryz.prog 21 (.int .i32) := ⟨by kernel_rfl⟩
instance inf21 : Inf Tryz.prog 21 1 4 (.int .i32 0) := ⟨by kernel_rfl⟩
instance : Agg Tryz.prog 21 false := ⟨fun w => by simp [isAgg, run_underlying Tryz.underlying21]⟩
instance : Und Tryz.prog 22 (.slice 38) := ⟨by kernel_rfl⟩
instance inf22 : Inf Tryz.prog 22 1 24 (.slice none 0 0) := ⟨by kernel_rfl⟩
instance : Agg Tryz.prog 22 false := ⟨fun w => by simp [isAgg, run_underlying Tryz.underlying22]⟩
instance : Und Tryz.prog 23 (.slice 52) := ⟨by kernel_rfl⟩
instance inf23 : Inf Tryz.prog 23 1 24 (.slice none 0 0) := ⟨by kernel_rfl⟩
instance : Agg Tryz.prog 23 false := ⟨fun w => by simp [isAgg, run_underlying Tryz.underlying23]⟩
instance : Und Tryz.prog 24 (.slice 47) := ⟨by kernel_rfl⟩
instance inf24 : Inf Tryz.prog 24 1 24 (.slice none 0 0) := ⟨by kernel_rfl⟩
instance : Agg Tryz.prog 24 false := ⟨fun w => by simp [isAgg, run_underlying Tryz.underlying24]⟩
instance : Und Tryz.prog 25 (.slice 54) := ⟨by kernel_rfl⟩
instance inf25 : Inf Tryz.prog 25 1 24 (.slice none 0 0) := ⟨by kernel_rfl⟩
instance : Agg Tryz.prog 25 false := ⟨fun w => by simp [isAgg, run_underlying Tryz.underlying25]⟩
instance inf26 : Inf Tryz.prog 26 3 72 (.agg #[(.slice none 0 0), (.slice none 0 0), (.slice none 0 0)]) := ⟨by kernel_rfl⟩
instance : Agg Tryz.prog 26 true := ⟨fun w => by simp [isAgg, run_underlying Tryz.underlying26]⟩
instance : Plc Tryz.prog 26 [(0, 1), (1, 1), (2, 1)] := ⟨fun w => ⟨_, Tryz.underlying26, run_places w _ _ (by kernel_rfl)⟩⟩
instance : Fld Tryz.prog 26 0 0 := mk_fld Tryz.underlying26 rfl (inf23).pos rfl
instance : Fld Tryz.prog 26 1 1 := mk_fld Tryz.underlying26 rfl (inf24).pos rfl
instance : Fld Tryz.prog 26 2 2 := mk_fld Tryz.underlying26 rfl (inf25).pos rfl
instance inf27 : Inf Tryz.prog 27 3 72 (.agg #[(.slice none 0 0), (.slice none 0 0), (.slice none 0 0)]) := ⟨by kernel_rfl⟩
instance : Agg Tryz.prog 27 true := ⟨fun w => by simp [isAgg, run_underlying Tryz.underlying27]⟩
instance : Plc Tryz.prog 27 [(0, 1), (1, 1), (2, 1)] := ⟨fun w => ⟨_, Tryz.underlying27, run_places w _ _ (by kernel_rfl)⟩⟩
instance : Fld Tryz.prog 27 0 0 := mk_fld Tryz.underlying27 rfl (inf23).pos rfl
instance : Fld Tryz.prog 27 1 1 := mk_fld Tryz.underlying27 rfl (inf24).pos rfl
instance : Fld Tryz.prog 27 2 2 := mk_fld Tryz.underlying27 rfl (inf25).pos rfl
instance : Und Tryz.prog 28 (.int .i64) := ⟨by kernel_rfl⟩
instance inf28 : Inf Tryz.prog 28 1 8 (.int .i64 0) := ⟨by kernel_rfl⟩
instance : Agg Tryz.prog 28 false := ⟨fun w => by simp [isAgg, run_underlying Tryz.underlying28]⟩
instance : Und Tryz.prog 31 (.slice 56) := ⟨by kernel_rfl⟩
instance inf31 : Inf Tryz.prog 31 1 24 (.slice none 0 0) := ⟨by kernel_rfl⟩
instance : Agg Tryz.prog 31 false := ⟨fun w => by simp [isAgg, run_underlying Tryz.underlying31]⟩
instance inf33 : Inf Tryz.prog 33 2 16 (.agg #[(.int .i64 0), (.int .i64 0)]) := ⟨by kernel_rfl⟩
instance : Agg Tryz.prog 33 true := ⟨fun w => by simp [isAgg, run_underlying Tryz.underlying33]⟩
instance : Plc Tryz.prog 33 [(0, 1), (1, 1)] := ⟨fun w => ⟨_, Tryz.underlying33, run_places w _ _ (by kernel_rfl)⟩⟩
instance : Fld Tryz.prog 33 0 0 := mk_fld Tryz.underlying33 rfl (inf3).pos rfl
instance : Fld Tryz.prog 33 1 1 := mk_fld Tryz.underlying33 rfl (inf3).pos rfl
instance inf34 : Inf Tryz.prog 34 2 16 (.agg #[(.int .i64 0), (.int .i64 0)]) := ⟨by kernel_rfl⟩
instance : Agg Tryz.prog 34 true := ⟨fun w => by simp [isAgg, run_underlying Tryz.underlying34]⟩
instance : Plc Tryz.prog 34 [(0, 1), (1, 1)] := ⟨fun w => ⟨_, Tryz.underlying34, run_places w _ _ (by kernel_rfl)⟩⟩
instance : Fld Tryz.prog 34 0 0 := mk_fld Tryz.underlying34 rfl (inf3).pos rfl
instance : Fld Tryz.prog 34 1 1 := mk_fld Tryz.underlying34 rfl (inf3).pos rfl
instance inf37 : Inf Tryz.prog 37 4 88 (.agg #[(.string ⟨#[]⟩), (.slice none 0 0), (.slice none 0 0), (.slice none 0 0)]) := ⟨by kernel_rfl⟩
instance : Agg Tryz.prog 37 true := ⟨fun w => by simp [isAgg, run_underlying Tryz.underlying37]⟩
instance : Plc Tryz.prog 37 [(0, 1), (1, 1), (2, 1), (3, 1)] := ⟨fun w => ⟨_, Tryz.underlying37, run_places w _ _ (by kernel_rfl)⟩⟩
instance : Fld Tryz.prog 37 0 0 := mk_fld Tryz.underlying37 rfl (inf9).pos rfl
instance : Fld Tryz.prog 37 1 1 := mk_fld Tryz.underlying37 rfl (inf23).pos rfl
instance : Fld Tryz.prog 37 2 2 := mk_fld Tryz.underlying37 rfl (inf31).pos rfl
instance : Fld Tryz.prog 37 3 3 := mk_fld Tryz.underlying37 rfl (inf24).pos rfl
instance inf38 : Inf Tryz.prog 38 4 88 (.agg #[(.string ⟨#[]⟩), (.slice none 0 0), (.slice none 0 0), (.slice none 0 0)]) := ⟨by kernel_rfl⟩
instance : Agg Tryz.prog 38 true := ⟨fun w => by simp [isAgg, run_underlying Tryz.underlying38]⟩
instance : Plc Tryz.prog 38 [(0, 1), (1, 1), (2, 1), (3, 1)] := ⟨fun w => ⟨_, Tryz.underlying38, run_places w _ _ (by kernel_rfl)⟩⟩
instance : Fld Tryz.prog 38 0 0 := mk_fld Tryz.underlying38 rfl (inf9).pos rfl
instance : Fld Tryz.prog 38 1 1 := mk_fld Tryz.underlying38 rfl (inf23).pos rfl
instance : Fld Tryz.prog 38 2 2 := mk_fld Tryz.underlying38 rfl (inf31).pos rfl
instance : Fld Tryz.prog 38 3 3 := mk_fld Tryz.underlying38 rfl (inf24).pos rfl
instance : Und Tryz.prog 43 (.slice 44) := ⟨by kernel_rfl⟩
instance inf43 : Inf Tryz.prog 43 1 24 (.slice none 0 0) := ⟨by kernel_rfl⟩
instance : Agg Tryz.prog 43 false := ⟨fun w => by simp [isAgg, run_underlying Tryz.underlying43]⟩
instance : Und Tryz.prog 44 (.int .i64) := ⟨by kernel_rfl⟩
instance inf44 : Inf Tryz.prog 44 1 8 (.int .i64 0) := ⟨by kernel_rfl⟩
instance : Agg Tryz.prog 44 false := ⟨fun w => by simp [isAgg, run_underlying Tryz.underlying44]⟩
instance : Und Tryz.prog 45 (.slice 50) := ⟨by kernel_rfl⟩
instance inf45 : Inf Tryz.prog 45 1 24 (.slice none 0 0) := ⟨by kernel_rfl⟩
instance : Agg Tryz.prog 45 false := ⟨fun w => by simp [isAgg, run_underlying Tryz.underlying45]⟩
instance inf46 : Inf Tryz.prog 46 6 88 (.agg #[(.string ⟨#[]⟩), (.bool false), (.slice none 0 0), (.int .i64 0), (.int .i64 0), (.slice none 0 0)]) := ⟨by kernel_rfl⟩
instance : Agg Tryz.prog 46 true := ⟨fun w => by simp [isAgg, run_underlying Tryz.underlying46]⟩
instance : Plc Tryz.prog 46 [(0, 1), (1, 1), (2, 1), (3, 1), (4, 1), (5, 1)] := ⟨fun w => ⟨_, Tryz.underlying46, run_places w _ _ (by kernel_rfl)⟩⟩
instance : Fld Tryz.prog 46 0 0 := mk_fld Tryz.underlying46 rfl (inf9).pos rfl
instance : Fld Tryz.prog 46 1 1 := mk_fld Tryz.underlying46 rfl (inf4).pos rfl
instance : Fld Tryz.prog 46 2 2 := mk_fld Tryz.underlying46 rfl (inf43).pos rfl
instance : Fld Tryz.prog 46 3 3 := mk_fld Tryz.underlying46 rfl (inf3).pos rfl
instance : Fld Tryz.prog 46 4 4 := mk_fld Tryz.underlying46 rfl (inf44).pos rfl
instance : Fld Tryz.prog 46 5 5 := mk_fld Tryz.underlying46 rfl (inf45).pos rfl
instance inf47 : Inf Tryz.prog 47 6 88 (.agg #[(.string ⟨#[]⟩), (.bool false), (.slice none 0 0), (.int .i64 0), (.int .i64 0), (.slice none 0 0)]) := ⟨by kernel_rfl⟩
instance : Agg Tryz.prog 47 true := ⟨fun w => by simp [isAgg, run_underlying Tryz.underlying47]⟩
instance : Plc Tryz.prog 47 [(0, 1), (1, 1), (2, 1), (3, 1), (4, 1), (5, 1)] := ⟨fun w => ⟨_, Tryz.underlying47, run_places w _ _ (by kernel_rfl)⟩⟩
instance : Fld Tryz.prog 47 0 0 := mk_fld Tryz.underlying47 rfl (inf9).pos rfl
instance : Fld Tryz.prog 47 1 1 := mk_fld Tryz.underlying47 rfl (inf4).pos rfl
instance : Fld Tryz.prog 47 2 2 := mk_fld Tryz.underlying47 rfl (inf43).pos rfl
instance : Fld Tryz.prog 47 3 3 := mk_fld Tryz.underlying47 rfl (inf3).pos rfl
instance : Fld Tryz.prog 47 4 4 := mk_fld Tryz.underlying47 rfl (inf44).pos rfl
instance : Fld Tryz.prog 47 5 5 := mk_fld Tryz.underlying47 rfl (inf45).pos rfl
instance : Und Tryz.prog 48 (.int .i64) := ⟨by kernel_rfl⟩
instance inf48 : Inf Tryz.prog 48 1 8 (.int .i64 0) := ⟨by kernel_rfl⟩
instance : Agg Tryz.prog 48 false := ⟨fun w => by simp [isAgg, run_underlying Tryz.underlying48]⟩
instance inf49 : Inf Tryz.prog 49 2 16 (.agg #[(.int .i64 0), (.int .i64 0)]) := ⟨by kernel_rfl⟩
instance : Agg Tryz.prog 49 true := ⟨fun w => by simp [isAgg, run_underlying Tryz.underlying49]⟩
instance : Plc Tryz.prog 49 [(0, 1), (1, 1)] := ⟨fun w => ⟨_, Tryz.underlying49, run_places w _ _ (by kernel_rfl)⟩⟩
instance : Fld Tryz.prog 49 0 0 := mk_fld Tryz.underlying49 rfl (inf48).pos rfl
instance : Fld Tryz.prog 49 1 1 := mk_fld Tryz.underlying49 rfl (inf3).pos rfl
instance inf50 : Inf Tryz.prog 50 2 16 (.agg #[(.int .i64 0), (.int .i64 0)]) := ⟨by kernel_rfl⟩
instance : Agg Tryz.prog 50 true := ⟨fun w => by simp [isAgg, run_underlying Tryz.underlying50]⟩
instance : Plc Tryz.prog 50 [(0, 1), (1, 1)] := ⟨fun w => ⟨_, Tryz.underlying50, run_places w _ _ (by kernel_rfl)⟩⟩
instance : Fld Tryz.prog 50 0 0 := mk_fld Tryz.underlying50 rfl (inf48).pos rfl
instance : Fld Tryz.prog 50 1 1 := mk_fld Tryz.underlying50 rfl (inf3).pos rfl
instance inf51 : Inf Tryz.prog 51 4 40 (.agg #[(.int .i64 0), (.int .i64 0), (.bool false), (.string ⟨#[]⟩)]) := ⟨by kernel_rfl⟩
instance : Agg Tryz.prog 51 true := ⟨fun w => by simp [isAgg, run_underlying Tryz.underlying51]⟩
instance : Plc Tryz.prog 51 [(0, 1), (1, 1), (2, 1), (3, 1)] := ⟨fun w => ⟨_, Tryz.underlying51, run_places w _ _ (by kernel_rfl)⟩⟩
instance : Fld Tryz.prog 51 0 0 := mk_fld Tryz.underlying51 rfl (inf44).pos rfl
instance : Fld Tryz.prog 51 1 1 := mk_fld Tryz.underlying51 rfl (inf2).pos rfl
instance : Fld Tryz.prog 51 2 2 := mk_fld Tryz.underlying51 rfl (inf4).pos rfl
instance : Fld Tryz.prog 51 3 3 := mk_fld Tryz.underlying51 rfl (inf9).pos rfl
instance inf52 : Inf Tryz.prog 52 4 40 (.agg #[(.int .i64 0), (.int .i64 0), (.bool false), (.string ⟨#[]⟩)]) := ⟨by kernel_rfl⟩
instance : Agg Tryz.prog 52 true := ⟨fun w => by simp [isAgg, run_underlying Tryz.underlying52]⟩
instance : Plc Tryz.prog 52 [(0, 1), (1, 1), (2, 1), (3, 1)] := ⟨fun w => ⟨_, Tryz.underlying52, run_places w _ _ (by kernel_rfl)⟩⟩
instance : Fld Tryz.prog 52 0 0 := mk_fld Tryz.underlying52 rfl (inf44).pos rfl
instance : Fld Tryz.prog 52 1 1 := mk_fld Tryz.underlying52 rfl (inf2).pos rfl
instance : Fld Tryz.prog 52 2 2 := mk_fld Tryz.underlying52 rfl (inf4).pos rfl
instance : Fld Tryz.prog 52 3 3 := mk_fld Tryz.underlying52 rfl (inf9).pos rfl
instance inf53 : Inf Tryz.prog 53 3 40 (.agg #[(.string ⟨#[]⟩), (.string ⟨#[]⟩), (.int .i64 0)]) := ⟨by kernel_rfl⟩
instance : Agg Tryz.prog 53 true := ⟨fun w => by simp [isAgg, run_underlying Tryz.underlying53]⟩
instance : Plc Tryz.prog 53 [(0, 1), (1, 1), (2, 1)] := ⟨fun w => ⟨_, Tryz.underlying53, run_places w _ _ (by kernel_rfl)⟩⟩
instance : Fld Tryz.prog 53 0 0 := mk_fld Tryz.underlying53 rfl (inf9).pos rfl
instance : Fld Tryz.prog 53 1 1 := mk_fld Tryz.underlying53 rfl (inf9).pos rfl
instance : Fld Tryz.prog 53 2 2 := mk_fld Tryz.underlying53 rfl (inf3).pos rfl
instance inf54 : Inf Tryz.prog 54 3 40 (.agg #[(.string ⟨#[]⟩), (.string ⟨#[]⟩), (.int .i64 0)]) := ⟨by kernel_rfl⟩
instance : Agg Tryz.prog 54 true := ⟨fun w => by simp [isAgg, run_underlying Tryz.underlying54]⟩
instance : Plc Tryz.prog 54 [(0, 1), (1, 1), (2, 1)] := ⟨fun w => ⟨_, Tryz.underlying54, run_places w _ _ (by kernel_rfl)⟩⟩
instance : Fld Tryz.prog 54 0 0 := mk_fld Tryz.underlying54 rfl (inf9).pos rfl
instance : Fld Tryz.prog 54 1 1 := mk_fld Tryz.underlying54 rfl (inf9).pos rfl
instance : Fld Tryz.prog 54 2 2 := mk_fld Tryz.underlying54 rfl (inf3).pos rfl
instance inf55 : Inf Tryz.prog 55 4 64 (.agg #[(.string ⟨#[]⟩), (.string ⟨#[]⟩), (.slice none 0 0), (.int .i64 0)]) := ⟨by kernel_rfl⟩
instance : Agg Tryz.prog 55 true := ⟨fun w => by simp [isAgg, run_underlying Tryz.underlying55]⟩
instance : Plc Tryz.prog 55 [(0, 1), (1, 1), (2, 1), (3, 1)] := ⟨fun w => ⟨_, Tryz.underlying55, run_places w _ _ (by kernel_rfl)⟩⟩
instance : Fld Tryz.prog 55 0 0 := mk_fld Tryz.underlying55 rfl (inf9).pos rfl
instance : Fld Tryz.prog 55 1 1 := mk_fld Tryz.underlying55 rfl (inf9).pos rfl
instance : Fld Tryz.prog 55 2 2 := mk_fld Tryz.underlying55 rfl (inf43).pos rfl
instance : Fld Tryz.prog 55 3 3 := mk_fld Tryz.underlying55 rfl (inf44).pos rfl
instance inf56 : Inf Tryz.prog 56 4 64 (.agg #[(.string ⟨#[]⟩), (.string ⟨#[]⟩), (.slice none 0 0), (.int .i64 0)]) := ⟨by kernel_rfl⟩
instance : Agg Tryz.prog 56 true := ⟨fun w => by simp [isAgg, run_underlying Tryz.underlying56]⟩
instance : Plc Tryz.prog 56 [(0, 1), (1, 1), (2, 1), (3, 1)] := ⟨fun w => ⟨_, Tryz.underlying56, run_places w _ _ (by kernel_rfl)⟩⟩
instance : Fld Tryz.prog 56 0 0 := mk_fld Tryz.underlying56 rfl (inf9).pos rfl
instance : Fld Tryz.prog 56 1 1 := mk_fld Tryz.underlying56 rfl (inf9).pos rfl
instance : Fld Tryz.prog 56 2 2 := mk_fld Tryz.underlying56 rfl (inf43).pos rfl
instance : Fld Tryz.prog 56 3 3 := mk_fld Tryz.underlying56 rfl (inf44).pos rfl
instance : Und Tryz.prog 60 (.int .u16) := ⟨by kernel_rfl⟩
instance inf60 : Inf Tryz.prog 60 1 2 (.int .u16 0) := ⟨by kernel_rfl⟩
instance : Agg Tryz.prog 60 false := ⟨fun w => by simp [isAgg, run_underlying Tryz.underlying60]⟩
instance inf61 : Inf Tryz.prog 61 3 40 (.agg #[(.int .u8 0), (.slice none 0 0), (.int .u16 0)]) := ⟨by kernel_rfl⟩
instance : Agg Tryz.prog 61 true := ⟨fun w => by simp [isAgg, run_underlying Tryz.underlying61]⟩
instance : Plc Tryz.prog 61 [(0, 1), (1, 1), (2, 1)] := ⟨fun w => ⟨_, Tryz.underlying61, run_places w _ _ (by kernel_rfl)⟩⟩
instance : Fld Tryz.prog 61 0 0 := mk_fld Tryz.underlying61 rfl (inf5).pos rfl
instance : Fld Tryz.prog 61 1 1 := mk_fld Tryz.underlying61 rfl (inf23).pos rfl
instance : Fld Tryz.prog 61 2 2 := mk_fld Tryz.underlying61 rfl (inf60).pos rfl
instance inf62 : Inf Tryz.prog 62 3 40 (.agg #[(.int .u8 0), (.slice none 0 0), (.int .u16 0)]) := ⟨by kernel_rfl⟩
instance : Agg Tryz.prog 62 true := ⟨fun w => by simp [isAgg, run_underlying Tryz.underlying62]⟩
instance : Plc Tryz.prog 62 [(0, 1), (1, 1), (2, 1)] := ⟨fun w => ⟨_, Tryz.underlying62, run_places w _ _ (by kernel_rfl)⟩⟩
instance : Fld Tryz.prog 62 0 0 := mk_fld Tryz.underlying62 rfl (inf5).pos rfl
instance : Fld Tryz.prog 62 1 1 := mk_fld Tryz.underlying62 rfl (inf23).pos rfl
instance : Fld Tryz.prog 62 2 2 := mk_fld Tryz.underlying62 rfl (inf60).pos rfl
instance inf64 : Inf Tryz.prog 64 7 80 (.agg #[(.int .i64 0), (.int .i64 0), (.int .i64 0), (.bool false), (.string ⟨#[]⟩), (.slice none 0 0), (.int .i64 0)]) := ⟨by kernel_rfl⟩
instance : Agg Tryz.prog 64 true := ⟨fun w => by simp [isAgg, run_underlying Tryz.underlying64]⟩
instance : Plc Tryz.prog 64 [(0, 1), (1, 4), (5, 1), (6, 1)] := ⟨fun w => ⟨_, Tryz.underlying64, run_places w _ _ (by kernel_rfl)⟩⟩
instance : Fld Tryz.prog 64 0 0 := mk_fld Tryz.underlying64 rfl (inf3).pos rfl
instance : Fld Tryz.prog 64 1 1 := mk_fld Tryz.underlying64 rfl (inf52).pos rfl
instance : Fld Tryz.prog 64 2 5 := mk_fld Tryz.underlying64 rfl (inf23).pos rfl
instance : Fld Tryz.prog 64 3 6 := mk_fld Tryz.underlying64 rfl (inf3).pos rfl
instance inf65 : Inf Tryz.prog 65 7 80 (.agg #[(.int .i64 0), (.int .i64 0), (.int .i64 0), (.bool false), (.string ⟨#[]⟩), (.slice none 0 0), (.int .i64 0)]) := ⟨by kernel_rfl⟩
instance : Agg Tryz.prog 65 true := ⟨fun w => by simp [isAgg, run_underlying Tryz.underlying65]⟩
instance : Plc Tryz.prog 65 [(0, 1), (1, 4), (5, 1), (6, 1)] := ⟨fun w => ⟨_, Tryz.underlying65, run_places w _ _ (by kernel_rfl)⟩⟩
instance : Fld Tryz.prog 65 0 0 := mk_fld Tryz.underlying65 rfl (inf3).pos rfl
instance : Fld Tryz.prog 65 1 1 := mk_fld Tryz.underlying65 rfl (inf52).pos rfl
instance : Fld Tryz.prog 65 2 5 := mk_fld Tryz.underlying65 rfl (inf23).pos rfl
instance : Fld Tryz.prog 65 3 6 := mk_fld Tryz.underlying65 rfl (inf3).pos rfl
instance : Und Tryz.prog 71 (.slice 5) := ⟨by kernel_rfl⟩
instance inf71 : Inf Tryz.prog 71 1 24 (.slice none 0 0) := ⟨by kernel_rfl⟩
instance : Agg Tryz.prog 71 false := ⟨fun w => by simp [isAgg, run_underlying Tryz.underlying71]⟩
instance inf76 : Inf Tryz.prog 76 2 16 (.agg #[(.int .i64 0), (.int .i64 0)]) := ⟨by kernel_rfl⟩
instance : Agg Tryz.prog 76 true := ⟨fun w => by simp [isAgg, run_underlying Tryz.underlying76]⟩
instance : Plc Tryz.prog 76 [(0, 1), (1, 1)] := ⟨fun w => ⟨_, Tryz.underlying76, run_places w _ _ (by kernel_rfl)⟩⟩
instance : Fld Tryz.prog 76 0 0 := mk_fld Tryz.underlying76 rfl (inf28).pos rfl
instance : Fld Tryz.prog 76 1 1 := mk_fld Tryz.underlying76 rfl (inf3).pos rfl
instance inf77 : Inf Tryz.prog 77 2 16 (.agg #[(.int .i64 0), (.int .i64 0)]) := ⟨by kernel_rfl⟩
instance : Agg Tryz.prog 77 true := ⟨fun w => by simp [isAgg, run_underlying Tryz.underlying77]⟩
instance : Plc Tryz.prog 77 [(0, 1), (1, 1)] := ⟨fun w => ⟨_, Tryz.underlying77, run_places w _ _ (by kernel_rfl)⟩⟩
instance : Fld Tryz.prog 77 0 0 := mk_fld Tryz.underlying77 rfl (inf28).pos rfl
instance : Fld Tryz.prog 77 1 1 := mk_fld Tryz.underlying77 rfl (inf3).pos rfl
instance : Und Tryz.prog 85 (.map 9 3) := ⟨by kernel_rfl⟩
instance inf85 : Inf Tryz.prog 85 1 8 (.map none) := ⟨by kernel_rfl⟩
instance : Agg Tryz.prog 85 false := ⟨fun w => by simp [isAgg, run_underlying Tryz.underlying85]⟩
instance : Und Tryz.prog 87 (.map 140 24) := ⟨by kernel_rfl⟩
instance inf87 : Inf Tryz.prog 87 1 8 (.map none) := ⟨by kernel_rfl⟩
instance : Agg Tryz.prog 87 false := ⟨fun w => by simp [isAgg, run_underlying Tryz.underlying87]⟩
instance : Und Tryz.prog 95 (.pointer 97) := ⟨by kernel_rfl⟩
instance inf95 : Inf Tryz.prog 95 1 8 (.pointer none) := ⟨by kernel_rfl⟩
instance : Agg Tryz.prog 95 false := ⟨fun w => by simp [isAgg, run_underlying Tryz.underlying95]⟩
instance inf96 : Inf Tryz.prog 96 3 72 (.agg #[(.slice none 0 0), (.slice none 0 0), (.slice none 0 0)]) := ⟨by kernel_rfl⟩
instance : Agg Tryz.prog 96 true := ⟨fun w => by simp [isAgg, run_underlying Tryz.underlying96]⟩
instance : Plc Tryz.prog 96 [(0, 1), (1, 1), (2, 1)] := ⟨fun w => ⟨_, Tryz.underlying96, run_places w _ _ (by kernel_rfl)⟩⟩
instance : Fld Tryz.prog 96 0 0 := mk_fld Tryz.underlying96 rfl (inf23).pos rfl
instance : Fld Tryz.prog 96 1 1 := mk_fld Tryz.underlying96 rfl (inf31).pos rfl
instance : Fld Tryz.prog 96 2 2 := mk_fld Tryz.underlying96 rfl (inf24).pos rfl
instance inf97 : Inf Tryz.prog 97 3 72 (.agg #[(.slice none 0 0), (.slice none 0 0), (.slice none 0 0)]) := ⟨by kernel_rfl⟩
instance : Agg Tryz.prog 97 true := ⟨fun w => by simp [isAgg, run_underlying Tryz.underlying97]⟩
instance : Plc Tryz.prog 97 [(0, 1), (1, 1), (2, 1)] := ⟨fun w => ⟨_, Tryz.underlying97, run_places w _ _ (by kernel_rfl)⟩⟩
instance : Fld Tryz.prog 97 0 0 := mk_fld Tryz.underlying97 rfl (inf23).pos rfl
instance : Fld Tryz.prog 97 1 1 := mk_fld Tryz.underlying97 rfl (inf31).pos rfl
instance : Fld Tryz.prog 97 2 2 := mk_fld Tryz.underlying97 rfl (inf24).pos rfl
instance : Und Tryz.prog 111 (.pointer 115) := ⟨by kernel_rfl⟩
instance inf111 : Inf Tryz.prog 111 1 8 (.pointer none) := ⟨by kernel_rfl⟩
instance : Agg Tryz.prog 111 false := ⟨fun w => by simp [isAgg, run_underlying Tryz.underlying111]⟩
instance inf112 : Inf Tryz.prog 112 1 24 (.agg #[(.slice none 0 0)]) := ⟨by kernel_rfl⟩
instance : Agg Tryz.prog 112 true := ⟨fun w => by simp [isAgg, run_underlying Tryz.underlying112]⟩
instance : Plc Tryz.prog 112 [(0, 1)] := ⟨fun w => ⟨_, Tryz.underlying112, run_places w _ _ (by kernel_rfl)⟩⟩
instance : Fld Tryz.prog 112 0 0 := mk_fld Tryz.underlying112 rfl (inf71).pos rfl
instance inf113 : Inf Tryz.prog 113 1 24 (.agg #[(.slice none 0 0)]) := ⟨by kernel_rfl⟩
instance : Agg Tryz.prog 113 true := ⟨fun w => by simp [isAgg, run_underlying Tryz.underlying113]⟩
instance : Plc Tryz.prog 113 [(0, 1)] := ⟨fun w => ⟨_, Tryz.underlying113, run_places w _ _ (by kernel_rfl)⟩⟩
instance : Fld Tryz.prog 113 0 0 := mk_fld Tryz.underlying113 rfl (inf71).pos rfl
instance inf114 : Inf Tryz.prog 114 1 24 (.agg #[(.slice none 0 0)]) := ⟨by kernel_rfl⟩
instance : Agg Tryz.prog 114 true := ⟨fun w => by simp [isAgg, run_underlying Tryz.underlying114]⟩
instance : Plc Tryz.prog 114 [(0, 1)] := ⟨fun w => ⟨_, Tryz.underlying114, run_places w _ _ (by kernel_rfl)⟩⟩
instance : Fld Tryz.prog 114 0 0 := mk_fld Tryz.underlying114 rfl (inf113).pos rfl
instance inf115 : Inf Tryz.prog 115 1 24 (.agg #[(.slice none 0 0)]) := ⟨by kernel_rfl⟩
instance : Agg Tryz.prog 115 true := ⟨fun w => by simp [isAgg, run_underlying Tryz.underlying115]⟩
instance : Plc Tryz.prog 115 [(0, 1)] := ⟨fun w => ⟨_, Tryz.underlying115, run_places w _ _ (by kernel_rfl)⟩⟩
instance : Fld Tryz.prog 115 0 0 := mk_fld Tryz.underlying115 rfl (inf113).pos rfl
instance : Und Tryz.prog 124 (.int .u64) := ⟨by kernel_rfl⟩
instance inf124 : Inf Tryz.prog 124 1 8 (.int .u64 0) := ⟨by kernel_rfl⟩
instance : Agg Tryz.prog 124 false := ⟨fun w => by simp [isAgg, run_underlying Tryz.underlying124]⟩
instance : Und Tryz.prog 127 (.pointer 184) := ⟨by kernel_rfl⟩
instance inf127 : Inf Tryz.prog 127 1 8 (.pointer none) := ⟨by kernel_rfl⟩
instance : Agg Tryz.prog 127 false := ⟨fun w => by simp [isAgg, run_underlying Tryz.underlying127]⟩
instance inf128 : Inf Tryz.prog 128 1 8 (.agg #[(.pointer none)]) := ⟨by kernel_rfl⟩
instance : Agg Tryz.prog 128 true := ⟨fun w => by simp [isAgg, run_underlying Tryz.underlying128]⟩
instance : Plc Tryz.prog 128 [(0, 1)] := ⟨fun w => ⟨_, Tryz.underlying128, run_places w _ _ (by kernel_rfl)⟩⟩
instance : Fld Tryz.prog 128 0 0 := mk_fld Tryz.underlying128 rfl (inf127).pos rfl
instance inf129 : Inf Tryz.prog 129 1 8 (.agg #[(.pointer none)]) := ⟨by kernel_rfl⟩
instance : Agg Tryz.prog 129 true := ⟨fun w => by simp [isAgg, run_underlying Tryz.underlying129]⟩
instance : Plc Tryz.prog 129 [(0, 1)] := ⟨fun w => ⟨_, Tryz.underlying129, run_places w _ _ (by kernel_rfl)⟩⟩
instance : Fld Tryz.prog 129 0 0 := mk_fld Tryz.underlying129 rfl (inf127).pos rfl
instance : Und Tryz.prog 138 (.map 140 3) := ⟨by kernel_rfl⟩
instance inf138 : Inf Tryz.prog 138 1 8 (.map none) := ⟨by kernel_rfl⟩
instance : Agg Tryz.prog 138 false := ⟨fun w => by simp [isAgg, run_underlying Tryz.underlying138]⟩
instance inf139 : Inf Tryz.prog 139 2 32 (.agg #[(.string ⟨#[]⟩), (.string ⟨#[]⟩)]) := ⟨by kernel_rfl⟩
instance : Agg Tryz.prog 139 true := ⟨fun w => by simp [isAgg, run_underlying Tryz.underlying139]⟩
instance : Plc Tryz.prog 139 [(0, 1), (1, 1)] := ⟨fun w => ⟨_, Tryz.underlying139, run_places w _ _ (by kernel_rfl)⟩⟩
instance : Fld Tryz.prog 139 0 0 := mk_fld Tryz.underlying139 rfl (inf9).pos rfl
instance : Fld Tryz.prog 139 1 1 := mk_fld Tryz.underlying139 rfl (inf9).pos rfl
instance inf140 : Inf Tryz.prog 140 2 32 (.agg #[(.string ⟨#[]⟩), (.string ⟨#[]⟩)]) := ⟨by kernel_rfl⟩
instance : Agg Tryz.prog 140 true := ⟨fun w => by simp [isAgg, run_underlying Tryz.underlying140]⟩
instance : Plc Tryz.prog 140 [(0, 1), (1, 1)] := ⟨fun w => ⟨_, Tryz.underlying140, run_places w _ _ (by kernel_rfl)⟩⟩
instance : Fld Tryz.prog 140 0 0 := mk_fld Tryz.underlying140 rfl (inf9).pos rfl
instance : Fld Tryz.prog 140 1 1 := mk_fld Tryz.underlying140 rfl (inf9).pos rfl
instance : Und Tryz.prog 142 (.pointer 50) := ⟨by kernel_rfl⟩
instance inf142 : Inf Tryz.prog 142 1 8 (.pointer none) := ⟨by kernel_rfl⟩
instance : Agg Tryz.prog 142 false := ⟨fun w => by simp [isAgg, run_underlying Tryz.underlying142]⟩
instance : Und Tryz.prog 151 (.pointer 201) := ⟨by kernel_rfl⟩
instance inf151 : Inf Tryz.prog 151 1 8 (.pointer none) := ⟨by kernel_rfl⟩
instance : Agg Tryz.prog 151 false := ⟨fun w => by simp [isAgg, run_underlying Tryz.underlying151]⟩
instance : Und Tryz.prog 154 (.pointer 160) := ⟨by kernel_rfl⟩
instance inf154 : Inf Tryz.prog 154 1 8 (.pointer none) := ⟨by kernel_rfl⟩
instance : Agg Tryz.prog 154 false := ⟨fun w => by simp [isAgg, run_underlying Tryz.underlying154]⟩
instance : Und Tryz.prog 158 (.slice 241) := ⟨by kernel_rfl⟩
instance inf158 : Inf Tryz.prog 158 1 24 (.slice none 0 0) := ⟨by kernel_rfl⟩
instance : Agg Tryz.prog 158 false := ⟨fun w => by simp [isAgg, run_underlying Tryz.underlying158]⟩
instance inf159 : Inf Tryz.prog 159 12 184 (.agg #[(.slice none 0 0), (.slice none 0 0), (.slice none 0 0), (.slice none 0 0), (.int .i64 0), (.int .i64 0), (.int .i64 0), (.bool false), (.string ⟨#[]⟩), (.slice none 0 0), (.int .i64 0), (.bool false)]) := ⟨by kernel_rfl⟩
instance : Agg Tryz.prog 159 true := ⟨fun w => by simp [isAgg, run_underlying Tryz.underlying159]⟩
instance : Plc Tryz.prog 159 [(0, 3), (3, 1), (4, 7), (11, 1)] := ⟨fun w => ⟨_, Tryz.underlying159, run_places w _ _ (by kernel_rfl)⟩⟩
instance : Fld Tryz.prog 159 0 0 := mk_fld Tryz.underlying159 rfl (inf27).pos rfl
instance : Fld Tryz.prog 159 1 3 := mk_fld Tryz.underlying159 rfl (inf158).pos rfl
instance : Fld Tryz.prog 159 2 4 := mk_fld Tryz.underlying159 rfl (inf65).pos rfl
instance : Fld Tryz.prog 159 3 11 := mk_fld Tryz.underlying159 rfl (inf4).pos rfl
instance inf160 : Inf Tryz.prog 160 12 184 (.agg #[(.slice none 0 0), (.slice none 0 0), (.slice none 0 0), (.slice none 0 0), (.int .i64 0), (.int .i64 0), (.int .i64 0), (.bool false), (.string ⟨#[]⟩), (.slice none 0 0), (.int .i64 0), (.bool false)]) := ⟨by kernel_rfl⟩
instance : Agg Tryz.prog 160 true := ⟨fun w => by simp [isAgg, run_underlying Tryz.underlying160]⟩
instance : Plc Tryz.prog 160 [(0, 3), (3, 1), (4, 7), (11, 1)] := ⟨fun w => ⟨_, Tryz.underlying160, run_places w _ _ (by kernel_rfl)⟩⟩
instance : Fld Tryz.prog 160 0 0 := mk_fld Tryz.underlying160 rfl (inf27).pos rfl
instance : Fld Tryz.prog 160 1 3 := mk_fld Tryz.underlying160 rfl (inf158).pos rfl
instance : Fld Tryz.prog 160 2 4 := mk_fld Tryz.underlying160 rfl (inf65).pos rfl
instance : Fld Tryz.prog 160 3 11 := mk_fld Tryz.underlying160 rfl (inf4).pos rfl
instance inf161 : Inf Tryz.prog 161 3 72 (.agg #[(.slice none 0 0), (.slice none 0 0), (.slice none 0 0)]) := ⟨by kernel_rfl⟩
instance : Agg Tryz.prog 161 true := ⟨fun w => by simp [isAgg, run_underlying Tryz.underlying161]⟩
instance : Plc Tryz.prog 161 [(0, 1), (1, 1), (2, 1)] := ⟨fun w => ⟨_, Tryz.underlying161, run_places w _ _ (by kernel_rfl)⟩⟩
instance : Fld Tryz.prog 161 0 0 := mk_fld Tryz.underlying161 rfl (inf23).pos rfl
instance : Fld Tryz.prog 161 1 1 := mk_fld Tryz.underlying161 rfl (inf31).pos rfl
instance : Fld Tryz.prog 161 2 2 := mk_fld Tryz.underlying161 rfl (inf24).pos rfl
instance inf162 : Inf Tryz.prog 162 3 72 (.agg #[(.slice none 0 0), (.slice none 0 0), (.slice none 0 0)]) := ⟨by kernel_rfl⟩
instance : Agg Tryz.prog 162 true := ⟨fun w => by simp [isAgg, run_underlying Tryz.underlying162]⟩
instance : Plc Tryz.prog 162 [(0, 1), (1, 1), (2, 1)] := ⟨fun w => ⟨_, Tryz.underlying162, run_places w _ _ (by kernel_rfl)⟩⟩
instance : Fld Tryz.prog 162 0 0 := mk_fld Tryz.underlying162 rfl (inf23).pos rfl
instance : Fld Tryz.prog 162 1 1 := mk_fld Tryz.underlying162 rfl (inf31).pos rfl
instance : Fld Tryz.prog 162 2 2 := mk_fld Tryz.underlying162 rfl (inf24).pos rfl
instance : Und Tryz.prog 167 (.map 54 3) := ⟨by kernel_rfl⟩
instance inf167 : Inf Tryz.prog 167 1 8 (.map none) := ⟨by kernel_rfl⟩
instance : Agg Tryz.prog 167 false := ⟨fun w => by simp [isAgg, run_underlying Tryz.underlying167]⟩
instance : Und Tryz.prog 168 (.pointer 113) := ⟨by kernel_rfl⟩
instance inf168 : Inf Tryz.prog 168 1 8 (.pointer none) := ⟨by kernel_rfl⟩
instance : Agg Tryz.prog 168 false := ⟨fun w => by simp [isAgg, run_underlying Tryz.underlying168]⟩
instance inf181 : Inf Tryz.prog 181 3 40 (.agg #[(.slice none 0 0), (.int .i64 0), (.bool false)]) := ⟨by kernel_rfl⟩
instance : Agg Tryz.prog 181 true := ⟨fun w => by simp [isAgg, run_underlying Tryz.underlying181]⟩
instance : Plc Tryz.prog 181 [(0, 1), (1, 1), (2, 1)] := ⟨fun w => ⟨_, Tryz.underlying181, run_places w _ _ (by kernel_rfl)⟩⟩
instance : Fld Tryz.prog 181 0 0 := mk_fld Tryz.underlying181 rfl (inf71).pos rfl
instance : Fld Tryz.prog 181 1 1 := mk_fld Tryz.underlying181 rfl (inf3).pos rfl
instance : Fld Tryz.prog 181 2 2 := mk_fld Tryz.underlying181 rfl (inf4).pos rfl
instance inf182 : Inf Tryz.prog 182 3 40 (.agg #[(.slice none 0 0), (.int .i64 0), (.bool false)]) := ⟨by kernel_rfl⟩
instance : Agg Tryz.prog 182 true := ⟨fun w => by simp [isAgg, run_underlying Tryz.underlying182]⟩
instance : Plc Tryz.prog 182 [(0, 1), (1, 1), (2, 1)] := ⟨fun w => ⟨_, Tryz.underlying182, run_places w _ _ (by kernel_rfl)⟩⟩
instance : Fld Tryz.prog 182 0 0 := mk_fld Tryz.underlying182 rfl (inf71).pos rfl
instance : Fld Tryz.prog 182 1 1 := mk_fld Tryz.underlying182 rfl (inf3).pos rfl
instance : Fld Tryz.prog 182 2 2 := mk_fld Tryz.underlying182 rfl (inf4).pos rfl
instance inf183 : Inf Tryz.prog 183 5 56 (.agg #[(.slice none 0 0), (.int .i64 0), (.bool false), (.int .i64 0), (.int .i64 0)]) := ⟨by kernel_rfl⟩
instance : Agg Tryz.prog 183 true := ⟨fun w => by simp [isAgg, run_underlying Tryz.underlying183]⟩
instance : Plc Tryz.prog 183 [(0, 3), (3, 2)] := ⟨fun w => ⟨_, Tryz.underlying183, run_places w _ _ (by kernel_rfl)⟩⟩
instance : Fld Tryz.prog 183 0 0 := mk_fld Tryz.underlying183 rfl (inf182).pos rfl
instance : Fld Tryz.prog 183 1 3 := mk_fld Tryz.underlying183 rfl (inf77).pos rfl
instance inf184 : Inf Tryz.prog 184 5 56 (.agg #[(.slice none 0 0), (.int .i64 0), (.bool false), (.int .i64 0), (.int .i64 0)]) := ⟨by kernel_rfl⟩
instance : Agg Tryz.prog 184 true := ⟨fun w => by simp [isAgg, run_underlying Tryz.underlying184]⟩
instance : Plc Tryz.prog 184 [(0, 3), (3, 2)] := ⟨fun w => ⟨_, Tryz.underlying184, run_places w _ _ (by kernel_rfl)⟩⟩
instance : Fld Tryz.prog 184 0 0 := mk_fld Tryz.underlying184 rfl (inf182).pos rfl
instance : Fld Tryz.prog 184 1 3 := mk_fld Tryz.underlying184 rfl (inf77).pos rfl
instance : Und Tryz.prog 196 (.int .i64) := ⟨by kernel_rfl⟩
instance inf196 : Inf Tryz.prog 196 1 8 (.int .i64 0) := ⟨by kernel_rfl⟩
instance : Agg Tryz.prog 196 false := ⟨fun w => by simp [isAgg, run_underlying Tryz.underlying196]⟩
instance : Und Tryz.prog 199 (.slice 203) := ⟨by kernel_rfl⟩
instance inf199 : Inf Tryz.prog 199 1 24 (.slice none 0 0) := ⟨by kernel_rfl⟩
instance : Agg Tryz.prog 199 false := ⟨fun w => by simp [isAgg, run_underlying Tryz.underlying199]⟩
instance inf200 : Inf Tryz.prog 200 8 120 (.agg #[(.pointer none), (.string ⟨#[]⟩), (.bool false), (.slice none 0 0), (.int .i64 0), (.int .i64 0), (.slice none 0 0), (.slice none 0 0)]) := ⟨by kernel_rfl⟩
instance : Agg Tryz.prog 200 true := ⟨fun w => by simp [isAgg, run_underlying Tryz.underlying200]⟩
instance : Plc Tryz.prog 200 [(0, 1), (1, 6), (7, 1)] := ⟨fun w => ⟨_, Tryz.underlying200, run_places w _ _ (by kernel_rfl)⟩⟩
instance : Fld Tryz.prog 200 0 0 := mk_fld Tryz.underlying200 rfl (inf95).pos rfl
instance : Fld Tryz.prog 200 1 1 := mk_fld Tryz.underlying200 rfl (inf47).pos rfl
instance : Fld Tryz.prog 200 2 7 := mk_fld Tryz.underlying200 rfl (inf199).pos rfl
instance inf201 : Inf Tryz.prog 201 8 120 (.agg #[(.pointer none), (.string ⟨#[]⟩), (.bool false), (.slice none 0 0), (.int .i64 0), (.int .i64 0), (.slice none 0 0), (.slice none 0 0)]) := ⟨by kernel_rfl⟩
instance : Agg Tryz.prog 201 true := ⟨fun w => by simp [isAgg, run_underlying Tryz.underlying201]⟩
instance : Plc Tryz.prog 201 [(0, 1), (1, 6), (7, 1)] := ⟨fun w => ⟨_, Tryz.underlying201, run_places w _ _ (by kernel_rfl)⟩⟩
instance : Fld Tryz.prog 201 0 0 := mk_fld Tryz.underlying201 rfl (inf95).pos rfl
instance : Fld Tryz.prog 201 1 1 := mk_fld Tryz.underlying201 rfl (inf47).pos rfl
instance : Fld Tryz.prog 201 2 7 := mk_fld Tryz.underlying201 rfl (inf199).pos rfl
instance inf202 : Inf Tryz.prog 202 4 56 (.agg #[(.bool false), (.bool false), (.slice none 0 0), (.slice none 0 0)]) := ⟨by kernel_rfl⟩
instance : Agg Tryz.prog 202 true := ⟨fun w => by simp [isAgg, run_underlying Tryz.underlying202]⟩
instance : Plc Tryz.prog 202 [(0, 1), (1, 1), (2, 1), (3, 1)] := ⟨fun w => ⟨_, Tryz.underlying202, run_places w _ _ (by kernel_rfl)⟩⟩
instance : Fld Tryz.prog 202 0 0 := mk_fld Tryz.underlying202 rfl (inf4).pos rfl
instance : Fld Tryz.prog 202 1 1 := mk_fld Tryz.underlying202 rfl (inf4).pos rfl
instance : Fld Tryz.prog 202 2 2 := mk_fld Tryz.underlying202 rfl (inf43).pos rfl
instance : Fld Tryz.prog 202 3 3 := mk_fld Tryz.underlying202 rfl (inf43).pos rfl
instance inf203 : Inf Tryz.prog 203 4 56 (.agg #[(.bool false), (.bool false), (.slice none 0 0), (.slice none 0 0)]) := ⟨by kernel_rfl⟩
instance : Agg Tryz.prog 203 true := ⟨fun w => by simp [isAgg, run_underlying Tryz.underlying203]⟩
instance : Plc Tryz.prog 203 [(0, 1), (1, 1), (2, 1), (3, 1)] := ⟨fun w => ⟨_, Tryz.underlying203, run_places w _ _ (by kernel_rfl)⟩⟩
instance : Fld Tryz.prog 203 0 0 := mk_fld Tryz.underlying203 rfl (inf4).pos rfl
instance : Fld Tryz.prog 203 1 1 := mk_fld Tryz.underlying203 rfl (inf4).pos rfl
instance : Fld Tryz.prog 203 2 2 := mk_fld Tryz.underlying203 rfl (inf43).pos rfl
instance : Fld Tryz.prog 203 3 3 := mk_fld Tryz.underlying203 rfl (inf43).pos rfl
instance : Und Tryz.prog 204 (.map 3 3) := ⟨by kernel_rfl⟩
instance inf204 : Inf Tryz.prog 204 1 8 (.map none) := ⟨by kernel_rfl⟩
instance : Agg Tryz.prog 204 false := ⟨fun w => by simp [isAgg, run_underlying Tryz.underlying204]⟩
instance : Und Tryz.prog 206 (.slice 3) := ⟨by kernel_rfl⟩
instance inf206 : Inf Tryz.prog 206 1 24 (.slice none 0 0) := ⟨by kernel_rfl⟩
instance : Agg Tryz.prog 206 false := ⟨fun w => by simp [isAgg, run_underlying Tryz.underlying206]⟩
instance : Und Tryz.prog 216 (.slice 220) := ⟨by kernel_rfl⟩
instance inf216 : Inf Tryz.prog 216 1 24 (.slice none 0 0) := ⟨by kernel_rfl⟩
instance : Agg Tryz.prog 216 false := ⟨fun w => by simp [isAgg, run_underlying Tryz.underlying216]⟩
instance inf219 : Inf Tryz.prog 219 4 64 (.agg #[(.bool false), (.slice none 0 0), (.bool false), (.slice none 0 0)]) := ⟨by kernel_rfl⟩
instance : Agg Tryz.prog 219 true := ⟨fun w => by simp [isAgg, run_underlying Tryz.underlying219]⟩
instance : Plc Tryz.prog 219 [(0, 1), (1, 1), (2, 1), (3, 1)] := ⟨fun w => ⟨_, Tryz.underlying219, run_places w _ _ (by kernel_rfl)⟩⟩
instance : Fld Tryz.prog 219 0 0 := mk_fld Tryz.underlying219 rfl (inf4).pos rfl
instance : Fld Tryz.prog 219 1 1 := mk_fld Tryz.underlying219 rfl (inf43).pos rfl
instance : Fld Tryz.prog 219 2 2 := mk_fld Tryz.underlying219 rfl (inf4).pos rfl
instance : Fld Tryz.prog 219 3 3 := mk_fld Tryz.underlying219 rfl (inf43).pos rfl
instance inf220 : Inf Tryz.prog 220 4 64 (.agg #[(.bool false), (.slice none 0 0), (.bool false), (.slice none 0 0)]) := ⟨by kernel_rfl⟩
instance : Agg Tryz.prog 220 true := ⟨fun w => by simp [isAgg, run_underlying Tryz.underlying220]⟩
instance : Plc Tryz.prog 220 [(0, 1), (1, 1), (2, 1), (3, 1)] := ⟨fun w => ⟨_, Tryz.underlying220, run_places w _ _ (by kernel_rfl)⟩⟩
instance : Fld Tryz.prog 220 0 0 := mk_fld Tryz.underlying220 rfl (inf4).pos rfl
instance : Fld Tryz.prog 220 1 1 := mk_fld Tryz.underlying220 rfl (inf43).pos rfl
instance : Fld Tryz.prog 220 2 2 := mk_fld Tryz.underlying220 rfl (inf4).pos rfl
instance : Fld Tryz.prog 220 3 3 := mk_fld Tryz.underlying220 rfl (inf43).pos rfl
instance : Und Tryz.prog 221 (.slice 9) := ⟨by kernel_rfl⟩
instance inf221 : Inf Tryz.prog 221 1 24 (.slice none 0 0) := ⟨by kernel_rfl⟩
instance : Agg Tryz.prog 221 false := ⟨fun w => by simp [isAgg, run_underlying Tryz.underlying221]⟩
instance : Und Tryz.prog 224 (.int .u64) := ⟨by kernel_rfl⟩
instance inf224 : Inf Tryz.prog 224 1 8 (.int .u64 0) := ⟨by kernel_rfl⟩
instance : Agg Tryz.prog 224 false := ⟨fun w => by simp [isAgg, run_underlying Tryz.underlying224]⟩
instance inf225 : Inf Tryz.prog 225 4 40 (.agg #[(.string ⟨#[]⟩), (.bool false), (.int .i64 0), (.int .i64 0)]) := ⟨by kernel_rfl⟩
instance : Agg Tryz.prog 225 true := ⟨fun w => by simp [isAgg, run_underlying Tryz.underlying225]⟩
instance : Plc Tryz.prog 225 [(0, 1), (1, 1), (2, 1), (3, 1)] := ⟨fun w => ⟨_, Tryz.underlying225, run_places w _ _ (by kernel_rfl)⟩⟩
instance : Fld Tryz.prog 225 0 0 := mk_fld Tryz.underlying225 rfl (inf9).pos rfl
instance : Fld Tryz.prog 225 1 1 := mk_fld Tryz.underlying225 rfl (inf4).pos rfl
instance : Fld Tryz.prog 225 2 2 := mk_fld Tryz.underlying225 rfl (inf3).pos rfl
instance : Fld Tryz.prog 225 3 3 := mk_fld Tryz.underlying225 rfl (inf3).pos rfl
instance inf226 : Inf Tryz.prog 226 4 40 (.agg #[(.string ⟨#[]⟩), (.bool false), (.int .i64 0), (.int .i64 0)]) := ⟨by kernel_rfl⟩
instance : Agg Tryz.prog 226 true := ⟨fun w => by simp [isAgg, run_underlying Tryz.underlying226]⟩
instance : Plc Tryz.prog 226 [(0, 1), (1, 1), (2, 1), (3, 1)] := ⟨fun w => ⟨_, Tryz.underlying226, run_places w _ _ (by kernel_rfl)⟩⟩
instance : Fld Tryz.prog 226 0 0 := mk_fld Tryz.underlying226 rfl (inf9).pos rfl
instance : Fld Tryz.prog 226 1 1 := mk_fld Tryz.underlying226 rfl (inf4).pos rfl
instance : Fld Tryz.prog 226 2 2 := mk_fld Tryz.underlying226 rfl (inf3).pos rfl
instance : Fld Tryz.prog 226 3 3 := mk_fld Tryz.underlying226 rfl (inf3).pos rfl
instance : Und Tryz.prog 231 (.pointer 182) := ⟨by kernel_rfl⟩
instance inf231 : Inf Tryz.prog 231 1 8 (.pointer none) := ⟨by kernel_rfl⟩
instance : Agg Tryz.prog 231 false := ⟨fun w => by simp [isAgg, run_underlying Tryz.underlying231]⟩
instance : Und Tryz.prog 241 (.pointer 245) := ⟨by kernel_rfl⟩
instance inf241 : Inf Tryz.prog 241 1 8 (.pointer none) := ⟨by kernel_rfl⟩
instance : Agg Tryz.prog 241 false := ⟨fun w => by simp [isAgg, run_underlying Tryz.underlying241]⟩
instance inf242 : Inf Tryz.prog 242 1 24 (.agg #[(.slice none 0 0)]) := ⟨by kernel_rfl⟩
instance : Agg Tryz.prog 242 true := ⟨fun w => by simp [isAgg, run_underlying Tryz.underlying242]⟩
instance : Plc Tryz.prog 242 [(0, 1)] := ⟨fun w => ⟨_, Tryz.underlying242, run_places w _ _ (by kernel_rfl)⟩⟩
instance : Fld Tryz.prog 242 0 0 := mk_fld Tryz.underlying242 rfl (inf23).pos rfl
instance inf243 : Inf Tryz.prog 243 1 24 (.agg #[(.slice none 0 0)]) := ⟨by kernel_rfl⟩
instance : Agg Tryz.prog 243 true := ⟨fun w => by simp [isAgg, run_underlying Tryz.underlying243]⟩
instance : Plc Tryz.prog 243 [(0, 1)] := ⟨fun w => ⟨_, Tryz.underlying243, run_places w _ _ (by kernel_rfl)⟩⟩
instance : Fld Tryz.prog 243 0 0 := mk_fld Tryz.underlying243 rfl (inf23).pos rfl
instance inf244 : Inf Tryz.prog 244 4 64 (.agg #[(.slice none 0 0), (.int .i64 0), (.int .i64 0), (.slice none 0 0)]) := ⟨by kernel_rfl⟩
instance : Agg Tryz.prog 244 true := ⟨fun w => by simp [isAgg, run_underlying Tryz.underlying244]⟩
instance : Plc Tryz.prog 244 [(0, 1), (1, 1), (2, 1), (3, 1)] := ⟨fun w => ⟨_, Tryz.underlying244, run_places w _ _ (by kernel_rfl)⟩⟩
instance : Fld Tryz.prog 244 0 0 := mk_fld Tryz.underlying244 rfl (inf243).pos rfl
instance : Fld Tryz.prog 244 1 1 := mk_fld Tryz.underlying244 rfl (inf3).pos rfl
instance : Fld Tryz.prog 244 2 2 := mk_fld Tryz.underlying244 rfl (inf3).pos rfl
instance : Fld Tryz.prog 244 3 3 := mk_fld Tryz.underlying244 rfl (inf23).pos rfl
instance inf245 : Inf Tryz.prog 245 4 64 (.agg #[(.slice none 0 0), (.int .i64 0), (.int .i64 0), (.slice none 0 0)]) := ⟨by kernel_rfl⟩
instance : Agg Tryz.prog 245 true := ⟨fun w => by simp [isAgg, run_underlying Tryz.underlying245]⟩
instance : Plc Tryz.prog 245 [(0, 1), (1, 1), (2, 1), (3, 1)] := ⟨fun w => ⟨_, Tryz.underlying245, run_places w _ _ (by kernel_rfl)⟩⟩
instance : Fld Tryz.prog 245 0 0 := mk_fld Tryz.underlying245 rfl (inf243).pos rfl
instance : Fld Tryz.prog 245 1 1 := mk_fld Tryz.underlying245 rfl (inf3).pos rfl
instance : Fld Tryz.prog 245 2 2 := mk_fld Tryz.underlying245 rfl (inf3).pos rfl
instance : Fld Tryz.prog 245 3 3 := mk_fld Tryz.underlying245 rfl (inf23).pos rfl
instance inf248 : Inf Tryz.prog 248 5 72 (.agg #[(.pointer none), (.slice none 0 0), (.int .i64 0), (.int .i64 0), (.slice none 0 0)]) := ⟨by kernel_rfl⟩
instance : Agg Tryz.prog 248 true := ⟨fun w => by simp [isAgg, run_underlying Tryz.underlying248]⟩
instance : Plc Tryz.prog 248 [(0, 1), (1, 4)] := ⟨fun w => ⟨_, Tryz.underlying248, run_places w _ _ (by kernel_rfl)⟩⟩
instance : Fld Tryz.prog 248 0 0 := mk_fld Tryz.underlying248 rfl (inf241).pos rfl
instance : Fld Tryz.prog 248 1 1 := mk_fld Tryz.underlying248 rfl (inf245).pos rfl
instance inf249 : Inf Tryz.prog 249 5 72 (.agg #[(.pointer none), (.slice none 0 0), (.int .i64 0), (.int .i64 0), (.slice none 0 0)]) := ⟨by kernel_rfl⟩
instance : Agg Tryz.prog 249 true := ⟨fun w => by simp [isAgg, run_underlying Tryz.underlying249]⟩
instance : Plc Tryz.prog 249 [(0, 1), (1, 4)] := ⟨fun w => ⟨_, Tryz.underlying249, run_places w _ _ (by kernel_rfl)⟩⟩
instance : Fld Tryz.prog 249 0 0 := mk_fld Tryz.underlying249 rfl (inf241).pos rfl
instance : Fld Tryz.prog 249 1 1 := mk_fld Tryz.underlying249 rfl (inf245).pos rfl
instance inf250 : Inf Tryz.prog 250 1 8 (.agg #[(.int .i64 0)]) := ⟨by kernel_rfl⟩
instance : Agg Tryz.prog 250 true := ⟨fun w => by simp [isAgg, run_underlying Tryz.underlying250]⟩
instance : Plc Tryz.prog 250 [(0, 1)] := ⟨fun w => ⟨_, Tryz.underlying250, run_places w _ _ (by kernel_rfl)⟩⟩
instance : Fld Tryz.prog 250 0 0 := mk_fld Tryz.underlying250 rfl (inf3).pos rfl
instance inf251 : Inf Tryz.prog 251 1 8 (.agg #[(.int .i64 0)]) := ⟨by kernel_rfl⟩
instance : Agg Tryz.prog 251 true := ⟨fun w => by simp [isAgg, run_underlying Tryz.underlying251]⟩
instance : Plc Tryz.prog 251 [(0, 1)] := ⟨fun w => ⟨_, Tryz.underlying251, run_places w _ _ (by kernel_rfl)⟩⟩
instance : Fld Tryz.prog 251 0 0 := mk_fld Tryz.underlying251 rfl (inf3).pos rfl
instance : Und Tryz.prog 259 (.slice 4) := ⟨by kernel_rfl⟩
instance inf259 : Inf Tryz.prog 259 1 24 (.slice none 0 0) := ⟨by kernel_rfl⟩
instance : Agg Tryz.prog 259 false := ⟨fun w => by simp [isAgg, run_underlying Tryz.underlying259]⟩
instance inf265 : Inf Tryz.prog 265 108 1080 (.agg #[(.string ⟨#[]⟩), (.bool false), (.int .i64 0), (.int .i64 0), (.string ⟨#[]⟩), (.bool false), (.int .i64 0), (.int .i64 0), (.string ⟨#[]⟩), (.bool false), (.int .i64 0), (.int .i64 0), (.string ⟨#[]⟩), (.bool false), (.int .i64 0), (.int .i64 0), (.string ⟨#[]⟩), (.bool false), (.int .i64 0), (.int .i64 0), (.string ⟨#[]⟩), (.bool false), (.int .i64 0), (.int .i64 0), (.string ⟨#[]⟩), (.bool false), (.int .i64 0), (.int .i64 0), (.string ⟨#[]⟩), (.bool false), (.int .i64 0), (.int .i64 0), (.string ⟨#[]⟩), (.bool false), (.int .i64 0), (.int .i64 0), (.string ⟨#[]⟩), (.bool false), (.int .i64 0), (.int .i64 0), (.string ⟨#[]⟩), (.bool false), (.int .i64 0), (.int .i64 0), (.string ⟨#[]⟩), (.bool false), (.int .i64 0), (.int .i64 0), (.string ⟨#[]⟩), (.bool false), (.int .i64 0), (.int .i64 0), (.string ⟨#[]⟩), (.bool false), (.int .i64 0), (.int .i64 0), (.string ⟨#[]⟩), (.bool false), (.int .i64 0), (.int .i64 0), (.string ⟨#[]⟩), (.bool false), (.int .i64 0), (.int .i64 0), (.string ⟨#[]⟩), (.bool false), (.int .i64 0), (.int .i64 0), (.string ⟨#[]⟩), (.bool false), (.int .i64 0), (.int .i64 0), (.string ⟨#[]⟩), (.bool false), (.int .i64 0), (.int .i64 0), (.string ⟨#[]⟩), (.bool false), (.int .i64 0), (.int .i64 0), (.string ⟨#[]⟩), (.bool false), (.int .i64 0), (.int .i64 0), (.string ⟨#[]⟩), (.bool false), (.int .i64 0), (.int .i64 0), (.string ⟨#[]⟩), (.bool false), (.int .i64 0), (.int .i64 0), (.string ⟨#[]⟩), (.bool false), (.int .i64 0), (.int .i64 0), (.string ⟨#[]⟩), (.bool false), (.int .i64 0), (.int .i64 0), (.string ⟨#[]⟩), (.bool false), (.int .i64 0), (.int .i64 0), (.string ⟨#[]⟩), (.bool false), (.int .i64 0), (.int .i64 0)]) := ⟨by kernel_rfl⟩
instance : Agg Tryz.prog 265 true := ⟨fun w => by simp [isAgg, run_underlying Tryz.underlying265]⟩
instance inf283 : Inf Tryz.prog 283 16 256 (.agg #[(.string ⟨#[]⟩), (.string ⟨#[]⟩), (.string ⟨#[]⟩), (.string ⟨#[]⟩), (.string ⟨#[]⟩), (.string ⟨#[]⟩), (.string ⟨#[]⟩), (.string ⟨#[]⟩), (.string ⟨#[]⟩), (.string ⟨#[]⟩), (.string ⟨#[]⟩), (.string ⟨#[]⟩), (.string ⟨#[]⟩), (.string ⟨#[]⟩), (.string ⟨#[]⟩), (.string ⟨#[]⟩)]) := ⟨by kernel_rfl⟩
instance : Agg Tryz.prog 283 true := ⟨fun w => by simp [isAgg, run_underlying Tryz.underlying283]⟩
instance inf291 : Inf Tryz.prog 291 7 112 (.agg #[(.string ⟨#[]⟩), (.string ⟨#[]⟩), (.string ⟨#[]⟩), (.string ⟨#[]⟩), (.string ⟨#[]⟩), (.string ⟨#[]⟩), (.string ⟨#[]⟩)]) := ⟨by kernel_rfl⟩
instance : Agg Tryz.prog 291 true := ⟨fun w => by simp [isAgg, run_underlying Tryz.underlying291]⟩
instance : Und Tryz.prog 304 (.pointer 243) := ⟨by kernel_rfl⟩
instance inf304 : Inf Tryz.prog 304 1 8 (.pointer none) := ⟨by kernel_rfl⟩
instance : Agg Tryz.prog 304 false := ⟨fun w => by simp [isAgg, run_underlying Tryz.underlying304]⟩
instance : Und Tryz.prog 309 (.int .i64) := ⟨by kernel_rfl⟩
instance inf309 : Inf Tryz.prog 309 1 8 (.int .i64 0) := ⟨by kernel_rfl⟩
instance : Agg Tryz.prog 309 false := ⟨fun w => by simp [isAgg, run_underlying Tryz.underlying309]⟩
instance : Und Tryz.prog 312 (.pointer 324) := ⟨by kernel_rfl⟩
instance inf312 : Inf Tryz.prog 312 1 8 (.pointer none) := ⟨by kernel_rfl⟩
instance : Agg Tryz.prog 312 false := ⟨fun w => by simp [isAgg, run_underlying Tryz.underlying312]⟩
instance inf315 : Inf Tryz.prog 315 24 24 (.agg #[(.int .u8 0), (.int .u8 0), (.int .u8 0), (.int .u8 0), (.int .u8 0), (.int .u8 0), (.int .u8 0), (.int .u8 0), (.int .u8 0), (.int .u8 0), (.int .u8 0), (.int .u8 0), (.int .u8 0), (.int .u8 0), (.int .u8 0), (.int .u8 0), (.int .u8 0), (.int .u8 0), (.int .u8 0), (.int .u8 0), (.int .u8 0), (.int .u8 0), (.int .u8 0), (.int .u8 0)]) := ⟨by kernel_rfl⟩
instance : Agg Tryz.prog 315 true := ⟨fun w => by simp [isAgg, run_underlying Tryz.underlying315]⟩
instance inf323 : Inf Tryz.prog 323 3 48 (.agg #[(.string ⟨#[]⟩), (.string ⟨#[]⟩), .nilIface]) := ⟨by kernel_rfl⟩
instance : Agg Tryz.prog 323 true := ⟨fun w => by simp [isAgg, run_underlying Tryz.underlying323]⟩
instance : Plc Tryz.prog 323 [(0, 1), (1, 1), (2, 1)] := ⟨fun w => ⟨_, Tryz.underlying323, run_places w _ _ (by kernel_rfl)⟩⟩
instance : Fld Tryz.prog 323 0 0 := mk_fld Tryz.underlying323 rfl (inf9).pos rfl
instance : Fld Tryz.prog 323 1 1 := mk_fld Tryz.underlying323 rfl (inf9).pos rfl
instance inf324 : Inf Tryz.prog 324 3 48 (.agg #[(.string ⟨#[]⟩), (.string ⟨#[]⟩), .nilIface]) := ⟨by kernel_rfl⟩
instance : Agg Tryz.prog 324 true := ⟨fun w => by simp [isAgg, run_underlying Tryz.underlying324]⟩
instance : Plc Tryz.prog 324 [(0, 1), (1, 1), (2, 1)] := ⟨fun w => ⟨_, Tryz.underlying324, run_places w _ _ (by kernel_rfl)⟩⟩
instance : Fld Tryz.prog 324 0 0 := mk_fld Tryz.underlying324 rfl (inf9).pos rfl
instance : Fld Tryz.prog 324 1 1 := mk_fld Tryz.underlying324 rfl (inf9).pos rfl
instance inf327 : Inf Tryz.prog 327 20 160 (.agg #[(.int .u64 0), (.int .u64 0), (.int .u64 0), (.int .u64 0), (.int .u64 0), (.int .u64 0), (.int .u64 0), (.int .u64 0), (.int .u64 0), (.int .u64 0), (.int .u64 0), (.int .u64 0), (.int .u64 0), (.int .u64 0), (.int .u64 0), (.int .u64 0), (.int .u64 0), (.int .u64 0), (.int .u64 0), (.int .u64 0)]) := ⟨by kernel_rfl⟩
instance : Agg Tryz.prog 327 true := ⟨fun w => by simp [isAgg, run_underlying Tryz.underlying327]⟩
instance : Und Tryz.prog 328 (.int .u32) := ⟨by kernel_rfl⟩
instance inf328 : Inf Tryz.prog 328 1 4 (.int .u32 0) := ⟨by kernel_rfl⟩
instance : Agg Tryz.prog 328 false := ⟨fun w => by simp [isAgg, run_underlying Tryz.underlying328]⟩
instance inf329 : Inf Tryz.prog 329 65 65 (.agg #[(.int .u8 0), (.int .u8 0), (.int .u8 0), (.int .u8 0), (.int .u8 0), (.int .u8 0), (.int .u8 0), (.int .u8 0), (.int .u8 0), (.int .u8 0), (.int .u8 0), (.int .u8 0), (.int .u8 0), (.int .u8 0), (.int .u8 0), (.int .u8 0), (.int .u8 0), (.int .u8 0), (.int .u8 0), (.int .u8 0), (.int .u8 0), (.int .u8 0), (.int .u8 0), (.int .u8 0), (.int .u8 0), (.int .u8 0), (.int .u8 0), (.int .u8 0), (.int .u8 0), (.int .u8 0), (.int .u8 0), (.int .u8 0), (.int .u8 0), (.int .u8 0), (.int .u8 0), (.int .u8 0), (.int .u8 0), (.int .u8 0), (.int .u8 0), (.int .u8 0), (.int .u8 0), (.int .u8 0), (.int .u8 0), (.int .u8 0), (.int .u8 0), (.int .u8 0), (.int .u8 0), (.int .u8 0), (.int .u8 0), (.int .u8 0), (.int .u8 0), (.int .u8 0), (.int .u8 0), (.int .u8 0), (.int .u8 0), (.int .u8 0), (.int .u8 0), (.int .u8 0), (.int .u8 0), (.int .u8 0), (.int .u8 0), (.int .u8 0), (.int .u8 0), (.int .u8 0), (.int .u8 0)]) := ⟨by kernel_rfl⟩
instance : Agg Tryz.prog 329 true := ⟨fun w => by simp [isAgg, run_underlying Tryz.underlying329]⟩
instance inf333 : Inf Tryz.prog 333 2 2 (.agg #[(.int .u8 0), (.int .u8 0)]) := ⟨by kernel_rfl⟩
instance : Agg Tryz.prog 333 true := ⟨fun w => by simp [isAgg, run_underlying Tryz.underlying333]⟩
instance : Plc Tryz.prog 333 [(0, 1), (1, 1)] := ⟨fun w => ⟨_, Tryz.underlying333, run_places w _ _ (by kernel_rfl)⟩⟩
instance : Fld Tryz.prog 333 0 0 := mk_fld Tryz.underlying333 rfl (inf5).pos rfl
instance : Fld Tryz.prog 333 1 1 := mk_fld Tryz.underlying333 rfl (inf5).pos rfl
instance inf334 : Inf Tryz.prog 334 2 2 (.agg #[(.int .u8 0), (.int .u8 0)]) := ⟨by kernel_rfl⟩
instance : Agg Tryz.prog 334 true := ⟨fun w => by simp [isAgg, run_underlying Tryz.underlying334]⟩
instance : Plc Tryz.prog 334 [(0, 1), (1, 1)] := ⟨fun w => ⟨_, Tryz.underlying334, run_places w _ _ (by kernel_rfl)⟩⟩
instance : Fld Tryz.prog 334 0 0 := mk_fld Tryz.underlying334 rfl (inf5).pos rfl
instance : Fld Tryz.prog 334 1 1 := mk_fld Tryz.underlying334 rfl (inf5).pos rfl
instance inf335 : Inf Tryz.prog 335 32 32 (.agg #[(.int .u8 0), (.int .u8 0), (.int .u8 0), (.int .u8 0), (.int .u8 0), (.int .u8 0), (.int .u8 0), (.int .u8 0), (.int .u8 0), (.int .u8 0), (.int .u8 0), (.int .u8 0), (.int .u8 0), (.int .u8 0), (.int .u8 0), (.int .u8 0), (.int .u8 0), (.int .u8 0), (.int .u8 0), (.int .u8 0), (.int .u8 0), (.int .u8 0), (.int .u8 0), (.int .u8 0), (.int .u8 0), (.int .u8 0), (.int .u8 0), (.int .u8 0), (.int .u8 0), (.int .u8 0), (.int .u8 0), (.int .u8 0)]) := ⟨by kernel_rfl⟩
instance : Agg Tryz.prog 335 true := ⟨fun w => by simp [isAgg, run_underlying Tryz.underlying335]⟩
instance : Und Tryz.prog 338 (.pointer 5) := ⟨by kernel_rfl⟩
instance inf338 : Inf Tryz.prog 338 1 8 (.pointer none) := ⟨by kernel_rfl⟩
instance : Agg Tryz.prog 338 false := ⟨fun w => by simp [isAgg, run_underlying Tryz.underlying338]⟩
instance : Und Tryz.prog 339 (.pointer 341) := ⟨by kernel_rfl⟩
instance inf339 : Inf Tryz.prog 339 1 8 (.pointer none) := ⟨by kernel_rfl⟩
instance : Agg Tryz.prog 339 false := ⟨fun w => by simp [isAgg, run_underlying Tryz.underlying339]⟩
instance inf340 : Inf Tryz.prog 340 1 16 (.agg #[(.string ⟨#[]⟩)]) := ⟨by kernel_rfl⟩
instance : Agg Tryz.prog 340 true := ⟨fun w => by simp [isAgg, run_underlying Tryz.underlying340]⟩
instance : Plc Tryz.prog 340 [(0, 1)] := ⟨fun w => ⟨_, Tryz.underlying340, run_places w _ _ (by kernel_rfl)⟩⟩
instance : Fld Tryz.prog 340 0 0 := mk_fld Tryz.underlying340 rfl (inf9).pos rfl
instance inf341 : Inf Tryz.prog 341 1 16 (.agg #[(.string ⟨#[]⟩)]) := ⟨by kernel_rfl⟩
instance : Agg Tryz.prog 341 true := ⟨fun w => by simp [isAgg, run_underlying Tryz.underlying341]⟩
instance : Plc Tryz.prog 341 [(0, 1)] := ⟨fun w => ⟨_, Tryz.underlying341, run_places w _ _ (by kernel_rfl)⟩⟩
instance : Fld Tryz.prog 341 0 0 := mk_fld Tryz.underlying341 rfl (inf9).pos rfl
instance inf343 : Inf Tryz.prog 343 32 32 (.agg #[(.int .u8 0), (.int .u8 0), (.int .u8 0), (.int .u8 0), (.int .u8 0), (.int .u8 0), (.int .u8 0), (.int .u8 0), (.int .u8 0), (.int .u8 0), (.int .u8 0), (.int .u8 0), (.int .u8 0), (.int .u8 0), (.int .u8 0), (.int .u8 0), (.int .u8 0), (.int .u8 0), (.int .u8 0), (.int .u8 0), (.int .u8 0), (.int .u8 0), (.int .u8 0), (.int .u8 0), (.int .u8 0), (.int .u8 0), (.int .u8 0), (.int .u8 0), (.int .u8 0), (.int .u8 0), (.int .u8 0), (.int .u8 0)]) := ⟨by kernel_rfl⟩
instance : Agg Tryz.prog 343 true := ⟨fun w => by simp [isAgg, run_underlying Tryz.underlying343]⟩
instance inf344 : Inf Tryz.prog 344 64 64 (.agg #[(.int .u8 0), (.int .u8 0), (.int .u8 0), (.int .u8 0), (.int .u8 0), (.int .u8 0), (.int .u8 0), (.int .u8 0), (.int .u8 0), (.int .u8 0), (.int .u8 0), (.int .u8 0), (.int .u8 0), (.int .u8 0), (.int .u8 0), (.int .u8 0), (.int .u8 0), (.int .u8 0), (.int .u8 0), (.int .u8 0), (.int .u8 0), (.int .u8 0), (.int .u8 0), (.int .u8 0), (.int .u8 0), (.int .u8 0), (.int .u8 0), (.int .u8 0), (.int .u8 0), (.int .u8 0), (.int .u8 0), (.int .u8 0), (.int .u8 0), (.int .u8 0), (.int .u8 0), (.int .u8 0), (.int .u8 0), (.int .u8 0), (.int .u8 0), (.int .u8 0), (.int .u8 0), (.int .u8 0), (.int .u8 0), (.int .u8 0), (.int .u8 0), (.int .u8 0), (.int .u8 0), (.int .u8 0), (.int .u8 0), (.int .u8 0), (.int .u8 0), (.int .u8 0), (.int .u8 0), (.int .u8 0), (.int .u8 0), (.int .u8 0), (.int .u8 0), (.int .u8 0), (.int .u8 0), (.int .u8 0), (.int .u8 0), (.int .u8 0), (.int .u8 0), (.int .u8 0)]) := ⟨by kernel_rfl⟩
instance : Agg Tryz.prog 344 true := ⟨fun w => by simp [isAgg, run_underlying Tryz.underlying344]⟩
instance inf346 : Inf Tryz.prog 346 4 40 (.agg #[(.pointer none), (.pointer none), (.pointer none), (.string ⟨#[]⟩)]) := ⟨by kernel_rfl⟩
instance : Agg Tryz.prog 346 true := ⟨fun w => by simp [isAgg, run_underlying Tryz.underlying346]⟩
instance : Plc Tryz.prog 346 [(0, 1), (1, 1), (2, 1), (3, 1)] := ⟨fun w => ⟨_, Tryz.underlying346, run_places w _ _ (by kernel_rfl)⟩⟩
instance : Fld Tryz.prog 346 0 0 := mk_fld Tryz.underlying346 rfl (inf17).pos rfl
instance : Fld Tryz.prog 346 1 1 := mk_fld Tryz.underlying346 rfl (inf17).pos rfl
instance : Fld Tryz.prog 346 2 2 := mk_fld Tryz.underlying346 rfl (inf17).pos rfl
instance : Fld Tryz.prog 346 3 3 := mk_fld Tryz.underlying346 rfl (inf9).pos rfl
instance inf347 : Inf Tryz.prog 347 4 40 (.agg #[(.pointer none), (.pointer none), (.pointer none), (.string ⟨#[]⟩)]) := ⟨by kernel_rfl⟩
instance : Agg Tryz.prog 347 true := ⟨fun w => by simp [isAgg, run_underlying Tryz.underlying347]⟩
instance : Plc Tryz.prog 347 [(0, 1), (1, 1), (2, 1), (3, 1)] := ⟨fun w => ⟨_, Tryz.underlying347, run_places w _ _ (by kernel_rfl)⟩⟩
instance : Fld Tryz.prog 347 0 0 := mk_fld Tryz.underlying347 rfl (inf17).pos rfl
instance : Fld Tryz.prog 347 1 1 := mk_fld Tryz.underlying347 rfl (inf17).pos rfl
instance : Fld Tryz.prog 347 2 2 := mk_fld Tryz.underlying347 rfl (inf17).pos rfl
instance : Fld Tryz.prog 347 3 3 := mk_fld Tryz.underlying347 rfl (inf9).pos rfl
instance inf348 : Inf Tryz.prog 348 0 0 (.agg #[]) := ⟨by kernel_rfl⟩
instance : Agg Tryz.prog 348 true := ⟨fun w => by simp [isAgg, run_underlying Tryz.underlying348]⟩
instance inf349 : Inf Tryz.prog 349 0 0 (.agg #[]) := ⟨by kernel_rfl⟩
instance : Agg Tryz.prog 349 true := ⟨fun w => by simp [isAgg, run_underlying Tryz.underlying349]⟩
instance : Plc Tryz.prog 349 [(0, 0)] := ⟨fun w => ⟨_, Tryz.underlying349, run_places w _ _ (by kernel_rfl)⟩⟩
instance inf350 : Inf Tryz.prog 350 0 0 (.agg #[]) := ⟨by kernel_rfl⟩
instance : Agg Tryz.prog 350 true := ⟨fun w => by simp [isAgg, run_underlying Tryz.underlying350]⟩
instance : Plc Tryz.prog 350 [(0, 0)] := ⟨fun w => ⟨_, Tryz.underlying350, run_places w _ _ (by kernel_rfl)⟩⟩
instance : Und Tryz.prog 351 (.int .u8) := ⟨by kernel_rfl⟩
instance inf351 : Inf Tryz.prog 351 1 1 (.int .u8 0) := ⟨by kernel_rfl⟩
instance : Agg Tryz.prog 351 false := ⟨fun w => by simp [isAgg, run_underlying Tryz.underlying351]⟩
instance : Und Tryz.prog 352 (.int .u8) := ⟨by kernel_rfl⟩
instance inf352 : Inf Tryz.prog 352 1 1 (.int .u8 0) := ⟨by kernel_rfl⟩
instance : Agg Tryz.prog 352 false := ⟨fun w => by simp [isAgg, run_underlying Tryz.underlying352]⟩
instance : Und Tryz.prog 354 (.int .i32) := ⟨by kernel_rfl⟩
instance inf354 : Inf Tryz.prog 354 1 4 (.int .i32 0) := ⟨by kernel_rfl⟩
instance : Agg Tryz.prog 354 false := ⟨fun w => by simp [isAgg, run_underlying Tryz.underlying354]⟩
instance : Und Tryz.prog 355 (.int .i32) := ⟨by kernel_rfl⟩
instance inf355 : Inf Tryz.prog 355 1 4 (.int .i32 0) := ⟨by kernel_rfl⟩
instance : Agg Tryz.prog 355 false := ⟨fun w => by simp [isAgg, run_underlying Tryz.underlying355]⟩
instance inf356 : Inf Tryz.prog 356 11 48 (.agg #[(.int .u64 0), (.int .u64 0), (.int .u32 0), (.int .u8 0), (.int .u8 0), (.int .u8 0), (.int .u8 0), .nilFunc, (.pointer none), (.int .i32 0), (.int .i32 0)]) := ⟨by kernel_rfl⟩
instance : Agg Tryz.prog 356 true := ⟨fun w => by simp [isAgg, run_underlying Tryz.underlying356]⟩
instance : Plc Tryz.prog 356 [(0, 1), (1, 1), (2, 1), (3, 1), (4, 1), (5, 1), (6, 1), (7, 1), (8, 1), (9, 1), (10, 1)] := ⟨fun w => ⟨_, Tryz.underlying356, run_places w _ _ (by kernel_rfl)⟩⟩
instance : Fld Tryz.prog 356 0 0 := mk_fld Tryz.underlying356 rfl (inf12).pos rfl
instance : Fld Tryz.prog 356 1 1 := mk_fld Tryz.underlying356 rfl (inf12).pos rfl
instance : Fld Tryz.prog 356 2 2 := mk_fld Tryz.underlying356 rfl (inf328).pos rfl
instance : Fld Tryz.prog 356 3 3 := mk_fld Tryz.underlying356 rfl (inf351).pos rfl
instance : Fld Tryz.prog 356 4 4 := mk_fld Tryz.underlying356 rfl (inf5).pos rfl
instance : Fld Tryz.prog 356 5 5 := mk_fld Tryz.underlying356 rfl (inf5).pos rfl
instance : Fld Tryz.prog 356 6 6 := mk_fld Tryz.underlying356 rfl (inf352).pos rfl
instance : Fld Tryz.prog 356 8 8 := mk_fld Tryz.underlying356 rfl (inf338).pos rfl
instance : Fld Tryz.prog 356 9 9 := mk_fld Tryz.underlying356 rfl (inf354).pos rfl
instance : Fld Tryz.prog 356 10 10 := mk_fld Tryz.underlying356 rfl (inf355).pos rfl
instance inf357 : Inf Tryz.prog 357 11 48 (.agg #[(.int .u64 0), (.int .u64 0), (.int .u32 0), (.int .u8 0), (.int .u8 0), (.int .u8 0), (.int .u8 0), .nilFunc, (.pointer none), (.int .i32 0), (.int .i32 0)]) := ⟨by kernel_rfl⟩
instance : Agg Tryz.prog 357 true := ⟨fun w => by simp [isAgg, run_underlying Tryz.underlying357]⟩
instance : Plc Tryz.prog 357 [(0, 1), (1, 1), (2, 1), (3, 1), (4, 1), (5, 1), (6, 1), (7, 1), (8, 1), (9, 1), (10, 1)] := ⟨fun w => ⟨_, Tryz.underlying357, run_places w _ _ (by kernel_rfl)⟩⟩
instance : Fld Tryz.prog 357 0 0 := mk_fld Tryz.underlying357 rfl (inf12).pos rfl
instance : Fld Tryz.prog 357 1 1 := mk_fld Tryz.underlying357 rfl (inf12).pos rfl
instance : Fld Tryz.prog 357 2 2 := mk_fld Tryz.underlying357 rfl (inf328).pos rfl
instance : Fld Tryz.prog 357 3 3 := mk_fld Tryz.underlying357 rfl (inf351).pos rfl
instance : Fld Tryz.prog 357 4 4 := mk_fld Tryz.underlying357 rfl (inf5).pos rfl
instance : Fld Tryz.prog 357 5 5 := mk_fld Tryz.underlying357 rfl (inf5).pos rfl
instance : Fld Tryz.prog 357 6 6 := mk_fld Tryz.underlying357 rfl (inf352).pos rfl
instance : Fld Tryz.prog 357 8 8 := mk_fld Tryz.underlying357 rfl (inf338).pos rfl
instance : Fld Tryz.prog 357 9 9 := mk_fld Tryz.underlying357 rfl (inf354).pos rfl
instance : Fld Tryz.prog 357 10 10 := mk_fld Tryz.underlying357 rfl (inf355).pos rfl
-- 3: treadle/treadlelaw22.ObjectMissing
instance : Body Tryz.prog 3 := mk_body Tryz.func3 (by decide) rfl
-- 4: treadle/treadlelaw22.ObjectOwn
instance : Body Tryz.prog 4 := mk_body Tryz.func4 (by decide) rfl
-- 5: treadle/treadlelaw22.ObjectPoints
instance : Body Tryz.prog 5 := mk_body Tryz.func5 (by decide) rfl
-- 6: treadle/treadlelaw22.ObjectOrder
instance : Body Tryz.prog 6 := mk_body Tryz.func6 (by decide) rfl
-- 7: treadle/treadlelaw22.ObjectSames
instance : Body Tryz.prog 7 := mk_body Tryz.func7 (by decide) rfl
-- 8: treadle/treadlelaw22.ObjectVerified
instance : Body Tryz.prog 8 := mk_body Tryz.func8 (by decide) rfl
-- 9: treadle/treadlelaw22.ObjectBytes
instance : Body Tryz.prog 9 := mk_body Tryz.func9 (by decide) rfl
-- 10: treadle/treadlelaw22.ObjectBack
instance : Body Tryz.prog 10 := mk_body Tryz.func10 (by decide) rfl
-- 11: treadle/treadlelaw22.ObjectWhole
instance : Body Tryz.prog 11 := mk_body Tryz.func11 (by decide) rfl
-- 12: treadle/object.Link
instance : Body Tryz.prog 12 := mk_body Tryz.func12 (by decide) rfl
-- 13: treadle/object.Missing
instance : Body Tryz.prog 13 := mk_body Tryz.func13 (by decide) rfl
-- 14: treadle/code.Object
instance : Body Tryz.prog 14 := mk_body Tryz.func14 (by decide) rfl
-- 15: treadle/treadlelaw22.awake
instance : Body Tryz.prog 15 := mk_body Tryz.func15 (by decide) rfl
-- 16: treadle/treadleref22.Link
instance : Body Tryz.prog 16 := mk_body Tryz.func16 (by decide) rfl
-- 17: treadle/treadleref22.SameProgram
instance : Body Tryz.prog 17 := mk_body Tryz.func17 (by decide) rfl
-- 18: treadle/object.Point
instance : Body Tryz.prog 18 := mk_body Tryz.func18 (by decide) rfl
-- 19: treadle/treadleref22.Point
instance : Body Tryz.prog 19 := mk_body Tryz.func19 (by decide) rfl
-- 20: treadle/treadlelaw22.one
instance : Body Tryz.prog 20 := mk_body Tryz.func20 (by decide) rfl
-- 21: treadle/treadlelaw22.runs
instance : Body Tryz.prog 21 := mk_body Tryz.func21 (by decide) rfl
-- 22: treadle/treadleref20.Same
instance : Body Tryz.prog 22 := mk_body Tryz.func22 (by decide) rfl
-- 23: treadle/object.Same
instance : Body Tryz.prog 23 := mk_body Tryz.func23 (by decide) rfl
-- 24: treadle/treadleref22.Same
instance : Body Tryz.prog 24 := mk_body Tryz.func24 (by decide) rfl
-- 25: treadle/object.SameProgram
instance : Body Tryz.prog 25 := mk_body Tryz.func25 (by decide) rfl
-- 26: treadle/code.Program
instance : Body Tryz.prog 26 := mk_body Tryz.func26 (by decide) rfl
-- 27: treadle/object.Bytes
instance : Body Tryz.prog 27 := mk_body Tryz.func27 (by decide) rfl
-- 28: treadle/treadleref22.Bytes
instance : Body Tryz.prog 28 := mk_body Tryz.func28 (by decide) rfl
-- 29: treadle/object.ProgramBytes
instance : Body Tryz.prog 29 := mk_body Tryz.func29 (by decide) rfl
-- 30: treadle/treadleref22.ProgramBytes
instance : Body Tryz.prog 30 := mk_body Tryz.func30 (by decide) rfl
-- 31: treadle/object.Read
instance : Body Tryz.prog 31 := mk_body Tryz.func31 (by decide) rfl
-- 32: treadle/object.ReadProgram
instance : Body Tryz.prog 32 := mk_body Tryz.func32 (by decide) rfl
-- 33: treadle/treadlelaw22.none
instance : Body Tryz.prog 33 := mk_body Tryz.func33 (by decide) rfl
-- 34: treadle/object.joined
instance : Body Tryz.prog 34 := mk_body Tryz.func34 (by decide) rfl
-- 35: treadle/object.exported
instance : Body Tryz.prog 35 := mk_body Tryz.func35 (by decide) rfl
-- 36: slices.ContainsFunc[[]treadle/api.Need,treadle/api.Need]
instance : Body Tryz.prog 36 := mk_body Tryz.func36 (by decide) rfl
-- 37: treadle/object.Missing$1
instance : Body Tryz.prog 37 := mk_body Tryz.func37 (by decide) rfl
-- 38: treadle/object.sameNeed
instance : Body Tryz.prog 38 := mk_body Tryz.func38 (by decide) rfl
-- 39: treadle/object.met
instance : Body Tryz.prog 39 := mk_body Tryz.func39 (by decide) rfl
-- 40: slices.Clone[[]treadle/api.Type,treadle/api.Type]
instance : Body Tryz.prog 40 := mk_body Tryz.func40 (by decide) rfl
-- 41: treadle/code.object
instance : Body Tryz.prog 41 := mk_body Tryz.func41 (by decide) rfl
-- 42: (*treadle/code.world).all
instance : Body Tryz.prog 42 := mk_body Tryz.func42 (by decide) rfl
-- 43: treadle/treadlelaw22.two
instance : Body Tryz.prog 43 := mk_body Tryz.func43 (by decide) rfl
-- 44: treadle/vm.Run
instance : Body Tryz.prog 44 := mk_body Tryz.func44 (by decide) rfl
-- 45: treadle/treadleref18.Object
instance : Body Tryz.prog 45 := mk_body Tryz.func45 (by decide) rfl
-- 46: treadle/treadleref22.Missing
instance : Body Tryz.prog 46 := mk_body Tryz.func46 (by decide) rfl
-- 47: treadle/treadleref22.before
instance : Body Tryz.prog 47 := mk_body Tryz.func47 (by decide) rfl
-- 48: treadle/treadleref22.moved
instance : Body Tryz.prog 48 := mk_body Tryz.func48 (by decide) rfl
-- 49: treadle/treadleref22.sameValues
instance : Body Tryz.prog 49 := mk_body Tryz.func49 (by decide) rfl
-- 50: treadle/treadleref22.sameProcs
instance : Body Tryz.prog 50 := mk_body Tryz.func50 (by decide) rfl
-- 51: treadle/treadleref20.SameValues
instance : Body Tryz.prog 51 := mk_body Tryz.func51 (by decide) rfl
-- 52: slices.Equal[[]treadle/api.Value,treadle/api.Value]
instance : Body Tryz.prog 52 := mk_body Tryz.func52 (by decide) rfl
-- 53: slices.EqualFunc[[]treadle/api.Need,[]treadle/api.Need,treadle/api.Need,treadle/api.Need]
instance : Body Tryz.prog 53 := mk_body Tryz.func53 (by decide) rfl
-- 54: slices.EqualFunc[[]treadle/api.Proc,[]treadle/api.Proc,treadle/api.Proc,treadle/api.Proc]
instance : Body Tryz.prog 54 := mk_body Tryz.func54 (by decide) rfl
-- 55: treadle/object.sameProc
instance : Body Tryz.prog 55 := mk_body Tryz.func55 (by decide) rfl
-- 56: treadle/treadleref22.SameNeed
instance : Body Tryz.prog 56 := mk_body Tryz.func56 (by decide) rfl
-- 57: slices.Equal[[]treadle/api.Point,treadle/api.Point]
instance : Body Tryz.prog 57 := mk_body Tryz.func57 (by decide) rfl
-- 58: treadle/code.program
instance : Body Tryz.prog 58 := mk_body Tryz.func58 (by decide) rfl
-- 59: (*treadle/object.common).text
instance : Body Tryz.prog 59 := mk_body Tryz.func59 (by decide) rfl
-- 60: (*treadle/object.common).values
instance : Body Tryz.prog 60 := mk_body Tryz.func60 (by decide) rfl
-- 61: (*treadle/object.common).uint
instance : Body Tryz.prog 61 := mk_body Tryz.func61 (by decide) rfl
-- 62: (*treadle/object.common).head
instance : Body Tryz.prog 62 := mk_body Tryz.func62 (by decide) rfl
-- 63: (*treadle/object.common).procs
instance : Body Tryz.prog 63 := mk_body Tryz.func63 (by decide) rfl
-- 64: treadle/treadleref01.Text
instance : Body Tryz.prog 64 := mk_body Tryz.func64 (by decide) rfl
-- 65: treadle/treadleref22.values
instance : Body Tryz.prog 65 := mk_body Tryz.func65 (by decide) rfl
-- 66: treadle/treadleref01.Uint
instance : Body Tryz.prog 66 := mk_body Tryz.func66 (by decide) rfl
-- 67: treadle/treadleref22.types
instance : Body Tryz.prog 67 := mk_body Tryz.func67 (by decide) rfl
-- 68: treadle/treadleref22.procs
instance : Body Tryz.prog 68 := mk_body Tryz.func68 (by decide) rfl
-- 69: treadle/treadleref18.Program
instance : Body Tryz.prog 69 := mk_body Tryz.func69 (by decide) rfl
-- 70: treadle/object.begin
instance : Body Tryz.prog 70 := mk_body Tryz.func70 (by decide) rfl
-- 71: (*treadle/wire.Reader).Text
instance : Body Tryz.prog 71 := mk_body Tryz.func71 (by decide) rfl
-- 72: (treadle/object.reader).values
instance : Body Tryz.prog 72 := mk_body Tryz.func72 (by decide) rfl
-- 73: (treadle/object.reader).count
instance : Body Tryz.prog 73 := mk_body Tryz.func73 (by decide) rfl
-- 74: (treadle/object.reader).head
instance : Body Tryz.prog 74 := mk_body Tryz.func74 (by decide) rfl
-- 75: (treadle/object.reader).bad
instance : Body Tryz.prog 75 := mk_body Tryz.func75 (by decide) rfl
-- 76: (treadle/object.reader).procs
instance : Body Tryz.prog 76 := mk_body Tryz.func76 (by decide) rfl
-- 77: (*treadle/wire.Reader).End
instance : Body Tryz.prog 77 := mk_body Tryz.func77 (by decide) rfl
-- 78: treadle/object.none
instance : Body Tryz.prog 78 := mk_body Tryz.func78 (by decide) rfl
-- 79: (*treadle/wire.Reader).Count
instance : Body Tryz.prog 79 := mk_body Tryz.func79 (by decide) rfl
-- 80: slices.Clone[[]treadle/api.Instr,treadle/api.Instr]
instance : Body Tryz.prog 80 := mk_body Tryz.func80 (by decide) rfl
-- 81: slices.IndexFunc[[]treadle/api.Need,treadle/api.Need]
instance : Body Tryz.prog 81 := mk_body Tryz.func81 (by decide) rfl
-- 82: slices.Equal[[]treadle/api.Type,treadle/api.Type]
instance : Body Tryz.prog 82 := mk_body Tryz.func82 (by decide) rfl
-- 83: slices.ContainsFunc[[]treadle/api.Proc,treadle/api.Proc]
instance : Body Tryz.prog 83 := mk_body Tryz.func83 (by decide) rfl
-- 84: treadle/object.met$1
instance : Body Tryz.prog 84 := mk_body Tryz.func84 (by decide) rfl
-- 85: treadle/code.file
instance : Body Tryz.prog 85 := mk_body Tryz.func85 (by decide) rfl
-- 86: treadle/code.values
instance : Body Tryz.prog 86 := mk_body Tryz.func86 (by decide) rfl
-- 87: treadle/lex.Word
instance : Body Tryz.prog 87 := mk_body Tryz.func87 (by decide) rfl
-- 88: treadle/code.head
instance : Body Tryz.prog 88 := mk_body Tryz.func88 (by decide) rfl
-- 89: treadle/code.proc
instance : Body Tryz.prog 89 := mk_body Tryz.func89 (by decide) rfl
-- 90: (*treadle/code.world).alone
instance : Body Tryz.prog 90 := mk_body Tryz.func90 (by decide) rfl
-- 91: (*treadle/code.world).flow
instance : Body Tryz.prog 91 := mk_body Tryz.func91 (by decide) rfl
-- 92: (*treadle/code.flow).wrong
instance : Body Tryz.prog 92 := mk_body Tryz.func92 (by decide) rfl
-- 93: treadle/vm.Start
instance : Body Tryz.prog 93 := mk_body Tryz.func93 (by decide) rfl
-- 94: (*treadle/vm.Machine).Step
instance : Body Tryz.prog 94 := mk_body Tryz.func94 (by decide) rfl
-- 95: (*treadle/vm.Machine).Outcome
instance : Body Tryz.prog 95 := mk_body Tryz.func95 (by decide) rfl
-- 96: treadle/treadleref18.place
instance : Body Tryz.prog 96 := mk_body Tryz.func96 (by decide) rfl
-- 97: treadle/treadleref18.Value
instance : Body Tryz.prog 97 := mk_body Tryz.func97 (by decide) rfl
-- 98: treadle/treadleref12.Word
instance : Body Tryz.prog 98 := mk_body Tryz.func98 (by decide) rfl
-- 99: treadle/treadleref18.head
instance : Body Tryz.prog 99 := mk_body Tryz.func99 (by decide) rfl
-- 100: treadle/treadleref18.proc
instance : Body Tryz.prog 100 := mk_body Tryz.func100 (by decide) rfl
-- 101: treadle/treadleref22.met
instance : Body Tryz.prog 101 := mk_body Tryz.func101 (by decide) rfl
-- 102: treadle/treadleref22.sameTypes
instance : Body Tryz.prog 102 := mk_body Tryz.func102 (by decide) rfl
-- 103: slices.Equal[[]treadle/api.Instr,treadle/api.Instr]
instance : Body Tryz.prog 103 := mk_body Tryz.func103 (by decide) rfl
-- 104: treadle/wire.PutText
instance : Body Tryz.prog 104 := mk_body Tryz.func104 (by decide) rfl
-- 105: (*treadle/object.common).kind
instance : Body Tryz.prog 105 := mk_body Tryz.func105 (by decide) rfl
-- 106: treadle/wire.PutInt
instance : Body Tryz.prog 106 := mk_body Tryz.func106 (by decide) rfl
-- 107: treadle/wire.PutBool
instance : Body Tryz.prog 107 := mk_body Tryz.func107 (by decide) rfl
-- 108: treadle/wire.PutUint
instance : Body Tryz.prog 108 := mk_body Tryz.func108 (by decide) rfl
-- 109: treadle/code.Bytes
instance : Body Tryz.prog 109 := mk_body Tryz.func109 (by decide) rfl
-- 110: treadle/treadleref01.Int
instance : Body Tryz.prog 110 := mk_body Tryz.func110 (by decide) rfl
-- 111: treadle/treadleref01.Bool
instance : Body Tryz.prog 111 := mk_body Tryz.func111 (by decide) rfl
-- 112: treadle/treadleref18.Bytes
instance : Body Tryz.prog 112 := mk_body Tryz.func112 (by decide) rfl
-- 113: treadle/wire.NewReader
instance : Body Tryz.prog 113 := mk_body Tryz.func113 (by decide) rfl
-- 114: (*treadle/wire.Reader).Raw
instance : Body Tryz.prog 114 := mk_body Tryz.func114 (by decide) rfl
-- 115: (*treadle/wire.Reader).well
instance : Body Tryz.prog 115 := mk_body Tryz.func115 (by decide) rfl
-- 116: (*treadle/wire.Reader).fails
instance : Body Tryz.prog 116 := mk_body Tryz.func116 (by decide) rfl
-- 117: (*treadle/wire.Reader).text
instance : Body Tryz.prog 117 := mk_body Tryz.func117 (by decide) rfl
-- 118: (treadle/object.reader).kind
instance : Body Tryz.prog 118 := mk_body Tryz.func118 (by decide) rfl
-- 119: (*treadle/wire.Reader).Int
instance : Body Tryz.prog 119 := mk_body Tryz.func119 (by decide) rfl
-- 120: (*treadle/wire.Reader).Bool
instance : Body Tryz.prog 120 := mk_body Tryz.func120 (by decide) rfl
-- 121: (*treadle/wire.Reader).Fault
instance : Body Tryz.prog 121 := mk_body Tryz.func121 (by decide) rfl
-- 122: (treadle/object.reader).code
instance : Body Tryz.prog 122 := mk_body Tryz.func122 (by decide) rfl
-- 123: (*treadle/wire.tape).left
instance : Body Tryz.prog 123 := mk_body Tryz.func123 (by decide) rfl
-- 124: (*treadle/wire.Reader).number
instance : Body Tryz.prog 124 := mk_body Tryz.func124 (by decide) rfl
-- 125: slices.IndexFunc[[]treadle/api.Proc,treadle/api.Proc]
instance : Body Tryz.prog 125 := mk_body Tryz.func125 (by decide) rfl
-- 126: treadle/path.Check
instance : Body Tryz.prog 126 := mk_body Tryz.func126 (by decide) rfl
-- 127: treadle/code.value
instance : Body Tryz.prog 127 := mk_body Tryz.func127 (by decide) rfl
-- 128: treadle/lex.just
instance : Body Tryz.prog 128 := mk_body Tryz.func128 (by decide) rfl
-- 129: treadle/code.typed
instance : Body Tryz.prog 129 := mk_body Tryz.func129 (by decide) rfl
-- 130: treadle/code.may
instance : Body Tryz.prog 130 := mk_body Tryz.func130 (by decide) rfl
-- 131: (*treadle/code.flow).behind
instance : Body Tryz.prog 131 := mk_body Tryz.func131 (by decide) rfl
-- 132: treadle/code.next
instance : Body Tryz.prog 132 := mk_body Tryz.func132 (by decide) rfl
-- 133: treadle/code.joined
instance : Body Tryz.prog 133 := mk_body Tryz.func133 (by decide) rfl
-- 134: treadle/code.same
instance : Body Tryz.prog 134 := mk_body Tryz.func134 (by decide) rfl
-- 135: (treadle/code.state).copied
instance : Body Tryz.prog 135 := mk_body Tryz.func135 (by decide) rfl
-- 136: (*treadle/code.flow).at
instance : Body Tryz.prog 136 := mk_body Tryz.func136 (by decide) rfl
-- 137: treadle/vm.sized
instance : Body Tryz.prog 137 := mk_body Tryz.func137 (by decide) rfl
-- 138: treadle/vm.value
instance : Body Tryz.prog 138 := mk_body Tryz.func138 (by decide) rfl
-- 139: treadle/vm.own
instance : Body Tryz.prog 139 := mk_body Tryz.func139 (by decide) rfl
-- 140: (*treadle/vm.Machine).enter
instance : Body Tryz.prog 140 := mk_body Tryz.func140 (by decide) rfl
-- 141: (*treadle/vm.Machine).made
instance : Body Tryz.prog 141 := mk_body Tryz.func141 (by decide) rfl
-- 142: (*treadle/vm.Machine).step
instance : Body Tryz.prog 142 := mk_body Tryz.func142 (by decide) rfl
-- 143: slices.Clone[[]treadle/api.Value,treadle/api.Value]
instance : Body Tryz.prog 143 := mk_body Tryz.func143 (by decide) rfl
-- 144: treadle/treadleref04.Path
instance : Body Tryz.prog 144 := mk_body Tryz.func144 (by decide) rfl
-- 145: treadle/treadleref12.name
instance : Body Tryz.prog 145 := mk_body Tryz.func145 (by decide) rfl
-- 146: treadle/treadleref12.Key
instance : Body Tryz.prog 146 := mk_body Tryz.func146 (by decide) rfl
-- 147: treadle/treadleref18.itself
instance : Body Tryz.prog 147 := mk_body Tryz.func147 (by decide) rfl
-- 148: treadle/treadleref18.States
instance : Body Tryz.prog 148 := mk_body Tryz.func148 (by decide) rfl
-- 149: treadle/treadleref18.met
instance : Body Tryz.prog 149 := mk_body Tryz.func149 (by decide) rfl
-- 150: treadle/wire.texts
instance : Body Tryz.prog 150 := mk_body Tryz.func150 (by decide) rfl
-- 151: treadle/wire.fresh
instance : Body Tryz.prog 151 := mk_body Tryz.func151 (by decide) rfl
-- 152: treadle/wire.short
instance : Body Tryz.prog 152 := mk_body Tryz.func152 (by decide) rfl
-- 153: treadle/code.rowOf
instance : Body Tryz.prog 153 := mk_body Tryz.func153 (by decide) rfl
-- 154: treadle/treadleref18.lone
instance : Body Tryz.prog 154 := mk_body Tryz.func154 (by decide) rfl
-- 155: treadle/treadleref18.Numbered
instance : Body Tryz.prog 155 := mk_body Tryz.func155 (by decide) rfl
-- 156: (*treadle/wire.Reader).Byte
instance : Body Tryz.prog 156 := mk_body Tryz.func156 (by decide) rfl
-- 157: (*treadle/wire.Reader).Uint
instance : Body Tryz.prog 157 := mk_body Tryz.func157 (by decide) rfl
-- 158: treadle/path.Names
instance : Body Tryz.prog 158 := mk_body Tryz.func158 (by decide) rfl
-- 159: treadle/lex.token
instance : Body Tryz.prog 159 := mk_body Tryz.func159 (by decide) rfl
-- 160: (*treadle/code.flow).effect
instance : Body Tryz.prog 160 := mk_body Tryz.func160 (by decide) rfl
-- 161: treadle/code.joinRow
instance : Body Tryz.prog 161 := mk_body Tryz.func161 (by decide) rfl
-- 162: (*treadle/code.flow).kinds
instance : Body Tryz.prog 162 := mk_body Tryz.func162 (by decide) rfl
-- 163: slices.Clone[[]treadle/api.Proc,treadle/api.Proc]
instance : Body Tryz.prog 163 := mk_body Tryz.func163 (by decide) rfl
-- 164: (*treadle/vm.Machine).top
instance : Body Tryz.prog 164 := mk_body Tryz.func164 (by decide) rfl
-- 165: (*treadle/vm.frame).copied
instance : Body Tryz.prog 165 := mk_body Tryz.func165 (by decide) rfl
-- 166: (*treadle/vm.Machine).step$1
instance : Body Tryz.prog 166 := mk_body Tryz.func166 (by decide) rfl
-- 167: (*treadle/vm.Machine).do
instance : Body Tryz.prog 167 := mk_body Tryz.func167 (by decide) rfl
-- 168: treadle/treadleref04.Names
instance : Body Tryz.prog 168 := mk_body Tryz.func168 (by decide) rfl
-- 169: treadle/treadleref12.Letter
instance : Body Tryz.prog 169 := mk_body Tryz.func169 (by decide) rfl
-- 170: treadle/treadleref12.Digit
instance : Body Tryz.prog 170 := mk_body Tryz.func170 (by decide) rfl
-- 171: treadle/treadleref12.among
instance : Body Tryz.prog 171 := mk_body Tryz.func171 (by decide) rfl
-- 172: treadle/treadleref12.keys
instance : Body Tryz.prog 172 := mk_body Tryz.func172 (by decide) rfl
-- 173: treadle/treadleref18.behind
instance : Body Tryz.prog 173 := mk_body Tryz.func173 (by decide) rfl
-- 174: treadle/treadleref18.onwards
instance : Body Tryz.prog 174 := mk_body Tryz.func174 (by decide) rfl
-- 175: treadle/treadleref18.join
instance : Body Tryz.prog 175 := mk_body Tryz.func175 (by decide) rfl
-- 176: treadle/treadleref18.alike
instance : Body Tryz.prog 176 := mk_body Tryz.func176 (by decide) rfl
-- 177: treadle/treadleref18.effect
instance : Body Tryz.prog 177 := mk_body Tryz.func177 (by decide) rfl
-- 178: treadle/treadleref18.kinds
instance : Body Tryz.prog 178 := mk_body Tryz.func178 (by decide) rfl
-- 179: treadle/treadleref18.is
instance : Body Tryz.prog 179 := mk_body Tryz.func179 (by decide) rfl
-- 180: strings.Split
instance : Body Tryz.prog 180 := mk_body Tryz.func180 (by decide) rfl
-- 181: treadle/path.Name
instance : Body Tryz.prog 181 := mk_body Tryz.func181 (by decide) rfl
-- 182: treadle/lex.letter
instance : Body Tryz.prog 182 := mk_body Tryz.func182 (by decide) rfl
-- 183: treadle/lex.run
instance : Body Tryz.prog 183 := mk_body Tryz.func183 (by decide) rfl
-- 184: treadle/lex.token$1
instance : Body Tryz.prog 184 := mk_body Tryz.func184 (by decide) rfl
-- 185: treadle/lex.digit
instance : Body Tryz.prog 185 := mk_body Tryz.func185 (by decide) rfl
-- 186: treadle/lex.Key
instance : Body Tryz.prog 186 := mk_body Tryz.func186 (by decide) rfl
-- 187: treadle/lex.whole
instance : Body Tryz.prog 187 := mk_body Tryz.func187 (by decide) rfl
-- 188: treadle/lex.quoted
instance : Body Tryz.prog 188 := mk_body Tryz.func188 (by decide) rfl
-- 189: treadle/lex.sign
instance : Body Tryz.prog 189 := mk_body Tryz.func189 (by decide) rfl
-- 190: (*treadle/code.flow).effect$1
instance : Body Tryz.prog 190 := mk_body Tryz.func190 (by decide) rfl
-- 191: (*treadle/code.flow).effect$2
instance : Body Tryz.prog 191 := mk_body Tryz.func191 (by decide) rfl
-- 192: (*treadle/code.flow).kinds$1
instance : Body Tryz.prog 192 := mk_body Tryz.func192 (by decide) rfl
-- 193: treadle/vm.need
instance : Body Tryz.prog 193 := mk_body Tryz.func193 (by decide) rfl
-- 194: (*treadle/vm.Machine).lay
instance : Body Tryz.prog 194 := mk_body Tryz.func194 (by decide) rfl
-- 195: (*treadle/vm.Machine).take
instance : Body Tryz.prog 195 := mk_body Tryz.func195 (by decide) rfl
-- 196: (*treadle/vm.Machine).typed
instance : Body Tryz.prog 196 := mk_body Tryz.func196 (by decide) rfl
-- 197: (*treadle/vm.Machine).call
instance : Body Tryz.prog 197 := mk_body Tryz.func197 (by decide) rfl
-- 198: (*treadle/vm.Machine).plain
instance : Body Tryz.prog 198 := mk_body Tryz.func198 (by decide) rfl
-- 199: treadle/treadleref04.Pieces
instance : Body Tryz.prog 199 := mk_body Tryz.func199 (by decide) rfl
-- 200: treadle/treadleref04.Name
instance : Body Tryz.prog 200 := mk_body Tryz.func200 (by decide) rfl
-- 201: treadle/treadleref18.joined
instance : Body Tryz.prog 201 := mk_body Tryz.func201 (by decide) rfl
-- 202: treadle/treadleref18.same
instance : Body Tryz.prog 202 := mk_body Tryz.func202 (by decide) rfl
-- 203: strings.genSplit
instance : Body Tryz.prog 203 := mk_body Tryz.func203 (by decide) rfl
-- 204: strconv.ParseInt
instance : Body Tryz.prog 204 := mk_body Tryz.func204 (by decide) rfl
-- 205: strconv.FormatInt
instance : Body Tryz.prog 205 := mk_body Tryz.func205 (by decide) rfl
-- 206: treadle/lex.piece
instance : Body Tryz.prog 206 := mk_body Tryz.func206 (by decide) rfl
-- 207: strings.HasPrefix
instance : Body Tryz.prog 207 := mk_body Tryz.func207 (by decide) rfl
-- 208: strings.IndexByte
instance : Body Tryz.prog 208 := mk_body Tryz.func208 (by decide) rfl
-- 209: treadle/vm.stuck
instance : Body Tryz.prog 209 := mk_body Tryz.func209 (by decide) rfl
-- 210: (*treadle/vm.stack).high
instance : Body Tryz.prog 210 := mk_body Tryz.func210 (by decide) rfl
-- 211: (*treadle/vm.stack).push
instance : Body Tryz.prog 211 := mk_body Tryz.func211 (by decide) rfl
-- 212: (*treadle/vm.stack).pop
instance : Body Tryz.prog 212 := mk_body Tryz.func212 (by decide) rfl
-- 213: (*treadle/vm.Machine).leave
instance : Body Tryz.prog 213 := mk_body Tryz.func213 (by decide) rfl
-- 214: treadle/vm.truth
instance : Body Tryz.prog 214 := mk_body Tryz.func214 (by decide) rfl
-- 215: treadle/vm.number
instance : Body Tryz.prog 215 := mk_body Tryz.func215 (by decide) rfl
-- 216: (*treadle/vm.Machine).ordered
instance : Body Tryz.prog 216 := mk_body Tryz.func216 (by decide) rfl
-- 217: treadle/vm.reckon
instance : Body Tryz.prog 217 := mk_body Tryz.func217 (by decide) rfl
-- 218: strings.explode
instance : Body Tryz.prog 218 := mk_body Tryz.func218 (by decide) rfl
-- 219: strings.Count
instance : Body Tryz.prog 219 := mk_body Tryz.func219 (by decide) rfl
-- 220: strings.Index
instance : Body Tryz.prog 220 := mk_body Tryz.func220 (by decide) rfl
-- 221: internal/strconv.ParseInt
instance : Body Tryz.prog 221 := mk_body Tryz.func221 (by decide) rfl
-- 222: strconv.toError
instance : Body Tryz.prog 222 := mk_body Tryz.func222 (by decide) rfl
-- 223: internal/strconv.FormatInt
instance : Body Tryz.prog 223 := mk_body Tryz.func223 (by decide) rfl
-- 224: treadle/lex.nibble
instance : Body Tryz.prog 224 := mk_body Tryz.func224 (by decide) rfl
-- 225: internal/stringslite.HasPrefix
instance : Body Tryz.prog 225 := mk_body Tryz.func225 (by decide) rfl
-- 226: internal/stringslite.IndexByte
instance : Body Tryz.prog 226 := mk_body Tryz.func226 (by decide) rfl
-- 227: cmp.Or[int]
instance : Body Tryz.prog 227 := mk_body Tryz.func227 (by decide) rfl
-- 228: cmp.Compare[int64]
instance : Body Tryz.prog 228 := mk_body Tryz.func228 (by decide) rfl
-- 229: cmp.Compare[string]
instance : Body Tryz.prog 229 := mk_body Tryz.func229 (by decide) rfl
-- 230: unicode/utf8.RuneCountInString
instance : Body Tryz.prog 230 := mk_body Tryz.func230 (by decide) rfl
-- 231: unicode/utf8.DecodeRuneInString
instance : Body Tryz.prog 231 := mk_body Tryz.func231 (by decide) rfl
-- 233: internal/stringslite.Index
instance : Body Tryz.prog 233 := mk_body Tryz.func233 (by decide) rfl
-- 234: internal/strconv.ParseUint
instance : Body Tryz.prog 234 := mk_body Tryz.func234 (by decide) rfl
-- 235: strconv.syntaxError
instance : Body Tryz.prog 235 := mk_body Tryz.func235 (by decide) rfl
-- 236: strconv.rangeError
instance : Body Tryz.prog 236 := mk_body Tryz.func236 (by decide) rfl
-- 237: strconv.baseError
instance : Body Tryz.prog 237 := mk_body Tryz.func237 (by decide) rfl
-- 238: strconv.bitSizeError
instance : Body Tryz.prog 238 := mk_body Tryz.func238 (by decide) rfl
-- 239: internal/strconv.small
instance : Body Tryz.prog 239 := mk_body Tryz.func239 (by decide) rfl
-- 240: internal/strconv.numDigits
instance : Body Tryz.prog 240 := mk_body Tryz.func240 (by decide) rfl
-- 241: internal/strconv.formatBase10
instance : Body Tryz.prog 241 := mk_body Tryz.func241 (by decide) rfl
-- 242: internal/strconv.formatBits
instance : Body Tryz.prog 242 := mk_body Tryz.func242 (by decide) rfl
-- 244: cmp.isNaN[int64]
instance : Body Tryz.prog 244 := mk_body Tryz.func244 (by decide) rfl
-- 245: cmp.isNaN[string]
instance : Body Tryz.prog 245 := mk_body Tryz.func245 (by decide) rfl
-- 246: unicode/utf8.decodeRuneInStringSlow
instance : Body Tryz.prog 246 := mk_body Tryz.func246 (by decide) rfl
-- 248: internal/bytealg.Cutover
instance : Body Tryz.prog 248 := mk_body Tryz.func248 (by decide) rfl
-- 249: internal/bytealg.IndexRabinKarp[string]
instance : Body Tryz.prog 249 := mk_body Tryz.func249 (by decide) rfl
-- 250: internal/strconv.lower
instance : Body Tryz.prog 250 := mk_body Tryz.func250 (by decide) rfl
-- 251: internal/strconv.underscoreOK
instance : Body Tryz.prog 251 := mk_body Tryz.func251 (by decide) rfl
-- 252: internal/stringslite.Clone
instance : Body Tryz.prog 252 := mk_body Tryz.func252 (by decide) rfl
-- 253: errors.New
instance : Body Tryz.prog 253 := mk_body Tryz.func253 (by decide) rfl
-- 254: strconv.Itoa
instance : Body Tryz.prog 254 := mk_body Tryz.func254 (by decide) rfl
-- 255: internal/strconv.log10Pow2
instance : Body Tryz.prog 255 := mk_body Tryz.func255 (by decide) rfl
-- 256: math/bits.Len64
instance : Body Tryz.prog 256 := mk_body Tryz.func256 (by decide) rfl
-- 257: internal/strconv.bool2[int]
instance : Body Tryz.prog 257 := mk_body Tryz.func257 (by decide) rfl
-- 258: internal/strconv.isPowerOfTwo
instance : Body Tryz.prog 258 := mk_body Tryz.func258 (by decide) rfl
-- 259: math/bits.TrailingZeros
instance : Body Tryz.prog 259 := mk_body Tryz.func259 (by decide) rfl
-- 260: internal/bytealg.hashStr[string]
instance : Body Tryz.prog 260 := mk_body Tryz.func260 (by decide) rfl
-- 261: internal/strconv.Itoa
instance : Body Tryz.prog 261 := mk_body Tryz.func261 (by decide) rfl
-- 262: math/bits.TrailingZeros32
instance : Body Tryz.prog 262 := mk_body Tryz.func262 (by decide) rfl
-- 263: math/bits.TrailingZeros64
instance : Body Tryz.prog 263 := mk_body Tryz.func263 (by decide) rfl
-- 294: gosem.cut.vars
instance : Body Tryz.prog 294 := mk_body Tryz.func294 (by decide) rfl
theorem mixed : Tryz.prog.follows .mixedOrders = true := by kernel_rfl
end Go.Proofs.YtcnlkfocbbkdhaaGreatDoor.Gb
namespace Go.Proofs.YtcnlkfocbbkdhaaGreatDoor.Gb
open Go
section
variable {P : Program} {Q : Exit → Act → World → Prop} {cx : Cx} {L : List (Nat × Value)} {G : Gh} {H : List Own} {l : List Oper}
theorem WA.two {fuel i j : Nat} {listed : Array Bool} {o o' : Oper} (hr : Region.ready .any l.toArray listed = [i, j]) (hi : l[i]? = some o) (hj : l[j]? = some o') (hw : wantB l.toArray L o = some true) (hw' : wantB l.toArray L o' = some true)
    (h : OW P Q o cx L G H fun L' G' H' => WA P l Q fuel (listed.setIfInBounds i true) cx L' G' H') (h' : OW P Q o' cx L G H fun L' G' H' => WA P l Q fuel (listed.setIfInBounds j true) cx L' G' H') : WA P l Q (fuel + 1) listed cx L G H :=
  WA.all hr (by simp) fun k hk => by
    simp only [List.mem_cons, List.not_mem_nil, or_false] at hk
    rcases hk with rfl | rfl
    · exact ⟨o, hi, hw, h⟩
    · exact ⟨o', hj, hw', h'⟩
theorem WB.two {Gs : Gh} {Hs : List Own} {fuel i j : Nat} {listed : Array Bool} {o o' : Oper} (hr : Region.ready .any l.toArray listed = [i, j]) (hi : l[i]? = some o) (hj : l[j]? = some o') (hw : wantB l.toArray L o = some true) (hw' : wantB l.toArray L o' = some true)
    (h : OW P Q o cx L G H fun L' G' H' => (∀ w, Sat G' H' w → Sat Gs Hs w) ∧ WB P l Q Gs Hs fuel (listed.setIfInBounds i true) cx L' G' H') (h' : OW P Q o' cx L G H fun L' G' H' => (∀ w, Sat G' H' w → Sat Gs Hs w) ∧ WB P l Q Gs Hs fuel (listed.setIfInBounds j true) cx L' G' H') : WB P l Q Gs Hs (fuel + 1) listed cx L G H :=
  WB.all hr (by simp) fun k hk => by
    simp only [List.mem_cons, List.not_mem_nil, or_false] at hk
    rcases hk with rfl | rfl
    · exact ⟨o, hi, hw, h⟩
    · exact ⟨o', hj, hw', h'⟩
end
theorem splice_one {c : Array Value} {o : Nat} {v : Value} (h : o < c.size) : (splice c o [v]).toList = c.toList.set o v := by
  simp only [splice, List.length_singleton]
  apply List.ext_getElem?
  intro j
  simp only [List.getElem?_append, List.length_append, List.length_take, Array.length_toList, List.length_singleton, List.getElem?_take, List.getElem?_drop, List.getElem?_set]
  have m1 : min o c.size = o := by omega
  rw [m1]
  by_cases h1 : j < o
  · simp [h1, show j < o + 1 by omega, show o ≠ j by omega]
  · by_cases h2 : o = j
    · subst h2; simp [h]
    · simp [h1, h2, show ¬ j < o + 1 by omega, show o + 1 + (j - (o + 1)) = j by omega]
theorem Vec.put1 {T sz n cap b o : Nat} {A : Option Addr} {cs : List Value} {c : Array Value} (h : Vec T sz A n cap cs (.blk b (.cells c T (0, 0)))) (ho : o < n * sz) (v : Value) :
    A = some ⟨b, 0, none⟩ ∧ o + 1 ≤ c.size ∧ Vec T sz A n cap (cs.set o v) (.blk b (.cells (splice c o [v]) T (0, 0))) := by
  obtain ⟨hl, ⟨h1, h2, h3, h4⟩ | ⟨b', c', rfl, hx, h1, h2, rfl⟩⟩ := h
  · subst h2; simp at ho
  · cases hx
    have e2 : n * sz ≤ cap * sz := Nat.mul_le_mul_right _ h1
    refine ⟨rfl, by omega, by simpa using hl, .inr ⟨b, _, rfl, rfl, h1, by rw [size_splice (by simp; omega), h2], ?_⟩⟩
    rw [splice_one (by omega), List.take_set]
theorem set_elem {l : List Value} {k i j s : Nat} {v : Value} (hj : j < s) : (((l.set (i * s + j) v).drop (k * s)).take s) = if k = i then ((l.drop (k * s)).take s).set j v else (l.drop (k * s)).take s := by
  have hs : 0 < s := by omega
  apply List.ext_getElem?
  intro m
  by_cases hk : k = i
  · subst hk
    simp only [if_true, List.getElem?_take, List.getElem?_drop, List.getElem?_set, List.length_take, List.length_drop]
    by_cases hm : m < s
    · simp only [hm, if_true]
      by_cases hjm : j = m
      · subst hjm
        by_cases hq : k * s + j < l.length
        · simp [hq, show j < min s (l.length - k * s) by omega]
        · simp [hq, show ¬ j < min s (l.length - k * s) by omega]
      · simp [hjm]
    · simp only [hm, if_false]
      by_cases hjm : j = m
      · omega
      · simp [hjm]
  · simp only [if_neg hk, List.getElem?_take, List.getElem?_drop, List.getElem?_set]
    by_cases hm : m < s
    · simp only [hm, if_true]
      rw [if_neg]
      intro e
      rcases Nat.lt_or_gt_of_ne hk with h | h
      · have : (k + 1) * s ≤ i * s := Nat.mul_le_mul_right _ h
        rw [Nat.add_mul] at this; omega
      · have : (i + 1) * s ≤ k * s := Nat.mul_le_mul_right _ h
        rw [Nat.add_mul] at this; omega
    · simp [hm]
theorem elem_cell {c : Array Value} {cs es : List Value} {n i s k : Nat} {w : Value} (h : c.toList.take n = cs) (he : (cs.drop (i * s)).take s = es) (hw : es[k]? = some w) : c[0 + ((i : Nat) : Int).toNat * s + k]? = some w := by
  subst he
  rw [List.getElem?_take] at hw
  split at hw
  · rw [List.getElem?_drop, ← h, List.getElem?_take] at hw
    split at hw
    · simpa using hw
    · cases hw
  · cases hw
theorem Sl.none_zero {α : Type} {k : Kd α} {G : Gh} {A : Option Addr} {xs : List α} (h : Sl k G A xs) (hA : A = none) : xs.length = 0 := by
  cases xs with
  | nil => rfl
  | cons x r => obtain ⟨b, o, cs, e, _⟩ := h 0 x rfl; rw [hA] at e; cases e
theorem Sl.ofCs {α : Type} {k : Kd α} {G : Gh} {A : Option Addr} {xs : List α} {cs : List Value} (hz : cs = [] ∨ ∃ b, A = some ⟨b, 0, none⟩ ∧ Cs G b 0 cs) (hl : cs.length = xs.length * k.n) (hn : 0 < k.n) (hk : ∀ i x, xs[i]? = some x → k.K G x ((cs.drop (i * k.n)).take k.n)) : Sl k G A xs := by
  intro i x hx
  have hi := (List.getElem?_eq_some_iff.1 hx).1
  have hle : (i + 1) * k.n ≤ xs.length * k.n := Nat.mul_le_mul_right _ hi
  rw [Nat.add_mul] at hle
  rcases hz with rfl | ⟨b, rfl, hc⟩
  · simp at hl; omega
  · refine ⟨b, 0, _, rfl, hk i x hx, fun j v e => ?_⟩
    rw [List.getElem?_take] at e
    split at e
    · rw [List.getElem?_drop] at e
      have := hc _ v e
      rw [Nat.zero_add] at this ⊢; exact this
    · cases e
end Go.Proofs.YtcnlkfocbbkdhaaGreatDoor.Gb
namespace Go.Proofs.YtcnlkfocbbkdhaaGreatDoor.Gb
open Go
section
variable {P : Program} {L : List (Nat × Value)} {d : Option Tmp} {ty : TypeId} {pos : String} {af : Array Edge} {gu : Option (Nat × Bool)}
end
section
variable {P : Program} {Q : Exit → Act → World → Prop} {cx : Cx} {L : List (Nat × Value)} {G : Gh} {H : List Own} {ops : Array Oper} {rest : List Oper} {d : Option Tmp} {ty : TypeId} {pos : String} {af : Array Edge} {gu : Option (Nat × Bool)} {gd : Nat × Bool} {g : Prop}
theorem Un.kL (h : WL P ops Q rest cx L G H) : WL P ops Q rest cx L G H := h
theorem Un.kC {c : Code} (h : WC P c Q cx L G H) : WC P c Q cx L G H := h
theorem Un.kG {o : Op} (h : WL P ops Q (⟨d, o, ty, pos, af, some gd⟩ :: rest) cx L G H) : WL P ops Q (⟨d, o, ty, pos, af, some gd⟩ :: rest) cx L G H := h
theorem Un.kN {o : Op} (h : WL P ops Q (⟨d, o, ty, pos, af, none⟩ :: rest) cx L G H) : WL P ops Q (⟨d, o, ty, pos, af, none⟩ :: rest) cx L G H := h
theorem Un.k_move {x : Operand} (h : WL P ops Q (⟨d, .move x, ty, pos, af, gu⟩ :: rest) cx L G H) : WL P ops Q (⟨d, .move x, ty, pos, af, gu⟩ :: rest) cx L G H := h
theorem Un.k_assign {x : Operand} (h : WL P ops Q (⟨d, .assign x, ty, pos, af, gu⟩ :: rest) cx L G H) : WL P ops Q (⟨d, .assign x, ty, pos, af, gu⟩ :: rest) cx L G H := h
theorem Un.k_fieldAddr {s : TypeId} {n : Nat} {x : Operand} (h : WL P ops Q (⟨d, .fieldAddr s x n, ty, pos, af, gu⟩ :: rest) cx L G H) : WL P ops Q (⟨d, .fieldAddr s x n, ty, pos, af, gu⟩ :: rest) cx L G H := h
theorem Un.k_nilCheck {x : Operand} (h : WL P ops Q (⟨d, .nilCheck x, ty, pos, af, gu⟩ :: rest) cx L G H) : WL P ops Q (⟨d, .nilCheck x, ty, pos, af, gu⟩ :: rest) cx L G H := h
theorem Un.k_extract {x : Operand} {n : Nat} (h : WL P ops Q (⟨d, .extract x n, ty, pos, af, gu⟩ :: rest) cx L G H) : WL P ops Q (⟨d, .extract x n, ty, pos, af, gu⟩ :: rest) cx L G H := h
theorem Un.k_load {s : TypeId} {x : Operand} (h : WL P ops Q (⟨d, .load s x, ty, pos, af, gu⟩ :: rest) cx L G H) : WL P ops Q (⟨d, .load s x, ty, pos, af, gu⟩ :: rest) cx L G H := h
theorem Un.k_unOp {u : UnOp} {s : TypeId} {x : Operand} (h : WL P ops Q (⟨d, .unOp u s x, ty, pos, af, gu⟩ :: rest) cx L G H) : WL P ops Q (⟨d, .unOp u s x, ty, pos, af, gu⟩ :: rest) cx L G H := h
theorem Un.k_pick {x y z : Operand} (h : WL P ops Q (⟨d, .pick x y z, ty, pos, af, gu⟩ :: rest) cx L G H) : WL P ops Q (⟨d, .pick x y z, ty, pos, af, gu⟩ :: rest) cx L G H := h
theorem Un.k_build {s : TypeId} {ps : Array (Nat × Operand)} (h : WL P ops Q (⟨d, .build s ps, ty, pos, af, gu⟩ :: rest) cx L G H) : WL P ops Q (⟨d, .build s ps, ty, pos, af, gu⟩ :: rest) cx L G H := h
theorem Un.k_indexAddr {s : TypeId} {x y : Operand} (h : WL P ops Q (⟨d, .indexAddr s x y, ty, pos, af, gu⟩ :: rest) cx L G H) : WL P ops Q (⟨d, .indexAddr s x y, ty, pos, af, gu⟩ :: rest) cx L G H := h
theorem Un.k_store {s : TypeId} {x y : Operand} (h : WL P ops Q (⟨d, .store s x y, ty, pos, af, gu⟩ :: rest) cx L G H) : WL P ops Q (⟨d, .store s x y, ty, pos, af, gu⟩ :: rest) cx L G H := h
theorem Un.k_len {xs : Array Operand} {ts : Array TypeId} (h : WL P ops Q (⟨d, .call { callee := .builtin .len, args := xs, argTypes := ts }, ty, pos, af, gu⟩ :: rest) cx L G H) : WL P ops Q (⟨d, .call { callee := .builtin .len, args := xs, argTypes := ts }, ty, pos, af, gu⟩ :: rest) cx L G H := h
theorem Un.k_eql {s u : TypeId} {x y : Operand} (h : WL P ops Q (⟨d, .binOp .eql s x y u, ty, pos, af, gu⟩ :: rest) cx L G H) : WL P ops Q (⟨d, .binOp .eql s x y u, ty, pos, af, gu⟩ :: rest) cx L G H := h
theorem Un.k_neq {s u : TypeId} {x y : Operand} (h : WL P ops Q (⟨d, .binOp .neq s x y u, ty, pos, af, gu⟩ :: rest) cx L G H) : WL P ops Q (⟨d, .binOp .neq s x y u, ty, pos, af, gu⟩ :: rest) cx L G H := h
theorem Un.k_lss {s u : TypeId} {x y : Operand} (h : WL P ops Q (⟨d, .binOp .lss s x y u, ty, pos, af, gu⟩ :: rest) cx L G H) : WL P ops Q (⟨d, .binOp .lss s x y u, ty, pos, af, gu⟩ :: rest) cx L G H := h
theorem Un.k_gtr {s u : TypeId} {x y : Operand} (h : WL P ops Q (⟨d, .binOp .gtr s x y u, ty, pos, af, gu⟩ :: rest) cx L G H) : WL P ops Q (⟨d, .binOp .gtr s x y u, ty, pos, af, gu⟩ :: rest) cx L G H := h
theorem Un.k_geq {s u : TypeId} {x y : Operand} (h : WL P ops Q (⟨d, .binOp .geq s x y u, ty, pos, af, gu⟩ :: rest) cx L G H) : WL P ops Q (⟨d, .binOp .geq s x y u, ty, pos, af, gu⟩ :: rest) cx L G H := h
theorem Un.k_leq {s u : TypeId} {x y : Operand} (h : WL P ops Q (⟨d, .binOp .leq s x y u, ty, pos, af, gu⟩ :: rest) cx L G H) : WL P ops Q (⟨d, .binOp .leq s x y u, ty, pos, af, gu⟩ :: rest) cx L G H := h
theorem Un.k_add {s u : TypeId} {x y : Operand} (h : WL P ops Q (⟨d, .binOp .add s x y u, ty, pos, af, gu⟩ :: rest) cx L G H) : WL P ops Q (⟨d, .binOp .add s x y u, ty, pos, af, gu⟩ :: rest) cx L G H := h
theorem Un.k_sub {s u : TypeId} {x y : Operand} (h : WL P ops Q (⟨d, .binOp .sub s x y u, ty, pos, af, gu⟩ :: rest) cx L G H) : WL P ops Q (⟨d, .binOp .sub s x y u, ty, pos, af, gu⟩ :: rest) cx L G H := h
end
def listedF (n k : Nat) : Array Bool := (List.replicate k true ++ List.replicate (n - k) false).toArray
theorem listedF_zero (n : Nat) : Array.replicate n false = listedF n 0 := by simp [listedF]
theorem listedF_succ {n k : Nat} (h : k < n) : (listedF n k).setIfInBounds k true = listedF n (k + 1) := by
  unfold listedF
  have e : n - k = (n - (k + 1)) + 1 := by omega
  rw [List.setIfInBounds_toArray, e, List.replicate_succ, List.set_append_right _ _ (by simp), List.length_replicate, Nat.sub_self, List.set_cons_zero, List.replicate_succ', List.append_assoc]
  rfl
def WQ (P : Program) (l : List Oper) (Q : Exit → Act → World → Prop) (k : Nat) (rest : List Oper) (cx : Cx) (L : List (Nat × Value)) (G : Gh) (H : List Own) : Prop :=
  l.drop k = rest → WA P l Q rest.length (listedF l.length k) cx L G H
section
variable {P : Program} {Q : Exit → Act → World → Prop} {cx : Cx} {L : List (Nat × Value)} {G : Gh} {H : List Own} {l rest : List Oper} {k : Nat} {o : Oper}
theorem WQ.start {id : Nat} (hm : P.follows .mixedOrders = true) (h : WQ P l Q 0 l cx L G H) : WC P (.region id l.toArray true) Q cx L G H :=
  WC.draw hm (by rw [listedF_zero]; exact h rfl)
theorem WQ.get (h : l.drop k = o :: rest) : l[k]? = some o ∧ k < l.length ∧ l.drop (k + 1) = rest := by
  have h1 : l[k]? = some o := by have := congrArg (fun x => x[0]?) h; simpa [List.getElem?_drop] using this
  exact ⟨h1, (List.getElem?_eq_some_iff.1 h1).1, by rw [← List.tail_drop, h]; rfl⟩
theorem WQ.tv {v : Value} (hv : Gv P L G H o v) (hk : okV l (listedF l.length k) k o = true) (hw : wantB l.toArray L o = some true) (hd : dOk o.dst cx.N = true) [hQ : QPan Q] (h : WQ P l Q (k + 1) rest cx (putL o.dst v L) G H) : WQ P l Q k (o :: rest) cx L G H := fun e => by
  obtain ⟨h1, h2, h3⟩ := WQ.get e
  refine WA.tv h1 hk hw hd hv ?_
  rw [listedF_succ h2]
  exact h h3
theorem WQ.tp {v : Value} (hv : Gp P L o v) (hk : okP l (listedF l.length k) k = true) (hw : wantB l.toArray L o = some true) (hd : dOk o.dst cx.N = true) [hQ : QPan Q] (h : WQ P l Q (k + 1) rest cx (putL o.dst v L) G H) : WQ P l Q k (o :: rest) cx L G H := fun e => by
  obtain ⟨h1, h2, h3⟩ := WQ.get e
  refine WA.tp h1 hk hw hd hv ?_
  rw [listedF_succ h2]
  exact h h3
theorem WQ.sp (hk : okP l (listedF l.length k) k = true) (hw : wantB l.toArray L o = some false) (hd : dOk o.dst cx.N = true) [hQ : QPan Q] (h : WQ P l Q (k + 1) rest cx (putL o.dst undef L) G H) : WQ P l Q k (o :: rest) cx L G H := fun e => by
  obtain ⟨h1, h2, h3⟩ := WQ.get e
  refine WA.sp h1 hk hw hd ?_
  rw [listedF_succ h2]
  exact h h3
theorem WQ.one (hr : Region.ready .any l.toArray (listedF l.length k) = [k]) (hw : wantB l.toArray L o = some true) (h : OW P Q o cx L G H fun L' G' H' => WQ P l Q (k + 1) rest cx L' G' H') : WQ P l Q k (o :: rest) cx L G H := fun e => by
  obtain ⟨h1, h2, h3⟩ := WQ.get e
  refine WA.one hr h1 hw ?_
  rw [listedF_succ h2]
  exact fun next hn => h next fun L' G' H' k' => hn L' G' H' (k' h3)
theorem WQ.done (hr : Region.ready .any l.toArray (listedF l.length k) = []) (h : WK (Q .normal) cx L G H) : WQ P l Q k [] cx L G H := fun e => WA.done hr h
end
section
variable {P : Program} {Q : Exit → Act → World → Prop} {cx : Cx} {L : List (Nat × Value)} {G : Gh} {H : List Own} {l : List Oper} {k : Nat} {rest : List Oper} {d : Option Tmp} {ty : TypeId} {pos : String} {af : Array Edge} {gu : Option (Nat × Bool)} {gd : Nat × Bool} {g : Prop}
theorem Uq.kL (h : WQ P l Q k rest cx L G H) : WQ P l Q k rest cx L G H := h
theorem Uq.kG {o : Op} (h : WQ P l Q k (⟨d, o, ty, pos, af, some gd⟩ :: rest) cx L G H) : WQ P l Q k (⟨d, o, ty, pos, af, some gd⟩ :: rest) cx L G H := h
theorem Uq.kN {o : Op} (h : WQ P l Q k (⟨d, o, ty, pos, af, none⟩ :: rest) cx L G H) : WQ P l Q k (⟨d, o, ty, pos, af, none⟩ :: rest) cx L G H := h
theorem Uq.k_move {x : Operand} (h : WQ P l Q k (⟨d, .move x, ty, pos, af, gu⟩ :: rest) cx L G H) : WQ P l Q k (⟨d, .move x, ty, pos, af, gu⟩ :: rest) cx L G H := h
theorem Uq.k_assign {x : Operand} (h : WQ P l Q k (⟨d, .assign x, ty, pos, af, gu⟩ :: rest) cx L G H) : WQ P l Q k (⟨d, .assign x, ty, pos, af, gu⟩ :: rest) cx L G H := h
theorem Uq.k_fieldAddr {s : TypeId} {n : Nat} {x : Operand} (h : WQ P l Q k (⟨d, .fieldAddr s x n, ty, pos, af, gu⟩ :: rest) cx L G H) : WQ P l Q k (⟨d, .fieldAddr s x n, ty, pos, af, gu⟩ :: rest) cx L G H := h
theorem Uq.k_nilCheck {x : Operand} (h : WQ P l Q k (⟨d, .nilCheck x, ty, pos, af, gu⟩ :: rest) cx L G H) : WQ P l Q k (⟨d, .nilCheck x, ty, pos, af, gu⟩ :: rest) cx L G H := h
theorem Uq.k_extract {x : Operand} {n : Nat} (h : WQ P l Q k (⟨d, .extract x n, ty, pos, af, gu⟩ :: rest) cx L G H) : WQ P l Q k (⟨d, .extract x n, ty, pos, af, gu⟩ :: rest) cx L G H := h
theorem Uq.k_load {s : TypeId} {x : Operand} (h : WQ P l Q k (⟨d, .load s x, ty, pos, af, gu⟩ :: rest) cx L G H) : WQ P l Q k (⟨d, .load s x, ty, pos, af, gu⟩ :: rest) cx L G H := h
theorem Uq.k_unOp {u : UnOp} {s : TypeId} {x : Operand} (h : WQ P l Q k (⟨d, .unOp u s x, ty, pos, af, gu⟩ :: rest) cx L G H) : WQ P l Q k (⟨d, .unOp u s x, ty, pos, af, gu⟩ :: rest) cx L G H := h
theorem Uq.k_pick {x y z : Operand} (h : WQ P l Q k (⟨d, .pick x y z, ty, pos, af, gu⟩ :: rest) cx L G H) : WQ P l Q k (⟨d, .pick x y z, ty, pos, af, gu⟩ :: rest) cx L G H := h
theorem Uq.k_build {s : TypeId} {ps : Array (Nat × Operand)} (h : WQ P l Q k (⟨d, .build s ps, ty, pos, af, gu⟩ :: rest) cx L G H) : WQ P l Q k (⟨d, .build s ps, ty, pos, af, gu⟩ :: rest) cx L G H := h
theorem Uq.k_indexAddr {s : TypeId} {x y : Operand} (h : WQ P l Q k (⟨d, .indexAddr s x y, ty, pos, af, gu⟩ :: rest) cx L G H) : WQ P l Q k (⟨d, .indexAddr s x y, ty, pos, af, gu⟩ :: rest) cx L G H := h
theorem Uq.k_len {xs : Array Operand} {ts : Array TypeId} (h : WQ P l Q k (⟨d, .call { callee := .builtin .len, args := xs, argTypes := ts }, ty, pos, af, gu⟩ :: rest) cx L G H) : WQ P l Q k (⟨d, .call { callee := .builtin .len, args := xs, argTypes := ts }, ty, pos, af, gu⟩ :: rest) cx L G H := h
theorem Uq.k_eql {s u : TypeId} {x y : Operand} (h : WQ P l Q k (⟨d, .binOp .eql s x y u, ty, pos, af, gu⟩ :: rest) cx L G H) : WQ P l Q k (⟨d, .binOp .eql s x y u, ty, pos, af, gu⟩ :: rest) cx L G H := h
theorem Uq.k_neq {s u : TypeId} {x y : Operand} (h : WQ P l Q k (⟨d, .binOp .neq s x y u, ty, pos, af, gu⟩ :: rest) cx L G H) : WQ P l Q k (⟨d, .binOp .neq s x y u, ty, pos, af, gu⟩ :: rest) cx L G H := h
theorem Uq.k_lss {s u : TypeId} {x y : Operand} (h : WQ P l Q k (⟨d, .binOp .lss s x y u, ty, pos, af, gu⟩ :: rest) cx L G H) : WQ P l Q k (⟨d, .binOp .lss s x y u, ty, pos, af, gu⟩ :: rest) cx L G H := h
theorem Uq.k_gtr {s u : TypeId} {x y : Operand} (h : WQ P l Q k (⟨d, .binOp .gtr s x y u, ty, pos, af, gu⟩ :: rest) cx L G H) : WQ P l Q k (⟨d, .binOp .gtr s x y u, ty, pos, af, gu⟩ :: rest) cx L G H := h
theorem Uq.k_geq {s u : TypeId} {x y : Operand} (h : WQ P l Q k (⟨d, .binOp .geq s x y u, ty, pos, af, gu⟩ :: rest) cx L G H) : WQ P l Q k (⟨d, .binOp .geq s x y u, ty, pos, af, gu⟩ :: rest) cx L G H := h
theorem Uq.k_leq {s u : TypeId} {x y : Operand} (h : WQ P l Q k (⟨d, .binOp .leq s x y u, ty, pos, af, gu⟩ :: rest) cx L G H) : WQ P l Q k (⟨d, .binOp .leq s x y u, ty, pos, af, gu⟩ :: rest) cx L G H := h
theorem Uq.k_add {s u : TypeId} {x y : Operand} (h : WQ P l Q k (⟨d, .binOp .add s x y u, ty, pos, af, gu⟩ :: rest) cx L G H) : WQ P l Q k (⟨d, .binOp .add s x y u, ty, pos, af, gu⟩ :: rest) cx L G H := h
theorem Uq.k_sub {s u : TypeId} {x y : Operand} (h : WQ P l Q k (⟨d, .binOp .sub s x y u, ty, pos, af, gu⟩ :: rest) cx L G H) : WQ P l Q k (⟨d, .binOp .sub s x y u, ty, pos, af, gu⟩ :: rest) cx L G H := h
end
theorem go {g g' : Prop} (h : g') (e : Bx g' → g := by
  intro hgo
  repeat (first
    | ((with_reducible refine Un.kL ?_); first
      | (refine Un.kN ?_; first
        | (refine Un.k_move ?_; first | refine WL.p (Gp.move rfl) (by kernel_rfl) rfl ?_)
        | (refine Un.k_assign ?_; first | refine WL.p (Gp.assign rfl) (by kernel_rfl) rfl ?_)
        | (refine Un.k_fieldAddr ?_; first | refine WL.p (Gp.fieldAddr rfl) (by kernel_rfl) rfl ?_)
        | (refine Un.k_nilCheck ?_; first | refine WL.p (Gp.nilCheck rfl) (by kernel_rfl) rfl ?_)
        | (refine Un.k_extract ?_; first | refine WL.p (Gp.extract rfl rfl) (by kernel_rfl) rfl ?_)
        | (refine Un.k_load ?_; first | refine WL.v (Gv.load1 rfl (by (repeat first | exact .here | apply At.there)) (by first | rfl | assumption)) (by kernel_rfl) rfl ?_ | refine WL.v (Gv.loadN rfl (by (repeat first | exact .here | apply At.there)) (by rfl) (by rfl)) (by kernel_rfl) rfl ?_ | refine WL.v (Gv.loadG1 rfl (by assumption) (by rfl)) (by kernel_rfl) rfl ?_ | refine WL.v (Gv.loadG0 rfl (by assumption) (by rfl)) (by kernel_rfl) rfl ?_ | refine WL.v (Gv.loadGN rfl (by assumption) (by rfl)) (by kernel_rfl) rfl ?_)
        | (refine Un.k_unOp ?_; first | refine WL.p (Gp.notB rfl) (by kernel_rfl) rfl ?_ | refine WL.p (Gp.negI rfl) (by kernel_rfl) rfl ?_)
        | (refine Un.k_pick ?_; first | refine WL.p (Gp.pickT rfl rfl) (by kernel_rfl) rfl ?_ | refine WL.p (Gp.pickF rfl rfl) (by kernel_rfl) rfl ?_)
        | (refine Un.k_build ?_; first | refine WL.p (Gp.build rfl rfl) (by kernel_rfl) rfl ?_)
        | (refine Un.k_indexAddr ?_; first | refine WL.p (Gp.indexAddr rfl rfl (by first | assumption | omega | decide) (by first | assumption | omega | decide)) (by kernel_rfl) rfl ?_)
        | (refine Un.k_store ?_; first | refine WL.op (by kernel_rfl) (OW.store rfl rfl (by (repeat first | exact .here | apply At.there)) rfl (by rfl) (by rfl) (by first | rfl | assumption) (by rfl) ?_ rfl))
        | (refine Un.k_len ?_; first | refine WL.p (Gp.lenSl rfl) (by kernel_rfl) rfl ?_ | refine WL.p (Gp.lenS rfl) (by kernel_rfl) rfl ?_)
        | (refine Un.k_eql ?_; first | refine WL.p (Gp.eqI' rfl rfl (by assumption)) (by kernel_rfl) rfl ?_ | refine WL.p (Gp.eqI rfl rfl) (by kernel_rfl) rfl ?_ | refine WL.p (Gp.eqS rfl rfl) (by kernel_rfl) rfl ?_ | refine WL.p (Gp.eqB rfl rfl) (by kernel_rfl) rfl ?_ | refine WL.p (Gp.nilSl rfl) (by kernel_rfl) rfl ?_)
        | (refine Un.k_neq ?_; first | refine WL.p (Gp.neI' rfl rfl (by assumption)) (by kernel_rfl) rfl ?_ | refine WL.p (Gp.neI rfl rfl) (by kernel_rfl) rfl ?_ | refine WL.p (Gp.neS rfl rfl) (by kernel_rfl) rfl ?_ | refine WL.p (Gp.neB rfl rfl) (by kernel_rfl) rfl ?_)
        | (refine Un.k_lss ?_; first | refine WL.p (Gp.ltI' rfl rfl (by assumption)) (by kernel_rfl) rfl ?_ | refine WL.p (Gp.ltI rfl rfl) (by kernel_rfl) rfl ?_ | refine WL.p (Gp.ltS rfl rfl) (by kernel_rfl) rfl ?_)
        | (refine Un.k_gtr ?_; first | refine WL.p (Gp.gtI' rfl rfl (by assumption)) (by kernel_rfl) rfl ?_ | refine WL.p (Gp.gtI rfl rfl) (by kernel_rfl) rfl ?_)
        | (refine Un.k_geq ?_; first | refine WL.p (Gp.geI' rfl rfl (by assumption)) (by kernel_rfl) rfl ?_ | refine WL.p (Gp.geI rfl rfl) (by kernel_rfl) rfl ?_ | refine WL.p (Gp.geS rfl rfl) (by kernel_rfl) rfl ?_)
        | (refine Un.k_leq ?_; first | refine WL.p (Gp.leI' rfl rfl (by assumption)) (by kernel_rfl) rfl ?_ | refine WL.p (Gp.leI rfl rfl) (by kernel_rfl) rfl ?_)
        | (refine Un.k_add ?_; first | refine WL.p (Gp.add' rfl rfl (by assumption)) (by kernel_rfl) rfl ?_)
        | (refine Un.k_sub ?_; first | refine WL.p (Gp.sub' rfl rfl (by assumption)) (by kernel_rfl) rfl ?_))
      | (refine Un.kG ?_; first
        | refine WL.skip (by rfl) rfl ?_
        | (refine Un.k_move ?_; first | refine WL.p (Gp.move rfl) (by rfl) rfl ?_)
        | (refine Un.k_assign ?_; first | refine WL.p (Gp.assign rfl) (by rfl) rfl ?_)
        | (refine Un.k_fieldAddr ?_; first | refine WL.p (Gp.fieldAddr rfl) (by rfl) rfl ?_)
        | (refine Un.k_nilCheck ?_; first | refine WL.p (Gp.nilCheck rfl) (by rfl) rfl ?_)
        | (refine Un.k_extract ?_; first | refine WL.p (Gp.extract rfl rfl) (by rfl) rfl ?_)
        | (refine Un.k_load ?_; first | refine WL.v (Gv.load1 rfl (by (repeat first | exact .here | apply At.there)) (by first | rfl | assumption)) (by rfl) rfl ?_ | refine WL.v (Gv.loadN rfl (by (repeat first | exact .here | apply At.there)) (by rfl) (by rfl)) (by rfl) rfl ?_ | refine WL.v (Gv.loadG1 rfl (by assumption) (by rfl)) (by rfl) rfl ?_ | refine WL.v (Gv.loadG0 rfl (by assumption) (by rfl)) (by rfl) rfl ?_ | refine WL.v (Gv.loadGN rfl (by assumption) (by rfl)) (by rfl) rfl ?_)
        | (refine Un.k_unOp ?_; first | refine WL.p (Gp.notB rfl) (by rfl) rfl ?_ | refine WL.p (Gp.negI rfl) (by rfl) rfl ?_)
        | (refine Un.k_pick ?_; first | refine WL.p (Gp.pickT rfl rfl) (by rfl) rfl ?_ | refine WL.p (Gp.pickF rfl rfl) (by rfl) rfl ?_)
        | (refine Un.k_build ?_; first | refine WL.p (Gp.build rfl rfl) (by rfl) rfl ?_)
        | (refine Un.k_indexAddr ?_; first | refine WL.p (Gp.indexAddr rfl rfl (by first | assumption | omega | decide) (by first | assumption | omega | decide)) (by rfl) rfl ?_)
        | (refine Un.k_store ?_; first | refine WL.op (by rfl) (OW.store rfl rfl (by (repeat first | exact .here | apply At.there)) rfl (by rfl) (by rfl) (by first | rfl | assumption) (by rfl) ?_ rfl))
        | (refine Un.k_len ?_; first | refine WL.p (Gp.lenSl rfl) (by rfl) rfl ?_ | refine WL.p (Gp.lenS rfl) (by rfl) rfl ?_)
        | (refine Un.k_eql ?_; first | refine WL.p (Gp.eqI' rfl rfl (by assumption)) (by rfl) rfl ?_ | refine WL.p (Gp.eqI rfl rfl) (by rfl) rfl ?_ | refine WL.p (Gp.eqS rfl rfl) (by rfl) rfl ?_ | refine WL.p (Gp.eqB rfl rfl) (by rfl) rfl ?_ | refine WL.p (Gp.nilSl rfl) (by rfl) rfl ?_)
        | (refine Un.k_neq ?_; first | refine WL.p (Gp.neI' rfl rfl (by assumption)) (by rfl) rfl ?_ | refine WL.p (Gp.neI rfl rfl) (by rfl) rfl ?_ | refine WL.p (Gp.neS rfl rfl) (by rfl) rfl ?_ | refine WL.p (Gp.neB rfl rfl) (by rfl) rfl ?_)
        | (refine Un.k_lss ?_; first | refine WL.p (Gp.ltI' rfl rfl (by assumption)) (by rfl) rfl ?_ | refine WL.p (Gp.ltI rfl rfl) (by rfl) rfl ?_ | refine WL.p (Gp.ltS rfl rfl) (by rfl) rfl ?_)
        | (refine Un.k_gtr ?_; first | refine WL.p (Gp.gtI' rfl rfl (by assumption)) (by rfl) rfl ?_ | refine WL.p (Gp.gtI rfl rfl) (by rfl) rfl ?_)
        | (refine Un.k_geq ?_; first | refine WL.p (Gp.geI' rfl rfl (by assumption)) (by rfl) rfl ?_ | refine WL.p (Gp.geI rfl rfl) (by rfl) rfl ?_ | refine WL.p (Gp.geS rfl rfl) (by rfl) rfl ?_)
        | (refine Un.k_leq ?_; first | refine WL.p (Gp.leI' rfl rfl (by assumption)) (by rfl) rfl ?_ | refine WL.p (Gp.leI rfl rfl) (by rfl) rfl ?_)
        | (refine Un.k_add ?_; first | refine WL.p (Gp.add' rfl rfl (by assumption)) (by rfl) rfl ?_)
        | (refine Un.k_sub ?_; first | refine WL.p (Gp.sub' rfl rfl (by assumption)) (by rfl) rfl ?_))
      | with_reducible refine WL.nil ?_)
    | ((with_reducible refine Un.kC ?_); first
      | with_reducible refine WC.seq ?_
      | with_reducible refine WC.region ?_
      | with_reducible refine WC.block ?_
      | with_reducible refine WC.skip ?_
      | with_reducible refine WC.exit ?_
      | refine WC.cond_true rfl ?_
      | refine WC.cond_false rfl ?_)
    | with_reducible refine WK.thN ?_
    | with_reducible refine WK.thR ?_
    | with_reducible refine WK.thE ?_
    | with_reducible refine WK.thP ?_
    | with_reducible refine WK.blN ?_
    | with_reducible refine WK.blR ?_
    | with_reducible refine WK.blP ?_
    | with_reducible refine WK.blE ?_
    | with_reducible refine WK.blO rfl ?_
    | with_reducible refine WK.thJ ?_)
  exact hgo.out) : g := e ⟨h⟩
end Go.Proofs.YtcnlkfocbbkdhaaGreatDoor.Gb
namespace Go.Proofs.YtcnlkfocbbkdhaaGreatDoor.Gb
open Go Go.MapKept
theorem map_eraseIdx' {α β : Type} (f : α → β) : ∀ (l : List α) (j : Nat), (l.eraseIdx j).map f = (l.map f).eraseIdx j
  | [], _ => rfl
  | _ :: _, 0 => rfl
  | a :: l, j + 1 => by simp [map_eraseIdx' f l j]
structure MRel {κ : Type} (emb : κ → Value) (d : TypeDesc) (es : Array MapEntry) (clock : Nat) (m : List (κ × Value)) : Prop where
  ents : es.toList.map (fun e => (e.key, e.val)) = m.map (fun p => (emb p.1, p.2))
  keys : (m.map (·.1)).Nodup
  borns : (es.toList.map (·.born)).Nodup
  old : ∀ e ∈ es.toList, e.born < clock
section
variable {κ : Type} [DecidableEq κ] {emb : κ → Value} {d : TypeDesc} {es : Array MapEntry} {clock : Nat} {m : List (κ × Value)}
def getA (m : List (κ × Value)) (k : κ) : Option Value := (m.find? (fun p => decide (p.1 = k))).map (·.2)
def setA (m : List (κ × Value)) (k : κ) (v : Value) : List (κ × Value) := if k ∈ m.map (·.1) then m.map (fun p => if p.1 = k then (k, v) else p) else m ++ [(k, v)]
def delA (m : List (κ × Value)) (k : κ) : List (κ × Value) := m.filter (fun p => decide (p.1 ≠ k))
class Emb (emb : κ → Value) (d : TypeDesc) : Prop where
  inj : ∀ {a b : κ}, emb a = emb b → a = b
  key : ∀ a : κ, IsKey d (emb a)
theorem MRel.empty : MRel emb d #[] 0 [] := ⟨rfl, by simp, by simp, by simp⟩
variable [he : Emb emb d]
theorem MRel.isKey (h : MRel emb d es clock m) : ∀ e ∈ es.toList, IsKey d e.key := fun e hm => by
  have h1 : (e.key, e.val) ∈ es.toList.map (fun e => (e.key, e.val)) := List.mem_map_of_mem hm
  rw [h.ents] at h1
  obtain ⟨p, _, hp⟩ := List.mem_map.1 h1
  have : emb p.1 = e.key := congrArg Prod.fst hp
  rw [← this]; exact he.key _
theorem MRel.at (h : MRel emb d es clock m) {j : Nat} {e : MapEntry} (hj : es.toList[j]? = some e) : ∃ p, m[j]? = some p ∧ e.key = emb p.1 ∧ e.val = p.2 := by
  have h1 := congrArg (fun l => l[j]?) h.ents
  simp only [List.getElem?_map, hj, Option.map_some] at h1
  cases hp : m[j]? with
  | none => rw [hp] at h1; cases h1
  | some p =>
    rw [hp] at h1
    simp only [Option.map_some, Option.some.injEq, Prod.mk.injEq] at h1
    exact ⟨p, rfl, h1⟩
theorem MRel.len (h : MRel emb d es clock m) : es.size = m.length := by
  have := congrArg List.length h.ents
  simpa using this
theorem MRel.absent (h : MRel emb d es clock m) {k : κ} (hk : ∀ x ∈ es.toList, x.key ≠ emb k) : k ∉ m.map (·.1) := fun hm => by
  obtain ⟨p, hp, rfl⟩ := List.mem_map.1 hm
  have h1 : (emb p.1, p.2) ∈ m.map (fun p => (emb p.1, p.2)) := List.mem_map.2 ⟨p, hp, rfl⟩
  rw [← h.ents] at h1
  obtain ⟨e, hm, hx⟩ := List.mem_map.1 h1
  exact hk e hm (congrArg Prod.fst hx)
theorem getA_absent {k : κ} (h : k ∉ m.map (·.1)) : getA m k = none := by
  unfold getA
  rw [List.find?_eq_none.2 fun p hp => by simp; exact fun e => h (List.mem_map.2 ⟨p, hp, e⟩)]
  rfl
theorem getA_at {j : Nat} {p : κ × Value} (hn : (m.map (·.1)).Nodup) (hj : m[j]? = some p) : getA m p.1 = some p.2 := by
  unfold getA
  induction m generalizing j with
  | nil => simp at hj
  | cons q m ih =>
    cases j with
    | zero => simp at hj; subst hj; simp
    | succ j =>
      simp only [List.getElem?_cons_succ] at hj
      simp only [List.map_cons, List.nodup_cons] at hn
      have hne : q.1 ≠ p.1 := fun e => hn.1 (e ▸ List.mem_map_of_mem (List.mem_of_getElem? hj))
      rw [List.find?_cons_of_neg (by simpa using hne)]
      exact ih hn.2 hj
theorem MRel.setNew (h : MRel emb d es clock m) {k : κ} {v : Value} (hk : k ∉ m.map (·.1)) : MRel emb d (es.push ⟨emb k, v, clock⟩) (clock + 1) (setA m k v) := by
  rw [setA, if_neg hk]
  refine ⟨by simp [h.ents], ?_, ?_, ?_⟩
  · rw [List.map_append, List.nodup_append]
    refine ⟨h.keys, by simp, fun a ha b hb => ?_⟩
    simp at hb; subst hb; exact fun e => hk (e ▸ ha)
  · rw [Array.toList_push, List.map_append, List.nodup_append]
    refine ⟨h.borns, by simp, fun a ha b hb => ?_⟩
    simp at hb; subst hb
    obtain ⟨e, he, rfl⟩ := List.mem_map.1 ha
    have := h.old e he; omega
  · intro e hm
    simp at hm
    rcases hm with hm | rfl
    · have := h.old e (by simpa using hm); omega
    · show clock < clock + 1; omega
theorem keys_set {k : κ} {v : Value} : (m.map (fun p => if p.1 = k then (k, v) else p)).map (·.1) = m.map (·.1) := by
  rw [List.map_map]
  apply List.map_congr_left
  intro p _
  simp only [Function.comp]
  split
  · rename_i e; exact e.symm
  · rfl
theorem MRel.setOld (h : MRel emb d es clock m) {k : κ} {v : Value} {j : Nat} {e : MapEntry} (hj : es.toList[j]? = some e) (hk : e.key = emb k) : MRel emb d (es.modify j fun e => { e with key := emb k, val := v }) clock (setA m k v) := by
  obtain ⟨p, hp, h1, h2⟩ := h.at hj
  have hpk : p.1 = k := he.inj (h1.symm.trans hk)
  have hmem : k ∈ m.map (·.1) := List.mem_map.2 ⟨p, List.mem_of_getElem? hp, hpk⟩
  rw [setA, if_pos hmem]
  have hjl : j < es.size := by simpa using (List.getElem?_eq_some_iff.1 hj).1
  refine ⟨?_, by rw [keys_set]; exact h.keys, ?_, ?_⟩
  · apply List.ext_getElem?
    intro i
    simp only [List.getElem?_map, Array.getElem?_toList, Array.getElem?_modify]
    by_cases hij : j = i
    · subst hij
      have : es[j]? = some e := by simpa using hj
      simp only [if_true, this, hp, Option.map_some, if_pos hpk]
    · rw [if_neg hij]
      have h3 := congrArg (fun l => l[i]?) h.ents
      simp only [List.getElem?_map, Array.getElem?_toList] at h3
      rw [h3]
      cases hq : m[i]? with
      | none => rfl
      | some q =>
        have hne : q.1 ≠ k := fun e' => by
          have hn := h.keys
          have h4 : (m.map (·.1))[i]? = some k := by rw [List.getElem?_map, hq]; simp [e']
          have h5 : (m.map (·.1))[j]? = some k := by rw [List.getElem?_map, hp]; simp [hpk]
          have hi1 := (List.getElem?_eq_some_iff.1 h4).1
          have := (List.getElem?_inj hi1 hn).1 (h4.trans h5.symm)
          exact hij this.symm
        simp only [Option.map_some, if_neg hne]
  · have : (es.modify j fun e => { e with key := emb k, val := v }).toList.map (·.born) = es.toList.map (·.born) := by
      apply List.ext_getElem?
      intro i
      simp only [List.getElem?_map, Array.getElem?_toList, Array.getElem?_modify]
      by_cases hij : j = i
      · subst hij; simp
        cases es[j]? <;> rfl
      · rw [if_neg hij]
    rw [this]; exact h.borns
  · intro x hx
    obtain ⟨i, hi⟩ := List.getElem?_of_mem hx
    rw [Array.getElem?_toList, Array.getElem?_modify] at hi
    by_cases hij : j = i
    · subst hij
      rw [if_pos rfl] at hi
      have hj' : es[j]? = some e := by simpa using hj
      rw [hj'] at hi
      simp at hi
      subst hi
      exact h.old e (List.mem_of_getElem? hj)
    · rw [if_neg hij] at hi
      exact h.old x (by rw [Array.mem_toList_iff]; exact Array.mem_of_getElem? hi)
theorem MRel.delOld (h : MRel emb d es clock m) {k : κ} {j : Nat} {e : MapEntry} (hj : es.toList[j]? = some e) (hk : e.key = emb k) : MRel emb d (es.eraseIdxIfInBounds j) clock (delA m k) := by
  obtain ⟨p, hp, h1, h2⟩ := h.at hj
  have hpk : p.1 = k := he.inj (h1.symm.trans hk)
  have hjl : j < es.size := by simpa using (List.getElem?_eq_some_iff.1 hj).1
  have hto : (es.eraseIdxIfInBounds j).toList = es.toList.eraseIdx j := by simp
  have hgo : ∀ (m : List (κ × Value)) (j : Nat), m[j]? = some p → (m.map (·.1)).Nodup → m.filter (fun p => decide (p.1 ≠ k)) = m.eraseIdx j := by
    intro m
    induction m with
    | nil => intro j hp _; simp at hp
    | cons q m ih =>
      intro j hp hn
      simp only [List.map_cons, List.nodup_cons] at hn
      cases j with
      | zero =>
        simp at hp; subst hp
        rw [List.filter_cons_of_neg (by simp [hpk]), List.eraseIdx_cons_zero, List.filter_eq_self]
        intro x hx
        have : x.1 ≠ k := fun e' => hn.1 (by rw [hpk, ← e']; exact List.mem_map_of_mem hx)
        simpa using this
      | succ j =>
        simp only [List.getElem?_cons_succ] at hp
        have hne : q.1 ≠ k := fun e' => hn.1 (by rw [e', ← hpk]; exact List.mem_map_of_mem (List.mem_of_getElem? hp))
        rw [List.filter_cons_of_pos (by simpa using hne), List.eraseIdx_cons_succ, ih j hp hn.2]
  have hdel : delA m k = m.eraseIdx j := hgo m j hp h.keys
  refine ⟨?_, ?_, ?_, ?_⟩
  · rw [hto, hdel, map_eraseIdx', h.ents, map_eraseIdx']
  · rw [hdel, map_eraseIdx']; exact h.keys.sublist (List.eraseIdx_sublist ..)
  · rw [hto, map_eraseIdx']; exact h.borns.sublist (List.eraseIdx_sublist ..)
  · intro x hx
    rw [hto] at hx
    exact h.old x ((List.eraseIdx_sublist ..).subset hx)
theorem delA_absent {k : κ} (h : k ∉ m.map (·.1)) : delA m k = m := by
  unfold delA
  rw [List.filter_eq_self]
  intro p hp
  have : p.1 ≠ k := fun e => h (List.mem_map.2 ⟨p, hp, e⟩)
  simpa using this
end
end Go.Proofs.YtcnlkfocbbkdhaaGreatDoor.Gb
