/- What is known of the types and functions of this seat, as the rules of the small logic ask for it. The machine's stack and its small helpers: what each comes to. The machine's stack and its small helpers, part 2. The machine's values and tests. Numbers and texts compared and reckoned with. What is taken from the stack, and laid there. Values of a type are taken; two are compared. Two values are compared by their order. -/
import Derived.Test.YtjgohbepageicaaOb
import Derived.Test.YtjgohbepageicaaProg
namespace Go.Proofs.Ytjgohbepageicaa.Gb
open Go Go.Proofs
instance : Und Try.prog 2 (.int .i64) := ⟨by kernel_rfl⟩
instance inf2 : Inf Try.prog 2 1 8 (.int .i64 0) := ⟨by kernel_rfl⟩
instance : Agg Try.prog 2 false := ⟨fun w => by simp [isAgg, run_underlying Try.underlying2]⟩
instance : Und Try.prog 3 (.int .i64) := ⟨by kernel_rfl⟩
instance inf3 : Inf Try.prog 3 1 8 (.int .i64 0) := ⟨by kernel_rfl⟩
instance : Agg Try.prog 3 false := ⟨fun w => by simp [isAgg, run_underlying Try.underlying3]⟩
instance : Und Try.prog 4 .bool := ⟨by kernel_rfl⟩
instance inf4 : Inf Try.prog 4 1 1 (.bool false) := ⟨by kernel_rfl⟩
instance : Agg Try.prog 4 false := ⟨fun w => by simp [isAgg, run_underlying Try.underlying4]⟩
instance : Und Try.prog 5 (.int .u8) := ⟨by kernel_rfl⟩
instance inf5 : Inf Try.prog 5 1 1 (.int .u8 0) := ⟨by kernel_rfl⟩
instance : Agg Try.prog 5 false := ⟨fun w => by simp [isAgg, run_underlying Try.underlying5]⟩
instance : Und Try.prog 6 (.int .u8) := ⟨by kernel_rfl⟩
instance inf6 : Inf Try.prog 6 1 1 (.int .u8 0) := ⟨by kernel_rfl⟩
instance : Agg Try.prog 6 false := ⟨fun w => by simp [isAgg, run_underlying Try.underlying6]⟩
instance inf7 : Inf Try.prog 7 4 24 (.agg #[(.int .i64 0), (.int .i64 0), (.bool false), (.int .u8 0)]) := ⟨by kernel_rfl⟩
instance : Agg Try.prog 7 true := ⟨fun w => by simp [isAgg, run_underlying Try.underlying7]⟩
instance : Plc Try.prog 7 [(0, 1), (1, 1), (2, 1), (3, 1)] := ⟨fun w => ⟨_, Try.underlying7, run_places w _ _ (by kernel_rfl)⟩⟩
instance : Fld Try.prog 7 0 0 := mk_fld Try.underlying7 rfl (inf2).pos rfl
instance : Fld Try.prog 7 1 1 := mk_fld Try.underlying7 rfl (inf3).pos rfl
instance : Fld Try.prog 7 2 2 := mk_fld Try.underlying7 rfl (inf4).pos rfl
instance : Fld Try.prog 7 3 3 := mk_fld Try.underlying7 rfl (inf6).pos rfl
instance inf8 : Inf Try.prog 8 4 24 (.agg #[(.int .i64 0), (.int .i64 0), (.bool false), (.int .u8 0)]) := ⟨by kernel_rfl⟩
instance : Agg Try.prog 8 true := ⟨fun w => by simp [isAgg, run_underlying Try.underlying8]⟩
instance : Plc Try.prog 8 [(0, 1), (1, 1), (2, 1), (3, 1)] := ⟨fun w => ⟨_, Try.underlying8, run_places w _ _ (by kernel_rfl)⟩⟩
instance : Fld Try.prog 8 0 0 := mk_fld Try.underlying8 rfl (inf2).pos rfl
instance : Fld Try.prog 8 1 1 := mk_fld Try.underlying8 rfl (inf3).pos rfl
instance : Fld Try.prog 8 2 2 := mk_fld Try.underlying8 rfl (inf4).pos rfl
instance : Fld Try.prog 8 3 3 := mk_fld Try.underlying8 rfl (inf6).pos rfl
instance : Und Try.prog 9 .string := ⟨by kernel_rfl⟩
instance inf9 : Inf Try.prog 9 1 16 (.string ⟨#[]⟩) := ⟨by kernel_rfl⟩
instance : Agg Try.prog 9 false := ⟨fun w => by simp [isAgg, run_underlying Try.underlying9]⟩
instance : Und Try.prog 10 .string := ⟨by kernel_rfl⟩
instance inf10 : Inf Try.prog 10 1 16 (.string ⟨#[]⟩) := ⟨by kernel_rfl⟩
instance : Agg Try.prog 10 false := ⟨fun w => by simp [isAgg, run_underlying Try.underlying10]⟩
instance : Und Try.prog 11 .string := ⟨by kernel_rfl⟩
instance inf11 : Inf Try.prog 11 1 16 (.string ⟨#[]⟩) := ⟨by kernel_rfl⟩
instance : Agg Try.prog 11 false := ⟨fun w => by simp [isAgg, run_underlying Try.underlying11]⟩
instance : Und Try.prog 12 (.int .u64) := ⟨by kernel_rfl⟩
instance inf12 : Inf Try.prog 12 1 8 (.int .u64 0) := ⟨by kernel_rfl⟩
instance : Agg Try.prog 12 false := ⟨fun w => by simp [isAgg, run_underlying Try.underlying12]⟩
instance inf13 : Inf Try.prog 13 2 24 (.agg #[(.string ⟨#[]⟩), (.int .u64 0)]) := ⟨by kernel_rfl⟩
instance : Agg Try.prog 13 true := ⟨fun w => by simp [isAgg, run_underlying Try.underlying13]⟩
instance : Plc Try.prog 13 [(0, 1), (1, 1)] := ⟨fun w => ⟨_, Try.underlying13, run_places w _ _ (by kernel_rfl)⟩⟩
instance : Fld Try.prog 13 0 0 := mk_fld Try.underlying13 rfl (inf9).pos rfl
instance : Fld Try.prog 13 1 1 := mk_fld Try.underlying13 rfl (inf12).pos rfl
instance inf14 : Inf Try.prog 14 2 24 (.agg #[(.string ⟨#[]⟩), (.int .u64 0)]) := ⟨by kernel_rfl⟩
instance : Agg Try.prog 14 true := ⟨fun w => by simp [isAgg, run_underlying Try.underlying14]⟩
instance : Plc Try.prog 14 [(0, 1), (1, 1)] := ⟨fun w => ⟨_, Try.underlying14, run_places w _ _ (by kernel_rfl)⟩⟩
instance : Fld Try.prog 14 0 0 := mk_fld Try.underlying14 rfl (inf9).pos rfl
instance : Fld Try.prog 14 1 1 := mk_fld Try.underlying14 rfl (inf12).pos rfl
instance : Und Try.prog 15 (.pointer 142) := ⟨by kernel_rfl⟩
instance inf15 : Inf Try.prog 15 1 8 (.pointer none) := ⟨by kernel_rfl⟩
instance : Agg Try.prog 15 false := ⟨fun w => by simp [isAgg, run_underlying Try.underlying15]⟩
instance : Und Try.prog 16 (.pointer 145) := ⟨by kernel_rfl⟩
instance inf16 : Inf Try.prog 16 1 8 (.pointer none) := ⟨by kernel_rfl⟩
instance : Agg Try.prog 16 false := ⟨fun w => by simp [isAgg, run_underlying Try.underlying16]⟩
instance : Und Try.prog 17 (.pointer 154) := ⟨by kernel_rfl⟩
instance inf17 : Inf Try.prog 17 1 8 (.pointer none) := ⟨by kernel_rfl⟩
instance : Agg Try.prog 17 false := ⟨fun w => by simp [isAgg, run_underlying Try.underlying17]⟩
instance inf18 : Inf Try.prog 18 1 8 (.agg #[(.pointer none)]) := ⟨by kernel_rfl⟩
instance : Agg Try.prog 18 true := ⟨fun w => by simp [isAgg, run_underlying Try.underlying18]⟩
instance : Plc Try.prog 18 [(0, 1)] := ⟨fun w => ⟨_, Try.underlying18, run_places w _ _ (by kernel_rfl)⟩⟩
instance : Fld Try.prog 18 0 0 := mk_fld Try.underlying18 rfl (inf17).pos rfl
instance inf19 : Inf Try.prog 19 1 8 (.agg #[(.pointer none)]) := ⟨by kernel_rfl⟩
instance : Agg Try.prog 19 true := ⟨fun w => by simp [isAgg, run_underlying Try.underlying19]⟩
instance : Plc Try.prog 19 [(0, 1)] := ⟨fun w => ⟨_, Try.underlying19, run_places w _ _ (by kernel_rfl)⟩⟩
instance : Fld Try.prog 19 0 0 := mk_fld Try.underlying19 rfl (inf17).pos rfl
instance : Und Try.prog 21 (.int .i32) := ⟨by kernel_rfl⟩
instance inf21 : Inf Try.prog 21 1 4 (.int .i32 0) := ⟨by kernel_rfl⟩
instance : Agg Try.prog 21 false := ⟨fun w => by simp [isAgg, run_underlying Try.underlying21]⟩
instance : Und Try.prog 22 (.slice 33) := ⟨by kernel_rfl⟩
instance inf22 : Inf Try.prog 22 1 24 (.slice none 0 0) := ⟨by kernel_rfl⟩
instance : Agg Try.prog 22 false := ⟨fun w => by simp [isAgg, run_underlying Try.underlying22]⟩
instance : Und Try.prog 23 (.slice 55) := ⟨by kernel_rfl⟩
instance inf23 : Inf Try.prog 23 1 24 (.slice none 0 0) := ⟨by kernel_rfl⟩
instance : Agg Try.prog 23 false := ⟨fun w => by simp [isAgg, run_underlying Try.underlying23]⟩
instance : Und Try.prog 24 (.slice 156) := ⟨by kernel_rfl⟩
instance inf24 : Inf Try.prog 24 1 24 (.slice none 0 0) := ⟨by kernel_rfl⟩
instance : Agg Try.prog 24 false := ⟨fun w => by simp [isAgg, run_underlying Try.underlying24]⟩
instance inf25 : Inf Try.prog 25 3 72 (.agg #[(.slice none 0 0), (.slice none 0 0), (.slice none 0 0)]) := ⟨by kernel_rfl⟩
instance : Agg Try.prog 25 true := ⟨fun w => by simp [isAgg, run_underlying Try.underlying25]⟩
instance : Plc Try.prog 25 [(0, 1), (1, 1), (2, 1)] := ⟨fun w => ⟨_, Try.underlying25, run_places w _ _ (by kernel_rfl)⟩⟩
instance : Fld Try.prog 25 0 0 := mk_fld Try.underlying25 rfl (inf22).pos rfl
instance : Fld Try.prog 25 1 1 := mk_fld Try.underlying25 rfl (inf23).pos rfl
instance : Fld Try.prog 25 2 2 := mk_fld Try.underlying25 rfl (inf24).pos rfl
instance inf26 : Inf Try.prog 26 3 72 (.agg #[(.slice none 0 0), (.slice none 0 0), (.slice none 0 0)]) := ⟨by kernel_rfl⟩
instance : Agg Try.prog 26 true := ⟨fun w => by simp [isAgg, run_underlying Try.underlying26]⟩
instance : Plc Try.prog 26 [(0, 1), (1, 1), (2, 1)] := ⟨fun w => ⟨_, Try.underlying26, run_places w _ _ (by kernel_rfl)⟩⟩
instance : Fld Try.prog 26 0 0 := mk_fld Try.underlying26 rfl (inf22).pos rfl
instance : Fld Try.prog 26 1 1 := mk_fld Try.underlying26 rfl (inf23).pos rfl
instance : Fld Try.prog 26 2 2 := mk_fld Try.underlying26 rfl (inf24).pos rfl
instance inf27 : Inf Try.prog 27 5 104 (.agg #[(.slice none 0 0), (.slice none 0 0), (.slice none 0 0), (.int .i64 0), (.slice none 0 0)]) := ⟨by kernel_rfl⟩
instance : Agg Try.prog 27 true := ⟨fun w => by simp [isAgg, run_underlying Try.underlying27]⟩
instance : Plc Try.prog 27 [(0, 3), (3, 1), (4, 1)] := ⟨fun w => ⟨_, Try.underlying27, run_places w _ _ (by kernel_rfl)⟩⟩
instance : Fld Try.prog 27 0 0 := mk_fld Try.underlying27 rfl (inf26).pos rfl
instance : Fld Try.prog 27 1 3 := mk_fld Try.underlying27 rfl (inf3).pos rfl
instance : Fld Try.prog 27 2 4 := mk_fld Try.underlying27 rfl (inf22).pos rfl
instance inf28 : Inf Try.prog 28 5 104 (.agg #[(.slice none 0 0), (.slice none 0 0), (.slice none 0 0), (.int .i64 0), (.slice none 0 0)]) := ⟨by kernel_rfl⟩
instance : Agg Try.prog 28 true := ⟨fun w => by simp [isAgg, run_underlying Try.underlying28]⟩
instance : Plc Try.prog 28 [(0, 3), (3, 1), (4, 1)] := ⟨fun w => ⟨_, Try.underlying28, run_places w _ _ (by kernel_rfl)⟩⟩
instance : Fld Try.prog 28 0 0 := mk_fld Try.underlying28 rfl (inf26).pos rfl
instance : Fld Try.prog 28 1 3 := mk_fld Try.underlying28 rfl (inf3).pos rfl
instance : Fld Try.prog 28 2 4 := mk_fld Try.underlying28 rfl (inf22).pos rfl
instance : Und Try.prog 31 (.int .i64) := ⟨by kernel_rfl⟩
instance inf31 : Inf Try.prog 31 1 8 (.int .i64 0) := ⟨by kernel_rfl⟩
instance : Agg Try.prog 31 false := ⟨fun w => by simp [isAgg, run_underlying Try.underlying31]⟩
instance inf32 : Inf Try.prog 32 4 40 (.agg #[(.int .i64 0), (.int .i64 0), (.bool false), (.string ⟨#[]⟩)]) := ⟨by kernel_rfl⟩
instance : Agg Try.prog 32 true := ⟨fun w => by simp [isAgg, run_underlying Try.underlying32]⟩
instance : Plc Try.prog 32 [(0, 1), (1, 1), (2, 1), (3, 1)] := ⟨fun w => ⟨_, Try.underlying32, run_places w _ _ (by kernel_rfl)⟩⟩
instance : Fld Try.prog 32 0 0 := mk_fld Try.underlying32 rfl (inf31).pos rfl
instance : Fld Try.prog 32 1 1 := mk_fld Try.underlying32 rfl (inf2).pos rfl
instance : Fld Try.prog 32 2 2 := mk_fld Try.underlying32 rfl (inf4).pos rfl
instance : Fld Try.prog 32 3 3 := mk_fld Try.underlying32 rfl (inf9).pos rfl
instance inf33 : Inf Try.prog 33 4 40 (.agg #[(.int .i64 0), (.int .i64 0), (.bool false), (.string ⟨#[]⟩)]) := ⟨by kernel_rfl⟩
instance : Agg Try.prog 33 true := ⟨fun w => by simp [isAgg, run_underlying Try.underlying33]⟩
instance : Plc Try.prog 33 [(0, 1), (1, 1), (2, 1), (3, 1)] := ⟨fun w => ⟨_, Try.underlying33, run_places w _ _ (by kernel_rfl)⟩⟩
instance : Fld Try.prog 33 0 0 := mk_fld Try.underlying33 rfl (inf31).pos rfl
instance : Fld Try.prog 33 1 1 := mk_fld Try.underlying33 rfl (inf2).pos rfl
instance : Fld Try.prog 33 2 2 := mk_fld Try.underlying33 rfl (inf4).pos rfl
instance : Fld Try.prog 33 3 3 := mk_fld Try.underlying33 rfl (inf9).pos rfl
instance inf34 : Inf Try.prog 34 7 80 (.agg #[(.int .i64 0), (.int .i64 0), (.int .i64 0), (.bool false), (.string ⟨#[]⟩), (.slice none 0 0), (.int .i64 0)]) := ⟨by kernel_rfl⟩
instance : Agg Try.prog 34 true := ⟨fun w => by simp [isAgg, run_underlying Try.underlying34]⟩
instance : Plc Try.prog 34 [(0, 1), (1, 4), (5, 1), (6, 1)] := ⟨fun w => ⟨_, Try.underlying34, run_places w _ _ (by kernel_rfl)⟩⟩
instance : Fld Try.prog 34 0 0 := mk_fld Try.underlying34 rfl (inf3).pos rfl
instance : Fld Try.prog 34 1 1 := mk_fld Try.underlying34 rfl (inf33).pos rfl
instance : Fld Try.prog 34 2 5 := mk_fld Try.underlying34 rfl (inf22).pos rfl
instance : Fld Try.prog 34 3 6 := mk_fld Try.underlying34 rfl (inf3).pos rfl
instance inf35 : Inf Try.prog 35 7 80 (.agg #[(.int .i64 0), (.int .i64 0), (.int .i64 0), (.bool false), (.string ⟨#[]⟩), (.slice none 0 0), (.int .i64 0)]) := ⟨by kernel_rfl⟩
instance : Agg Try.prog 35 true := ⟨fun w => by simp [isAgg, run_underlying Try.underlying35]⟩
instance : Plc Try.prog 35 [(0, 1), (1, 4), (5, 1), (6, 1)] := ⟨fun w => ⟨_, Try.underlying35, run_places w _ _ (by kernel_rfl)⟩⟩
instance : Fld Try.prog 35 0 0 := mk_fld Try.underlying35 rfl (inf3).pos rfl
instance : Fld Try.prog 35 1 1 := mk_fld Try.underlying35 rfl (inf33).pos rfl
instance : Fld Try.prog 35 2 5 := mk_fld Try.underlying35 rfl (inf22).pos rfl
instance : Fld Try.prog 35 3 6 := mk_fld Try.underlying35 rfl (inf3).pos rfl
instance : Und Try.prog 40 (.int .u16) := ⟨by kernel_rfl⟩
instance inf40 : Inf Try.prog 40 1 2 (.int .u16 0) := ⟨by kernel_rfl⟩
instance : Agg Try.prog 40 false := ⟨fun w => by simp [isAgg, run_underlying Try.underlying40]⟩
instance : Und Try.prog 43 (.int .i64) := ⟨by kernel_rfl⟩
instance inf43 : Inf Try.prog 43 1 8 (.int .i64 0) := ⟨by kernel_rfl⟩
instance : Agg Try.prog 43 false := ⟨fun w => by simp [isAgg, run_underlying Try.underlying43]⟩
instance : Und Try.prog 44 (.slice 43) := ⟨by kernel_rfl⟩
instance inf44 : Inf Try.prog 44 1 24 (.slice none 0 0) := ⟨by kernel_rfl⟩
instance : Agg Try.prog 44 false := ⟨fun w => by simp [isAgg, run_underlying Try.underlying44]⟩
instance inf50 : Inf Try.prog 50 2 16 (.agg #[(.int .i64 0), (.int .i64 0)]) := ⟨by kernel_rfl⟩
instance : Agg Try.prog 50 true := ⟨fun w => by simp [isAgg, run_underlying Try.underlying50]⟩
instance : Plc Try.prog 50 [(0, 1), (1, 1)] := ⟨fun w => ⟨_, Try.underlying50, run_places w _ _ (by kernel_rfl)⟩⟩
instance : Fld Try.prog 50 0 0 := mk_fld Try.underlying50 rfl (inf43).pos rfl
instance : Fld Try.prog 50 1 1 := mk_fld Try.underlying50 rfl (inf3).pos rfl
instance inf51 : Inf Try.prog 51 2 16 (.agg #[(.int .i64 0), (.int .i64 0)]) := ⟨by kernel_rfl⟩
instance : Agg Try.prog 51 true := ⟨fun w => by simp [isAgg, run_underlying Try.underlying51]⟩
instance : Plc Try.prog 51 [(0, 1), (1, 1)] := ⟨fun w => ⟨_, Try.underlying51, run_places w _ _ (by kernel_rfl)⟩⟩
instance : Fld Try.prog 51 0 0 := mk_fld Try.underlying51 rfl (inf43).pos rfl
instance : Fld Try.prog 51 1 1 := mk_fld Try.underlying51 rfl (inf3).pos rfl
instance : Und Try.prog 52 (.slice 51) := ⟨by kernel_rfl⟩
instance inf52 : Inf Try.prog 52 1 24 (.slice none 0 0) := ⟨by kernel_rfl⟩
instance : Agg Try.prog 52 false := ⟨fun w => by simp [isAgg, run_underlying Try.underlying52]⟩
instance : Und Try.prog 53 (.slice 31) := ⟨by kernel_rfl⟩
instance inf53 : Inf Try.prog 53 1 24 (.slice none 0 0) := ⟨by kernel_rfl⟩
instance : Agg Try.prog 53 false := ⟨fun w => by simp [isAgg, run_underlying Try.underlying53]⟩
instance inf54 : Inf Try.prog 54 6 88 (.agg #[(.string ⟨#[]⟩), (.bool false), (.slice none 0 0), (.int .i64 0), (.int .i64 0), (.slice none 0 0)]) := ⟨by kernel_rfl⟩
instance : Agg Try.prog 54 true := ⟨fun w => by simp [isAgg, run_underlying Try.underlying54]⟩
instance : Plc Try.prog 54 [(0, 1), (1, 1), (2, 1), (3, 1), (4, 1), (5, 1)] := ⟨fun w => ⟨_, Try.underlying54, run_places w _ _ (by kernel_rfl)⟩⟩
instance : Fld Try.prog 54 0 0 := mk_fld Try.underlying54 rfl (inf9).pos rfl
instance : Fld Try.prog 54 1 1 := mk_fld Try.underlying54 rfl (inf4).pos rfl
instance : Fld Try.prog 54 2 2 := mk_fld Try.underlying54 rfl (inf53).pos rfl
instance : Fld Try.prog 54 3 3 := mk_fld Try.underlying54 rfl (inf3).pos rfl
instance : Fld Try.prog 54 4 4 := mk_fld Try.underlying54 rfl (inf31).pos rfl
instance : Fld Try.prog 54 5 5 := mk_fld Try.underlying54 rfl (inf52).pos rfl
instance inf55 : Inf Try.prog 55 6 88 (.agg #[(.string ⟨#[]⟩), (.bool false), (.slice none 0 0), (.int .i64 0), (.int .i64 0), (.slice none 0 0)]) := ⟨by kernel_rfl⟩
instance : Agg Try.prog 55 true := ⟨fun w => by simp [isAgg, run_underlying Try.underlying55]⟩
instance : Plc Try.prog 55 [(0, 1), (1, 1), (2, 1), (3, 1), (4, 1), (5, 1)] := ⟨fun w => ⟨_, Try.underlying55, run_places w _ _ (by kernel_rfl)⟩⟩
instance : Fld Try.prog 55 0 0 := mk_fld Try.underlying55 rfl (inf9).pos rfl
instance : Fld Try.prog 55 1 1 := mk_fld Try.underlying55 rfl (inf4).pos rfl
instance : Fld Try.prog 55 2 2 := mk_fld Try.underlying55 rfl (inf53).pos rfl
instance : Fld Try.prog 55 3 3 := mk_fld Try.underlying55 rfl (inf3).pos rfl
instance : Fld Try.prog 55 4 4 := mk_fld Try.underlying55 rfl (inf31).pos rfl
instance : Fld Try.prog 55 5 5 := mk_fld Try.underlying55 rfl (inf52).pos rfl
instance : Und Try.prog 57 (.pointer 81) := ⟨by kernel_rfl⟩
instance inf57 : Inf Try.prog 57 1 8 (.pointer none) := ⟨by kernel_rfl⟩
instance : Agg Try.prog 57 false := ⟨fun w => by simp [isAgg, run_underlying Try.underlying57]⟩
instance : Und Try.prog 58 (.int .i64) := ⟨by kernel_rfl⟩
instance inf58 : Inf Try.prog 58 1 8 (.int .i64 0) := ⟨by kernel_rfl⟩
instance : Agg Try.prog 58 false := ⟨fun w => by simp [isAgg, run_underlying Try.underlying58]⟩
instance inf62 : Inf Try.prog 62 2 16 (.agg #[(.int .i64 0), (.int .i64 0)]) := ⟨by kernel_rfl⟩
instance : Agg Try.prog 62 true := ⟨fun w => by simp [isAgg, run_underlying Try.underlying62]⟩
instance : Plc Try.prog 62 [(0, 1), (1, 1)] := ⟨fun w => ⟨_, Try.underlying62, run_places w _ _ (by kernel_rfl)⟩⟩
instance : Fld Try.prog 62 0 0 := mk_fld Try.underlying62 rfl (inf3).pos rfl
instance : Fld Try.prog 62 1 1 := mk_fld Try.underlying62 rfl (inf3).pos rfl
instance inf63 : Inf Try.prog 63 2 16 (.agg #[(.int .i64 0), (.int .i64 0)]) := ⟨by kernel_rfl⟩
instance : Agg Try.prog 63 true := ⟨fun w => by simp [isAgg, run_underlying Try.underlying63]⟩
instance : Plc Try.prog 63 [(0, 1), (1, 1)] := ⟨fun w => ⟨_, Try.underlying63, run_places w _ _ (by kernel_rfl)⟩⟩
instance : Fld Try.prog 63 0 0 := mk_fld Try.underlying63 rfl (inf3).pos rfl
instance : Fld Try.prog 63 1 1 := mk_fld Try.underlying63 rfl (inf3).pos rfl
instance : Und Try.prog 67 (.slice 3) := ⟨by kernel_rfl⟩
instance inf67 : Inf Try.prog 67 1 24 (.slice none 0 0) := ⟨by kernel_rfl⟩
instance : Agg Try.prog 67 false := ⟨fun w => by simp [isAgg, run_underlying Try.underlying67]⟩
instance : Und Try.prog 68 (.slice 96) := ⟨by kernel_rfl⟩
instance inf68 : Inf Try.prog 68 1 24 (.slice none 0 0) := ⟨by kernel_rfl⟩
instance : Agg Try.prog 68 false := ⟨fun w => by simp [isAgg, run_underlying Try.underlying68]⟩
instance inf69 : Inf Try.prog 69 11 176 (.agg #[(.slice none 0 0), (.slice none 0 0), (.slice none 0 0), (.slice none 0 0), (.int .i64 0), (.int .i64 0), (.int .i64 0), (.bool false), (.string ⟨#[]⟩), (.slice none 0 0), (.int .i64 0)]) := ⟨by kernel_rfl⟩
instance : Agg Try.prog 69 true := ⟨fun w => by simp [isAgg, run_underlying Try.underlying69]⟩
instance : Plc Try.prog 69 [(0, 3), (3, 1), (4, 7)] := ⟨fun w => ⟨_, Try.underlying69, run_places w _ _ (by kernel_rfl)⟩⟩
instance : Fld Try.prog 69 0 0 := mk_fld Try.underlying69 rfl (inf26).pos rfl
instance : Fld Try.prog 69 1 3 := mk_fld Try.underlying69 rfl (inf68).pos rfl
instance : Fld Try.prog 69 2 4 := mk_fld Try.underlying69 rfl (inf35).pos rfl
instance inf70 : Inf Try.prog 70 11 176 (.agg #[(.slice none 0 0), (.slice none 0 0), (.slice none 0 0), (.slice none 0 0), (.int .i64 0), (.int .i64 0), (.int .i64 0), (.bool false), (.string ⟨#[]⟩), (.slice none 0 0), (.int .i64 0)]) := ⟨by kernel_rfl⟩
instance : Agg Try.prog 70 true := ⟨fun w => by simp [isAgg, run_underlying Try.underlying70]⟩
instance : Plc Try.prog 70 [(0, 3), (3, 1), (4, 7)] := ⟨fun w => ⟨_, Try.underlying70, run_places w _ _ (by kernel_rfl)⟩⟩
instance : Fld Try.prog 70 0 0 := mk_fld Try.underlying70 rfl (inf26).pos rfl
instance : Fld Try.prog 70 1 3 := mk_fld Try.underlying70 rfl (inf68).pos rfl
instance : Fld Try.prog 70 2 4 := mk_fld Try.underlying70 rfl (inf35).pos rfl
instance : Und Try.prog 79 (.slice 92) := ⟨by kernel_rfl⟩
instance inf79 : Inf Try.prog 79 1 24 (.slice none 0 0) := ⟨by kernel_rfl⟩
instance : Agg Try.prog 79 false := ⟨fun w => by simp [isAgg, run_underlying Try.underlying79]⟩
instance inf80 : Inf Try.prog 80 12 184 (.agg #[(.slice none 0 0), (.slice none 0 0), (.slice none 0 0), (.slice none 0 0), (.int .i64 0), (.int .i64 0), (.int .i64 0), (.bool false), (.string ⟨#[]⟩), (.slice none 0 0), (.int .i64 0), (.bool false)]) := ⟨by kernel_rfl⟩
instance : Agg Try.prog 80 true := ⟨fun w => by simp [isAgg, run_underlying Try.underlying80]⟩
instance : Plc Try.prog 80 [(0, 3), (3, 1), (4, 7), (11, 1)] := ⟨fun w => ⟨_, Try.underlying80, run_places w _ _ (by kernel_rfl)⟩⟩
instance : Fld Try.prog 80 0 0 := mk_fld Try.underlying80 rfl (inf26).pos rfl
instance : Fld Try.prog 80 1 3 := mk_fld Try.underlying80 rfl (inf79).pos rfl
instance : Fld Try.prog 80 2 4 := mk_fld Try.underlying80 rfl (inf35).pos rfl
instance : Fld Try.prog 80 3 11 := mk_fld Try.underlying80 rfl (inf4).pos rfl
instance inf81 : Inf Try.prog 81 12 184 (.agg #[(.slice none 0 0), (.slice none 0 0), (.slice none 0 0), (.slice none 0 0), (.int .i64 0), (.int .i64 0), (.int .i64 0), (.bool false), (.string ⟨#[]⟩), (.slice none 0 0), (.int .i64 0), (.bool false)]) := ⟨by kernel_rfl⟩
instance : Agg Try.prog 81 true := ⟨fun w => by simp [isAgg, run_underlying Try.underlying81]⟩
instance : Plc Try.prog 81 [(0, 3), (3, 1), (4, 7), (11, 1)] := ⟨fun w => ⟨_, Try.underlying81, run_places w _ _ (by kernel_rfl)⟩⟩
instance : Fld Try.prog 81 0 0 := mk_fld Try.underlying81 rfl (inf26).pos rfl
instance : Fld Try.prog 81 1 3 := mk_fld Try.underlying81 rfl (inf79).pos rfl
instance : Fld Try.prog 81 2 4 := mk_fld Try.underlying81 rfl (inf35).pos rfl
instance : Fld Try.prog 81 3 11 := mk_fld Try.underlying81 rfl (inf4).pos rfl
instance inf88 : Inf Try.prog 88 1 24 (.agg #[(.slice none 0 0)]) := ⟨by kernel_rfl⟩
instance : Agg Try.prog 88 true := ⟨fun w => by simp [isAgg, run_underlying Try.underlying88]⟩
instance : Plc Try.prog 88 [(0, 1)] := ⟨fun w => ⟨_, Try.underlying88, run_places w _ _ (by kernel_rfl)⟩⟩
instance : Fld Try.prog 88 0 0 := mk_fld Try.underlying88 rfl (inf22).pos rfl
instance inf89 : Inf Try.prog 89 1 24 (.agg #[(.slice none 0 0)]) := ⟨by kernel_rfl⟩
instance : Agg Try.prog 89 true := ⟨fun w => by simp [isAgg, run_underlying Try.underlying89]⟩
instance : Plc Try.prog 89 [(0, 1)] := ⟨fun w => ⟨_, Try.underlying89, run_places w _ _ (by kernel_rfl)⟩⟩
instance : Fld Try.prog 89 0 0 := mk_fld Try.underlying89 rfl (inf22).pos rfl
instance inf90 : Inf Try.prog 90 4 64 (.agg #[(.slice none 0 0), (.int .i64 0), (.int .i64 0), (.slice none 0 0)]) := ⟨by kernel_rfl⟩
instance : Agg Try.prog 90 true := ⟨fun w => by simp [isAgg, run_underlying Try.underlying90]⟩
instance : Plc Try.prog 90 [(0, 1), (1, 1), (2, 1), (3, 1)] := ⟨fun w => ⟨_, Try.underlying90, run_places w _ _ (by kernel_rfl)⟩⟩
instance : Fld Try.prog 90 0 0 := mk_fld Try.underlying90 rfl (inf89).pos rfl
instance : Fld Try.prog 90 1 1 := mk_fld Try.underlying90 rfl (inf3).pos rfl
instance : Fld Try.prog 90 2 2 := mk_fld Try.underlying90 rfl (inf3).pos rfl
instance : Fld Try.prog 90 3 3 := mk_fld Try.underlying90 rfl (inf22).pos rfl
instance inf91 : Inf Try.prog 91 4 64 (.agg #[(.slice none 0 0), (.int .i64 0), (.int .i64 0), (.slice none 0 0)]) := ⟨by kernel_rfl⟩
instance : Agg Try.prog 91 true := ⟨fun w => by simp [isAgg, run_underlying Try.underlying91]⟩
instance : Plc Try.prog 91 [(0, 1), (1, 1), (2, 1), (3, 1)] := ⟨fun w => ⟨_, Try.underlying91, run_places w _ _ (by kernel_rfl)⟩⟩
instance : Fld Try.prog 91 0 0 := mk_fld Try.underlying91 rfl (inf89).pos rfl
instance : Fld Try.prog 91 1 1 := mk_fld Try.underlying91 rfl (inf3).pos rfl
instance : Fld Try.prog 91 2 2 := mk_fld Try.underlying91 rfl (inf3).pos rfl
instance : Fld Try.prog 91 3 3 := mk_fld Try.underlying91 rfl (inf22).pos rfl
instance : Und Try.prog 92 (.pointer 91) := ⟨by kernel_rfl⟩
instance inf92 : Inf Try.prog 92 1 8 (.pointer none) := ⟨by kernel_rfl⟩
instance : Agg Try.prog 92 false := ⟨fun w => by simp [isAgg, run_underlying Try.underlying92]⟩
instance inf95 : Inf Try.prog 95 4 64 (.agg #[(.int .i64 0), (.int .i64 0), (.slice none 0 0), (.slice none 0 0)]) := ⟨by kernel_rfl⟩
instance : Agg Try.prog 95 true := ⟨fun w => by simp [isAgg, run_underlying Try.underlying95]⟩
instance : Plc Try.prog 95 [(0, 1), (1, 1), (2, 1), (3, 1)] := ⟨fun w => ⟨_, Try.underlying95, run_places w _ _ (by kernel_rfl)⟩⟩
instance : Fld Try.prog 95 0 0 := mk_fld Try.underlying95 rfl (inf3).pos rfl
instance : Fld Try.prog 95 1 1 := mk_fld Try.underlying95 rfl (inf3).pos rfl
instance : Fld Try.prog 95 2 2 := mk_fld Try.underlying95 rfl (inf22).pos rfl
instance : Fld Try.prog 95 3 3 := mk_fld Try.underlying95 rfl (inf22).pos rfl
instance inf96 : Inf Try.prog 96 4 64 (.agg #[(.int .i64 0), (.int .i64 0), (.slice none 0 0), (.slice none 0 0)]) := ⟨by kernel_rfl⟩
instance : Agg Try.prog 96 true := ⟨fun w => by simp [isAgg, run_underlying Try.underlying96]⟩
instance : Plc Try.prog 96 [(0, 1), (1, 1), (2, 1), (3, 1)] := ⟨fun w => ⟨_, Try.underlying96, run_places w _ _ (by kernel_rfl)⟩⟩
instance : Fld Try.prog 96 0 0 := mk_fld Try.underlying96 rfl (inf3).pos rfl
instance : Fld Try.prog 96 1 1 := mk_fld Try.underlying96 rfl (inf3).pos rfl
instance : Fld Try.prog 96 2 2 := mk_fld Try.underlying96 rfl (inf22).pos rfl
instance : Fld Try.prog 96 3 3 := mk_fld Try.underlying96 rfl (inf22).pos rfl
instance inf105 : Inf Try.prog 105 5 72 (.agg #[(.pointer none), (.slice none 0 0), (.int .i64 0), (.int .i64 0), (.slice none 0 0)]) := ⟨by kernel_rfl⟩
instance : Agg Try.prog 105 true := ⟨fun w => by simp [isAgg, run_underlying Try.underlying105]⟩
instance : Plc Try.prog 105 [(0, 1), (1, 4)] := ⟨fun w => ⟨_, Try.underlying105, run_places w _ _ (by kernel_rfl)⟩⟩
instance : Fld Try.prog 105 0 0 := mk_fld Try.underlying105 rfl (inf92).pos rfl
instance : Fld Try.prog 105 1 1 := mk_fld Try.underlying105 rfl (inf91).pos rfl
instance inf106 : Inf Try.prog 106 5 72 (.agg #[(.pointer none), (.slice none 0 0), (.int .i64 0), (.int .i64 0), (.slice none 0 0)]) := ⟨by kernel_rfl⟩
instance : Agg Try.prog 106 true := ⟨fun w => by simp [isAgg, run_underlying Try.underlying106]⟩
instance : Plc Try.prog 106 [(0, 1), (1, 4)] := ⟨fun w => ⟨_, Try.underlying106, run_places w _ _ (by kernel_rfl)⟩⟩
instance : Fld Try.prog 106 0 0 := mk_fld Try.underlying106 rfl (inf92).pos rfl
instance : Fld Try.prog 106 1 1 := mk_fld Try.underlying106 rfl (inf91).pos rfl
instance inf107 : Inf Try.prog 107 1 8 (.agg #[(.int .i64 0)]) := ⟨by kernel_rfl⟩
instance : Agg Try.prog 107 true := ⟨fun w => by simp [isAgg, run_underlying Try.underlying107]⟩
instance : Plc Try.prog 107 [(0, 1)] := ⟨fun w => ⟨_, Try.underlying107, run_places w _ _ (by kernel_rfl)⟩⟩
instance : Fld Try.prog 107 0 0 := mk_fld Try.underlying107 rfl (inf3).pos rfl
instance inf108 : Inf Try.prog 108 1 8 (.agg #[(.int .i64 0)]) := ⟨by kernel_rfl⟩
instance : Agg Try.prog 108 true := ⟨fun w => by simp [isAgg, run_underlying Try.underlying108]⟩
instance : Plc Try.prog 108 [(0, 1)] := ⟨fun w => ⟨_, Try.underlying108, run_places w _ _ (by kernel_rfl)⟩⟩
instance : Fld Try.prog 108 0 0 := mk_fld Try.underlying108 rfl (inf3).pos rfl
instance : Und Try.prog 134 (.pointer 89) := ⟨by kernel_rfl⟩
instance inf134 : Inf Try.prog 134 1 8 (.pointer none) := ⟨by kernel_rfl⟩
instance : Agg Try.prog 134 false := ⟨fun w => by simp [isAgg, run_underlying Try.underlying134]⟩
instance inf141 : Inf Try.prog 141 4 40 (.agg #[(.pointer none), (.pointer none), (.pointer none), (.string ⟨#[]⟩)]) := ⟨by kernel_rfl⟩
instance : Agg Try.prog 141 true := ⟨fun w => by simp [isAgg, run_underlying Try.underlying141]⟩
instance : Plc Try.prog 141 [(0, 1), (1, 1), (2, 1), (3, 1)] := ⟨fun w => ⟨_, Try.underlying141, run_places w _ _ (by kernel_rfl)⟩⟩
instance : Fld Try.prog 141 0 0 := mk_fld Try.underlying141 rfl (inf17).pos rfl
instance : Fld Try.prog 141 1 1 := mk_fld Try.underlying141 rfl (inf17).pos rfl
instance : Fld Try.prog 141 2 2 := mk_fld Try.underlying141 rfl (inf17).pos rfl
instance : Fld Try.prog 141 3 3 := mk_fld Try.underlying141 rfl (inf9).pos rfl
instance inf142 : Inf Try.prog 142 4 40 (.agg #[(.pointer none), (.pointer none), (.pointer none), (.string ⟨#[]⟩)]) := ⟨by kernel_rfl⟩
instance : Agg Try.prog 142 true := ⟨fun w => by simp [isAgg, run_underlying Try.underlying142]⟩
instance : Plc Try.prog 142 [(0, 1), (1, 1), (2, 1), (3, 1)] := ⟨fun w => ⟨_, Try.underlying142, run_places w _ _ (by kernel_rfl)⟩⟩
instance : Fld Try.prog 142 0 0 := mk_fld Try.underlying142 rfl (inf17).pos rfl
instance : Fld Try.prog 142 1 1 := mk_fld Try.underlying142 rfl (inf17).pos rfl
instance : Fld Try.prog 142 2 2 := mk_fld Try.underlying142 rfl (inf17).pos rfl
instance : Fld Try.prog 142 3 3 := mk_fld Try.underlying142 rfl (inf9).pos rfl
instance inf143 : Inf Try.prog 143 0 0 (.agg #[]) := ⟨by kernel_rfl⟩
instance : Agg Try.prog 143 true := ⟨fun w => by simp [isAgg, run_underlying Try.underlying143]⟩
instance inf144 : Inf Try.prog 144 0 0 (.agg #[]) := ⟨by kernel_rfl⟩
instance : Agg Try.prog 144 true := ⟨fun w => by simp [isAgg, run_underlying Try.underlying144]⟩
instance : Plc Try.prog 144 [(0, 0)] := ⟨fun w => ⟨_, Try.underlying144, run_places w _ _ (by kernel_rfl)⟩⟩
instance inf145 : Inf Try.prog 145 0 0 (.agg #[]) := ⟨by kernel_rfl⟩
instance : Agg Try.prog 145 true := ⟨fun w => by simp [isAgg, run_underlying Try.underlying145]⟩
instance : Plc Try.prog 145 [(0, 0)] := ⟨fun w => ⟨_, Try.underlying145, run_places w _ _ (by kernel_rfl)⟩⟩
instance : Und Try.prog 146 (.int .u32) := ⟨by kernel_rfl⟩
instance inf146 : Inf Try.prog 146 1 4 (.int .u32 0) := ⟨by kernel_rfl⟩
instance : Agg Try.prog 146 false := ⟨fun w => by simp [isAgg, run_underlying Try.underlying146]⟩
instance : Und Try.prog 147 (.int .u8) := ⟨by kernel_rfl⟩
instance inf147 : Inf Try.prog 147 1 1 (.int .u8 0) := ⟨by kernel_rfl⟩
instance : Agg Try.prog 147 false := ⟨fun w => by simp [isAgg, run_underlying Try.underlying147]⟩
instance : Und Try.prog 148 (.int .u8) := ⟨by kernel_rfl⟩
instance inf148 : Inf Try.prog 148 1 1 (.int .u8 0) := ⟨by kernel_rfl⟩
instance : Agg Try.prog 148 false := ⟨fun w => by simp [isAgg, run_underlying Try.underlying148]⟩
instance : Und Try.prog 150 (.pointer 5) := ⟨by kernel_rfl⟩
instance inf150 : Inf Try.prog 150 1 8 (.pointer none) := ⟨by kernel_rfl⟩
instance : Agg Try.prog 150 false := ⟨fun w => by simp [isAgg, run_underlying Try.underlying150]⟩
instance : Und Try.prog 151 (.int .i32) := ⟨by kernel_rfl⟩
instance inf151 : Inf Try.prog 151 1 4 (.int .i32 0) := ⟨by kernel_rfl⟩
instance : Agg Try.prog 151 false := ⟨fun w => by simp [isAgg, run_underlying Try.underlying151]⟩
instance : Und Try.prog 152 (.int .i32) := ⟨by kernel_rfl⟩
instance inf152 : Inf Try.prog 152 1 4 (.int .i32 0) := ⟨by kernel_rfl⟩
instance : Agg Try.prog 152 false := ⟨fun w => by simp [isAgg, run_underlying Try.underlying152]⟩
instance inf153 : Inf Try.prog 153 11 48 (.agg #[(.int .u64 0), (.int .u64 0), (.int .u32 0), (.int .u8 0), (.int .u8 0), (.int .u8 0), (.int .u8 0), .nilFunc, (.pointer none), (.int .i32 0), (.int .i32 0)]) := ⟨by kernel_rfl⟩
instance : Agg Try.prog 153 true := ⟨fun w => by simp [isAgg, run_underlying Try.underlying153]⟩
instance : Plc Try.prog 153 [(0, 1), (1, 1), (2, 1), (3, 1), (4, 1), (5, 1), (6, 1), (7, 1), (8, 1), (9, 1), (10, 1)] := ⟨fun w => ⟨_, Try.underlying153, run_places w _ _ (by kernel_rfl)⟩⟩
instance : Fld Try.prog 153 0 0 := mk_fld Try.underlying153 rfl (inf12).pos rfl
instance : Fld Try.prog 153 1 1 := mk_fld Try.underlying153 rfl (inf12).pos rfl
instance : Fld Try.prog 153 2 2 := mk_fld Try.underlying153 rfl (inf146).pos rfl
instance : Fld Try.prog 153 3 3 := mk_fld Try.underlying153 rfl (inf147).pos rfl
instance : Fld Try.prog 153 4 4 := mk_fld Try.underlying153 rfl (inf5).pos rfl
instance : Fld Try.prog 153 5 5 := mk_fld Try.underlying153 rfl (inf5).pos rfl
instance : Fld Try.prog 153 6 6 := mk_fld Try.underlying153 rfl (inf148).pos rfl
instance : Fld Try.prog 153 8 8 := mk_fld Try.underlying153 rfl (inf150).pos rfl
instance : Fld Try.prog 153 9 9 := mk_fld Try.underlying153 rfl (inf151).pos rfl
instance : Fld Try.prog 153 10 10 := mk_fld Try.underlying153 rfl (inf152).pos rfl
instance inf154 : Inf Try.prog 154 11 48 (.agg #[(.int .u64 0), (.int .u64 0), (.int .u32 0), (.int .u8 0), (.int .u8 0), (.int .u8 0), (.int .u8 0), .nilFunc, (.pointer none), (.int .i32 0), (.int .i32 0)]) := ⟨by kernel_rfl⟩
instance : Agg Try.prog 154 true := ⟨fun w => by simp [isAgg, run_underlying Try.underlying154]⟩
instance : Plc Try.prog 154 [(0, 1), (1, 1), (2, 1), (3, 1), (4, 1), (5, 1), (6, 1), (7, 1), (8, 1), (9, 1), (10, 1)] := ⟨fun w => ⟨_, Try.underlying154, run_places w _ _ (by kernel_rfl)⟩⟩
instance : Fld Try.prog 154 0 0 := mk_fld Try.underlying154 rfl (inf12).pos rfl
instance : Fld Try.prog 154 1 1 := mk_fld Try.underlying154 rfl (inf12).pos rfl
instance : Fld Try.prog 154 2 2 := mk_fld Try.underlying154 rfl (inf146).pos rfl
instance : Fld Try.prog 154 3 3 := mk_fld Try.underlying154 rfl (inf147).pos rfl
instance : Fld Try.prog 154 4 4 := mk_fld Try.underlying154 rfl (inf5).pos rfl
instance : Fld Try.prog 154 5 5 := mk_fld Try.underlying154 rfl (inf5).pos rfl
instance : Fld Try.prog 154 6 6 := mk_fld Try.underlying154 rfl (inf148).pos rfl
instance : Fld Try.prog 154 8 8 := mk_fld Try.underlying154 rfl (inf150).pos rfl
instance : Fld Try.prog 154 9 9 := mk_fld Try.underlying154 rfl (inf151).pos rfl
instance : Fld Try.prog 154 10 10 := mk_fld Try.underlying154 rfl (inf152).pos rfl
instance inf155 : Inf Try.prog 155 3 40 (.agg #[(.string ⟨#[]⟩), (.string ⟨#[]⟩), (.int .i64 0)]) := ⟨by kernel_rfl⟩
instance : Agg Try.prog 155 true := ⟨fun w => by simp [isAgg, run_underlying Try.underlying155]⟩
instance : Plc Try.prog 155 [(0, 1), (1, 1), (2, 1)] := ⟨fun w => ⟨_, Try.underlying155, run_places w _ _ (by kernel_rfl)⟩⟩
instance : Fld Try.prog 155 0 0 := mk_fld Try.underlying155 rfl (inf9).pos rfl
instance : Fld Try.prog 155 1 1 := mk_fld Try.underlying155 rfl (inf9).pos rfl
instance : Fld Try.prog 155 2 2 := mk_fld Try.underlying155 rfl (inf3).pos rfl
instance inf156 : Inf Try.prog 156 3 40 (.agg #[(.string ⟨#[]⟩), (.string ⟨#[]⟩), (.int .i64 0)]) := ⟨by kernel_rfl⟩
instance : Agg Try.prog 156 true := ⟨fun w => by simp [isAgg, run_underlying Try.underlying156]⟩
instance : Plc Try.prog 156 [(0, 1), (1, 1), (2, 1)] := ⟨fun w => ⟨_, Try.underlying156, run_places w _ _ (by kernel_rfl)⟩⟩
instance : Fld Try.prog 156 0 0 := mk_fld Try.underlying156 rfl (inf9).pos rfl
instance : Fld Try.prog 156 1 1 := mk_fld Try.underlying156 rfl (inf9).pos rfl
instance : Fld Try.prog 156 2 2 := mk_fld Try.underlying156 rfl (inf3).pos rfl
-- 3: treadle/treadlelaw20.VmRuns
instance : Body Try.prog 3 := mk_body Try.func3 (by decide) rfl
-- 4: treadle/treadlelaw20.VmFuel
instance : Body Try.prog 4 := mk_body Try.func4 (by decide) rfl
-- 5: treadle/treadlelaw20.VmNumbers
instance : Body Try.prog 5 := mk_body Try.func5 (by decide) rfl
-- 6: treadle/treadlelaw20.VmTexts
instance : Body Try.prog 6 := mk_body Try.func6 (by decide) rfl
-- 7: treadle/treadlelaw20.VmDeep
instance : Body Try.prog 7 := mk_body Try.func7 (by decide) rfl
-- 8: treadle/treadlelaw20.VmParts
instance : Body Try.prog 8 := mk_body Try.func8 (by decide) rfl
-- 9: treadle/treadlelaw20.VmSteps
instance : Body Try.prog 9 := mk_body Try.func9 (by decide) rfl
-- 10: treadle/treadlelaw20.VmOwn
instance : Body Try.prog 10 := mk_body Try.func10 (by decide) rfl
-- 11: treadle/treadlelaw20.VmClones
instance : Body Try.prog 11 := mk_body Try.func11 (by decide) rfl
-- 12: treadle/treadlelaw20.VmNobody
instance : Body Try.prog 12 := mk_body Try.func12 (by decide) rfl
-- 13: treadle/treadlelaw20.capped
instance : Body Try.prog 13 := mk_body Try.func13 (by decide) rfl
-- 14: treadle/treadleref20.Same
instance : Body Try.prog 14 := mk_body Try.func14 (by decide) rfl
-- 15: treadle/vm.Run
instance : Body Try.prog 15 := mk_body Try.func15 (by decide) rfl
-- 16: treadle/treadleref20.Run
instance : Body Try.prog 16 := mk_body Try.func16 (by decide) rfl
-- 17: treadle/treadlelaw20.awake
instance : Body Try.prog 17 := mk_body Try.func17 (by decide) rfl
-- 18: treadle/treadlelaw20.begins
instance : Body Try.prog 18 := mk_body Try.func18 (by decide) rfl
-- 19: treadle/treadlelaw20.two
instance : Body Try.prog 19 := mk_body Try.func19 (by decide) rfl
-- 20: treadle/treadlelaw20.number
instance : Body Try.prog 20 := mk_body Try.func20 (by decide) rfl
-- 21: treadle/treadlelaw20.text
instance : Body Try.prog 21 := mk_body Try.func21 (by decide) rfl
-- 22: treadle/vm.Start
instance : Body Try.prog 22 := mk_body Try.func22 (by decide) rfl
-- 23: (*treadle/vm.Machine).Step
instance : Body Try.prog 23 := mk_body Try.func23 (by decide) rfl
-- 24: (*treadle/vm.Machine).Outcome
instance : Body Try.prog 24 := mk_body Try.func24 (by decide) rfl
-- 25: (*treadle/vm.Machine).Spot
instance : Body Try.prog 25 := mk_body Try.func25 (by decide) rfl
-- 26: (*treadle/vm.Machine).Depth
instance : Body Try.prog 26 := mk_body Try.func26 (by decide) rfl
-- 27: treadle/treadleref20.SameValues
instance : Body Try.prog 27 := mk_body Try.func27 (by decide) rfl
-- 28: (*treadle/vm.Machine).Vars
instance : Body Try.prog 28 := mk_body Try.func28 (by decide) rfl
-- 29: (*treadle/vm.Machine).Stack
instance : Body Try.prog 29 := mk_body Try.func29 (by decide) rfl
-- 30: treadle/treadleref20.Start
instance : Body Try.prog 30 := mk_body Try.func30 (by decide) rfl
-- 31: treadle/treadlelaw20.told
instance : Body Try.prog 31 := mk_body Try.func31 (by decide) rfl
-- 32: treadle/treadleref20.Steps
instance : Body Try.prog 32 := mk_body Try.func32 (by decide) rfl
-- 33: (*treadle/vm.Machine).Clone
instance : Body Try.prog 33 := mk_body Try.func33 (by decide) rfl
-- 34: (*treadle/vm.Machine).Ended
instance : Body Try.prog 34 := mk_body Try.func34 (by decide) rfl
-- 35: treadle/vm.sized
instance : Body Try.prog 35 := mk_body Try.func35 (by decide) rfl
-- 36: treadle/vm.value
instance : Body Try.prog 36 := mk_body Try.func36 (by decide) rfl
-- 37: treadle/vm.own
instance : Body Try.prog 37 := mk_body Try.func37 (by decide) rfl
-- 38: (*treadle/vm.Machine).enter
instance : Body Try.prog 38 := mk_body Try.func38 (by decide) rfl
-- 39: (*treadle/vm.Machine).made
instance : Body Try.prog 39 := mk_body Try.func39 (by decide) rfl
-- 40: (*treadle/vm.Machine).step
instance : Body Try.prog 40 := mk_body Try.func40 (by decide) rfl
-- 41: slices.Clone[[]treadle/api.Value,treadle/api.Value]
instance : Body Try.prog 41 := mk_body Try.func41 (by decide) rfl
-- 42: (*treadle/vm.Machine).top
instance : Body Try.prog 42 := mk_body Try.func42 (by decide) rfl
-- 43: treadle/treadleref20.sized
instance : Body Try.prog 43 := mk_body Try.func43 (by decide) rfl
-- 44: treadle/treadleref20.typed
instance : Body Try.prog 44 := mk_body Try.func44 (by decide) rfl
-- 45: treadle/treadleref20.frame
instance : Body Try.prog 45 := mk_body Try.func45 (by decide) rfl
-- 46: treadle/treadleref20.Spot
instance : Body Try.prog 46 := mk_body Try.func46 (by decide) rfl
-- 47: treadle/treadleref20.Vars
instance : Body Try.prog 47 := mk_body Try.func47 (by decide) rfl
-- 48: treadle/treadleref20.Stack
instance : Body Try.prog 48 := mk_body Try.func48 (by decide) rfl
-- 49: treadle/treadleref20.Step
instance : Body Try.prog 49 := mk_body Try.func49 (by decide) rfl
-- 50: (*treadle/vm.frame).copied
instance : Body Try.prog 50 := mk_body Try.func50 (by decide) rfl
-- 51: slices.Clone[[]treadle/api.Proc,treadle/api.Proc]
instance : Body Try.prog 51 := mk_body Try.func51 (by decide) rfl
-- 52: slices.Clone[[]treadle/api.Type,treadle/api.Type]
instance : Body Try.prog 52 := mk_body Try.func52 (by decide) rfl
-- 53: slices.Clone[[]treadle/api.Instr,treadle/api.Instr]
instance : Body Try.prog 53 := mk_body Try.func53 (by decide) rfl
-- 54: (*treadle/vm.Machine).step$1
instance : Body Try.prog 54 := mk_body Try.func54 (by decide) rfl
-- 55: (*treadle/vm.Machine).do
instance : Body Try.prog 55 := mk_body Try.func55 (by decide) rfl
-- 56: treadle/treadleref18.Value
instance : Body Try.prog 56 := mk_body Try.func56 (by decide) rfl
-- 57: treadle/treadleref20.values
instance : Body Try.prog 57 := mk_body Try.func57 (by decide) rfl
-- 58: treadle/treadleref20.stuck
instance : Body Try.prog 58 := mk_body Try.func58 (by decide) rfl
-- 59: treadle/treadleref20.ended
instance : Body Try.prog 59 := mk_body Try.func59 (by decide) rfl
-- 60: treadle/treadleref20.taken
instance : Body Try.prog 60 := mk_body Try.func60 (by decide) rfl
-- 61: treadle/treadleref20.with
instance : Body Try.prog 61 := mk_body Try.func61 (by decide) rfl
-- 62: treadle/treadleref20.left
instance : Body Try.prog 62 := mk_body Try.func62 (by decide) rfl
-- 63: treadle/treadleref20.made
instance : Body Try.prog 63 := mk_body Try.func63 (by decide) rfl
-- 64: treadle/vm.need
instance : Body Try.prog 64 := mk_body Try.func64 (by decide) rfl
-- 65: (*treadle/vm.Machine).lay
instance : Body Try.prog 65 := mk_body Try.func65 (by decide) rfl
-- 66: (*treadle/vm.Machine).take
instance : Body Try.prog 66 := mk_body Try.func66 (by decide) rfl
-- 67: (*treadle/vm.Machine).typed
instance : Body Try.prog 67 := mk_body Try.func67 (by decide) rfl
-- 68: (*treadle/vm.Machine).call
instance : Body Try.prog 68 := mk_body Try.func68 (by decide) rfl
-- 69: (*treadle/vm.Machine).plain
instance : Body Try.prog 69 := mk_body Try.func69 (by decide) rfl
-- 70: treadle/treadleref20.fits
instance : Body Try.prog 70 := mk_body Try.func70 (by decide) rfl
-- 71: treadle/treadleref18.Numbered
instance : Body Try.prog 71 := mk_body Try.func71 (by decide) rfl
-- 72: treadle/treadleref20.truth
instance : Body Try.prog 72 := mk_body Try.func72 (by decide) rfl
-- 73: treadle/treadleref20.less
instance : Body Try.prog 73 := mk_body Try.func73 (by decide) rfl
-- 74: treadle/treadleref20.number
instance : Body Try.prog 74 := mk_body Try.func74 (by decide) rfl
-- 75: treadle/treadleref20.quotient
instance : Body Try.prog 75 := mk_body Try.func75 (by decide) rfl
-- 76: treadle/treadleref20.rest
instance : Body Try.prog 76 := mk_body Try.func76 (by decide) rfl
-- 77: treadle/vm.stuck
instance : Body Try.prog 77 := mk_body Try.func77 (by decide) rfl
-- 78: (*treadle/vm.stack).high
instance : Body Try.prog 78 := mk_body Try.func78 (by decide) rfl
-- 79: (*treadle/vm.stack).push
instance : Body Try.prog 79 := mk_body Try.func79 (by decide) rfl
-- 80: (*treadle/vm.stack).pop
instance : Body Try.prog 80 := mk_body Try.func80 (by decide) rfl
-- 81: (*treadle/vm.Machine).leave
instance : Body Try.prog 81 := mk_body Try.func81 (by decide) rfl
-- 82: treadle/vm.truth
instance : Body Try.prog 82 := mk_body Try.func82 (by decide) rfl
-- 83: treadle/vm.number
instance : Body Try.prog 83 := mk_body Try.func83 (by decide) rfl
-- 84: (*treadle/vm.Machine).ordered
instance : Body Try.prog 84 := mk_body Try.func84 (by decide) rfl
-- 85: treadle/vm.reckon
instance : Body Try.prog 85 := mk_body Try.func85 (by decide) rfl
-- 86: cmp.Or[int]
instance : Body Try.prog 86 := mk_body Try.func86 (by decide) rfl
-- 87: cmp.Compare[int64]
instance : Body Try.prog 87 := mk_body Try.func87 (by decide) rfl
-- 88: cmp.Compare[string]
instance : Body Try.prog 88 := mk_body Try.func88 (by decide) rfl
-- 89: cmp.isNaN[int64]
instance : Body Try.prog 89 := mk_body Try.func89 (by decide) rfl
-- 90: cmp.isNaN[string]
instance : Body Try.prog 90 := mk_body Try.func90 (by decide) rfl
theorem mixed : Try.prog.follows .mixedOrders = true := by kernel_rfl
end Go.Proofs.Ytjgohbepageicaa.Gb
namespace Go.Proofs.Ytjgohbepageicaa.Gb
open Go Go.Proofs
set_option linter.unusedVariables false
attribute [local irreducible] Try.prog

/-- a value of the language -/
structure V where
  t : Int
  i : Int
  b : Bool
  s : ByteArray
def vcells (v : V) : List Value := [.int .i64 v.t, .int .i64 v.i, .bool v.b, .string v.s]
def vflat (l : List V) : List Value := l.flatMap vcells
theorem vflat_length (l : List V) : (vflat l).length = l.length * 4 := by
  induction l with
  | nil => rfl
  | cons v l ih => simp only [vflat, List.flatMap_cons, List.length_append, List.length_cons] at ih ⊢; rw [ih]; simp [vcells]; omega
theorem vflat_one (l : List V) : (vflat l).all (·.oneCell') = true := by
  induction l with
  | nil => rfl
  | cons v l ih => simp only [vflat, List.flatMap_cons, List.all_append] at ih ⊢; rw [ih]; rfl
theorem vflat_append (a b : List V) : vflat (a ++ b) = vflat a ++ vflat b := by simp [vflat]

theorem Vec.empty {T sz b : Nat} {c : Array Value} (h : c.size = 0) : Vec T sz (some ⟨b, 0, none⟩) 0 0 [] (.blk b (.cells c T (0, 0))) := ⟨by simp, .inr ⟨b, c, rfl, rfl, Nat.le_refl _, by simpa using h, by simp⟩⟩

theorem clone_vals (G : Gh) (H : List Own) (A : Option Addr) (n cap : Nat) (cs : List Value) (hr : Rds G H A cs) (hl : cs.length = n * 4) (h1 : cs.all (·.oneCell') = true) (hA : A = none → n = 0) (hb : n * 40 ≤ 140737488355328) :
    Fn Try.prog 41 #[.slice A n cap] G H fun e G' H' => ∃ A' cap' x', e = .returned (.slice A' n cap') ∧ G = G' ∧ H' = x' :: H ∧ Vec 33 4 A' n cap' cs x' := by
  refine Fn.enter Try.func41 rfl rfl fun w0 => ?_
  refine WC.seq ?_
  refine WC.region ?_
  refine WL.p (Gp.assign rfl) (by kernel_rfl) rfl ?_
  refine WL.nil ?_
  refine WK.un ?_
  refine WC.seq ?_
  refine WC.seq ?_
  refine WC.region ?_
  refine WL.p (Gp.move rfl) (by kernel_rfl) rfl ?_
  (first | refine WL.p (Gp.eqI rfl rfl) (by kernel_rfl) rfl ?_ | refine WL.p (Gp.eqS rfl rfl) (by kernel_rfl) rfl ?_ | refine WL.p (Gp.nilSl rfl) (by kernel_rfl) rfl ?_ | refine WL.p (Gp.eqB rfl rfl) (by kernel_rfl) rfl ?_)
  refine WL.nil ?_
  refine WK.un ?_
  refine WC.cond rfl (fun hc => ?_) (fun hc => ?_)
  · refine WC.seq ?_
    refine WC.region ?_
    refine WL.p (Gp.assign rfl) (by kernel_rfl) rfl ?_
    refine WL.nil ?_
    refine WK.un ?_
    refine WC.ret ?_
    have hA' : A = none := by simpa using hc
    have hn := hA hA'
    subst hn
    have hcs : cs = [] := List.eq_nil_of_length_eq_zero (by simpa using hl)
    subst hcs
    exact WK.nothing (QF.ret1 (.inl rfl) rfl (.tmp rfl) (List.Sublist.refl _) ⟨none, 0, _, rfl, rfl, rfl, ⟨by simp, .inl ⟨rfl, rfl, rfl, rfl⟩⟩⟩)
  ·
    refine WC.skip ?_
    refine WK.un ?_
    refine WC.seq ?_
    refine WC.region ?_
    refine WL.op (by kernel_rfl) (OW.buildSlice rfl (by kernel_rfl) (by kernel_rfl) (by rfl) rfl fun b1 => ?_)
    refine WL.p (Gp.move rfl) (by kernel_rfl) rfl ?_
    refine WL.op (by kernel_rfl) (OW.append rfl rfl (by kernel_rfl) (by kernel_rfl) (Vec.empty rfl) .here (hr.cons _) hl h1 (by omega) (by omega) rfl fun A' cap' o' hv => ?_)
    refine WL.p (Gp.assign rfl) (by kernel_rfl) rfl ?_
    refine WL.nil ?_
    refine WK.un ?_
    refine WC.ret ?_
    (refine WK.un ?_)
    exact QF.ret1 (.inl rfl) rfl (.tmp rfl) (List.Sublist.refl _) ⟨A', cap', o', by rw [Nat.zero_add], rfl, rfl, by simpa using hv⟩
theorem clone_procs (G : Gh) (H : List Own) (A : Option Addr) (n cap : Nat) (cs : List Value) (hr : Rds G H A cs) (hl : cs.length = n * 6) (h1 : cs.all (·.oneCell') = true) (hA : A = none → n = 0) (hb : n * 88 ≤ 140737488355328) :
    Fn Try.prog 51 #[.slice A n cap] G H fun e G' H' => ∃ A' cap' x', e = .returned (.slice A' n cap') ∧ G = G' ∧ H' = x' :: H ∧ Vec 55 6 A' n cap' cs x' := by
  refine Fn.enter Try.func51 rfl rfl fun w0 => ?_
  refine WC.seq ?_
  refine WC.region ?_
  refine WL.p (Gp.assign rfl) (by kernel_rfl) rfl ?_
  refine WL.nil ?_
  refine WK.un ?_
  refine WC.seq ?_
  refine WC.seq ?_
  refine WC.region ?_
  refine WL.p (Gp.move rfl) (by kernel_rfl) rfl ?_
  (first | refine WL.p (Gp.eqI rfl rfl) (by kernel_rfl) rfl ?_ | refine WL.p (Gp.eqS rfl rfl) (by kernel_rfl) rfl ?_ | refine WL.p (Gp.nilSl rfl) (by kernel_rfl) rfl ?_ | refine WL.p (Gp.eqB rfl rfl) (by kernel_rfl) rfl ?_)
  refine WL.nil ?_
  refine WK.un ?_
  refine WC.cond rfl (fun hc => ?_) (fun hc => ?_)
  · refine WC.seq ?_
    refine WC.region ?_
    refine WL.p (Gp.assign rfl) (by kernel_rfl) rfl ?_
    refine WL.nil ?_
    refine WK.un ?_
    refine WC.ret ?_
    have hA' : A = none := by simpa using hc
    have hn := hA hA'
    subst hn
    have hcs : cs = [] := List.eq_nil_of_length_eq_zero (by simpa using hl)
    subst hcs
    exact WK.nothing (QF.ret1 (.inl rfl) rfl (.tmp rfl) (List.Sublist.refl _) ⟨none, 0, _, rfl, rfl, rfl, ⟨by simp, .inl ⟨rfl, rfl, rfl, rfl⟩⟩⟩)
  ·
    refine WC.skip ?_
    refine WK.un ?_
    refine WC.seq ?_
    refine WC.region ?_
    refine WL.op (by kernel_rfl) (OW.buildSlice rfl (by kernel_rfl) (by kernel_rfl) (by rfl) rfl fun b1 => ?_)
    refine WL.p (Gp.move rfl) (by kernel_rfl) rfl ?_
    refine WL.op (by kernel_rfl) (OW.append rfl rfl (by kernel_rfl) (by kernel_rfl) (Vec.empty rfl) .here (hr.cons _) hl h1 (by omega) (by omega) rfl fun A' cap' o' hv => ?_)
    refine WL.p (Gp.assign rfl) (by kernel_rfl) rfl ?_
    refine WL.nil ?_
    refine WK.un ?_
    refine WC.ret ?_
    (refine WK.un ?_)
    exact QF.ret1 (.inl rfl) rfl (.tmp rfl) (List.Sublist.refl _) ⟨A', cap', o', by rw [Nat.zero_add], rfl, rfl, by simpa using hv⟩
theorem clone_types (G : Gh) (H : List Own) (A : Option Addr) (n cap : Nat) (cs : List Value) (hr : Rds G H A cs) (hl : cs.length = n * 1) (h1 : cs.all (·.oneCell') = true) (hA : A = none → n = 0) (hb : n * 8 ≤ 140737488355328) :
    Fn Try.prog 52 #[.slice A n cap] G H fun e G' H' => ∃ A' cap' x', e = .returned (.slice A' n cap') ∧ G = G' ∧ H' = x' :: H ∧ Vec 31 1 A' n cap' cs x' := by
  refine Fn.enter Try.func52 rfl rfl fun w0 => ?_
  refine WC.seq ?_
  refine WC.region ?_
  refine WL.p (Gp.assign rfl) (by kernel_rfl) rfl ?_
  refine WL.nil ?_
  refine WK.un ?_
  refine WC.seq ?_
  refine WC.seq ?_
  refine WC.region ?_
  refine WL.p (Gp.move rfl) (by kernel_rfl) rfl ?_
  (first | refine WL.p (Gp.eqI rfl rfl) (by kernel_rfl) rfl ?_ | refine WL.p (Gp.eqS rfl rfl) (by kernel_rfl) rfl ?_ | refine WL.p (Gp.nilSl rfl) (by kernel_rfl) rfl ?_ | refine WL.p (Gp.eqB rfl rfl) (by kernel_rfl) rfl ?_)
  refine WL.nil ?_
  refine WK.un ?_
  refine WC.cond rfl (fun hc => ?_) (fun hc => ?_)
  · refine WC.seq ?_
    refine WC.region ?_
    refine WL.p (Gp.assign rfl) (by kernel_rfl) rfl ?_
    refine WL.nil ?_
    refine WK.un ?_
    refine WC.ret ?_
    have hA' : A = none := by simpa using hc
    have hn := hA hA'
    subst hn
    have hcs : cs = [] := List.eq_nil_of_length_eq_zero (by simpa using hl)
    subst hcs
    exact WK.nothing (QF.ret1 (.inl rfl) rfl (.tmp rfl) (List.Sublist.refl _) ⟨none, 0, _, rfl, rfl, rfl, ⟨by simp, .inl ⟨rfl, rfl, rfl, rfl⟩⟩⟩)
  ·
    refine WC.skip ?_
    refine WK.un ?_
    refine WC.seq ?_
    refine WC.region ?_
    refine WL.op (by kernel_rfl) (OW.buildSlice rfl (by kernel_rfl) (by kernel_rfl) (by rfl) rfl fun b1 => ?_)
    refine WL.p (Gp.move rfl) (by kernel_rfl) rfl ?_
    refine WL.op (by kernel_rfl) (OW.append rfl rfl (by kernel_rfl) (by kernel_rfl) (Vec.empty rfl) .here (hr.cons _) hl h1 (by omega) (by omega) rfl fun A' cap' o' hv => ?_)
    refine WL.p (Gp.assign rfl) (by kernel_rfl) rfl ?_
    refine WL.nil ?_
    refine WK.un ?_
    refine WC.ret ?_
    (refine WK.un ?_)
    exact QF.ret1 (.inl rfl) rfl (.tmp rfl) (List.Sublist.refl _) ⟨A', cap', o', by rw [Nat.zero_add], rfl, rfl, by simpa using hv⟩
theorem clone_instrs (G : Gh) (H : List Own) (A : Option Addr) (n cap : Nat) (cs : List Value) (hr : Rds G H A cs) (hl : cs.length = n * 2) (h1 : cs.all (·.oneCell') = true) (hA : A = none → n = 0) (hb : n * 16 ≤ 140737488355328) :
    Fn Try.prog 53 #[.slice A n cap] G H fun e G' H' => ∃ A' cap' x', e = .returned (.slice A' n cap') ∧ G = G' ∧ H' = x' :: H ∧ Vec 51 2 A' n cap' cs x' := by
  refine Fn.enter Try.func53 rfl rfl fun w0 => ?_
  refine WC.seq ?_
  refine WC.region ?_
  refine WL.p (Gp.assign rfl) (by kernel_rfl) rfl ?_
  refine WL.nil ?_
  refine WK.un ?_
  refine WC.seq ?_
  refine WC.seq ?_
  refine WC.region ?_
  refine WL.p (Gp.move rfl) (by kernel_rfl) rfl ?_
  (first | refine WL.p (Gp.eqI rfl rfl) (by kernel_rfl) rfl ?_ | refine WL.p (Gp.eqS rfl rfl) (by kernel_rfl) rfl ?_ | refine WL.p (Gp.nilSl rfl) (by kernel_rfl) rfl ?_ | refine WL.p (Gp.eqB rfl rfl) (by kernel_rfl) rfl ?_)
  refine WL.nil ?_
  refine WK.un ?_
  refine WC.cond rfl (fun hc => ?_) (fun hc => ?_)
  · refine WC.seq ?_
    refine WC.region ?_
    refine WL.p (Gp.assign rfl) (by kernel_rfl) rfl ?_
    refine WL.nil ?_
    refine WK.un ?_
    refine WC.ret ?_
    have hA' : A = none := by simpa using hc
    have hn := hA hA'
    subst hn
    have hcs : cs = [] := List.eq_nil_of_length_eq_zero (by simpa using hl)
    subst hcs
    exact WK.nothing (QF.ret1 (.inl rfl) rfl (.tmp rfl) (List.Sublist.refl _) ⟨none, 0, _, rfl, rfl, rfl, ⟨by simp, .inl ⟨rfl, rfl, rfl, rfl⟩⟩⟩)
  ·
    refine WC.skip ?_
    refine WK.un ?_
    refine WC.seq ?_
    refine WC.region ?_
    refine WL.op (by kernel_rfl) (OW.buildSlice rfl (by kernel_rfl) (by kernel_rfl) (by rfl) rfl fun b1 => ?_)
    refine WL.p (Gp.move rfl) (by kernel_rfl) rfl ?_
    refine WL.op (by kernel_rfl) (OW.append rfl rfl (by kernel_rfl) (by kernel_rfl) (Vec.empty rfl) .here (hr.cons _) hl h1 (by omega) (by omega) rfl fun A' cap' o' hv => ?_)
    refine WL.p (Gp.assign rfl) (by kernel_rfl) rfl ?_
    refine WL.nil ?_
    refine WK.un ?_
    refine WC.ret ?_
    (refine WK.un ?_)
    exact QF.ret1 (.inl rfl) rfl (.tmp rfl) (List.Sublist.refl _) ⟨A', cap', o', by rw [Nat.zero_add], rfl, rfl, by simpa using hv⟩

/-- a frame's cells -/
abbrev frC (A : Option Addr) (n cap : Nat) (p a : Int) (B : Option Addr) (m cm : Nat) : Array Value := #[.slice A n cap, .int .i64 p, .int .i64 a, .slice B m cm]

theorem high_fn (G : Gh) (b : Nat) (A : Option Addr) (n cap : Nat) (p a : Int) (B : Option Addr) (m cm : Nat) :
    Fn Try.prog 78 #[.pointer (some ⟨b, 0, none⟩)] G [.blk b (.cells (frC A n cap p a B m cm) 91 (0, 0))] fun e G' H' => e = .returned (.int .i64 n) ∧ G = G' ∧ H' = [.blk b (.cells (frC A n cap p a B m cm) 91 (0, 0))] := by
  refine Fn.enter Try.func78 rfl rfl fun w0 => ?_
  refine WC.seq ?_
  refine WC.region ?_
  refine WL.p (Gp.assign rfl) (by kernel_rfl) rfl ?_
  refine WL.nil ?_
  refine WK.un ?_
  refine WC.seq ?_
  refine WC.region ?_
  refine WL.p (Gp.move rfl) (by kernel_rfl) rfl ?_
  refine WL.p (Gp.nilCheck rfl) (by kernel_rfl) rfl ?_
  refine WL.p (Gp.fieldAddr rfl) (by kernel_rfl) rfl ?_
  (first | (refine WL.v (Gv.load1 rfl (by (repeat first | exact .here | apply At.there)) (by first | rfl | assumption)) (by kernel_rfl) rfl ?_) | (refine WL.v (Gv.loadN rfl (by (repeat first | exact .here | apply At.there)) (by rfl) (by rfl)) (by kernel_rfl) rfl ?_) | (refine WL.v (Gv.loadG1 rfl (by assumption) rfl) (by kernel_rfl) rfl ?_) | (refine WL.v (Gv.loadG0 rfl (by assumption) rfl) (by kernel_rfl) rfl ?_) | (refine WL.v (Gv.loadGN rfl (by assumption) rfl) (by kernel_rfl) rfl ?_))
  (first | refine WL.p (Gp.lenSl rfl) (by kernel_rfl) rfl ?_ | refine WL.p (Gp.lenS rfl) (by kernel_rfl) rfl ?_)
  refine WL.p (Gp.assign rfl) (by kernel_rfl) rfl ?_
  refine WL.nil ?_
  refine WK.un ?_
  refine WC.ret ?_
  (refine WK.un ?_)
  exact QF.ret1 (.inl rfl) rfl (.tmp rfl) (List.Sublist.refl _) ⟨rfl, rfl, rfl⟩

theorem push_fn (G : Gh) (b : Nat) (A : Option Addr) (n cap : Nat) (p a : Int) (B : Option Addr) (m cm : Nat) (cs : List Value) (x : Own) (v : V) (hv : Vec 33 4 A n cap cs x) (hb : n ≤ 1000000000) :
    Fn Try.prog 79 #[.pointer (some ⟨b, 0, none⟩), .agg #[.int .i64 v.t, .int .i64 v.i, .bool v.b, .string v.s]] G [.blk b (.cells (frC A n cap p a B m cm) 91 (0, 0)), x]
      fun e G' H' => ∃ A' cap' x', e = .returned (.tuple #[]) ∧ G = G' ∧ H' = [.blk b (.cells (frC A' (n + 1) cap' p a B m cm) 91 (0, 0)), x'] ∧ Vec 33 4 A' (n + 1) cap' (cs ++ vcells v) x' := by
  refine Fn.enter Try.func79 rfl rfl fun w0 => ?_
  refine WC.seq ?_
  refine WC.region ?_
  refine WL.op (by kernel_rfl) (OW.box rfl rfl fun b2 => ?_)
  refine WL.nil ?_
  refine WK.un ?_
  refine WC.draw mixed ?_
  refine WA.tp (i := 0) rfl (by kernel_rfl) (by kernel_rfl) rfl (Gp.move rfl) ?_
  refine WA.tp (i := 1) rfl (by kernel_rfl) (by kernel_rfl) rfl (Gp.move rfl) ?_
  refine WA.tp (i := 2) rfl (by kernel_rfl) (by kernel_rfl) rfl (Gp.nilCheck rfl) ?_
  refine WA.tp (i := 3) rfl (by kernel_rfl) (by kernel_rfl) rfl (Gp.fieldAddr rfl) ?_
  (first | (refine WA.tv (i := 4) rfl (by kernel_rfl) (by kernel_rfl) rfl (Gv.load1 rfl (by (repeat first | exact .here | apply At.there)) (by first | rfl | assumption)) ?_) | (refine WA.tv (i := 4) rfl (by kernel_rfl) (by kernel_rfl) rfl (Gv.loadN rfl (by (repeat first | exact .here | apply At.there)) (by rfl) (by rfl)) ?_) | (refine WA.tv (i := 4) rfl (by kernel_rfl) (by kernel_rfl) rfl (Gv.loadG1 rfl (by assumption) rfl) ?_) | (refine WA.tv (i := 4) rfl (by kernel_rfl) (by kernel_rfl) rfl (Gv.loadG0 rfl (by assumption) rfl) ?_) | (refine WA.tv (i := 4) rfl (by kernel_rfl) (by kernel_rfl) rfl (Gv.loadGN rfl (by assumption) rfl) ?_))
  (first | (refine WA.tv (i := 5) rfl (by kernel_rfl) (by kernel_rfl) rfl (Gv.load1 rfl (by (repeat first | exact .here | apply At.there)) (by first | rfl | assumption)) ?_) | (refine WA.tv (i := 5) rfl (by kernel_rfl) (by kernel_rfl) rfl (Gv.loadN rfl (by (repeat first | exact .here | apply At.there)) (by rfl) (by rfl)) ?_) | (refine WA.tv (i := 5) rfl (by kernel_rfl) (by kernel_rfl) rfl (Gv.loadG1 rfl (by assumption) rfl) ?_) | (refine WA.tv (i := 5) rfl (by kernel_rfl) (by kernel_rfl) rfl (Gv.loadG0 rfl (by assumption) rfl) ?_) | (refine WA.tv (i := 5) rfl (by kernel_rfl) (by kernel_rfl) rfl (Gv.loadGN rfl (by assumption) rfl) ?_))
  refine WA.one (i := 6) (by kernel_rfl) rfl (by kernel_rfl) (OW.buildSlice rfl (by kernel_rfl) (by kernel_rfl) (by rfl) rfl fun b3 => ?_)
  refine WA.one (i := 7) (by kernel_rfl) rfl (by kernel_rfl) (OW.append rfl rfl (by kernel_rfl) (by kernel_rfl) hv (by (repeat first | exact .here | apply At.there)) (Rds.blk0 (cs := vcells v) .here rfl) rfl rfl (by omega) (by omega) rfl fun A' cap' o' hv' => ?_)
  refine WA.tp (i := 8) rfl (by kernel_rfl) (by kernel_rfl) rfl (Gp.nilCheck rfl) ?_
  refine WA.tp (i := 9) rfl (by kernel_rfl) (by kernel_rfl) rfl (Gp.fieldAddr rfl) ?_
  refine WA.one (i := 10) (by kernel_rfl) rfl (by kernel_rfl) (OW.store rfl rfl (by (repeat first | exact .here | apply At.there)) rfl (by rfl) (by rfl) (by kernel_rfl) (by rfl) ?_ rfl)
  exact WA.done (by kernel_rfl) (QF.ret0 (.inr rfl) rfl (.cons _ (.cons _ (List.Sublist.refl _))) ⟨A', cap', o', rfl, rfl, rfl, hv'⟩)
end Go.Proofs.Ytjgohbepageicaa.Gb
namespace Go.Proofs.Ytjgohbepageicaa.Gb
open Go Go.Proofs
set_option linter.unusedVariables false
attribute [local irreducible] Try.prog

theorem wrap_small {x : Int} (h0 : -1000000000000000 ≤ x) (h1 : x ≤ 1000000000000000) : IntKind.i64.wrap x = x := by rw [IntKind.wrap_i64]; omega

/-- how a step gives up -/
def halted (n : Int) : Ending := .panicked [{ v := .iface 108 (.agg #[.int .i64 n]), recovered := false }]

theorem stuck_fn (G : Gh) : Fn Try.prog 77 #[] G [] fun e G' H' => e = halted 6 ∧ G = G' ∧ H' = [] := by
  refine Fn.enter (vs := []) Try.func77 rfl rfl fun w0 => ?_
  refine WC.region ?_
  refine WL.p (Gp.build rfl rfl) (by kernel_rfl) rfl ?_
  refine WL.p (Gp.mkIface rfl (by kernel_rfl)) (by kernel_rfl) rfl ?_
  refine WL.op (by kernel_rfl) (OW.panic rfl (QF.panic (List.Sublist.refl _) ⟨rfl, rfl, rfl⟩))

theorem need_ok (G : Gh) : Fn Try.prog 64 #[.bool true] G [] fun e G' H' => e = .returned (.tuple #[]) ∧ G = G' ∧ H' = [] := by
  refine Fn.enter Try.func64 rfl rfl fun w0 => ?_
  refine WC.seq ?_
  refine WC.region ?_
  refine WL.p (Gp.move rfl) (by kernel_rfl) rfl ?_
  refine WL.p (Gp.notB rfl) (by kernel_rfl) rfl ?_
  refine WL.nil ?_
  refine WK.un ?_
  refine WC.cond_false rfl ?_
  exact WC.skip (QF.ret0 (.inr rfl) rfl (List.Sublist.refl _) ⟨rfl, rfl, rfl⟩)
theorem need_no (G : Gh) : Fn Try.prog 64 #[.bool false] G [] fun e G' H' => e = halted 6 ∧ G = G' ∧ H' = [] := by
  refine Fn.enter Try.func64 rfl rfl fun w0 => ?_
  refine WC.seq ?_
  refine WC.region ?_
  refine WL.p (Gp.move rfl) (by kernel_rfl) rfl ?_
  refine WL.p (Gp.notB rfl) (by kernel_rfl) rfl ?_
  refine WL.nil ?_
  refine WK.un ?_
  refine WC.cond_true rfl ?_
  refine WC.region ?_
  refine WL.op (by kernel_rfl) (OW.call rfl (F := []) (List.Perm.refl _) (stuck_fn G) rfl (fun v G' H' h _ => by cases h.1) (fun ch G' H' h _ => ?_) (fun G' H' h => by cases h.1))
  obtain ⟨he, rfl, rfl⟩ := h
  cases he
  exact QF.panic (List.Sublist.refl _) ⟨rfl, rfl, rfl⟩

theorem truth_fn (G : Gh) (b : Bool) : Fn Try.prog 82 #[.bool b] G [] fun e G' H' => e = .returned (.agg #[.int .i64 2, .int .i64 0, .bool b, .string ⟨#[]⟩]) ∧ G = G' ∧ H' = [] := by
  refine Fn.enter Try.func82 rfl rfl fun w0 => ?_
  refine WC.seq ?_
  refine WC.region ?_
  refine WL.op (by kernel_rfl) (OW.alloc rfl fun b1 => ?_)
  refine WL.nil ?_
  refine WK.un ?_
  refine WC.seq ?_
  refine WC.region ?_
  refine WL.p (Gp.move rfl) (by kernel_rfl) rfl ?_
  refine WL.p (Gp.build rfl rfl) (by kernel_rfl) rfl ?_
  refine WL.op (by kernel_rfl) (OW.store rfl rfl (by (repeat first | exact .here | apply At.there)) rfl (by rfl) (by rfl) (by kernel_rfl) (by rfl) ?_ rfl)
  refine WL.nil ?_
  refine WK.un ?_
  refine WC.ret ?_
  exact QF.ret1 (.inl rfl) rfl (.cell rfl inferInstance inferInstance (by (repeat first | exact .here | apply At.there)) rfl rfl) (List.nil_sublist _) ⟨rfl, rfl, rfl⟩
theorem number_fn (G : Gh) (n : Int) : Fn Try.prog 83 #[.int .i64 n] G [] fun e G' H' => e = .returned (.agg #[.int .i64 1, .int .i64 n, .bool false, .string ⟨#[]⟩]) ∧ G = G' ∧ H' = [] := by
  refine Fn.enter Try.func83 rfl rfl fun w0 => ?_
  refine WC.seq ?_
  refine WC.region ?_
  refine WL.op (by kernel_rfl) (OW.alloc rfl fun b1 => ?_)
  refine WL.nil ?_
  refine WK.un ?_
  refine WC.seq ?_
  refine WC.region ?_
  refine WL.p (Gp.move rfl) (by kernel_rfl) rfl ?_
  refine WL.p (Gp.build rfl rfl) (by kernel_rfl) rfl ?_
  refine WL.op (by kernel_rfl) (OW.store rfl rfl (by (repeat first | exact .here | apply At.there)) rfl (by rfl) (by rfl) (by kernel_rfl) (by rfl) ?_ rfl)
  refine WL.nil ?_
  refine WK.un ?_
  refine WC.ret ?_
  exact QF.ret1 (.inl rfl) rfl (.cell rfl inferInstance inferInstance (by (repeat first | exact .here | apply At.there)) rfl rfl) (List.nil_sublist _) ⟨rfl, rfl, rfl⟩

theorem pop_fn (G : Gh) (b : Nat) (A : Option Addr) (cap : Nat) (p a : Int) (B : Option Addr) (m cm : Nat) (l1 l2 : List V) (x : Own) (hv : Vec 33 4 A (l1.length + l2.length) cap (vflat (l1 ++ l2)) x) (hb : l1.length + l2.length ≤ 1000000000) :
    Fn Try.prog 80 #[.pointer (some ⟨b, 0, none⟩), .int .i64 l2.length] G [.blk b (.cells (frC A (l1.length + l2.length) cap p a B m cm) 91 (0, 0)), x]
      fun e G' H' => ∃ A' cap' x', e = .returned (.slice A' l2.length cap') ∧ G = G' ∧ H' = [x', .blk b (.cells (frC A l1.length cap p a B m cm) 91 (0, 0)), x] ∧ Vec 33 4 A' l2.length cap' (vflat l2) x' ∧ Vec 33 4 A l1.length cap (vflat l1) x := by
  have e1 : IntKind.i64.wrap (((l1.length + l2.length : Nat) : Int) - (l2.length : Int)) = (l1.length : Int) := by rw [wrap_small] <;> omega
  have hd : (vflat (l1 ++ l2)).drop (l1.length * 4) = vflat l2 := by rw [vflat_append, ← vflat_length, List.drop_left]
  have ht : (vflat (l1 ++ l2)).take (l1.length * 4) = vflat l1 := by rw [vflat_append, ← vflat_length, List.take_left]
  have hle := hv.le
  have hv2 : Vec 33 4 A l1.length cap (vflat l1) x := ht ▸ hv.cut (m := l1.length) (by omega)
  refine Fn.enter Try.func80 rfl rfl fun w0 => ?_
  refine WC.seq ?_
  refine WC.region ?_
  refine WL.p (Gp.assign rfl) (by kernel_rfl) rfl ?_
  refine WL.nil ?_
  refine WK.un ?_
  refine WC.seq ?_
  refine WC.region ?_
  refine WL.p (Gp.move rfl) (by kernel_rfl) rfl ?_
  refine WL.p (Gp.nilCheck rfl) (by kernel_rfl) rfl ?_
  refine WL.p (Gp.fieldAddr rfl) (by kernel_rfl) rfl ?_
  (first | (refine WL.v (Gv.load1 rfl (by (repeat first | exact .here | apply At.there)) (by first | rfl | assumption)) (by kernel_rfl) rfl ?_) | (refine WL.v (Gv.loadN rfl (by (repeat first | exact .here | apply At.there)) (by rfl) (by rfl)) (by kernel_rfl) rfl ?_) | (refine WL.v (Gv.loadG1 rfl (by assumption) rfl) (by kernel_rfl) rfl ?_) | (refine WL.v (Gv.loadG0 rfl (by assumption) rfl) (by kernel_rfl) rfl ?_) | (refine WL.v (Gv.loadGN rfl (by assumption) rfl) (by kernel_rfl) rfl ?_))
  (first | refine WL.p (Gp.lenSl rfl) (by kernel_rfl) rfl ?_ | refine WL.p (Gp.lenS rfl) (by kernel_rfl) rfl ?_)
  refine WL.p (Gp.move rfl) (by kernel_rfl) rfl ?_
  refine WL.p (Gp.sub rfl rfl) (by kernel_rfl) rfl ?_
  rw [e1]
  refine WL.p (Gp.assign rfl) (by kernel_rfl) rfl ?_
  refine WL.nil ?_
  refine WK.un ?_
  refine WC.seq ?_
  refine WC.region ?_
  refine WL.p (Gp.move rfl) (by kernel_rfl) rfl ?_
  refine WL.p (Gp.nilCheck rfl) (by kernel_rfl) rfl ?_
  refine WL.p (Gp.fieldAddr rfl) (by kernel_rfl) rfl ?_
  (first | (refine WL.v (Gv.load1 rfl (by (repeat first | exact .here | apply At.there)) (by first | rfl | assumption)) (by kernel_rfl) rfl ?_) | (refine WL.v (Gv.loadN rfl (by (repeat first | exact .here | apply At.there)) (by rfl) (by rfl)) (by kernel_rfl) rfl ?_) | (refine WL.v (Gv.loadG1 rfl (by assumption) rfl) (by kernel_rfl) rfl ?_) | (refine WL.v (Gv.loadG0 rfl (by assumption) rfl) (by kernel_rfl) rfl ?_) | (refine WL.v (Gv.loadGN rfl (by assumption) rfl) (by kernel_rfl) rfl ?_))
  refine WL.p (Gp.move rfl) (by kernel_rfl) rfl ?_
  refine WL.p (Gp.sliceFrom rfl rfl (by omega) (by omega)) (by kernel_rfl) rfl ?_
  have hr := hv.rdsFrom (G := G) (H := [.blk b (.cells (frC A (l1.length + l2.length) cap p a B m cm) 91 (0, 0)), x]) (.there .here) (lo := l1.length) (by omega)
  rw [hd] at hr
  simp only [Int.toNat_natCast, Nat.add_sub_cancel_left]
  refine WL.op (by kernel_rfl) (OW.callR rfl (perm_all _) (clone_vals G _ _ _ _ _ hr (vflat_length _) (vflat_one _) (fun hA => ?_) (by omega)) rfl (by rintro e G' H' ⟨A', cap', x', h, _⟩; exact ⟨_, h⟩) fun v G' H' h hg => ?_)
  · split at hA
    · omega
    · rcases hv.2 with ⟨h1, h2, _⟩ | ⟨b', c', h1, _⟩
      · omega
      · rw [h1] at hA; cases hA
  obtain ⟨A', cap', x', he, rfl, rfl, hv'⟩ := h
  cases he
  refine WL.p (Gp.assign rfl) (by kernel_rfl) rfl ?_
  refine WL.nil ?_
  refine WK.un ?_
  refine WC.seq ?_
  refine WC.region ?_
  refine WL.p (Gp.move rfl) (by kernel_rfl) rfl ?_
  refine WL.p (Gp.move rfl) (by kernel_rfl) rfl ?_
  refine WL.p (Gp.nilCheck rfl) (by kernel_rfl) rfl ?_
  refine WL.p (Gp.fieldAddr rfl) (by kernel_rfl) rfl ?_
  (first | (refine WL.v (Gv.load1 rfl (by (repeat first | exact .here | apply At.there)) (by first | rfl | assumption)) (by kernel_rfl) rfl ?_) | (refine WL.v (Gv.loadN rfl (by (repeat first | exact .here | apply At.there)) (by rfl) (by rfl)) (by kernel_rfl) rfl ?_) | (refine WL.v (Gv.loadG1 rfl (by assumption) rfl) (by kernel_rfl) rfl ?_) | (refine WL.v (Gv.loadG0 rfl (by assumption) rfl) (by kernel_rfl) rfl ?_) | (refine WL.v (Gv.loadGN rfl (by assumption) rfl) (by kernel_rfl) rfl ?_))
  refine WL.p (Gp.move rfl) (by kernel_rfl) rfl ?_
  refine WL.p (Gp.sliceTo rfl rfl (by omega) (by omega)) (by kernel_rfl) rfl ?_
  refine WL.p (Gp.nilCheck rfl) (by kernel_rfl) rfl ?_
  refine WL.p (Gp.fieldAddr rfl) (by kernel_rfl) rfl ?_
  refine WL.op (by kernel_rfl) (OW.store rfl rfl (by (repeat first | exact .here | apply At.there)) rfl (by rfl) (by rfl) (by kernel_rfl) (by rfl) ?_ rfl)
  refine WL.nil ?_
  refine WK.un ?_
  refine WC.seq ?_
  refine WC.region ?_
  refine WL.p (Gp.move rfl) (by kernel_rfl) rfl ?_
  refine WL.p (Gp.assign rfl) (by kernel_rfl) rfl ?_
  refine WL.nil ?_
  refine WK.un ?_
  refine WC.ret ?_
  (refine WK.un ?_)
  exact QF.ret1 (.inl rfl) rfl (.tmp rfl) (List.Sublist.refl _) ⟨A', cap', x', rfl, rfl, rfl, hv', hv2⟩
end Go.Proofs.Ytjgohbepageicaa.Gb
namespace Go.Proofs.Ytjgohbepageicaa.Gb
open Go Go.Proofs
set_option linter.unusedVariables false
attribute [local irreducible] Try.prog

/-- may a value be? -/
def vOK (v : V) : Bool := if v.t = 1 then !v.b && v.s == ⟨#[]⟩ else if v.t = 2 then v.i == 0 && v.s == ⟨#[]⟩ else if v.t = 3 then v.i == 0 && !v.b && decide ((v.s.size : Int) ≤ 4096) else false

theorem value_fn (G : Gh) (v : V) : Fn Try.prog 36 #[.agg #[.int .i64 v.t, .int .i64 v.i, .bool v.b, .string v.s]] G [] fun e G' H' => e = .returned (.bool (vOK v)) ∧ G = G' ∧ H' = [] := by
  refine Fn.enter Try.func36 rfl rfl fun w0 => ?_
  refine WC.seq ?_
  refine WC.region ?_
  refine WL.op (by kernel_rfl) (OW.box rfl rfl fun b1 => ?_)
  refine WL.p (Gp.assign rfl) (by kernel_rfl) rfl ?_
  refine WL.nil ?_
  refine WK.un ?_
  refine WC.seq ?_
  refine WC.seq ?_
  refine WC.region ?_
  refine WL.p (Gp.fieldAddr rfl) (by kernel_rfl) rfl ?_
  (first | (refine WL.v (Gv.load1 rfl (by (repeat first | exact .here | apply At.there)) (by first | rfl | assumption)) (by kernel_rfl) rfl ?_) | (refine WL.v (Gv.loadN rfl (by (repeat first | exact .here | apply At.there)) (by rfl) (by rfl)) (by kernel_rfl) rfl ?_) | (refine WL.v (Gv.loadG1 rfl (by assumption) rfl) (by kernel_rfl) rfl ?_) | (refine WL.v (Gv.loadG0 rfl (by assumption) rfl) (by kernel_rfl) rfl ?_) | (refine WL.v (Gv.loadGN rfl (by assumption) rfl) (by kernel_rfl) rfl ?_))
  refine WL.nil ?_
  refine WK.un ?_
  refine WC.block ?_  -- 0
  refine WC.seq ?_
  refine WC.region ?_
  (first | refine WL.p (Gp.eqI rfl rfl) (by kernel_rfl) rfl ?_ | refine WL.p (Gp.eqS rfl rfl) (by kernel_rfl) rfl ?_ | refine WL.p (Gp.nilSl rfl) (by kernel_rfl) rfl ?_ | refine WL.p (Gp.eqB rfl rfl) (by kernel_rfl) rfl ?_)
  refine WL.p (Gp.assign rfl) (by kernel_rfl) rfl ?_
  refine WL.nil ?_
  refine WK.un ?_
  refine WC.cond rfl (fun hc => ?_) (fun hc => ?_)
  · -- yes
    have ht : v.t = 1 := by simpa using hc
    refine WC.seq ?_
    refine WC.region ?_
    refine WL.p (Gp.fieldAddr rfl) (by kernel_rfl) rfl ?_
    (first | (refine WL.v (Gv.load1 rfl (by (repeat first | exact .here | apply At.there)) (by first | rfl | assumption)) (by kernel_rfl) rfl ?_) | (refine WL.v (Gv.loadN rfl (by (repeat first | exact .here | apply At.there)) (by rfl) (by rfl)) (by kernel_rfl) rfl ?_) | (refine WL.v (Gv.loadG1 rfl (by assumption) rfl) (by kernel_rfl) rfl ?_) | (refine WL.v (Gv.loadG0 rfl (by assumption) rfl) (by kernel_rfl) rfl ?_) | (refine WL.v (Gv.loadGN rfl (by assumption) rfl) (by kernel_rfl) rfl ?_))
    refine WL.p (Gp.notB rfl) (by kernel_rfl) rfl ?_
    refine WL.p (Gp.move rfl) (by kernel_rfl) rfl ?_
    generalize hb : v.b = b
    cases b
    all_goals (first | refine WL.p (Gp.fieldAddr rfl) (by rfl) rfl ?_ | refine WL.skip (by rfl) rfl ?_)
    all_goals (first | (first | (refine WL.v (Gv.load1 rfl (by (repeat first | exact .here | apply At.there)) (by first | rfl | assumption)) (by rfl) rfl ?_) | (refine WL.v (Gv.loadN rfl (by (repeat first | exact .here | apply At.there)) (by rfl) (by rfl)) (by rfl) rfl ?_) | (refine WL.v (Gv.loadG1 rfl (by assumption) rfl) (by rfl) rfl ?_) | (refine WL.v (Gv.loadG0 rfl (by assumption) rfl) (by rfl) rfl ?_) | (refine WL.v (Gv.loadGN rfl (by assumption) rfl) (by rfl) rfl ?_)) | refine WL.skip (by rfl) rfl ?_)
    all_goals (first | (first | refine WL.p (Gp.eqI rfl rfl) (by rfl) rfl ?_ | refine WL.p (Gp.eqS rfl rfl) (by rfl) rfl ?_ | refine WL.p (Gp.nilSl rfl) (by rfl) rfl ?_ | refine WL.p (Gp.eqB rfl rfl) (by rfl) rfl ?_) | refine WL.skip (by rfl) rfl ?_)
    all_goals (first | (first | refine WL.p (Gp.pickT rfl rfl) (by rfl) rfl ?_ | refine WL.p (Gp.pickF rfl rfl) (by rfl) rfl ?_) | refine WL.skip (by rfl) rfl ?_)
    all_goals (first | refine WL.p (Gp.assign rfl) (by rfl) rfl ?_ | refine WL.skip (by rfl) rfl ?_)
    all_goals refine WL.nil ?_
    all_goals (refine WK.un ?_)
    all_goals refine WC.ret ?_
    all_goals (refine WK.un ?_)
    all_goals exact QF.ret1 (.inl rfl) rfl (.tmp rfl) (List.nil_sublist _) ⟨by simp [vOK, ht, hb], rfl, rfl⟩
  · -- no
    have ht1 : ¬ v.t = 1 := by simpa using hc
    refine WC.seq ?_
    refine WC.region ?_
    (first | refine WL.p (Gp.eqI rfl rfl) (by kernel_rfl) rfl ?_ | refine WL.p (Gp.eqS rfl rfl) (by kernel_rfl) rfl ?_ | refine WL.p (Gp.nilSl rfl) (by kernel_rfl) rfl ?_ | refine WL.p (Gp.eqB rfl rfl) (by kernel_rfl) rfl ?_)
    refine WL.p (Gp.assign rfl) (by kernel_rfl) rfl ?_
    refine WL.nil ?_
    refine WK.un ?_
    refine WC.cond rfl (fun hc => ?_) (fun hc => ?_)
    · -- yes
      have ht : v.t = 2 := by simpa using hc
      refine WC.seq ?_
      refine WC.region ?_
      refine WL.p (Gp.fieldAddr rfl) (by kernel_rfl) rfl ?_
      (first | (refine WL.v (Gv.load1 rfl (by (repeat first | exact .here | apply At.there)) (by first | rfl | assumption)) (by kernel_rfl) rfl ?_) | (refine WL.v (Gv.loadN rfl (by (repeat first | exact .here | apply At.there)) (by rfl) (by rfl)) (by kernel_rfl) rfl ?_) | (refine WL.v (Gv.loadG1 rfl (by assumption) rfl) (by kernel_rfl) rfl ?_) | (refine WL.v (Gv.loadG0 rfl (by assumption) rfl) (by kernel_rfl) rfl ?_) | (refine WL.v (Gv.loadGN rfl (by assumption) rfl) (by kernel_rfl) rfl ?_))
      (first | refine WL.p (Gp.eqI rfl rfl) (by kernel_rfl) rfl ?_ | refine WL.p (Gp.eqS rfl rfl) (by kernel_rfl) rfl ?_ | refine WL.p (Gp.nilSl rfl) (by kernel_rfl) rfl ?_ | refine WL.p (Gp.eqB rfl rfl) (by kernel_rfl) rfl ?_)
      refine WL.p (Gp.move rfl) (by kernel_rfl) rfl ?_
      generalize hb : (v.i == 0) = b
      cases b
      all_goals (first | refine WL.p (Gp.fieldAddr rfl) (by rfl) rfl ?_ | refine WL.skip (by rfl) rfl ?_)
      all_goals (first | (first | (refine WL.v (Gv.load1 rfl (by (repeat first | exact .here | apply At.there)) (by first | rfl | assumption)) (by rfl) rfl ?_) | (refine WL.v (Gv.loadN rfl (by (repeat first | exact .here | apply At.there)) (by rfl) (by rfl)) (by rfl) rfl ?_) | (refine WL.v (Gv.loadG1 rfl (by assumption) rfl) (by rfl) rfl ?_) | (refine WL.v (Gv.loadG0 rfl (by assumption) rfl) (by rfl) rfl ?_) | (refine WL.v (Gv.loadGN rfl (by assumption) rfl) (by rfl) rfl ?_)) | refine WL.skip (by rfl) rfl ?_)
      all_goals (first | (first | refine WL.p (Gp.eqI rfl rfl) (by rfl) rfl ?_ | refine WL.p (Gp.eqS rfl rfl) (by rfl) rfl ?_ | refine WL.p (Gp.nilSl rfl) (by rfl) rfl ?_ | refine WL.p (Gp.eqB rfl rfl) (by rfl) rfl ?_) | refine WL.skip (by rfl) rfl ?_)
      all_goals (first | (first | refine WL.p (Gp.pickT rfl rfl) (by rfl) rfl ?_ | refine WL.p (Gp.pickF rfl rfl) (by rfl) rfl ?_) | refine WL.skip (by rfl) rfl ?_)
      all_goals (first | refine WL.p (Gp.assign rfl) (by rfl) rfl ?_ | refine WL.skip (by rfl) rfl ?_)
      all_goals refine WL.nil ?_
      all_goals (refine WK.un ?_)
      all_goals refine WC.ret ?_
      all_goals (refine WK.un ?_)
      all_goals exact QF.ret1 (.inl rfl) rfl (.tmp rfl) (List.nil_sublist _) ⟨by simp [vOK, ht, hb], rfl, rfl⟩
    · -- no
      have ht2 : ¬ v.t = 2 := by simpa using hc
      refine WC.seq ?_
      refine WC.region ?_
      (first | refine WL.p (Gp.eqI rfl rfl) (by kernel_rfl) rfl ?_ | refine WL.p (Gp.eqS rfl rfl) (by kernel_rfl) rfl ?_ | refine WL.p (Gp.nilSl rfl) (by kernel_rfl) rfl ?_ | refine WL.p (Gp.eqB rfl rfl) (by kernel_rfl) rfl ?_)
      refine WL.p (Gp.assign rfl) (by kernel_rfl) rfl ?_
      refine WL.nil ?_
      refine WK.un ?_
      refine WC.cond rfl (fun hc => ?_) (fun hc => ?_)
      · -- yes
        have ht : v.t = 3 := by simpa using hc
        refine WC.seq ?_
        refine WC.region ?_
        refine WL.p (Gp.fieldAddr rfl) (by kernel_rfl) rfl ?_
        (first | (refine WL.v (Gv.load1 rfl (by (repeat first | exact .here | apply At.there)) (by first | rfl | assumption)) (by kernel_rfl) rfl ?_) | (refine WL.v (Gv.loadN rfl (by (repeat first | exact .here | apply At.there)) (by rfl) (by rfl)) (by kernel_rfl) rfl ?_) | (refine WL.v (Gv.loadG1 rfl (by assumption) rfl) (by kernel_rfl) rfl ?_) | (refine WL.v (Gv.loadG0 rfl (by assumption) rfl) (by kernel_rfl) rfl ?_) | (refine WL.v (Gv.loadGN rfl (by assumption) rfl) (by kernel_rfl) rfl ?_))
        (first | refine WL.p (Gp.eqI rfl rfl) (by kernel_rfl) rfl ?_ | refine WL.p (Gp.eqS rfl rfl) (by kernel_rfl) rfl ?_ | refine WL.p (Gp.nilSl rfl) (by kernel_rfl) rfl ?_ | refine WL.p (Gp.eqB rfl rfl) (by kernel_rfl) rfl ?_)
        refine WL.p (Gp.move rfl) (by kernel_rfl) rfl ?_
        generalize hb : (v.i == 0) = b
        generalize hb' : v.b = b'
        cases b <;> cases b'
        all_goals (first | refine WL.p (Gp.fieldAddr rfl) (by rfl) rfl ?_ | refine WL.skip (by rfl) rfl ?_)
        all_goals (first | (first | (refine WL.v (Gv.load1 rfl (by (repeat first | exact .here | apply At.there)) (by first | rfl | assumption)) (by rfl) rfl ?_) | (refine WL.v (Gv.loadN rfl (by (repeat first | exact .here | apply At.there)) (by rfl) (by rfl)) (by rfl) rfl ?_) | (refine WL.v (Gv.loadG1 rfl (by assumption) rfl) (by rfl) rfl ?_) | (refine WL.v (Gv.loadG0 rfl (by assumption) rfl) (by rfl) rfl ?_) | (refine WL.v (Gv.loadGN rfl (by assumption) rfl) (by rfl) rfl ?_)) | refine WL.skip (by rfl) rfl ?_)
        all_goals (first | refine WL.p (Gp.notB rfl) (by rfl) rfl ?_ | refine WL.skip (by rfl) rfl ?_)
        all_goals (first | (first | refine WL.p (Gp.pickT rfl rfl) (by rfl) rfl ?_ | refine WL.p (Gp.pickF rfl rfl) (by rfl) rfl ?_) | refine WL.skip (by rfl) rfl ?_)
        all_goals (first | refine WL.p (Gp.move rfl) (by rfl) rfl ?_ | refine WL.skip (by rfl) rfl ?_)
        all_goals (first | refine WL.p (Gp.fieldAddr rfl) (by rfl) rfl ?_ | refine WL.skip (by rfl) rfl ?_)
        all_goals (first | (first | (refine WL.v (Gv.load1 rfl (by (repeat first | exact .here | apply At.there)) (by first | rfl | assumption)) (by rfl) rfl ?_) | (refine WL.v (Gv.loadN rfl (by (repeat first | exact .here | apply At.there)) (by rfl) (by rfl)) (by rfl) rfl ?_) | (refine WL.v (Gv.loadG1 rfl (by assumption) rfl) (by rfl) rfl ?_) | (refine WL.v (Gv.loadG0 rfl (by assumption) rfl) (by rfl) rfl ?_) | (refine WL.v (Gv.loadGN rfl (by assumption) rfl) (by rfl) rfl ?_)) | refine WL.skip (by rfl) rfl ?_)
        all_goals (first | (first | refine WL.p (Gp.lenSl rfl) (by rfl) rfl ?_ | refine WL.p (Gp.lenS rfl) (by rfl) rfl ?_) | refine WL.skip (by rfl) rfl ?_)
        all_goals (first | (first | refine WL.p (Gp.leI rfl rfl) (by rfl) rfl ?_ | refine WL.p (Gp.leS rfl rfl) (by rfl) rfl ?_) | refine WL.skip (by rfl) rfl ?_)
        all_goals (first | (first | refine WL.p (Gp.pickT rfl rfl) (by rfl) rfl ?_ | refine WL.p (Gp.pickF rfl rfl) (by rfl) rfl ?_) | refine WL.skip (by rfl) rfl ?_)
        all_goals (first | refine WL.p (Gp.assign rfl) (by rfl) rfl ?_ | refine WL.skip (by rfl) rfl ?_)
        all_goals refine WL.nil ?_
        all_goals (refine WK.un ?_)
        all_goals refine WC.ret ?_
        all_goals (refine WK.un ?_)
        all_goals exact QF.ret1 (.inl rfl) rfl (.tmp rfl) (List.nil_sublist _) ⟨by simp [vOK, ht, hb, hb'], rfl, rfl⟩
      · -- no
        have ht3 : ¬ v.t = 3 := by simpa using hc
        refine WC.skip ?_
        refine WK.un ?_
        refine WC.seq ?_
        refine WC.region ?_
        refine WL.p (Gp.assign rfl) (by kernel_rfl) rfl ?_
        refine WL.nil ?_
        refine WK.un ?_
        refine WC.ret ?_
        (refine WK.un ?_)
        exact QF.ret1 (.inl rfl) rfl (.tmp rfl) (List.nil_sublist _) ⟨by simp [vOK, ht1, ht2, ht3], rfl, rfl⟩
end Go.Proofs.Ytjgohbepageicaa.Gb
namespace Go.Proofs.Ytjgohbepageicaa.Gb
open Go Go.Proofs
set_option linter.unusedVariables false
attribute [local irreducible] Try.prog

theorem nanI_fn (G : Gh) (x : Int) : Fn Try.prog 89 #[.int .i64 x] G [] fun e G' H' => e = .returned (.bool false) ∧ G = G' ∧ H' = [] := by
  refine Fn.enter Try.func89 rfl rfl fun w0 => ?_
  refine WC.seq ?_
  refine WC.region ?_
  refine WL.p (Gp.assign rfl) (by kernel_rfl) rfl ?_
  refine WL.nil ?_
  refine WK.un ?_
  refine WC.seq ?_
  refine WC.region ?_
  refine WL.p (Gp.move rfl) (by kernel_rfl) rfl ?_
  refine WL.p (Gp.move rfl) (by kernel_rfl) rfl ?_
  (first | refine WL.p (Gp.neI rfl rfl) (by kernel_rfl) rfl ?_ | refine WL.p (Gp.neS rfl rfl) (by kernel_rfl) rfl ?_ | refine WL.p (Gp.neB rfl rfl) (by kernel_rfl) rfl ?_)
  refine WL.p (Gp.assign rfl) (by kernel_rfl) rfl ?_
  refine WL.nil ?_
  refine WK.un ?_
  refine WC.ret ?_
  (refine WK.un ?_)
  exact QF.ret1 (.inl rfl) rfl (.tmp rfl) (List.nil_sublist _) ⟨by simp, rfl, rfl⟩
theorem nanS_fn (G : Gh) (x : ByteArray) : Fn Try.prog 90 #[.string x] G [] fun e G' H' => e = .returned (.bool false) ∧ G = G' ∧ H' = [] := by
  refine Fn.enter Try.func90 rfl rfl fun w0 => ?_
  refine WC.seq ?_
  refine WC.region ?_
  refine WL.p (Gp.assign rfl) (by kernel_rfl) rfl ?_
  refine WL.nil ?_
  refine WK.un ?_
  refine WC.seq ?_
  refine WC.region ?_
  refine WL.p (Gp.move rfl) (by kernel_rfl) rfl ?_
  refine WL.p (Gp.move rfl) (by kernel_rfl) rfl ?_
  (first | refine WL.p (Gp.neI rfl rfl) (by kernel_rfl) rfl ?_ | refine WL.p (Gp.neS rfl rfl) (by kernel_rfl) rfl ?_ | refine WL.p (Gp.neB rfl rfl) (by kernel_rfl) rfl ?_)
  refine WL.p (Gp.assign rfl) (by kernel_rfl) rfl ?_
  refine WL.nil ?_
  refine WK.un ?_
  refine WC.ret ?_
  (refine WK.un ?_)
  exact QF.ret1 (.inl rfl) rfl (.tmp rfl) (List.nil_sublist _) ⟨by rw [show (x == x) = true from by rw [beq_toListBytes]; simp]; rfl, rfl, rfl⟩

def cmpI (a b : Int) : Int := if a < b then -1 else if b < a then 1 else 0
def cmpS (a b : ByteArray) : Int := if Op.bytesLess a.toList b.toList then -1 else if Op.bytesLess b.toList a.toList then 1 else 0

theorem compareI_fn (G : Gh) (x y : Int) : Fn Try.prog 87 #[.int .i64 x, .int .i64 y] G [] fun e G' H' => e = .returned (.int .i64 (cmpI x y)) ∧ G = G' ∧ H' = [] := by
  refine Fn.enter Try.func87 rfl rfl fun w0 => ?_
  refine WC.seq ?_
  refine WC.region ?_
  refine WL.p (Gp.assign rfl) (by kernel_rfl) rfl ?_
  refine WL.nil ?_
  refine WK.un ?_
  refine WC.seq ?_
  refine WC.region ?_
  refine WL.p (Gp.move rfl) (by kernel_rfl) rfl ?_
  refine WL.op (by kernel_rfl) (OW.callR rfl (Hf := []) (List.Perm.refl _) (nanI_fn G _) rfl (by rintro e G' H' ⟨h, _⟩; exact ⟨_, h⟩) fun v' G' H' h hg => ?_)
  obtain ⟨he, rfl, rfl⟩ := h
  cases he
  refine WL.p (Gp.assign rfl) (by kernel_rfl) rfl ?_
  refine WL.nil ?_
  refine WK.un ?_
  refine WC.seq ?_
  refine WC.region ?_
  refine WL.p (Gp.move rfl) (by kernel_rfl) rfl ?_
  refine WL.op (by kernel_rfl) (OW.callR rfl (Hf := []) (List.Perm.refl _) (nanI_fn G _) rfl (by rintro e G' H' ⟨h, _⟩; exact ⟨_, h⟩) fun v' G' H' h hg => ?_)
  obtain ⟨he, rfl, rfl⟩ := h
  cases he
  refine WL.p (Gp.assign rfl) (by kernel_rfl) rfl ?_
  refine WL.nil ?_
  refine WK.un ?_
  refine WC.seq ?_
  refine WC.seq ?_
  refine WC.region ?_
  refine WL.p (Gp.move rfl) (by kernel_rfl) rfl ?_
  refine WL.nil ?_
  refine WK.un ?_
  refine WC.cond rfl (fun hc1 => ?_) (fun hc1 => ?_)
  · -- yes
    cases hc1
  · -- no
    refine WC.skip ?_
    refine WK.un ?_
    refine WC.seq ?_
    refine WC.seq ?_
    refine WC.region ?_
    refine WL.p (Gp.move rfl) (by kernel_rfl) rfl ?_
    refine WL.nil ?_
    refine WK.un ?_
    refine WC.cond rfl (fun hc3 => ?_) (fun hc3 => ?_)
    · cases hc3
    · -- no
      refine WC.skip ?_
      refine WK.un ?_
      refine WC.seq ?_
      refine WC.seq ?_
      refine WC.region ?_
      refine WL.p (Gp.move rfl) (by kernel_rfl) rfl ?_
      refine WL.p (Gp.move rfl) (by kernel_rfl) rfl ?_
      (first | refine WL.p (Gp.ltI rfl rfl) (by kernel_rfl) rfl ?_ | refine WL.p (Gp.ltS rfl rfl) (by kernel_rfl) rfl ?_)
      refine WL.nil ?_
      refine WK.un ?_
      refine WC.cond rfl (fun hc4 => ?_) (fun hc4 => ?_)
      · -- yes
        refine WC.seq ?_
        refine WC.region ?_
        refine WL.p (Gp.assign rfl) (by kernel_rfl) rfl ?_
        refine WL.nil ?_
        refine WK.un ?_
        refine WC.ret ?_
        (refine WK.un ?_)
        exact QF.ret1 (.inl rfl) rfl (.tmp rfl) (List.nil_sublist _) ⟨by simp_all [cmpI], rfl, rfl⟩
      · -- no
        refine WC.skip ?_
        refine WK.un ?_
        refine WC.seq ?_
        refine WC.seq ?_
        refine WC.region ?_
        refine WL.p (Gp.move rfl) (by kernel_rfl) rfl ?_
        refine WL.p (Gp.move rfl) (by kernel_rfl) rfl ?_
        (first | refine WL.p (Gp.gtI rfl rfl) (by kernel_rfl) rfl ?_ | refine WL.p (Gp.gtS rfl rfl) (by kernel_rfl) rfl ?_)
        refine WL.nil ?_
        refine WK.un ?_
        refine WC.cond rfl (fun hc5 => ?_) (fun hc5 => ?_)
        · -- yes
          refine WC.seq ?_
          refine WC.region ?_
          refine WL.p (Gp.assign rfl) (by kernel_rfl) rfl ?_
          refine WL.nil ?_
          refine WK.un ?_
          refine WC.ret ?_
          (refine WK.un ?_)
          exact QF.ret1 (.inl rfl) rfl (.tmp rfl) (List.nil_sublist _) ⟨by simp_all [cmpI], rfl, rfl⟩
        · -- no
          refine WC.skip ?_
          refine WK.un ?_
          refine WC.seq ?_
          refine WC.region ?_
          refine WL.p (Gp.assign rfl) (by kernel_rfl) rfl ?_
          refine WL.nil ?_
          refine WK.un ?_
          refine WC.ret ?_
          (refine WK.un ?_)
          exact QF.ret1 (.inl rfl) rfl (.tmp rfl) (List.nil_sublist _) ⟨by have h4 := hc4; have h5 := hc5; simp only [decide_eq_false_iff_not] at h4 h5; rw [cmpI, if_neg h4, if_neg h5], rfl, rfl⟩
theorem compareS_fn (G : Gh) (x y : ByteArray) : Fn Try.prog 88 #[.string x, .string y] G [] fun e G' H' => e = .returned (.int .i64 (cmpS x y)) ∧ G = G' ∧ H' = [] := by
  refine Fn.enter Try.func88 rfl rfl fun w0 => ?_
  refine WC.seq ?_
  refine WC.region ?_
  refine WL.p (Gp.assign rfl) (by kernel_rfl) rfl ?_
  refine WL.nil ?_
  refine WK.un ?_
  refine WC.seq ?_
  refine WC.region ?_
  refine WL.p (Gp.move rfl) (by kernel_rfl) rfl ?_
  refine WL.op (by kernel_rfl) (OW.callR rfl (Hf := []) (List.Perm.refl _) (nanS_fn G _) rfl (by rintro e G' H' ⟨h, _⟩; exact ⟨_, h⟩) fun v' G' H' h hg => ?_)
  obtain ⟨he, rfl, rfl⟩ := h
  cases he
  refine WL.p (Gp.assign rfl) (by kernel_rfl) rfl ?_
  refine WL.nil ?_
  refine WK.un ?_
  refine WC.seq ?_
  refine WC.region ?_
  refine WL.p (Gp.move rfl) (by kernel_rfl) rfl ?_
  refine WL.op (by kernel_rfl) (OW.callR rfl (Hf := []) (List.Perm.refl _) (nanS_fn G _) rfl (by rintro e G' H' ⟨h, _⟩; exact ⟨_, h⟩) fun v' G' H' h hg => ?_)
  obtain ⟨he, rfl, rfl⟩ := h
  cases he
  refine WL.p (Gp.assign rfl) (by kernel_rfl) rfl ?_
  refine WL.nil ?_
  refine WK.un ?_
  refine WC.seq ?_
  refine WC.seq ?_
  refine WC.region ?_
  refine WL.p (Gp.move rfl) (by kernel_rfl) rfl ?_
  refine WL.nil ?_
  refine WK.un ?_
  refine WC.cond rfl (fun hc1 => ?_) (fun hc1 => ?_)
  · -- yes
    cases hc1
  · -- no
    refine WC.skip ?_
    refine WK.un ?_
    refine WC.seq ?_
    refine WC.seq ?_
    refine WC.region ?_
    refine WL.p (Gp.move rfl) (by kernel_rfl) rfl ?_
    refine WL.nil ?_
    refine WK.un ?_
    refine WC.cond rfl (fun hc3 => ?_) (fun hc3 => ?_)
    · cases hc3
    · -- no
      refine WC.skip ?_
      refine WK.un ?_
      refine WC.seq ?_
      refine WC.seq ?_
      refine WC.region ?_
      refine WL.p (Gp.move rfl) (by kernel_rfl) rfl ?_
      refine WL.p (Gp.move rfl) (by kernel_rfl) rfl ?_
      (first | refine WL.p (Gp.ltI rfl rfl) (by kernel_rfl) rfl ?_ | refine WL.p (Gp.ltS rfl rfl) (by kernel_rfl) rfl ?_)
      refine WL.nil ?_
      refine WK.un ?_
      refine WC.cond rfl (fun hc4 => ?_) (fun hc4 => ?_)
      · -- yes
        refine WC.seq ?_
        refine WC.region ?_
        refine WL.p (Gp.assign rfl) (by kernel_rfl) rfl ?_
        refine WL.nil ?_
        refine WK.un ?_
        refine WC.ret ?_
        (refine WK.un ?_)
        exact QF.ret1 (.inl rfl) rfl (.tmp rfl) (List.nil_sublist _) ⟨by simp_all [cmpS], rfl, rfl⟩
      · -- no
        refine WC.skip ?_
        refine WK.un ?_
        refine WC.seq ?_
        refine WC.seq ?_
        refine WC.region ?_
        refine WL.p (Gp.move rfl) (by kernel_rfl) rfl ?_
        refine WL.p (Gp.move rfl) (by kernel_rfl) rfl ?_
        (first | refine WL.p (Gp.gtI rfl rfl) (by kernel_rfl) rfl ?_ | refine WL.p (Gp.gtS rfl rfl) (by kernel_rfl) rfl ?_)
        refine WL.nil ?_
        refine WK.un ?_
        refine WC.cond rfl (fun hc5 => ?_) (fun hc5 => ?_)
        · -- yes
          refine WC.seq ?_
          refine WC.region ?_
          refine WL.p (Gp.assign rfl) (by kernel_rfl) rfl ?_
          refine WL.nil ?_
          refine WK.un ?_
          refine WC.ret ?_
          (refine WK.un ?_)
          exact QF.ret1 (.inl rfl) rfl (.tmp rfl) (List.nil_sublist _) ⟨by simp_all [cmpS], rfl, rfl⟩
        · -- no
          refine WC.skip ?_
          refine WK.un ?_
          refine WC.seq ?_
          refine WC.region ?_
          refine WL.p (Gp.assign rfl) (by kernel_rfl) rfl ?_
          refine WL.nil ?_
          refine WK.un ?_
          refine WC.ret ?_
          (refine WK.un ?_)
          exact QF.ret1 (.inl rfl) rfl (.tmp rfl) (List.nil_sublist _) ⟨by simp_all [cmpS], rfl, rfl⟩
theorem or_fn (G : Gh) (b : Nat) (x y : Int) : Fn Try.prog 86 #[.slice (some ⟨b, 0, none⟩) 2 2] G [.blk b (.cells #[.int .i64 x, .int .i64 y] 3 (0, 0))] fun e G' H' => e = .returned (.int .i64 (if x = 0 then y else x)) ∧ G = G' ∧ H' = [] := by
  refine Fn.enter Try.func86 rfl rfl fun w0 => ?_
  refine WC.seq ?_
  refine WC.region ?_
  refine WL.p (Gp.assign rfl) (by kernel_rfl) rfl ?_
  refine WL.nil ?_
  refine WK.un ?_
  refine WC.seq ?_
  refine WC.region ?_
  refine WL.p (Gp.assign rfl) (by kernel_rfl) rfl ?_
  refine WL.nil ?_
  refine WK.un ?_
  refine WC.seq ?_
  refine WC.seq ?_
  refine WC.region ?_
  refine WL.p (Gp.move rfl) (by kernel_rfl) rfl ?_
  (first | refine WL.p (Gp.lenSl rfl) (by kernel_rfl) rfl ?_ | refine WL.p (Gp.lenS rfl) (by kernel_rfl) rfl ?_)
  refine WL.p (Gp.move rfl) (by kernel_rfl) rfl ?_
  refine WL.nil ?_
  refine WK.un ?_
  refine WC.block ?_  -- 0
  refine WC.loop (X := Nat) (fun i => [(3, .int .i64 0), (6, .slice (some ⟨b, 0, none⟩) 2 2), (7, .int .i64 2), (8, .int .i64 (i : Int))]) (fun _ => G) (fun _ => [.blk b (.cells #[.int .i64 x, .int .i64 y] 3 (0, 0))]) (fun i => 2 - i) (fun i => i ≤ 2 ∧ (1 ≤ i → x = 0) ∧ (2 ≤ i → y = 0)) 0 ⟨by omega, by omega, by omega⟩ (by exact ⟨rfl, rfl, rfl, rfl, trivial⟩) rfl (List.Sublist.refl _) fun x_1 hx => ?_
  refine WC.seq ?_
  refine WC.region ?_
  (first | refine WL.p (Gp.ltI rfl rfl) (by kernel_rfl) rfl ?_ | refine WL.p (Gp.ltS rfl rfl) (by kernel_rfl) rfl ?_)
  refine WL.nil ?_
  refine WK.un ?_
  refine WC.seq ?_
  obtain ⟨hi, hx0, hy0⟩ := hx
  refine WC.cond rfl (fun hc1 => ?_) (fun hc1 => ?_)
  · -- yes
    have hlt : x_1 < 2 := by have h := hc1; simp at h; omega
    refine WC.skip ?_
    refine WK.un ?_
    refine WC.seq ?_
    refine WC.block ?_  -- 1
    refine WC.seq ?_
    obtain ⟨z, hz, hz1, hz2⟩ : ∃ z : Int, (#[Value.int .i64 x, Value.int .i64 y])[0 + ((x_1 : Int)).toNat * 1]? = some (.int .i64 z) ∧ (z = 0 → (1 ≤ x_1 + 1 → x = 0) ∧ (2 ≤ x_1 + 1 → y = 0)) ∧ (z ≠ 0 → z = if x = 0 then y else x) := by
      rcases Nat.lt_or_ge x_1 1 with h | h
      · obtain rfl : x_1 = 0 := by omega
        exact ⟨x, rfl, fun h => ⟨fun _ => h, fun h' => by omega⟩, fun h => by rw [if_neg h]⟩
      · obtain rfl : x_1 = 1 := by omega
        exact ⟨y, rfl, fun h => ⟨fun _ => hx0 (by omega), fun _ => h⟩, fun h => by rw [if_pos (hx0 (by omega))]⟩
    refine WC.region ?_
    refine WL.p (Gp.indexAddr rfl rfl (by first | assumption | omega | decide) (by first | assumption | omega | decide | (simp only [List.length_cons, List.length_nil]; decide))) (by kernel_rfl) rfl ?_
    refine WL.v (Gv.load1 rfl .here hz) (by kernel_rfl) rfl ?_
    refine WL.p (Gp.assign rfl) (by kernel_rfl) rfl ?_
    refine WL.nil ?_
    refine WK.un ?_
    refine WC.seq ?_
    refine WC.region ?_
    refine WL.p (Gp.move rfl) (by kernel_rfl) rfl ?_
    refine WL.p (Gp.move rfl) (by kernel_rfl) rfl ?_
    (first | refine WL.p (Gp.neI rfl rfl) (by kernel_rfl) rfl ?_ | refine WL.p (Gp.neS rfl rfl) (by kernel_rfl) rfl ?_ | refine WL.p (Gp.neB rfl rfl) (by kernel_rfl) rfl ?_)
    refine WL.nil ?_
    refine WK.un ?_
    refine WC.cond rfl (fun hc2 => ?_) (fun hc2 => ?_)
    · -- yes
      refine WC.seq ?_
      refine WC.region ?_
      refine WL.p (Gp.move rfl) (by kernel_rfl) rfl ?_
      refine WL.p (Gp.assign rfl) (by kernel_rfl) rfl ?_
      refine WL.nil ?_
      refine WK.un ?_
      refine WC.ret ?_
      (refine WK.un ?_)
      exact QF.ret1 (.inl rfl) rfl (.tmp rfl) (List.nil_sublist _) ⟨by rw [hz2 (by simpa using hc2)], rfl, rfl⟩
    · -- no
      have hz0 : z = 0 := by simpa using hc2
      refine WC.skip ?_
      refine WK.un ?_
      refine WC.region ?_
      (first | refine WL.p (Gp.add rfl rfl) (by kernel_rfl) rfl ?_ | refine WL.p (Gp.addS rfl rfl (by first | assumption | omega)) (by kernel_rfl) rfl ?_)
      refine WL.p (Gp.move rfl) (by kernel_rfl) rfl ?_
      refine WL.nil ?_
      refine WK.un ?_
      exact WK.again (x_1 + 1) (by omega) ⟨by omega, (hz1 hz0).1, (hz1 hz0).2⟩ (by refine ⟨rfl, rfl, rfl, ?_, trivial⟩; show some _ = some _; rw [wrap_small (by omega) (by omega)]; rfl) rfl (List.Sublist.refl _)
  · -- no
    have hge : 2 ≤ x_1 := by have h := hc1; simp at h; omega
    refine WC.exit ?_
    refine WK.un ?_
    refine WC.seq ?_
    refine WC.region ?_
    refine WL.p (Gp.move rfl) (by kernel_rfl) rfl ?_
    refine WL.p (Gp.assign rfl) (by kernel_rfl) rfl ?_
    refine WL.nil ?_
    refine WK.un ?_
    refine WC.ret ?_
    (refine WK.un ?_)
    exact QF.ret1 (.inl rfl) rfl (.tmp rfl) (List.nil_sublist _) ⟨by rw [hx0 (by omega), hy0 hge]; rfl, rfl, rfl⟩

/-- what two numbers make; none: it can't be reckoned -/
def reckonS (c a b : Int) : Option Int :=
  if c = 18 then some (IntKind.i64.wrap (a + b)) else if c = 19 then some (IntKind.i64.wrap (a - b)) else if c = 21 then some (IntKind.i64.wrap (a * b))
  else if c = 22 then (if b = 0 then none else some (IntKind.i64.wrap (a.tdiv b))) else if c = 23 then (if b = 0 then none else some (a.tmod b)) else none
theorem wrap_sub (a b : Int) : IntKind.i64.wrap (a + IntKind.i64.wrap (-b)) = IntKind.i64.wrap (a - b) := by simp only [IntKind.wrap_i64]; omega
theorem reckon_fn (G : Gh) (c a b : Int) : Fn Try.prog 85 #[.int .i64 c, .int .i64 a, .int .i64 b] G [] fun e G' H' => (match reckonS c a b with | some n => e = .returned (.int .i64 n) | none => e = halted 2) ∧ G = G' ∧ H' = [] := by
  refine Fn.enter Try.func85 rfl rfl fun w0 => ?_
  refine WC.seq ?_
  refine WC.region ?_
  refine WL.p (Gp.assign rfl) (by kernel_rfl) rfl ?_
  refine WL.nil ?_
  refine WK.un ?_
  refine WC.seq ?_
  refine WC.seq ?_
  refine WC.region ?_
  refine WL.p (Gp.move rfl) (by kernel_rfl) rfl ?_
  refine WL.nil ?_
  refine WK.un ?_
  refine WC.block ?_  -- 0
  refine WC.seq ?_
  refine WC.region ?_
  (first | refine WL.p (Gp.eqI rfl rfl) (by kernel_rfl) rfl ?_ | refine WL.p (Gp.eqS rfl rfl) (by kernel_rfl) rfl ?_ | refine WL.p (Gp.nilSl rfl) (by kernel_rfl) rfl ?_ | refine WL.p (Gp.eqB rfl rfl) (by kernel_rfl) rfl ?_)
  refine WL.p (Gp.assign rfl) (by kernel_rfl) rfl ?_
  refine WL.nil ?_
  refine WK.un ?_
  refine WC.cond rfl (fun hc1 => ?_) (fun hc1 => ?_)
  · -- yes
    refine WC.seq ?_
    refine WC.region ?_
    refine WL.p (Gp.move rfl) (by kernel_rfl) rfl ?_
    refine WL.p (Gp.move rfl) (by kernel_rfl) rfl ?_
    (first | refine WL.p (Gp.add rfl rfl) (by kernel_rfl) rfl ?_ | refine WL.p (Gp.addS rfl rfl (by first | assumption | omega)) (by kernel_rfl) rfl ?_)
    refine WL.p (Gp.assign rfl) (by kernel_rfl) rfl ?_
    refine WL.nil ?_
    refine WK.un ?_
    refine WC.ret ?_
    (refine WK.un ?_)
    exact QF.ret1 (.inl rfl) rfl (.tmp rfl) (List.nil_sublist _) ⟨by simp_all [reckonS], rfl, rfl⟩
  · -- no
    refine WC.seq ?_
    refine WC.region ?_
    (first | refine WL.p (Gp.eqI rfl rfl) (by kernel_rfl) rfl ?_ | refine WL.p (Gp.eqS rfl rfl) (by kernel_rfl) rfl ?_ | refine WL.p (Gp.nilSl rfl) (by kernel_rfl) rfl ?_ | refine WL.p (Gp.eqB rfl rfl) (by kernel_rfl) rfl ?_)
    refine WL.p (Gp.assign rfl) (by kernel_rfl) rfl ?_
    refine WL.nil ?_
    refine WK.un ?_
    refine WC.cond rfl (fun hc2 => ?_) (fun hc2 => ?_)
    · -- yes
      refine WC.seq ?_
      refine WC.region ?_
      refine WL.p (Gp.move rfl) (by kernel_rfl) rfl ?_
      refine WL.p (Gp.negI rfl) (by kernel_rfl) rfl ?_
      refine WL.p (Gp.assign rfl) (by kernel_rfl) rfl ?_
      refine WL.nil ?_
      refine WK.un ?_
      refine WC.seq ?_
      refine WC.region ?_
      refine WL.p (Gp.move rfl) (by kernel_rfl) rfl ?_
      refine WL.p (Gp.move rfl) (by kernel_rfl) rfl ?_
      (first | refine WL.p (Gp.add rfl rfl) (by kernel_rfl) rfl ?_ | refine WL.p (Gp.addS rfl rfl (by first | assumption | omega)) (by kernel_rfl) rfl ?_)
      refine WL.p (Gp.assign rfl) (by kernel_rfl) rfl ?_
      refine WL.nil ?_
      refine WK.un ?_
      refine WC.ret ?_
      (refine WK.un ?_)
      exact QF.ret1 (.inl rfl) rfl (.tmp rfl) (List.nil_sublist _) ⟨by simp_all [reckonS, wrap_sub], rfl, rfl⟩
    · -- no
      refine WC.seq ?_
      refine WC.region ?_
      (first | refine WL.p (Gp.eqI rfl rfl) (by kernel_rfl) rfl ?_ | refine WL.p (Gp.eqS rfl rfl) (by kernel_rfl) rfl ?_ | refine WL.p (Gp.nilSl rfl) (by kernel_rfl) rfl ?_ | refine WL.p (Gp.eqB rfl rfl) (by kernel_rfl) rfl ?_)
      refine WL.p (Gp.assign rfl) (by kernel_rfl) rfl ?_
      refine WL.nil ?_
      refine WK.un ?_
      refine WC.cond rfl (fun hc3 => ?_) (fun hc3 => ?_)
      · -- yes
        refine WC.seq ?_
        refine WC.region ?_
        refine WL.p (Gp.move rfl) (by kernel_rfl) rfl ?_
        refine WL.p (Gp.move rfl) (by kernel_rfl) rfl ?_
        refine WL.p (Gp.mul rfl rfl) (by kernel_rfl) rfl ?_
        refine WL.p (Gp.assign rfl) (by kernel_rfl) rfl ?_
        refine WL.nil ?_
        refine WK.un ?_
        refine WC.ret ?_
        (refine WK.un ?_)
        exact QF.ret1 (.inl rfl) rfl (.tmp rfl) (List.nil_sublist _) ⟨by simp_all [reckonS], rfl, rfl⟩
      · -- no
        refine WC.seq ?_
        refine WC.region ?_
        (first | refine WL.p (Gp.eqI rfl rfl) (by kernel_rfl) rfl ?_ | refine WL.p (Gp.eqS rfl rfl) (by kernel_rfl) rfl ?_ | refine WL.p (Gp.nilSl rfl) (by kernel_rfl) rfl ?_ | refine WL.p (Gp.eqB rfl rfl) (by kernel_rfl) rfl ?_)
        refine WL.p (Gp.assign rfl) (by kernel_rfl) rfl ?_
        refine WL.nil ?_
        refine WK.un ?_
        refine WC.cond rfl (fun hc4 => ?_) (fun hc4 => ?_)
        · -- yes
          refine WC.seq ?_
          refine WC.region ?_
          refine WL.p (Gp.move rfl) (by kernel_rfl) rfl ?_
          (first | refine WL.p (Gp.neI rfl rfl) (by kernel_rfl) rfl ?_ | refine WL.p (Gp.neS rfl rfl) (by kernel_rfl) rfl ?_ | refine WL.p (Gp.neB rfl rfl) (by kernel_rfl) rfl ?_)
          refine WL.nil ?_
          refine WK.un ?_
          refine WC.cond rfl (fun hc5 => ?_) (fun hc5 => ?_)
          · -- yes
            refine WC.seq ?_
            refine WC.region ?_
            refine WL.p (Gp.move rfl) (by kernel_rfl) rfl ?_
            refine WL.p (Gp.move rfl) (by kernel_rfl) rfl ?_
            refine WL.p (Gp.quo rfl rfl (by simpa using ‹(b != 0) = true›)) (by kernel_rfl) rfl ?_
            refine WL.p (Gp.assign rfl) (by kernel_rfl) rfl ?_
            refine WL.nil ?_
            refine WK.un ?_
            refine WC.ret ?_
            (refine WK.un ?_)
            exact QF.ret1 (.inl rfl) rfl (.tmp rfl) (List.nil_sublist _) ⟨by simp_all [reckonS], rfl, rfl⟩
          · -- no
            refine WC.skip ?_
            refine WK.un ?_
            refine WC.region ?_
            refine WL.p (Gp.build rfl rfl) (by kernel_rfl) rfl ?_
            refine WL.p (Gp.mkIface rfl (by kernel_rfl)) (by kernel_rfl) rfl ?_
            refine WL.op (by kernel_rfl) (OW.panic rfl ?_)
            refine WK.un ?_
            exact QF.panic (List.nil_sublist _) ⟨by simp_all [reckonS, halted]; rfl, rfl, rfl⟩
        · -- no
          refine WC.seq ?_
          refine WC.region ?_
          (first | refine WL.p (Gp.eqI rfl rfl) (by kernel_rfl) rfl ?_ | refine WL.p (Gp.eqS rfl rfl) (by kernel_rfl) rfl ?_ | refine WL.p (Gp.nilSl rfl) (by kernel_rfl) rfl ?_ | refine WL.p (Gp.eqB rfl rfl) (by kernel_rfl) rfl ?_)
          refine WL.p (Gp.assign rfl) (by kernel_rfl) rfl ?_
          refine WL.nil ?_
          refine WK.un ?_
          refine WC.cond rfl (fun hc6 => ?_) (fun hc6 => ?_)
          · -- yes
            refine WC.seq ?_
            refine WC.region ?_
            refine WL.p (Gp.move rfl) (by kernel_rfl) rfl ?_
            (first | refine WL.p (Gp.neI rfl rfl) (by kernel_rfl) rfl ?_ | refine WL.p (Gp.neS rfl rfl) (by kernel_rfl) rfl ?_ | refine WL.p (Gp.neB rfl rfl) (by kernel_rfl) rfl ?_)
            refine WL.nil ?_
            refine WK.un ?_
            refine WC.cond rfl (fun hc7 => ?_) (fun hc7 => ?_)
            · -- yes
              refine WC.seq ?_
              refine WC.region ?_
              refine WL.p (Gp.move rfl) (by kernel_rfl) rfl ?_
              refine WL.p (Gp.move rfl) (by kernel_rfl) rfl ?_
              refine WL.p (Gp.rem rfl rfl (by simpa using ‹(b != 0) = true›)) (by kernel_rfl) rfl ?_
              refine WL.p (Gp.assign rfl) (by kernel_rfl) rfl ?_
              refine WL.nil ?_
              refine WK.un ?_
              refine WC.ret ?_
              (refine WK.un ?_)
              exact QF.ret1 (.inl rfl) rfl (.tmp rfl) (List.nil_sublist _) ⟨by simp_all [reckonS], rfl, rfl⟩
            · -- no
              refine WC.skip ?_
              refine WK.un ?_
              refine WC.region ?_
              refine WL.p (Gp.build rfl rfl) (by kernel_rfl) rfl ?_
              refine WL.p (Gp.mkIface rfl (by kernel_rfl)) (by kernel_rfl) rfl ?_
              refine WL.op (by kernel_rfl) (OW.panic rfl ?_)
              refine WK.un ?_
              exact QF.panic (List.nil_sublist _) ⟨by simp_all [reckonS, halted]; rfl, rfl, rfl⟩
          · -- no
            refine WC.skip ?_
            refine WK.un ?_
            refine WC.region ?_
            refine WL.p (Gp.build rfl rfl) (by kernel_rfl) rfl ?_
            refine WL.p (Gp.mkIface rfl (by kernel_rfl)) (by kernel_rfl) rfl ?_
            refine WL.op (by kernel_rfl) (OW.panic rfl ?_)
            refine WK.un ?_
            exact QF.panic (List.nil_sublist _) ⟨by simp_all [reckonS, halted]; rfl, rfl, rfl⟩
end Go.Proofs.Ytjgohbepageicaa.Gb
namespace Go.Proofs.Ytjgohbepageicaa.Gb
open Go Go.Proofs
set_option linter.unusedVariables false
attribute [local irreducible] Try.prog

/-- a frame in memory: its block, what is on its stack, its variables -/
abbrev frB (b : Nat) (A : Option Addr) (n cap : Nat) (p a : Int) (B : Option Addr) (m cm : Nat) : Own := .blk b (.cells (frC A n cap p a B m cm) 91 (0, 0))
abbrev VVec (A : Option Addr) (cap : Nat) (l : List V) (x : Own) : Prop := Vec 33 4 A l.length cap (vflat l) x
/-- what is left of a frame when a step gives up -/
def Left (b : Nat) (H : List Own) : Prop := ∃ c : Array Value, c.size = 4 ∧ H = [.blk b (.cells c 91 (0, 0))]
theorem Left.of (b : Nat) (A : Option Addr) (n cap : Nat) (p a : Int) (B : Option Addr) (m cm : Nat) : Left b [frB b A n cap p a B m cm] := ⟨_, rfl, rfl⟩

theorem lay_ok (G : Gh) (mv : Value) (b : Nat) (A : Option Addr) (cap : Nat) (p a : Int) (B : Option Addr) (m cm : Nat) (l : List V) (x : Own) (v : V) (hv : VVec A cap l x) (hb : l.length < 128) :
    Fn Try.prog 65 #[mv, .pointer (some ⟨b, 0, none⟩), .agg #[.int .i64 v.t, .int .i64 v.i, .bool v.b, .string v.s]] G [frB b A l.length cap p a B m cm, x]
      fun e G' H' => ∃ A' cap' x', e = .returned (.tuple #[]) ∧ G = G' ∧ H' = [frB b A' (l ++ [v]).length cap' p a B m cm, x'] ∧ VVec A' cap' (l ++ [v]) x' := by
  refine Fn.enter Try.func65 rfl rfl fun w0 => ?_
  refine WC.seq ?_
  refine WC.region ?_
  refine WL.op (by kernel_rfl) (OW.box rfl rfl fun b1 => ?_)
  refine WL.nil ?_
  refine WK.un ?_
  refine WC.seq ?_
  refine WC.region ?_
  refine WL.p (Gp.move rfl) (by kernel_rfl) rfl ?_
  refine WL.p (Gp.nilCheck rfl) (by kernel_rfl) rfl ?_
  refine WL.p (Gp.fieldAddr rfl) (by kernel_rfl) rfl ?_
  refine WL.op (by kernel_rfl) (OW.callR rfl (perm_at (.there .here)) (high_fn G _ _ _ _ _ _ _ _ _) rfl (by rintro e G' H' ⟨h, _⟩; exact ⟨_, h⟩) fun v' G' H' h hg => ?_)
  obtain ⟨he, rfl, rfl⟩ := h
  cases he
  (first | refine WL.p (Gp.ltI rfl rfl) (by kernel_rfl) rfl ?_ | refine WL.p (Gp.ltS rfl rfl) (by kernel_rfl) rfl ?_)
  rw [show decide ((l.length : Int) < 128) = true by simp; omega]
  refine WL.op (by kernel_rfl) (OW.callR rfl (Hf := []) (List.Perm.refl _) (need_ok G) rfl (by rintro e G' H' ⟨h, _⟩; exact ⟨_, h⟩) fun v' G' H' h hg => ?_)
  obtain ⟨he, rfl, rfl⟩ := h
  cases he
  refine WL.nil ?_
  refine WK.un ?_
  refine WC.draw mixed ?_
  refine WA.tp (i := 0) rfl (by kernel_rfl) (by kernel_rfl) rfl (Gp.move rfl) ?_
  refine WA.tp (i := 1) rfl (by kernel_rfl) (by kernel_rfl) rfl (Gp.nilCheck rfl) ?_
  refine WA.tp (i := 2) rfl (by kernel_rfl) (by kernel_rfl) rfl (Gp.fieldAddr rfl) ?_
  (first | (refine WA.tv (i := 3) rfl (by kernel_rfl) (by kernel_rfl) rfl (Gv.load1 rfl (by (repeat first | exact .here | apply At.there)) (by first | rfl | assumption)) ?_) | (refine WA.tv (i := 3) rfl (by kernel_rfl) (by kernel_rfl) rfl (Gv.loadN rfl (by (repeat first | exact .here | apply At.there)) (by rfl) (by rfl)) ?_) | (refine WA.tv (i := 3) rfl (by kernel_rfl) (by kernel_rfl) rfl (Gv.loadG1 rfl (by assumption) rfl) ?_) | (refine WA.tv (i := 3) rfl (by kernel_rfl) (by kernel_rfl) rfl (Gv.loadG0 rfl (by assumption) rfl) ?_) | (refine WA.tv (i := 3) rfl (by kernel_rfl) (by kernel_rfl) rfl (Gv.loadGN rfl (by assumption) rfl) ?_))
  refine WA.one (i := 4) (by kernel_rfl) rfl (by kernel_rfl) (OW.callR rfl (Hf := [frB b A l.length cap p a B m cm, x]) (F := [.blk b1 _]) (List.Perm.cons _ (List.Perm.swap _ _ _)) (push_fn G b A l.length cap p a B m cm (vflat l) x v hv (by omega)) rfl (by rintro e G' H' ⟨_, _, _, h, _⟩; exact ⟨_, h⟩) fun v' G' H' h hg => ?_)
  obtain ⟨A', cap', x', he, rfl, rfl, hv'⟩ := h
  cases he
  refine WA.done (by kernel_rfl) ?_
  refine WK.un ?_
  exact QF.ret0 (.inr rfl) rfl (H' := [frB b A' (l.length + 1) cap' p a B m cm, x']) (by exact .cons_cons _ (.cons_cons _ (List.nil_sublist _))) ⟨A', cap', x', rfl, rfl, by simp, by
    have e1 : vflat (l ++ [v]) = vflat l ++ vcells v := by rw [vflat_append]; simp [vflat]
    have e2 : (l ++ [v]).length = l.length + 1 := by simp
    unfold VVec; rw [e1, e2]; exact hv'⟩
theorem lay_no (G : Gh) (mv : Value) (b : Nat) (A : Option Addr) (n cap : Nat) (p a : Int) (B : Option Addr) (m cm : Nat) (vv : Value) (hb : 128 ≤ n) :
    Fn Try.prog 65 #[mv, .pointer (some ⟨b, 0, none⟩), vv] G [frB b A n cap p a B m cm]
      fun e G' H' => e = halted 6 ∧ G = G' ∧ Left b H' := by
  refine Fn.enter Try.func65 rfl rfl fun w0 => ?_
  refine WC.seq ?_
  refine WC.region ?_
  refine WL.op (by kernel_rfl) (OW.box rfl rfl fun b1 => ?_)
  refine WL.nil ?_
  refine WK.un ?_
  refine WC.seq ?_
  refine WC.region ?_
  refine WL.p (Gp.move rfl) (by kernel_rfl) rfl ?_
  refine WL.p (Gp.nilCheck rfl) (by kernel_rfl) rfl ?_
  refine WL.p (Gp.fieldAddr rfl) (by kernel_rfl) rfl ?_
  refine WL.op (by kernel_rfl) (OW.callR rfl (perm_at (.there .here)) (high_fn G _ _ _ _ _ _ _ _ _) rfl (by rintro e G' H' ⟨h, _⟩; exact ⟨_, h⟩) fun v' G' H' h hg => ?_)
  obtain ⟨he, rfl, rfl⟩ := h
  cases he
  (first | refine WL.p (Gp.ltI rfl rfl) (by kernel_rfl) rfl ?_ | refine WL.p (Gp.ltS rfl rfl) (by kernel_rfl) rfl ?_)
  rw [show decide ((n : Int) < 128) = false by simp; omega]
  refine WL.op (by kernel_rfl) (OW.call rfl (Hf := []) (List.Perm.refl _) (need_no G) rfl (fun v G' H' h _ => by cases h.1) (fun ch G' H' h _ => ?_) (fun G' H' h => by cases h.1))
  obtain ⟨he, rfl, rfl⟩ := h
  cases he
  refine WK.un ?_
  exact QF.panic (H' := [frB b A n cap p a B m cm]) (by exact .cons_cons _ (List.nil_sublist _)) ⟨rfl, rfl, Left.of ..⟩

theorem take_ok (G : Gh) (mv : Value) (b : Nat) (A : Option Addr) (cap : Nat) (p a : Int) (B : Option Addr) (m cm : Nat) (l1 l2 : List V) (x : Own) (hv : VVec A cap (l1 ++ l2) x) (hb : l1.length + l2.length ≤ 1000000000) :
    Fn Try.prog 66 #[mv, .pointer (some ⟨b, 0, none⟩), .int .i64 l2.length] G [frB b A (l1 ++ l2).length cap p a B m cm, x]
      fun e G' H' => ∃ A' cap' x', e = .returned (.slice A' l2.length cap') ∧ G = G' ∧ H' = [x', frB b A l1.length cap p a B m cm, x] ∧ VVec A' cap' l2 x' ∧ VVec A cap l1 x := by
  have e0 : (l1 ++ l2).length = l1.length + l2.length := List.length_append
  rw [e0]
  unfold VVec at hv
  rw [e0] at hv
  refine Fn.enter Try.func66 rfl rfl fun w0 => ?_
  refine WC.seq ?_
  refine WC.region ?_
  refine WL.p (Gp.assign rfl) (by kernel_rfl) rfl ?_
  refine WL.nil ?_
  refine WK.un ?_
  refine WC.seq ?_
  refine WC.region ?_
  refine WL.p (Gp.move rfl) (by kernel_rfl) rfl ?_
  refine WL.p (Gp.nilCheck rfl) (by kernel_rfl) rfl ?_
  refine WL.p (Gp.fieldAddr rfl) (by kernel_rfl) rfl ?_
  refine WL.op (by kernel_rfl) (OW.callR rfl (perm_at .here) (high_fn G _ _ _ _ _ _ _ _ _) rfl (by rintro e G' H' ⟨h, _⟩; exact ⟨_, h⟩) fun v' G' H' h hg => ?_)
  obtain ⟨he, rfl, rfl⟩ := h
  cases he
  refine WL.p (Gp.move rfl) (by kernel_rfl) rfl ?_
  (first | refine WL.p (Gp.geI rfl rfl) (by kernel_rfl) rfl ?_ | refine WL.p (Gp.geS rfl rfl) (by kernel_rfl) rfl ?_)
  rw [show decide ((l2.length : Int) ≤ ((l1.length + l2.length : Nat) : Int)) = true by simp; omega]
  refine WL.op (by kernel_rfl) (OW.callR rfl (Hf := []) (List.Perm.refl _) (need_ok G) rfl (by rintro e G' H' ⟨h, _⟩; exact ⟨_, h⟩) fun v' G' H' h hg => ?_)
  obtain ⟨he, rfl, rfl⟩ := h
  cases he
  refine WL.nil ?_
  refine WK.un ?_
  refine WC.seq ?_
  refine WC.region ?_
  refine WL.p (Gp.move rfl) (by kernel_rfl) rfl ?_
  refine WL.p (Gp.nilCheck rfl) (by kernel_rfl) rfl ?_
  refine WL.p (Gp.fieldAddr rfl) (by kernel_rfl) rfl ?_
  refine WL.p (Gp.move rfl) (by kernel_rfl) rfl ?_
  refine WL.op (by kernel_rfl) (OW.callR rfl (perm_all _) (pop_fn G b A cap p a B m cm l1 l2 x hv hb) rfl (by rintro e G' H' ⟨_, _, _, h, _⟩; exact ⟨_, h⟩) fun v' G' H' h hg => ?_)
  obtain ⟨A', cap', x', he, rfl, rfl, hv1, hv2⟩ := h
  cases he
  refine WL.p (Gp.assign rfl) (by kernel_rfl) rfl ?_
  refine WL.nil ?_
  refine WK.un ?_
  refine WC.ret ?_
  (refine WK.un ?_)
  exact QF.ret1 (.inl rfl) rfl (.tmp rfl) (List.Sublist.refl _) ⟨A', cap', x', rfl, rfl, rfl, hv1, hv2⟩
theorem take_no (G : Gh) (mv : Value) (b : Nat) (A : Option Addr) (n cap : Nat) (p a : Int) (B : Option Addr) (m cm : Nat) (k : Int) (hb : (n : Int) < k) :
    Fn Try.prog 66 #[mv, .pointer (some ⟨b, 0, none⟩), .int .i64 k] G [frB b A n cap p a B m cm]
      fun e G' H' => e = halted 6 ∧ G = G' ∧ Left b H' := by
  refine Fn.enter Try.func66 rfl rfl fun w0 => ?_
  refine WC.seq ?_
  refine WC.region ?_
  refine WL.p (Gp.assign rfl) (by kernel_rfl) rfl ?_
  refine WL.nil ?_
  refine WK.un ?_
  refine WC.seq ?_
  refine WC.region ?_
  refine WL.p (Gp.move rfl) (by kernel_rfl) rfl ?_
  refine WL.p (Gp.nilCheck rfl) (by kernel_rfl) rfl ?_
  refine WL.p (Gp.fieldAddr rfl) (by kernel_rfl) rfl ?_
  refine WL.op (by kernel_rfl) (OW.callR rfl (perm_at .here) (high_fn G _ _ _ _ _ _ _ _ _) rfl (by rintro e G' H' ⟨h, _⟩; exact ⟨_, h⟩) fun v' G' H' h hg => ?_)
  obtain ⟨he, rfl, rfl⟩ := h
  cases he
  refine WL.p (Gp.move rfl) (by kernel_rfl) rfl ?_
  (first | refine WL.p (Gp.geI rfl rfl) (by kernel_rfl) rfl ?_ | refine WL.p (Gp.geS rfl rfl) (by kernel_rfl) rfl ?_)
  rw [show decide (k ≤ (n : Int)) = false by simp; omega]
  refine WL.op (by kernel_rfl) (OW.call rfl (Hf := []) (List.Perm.refl _) (need_no G) rfl (fun v G' H' h _ => by cases h.1) (fun ch G' H' h _ => ?_) (fun G' H' h => by cases h.1))
  obtain ⟨he, rfl, rfl⟩ := h
  cases he
  refine WK.un ?_
  exact QF.panic (H' := [frB b A n cap p a B m cm]) (List.Sublist.refl _) ⟨rfl, rfl, Left.of ..⟩
end Go.Proofs.Ytjgohbepageicaa.Gb
namespace Go.Proofs.Ytjgohbepageicaa.Gb
open Go Go.Proofs
set_option linter.unusedVariables false
attribute [local irreducible] Try.prog

theorem vflat_elem : ∀ (l : List V) (i : Nat) (v : V), l[i]? = some v → ((vflat l).drop (i * 4)).take 4 = vcells v
  | [], i, v, h => by simp at h
  | u :: l, 0, v, h => by simp at h; subst h; simp [vflat, vcells]
  | u :: l, i + 1, v, h => by
    have ih := vflat_elem l i v (by simpa using h)
    have e : vflat (u :: l) = vcells u ++ vflat l := by simp [vflat]
    rw [e, List.drop_append, List.drop_eq_nil_of_le (by simp [vcells]; omega), List.nil_append]
    rw [show (i + 1) * 4 - (vcells u).length = i * 4 by simp [vcells]; omega]
    exact ih
theorem take_drop_of_take {α : Type} (c l : List α) (n i k : Nat) (h : c.take n = l) (hk : i + k ≤ n) : (c.drop i).take k = (l.drop i).take k := by
  subst h
  apply List.ext_getElem?
  intro j
  simp only [List.getElem?_take, List.getElem?_drop]
  by_cases hj : j < k
  · simp [hj, show i + j < n by omega]
  · simp [hj]
theorem VVec.elem {A : Option Addr} {cap : Nat} {l : List V} {b : Nat} {c : Array Value} {i : Nat} {v : V} (hl : c.toList.take (l.length * 4) = vflat l) (hi : l[i]? = some v) : (c.toList.drop (0 + ((i : Nat) : Int).toNat * 4)).take 4 = vcells v := by
  have hlt : i < l.length := (List.getElem?_eq_some_iff.1 hi).1
  rw [Int.toNat_natCast, Nat.zero_add, take_drop_of_take _ _ _ _ _ hl (by omega)]
  exact vflat_elem l i v hi

theorem typed_fn (G : Gh) (mv : Value) (b : Nat) (A : Option Addr) (cap : Nat) (p a : Int) (B : Option Addr) (m cm : Nat) (l1 l2 : List V) (x : Own) (t : Int) (hv : VVec A cap (l1 ++ l2) x) (hb : l1.length + l2.length ≤ 1000000000) :
    Fn Try.prog 67 #[mv, .pointer (some ⟨b, 0, none⟩), .int .i64 l2.length, .int .i64 t] G [frB b A (l1 ++ l2).length cap p a B m cm, x]
      fun e G' H' => G = G' ∧ ((∃ A' cap' x', e = .returned (.slice A' l2.length cap') ∧ (∀ v ∈ l2, v.t = t) ∧ H' = [x', frB b A l1.length cap p a B m cm, x] ∧ VVec A' cap' l2 x' ∧ VVec A cap l1 x) ∨ (e = halted 6 ∧ (∃ v ∈ l2, v.t ≠ t) ∧ Left b H')) := by
  refine Fn.enter Try.func67 rfl rfl fun w0 => ?_
  refine WC.seq ?_
  refine WC.region ?_
  refine WL.p (Gp.assign rfl) (by kernel_rfl) rfl ?_
  refine WL.nil ?_
  refine WK.un ?_
  refine WC.seq ?_
  refine WC.region ?_
  refine WL.p (Gp.move rfl) (by kernel_rfl) rfl ?_
  refine WL.p (Gp.move rfl) (by kernel_rfl) rfl ?_
  refine WL.p (Gp.move rfl) (by kernel_rfl) rfl ?_
  refine WL.op (by kernel_rfl) (OW.callR rfl (perm_all _) (take_ok G mv b A cap p a B m cm l1 l2 x hv hb) rfl (by rintro e G' H' ⟨_, _, _, h, _⟩; exact ⟨_, h⟩) fun v' G' H' h hg => ?_)
  obtain ⟨A', cap', x', he, rfl, rfl, hv1, hv2⟩ := h
  cases he
  refine WL.p (Gp.assign rfl) (by kernel_rfl) rfl ?_
  refine WL.nil ?_
  refine WK.un ?_
  refine WC.seq ?_
  refine WC.seq ?_
  refine WC.region ?_
  refine WL.p (Gp.move rfl) (by kernel_rfl) rfl ?_
  (first | refine WL.p (Gp.lenSl rfl) (by kernel_rfl) rfl ?_ | refine WL.p (Gp.lenS rfl) (by kernel_rfl) rfl ?_)
  refine WL.p (Gp.move rfl) (by kernel_rfl) rfl ?_
  refine WL.nil ?_
  refine WK.un ?_
  refine WC.block ?_  -- 0
  refine WC.loop (X := Nat) (fun i => [(18, .int .i64 (i : Int)), (17, .int .i64 l2.length), (16, .slice A' l2.length cap'), (9, .slice A' l2.length cap'), (3, .int .i64 t)]) (fun _ => G) (fun _ => [x', frB b A l1.length cap p a B m cm, x]) (fun i => l2.length - i) (fun i => i ≤ l2.length ∧ ∀ j u, j < i → l2[j]? = some u → u.t = t) 0 ⟨Nat.zero_le _, fun j u h => by omega⟩ (by exact ⟨rfl, rfl, rfl, rfl, rfl, trivial⟩) rfl (List.Sublist.refl _) fun i hx => ?_
  obtain ⟨hi, hall⟩ := hx
  refine WC.seq ?_
  refine WC.region ?_
  (first | refine WL.p (Gp.ltI rfl rfl) (by kernel_rfl) rfl ?_ | refine WL.p (Gp.ltS rfl rfl) (by kernel_rfl) rfl ?_)
  refine WL.nil ?_
  refine WK.un ?_
  refine WC.seq ?_
  refine WC.cond rfl (fun hc2 => ?_) (fun hc2 => ?_)
  · -- yes
    have hlt : i < l2.length := by have h := hc2; simp at h; omega
    obtain ⟨v, hvi⟩ : ∃ v, l2[i]? = some v := ⟨_, List.getElem?_eq_getElem hlt⟩
    refine WC.skip ?_
    refine WK.un ?_
    refine WC.seq ?_
    refine WC.block ?_  -- 1
    refine WC.seq ?_
    refine WC.region ?_
    obtain ⟨hl, ⟨h1, h2, h3, h4⟩ | ⟨b', c, rfl, rfl, h1, h2, h3⟩⟩ := hv1
    · omega
    refine WL.p (Gp.indexAddr rfl rfl (by first | assumption | omega | decide) (by first | assumption | omega | decide | (simp only [List.length_cons, List.length_nil]; decide))) (by kernel_rfl) rfl ?_
    refine WL.v (Gv.loadN rfl .here (VVec.elem (A := none) (cap := 0) (b := 0) h3 hvi) rfl) (by kernel_rfl) rfl ?_
    refine WL.op (by kernel_rfl) (OW.alloc rfl fun b3 => ?_)
    refine WL.op (by kernel_rfl) (OW.store rfl rfl (by (repeat first | exact .here | apply At.there)) rfl (by rfl) (by rfl) (by kernel_rfl) (by rfl) ?_ rfl)
    refine WL.nil ?_
    refine WK.un ?_
    refine WC.region ?_
    refine WL.p (Gp.fieldAddr rfl) (by kernel_rfl) rfl ?_
    (first | (refine WL.v (Gv.load1 rfl (by (repeat first | exact .here | apply At.there)) (by first | rfl | assumption)) (by kernel_rfl) rfl ?_) | (refine WL.v (Gv.loadN rfl (by (repeat first | exact .here | apply At.there)) (by rfl) (by rfl)) (by kernel_rfl) rfl ?_) | (refine WL.v (Gv.loadG1 rfl (by assumption) rfl) (by kernel_rfl) rfl ?_) | (refine WL.v (Gv.loadG0 rfl (by assumption) rfl) (by kernel_rfl) rfl ?_) | (refine WL.v (Gv.loadGN rfl (by assumption) rfl) (by kernel_rfl) rfl ?_))
    refine WL.p (Gp.move rfl) (by kernel_rfl) rfl ?_
    (first | refine WL.p (Gp.eqI rfl rfl) (by kernel_rfl) rfl ?_ | refine WL.p (Gp.eqS rfl rfl) (by kernel_rfl) rfl ?_ | refine WL.p (Gp.nilSl rfl) (by kernel_rfl) rfl ?_ | refine WL.p (Gp.eqB rfl rfl) (by kernel_rfl) rfl ?_)
    by_cases ht : v.t = t
    · rw [show (v.t == t) = true by simpa using ht]
      refine WL.op (by kernel_rfl) (OW.callR rfl (Hf := []) (List.Perm.refl _) (need_ok G) rfl (by rintro e G' H' ⟨h, _⟩; exact ⟨_, h⟩) fun v' G' H' h hg => ?_)
      obtain ⟨he, rfl, rfl⟩ := h
      cases he
      refine WL.nil ?_
      refine WK.un ?_
      refine WC.region ?_
      (first | refine WL.p (Gp.add rfl rfl) (by kernel_rfl) rfl ?_ | refine WL.p (Gp.addS rfl rfl (by first | assumption | omega)) (by kernel_rfl) rfl ?_)
      refine WL.p (Gp.move rfl) (by kernel_rfl) rfl ?_
      refine WL.nil ?_
      refine WK.un ?_
      exact WK.again (i + 1) (by omega) ⟨by omega, fun j u hj hu => by
        rcases Nat.lt_or_ge j i with h | h
        · exact hall j u h hu
        · obtain rfl : j = i := by omega
          rw [hvi] at hu; cases hu; exact ht⟩ (by refine ⟨?_, rfl, rfl, rfl, rfl, trivial⟩; show some _ = some _; rw [wrap_small (by omega) (by omega)]; rfl) rfl (by exact .cons _ (List.Sublist.refl _))
    · rw [show (v.t == t) = false by simpa using ht]
      refine WL.op (by kernel_rfl) (OW.call rfl (Hf := []) (List.Perm.refl _) (need_no G) rfl (fun v G' H' h _ => by cases h.1) (fun ch G' H' h _ => ?_) (fun G' H' h => by cases h.1))
      obtain ⟨he, rfl, rfl⟩ := h
      cases he
      refine WK.un ?_
      exact QF.panic (H' := [frB b A l1.length cap p a B m cm]) (by exact .cons _ (.cons _ (.cons_cons _ (List.nil_sublist _)))) ⟨rfl, .inr ⟨rfl, ⟨v, List.mem_of_getElem? hvi, ht⟩, Left.of ..⟩⟩
  · -- no
    have hge : i = l2.length := by have h := hc2; simp at h; omega
    refine WC.exit ?_
    refine WK.un ?_
    refine WC.seq ?_
    refine WC.region ?_
    refine WL.p (Gp.move rfl) (by kernel_rfl) rfl ?_
    refine WL.p (Gp.assign rfl) (by kernel_rfl) rfl ?_
    refine WL.nil ?_
    refine WK.un ?_
    refine WC.ret ?_
    (refine WK.un ?_)
    exact QF.ret1 (.inl rfl) rfl (.tmp rfl) (List.Sublist.refl _) ⟨rfl, .inl ⟨A', cap', x', rfl, fun v hvm => by obtain ⟨j, hj, rfl⟩ := List.getElem_of_mem hvm; exact hall j _ (by omega) (List.getElem?_eq_getElem hj), rfl, hv1, hv2⟩⟩
end Go.Proofs.Ytjgohbepageicaa.Gb
namespace Go.Proofs.Ytjgohbepageicaa.Gb
open Go Go.Proofs
set_option linter.unusedVariables false
attribute [local irreducible] Try.prog

def ordN (u v : V) : Int := if cmpI u.i v.i = 0 then cmpS u.s v.s else cmpI u.i v.i
def ordS (c : Int) (u v : V) : Bool := if c = 14 then decide (ordN u v < 0) else if c = 15 then decide (ordN u v ≤ 0) else if c = 16 then decide (0 < ordN u v) else decide (0 ≤ ordN u v)
def ordOK (u v : V) : Prop := u.t = v.t ∧ (u.t = 1 ∨ u.t = 3)

theorem two_at {c : Array Value} {l : List Value} {n j : Nat} {w : Value} (h : c.toList.take n = l) (hw : l[j]? = some w) : c[j]? = some w := by
  subst h
  rw [List.getElem?_take] at hw
  split at hw
  · rw [← Array.getElem?_toList]; exact hw
  · cases hw

theorem two_lo {c : Array Value} {u v : V} {n j : Nat} {w : Value} (h : c.toList.take n = vflat [u, v]) (hw : (vcells u)[j]? = some w) : c[0 + (0 : Int).toNat * 4 + j]? = some w := by
  have hj : j < (vcells u).length := (List.getElem?_eq_some_iff.1 hw).1
  have e : (0 + (0 : Int).toNat * 4 + j) = j := by simp
  rw [e]
  refine two_at h ?_
  show (vcells u ++ (vcells v ++ []))[j]? = _
  rw [List.getElem?_append_left hj]; exact hw

theorem two_hi {c : Array Value} {u v : V} {n j : Nat} {w : Value} (h : c.toList.take n = vflat [u, v]) (hw : (vcells v)[j]? = some w) : c[0 + (1 : Int).toNat * 4 + j]? = some w := by
  have hj : j < (vcells v).length := (List.getElem?_eq_some_iff.1 hw).1
  have e : (0 + (1 : Int).toNat * 4 + j) = 4 + j := by simp
  rw [e]
  refine two_at h ?_
  show (vcells u ++ (vcells v ++ []))[4 + j]? = _
  rw [List.getElem?_append_right (by show 4 ≤ 4 + j; omega)]
  show (vcells v ++ [])[4 + j - 4]? = _
  rw [Nat.add_sub_cancel_left, List.append_nil]; exact hw

theorem ordered_fn (G : Gh) (mv : Value) (b : Nat) (A : Option Addr) (cap : Nat) (p a : Int) (B : Option Addr) (m cm : Nat) (l1 : List V) (u v : V) (x : Own) (c : Int) (hv : VVec A cap (l1 ++ [u, v]) x) (hb : l1.length + 2 ≤ 1000000000) :
    Fn Try.prog 84 #[mv, .pointer (some ⟨b, 0, none⟩), .int .i64 c] G [frB b A (l1 ++ [u, v]).length cap p a B m cm, x]
      fun e G' H' => G = G' ∧ ((e = .returned (.bool (ordS c u v)) ∧ ordOK u v ∧ H' = [frB b A l1.length cap p a B m cm, x] ∧ VVec A cap l1 x) ∨ (e = halted 6 ∧ ¬ ordOK u v ∧ Left b H')) := by
  refine Fn.enter Try.func84 rfl rfl fun w0 => ?_
  refine WC.seq ?_
  refine WC.region ?_
  refine WL.p (Gp.assign rfl) (by kernel_rfl) rfl ?_
  refine WL.nil ?_
  refine WK.un ?_
  refine WC.seq ?_
  refine WC.region ?_
  refine WL.p (Gp.move rfl) (by kernel_rfl) rfl ?_
  refine WL.p (Gp.move rfl) (by kernel_rfl) rfl ?_
  refine WL.op (by kernel_rfl) (OW.callR rfl (perm_all _) (take_ok G mv b A cap p a B m cm l1 [u, v] x hv hb) rfl (by rintro e G' H' ⟨_, _, _, h, _⟩; exact ⟨_, h⟩) fun v' G' H' h hg => ?_)
  obtain ⟨A', cap', x', he, rfl, rfl, hv1, hv2⟩ := h
  cases he
  refine WL.p (Gp.assign rfl) (by kernel_rfl) rfl ?_
  refine WL.nil ?_
  refine WK.un ?_
  obtain ⟨hl, ⟨h1, h2, h3, h4⟩ | ⟨b', c', rfl, rfl, h1, h2, h3⟩⟩ := hv1
  · simp at h2
  have hc0 : ∀ (j : Nat) (w : Value), (vcells u)[j]? = some w → c'[0 + (0 : Int).toNat * 4 + j]? = some w := fun j w hw => two_lo h3 hw
  have hc1 : ∀ (j : Nat) (w : Value), (vcells v)[j]? = some w → c'[0 + (1 : Int).toNat * 4 + j]? = some w := fun j w hw => two_hi h3 hw
  refine WC.join (X := Unit) (fun _ => [(7, .slice (some ⟨b', 0, none⟩) 2 cap'), (2, .int .i64 c)]) (fun _ => G) (fun _ => [.blk b' (.cells c' 33 (0, 0)), frB b A l1.length cap p a B m cm, x]) (fun _ => ordOK u v) ?_ fun _ hok => ?_
  · refine WC.draw mixed ?_
    refine WA.tp (i := 0) rfl (by kernel_rfl) (by kernel_rfl) rfl (Gp.move rfl) ?_
    refine WA.tp (i := 1) rfl (by kernel_rfl) (by kernel_rfl) rfl (Gp.indexAddr rfl rfl (by first | assumption | omega | decide) (by first | assumption | omega | decide | (simp only [List.length_cons, List.length_nil]; decide))) ?_
    refine WA.tp (i := 2) rfl (by kernel_rfl) (by kernel_rfl) rfl (Gp.fieldAddr rfl) ?_
    refine WA.tv (i := 3) rfl (by kernel_rfl) (by kernel_rfl) rfl (Gv.load1 rfl .here (hc0 0 _ rfl)) ?_
    refine WA.tp (i := 4) rfl (by kernel_rfl) (by kernel_rfl) rfl (Gp.move rfl) ?_
    refine WA.tp (i := 5) rfl (by kernel_rfl) (by kernel_rfl) rfl (Gp.indexAddr rfl rfl (by first | assumption | omega | decide) (by first | assumption | omega | decide | (simp only [List.length_cons, List.length_nil]; decide))) ?_
    refine WA.tp (i := 6) rfl (by kernel_rfl) (by kernel_rfl) rfl (Gp.fieldAddr rfl) ?_
    refine WA.tv (i := 7) rfl (by kernel_rfl) (by kernel_rfl) rfl (Gv.load1 rfl .here (hc1 0 _ rfl)) ?_
    (first | refine WA.tp (i := 8) rfl (by kernel_rfl) (by kernel_rfl) rfl (Gp.eqI rfl rfl) ?_ | refine WA.tp (i := 8) rfl (by kernel_rfl) (by kernel_rfl) rfl (Gp.eqS rfl rfl) ?_ | refine WA.tp (i := 8) rfl (by kernel_rfl) (by kernel_rfl) rfl (Gp.nilSl rfl) ?_ | refine WA.tp (i := 8) rfl (by kernel_rfl) (by kernel_rfl) rfl (Gp.eqB rfl rfl) ?_)
    refine WA.tp (i := 9) rfl (by kernel_rfl) (by kernel_rfl) rfl (Gp.move rfl) ?_
    by_cases e1 : u.t = v.t
    · rw [show (u.t == v.t) = true by simpa using e1]
      refine WA.tp (i := 10) rfl (by kernel_rfl) (by kernel_rfl) rfl (Gp.move rfl) ?_
      refine WA.tp (i := 11) rfl (by kernel_rfl) (by kernel_rfl) rfl (Gp.indexAddr rfl rfl (by first | assumption | omega | decide) (by first | assumption | omega | decide | (simp only [List.length_cons, List.length_nil]; decide))) ?_
      refine WA.tp (i := 12) rfl (by kernel_rfl) (by kernel_rfl) rfl (Gp.fieldAddr rfl) ?_
      refine WA.tv (i := 13) rfl (by kernel_rfl) (by kernel_rfl) rfl (Gv.load1 rfl .here (hc0 0 _ rfl)) ?_
      (first | refine WA.tp (i := 14) rfl (by kernel_rfl) (by kernel_rfl) rfl (Gp.eqI rfl rfl) ?_ | refine WA.tp (i := 14) rfl (by kernel_rfl) (by kernel_rfl) rfl (Gp.eqS rfl rfl) ?_ | refine WA.tp (i := 14) rfl (by kernel_rfl) (by kernel_rfl) rfl (Gp.nilSl rfl) ?_ | refine WA.tp (i := 14) rfl (by kernel_rfl) (by kernel_rfl) rfl (Gp.eqB rfl rfl) ?_)
      refine WA.tp (i := 15) rfl (by kernel_rfl) (by kernel_rfl) rfl (Gp.move rfl) ?_
      by_cases e2 : u.t = 1
      · rw [show (u.t == 1) = true by simpa using e2]
        refine WA.sp (i := 16) rfl (by kernel_rfl) (by kernel_rfl) rfl ?_
        refine WA.sp (i := 17) rfl (by kernel_rfl) (by kernel_rfl) rfl ?_
        refine WA.sp (i := 18) rfl (by kernel_rfl) (by kernel_rfl) rfl ?_
        refine WA.sp (i := 19) rfl (by kernel_rfl) (by kernel_rfl) rfl ?_
        refine WA.sp (i := 20) rfl (by kernel_rfl) (by kernel_rfl) rfl ?_
        (first | refine WA.tp (i := 21) rfl (by kernel_rfl) (by kernel_rfl) rfl (Gp.pickT rfl rfl) ?_ | refine WA.tp (i := 21) rfl (by kernel_rfl) (by kernel_rfl) rfl (Gp.pickF rfl rfl) ?_)
        (first | refine WA.tp (i := 22) rfl (by kernel_rfl) (by kernel_rfl) rfl (Gp.pickT rfl rfl) ?_ | refine WA.tp (i := 22) rfl (by kernel_rfl) (by kernel_rfl) rfl (Gp.pickF rfl rfl) ?_)
        refine WA.one (i := 23) (by kernel_rfl) rfl (by kernel_rfl) (OW.callR rfl (Hf := []) (List.Perm.refl _) (need_ok G) rfl (by rintro e G' H' ⟨h, _⟩; exact ⟨_, h⟩) fun v' G' H' h hg => ?_)
        obtain ⟨he, rfl, rfl⟩ := h
        cases he
        refine WA.done (by kernel_rfl) ?_
        refine WK.un ?_
        exact WK.meet () ⟨e1, .inl e2⟩ (by exact ⟨rfl, rfl, trivial⟩) rfl (List.Sublist.refl _)
      · rw [show (u.t == 1) = false by simpa using e2]
        refine WA.tp (i := 16) rfl (by kernel_rfl) (by kernel_rfl) rfl (Gp.move rfl) ?_
        refine WA.tp (i := 17) rfl (by kernel_rfl) (by kernel_rfl) rfl (Gp.indexAddr rfl rfl (by first | assumption | omega | decide) (by first | assumption | omega | decide | (simp only [List.length_cons, List.length_nil]; decide))) ?_
        refine WA.tp (i := 18) rfl (by kernel_rfl) (by kernel_rfl) rfl (Gp.fieldAddr rfl) ?_
        refine WA.tv (i := 19) rfl (by kernel_rfl) (by kernel_rfl) rfl (Gv.load1 rfl .here (hc0 0 _ rfl)) ?_
        (first | refine WA.tp (i := 20) rfl (by kernel_rfl) (by kernel_rfl) rfl (Gp.eqI rfl rfl) ?_ | refine WA.tp (i := 20) rfl (by kernel_rfl) (by kernel_rfl) rfl (Gp.eqS rfl rfl) ?_ | refine WA.tp (i := 20) rfl (by kernel_rfl) (by kernel_rfl) rfl (Gp.nilSl rfl) ?_ | refine WA.tp (i := 20) rfl (by kernel_rfl) (by kernel_rfl) rfl (Gp.eqB rfl rfl) ?_)
        (first | refine WA.tp (i := 21) rfl (by kernel_rfl) (by kernel_rfl) rfl (Gp.pickT rfl rfl) ?_ | refine WA.tp (i := 21) rfl (by kernel_rfl) (by kernel_rfl) rfl (Gp.pickF rfl rfl) ?_)
        (first | refine WA.tp (i := 22) rfl (by kernel_rfl) (by kernel_rfl) rfl (Gp.pickT rfl rfl) ?_ | refine WA.tp (i := 22) rfl (by kernel_rfl) (by kernel_rfl) rfl (Gp.pickF rfl rfl) ?_)
        by_cases e3 : u.t = 3
        · rw [show (u.t == 3) = true by simpa using e3]
          refine WA.one (i := 23) (by kernel_rfl) rfl (by kernel_rfl) (OW.callR rfl (Hf := []) (List.Perm.refl _) (need_ok G) rfl (by rintro e G' H' ⟨h, _⟩; exact ⟨_, h⟩) fun v' G' H' h hg => ?_)
          obtain ⟨he, rfl, rfl⟩ := h
          cases he
          refine WA.done (by kernel_rfl) ?_
          refine WK.un ?_
          exact WK.meet () ⟨e1, .inr e3⟩ (by exact ⟨rfl, rfl, trivial⟩) rfl (List.Sublist.refl _)
        · rw [show (u.t == 3) = false by simpa using e3]
          refine WA.one (i := 23) (by kernel_rfl) rfl (by kernel_rfl) (OW.call rfl (Hf := []) (List.Perm.refl _) (need_no G) rfl (fun v G' H' h _ => by cases h.1) (fun ch G' H' h _ => ?_) (fun G' H' h => by cases h.1))
          obtain ⟨he, rfl, rfl⟩ := h
          cases he
          refine WK.un ?_
          exact QF.panic (H' := [frB b A l1.length cap p a B m cm]) (by exact .cons _ (.cons_cons _ (List.nil_sublist _))) ⟨rfl, .inr ⟨rfl, fun h => h.2.elim e2 e3, Left.of ..⟩⟩
    · rw [show (u.t == v.t) = false by simpa using e1]
      refine WA.sp (i := 10) rfl (by kernel_rfl) (by kernel_rfl) rfl ?_
      refine WA.sp (i := 11) rfl (by kernel_rfl) (by kernel_rfl) rfl ?_
      refine WA.sp (i := 12) rfl (by kernel_rfl) (by kernel_rfl) rfl ?_
      refine WA.sp (i := 13) rfl (by kernel_rfl) (by kernel_rfl) rfl ?_
      refine WA.sp (i := 14) rfl (by kernel_rfl) (by kernel_rfl) rfl ?_
      refine WA.sp (i := 15) rfl (by kernel_rfl) (by kernel_rfl) rfl ?_
      refine WA.sp (i := 16) rfl (by kernel_rfl) (by kernel_rfl) rfl ?_
      refine WA.sp (i := 17) rfl (by kernel_rfl) (by kernel_rfl) rfl ?_
      refine WA.sp (i := 18) rfl (by kernel_rfl) (by kernel_rfl) rfl ?_
      refine WA.sp (i := 19) rfl (by kernel_rfl) (by kernel_rfl) rfl ?_
      refine WA.sp (i := 20) rfl (by kernel_rfl) (by kernel_rfl) rfl ?_
      refine WA.sp (i := 21) rfl (by kernel_rfl) (by kernel_rfl) rfl ?_
      (first | refine WA.tp (i := 22) rfl (by kernel_rfl) (by kernel_rfl) rfl (Gp.pickT rfl rfl) ?_ | refine WA.tp (i := 22) rfl (by kernel_rfl) (by kernel_rfl) rfl (Gp.pickF rfl rfl) ?_)
      refine WA.one (i := 23) (by kernel_rfl) rfl (by kernel_rfl) (OW.call rfl (Hf := []) (List.Perm.refl _) (need_no G) rfl (fun v G' H' h _ => by cases h.1) (fun ch G' H' h _ => ?_) (fun G' H' h => by cases h.1))
      obtain ⟨he, rfl, rfl⟩ := h
      cases he
      refine WK.un ?_
      exact QF.panic (H' := [frB b A l1.length cap p a B m cm]) (by exact .cons _ (.cons_cons _ (List.nil_sublist _))) ⟨rfl, .inr ⟨rfl, fun h => e1 h.1, Left.of ..⟩⟩
  refine WC.seq ?_
  refine WC.drawB mixed ?_
  refine WB.tp (i := 0) rfl (by kernel_rfl) (by kernel_rfl) rfl (Gp.move rfl) ?_
  refine WB.tp (i := 1) rfl (by kernel_rfl) (by kernel_rfl) rfl (Gp.indexAddr rfl rfl (by first | assumption | omega | decide) (by first | assumption | omega | decide | (simp only [List.length_cons, List.length_nil]; decide))) ?_
  refine WB.tp (i := 2) rfl (by kernel_rfl) (by kernel_rfl) rfl (Gp.fieldAddr rfl) ?_
  refine WB.tv (i := 3) rfl (by kernel_rfl) (by kernel_rfl) rfl (Gv.load1 rfl .here (hc0 1 _ rfl)) ?_
  refine WB.tp (i := 4) rfl (by kernel_rfl) (by kernel_rfl) rfl (Gp.move rfl) ?_
  refine WB.tp (i := 5) rfl (by kernel_rfl) (by kernel_rfl) rfl (Gp.indexAddr rfl rfl (by first | assumption | omega | decide) (by first | assumption | omega | decide | (simp only [List.length_cons, List.length_nil]; decide))) ?_
  refine WB.tp (i := 6) rfl (by kernel_rfl) (by kernel_rfl) rfl (Gp.fieldAddr rfl) ?_
  refine WB.tv (i := 7) rfl (by kernel_rfl) (by kernel_rfl) rfl (Gv.load1 rfl .here (hc1 1 _ rfl)) ?_
  refine WB.tp (i := 9) rfl (by kernel_rfl) (by kernel_rfl) rfl (Gp.move rfl) ?_
  refine WB.tp (i := 10) rfl (by kernel_rfl) (by kernel_rfl) rfl (Gp.indexAddr rfl rfl (by first | assumption | omega | decide) (by first | assumption | omega | decide | (simp only [List.length_cons, List.length_nil]; decide))) ?_
  refine WB.tp (i := 11) rfl (by kernel_rfl) (by kernel_rfl) rfl (Gp.fieldAddr rfl) ?_
  refine WB.tv (i := 12) rfl (by kernel_rfl) (by kernel_rfl) rfl (Gv.load1 rfl .here (hc0 3 _ rfl)) ?_
  refine WB.tp (i := 13) rfl (by kernel_rfl) (by kernel_rfl) rfl (Gp.move rfl) ?_
  refine WB.tp (i := 14) rfl (by kernel_rfl) (by kernel_rfl) rfl (Gp.indexAddr rfl rfl (by first | assumption | omega | decide) (by first | assumption | omega | decide | (simp only [List.length_cons, List.length_nil]; decide))) ?_
  refine WB.tp (i := 15) rfl (by kernel_rfl) (by kernel_rfl) rfl (Gp.fieldAddr rfl) ?_
  refine WB.tv (i := 16) rfl (by kernel_rfl) (by kernel_rfl) rfl (Gv.load1 rfl .here (hc1 3 _ rfl)) ?_
  refine WB.one (i := 8) (by kernel_rfl) rfl (by kernel_rfl) (OW.callR rfl (Hf := []) (List.Perm.refl _) (compareI_fn G _ _) rfl (by rintro e G' H' ⟨h, _⟩; exact ⟨_, h⟩) fun v' G' H' h hg => ?_)
  obtain ⟨he, rfl, rfl⟩ := h
  cases he
  refine ⟨fun w hw => hw.leSub (Gh.le_refl _) (List.Sublist.refl _), ?_⟩
  refine WB.one (i := 17) (by kernel_rfl) rfl (by kernel_rfl) (OW.callR rfl (Hf := []) (List.Perm.refl _) (compareS_fn G _ _) rfl (by rintro e G' H' ⟨h, _⟩; exact ⟨_, h⟩) fun v' G' H' h hg => ?_)
  obtain ⟨he, rfl, rfl⟩ := h
  cases he
  refine ⟨fun w hw => hw.leSub (Gh.le_refl _) (List.Sublist.refl _), ?_⟩
  refine WB.one (i := 18) (by kernel_rfl) rfl (by kernel_rfl) (OW.buildSlice rfl (by kernel_rfl) (by kernel_rfl) (by rfl) rfl fun b3 => ?_)
  refine ⟨fun w hw => hw.leSub (Gh.le_refl _) (List.sublist_cons_self _ _), ?_⟩
  refine WB.one (i := 19) (by kernel_rfl) rfl (by kernel_rfl) (OW.callR rfl (perm_at .here) (or_fn G b3 _ _) rfl (by rintro e G' H' ⟨h, _⟩; exact ⟨_, h⟩) fun v' G' H' h hg => ?_)
  obtain ⟨he, rfl, rfl⟩ := h
  cases he
  refine ⟨fun w hw => hw.leSub (Gh.le_refl _) (List.Sublist.refl _), ?_⟩
  refine WB.tp (i := 20) rfl (by kernel_rfl) (by kernel_rfl) rfl (Gp.assign rfl) ?_
  refine WB.done (by kernel_rfl) ?_
  refine WK.un ?_
  refine WC.seq ?_
  refine WC.seq ?_
  refine WC.region ?_
  refine WL.p (Gp.move rfl) (by kernel_rfl) rfl ?_
  refine WL.nil ?_
  refine WK.un ?_
  refine WC.block ?_  -- 0
  refine WC.seq ?_
  refine WC.region ?_
  (first | refine WL.p (Gp.eqI rfl rfl) (by kernel_rfl) rfl ?_ | refine WL.p (Gp.eqS rfl rfl) (by kernel_rfl) rfl ?_ | refine WL.p (Gp.nilSl rfl) (by kernel_rfl) rfl ?_ | refine WL.p (Gp.eqB rfl rfl) (by kernel_rfl) rfl ?_)
  refine WL.p (Gp.assign rfl) (by kernel_rfl) rfl ?_
  refine WL.nil ?_
  refine WK.un ?_
  refine WC.cond rfl (fun hc2 => ?_) (fun hc2 => ?_)
  · -- yes
    refine WC.seq ?_
    refine WC.region ?_
    refine WL.p (Gp.move rfl) (by kernel_rfl) rfl ?_
    (first | refine WL.p (Gp.ltI rfl rfl) (by kernel_rfl) rfl ?_ | refine WL.p (Gp.ltS rfl rfl) (by kernel_rfl) rfl ?_)
    refine WL.p (Gp.assign rfl) (by kernel_rfl) rfl ?_
    refine WL.nil ?_
    refine WK.un ?_
    refine WC.ret ?_
    (refine WK.un ?_)
    exact QF.ret1 (.inl rfl) rfl (.tmp rfl) (by exact .cons _ (List.Sublist.refl _)) ⟨rfl, .inl ⟨by rw [ordS, if_pos (show c = 14 by simpa using hc2)]; rfl, hok, rfl, hv2⟩⟩
  · -- no
    have h14 : ¬ c = 14 := by simpa using hc2
    refine WC.seq ?_
    refine WC.region ?_
    (first | refine WL.p (Gp.eqI rfl rfl) (by kernel_rfl) rfl ?_ | refine WL.p (Gp.eqS rfl rfl) (by kernel_rfl) rfl ?_ | refine WL.p (Gp.nilSl rfl) (by kernel_rfl) rfl ?_ | refine WL.p (Gp.eqB rfl rfl) (by kernel_rfl) rfl ?_)
    refine WL.p (Gp.assign rfl) (by kernel_rfl) rfl ?_
    refine WL.nil ?_
    refine WK.un ?_
    refine WC.cond rfl (fun hc2 => ?_) (fun hc2 => ?_)
    · -- yes
      refine WC.seq ?_
      refine WC.region ?_
      refine WL.p (Gp.move rfl) (by kernel_rfl) rfl ?_
      (first | refine WL.p (Gp.leI rfl rfl) (by kernel_rfl) rfl ?_ | refine WL.p (Gp.leS rfl rfl) (by kernel_rfl) rfl ?_)
      refine WL.p (Gp.assign rfl) (by kernel_rfl) rfl ?_
      refine WL.nil ?_
      refine WK.un ?_
      refine WC.ret ?_
      (refine WK.un ?_)
      exact QF.ret1 (.inl rfl) rfl (.tmp rfl) (by exact .cons _ (List.Sublist.refl _)) ⟨rfl, .inl ⟨by rw [ordS, if_neg h14, if_pos (show c = 15 by simpa using hc2)]; rfl, hok, rfl, hv2⟩⟩
    · -- no
      have h15 : ¬ c = 15 := by simpa using hc2
      refine WC.seq ?_
      refine WC.region ?_
      (first | refine WL.p (Gp.eqI rfl rfl) (by kernel_rfl) rfl ?_ | refine WL.p (Gp.eqS rfl rfl) (by kernel_rfl) rfl ?_ | refine WL.p (Gp.nilSl rfl) (by kernel_rfl) rfl ?_ | refine WL.p (Gp.eqB rfl rfl) (by kernel_rfl) rfl ?_)
      refine WL.p (Gp.assign rfl) (by kernel_rfl) rfl ?_
      refine WL.nil ?_
      refine WK.un ?_
      refine WC.cond rfl (fun hc2 => ?_) (fun hc2 => ?_)
      · -- yes
        refine WC.seq ?_
        refine WC.region ?_
        refine WL.p (Gp.move rfl) (by kernel_rfl) rfl ?_
        (first | refine WL.p (Gp.gtI rfl rfl) (by kernel_rfl) rfl ?_ | refine WL.p (Gp.gtS rfl rfl) (by kernel_rfl) rfl ?_)
        refine WL.p (Gp.assign rfl) (by kernel_rfl) rfl ?_
        refine WL.nil ?_
        refine WK.un ?_
        refine WC.ret ?_
        (refine WK.un ?_)
        exact QF.ret1 (.inl rfl) rfl (.tmp rfl) (by exact .cons _ (List.Sublist.refl _)) ⟨rfl, .inl ⟨by rw [ordS, if_neg h14, if_neg h15, if_pos (show c = 16 by simpa using hc2)]; rfl, hok, rfl, hv2⟩⟩
      · -- no
        have h16 : ¬ c = 16 := by simpa using hc2
        refine WC.skip ?_
        refine WK.un ?_
        refine WC.seq ?_
        refine WC.region ?_
        refine WL.p (Gp.move rfl) (by kernel_rfl) rfl ?_
        (first | refine WL.p (Gp.geI rfl rfl) (by kernel_rfl) rfl ?_ | refine WL.p (Gp.geS rfl rfl) (by kernel_rfl) rfl ?_)
        refine WL.p (Gp.assign rfl) (by kernel_rfl) rfl ?_
        refine WL.nil ?_
        refine WK.un ?_
        refine WC.ret ?_
        (refine WK.un ?_)
        exact QF.ret1 (.inl rfl) rfl (.tmp rfl) (by exact .cons _ (List.Sublist.refl _)) ⟨rfl, .inl ⟨by rw [ordS, if_neg h14, if_neg h15, if_neg h16]; rfl, hok, rfl, hv2⟩⟩
end Go.Proofs.Ytjgohbepageicaa.Gb
