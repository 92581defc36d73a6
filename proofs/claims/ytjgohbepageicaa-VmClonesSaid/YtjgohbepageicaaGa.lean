/- What is known of the types and functions of this seat, as the rules of the small logic ask for it. -/
import Derived.Test.YtjgohbepageicaaGg
import Derived.Test.YtjgohbepageicaaProg
namespace Go.Proofs.Ytjgohbepageicaa.Gb
open Go Go.Proofs
instance : Und Try.prog 2 (.int .i64) := ⟨by kernel_rfl⟩
instance inf2 : Inf Try.prog 2 1 8 (.int .i64 0) := ⟨by kernel_rfl⟩
instance : Agg Try.prog 2 false := ⟨fun w => by simp [isAgg, run_underlying Try.underlying2]⟩
instance : Und Try.prog 3 (.int .i64) := ⟨by kernel_rfl⟩
instance inf3 : Inf Try.prog 3 1 8 (.int .i64 0) := ⟨by kernel_rfl⟩
instance : Agg Try.prog 3 false := ⟨fun w => by simp [isAgg, run_underlying Try.underlying3]⟩
instance : Und Try.prog 4 .bool := ⟨by kernel_rfl⟩
instance inf4 : Inf Try.prog 4 1 1 (.bool false) := ⟨by kernel_rfl⟩
instance : Agg Try.prog 4 false := ⟨fun w => by simp [isAgg, run_underlying Try.underlying4]⟩
instance : Und Try.prog 5 (.int .u8) := ⟨by kernel_rfl⟩
instance inf5 : Inf Try.prog 5 1 1 (.int .u8 0) := ⟨by kernel_rfl⟩
instance : Agg Try.prog 5 false := ⟨fun w => by simp [isAgg, run_underlying Try.underlying5]⟩
instance : Und Try.prog 6 (.int .u8) := ⟨by kernel_rfl⟩
instance inf6 : Inf Try.prog 6 1 1 (.int .u8 0) := ⟨by kernel_rfl⟩
instance : Agg Try.prog 6 false := ⟨fun w => by simp [isAgg, run_underlying Try.underlying6]⟩
instance inf7 : Inf Try.prog 7 4 24 (.agg #[(.int .i64 0), (.int .i64 0), (.bool false), (.int .u8 0)]) := ⟨by kernel_rfl⟩
instance : Agg Try.prog 7 true := ⟨fun w => by simp [isAgg, run_underlying Try.underlying7]⟩
instance : Plc Try.prog 7 [(0, 1), (1, 1), (2, 1), (3, 1)] := ⟨fun w => ⟨_, Try.underlying7, run_places w _ _ (by kernel_rfl)⟩⟩
instance : Fld Try.prog 7 0 0 := mk_fld Try.underlying7 rfl (inf2).pos rfl
instance : Fld Try.prog 7 1 1 := mk_fld Try.underlying7 rfl (inf3).pos rfl
instance : Fld Try.prog 7 2 2 := mk_fld Try.underlying7 rfl (inf4).pos rfl
instance : Fld Try.prog 7 3 3 := mk_fld Try.underlying7 rfl (inf6).pos rfl
instance inf8 : Inf Try.prog 8 4 24 (.agg #[(.int .i64 0), (.int .i64 0), (.bool false), (.int .u8 0)]) := ⟨by kernel_rfl⟩
instance : Agg Try.prog 8 true := ⟨fun w => by simp [isAgg, run_underlying Try.underlying8]⟩
instance : Plc Try.prog 8 [(0, 1), (1, 1), (2, 1), (3, 1)] := ⟨fun w => ⟨_, Try.underlying8, run_places w _ _ (by kernel_rfl)⟩⟩
instance : Fld Try.prog 8 0 0 := mk_fld Try.underlying8 rfl (inf2).pos rfl
instance : Fld Try.prog 8 1 1 := mk_fld Try.underlying8 rfl (inf3).pos rfl
instance : Fld Try.prog 8 2 2 := mk_fld Try.underlying8 rfl (inf4).pos rfl
instance : Fld Try.prog 8 3 3 := mk_fld Try.underlying8 rfl (inf6).pos rfl
instance : Und Try.prog 9 .string := ⟨by kernel_rfl⟩
instance inf9 : Inf Try.prog 9 1 16 (.string ⟨#[]⟩) := ⟨by kernel_rfl⟩
instance : Agg Try.prog 9 false := ⟨fun w => by simp [isAgg, run_underlying Try.underlying9]⟩
instance : Und Try.prog 10 .string := ⟨by kernel_rfl⟩
instance inf10 : Inf Try.prog 10 1 16 (.string ⟨#[]⟩) := ⟨by kernel_rfl⟩
instance : Agg Try.prog 10 false := ⟨fun w => by simp [isAgg, run_underlying Try.underlying10]⟩
instance : Und Try.prog 11 .string := ⟨by kernel_rfl⟩
instance inf11 : Inf Try.prog 11 1 16 (.string ⟨#[]⟩) := ⟨by kernel_rfl⟩
instance : Agg Try.prog 11 false := ⟨fun w => by simp [isAgg, run_underlying Try.underlying11]⟩
instance : Und Try.prog 12 (.int .u64) := ⟨by kernel_rfl⟩
instance inf12 : Inf Try.prog 12 1 8 (.int .u64 0) := ⟨by kernel_rfl⟩
instance : Agg Try.prog 12 false := ⟨fun w => by simp [isAgg, run_underlying Try.underlying12]⟩
instance inf13 : Inf Try.prog 13 2 24 (.agg #[(.string ⟨#[]⟩), (.int .u64 0)]) := ⟨by kernel_rfl⟩
instance : Agg Try.prog 13 true := ⟨fun w => by simp [isAgg, run_underlying Try.underlying13]⟩
instance : Plc Try.prog 13 [(0, 1), (1, 1)] := ⟨fun w => ⟨_, Try.underlying13, run_places w _ _ (by kernel_rfl)⟩⟩
instance : Fld Try.prog 13 0 0 := mk_fld Try.underlying13 rfl (inf9).pos rfl
instance : Fld Try.prog 13 1 1 := mk_fld Try.underlying13 rfl (inf12).pos rfl
instance inf14 : Inf Try.prog 14 2 24 (.agg #[(.string ⟨#[]⟩), (.int .u64 0)]) := ⟨by kernel_rfl⟩
instance : Agg Try.prog 14 true := ⟨fun w => by simp [isAgg, run_underlying Try.underlying14]⟩
instance : Plc Try.prog 14 [(0, 1), (1, 1)] := ⟨fun w => ⟨_, Try.underlying14, run_places w _ _ (by kernel_rfl)⟩⟩
instance : Fld Try.prog 14 0 0 := mk_fld Try.underlying14 rfl (inf9).pos rfl
instance : Fld Try.prog 14 1 1 := mk_fld Try.underlying14 rfl (inf12).pos rfl
instance : Und Try.prog 15 (.pointer 142) := ⟨by kernel_rfl⟩
instance inf15 : Inf Try.prog 15 1 8 (.pointer none) := ⟨by kernel_rfl⟩
instance : Agg Try.prog 15 false := ⟨fun w => by simp [isAgg, run_underlying Try.underlying15]⟩
instance : Und Try.prog 16 (.pointer 145) := ⟨by kernel_rfl⟩
instance inf16 : Inf Try.prog 16 1 8 (.pointer none) := ⟨by kernel_rfl⟩
instance : Agg Try.prog 16 false := ⟨fun w => by simp [isAgg, run_underlying Try.underlying16]⟩
instance : Und Try.prog 17 (.pointer 154) := ⟨by kernel_rfl⟩
instance inf17 : Inf Try.prog 17 1 8 (.pointer none) := ⟨by kernel_rfl⟩
instance : Agg Try.prog 17 false := ⟨fun w => by simp [isAgg, run_underlying Try.underlying17]⟩
instance inf18 : Inf Try.prog 18 1 8 (.agg #[(.pointer none)]) := ⟨by kernel_rfl⟩
instance : Agg Try.prog 18 true := ⟨fun w => by simp [isAgg, run_underlying Try.underlying18]⟩
instance : Plc Try.prog 18 [(0, 1)] := ⟨fun w => ⟨_, Try.underlying18, run_places w _ _ (by kernel_rfl)⟩⟩
instance : Fld Try.prog 18 0 0 := mk_fld Try.underlying18 rfl (inf17).pos rfl
instance inf19 : Inf Try.prog 19 1 8 (.agg #[(.pointer none)]) := ⟨by kernel_rfl⟩
instance : Agg Try.prog 19 true := ⟨fun w => by simp [isAgg, run_underlying Try.underlying19]⟩
instance : Plc Try.prog 19 [(0, 1)] := ⟨fun w => ⟨_, Try.underlying19, run_places w _ _ (by kernel_rfl)⟩⟩
instance : Fld Try.prog 19 0 0 := mk_fld Try.underlying19 rfl (inf17).pos rfl
instance : Und Try.prog 21 (.int .i32) := ⟨by kernel_rfl⟩
instance inf21 : Inf Try.prog 21 1 4 (.int .i32 0) := ⟨by kernel_rfl⟩
instance : Agg Try.prog 21 false := ⟨fun w => by simp [isAgg, run_underlying Try.underlying21]⟩
instance : Und Try.prog 22 (.slice 33) := ⟨by kernel_rfl⟩
instance inf22 : Inf Try.prog 22 1 24 (.slice none 0 0) := ⟨by kernel_rfl⟩
instance : Agg Try.prog 22 false := ⟨fun w => by simp [isAgg, run_underlying Try.underlying22]⟩
instance : Und Try.prog 23 (.slice 55) := ⟨by kernel_rfl⟩
instance inf23 : Inf Try.prog 23 1 24 (.slice none 0 0) := ⟨by kernel_rfl⟩
instance : Agg Try.prog 23 false := ⟨fun w => by simp [isAgg, run_underlying Try.underlying23]⟩
instance : Und Try.prog 24 (.slice 156) := ⟨by kernel_rfl⟩
instance inf24 : Inf Try.prog 24 1 24 (.slice none 0 0) := ⟨by kernel_rfl⟩
instance : Agg Try.prog 24 false := ⟨fun w => by simp [isAgg, run_underlying Try.underlying24]⟩
instance inf25 : Inf Try.prog 25 3 72 (.agg #[(.slice none 0 0), (.slice none 0 0), (.slice none 0 0)]) := ⟨by kernel_rfl⟩
instance : Agg Try.prog 25 true := ⟨fun w => by simp [isAgg, run_underlying Try.underlying25]⟩
instance : Plc Try.prog 25 [(0, 1), (1, 1), (2, 1)] := ⟨fun w => ⟨_, Try.underlying25, run_places w _ _ (by kernel_rfl)⟩⟩
instance : Fld Try.prog 25 0 0 := mk_fld Try.underlying25 rfl (inf22).pos rfl
instance : Fld Try.prog 25 1 1 := mk_fld Try.underlying25 rfl (inf23).pos rfl
instance : Fld Try.prog 25 2 2 := mk_fld Try.underlying25 rfl (inf24).pos rfl
instance inf26 : Inf Try.prog 26 3 72 (.agg #[(.slice none 0 0), (.slice none 0 0), (.slice none 0 0)]) := ⟨by kernel_rfl⟩
instance : Agg Try.prog 26 true := ⟨fun w => by simp [isAgg, run_underlying Try.underlying26]⟩
instance : Plc Try.prog 26 [(0, 1), (1, 1), (2, 1)] := ⟨fun w => ⟨_, Try.underlying26, run_places w _ _ (by kernel_rfl)⟩⟩
instance : Fld Try.prog 26 0 0 := mk_fld Try.underlying26 rfl (inf22).pos rfl
instance : Fld Try.prog 26 1 1 := mk_fld Try.underlying26 rfl (inf23).pos rfl
instance : Fld Try.prog 26 2 2 := mk_fld Try.underlying26 rfl (inf24).pos rfl
instance inf27 : Inf Try.prog 27 5 104 (.agg #[(.slice none 0 0), (.slice none 0 0), (.slice none 0 0), (.int .i64 0), (.slice none 0 0)]) := ⟨by kernel_rfl⟩
instance : Agg Try.prog 27 true := ⟨fun w => by simp [isAgg, run_underlying Try.underlying27]⟩
instance : Plc Try.prog 27 [(0, 3), (3, 1), (4, 1)] := ⟨fun w => ⟨_, Try.underlying27, run_places w _ _ (by kernel_rfl)⟩⟩
instance : Fld Try.prog 27 0 0 := mk_fld Try.underlying27 rfl (inf26).pos rfl
instance : Fld Try.prog 27 1 3 := mk_fld Try.underlying27 rfl (inf3).pos rfl
instance : Fld Try.prog 27 2 4 := mk_fld Try.underlying27 rfl (inf22).pos rfl
instance inf28 : Inf Try.prog 28 5 104 (.agg #[(.slice none 0 0), (.slice none 0 0), (.slice none 0 0), (.int .i64 0), (.slice none 0 0)]) := ⟨by kernel_rfl⟩
instance : Agg Try.prog 28 true := ⟨fun w => by simp [isAgg, run_underlying Try.underlying28]⟩
instance : Plc Try.prog 28 [(0, 3), (3, 1), (4, 1)] := ⟨fun w => ⟨_, Try.underlying28, run_places w _ _ (by kernel_rfl)⟩⟩
instance : Fld Try.prog 28 0 0 := mk_fld Try.underlying28 rfl (inf26).pos rfl
instance : Fld Try.prog 28 1 3 := mk_fld Try.underlying28 rfl (inf3).pos rfl
instance : Fld Try.prog 28 2 4 := mk_fld Try.underlying28 rfl (inf22).pos rfl
instance : Und Try.prog 31 (.int .i64) := ⟨by kernel_rfl⟩
instance inf31 : Inf Try.prog 31 1 8 (.int .i64 0) := ⟨by kernel_rfl⟩
instance : Agg Try.prog 31 false := ⟨fun w => by simp [isAgg, run_underlying Try.underlying31]⟩
instance inf32 : Inf Try.prog 32 4 40 (.agg #[(.int .i64 0), (.int .i64 0), (.bool false), (.string ⟨#[]⟩)]) := ⟨by kernel_rfl⟩
instance : Agg Try.prog 32 true := ⟨fun w => by simp [isAgg, run_underlying Try.underlying32]⟩
instance : Plc Try.prog 32 [(0, 1), (1, 1), (2, 1), (3, 1)] := ⟨fun w => ⟨_, Try.underlying32, run_places w _ _ (by kernel_rfl)⟩⟩
instance : Fld Try.prog 32 0 0 := mk_fld Try.underlying32 rfl (inf31).pos rfl
instance : Fld Try.prog 32 1 1 := mk_fld Try.underlying32 rfl (inf2).pos rfl
instance : Fld Try.prog 32 2 2 := mk_fld Try.underlying32 rfl (inf4).pos rfl
instance : Fld Try.prog 32 3 3 := mk_fld Try.underlying32 rfl (inf9).pos rfl
instance inf33 : Inf Try.prog 33 4 40 (.agg #[(.int .i64 0), (.int .i64 0), (.bool false), (.string ⟨#[]⟩)]) := ⟨by kernel_rfl⟩
instance : Agg Try.prog 33 true := ⟨fun w => by simp [isAgg, run_underlying Try.underlying33]⟩
instance : Plc Try.prog 33 [(0, 1), (1, 1), (2, 1), (3, 1)] := ⟨fun w => ⟨_, Try.underlying33, run_places w _ _ (by kernel_rfl)⟩⟩
instance : Fld Try.prog 33 0 0 := mk_fld Try.underlying33 rfl (inf31).pos rfl
instance : Fld Try.prog 33 1 1 := mk_fld Try.underlying33 rfl (inf2).pos rfl
instance : Fld Try.prog 33 2 2 := mk_fld Try.underlying33 rfl (inf4).pos rfl
instance : Fld Try.prog 33 3 3 := mk_fld Try.underlying33 rfl (inf9).pos rfl
instance inf34 : Inf Try.prog 34 7 80 (.agg #[(.int .i64 0), (.int .i64 0), (.int .i64 0), (.bool false), (.string ⟨#[]⟩), (.slice none 0 0), (.int .i64 0)]) := ⟨by kernel_rfl⟩
instance : Agg Try.prog 34 true := ⟨fun w => by simp [isAgg, run_underlying Try.underlying34]⟩
instance : Plc Try.prog 34 [(0, 1), (1, 4), (5, 1), (6, 1)] := ⟨fun w => ⟨_, Try.underlying34, run_places w _ _ (by kernel_rfl)⟩⟩
instance : Fld Try.prog 34 0 0 := mk_fld Try.underlying34 rfl (inf3).pos rfl
instance : Fld Try.prog 34 1 1 := mk_fld Try.underlying34 rfl (inf33).pos rfl
instance : Fld Try.prog 34 2 5 := mk_fld Try.underlying34 rfl (inf22).pos rfl
instance : Fld Try.prog 34 3 6 := mk_fld Try.underlying34 rfl (inf3).pos rfl
instance inf35 : Inf Try.prog 35 7 80 (.agg #[(.int .i64 0), (.int .i64 0), (.int .i64 0), (.bool false), (.string ⟨#[]⟩), (.slice none 0 0), (.int .i64 0)]) := ⟨by kernel_rfl⟩
instance : Agg Try.prog 35 true := ⟨fun w => by simp [isAgg, run_underlying Try.underlying35]⟩
instance : Plc Try.prog 35 [(0, 1), (1, 4), (5, 1), (6, 1)] := ⟨fun w => ⟨_, Try.underlying35, run_places w _ _ (by kernel_rfl)⟩⟩
instance : Fld Try.prog 35 0 0 := mk_fld Try.underlying35 rfl (inf3).pos rfl
instance : Fld Try.prog 35 1 1 := mk_fld Try.underlying35 rfl (inf33).pos rfl
instance : Fld Try.prog 35 2 5 := mk_fld Try.underlying35 rfl (inf22).pos rfl
instance : Fld Try.prog 35 3 6 := mk_fld Try.underlying35 rfl (inf3).pos rfl
instance : Und Try.prog 40 (.int .u16) := ⟨by kernel_rfl⟩
instance inf40 : Inf Try.prog 40 1 2 (.int .u16 0) := ⟨by kernel_rfl⟩
instance : Agg Try.prog 40 false := ⟨fun w => by simp [isAgg, run_underlying Try.underlying40]⟩
instance : Und Try.prog 43 (.int .i64) := ⟨by kernel_rfl⟩
instance inf43 : Inf Try.prog 43 1 8 (.int .i64 0) := ⟨by kernel_rfl⟩
instance : Agg Try.prog 43 false := ⟨fun w => by simp [isAgg, run_underlying Try.underlying43]⟩
instance : Und Try.prog 44 (.slice 43) := ⟨by kernel_rfl⟩
instance inf44 : Inf Try.prog 44 1 24 (.slice none 0 0) := ⟨by kernel_rfl⟩
instance : Agg Try.prog 44 false := ⟨fun w => by simp [isAgg, run_underlying Try.underlying44]⟩
instance inf50 : Inf Try.prog 50 2 16 (.agg #[(.int .i64 0), (.int .i64 0)]) := ⟨by kernel_rfl⟩
instance : Agg Try.prog 50 true := ⟨fun w => by simp [isAgg, run_underlying Try.underlying50]⟩
instance : Plc Try.prog 50 [(0, 1), (1, 1)] := ⟨fun w => ⟨_, Try.underlying50, run_places w _ _ (by kernel_rfl)⟩⟩
instance : Fld Try.prog 50 0 0 := mk_fld Try.underlying50 rfl (inf43).pos rfl
instance : Fld Try.prog 50 1 1 := mk_fld Try.underlying50 rfl (inf3).pos rfl
instance inf51 : Inf Try.prog 51 2 16 (.agg #[(.int .i64 0), (.int .i64 0)]) := ⟨by kernel_rfl⟩
instance : Agg Try.prog 51 true := ⟨fun w => by simp [isAgg, run_underlying Try.underlying51]⟩
instance : Plc Try.prog 51 [(0, 1), (1, 1)] := ⟨fun w => ⟨_, Try.underlying51, run_places w _ _ (by kernel_rfl)⟩⟩
instance : Fld Try.prog 51 0 0 := mk_fld Try.underlying51 rfl (inf43).pos rfl
instance : Fld Try.prog 51 1 1 := mk_fld Try.underlying51 rfl (inf3).pos rfl
instance : Und Try.prog 52 (.slice 51) := ⟨by kernel_rfl⟩
instance inf52 : Inf Try.prog 52 1 24 (.slice none 0 0) := ⟨by kernel_rfl⟩
instance : Agg Try.prog 52 false := ⟨fun w => by simp [isAgg, run_underlying Try.underlying52]⟩
instance : Und Try.prog 53 (.slice 31) := ⟨by kernel_rfl⟩
instance inf53 : Inf Try.prog 53 1 24 (.slice none 0 0) := ⟨by kernel_rfl⟩
instance : Agg Try.prog 53 false := ⟨fun w => by simp [isAgg, run_underlying Try.underlying53]⟩
instance inf54 : Inf Try.prog 54 6 88 (.agg #[(.string ⟨#[]⟩), (.bool false), (.slice none 0 0), (.int .i64 0), (.int .i64 0), (.slice none 0 0)]) := ⟨by kernel_rfl⟩
instance : Agg Try.prog 54 true := ⟨fun w => by simp [isAgg, run_underlying Try.underlying54]⟩
instance : Plc Try.prog 54 [(0, 1), (1, 1), (2, 1), (3, 1), (4, 1), (5, 1)] := ⟨fun w => ⟨_, Try.underlying54, run_places w _ _ (by kernel_rfl)⟩⟩
instance : Fld Try.prog 54 0 0 := mk_fld Try.underlying54 rfl (inf9).pos rfl
instance : Fld Try.prog 54 1 1 := mk_fld Try.underlying54 rfl (inf4).pos rfl
instance : Fld Try.prog 54 2 2 := mk_fld Try.underlying54 rfl (inf53).pos rfl
instance : Fld Try.prog 54 3 3 := mk_fld Try.underlying54 rfl (inf3).pos rfl
instance : Fld Try.prog 54 4 4 := mk_fld Try.underlying54 rfl (inf31).pos rfl
instance : Fld Try.prog 54 5 5 := mk_fld Try.underlying54 rfl (inf52).pos rfl
instance inf55 : Inf Try.prog 55 6 88 (.agg #[(.string ⟨#[]⟩), (.bool false), (.slice none 0 0), (.int .i64 0), (.int .i64 0), (.slice none 0 0)]) := ⟨by kernel_rfl⟩
instance : Agg Try.prog 55 true := ⟨fun w => by simp [isAgg, run_underlying Try.underlying55]⟩
instance : Plc Try.prog 55 [(0, 1), (1, 1), (2, 1), (3, 1), (4, 1), (5, 1)] := ⟨fun w => ⟨_, Try.underlying55, run_places w _ _ (by kernel_rfl)⟩⟩
instance : Fld Try.prog 55 0 0 := mk_fld Try.underlying55 rfl (inf9).pos rfl
instance : Fld Try.prog 55 1 1 := mk_fld Try.underlying55 rfl (inf4).pos rfl
instance : Fld Try.prog 55 2 2 := mk_fld Try.underlying55 rfl (inf53).pos rfl
instance : Fld Try.prog 55 3 3 := mk_fld Try.underlying55 rfl (inf3).pos rfl
instance : Fld Try.prog 55 4 4 := mk_fld Try.underlying55 rfl (inf31).pos rfl
instance : Fld Try.prog 55 5 5 := mk_fld Try.underlying55 rfl (inf52).pos rfl
instance : Und Try.prog 57 (.pointer 81) := ⟨by kernel_rfl⟩
instance inf57 : Inf Try.prog 57 1 8 (.pointer none) := ⟨by kernel_rfl⟩
instance : Agg Try.prog 57 false := ⟨fun w => by simp [isAgg, run_underlying Try.underlying57]⟩
instance : Und Try.prog 58 (.int .i64) := ⟨by kernel_rfl⟩
instance inf58 : Inf Try.prog 58 1 8 (.int .i64 0) := ⟨by kernel_rfl⟩
instance : Agg Try.prog 58 false := ⟨fun w => by simp [isAgg, run_underlying Try.underlying58]⟩
instance inf62 : Inf Try.prog 62 2 16 (.agg #[(.int .i64 0), (.int .i64 0)]) := ⟨by kernel_rfl⟩
instance : Agg Try.prog 62 true := ⟨fun w => by simp [isAgg, run_underlying Try.underlying62]⟩
instance : Plc Try.prog 62 [(0, 1), (1, 1)] := ⟨fun w => ⟨_, Try.underlying62, run_places w _ _ (by kernel_rfl)⟩⟩
instance : Fld Try.prog 62 0 0 := mk_fld Try.underlying62 rfl (inf3).pos rfl
instance : Fld Try.prog 62 1 1 := mk_fld Try.underlying62 rfl (inf3).pos rfl
instance inf63 : Inf Try.prog 63 2 16 (.agg #[(.int .i64 0), (.int .i64 0)]) := ⟨by kernel_rfl⟩
instance : Agg Try.prog 63 true := ⟨fun w => by simp [isAgg, run_underlying Try.underlying63]⟩
instance : Plc Try.prog 63 [(0, 1), (1, 1)] := ⟨fun w => ⟨_, Try.underlying63, run_places w _ _ (by kernel_rfl)⟩⟩
instance : Fld Try.prog 63 0 0 := mk_fld Try.underlying63 rfl (inf3).pos rfl
instance : Fld Try.prog 63 1 1 := mk_fld Try.underlying63 rfl (inf3).pos rfl
instance : Und Try.prog 67 (.slice 3) := ⟨by kernel_rfl⟩
instance inf67 : Inf Try.prog 67 1 24 (.slice none 0 0) := ⟨by kernel_rfl⟩
instance : Agg Try.prog 67 false := ⟨fun w => by simp [isAgg, run_underlying Try.underlying67]⟩
instance : Und Try.prog 68 (.slice 96) := ⟨by kernel_rfl⟩
instance inf68 : Inf Try.prog 68 1 24 (.slice none 0 0) := ⟨by kernel_rfl⟩
instance : Agg Try.prog 68 false := ⟨fun w => by simp [isAgg, run_underlying Try.underlying68]⟩
instance inf69 : Inf Try.prog 69 11 176 (.agg #[(.slice none 0 0), (.slice none 0 0), (.slice none 0 0), (.slice none 0 0), (.int .i64 0), (.int .i64 0), (.int .i64 0), (.bool false), (.string ⟨#[]⟩), (.slice none 0 0), (.int .i64 0)]) := ⟨by kernel_rfl⟩
instance : Agg Try.prog 69 true := ⟨fun w => by simp [isAgg, run_underlying Try.underlying69]⟩
instance : Plc Try.prog 69 [(0, 3), (3, 1), (4, 7)] := ⟨fun w => ⟨_, Try.underlying69, run_places w _ _ (by kernel_rfl)⟩⟩
instance : Fld Try.prog 69 0 0 := mk_fld Try.underlying69 rfl (inf26).pos rfl
instance : Fld Try.prog 69 1 3 := mk_fld Try.underlying69 rfl (inf68).pos rfl
instance : Fld Try.prog 69 2 4 := mk_fld Try.underlying69 rfl (inf35).pos rfl
instance inf70 : Inf Try.prog 70 11 176 (.agg #[(.slice none 0 0), (.slice none 0 0), (.slice none 0 0), (.slice none 0 0), (.int .i64 0), (.int .i64 0), (.int .i64 0), (.bool false), (.string ⟨#[]⟩), (.slice none 0 0), (.int .i64 0)]) := ⟨by kernel_rfl⟩
instance : Agg Try.prog 70 true := ⟨fun w => by simp [isAgg, run_underlying Try.underlying70]⟩
instance : Plc Try.prog 70 [(0, 3), (3, 1), (4, 7)] := ⟨fun w => ⟨_, Try.underlying70, run_places w _ _ (by kernel_rfl)⟩⟩
instance : Fld Try.prog 70 0 0 := mk_fld Try.underlying70 rfl (inf26).pos rfl
instance : Fld Try.prog 70 1 3 := mk_fld Try.underlying70 rfl (inf68).pos rfl
instance : Fld Try.prog 70 2 4 := mk_fld Try.underlying70 rfl (inf35).pos rfl
instance : Und Try.prog 79 (.slice 92) := ⟨by kernel_rfl⟩
instance inf79 : Inf Try.prog 79 1 24 (.slice none 0 0) := ⟨by kernel_rfl⟩
instance : Agg Try.prog 79 false := ⟨fun w => by simp [isAgg, run_underlying Try.underlying79]⟩
instance inf80 : Inf Try.prog 80 12 184 (.agg #[(.slice none 0 0), (.slice none 0 0), (.slice none 0 0), (.slice none 0 0), (.int .i64 0), (.int .i64 0), (.int .i64 0), (.bool false), (.string ⟨#[]⟩), (.slice none 0 0), (.int .i64 0), (.bool false)]) := ⟨by kernel_rfl⟩
instance : Agg Try.prog 80 true := ⟨fun w => by simp [isAgg, run_underlying Try.underlying80]⟩
instance : Plc Try.prog 80 [(0, 3), (3, 1), (4, 7), (11, 1)] := ⟨fun w => ⟨_, Try.underlying80, run_places w _ _ (by kernel_rfl)⟩⟩
instance : Fld Try.prog 80 0 0 := mk_fld Try.underlying80 rfl (inf26).pos rfl
instance : Fld Try.prog 80 1 3 := mk_fld Try.underlying80 rfl (inf79).pos rfl
instance : Fld Try.prog 80 2 4 := mk_fld Try.underlying80 rfl (inf35).pos rfl
instance : Fld Try.prog 80 3 11 := mk_fld Try.underlying80 rfl (inf4).pos rfl
instance inf81 : Inf Try.prog 81 12 184 (.agg #[(.slice none 0 0), (.slice none 0 0), (.slice none 0 0), (.slice none 0 0), (.int .i64 0), (.int .i64 0), (.int .i64 0), (.bool false), (.string ⟨#[]⟩), (.slice none 0 0), (.int .i64 0), (.bool false)]) := ⟨by kernel_rfl⟩
instance : Agg Try.prog 81 true := ⟨fun w => by simp [isAgg, run_underlying Try.underlying81]⟩
instance : Plc Try.prog 81 [(0, 3), (3, 1), (4, 7), (11, 1)] := ⟨fun w => ⟨_, Try.underlying81, run_places w _ _ (by kernel_rfl)⟩⟩
instance : Fld Try.prog 81 0 0 := mk_fld Try.underlying81 rfl (inf26).pos rfl
instance : Fld Try.prog 81 1 3 := mk_fld Try.underlying81 rfl (inf79).pos rfl
instance : Fld Try.prog 81 2 4 := mk_fld Try.underlying81 rfl (inf35).pos rfl
instance : Fld Try.prog 81 3 11 := mk_fld Try.underlying81 rfl (inf4).pos rfl
instance inf88 : Inf Try.prog 88 1 24 (.agg #[(.slice none 0 0)]) := ⟨by kernel_rfl⟩
instance : Agg Try.prog 88 true := ⟨fun w => by simp [isAgg, run_underlying Try.underlying88]⟩
instance : Plc Try.prog 88 [(0, 1)] := ⟨fun w => ⟨_, Try.underlying88, run_places w _ _ (by kernel_rfl)⟩⟩
instance : Fld Try.prog 88 0 0 := mk_fld Try.underlying88 rfl (inf22).pos rfl
instance inf89 : Inf Try.prog 89 1 24 (.agg #[(.slice none 0 0)]) := ⟨by kernel_rfl⟩
instance : Agg Try.prog 89 true := ⟨fun w => by simp [isAgg, run_underlying Try.underlying89]⟩
instance : Plc Try.prog 89 [(0, 1)] := ⟨fun w => ⟨_, Try.underlying89, run_places w _ _ (by kernel_rfl)⟩⟩
instance : Fld Try.prog 89 0 0 := mk_fld Try.underlying89 rfl (inf22).pos rfl
instance inf90 : Inf Try.prog 90 4 64 (.agg #[(.slice none 0 0), (.int .i64 0), (.int .i64 0), (.slice none 0 0)]) := ⟨by kernel_rfl⟩
instance : Agg Try.prog 90 true := ⟨fun w => by simp [isAgg, run_underlying Try.underlying90]⟩
instance : Plc Try.prog 90 [(0, 1), (1, 1), (2, 1), (3, 1)] := ⟨fun w => ⟨_, Try.underlying90, run_places w _ _ (by kernel_rfl)⟩⟩
instance : Fld Try.prog 90 0 0 := mk_fld Try.underlying90 rfl (inf89).pos rfl
instance : Fld Try.prog 90 1 1 := mk_fld Try.underlying90 rfl (inf3).pos rfl
instance : Fld Try.prog 90 2 2 := mk_fld Try.underlying90 rfl (inf3).pos rfl
instance : Fld Try.prog 90 3 3 := mk_fld Try.underlying90 rfl (inf22).pos rfl
instance inf91 : Inf Try.prog 91 4 64 (.agg #[(.slice none 0 0), (.int .i64 0), (.int .i64 0), (.slice none 0 0)]) := ⟨by kernel_rfl⟩
instance : Agg Try.prog 91 true := ⟨fun w => by simp [isAgg, run_underlying Try.underlying91]⟩
instance : Plc Try.prog 91 [(0, 1), (1, 1), (2, 1), (3, 1)] := ⟨fun w => ⟨_, Try.underlying91, run_places w _ _ (by kernel_rfl)⟩⟩
instance : Fld Try.prog 91 0 0 := mk_fld Try.underlying91 rfl (inf89).pos rfl
instance : Fld Try.prog 91 1 1 := mk_fld Try.underlying91 rfl (inf3).pos rfl
instance : Fld Try.prog 91 2 2 := mk_fld Try.underlying91 rfl (inf3).pos rfl
instance : Fld Try.prog 91 3 3 := mk_fld Try.underlying91 rfl (inf22).pos rfl
instance : Und Try.prog 92 (.pointer 91) := ⟨by kernel_rfl⟩
instance inf92 : Inf Try.prog 92 1 8 (.pointer none) := ⟨by kernel_rfl⟩
instance : Agg Try.prog 92 false := ⟨fun w => by simp [isAgg, run_underlying Try.underlying92]⟩
instance inf95 : Inf Try.prog 95 4 64 (.agg #[(.int .i64 0), (.int .i64 0), (.slice none 0 0), (.slice none 0 0)]) := ⟨by kernel_rfl⟩
instance : Agg Try.prog 95 true := ⟨fun w => by simp [isAgg, run_underlying Try.underlying95]⟩
instance : Plc Try.prog 95 [(0, 1), (1, 1), (2, 1), (3, 1)] := ⟨fun w => ⟨_, Try.underlying95, run_places w _ _ (by kernel_rfl)⟩⟩
instance : Fld Try.prog 95 0 0 := mk_fld Try.underlying95 rfl (inf3).pos rfl
instance : Fld Try.prog 95 1 1 := mk_fld Try.underlying95 rfl (inf3).pos rfl
instance : Fld Try.prog 95 2 2 := mk_fld Try.underlying95 rfl (inf22).pos rfl
instance : Fld Try.prog 95 3 3 := mk_fld Try.underlying95 rfl (inf22).pos rfl
instance inf96 : Inf Try.prog 96 4 64 (.agg #[(.int .i64 0), (.int .i64 0), (.slice none 0 0), (.slice none 0 0)]) := ⟨by kernel_rfl⟩
instance : Agg Try.prog 96 true := ⟨fun w => by simp [isAgg, run_underlying Try.underlying96]⟩
instance : Plc Try.prog 96 [(0, 1), (1, 1), (2, 1), (3, 1)] := ⟨fun w => ⟨_, Try.underlying96, run_places w _ _ (by kernel_rfl)⟩⟩
instance : Fld Try.prog 96 0 0 := mk_fld Try.underlying96 rfl (inf3).pos rfl
instance : Fld Try.prog 96 1 1 := mk_fld Try.underlying96 rfl (inf3).pos rfl
instance : Fld Try.prog 96 2 2 := mk_fld Try.underlying96 rfl (inf22).pos rfl
instance : Fld Try.prog 96 3 3 := mk_fld Try.underlying96 rfl (inf22).pos rfl
instance inf105 : Inf Try.prog 105 5 72 (.agg #[(.pointer none), (.slice none 0 0), (.int .i64 0), (.int .i64 0), (.slice none 0 0)]) := ⟨by kernel_rfl⟩
instance : Agg Try.prog 105 true := ⟨fun w => by simp [isAgg, run_underlying Try.underlying105]⟩
instance : Plc Try.prog 105 [(0, 1), (1, 4)] := ⟨fun w => ⟨_, Try.underlying105, run_places w _ _ (by kernel_rfl)⟩⟩
instance : Fld Try.prog 105 0 0 := mk_fld Try.underlying105 rfl (inf92).pos rfl
instance : Fld Try.prog 105 1 1 := mk_fld Try.underlying105 rfl (inf91).pos rfl
instance inf106 : Inf Try.prog 106 5 72 (.agg #[(.pointer none), (.slice none 0 0), (.int .i64 0), (.int .i64 0), (.slice none 0 0)]) := ⟨by kernel_rfl⟩
instance : Agg Try.prog 106 true := ⟨fun w => by simp [isAgg, run_underlying Try.underlying106]⟩
instance : Plc Try.prog 106 [(0, 1), (1, 4)] := ⟨fun w => ⟨_, Try.underlying106, run_places w _ _ (by kernel_rfl)⟩⟩
instance : Fld Try.prog 106 0 0 := mk_fld Try.underlying106 rfl (inf92).pos rfl
instance : Fld Try.prog 106 1 1 := mk_fld Try.underlying106 rfl (inf91).pos rfl
instance inf107 : Inf Try.prog 107 1 8 (.agg #[(.int .i64 0)]) := ⟨by kernel_rfl⟩
instance : Agg Try.prog 107 true := ⟨fun w => by simp [isAgg, run_underlying Try.underlying107]⟩
instance : Plc Try.prog 107 [(0, 1)] := ⟨fun w => ⟨_, Try.underlying107, run_places w _ _ (by kernel_rfl)⟩⟩
instance : Fld Try.prog 107 0 0 := mk_fld Try.underlying107 rfl (inf3).pos rfl
instance inf108 : Inf Try.prog 108 1 8 (.agg #[(.int .i64 0)]) := ⟨by kernel_rfl⟩
instance : Agg Try.prog 108 true := ⟨fun w => by simp [isAgg, run_underlying Try.underlying108]⟩
instance : Plc Try.prog 108 [(0, 1)] := ⟨fun w => ⟨_, Try.underlying108, run_places w _ _ (by kernel_rfl)⟩⟩
instance : Fld Try.prog 108 0 0 := mk_fld Try.underlying108 rfl (inf3).pos rfl
instance : Und Try.prog 134 (.pointer 89) := ⟨by kernel_rfl⟩
instance inf134 : Inf Try.prog 134 1 8 (.pointer none) := ⟨by kernel_rfl⟩
instance : Agg Try.prog 134 false := ⟨fun w => by simp [isAgg, run_underlying Try.underlying134]⟩
instance inf141 : Inf Try.prog 141 4 40 (.agg #[(.pointer none), (.pointer none), (.pointer none), (.string ⟨#[]⟩)]) := ⟨by kernel_rfl⟩
instance : Agg Try.prog 141 true := ⟨fun w => by simp [isAgg, run_underlying Try.underlying141]⟩
instance : Plc Try.prog 141 [(0, 1), (1, 1), (2, 1), (3, 1)] := ⟨fun w => ⟨_, Try.underlying141, run_places w _ _ (by kernel_rfl)⟩⟩
instance : Fld Try.prog 141 0 0 := mk_fld Try.underlying141 rfl (inf17).pos rfl
instance : Fld Try.prog 141 1 1 := mk_fld Try.underlying141 rfl (inf17).pos rfl
instance : Fld Try.prog 141 2 2 := mk_fld Try.underlying141 rfl (inf17).pos rfl
instance : Fld Try.prog 141 3 3 := mk_fld Try.underlying141 rfl (inf9).pos rfl
instance inf142 : Inf Try.prog 142 4 40 (.agg #[(.pointer none), (.pointer none), (.pointer none), (.string ⟨#[]⟩)]) := ⟨by kernel_rfl⟩
instance : Agg Try.prog 142 true := ⟨fun w => by simp [isAgg, run_underlying Try.underlying142]⟩
instance : Plc Try.prog 142 [(0, 1), (1, 1), (2, 1), (3, 1)] := ⟨fun w => ⟨_, Try.underlying142, run_places w _ _ (by kernel_rfl)⟩⟩
instance : Fld Try.prog 142 0 0 := mk_fld Try.underlying142 rfl (inf17).pos rfl
instance : Fld Try.prog 142 1 1 := mk_fld Try.underlying142 rfl (inf17).pos rfl
instance : Fld Try.prog 142 2 2 := mk_fld Try.underlying142 rfl (inf17).pos rfl
instance : Fld Try.prog 142 3 3 := mk_fld Try.underlying142 rfl (inf9).pos rfl
instance inf143 : Inf Try.prog 143 0 0 (.agg #[]) := ⟨by kernel_rfl⟩
instance : Agg Try.prog 143 true := ⟨fun w => by simp [isAgg, run_underlying Try.underlying143]⟩
instance inf144 : Inf Try.prog 144 0 0 (.agg #[]) := ⟨by kernel_rfl⟩
instance : Agg Try.prog 144 true := ⟨fun w => by simp [isAgg, run_underlying Try.underlying144]⟩
instance : Plc Try.prog 144 [(0, 0)] := ⟨fun w => ⟨_, Try.underlying144, run_places w _ _ (by kernel_rfl)⟩⟩
instance inf145 : Inf Try.prog 145 0 0 (.agg #[]) := ⟨by kernel_rfl⟩
instance : Agg Try.prog 145 true := ⟨fun w => by simp [isAgg, run_underlying Try.underlying145]⟩
instance : Plc Try.prog 145 [(0, 0)] := ⟨fun w => ⟨_, Try.underlying145, run_places w _ _ (by kernel_rfl)⟩⟩
instance : Und Try.prog 146 (.int .u32) := ⟨by kernel_rfl⟩
instance inf146 : Inf Try.prog 146 1 4 (.int .u32 0) := ⟨by kernel_rfl⟩
instance : Agg Try.prog 146 false := ⟨fun w => by simp [isAgg, run_underlying Try.underlying146]⟩
instance : Und Try.prog 147 (.int .u8) := ⟨by kernel_rfl⟩
instance inf147 : Inf Try.prog 147 1 1 (.int .u8 0) := ⟨by kernel_rfl⟩
instance : Agg Try.prog 147 false := ⟨fun w => by simp [isAgg, run_underlying Try.underlying147]⟩
instance : Und Try.prog 148 (.int .u8) := ⟨by kernel_rfl⟩
instance inf148 : Inf Try.prog 148 1 1 (.int .u8 0) := ⟨by kernel_rfl⟩
instance : Agg Try.prog 148 false := ⟨fun w => by simp [isAgg, run_underlying Try.underlying148]⟩
instance : Und Try.prog 150 (.pointer 5) := ⟨by kernel_rfl⟩
instance inf150 : Inf Try.prog 150 1 8 (.pointer none) := ⟨by kernel_rfl⟩
instance : Agg Try.prog 150 false := ⟨fun w => by simp [isAgg, run_underlying Try.underlying150]⟩
instance : Und Try.prog 151 (.int .i32) := ⟨by kernel_rfl⟩
instance inf151 : Inf Try.prog 151 1 4 (.int .i32 0) := ⟨by kernel_rfl⟩
instance : Agg Try.prog 151 false := ⟨fun w => by simp [isAgg, run_underlying Try.underlying151]⟩
instance : Und Try.prog 152 (.int .i32) := ⟨by kernel_rfl⟩
instance inf152 : Inf Try.prog 152 1 4 (.int .i32 0) := ⟨by kernel_rfl⟩
instance : Agg Try.prog 152 false := ⟨fun w => by simp [isAgg, run_underlying Try.underlying152]⟩
instance inf153 : Inf Try.prog 153 11 48 (.agg #[(.int .u64 0), (.int .u64 0), (.int .u32 0), (.int .u8 0), (.int .u8 0), (.int .u8 0), (.int .u8 0), .nilFunc, (.pointer none), (.int .i32 0), (.int .i32 0)]) := ⟨by kernel_rfl⟩
instance : Agg Try.prog 153 true := ⟨fun w => by simp [isAgg, run_underlying Try.underlying153]⟩
instance : Plc Try.prog 153 [(0, 1), (1, 1), (2, 1), (3, 1), (4, 1), (5, 1), (6, 1), (7, 1), (8, 1), (9, 1), (10, 1)] := ⟨fun w => ⟨_, Try.underlying153, run_places w _ _ (by kernel_rfl)⟩⟩
instance : Fld Try.prog 153 0 0 := mk_fld Try.underlying153 rfl (inf12).pos rfl
instance : Fld Try.prog 153 1 1 := mk_fld Try.underlying153 rfl (inf12).pos rfl
instance : Fld Try.prog 153 2 2 := mk_fld Try.underlying153 rfl (inf146).pos rfl
instance : Fld Try.prog 153 3 3 := mk_fld Try.underlying153 rfl (inf147).pos rfl
instance : Fld Try.prog 153 4 4 := mk_fld Try.underlying153 rfl (inf5).pos rfl
instance : Fld Try.prog 153 5 5 := mk_fld Try.underlying153 rfl (inf5).pos rfl
instance : Fld Try.prog 153 6 6 := mk_fld Try.underlying153 rfl (inf148).pos rfl
instance : Fld Try.prog 153 8 8 := mk_fld Try.underlying153 rfl (inf150).pos rfl
instance : Fld Try.prog 153 9 9 := mk_fld Try.underlying153 rfl (inf151).pos rfl
instance : Fld Try.prog 153 10 10 := mk_fld Try.underlying153 rfl (inf152).pos rfl
instance inf154 : Inf Try.prog 154 11 48 (.agg #[(.int .u64 0), (.int .u64 0), (.int .u32 0), (.int .u8 0), (.int .u8 0), (.int .u8 0), (.int .u8 0), .nilFunc, (.pointer none), (.int .i32 0), (.int .i32 0)]) := ⟨by kernel_rfl⟩
instance : Agg Try.prog 154 true := ⟨fun w => by simp [isAgg, run_underlying Try.underlying154]⟩
instance : Plc Try.prog 154 [(0, 1), (1, 1), (2, 1), (3, 1), (4, 1), (5, 1), (6, 1), (7, 1), (8, 1), (9, 1), (10, 1)] := ⟨fun w => ⟨_, Try.underlying154, run_places w _ _ (by kernel_rfl)⟩⟩
instance : Fld Try.prog 154 0 0 := mk_fld Try.underlying154 rfl (inf12).pos rfl
instance : Fld Try.prog 154 1 1 := mk_fld Try.underlying154 rfl (inf12).pos rfl
instance : Fld Try.prog 154 2 2 := mk_fld Try.underlying154 rfl (inf146).pos rfl
instance : Fld Try.prog 154 3 3 := mk_fld Try.underlying154 rfl (inf147).pos rfl
instance : Fld Try.prog 154 4 4 := mk_fld Try.underlying154 rfl (inf5).pos rfl
instance : Fld Try.prog 154 5 5 := mk_fld Try.underlying154 rfl (inf5).pos rfl
instance : Fld Try.prog 154 6 6 := mk_fld Try.underlying154 rfl (inf148).pos rfl
instance : Fld Try.prog 154 8 8 := mk_fld Try.underlying154 rfl (inf150).pos rfl
instance : Fld Try.prog 154 9 9 := mk_fld Try.underlying154 rfl (inf151).pos rfl
instance : Fld Try.prog 154 10 10 := mk_fld Try.underlying154 rfl (inf152).pos rfl
instance inf155 : Inf Try.prog 155 3 40 (.agg #[(.string ⟨#[]⟩), (.string ⟨#[]⟩), (.int .i64 0)]) := ⟨by kernel_rfl⟩
instance : Agg Try.prog 155 true := ⟨fun w => by simp [isAgg, run_underlying Try.underlying155]⟩
instance : Plc Try.prog 155 [(0, 1), (1, 1), (2, 1)] := ⟨fun w => ⟨_, Try.underlying155, run_places w _ _ (by kernel_rfl)⟩⟩
instance : Fld Try.prog 155 0 0 := mk_fld Try.underlying155 rfl (inf9).pos rfl
instance : Fld Try.prog 155 1 1 := mk_fld Try.underlying155 rfl (inf9).pos rfl
instance : Fld Try.prog 155 2 2 := mk_fld Try.underlying155 rfl (inf3).pos rfl
instance inf156 : Inf Try.prog 156 3 40 (.agg #[(.string ⟨#[]⟩), (.string ⟨#[]⟩), (.int .i64 0)]) := ⟨by kernel_rfl⟩
instance : Agg Try.prog 156 true := ⟨fun w => by simp [isAgg, run_underlying Try.underlying156]⟩
instance : Plc Try.prog 156 [(0, 1), (1, 1), (2, 1)] := ⟨fun w => ⟨_, Try.underlying156, run_places w _ _ (by kernel_rfl)⟩⟩
instance : Fld Try.prog 156 0 0 := mk_fld Try.underlying156 rfl (inf9).pos rfl
instance : Fld Try.prog 156 1 1 := mk_fld Try.underlying156 rfl (inf9).pos rfl
instance : Fld Try.prog 156 2 2 := mk_fld Try.underlying156 rfl (inf3).pos rfl
-- 3: treadle/treadlelaw20.VmRuns
instance : Body Try.prog 3 := mk_body Try.func3 (by decide) rfl
-- 4: treadle/treadlelaw20.VmFuel
instance : Body Try.prog 4 := mk_body Try.func4 (by decide) rfl
-- 5: treadle/treadlelaw20.VmNumbers
instance : Body Try.prog 5 := mk_body Try.func5 (by decide) rfl
-- 6: treadle/treadlelaw20.VmTexts
instance : Body Try.prog 6 := mk_body Try.func6 (by decide) rfl
-- 7: treadle/treadlelaw20.VmDeep
instance : Body Try.prog 7 := mk_body Try.func7 (by decide) rfl
-- 8: treadle/treadlelaw20.VmParts
instance : Body Try.prog 8 := mk_body Try.func8 (by decide) rfl
-- 9: treadle/treadlelaw20.VmSteps
instance : Body Try.prog 9 := mk_body Try.func9 (by decide) rfl
-- 10: treadle/treadlelaw20.VmOwn
instance : Body Try.prog 10 := mk_body Try.func10 (by decide) rfl
-- 11: treadle/treadlelaw20.VmClones
instance : Body Try.prog 11 := mk_body Try.func11 (by decide) rfl
-- 12: treadle/treadlelaw20.VmNobody
instance : Body Try.prog 12 := mk_body Try.func12 (by decide) rfl
-- 13: treadle/treadlelaw20.capped
instance : Body Try.prog 13 := mk_body Try.func13 (by decide) rfl
-- 14: treadle/treadleref20.Same
instance : Body Try.prog 14 := mk_body Try.func14 (by decide) rfl
-- 15: treadle/vm.Run
instance : Body Try.prog 15 := mk_body Try.func15 (by decide) rfl
-- 16: treadle/treadleref20.Run
instance : Body Try.prog 16 := mk_body Try.func16 (by decide) rfl
-- 17: treadle/treadlelaw20.awake
instance : Body Try.prog 17 := mk_body Try.func17 (by decide) rfl
-- 18: treadle/treadlelaw20.begins
instance : Body Try.prog 18 := mk_body Try.func18 (by decide) rfl
-- 19: treadle/treadlelaw20.two
instance : Body Try.prog 19 := mk_body Try.func19 (by decide) rfl
-- 20: treadle/treadlelaw20.number
instance : Body Try.prog 20 := mk_body Try.func20 (by decide) rfl
-- 21: treadle/treadlelaw20.text
instance : Body Try.prog 21 := mk_body Try.func21 (by decide) rfl
-- 22: treadle/vm.Start
instance : Body Try.prog 22 := mk_body Try.func22 (by decide) rfl
-- 23: (*treadle/vm.Machine).Step
instance : Body Try.prog 23 := mk_body Try.func23 (by decide) rfl
-- 24: (*treadle/vm.Machine).Outcome
instance : Body Try.prog 24 := mk_body Try.func24 (by decide) rfl
-- 25: (*treadle/vm.Machine).Spot
instance : Body Try.prog 25 := mk_body Try.func25 (by decide) rfl
-- 26: (*treadle/vm.Machine).Depth
instance : Body Try.prog 26 := mk_body Try.func26 (by decide) rfl
-- 27: treadle/treadleref20.SameValues
instance : Body Try.prog 27 := mk_body Try.func27 (by decide) rfl
-- 28: (*treadle/vm.Machine).Vars
instance : Body Try.prog 28 := mk_body Try.func28 (by decide) rfl
-- 29: (*treadle/vm.Machine).Stack
instance : Body Try.prog 29 := mk_body Try.func29 (by decide) rfl
-- 30: treadle/treadleref20.Start
instance : Body Try.prog 30 := mk_body Try.func30 (by decide) rfl
-- 31: treadle/treadlelaw20.told
instance : Body Try.prog 31 := mk_body Try.func31 (by decide) rfl
-- 32: treadle/treadleref20.Steps
instance : Body Try.prog 32 := mk_body Try.func32 (by decide) rfl
-- 33: (*treadle/vm.Machine).Clone
instance : Body Try.prog 33 := mk_body Try.func33 (by decide) rfl
-- 34: (*treadle/vm.Machine).Ended
instance : Body Try.prog 34 := mk_body Try.func34 (by decide) rfl
-- 35: treadle/vm.sized
instance : Body Try.prog 35 := mk_body Try.func35 (by decide) rfl
-- 36: treadle/vm.value
instance : Body Try.prog 36 := mk_body Try.func36 (by decide) rfl
-- 37: treadle/vm.own
instance : Body Try.prog 37 := mk_body Try.func37 (by decide) rfl
-- 38: (*treadle/vm.Machine).enter
instance : Body Try.prog 38 := mk_body Try.func38 (by decide) rfl
-- 39: (*treadle/vm.Machine).made
instance : Body Try.prog 39 := mk_body Try.func39 (by decide) rfl
-- 40: (*treadle/vm.Machine).step
instance : Body Try.prog 40 := mk_body Try.func40 (by decide) rfl
-- 41: slices.Clone[[]treadle/api.Value,treadle/api.Value]
instance : Body Try.prog 41 := mk_body Try.func41 (by decide) rfl
-- 42: (*treadle/vm.Machine).top
instance : Body Try.prog 42 := mk_body Try.func42 (by decide) rfl
-- 43: treadle/treadleref20.sized
instance : Body Try.prog 43 := mk_body Try.func43 (by decide) rfl
-- 44: treadle/treadleref20.typed
instance : Body Try.prog 44 := mk_body Try.func44 (by decide) rfl
-- 45: treadle/treadleref20.frame
instance : Body Try.prog 45 := mk_body Try.func45 (by decide) rfl
-- 46: treadle/treadleref20.Spot
instance : Body Try.prog 46 := mk_body Try.func46 (by decide) rfl
-- 47: treadle/treadleref20.Vars
instance : Body Try.prog 47 := mk_body Try.func47 (by decide) rfl
-- 48: treadle/treadleref20.Stack
instance : Body Try.prog 48 := mk_body Try.func48 (by decide) rfl
-- 49: treadle/treadleref20.Step
instance : Body Try.prog 49 := mk_body Try.func49 (by decide) rfl
-- 50: (*treadle/vm.frame).copied
instance : Body Try.prog 50 := mk_body Try.func50 (by decide) rfl
-- 51: slices.Clone[[]treadle/api.Proc,treadle/api.Proc]
instance : Body Try.prog 51 := mk_body Try.func51 (by decide) rfl
-- 52: slices.Clone[[]treadle/api.Type,treadle/api.Type]
instance : Body Try.prog 52 := mk_body Try.func52 (by decide) rfl
-- 53: slices.Clone[[]treadle/api.Instr,treadle/api.Instr]
instance : Body Try.prog 53 := mk_body Try.func53 (by decide) rfl
-- 54: (*treadle/vm.Machine).step$1
instance : Body Try.prog 54 := mk_body Try.func54 (by decide) rfl
-- 55: (*treadle/vm.Machine).do
instance : Body Try.prog 55 := mk_body Try.func55 (by decide) rfl
-- 56: treadle/treadleref18.Value
instance : Body Try.prog 56 := mk_body Try.func56 (by decide) rfl
-- 57: treadle/treadleref20.values
instance : Body Try.prog 57 := mk_body Try.func57 (by decide) rfl
-- 58: treadle/treadleref20.stuck
instance : Body Try.prog 58 := mk_body Try.func58 (by decide) rfl
-- 59: treadle/treadleref20.ended
instance : Body Try.prog 59 := mk_body Try.func59 (by decide) rfl
-- 60: treadle/treadleref20.taken
instance : Body Try.prog 60 := mk_body Try.func60 (by decide) rfl
-- 61: treadle/treadleref20.with
instance : Body Try.prog 61 := mk_body Try.func61 (by decide) rfl
-- 62: treadle/treadleref20.left
instance : Body Try.prog 62 := mk_body Try.func62 (by decide) rfl
-- 63: treadle/treadleref20.made
instance : Body Try.prog 63 := mk_body Try.func63 (by decide) rfl
-- 64: treadle/vm.need
instance : Body Try.prog 64 := mk_body Try.func64 (by decide) rfl
-- 65: (*treadle/vm.Machine).lay
instance : Body Try.prog 65 := mk_body Try.func65 (by decide) rfl
-- 66: (*treadle/vm.Machine).take
instance : Body Try.prog 66 := mk_body Try.func66 (by decide) rfl
-- 67: (*treadle/vm.Machine).typed
instance : Body Try.prog 67 := mk_body Try.func67 (by decide) rfl
-- 68: (*treadle/vm.Machine).call
instance : Body Try.prog 68 := mk_body Try.func68 (by decide) rfl
-- 69: (*treadle/vm.Machine).plain
instance : Body Try.prog 69 := mk_body Try.func69 (by decide) rfl
-- 70: treadle/treadleref20.fits
instance : Body Try.prog 70 := mk_body Try.func70 (by decide) rfl
-- 71: treadle/treadleref18.Numbered
instance : Body Try.prog 71 := mk_body Try.func71 (by decide) rfl
-- 72: treadle/treadleref20.truth
instance : Body Try.prog 72 := mk_body Try.func72 (by decide) rfl
-- 73: treadle/treadleref20.less
instance : Body Try.prog 73 := mk_body Try.func73 (by decide) rfl
-- 74: treadle/treadleref20.number
instance : Body Try.prog 74 := mk_body Try.func74 (by decide) rfl
-- 75: treadle/treadleref20.quotient
instance : Body Try.prog 75 := mk_body Try.func75 (by decide) rfl
-- 76: treadle/treadleref20.rest
instance : Body Try.prog 76 := mk_body Try.func76 (by decide) rfl
-- 77: treadle/vm.stuck
instance : Body Try.prog 77 := mk_body Try.func77 (by decide) rfl
-- 78: (*treadle/vm.stack).high
instance : Body Try.prog 78 := mk_body Try.func78 (by decide) rfl
-- 79: (*treadle/vm.stack).push
instance : Body Try.prog 79 := mk_body Try.func79 (by decide) rfl
-- 80: (*treadle/vm.stack).pop
instance : Body Try.prog 80 := mk_body Try.func80 (by decide) rfl
-- 81: (*treadle/vm.Machine).leave
instance : Body Try.prog 81 := mk_body Try.func81 (by decide) rfl
-- 82: treadle/vm.truth
instance : Body Try.prog 82 := mk_body Try.func82 (by decide) rfl
-- 83: treadle/vm.number
instance : Body Try.prog 83 := mk_body Try.func83 (by decide) rfl
-- 84: (*treadle/vm.Machine).ordered
instance : Body Try.prog 84 := mk_body Try.func84 (by decide) rfl
-- 85: treadle/vm.reckon
instance : Body Try.prog 85 := mk_body Try.func85 (by decide) rfl
-- 86: cmp.Or[int]
instance : Body Try.prog 86 := mk_body Try.func86 (by decide) rfl
-- 87: cmp.Compare[int64]
instance : Body Try.prog 87 := mk_body Try.func87 (by decide) rfl
-- 88: cmp.Compare[string]
instance : Body Try.prog 88 := mk_body Try.func88 (by decide) rfl
-- 89: cmp.isNaN[int64]
instance : Body Try.prog 89 := mk_body Try.func89 (by decide) rfl
-- 90: cmp.isNaN[string]
instance : Body Try.prog 90 := mk_body Try.func90 (by decide) rfl
theorem mixed : Try.prog.follows .mixedOrders = true := by kernel_rfl
end Go.Proofs.Ytjgohbepageicaa.Gb
