/- What is used of the types and functions of the loaded program. -/
import Derived.Test.YtmgnagpgnoikfaaDoorBase17
import Derived.Test.YtmgnagpgnoikfaaDoorProg
import Derived.KernelRfl
set_option maxRecDepth 100000
namespace Go.Proofs.YtmgnagpgnoikfaaDoor
open Go Go.Ph

theorem ti1 : TI Go.Proofs.Tryd.prog 1 false 1 8 (.nilFunc) := ⟨by kernel_rfl, by kernel_rfl⟩
theorem ti2 : TI Go.Proofs.Tryd.prog 2 false 1 8 (.int .i64 0) := ⟨by kernel_rfl, by kernel_rfl⟩
theorem ti3 : TI Go.Proofs.Tryd.prog 3 false 1 8 (.int .i64 0) := ⟨by kernel_rfl, by kernel_rfl⟩
theorem ti4 : TI Go.Proofs.Tryd.prog 4 false 1 1 (.bool false) := ⟨by kernel_rfl, by kernel_rfl⟩
theorem ti5 : TI Go.Proofs.Tryd.prog 5 false 1 1 (.int .u8 0) := ⟨by kernel_rfl, by kernel_rfl⟩
theorem ti6 : TI Go.Proofs.Tryd.prog 6 false 1 1 (.int .u8 0) := ⟨by kernel_rfl, by kernel_rfl⟩
theorem ti7 : TI Go.Proofs.Tryd.prog 7 true 4 24 (.agg #[.int .i64 0, .int .i64 0, .bool false, .int .u8 0]) := ⟨by kernel_rfl, by kernel_rfl⟩
theorem bt7 : BT Go.Proofs.Tryd.prog 7 [(0, 1), (1, 1), (2, 1), (3, 1)] (.agg #[.int .i64 0, .int .i64 0, .bool false, .int .u8 0]) := fun vs => by kernel_rfl
theorem fd7_0 : Fld Go.Proofs.Tryd.prog 7 0 0 2 := ⟨_, _, Go.Proofs.Tryd.underlying7, rfl, rfl, rfl⟩
theorem fd7_1 : Fld Go.Proofs.Tryd.prog 7 1 1 3 := ⟨_, _, Go.Proofs.Tryd.underlying7, rfl, rfl, rfl⟩
theorem fd7_2 : Fld Go.Proofs.Tryd.prog 7 2 2 4 := ⟨_, _, Go.Proofs.Tryd.underlying7, rfl, rfl, rfl⟩
theorem fd7_3 : Fld Go.Proofs.Tryd.prog 7 3 3 6 := ⟨_, _, Go.Proofs.Tryd.underlying7, rfl, rfl, rfl⟩
theorem ti8 : TI Go.Proofs.Tryd.prog 8 true 4 24 (.agg #[.int .i64 0, .int .i64 0, .bool false, .int .u8 0]) := ⟨by kernel_rfl, by kernel_rfl⟩
theorem bt8 : BT Go.Proofs.Tryd.prog 8 [(0, 1), (1, 1), (2, 1), (3, 1)] (.agg #[.int .i64 0, .int .i64 0, .bool false, .int .u8 0]) := fun vs => by kernel_rfl
theorem fd8_0 : Fld Go.Proofs.Tryd.prog 8 0 0 2 := ⟨_, _, Go.Proofs.Tryd.underlying8, rfl, rfl, rfl⟩
theorem fd8_1 : Fld Go.Proofs.Tryd.prog 8 1 1 3 := ⟨_, _, Go.Proofs.Tryd.underlying8, rfl, rfl, rfl⟩
theorem fd8_2 : Fld Go.Proofs.Tryd.prog 8 2 2 4 := ⟨_, _, Go.Proofs.Tryd.underlying8, rfl, rfl, rfl⟩
theorem fd8_3 : Fld Go.Proofs.Tryd.prog 8 3 3 6 := ⟨_, _, Go.Proofs.Tryd.underlying8, rfl, rfl, rfl⟩
theorem ti9 : TI Go.Proofs.Tryd.prog 9 false 1 16 (.string ByteArray.empty) := ⟨by kernel_rfl, by kernel_rfl⟩
theorem ti10 : TI Go.Proofs.Tryd.prog 10 false 1 16 (.string ByteArray.empty) := ⟨by kernel_rfl, by kernel_rfl⟩
theorem ti11 : TI Go.Proofs.Tryd.prog 11 false 1 16 (.string ByteArray.empty) := ⟨by kernel_rfl, by kernel_rfl⟩
theorem ti12 : TI Go.Proofs.Tryd.prog 12 false 1 8 (.int .u64 0) := ⟨by kernel_rfl, by kernel_rfl⟩
theorem ti13 : TI Go.Proofs.Tryd.prog 13 true 2 24 (.agg #[.string ByteArray.empty, .int .u64 0]) := ⟨by kernel_rfl, by kernel_rfl⟩
theorem bt13 : BT Go.Proofs.Tryd.prog 13 [(0, 1), (1, 1)] (.agg #[.string ByteArray.empty, .int .u64 0]) := fun vs => by kernel_rfl
theorem fd13_0 : Fld Go.Proofs.Tryd.prog 13 0 0 9 := ⟨_, _, Go.Proofs.Tryd.underlying13, rfl, rfl, rfl⟩
theorem fd13_1 : Fld Go.Proofs.Tryd.prog 13 1 1 12 := ⟨_, _, Go.Proofs.Tryd.underlying13, rfl, rfl, rfl⟩
theorem ti14 : TI Go.Proofs.Tryd.prog 14 true 2 24 (.agg #[.string ByteArray.empty, .int .u64 0]) := ⟨by kernel_rfl, by kernel_rfl⟩
theorem bt14 : BT Go.Proofs.Tryd.prog 14 [(0, 1), (1, 1)] (.agg #[.string ByteArray.empty, .int .u64 0]) := fun vs => by kernel_rfl
theorem fd14_0 : Fld Go.Proofs.Tryd.prog 14 0 0 9 := ⟨_, _, Go.Proofs.Tryd.underlying14, rfl, rfl, rfl⟩
theorem fd14_1 : Fld Go.Proofs.Tryd.prog 14 1 1 12 := ⟨_, _, Go.Proofs.Tryd.underlying14, rfl, rfl, rfl⟩
theorem ti15 : TI Go.Proofs.Tryd.prog 15 false 1 8 (.pointer none) := ⟨by kernel_rfl, by kernel_rfl⟩
theorem ti16 : TI Go.Proofs.Tryd.prog 16 false 1 8 (.pointer none) := ⟨by kernel_rfl, by kernel_rfl⟩
theorem ti17 : TI Go.Proofs.Tryd.prog 17 false 1 8 (.pointer none) := ⟨by kernel_rfl, by kernel_rfl⟩
theorem ti18 : TI Go.Proofs.Tryd.prog 18 true 1 8 (.agg #[.pointer none]) := ⟨by kernel_rfl, by kernel_rfl⟩
theorem bt18 : BT Go.Proofs.Tryd.prog 18 [(0, 1)] (.agg #[.pointer none]) := fun vs => by kernel_rfl
theorem fd18_0 : Fld Go.Proofs.Tryd.prog 18 0 0 17 := ⟨_, _, Go.Proofs.Tryd.underlying18, rfl, rfl, rfl⟩
theorem ti19 : TI Go.Proofs.Tryd.prog 19 true 1 8 (.agg #[.pointer none]) := ⟨by kernel_rfl, by kernel_rfl⟩
theorem bt19 : BT Go.Proofs.Tryd.prog 19 [(0, 1)] (.agg #[.pointer none]) := fun vs => by kernel_rfl
theorem fd19_0 : Fld Go.Proofs.Tryd.prog 19 0 0 17 := ⟨_, _, Go.Proofs.Tryd.underlying19, rfl, rfl, rfl⟩
theorem ti21 : TI Go.Proofs.Tryd.prog 21 false 1 4 (.int .i32 0) := ⟨by kernel_rfl, by kernel_rfl⟩
theorem ti22 : TI Go.Proofs.Tryd.prog 22 false 1 24 (.slice none 0 0) := ⟨by kernel_rfl, by kernel_rfl⟩
theorem ti23 : TI Go.Proofs.Tryd.prog 23 false 1 24 (.slice none 0 0) := ⟨by kernel_rfl, by kernel_rfl⟩
theorem ti24 : TI Go.Proofs.Tryd.prog 24 false 1 24 (.slice none 0 0) := ⟨by kernel_rfl, by kernel_rfl⟩
theorem ti25 : TI Go.Proofs.Tryd.prog 25 false 1 24 (.slice none 0 0) := ⟨by kernel_rfl, by kernel_rfl⟩
theorem ti26 : TI Go.Proofs.Tryd.prog 26 false 1 24 (.slice none 0 0) := ⟨by kernel_rfl, by kernel_rfl⟩
theorem ti27 : TI Go.Proofs.Tryd.prog 27 false 1 24 (.slice none 0 0) := ⟨by kernel_rfl, by kernel_rfl⟩
theorem ti28 : TI Go.Proofs.Tryd.prog 28 true 1 24 (.agg #[.slice none 0 0]) := ⟨by kernel_rfl, by kernel_rfl⟩
theorem bt28 : BT Go.Proofs.Tryd.prog 28 [(0, 1)] (.agg #[.slice none 0 0]) := fun vs => by kernel_rfl
theorem fd28_0 : Fld Go.Proofs.Tryd.prog 28 0 0 27 := ⟨_, _, Go.Proofs.Tryd.underlying28, rfl, rfl, rfl⟩
theorem ti29 : TI Go.Proofs.Tryd.prog 29 true 1 24 (.agg #[.slice none 0 0]) := ⟨by kernel_rfl, by kernel_rfl⟩
theorem bt29 : BT Go.Proofs.Tryd.prog 29 [(0, 1)] (.agg #[.slice none 0 0]) := fun vs => by kernel_rfl
theorem fd29_0 : Fld Go.Proofs.Tryd.prog 29 0 0 27 := ⟨_, _, Go.Proofs.Tryd.underlying29, rfl, rfl, rfl⟩
theorem ti30 : TI Go.Proofs.Tryd.prog 30 true 15 200 (.agg #[.int .i64 0, .int .i64 0, .int .i64 0, .int .i64 0, .int .i64 0, .bool false, .slice none 0 0, .slice none 0 0, .slice none 0 0, .slice none 0 0, .int .i64 0, .int .i64 0, .slice none 0 0, .int .i64 0, .int .i64 0]) := ⟨by kernel_rfl, by kernel_rfl⟩
theorem bt30 : BT Go.Proofs.Tryd.prog 30 [(0, 1), (1, 1), (2, 1), (3, 1), (4, 1), (5, 1), (6, 1), (7, 1), (8, 1), (9, 1), (10, 1), (11, 1), (12, 1), (13, 1), (14, 1)] (.agg #[.int .i64 0, .int .i64 0, .int .i64 0, .int .i64 0, .int .i64 0, .bool false, .slice none 0 0, .slice none 0 0, .slice none 0 0, .slice none 0 0, .int .i64 0, .int .i64 0, .slice none 0 0, .int .i64 0, .int .i64 0]) := fun vs => by kernel_rfl
theorem fd30_0 : Fld Go.Proofs.Tryd.prog 30 0 0 3 := ⟨_, _, Go.Proofs.Tryd.underlying30, rfl, rfl, rfl⟩
theorem fd30_1 : Fld Go.Proofs.Tryd.prog 30 1 1 3 := ⟨_, _, Go.Proofs.Tryd.underlying30, rfl, rfl, rfl⟩
theorem fd30_2 : Fld Go.Proofs.Tryd.prog 30 2 2 3 := ⟨_, _, Go.Proofs.Tryd.underlying30, rfl, rfl, rfl⟩
theorem fd30_3 : Fld Go.Proofs.Tryd.prog 30 3 3 3 := ⟨_, _, Go.Proofs.Tryd.underlying30, rfl, rfl, rfl⟩
theorem fd30_4 : Fld Go.Proofs.Tryd.prog 30 4 4 3 := ⟨_, _, Go.Proofs.Tryd.underlying30, rfl, rfl, rfl⟩
theorem fd30_5 : Fld Go.Proofs.Tryd.prog 30 5 5 4 := ⟨_, _, Go.Proofs.Tryd.underlying30, rfl, rfl, rfl⟩
theorem fd30_6 : Fld Go.Proofs.Tryd.prog 30 6 6 23 := ⟨_, _, Go.Proofs.Tryd.underlying30, rfl, rfl, rfl⟩
theorem fd30_7 : Fld Go.Proofs.Tryd.prog 30 7 7 24 := ⟨_, _, Go.Proofs.Tryd.underlying30, rfl, rfl, rfl⟩
theorem fd30_8 : Fld Go.Proofs.Tryd.prog 30 8 8 25 := ⟨_, _, Go.Proofs.Tryd.underlying30, rfl, rfl, rfl⟩
theorem fd30_9 : Fld Go.Proofs.Tryd.prog 30 9 9 26 := ⟨_, _, Go.Proofs.Tryd.underlying30, rfl, rfl, rfl⟩
theorem fd30_10 : Fld Go.Proofs.Tryd.prog 30 10 10 3 := ⟨_, _, Go.Proofs.Tryd.underlying30, rfl, rfl, rfl⟩
theorem fd30_11 : Fld Go.Proofs.Tryd.prog 30 11 11 3 := ⟨_, _, Go.Proofs.Tryd.underlying30, rfl, rfl, rfl⟩
theorem fd30_12 : Fld Go.Proofs.Tryd.prog 30 12 12 29 := ⟨_, _, Go.Proofs.Tryd.underlying30, rfl, rfl, rfl⟩
theorem fd30_13 : Fld Go.Proofs.Tryd.prog 30 13 13 3 := ⟨_, _, Go.Proofs.Tryd.underlying30, rfl, rfl, rfl⟩
theorem fd30_14 : Fld Go.Proofs.Tryd.prog 30 14 14 3 := ⟨_, _, Go.Proofs.Tryd.underlying30, rfl, rfl, rfl⟩
theorem ti31 : TI Go.Proofs.Tryd.prog 31 true 15 200 (.agg #[.int .i64 0, .int .i64 0, .int .i64 0, .int .i64 0, .int .i64 0, .bool false, .slice none 0 0, .slice none 0 0, .slice none 0 0, .slice none 0 0, .int .i64 0, .int .i64 0, .slice none 0 0, .int .i64 0, .int .i64 0]) := ⟨by kernel_rfl, by kernel_rfl⟩
theorem bt31 : BT Go.Proofs.Tryd.prog 31 [(0, 1), (1, 1), (2, 1), (3, 1), (4, 1), (5, 1), (6, 1), (7, 1), (8, 1), (9, 1), (10, 1), (11, 1), (12, 1), (13, 1), (14, 1)] (.agg #[.int .i64 0, .int .i64 0, .int .i64 0, .int .i64 0, .int .i64 0, .bool false, .slice none 0 0, .slice none 0 0, .slice none 0 0, .slice none 0 0, .int .i64 0, .int .i64 0, .slice none 0 0, .int .i64 0, .int .i64 0]) := fun vs => by kernel_rfl
theorem fd31_0 : Fld Go.Proofs.Tryd.prog 31 0 0 3 := ⟨_, _, Go.Proofs.Tryd.underlying31, rfl, rfl, rfl⟩
theorem fd31_1 : Fld Go.Proofs.Tryd.prog 31 1 1 3 := ⟨_, _, Go.Proofs.Tryd.underlying31, rfl, rfl, rfl⟩
theorem fd31_2 : Fld Go.Proofs.Tryd.prog 31 2 2 3 := ⟨_, _, Go.Proofs.Tryd.underlying31, rfl, rfl, rfl⟩
theorem fd31_3 : Fld Go.Proofs.Tryd.prog 31 3 3 3 := ⟨_, _, Go.Proofs.Tryd.underlying31, rfl, rfl, rfl⟩
theorem fd31_4 : Fld Go.Proofs.Tryd.prog 31 4 4 3 := ⟨_, _, Go.Proofs.Tryd.underlying31, rfl, rfl, rfl⟩
theorem fd31_5 : Fld Go.Proofs.Tryd.prog 31 5 5 4 := ⟨_, _, Go.Proofs.Tryd.underlying31, rfl, rfl, rfl⟩
theorem fd31_6 : Fld Go.Proofs.Tryd.prog 31 6 6 23 := ⟨_, _, Go.Proofs.Tryd.underlying31, rfl, rfl, rfl⟩
theorem fd31_7 : Fld Go.Proofs.Tryd.prog 31 7 7 24 := ⟨_, _, Go.Proofs.Tryd.underlying31, rfl, rfl, rfl⟩
theorem fd31_8 : Fld Go.Proofs.Tryd.prog 31 8 8 25 := ⟨_, _, Go.Proofs.Tryd.underlying31, rfl, rfl, rfl⟩
theorem fd31_9 : Fld Go.Proofs.Tryd.prog 31 9 9 26 := ⟨_, _, Go.Proofs.Tryd.underlying31, rfl, rfl, rfl⟩
theorem fd31_10 : Fld Go.Proofs.Tryd.prog 31 10 10 3 := ⟨_, _, Go.Proofs.Tryd.underlying31, rfl, rfl, rfl⟩
theorem fd31_11 : Fld Go.Proofs.Tryd.prog 31 11 11 3 := ⟨_, _, Go.Proofs.Tryd.underlying31, rfl, rfl, rfl⟩
theorem fd31_12 : Fld Go.Proofs.Tryd.prog 31 12 12 29 := ⟨_, _, Go.Proofs.Tryd.underlying31, rfl, rfl, rfl⟩
theorem fd31_13 : Fld Go.Proofs.Tryd.prog 31 13 13 3 := ⟨_, _, Go.Proofs.Tryd.underlying31, rfl, rfl, rfl⟩
theorem fd31_14 : Fld Go.Proofs.Tryd.prog 31 14 14 3 := ⟨_, _, Go.Proofs.Tryd.underlying31, rfl, rfl, rfl⟩
theorem ti32 : TI Go.Proofs.Tryd.prog 32 false 1 8 (.nilFunc) := ⟨by kernel_rfl, by kernel_rfl⟩
theorem ti33 : TI Go.Proofs.Tryd.prog 33 false 1 8 (.nilFunc) := ⟨by kernel_rfl, by kernel_rfl⟩
theorem ti34 : TI Go.Proofs.Tryd.prog 34 false 1 8 (.nilFunc) := ⟨by kernel_rfl, by kernel_rfl⟩
theorem ti35 : TI Go.Proofs.Tryd.prog 35 false 1 8 (.nilFunc) := ⟨by kernel_rfl, by kernel_rfl⟩
theorem ti36 : TI Go.Proofs.Tryd.prog 36 false 1 8 (.int .i64 0) := ⟨by kernel_rfl, by kernel_rfl⟩
theorem ti38 : TI Go.Proofs.Tryd.prog 38 false 1 8 (.nilFunc) := ⟨by kernel_rfl, by kernel_rfl⟩
theorem ti39 : TI Go.Proofs.Tryd.prog 39 false 1 8 (.nilFunc) := ⟨by kernel_rfl, by kernel_rfl⟩
theorem ti40 : TI Go.Proofs.Tryd.prog 40 false 1 8 (.nilFunc) := ⟨by kernel_rfl, by kernel_rfl⟩
theorem ti42 : TI Go.Proofs.Tryd.prog 42 false 1 8 (.nilFunc) := ⟨by kernel_rfl, by kernel_rfl⟩
theorem ti43 : TI Go.Proofs.Tryd.prog 43 false 1 8 (.nilFunc) := ⟨by kernel_rfl, by kernel_rfl⟩
theorem ti44 : TI Go.Proofs.Tryd.prog 44 false 1 8 (.nilFunc) := ⟨by kernel_rfl, by kernel_rfl⟩
theorem ti45 : TI Go.Proofs.Tryd.prog 45 false 1 8 (.nilFunc) := ⟨by kernel_rfl, by kernel_rfl⟩
theorem ti46 : TI Go.Proofs.Tryd.prog 46 false 1 24 (.slice none 0 0) := ⟨by kernel_rfl, by kernel_rfl⟩
theorem ti47 : TI Go.Proofs.Tryd.prog 47 true 2 32 (.agg #[.int .i64 0, .slice none 0 0]) := ⟨by kernel_rfl, by kernel_rfl⟩
theorem bt47 : BT Go.Proofs.Tryd.prog 47 [(0, 1), (1, 1)] (.agg #[.int .i64 0, .slice none 0 0]) := fun vs => by kernel_rfl
theorem fd47_0 : Fld Go.Proofs.Tryd.prog 47 0 0 3 := ⟨_, _, Go.Proofs.Tryd.underlying47, rfl, rfl, rfl⟩
theorem fd47_1 : Fld Go.Proofs.Tryd.prog 47 1 1 46 := ⟨_, _, Go.Proofs.Tryd.underlying47, rfl, rfl, rfl⟩
theorem ti48 : TI Go.Proofs.Tryd.prog 48 true 2 32 (.agg #[.int .i64 0, .slice none 0 0]) := ⟨by kernel_rfl, by kernel_rfl⟩
theorem bt48 : BT Go.Proofs.Tryd.prog 48 [(0, 1), (1, 1)] (.agg #[.int .i64 0, .slice none 0 0]) := fun vs => by kernel_rfl
theorem fd48_0 : Fld Go.Proofs.Tryd.prog 48 0 0 3 := ⟨_, _, Go.Proofs.Tryd.underlying48, rfl, rfl, rfl⟩
theorem fd48_1 : Fld Go.Proofs.Tryd.prog 48 1 1 46 := ⟨_, _, Go.Proofs.Tryd.underlying48, rfl, rfl, rfl⟩
theorem ti49 : TI Go.Proofs.Tryd.prog 49 false 1 8 (.nilFunc) := ⟨by kernel_rfl, by kernel_rfl⟩
theorem ti51 : TI Go.Proofs.Tryd.prog 51 false 1 8 (.nilFunc) := ⟨by kernel_rfl, by kernel_rfl⟩
theorem ti52 : TI Go.Proofs.Tryd.prog 52 false 1 8 (.nilFunc) := ⟨by kernel_rfl, by kernel_rfl⟩
theorem ti53 : TI Go.Proofs.Tryd.prog 53 false 1 8 (.nilFunc) := ⟨by kernel_rfl, by kernel_rfl⟩
theorem ti54 : TI Go.Proofs.Tryd.prog 54 false 1 8 (.nilFunc) := ⟨by kernel_rfl, by kernel_rfl⟩
theorem ti55 : TI Go.Proofs.Tryd.prog 55 false 1 8 (.nilFunc) := ⟨by kernel_rfl, by kernel_rfl⟩
theorem ti56 : TI Go.Proofs.Tryd.prog 56 false 1 8 (.nilFunc) := ⟨by kernel_rfl, by kernel_rfl⟩
theorem ti57 : TI Go.Proofs.Tryd.prog 57 false 1 8 (.nilFunc) := ⟨by kernel_rfl, by kernel_rfl⟩
theorem ti59 : TI Go.Proofs.Tryd.prog 59 false 1 8 (.nilFunc) := ⟨by kernel_rfl, by kernel_rfl⟩
theorem ti60 : TI Go.Proofs.Tryd.prog 60 false 1 8 (.nilFunc) := ⟨by kernel_rfl, by kernel_rfl⟩
theorem ti61 : TI Go.Proofs.Tryd.prog 61 false 1 8 (.nilFunc) := ⟨by kernel_rfl, by kernel_rfl⟩
theorem ti62 : TI Go.Proofs.Tryd.prog 62 false 1 8 (.nilFunc) := ⟨by kernel_rfl, by kernel_rfl⟩
theorem ti63 : TI Go.Proofs.Tryd.prog 63 false 1 8 (.nilFunc) := ⟨by kernel_rfl, by kernel_rfl⟩
theorem ti64 : TI Go.Proofs.Tryd.prog 64 false 1 8 (.nilFunc) := ⟨by kernel_rfl, by kernel_rfl⟩
theorem ti65 : TI Go.Proofs.Tryd.prog 65 false 1 8 (.nilFunc) := ⟨by kernel_rfl, by kernel_rfl⟩
theorem ti66 : TI Go.Proofs.Tryd.prog 66 false 1 8 (.nilFunc) := ⟨by kernel_rfl, by kernel_rfl⟩
theorem ti67 : TI Go.Proofs.Tryd.prog 67 false 1 8 (.nilFunc) := ⟨by kernel_rfl, by kernel_rfl⟩
theorem ti68 : TI Go.Proofs.Tryd.prog 68 false 1 8 (.nilFunc) := ⟨by kernel_rfl, by kernel_rfl⟩
theorem ti69 : TI Go.Proofs.Tryd.prog 69 false 1 8 (.nilFunc) := ⟨by kernel_rfl, by kernel_rfl⟩
theorem ti70 : TI Go.Proofs.Tryd.prog 70 false 1 8 (.nilFunc) := ⟨by kernel_rfl, by kernel_rfl⟩
theorem ti71 : TI Go.Proofs.Tryd.prog 71 true 4 48 (.agg #[.int .i64 0, .int .i64 0, .int .i64 0, .slice none 0 0]) := ⟨by kernel_rfl, by kernel_rfl⟩
theorem bt71 : BT Go.Proofs.Tryd.prog 71 [(0, 1), (1, 1), (2, 1), (3, 1)] (.agg #[.int .i64 0, .int .i64 0, .int .i64 0, .slice none 0 0]) := fun vs => by kernel_rfl
theorem fd71_0 : Fld Go.Proofs.Tryd.prog 71 0 0 3 := ⟨_, _, Go.Proofs.Tryd.underlying71, rfl, rfl, rfl⟩
theorem fd71_1 : Fld Go.Proofs.Tryd.prog 71 1 1 3 := ⟨_, _, Go.Proofs.Tryd.underlying71, rfl, rfl, rfl⟩
theorem fd71_2 : Fld Go.Proofs.Tryd.prog 71 2 2 3 := ⟨_, _, Go.Proofs.Tryd.underlying71, rfl, rfl, rfl⟩
theorem fd71_3 : Fld Go.Proofs.Tryd.prog 71 3 3 24 := ⟨_, _, Go.Proofs.Tryd.underlying71, rfl, rfl, rfl⟩
theorem ti72 : TI Go.Proofs.Tryd.prog 72 true 4 48 (.agg #[.int .i64 0, .int .i64 0, .int .i64 0, .slice none 0 0]) := ⟨by kernel_rfl, by kernel_rfl⟩
theorem bt72 : BT Go.Proofs.Tryd.prog 72 [(0, 1), (1, 1), (2, 1), (3, 1)] (.agg #[.int .i64 0, .int .i64 0, .int .i64 0, .slice none 0 0]) := fun vs => by kernel_rfl
theorem fd72_0 : Fld Go.Proofs.Tryd.prog 72 0 0 3 := ⟨_, _, Go.Proofs.Tryd.underlying72, rfl, rfl, rfl⟩
theorem fd72_1 : Fld Go.Proofs.Tryd.prog 72 1 1 3 := ⟨_, _, Go.Proofs.Tryd.underlying72, rfl, rfl, rfl⟩
theorem fd72_2 : Fld Go.Proofs.Tryd.prog 72 2 2 3 := ⟨_, _, Go.Proofs.Tryd.underlying72, rfl, rfl, rfl⟩
theorem fd72_3 : Fld Go.Proofs.Tryd.prog 72 3 3 24 := ⟨_, _, Go.Proofs.Tryd.underlying72, rfl, rfl, rfl⟩
theorem ti73 : TI Go.Proofs.Tryd.prog 73 false 1 8 (.nilFunc) := ⟨by kernel_rfl, by kernel_rfl⟩
theorem ti74 : TI Go.Proofs.Tryd.prog 74 false 1 8 (.nilFunc) := ⟨by kernel_rfl, by kernel_rfl⟩
theorem ti75 : TI Go.Proofs.Tryd.prog 75 false 1 8 (.nilFunc) := ⟨by kernel_rfl, by kernel_rfl⟩
theorem ti76 : TI Go.Proofs.Tryd.prog 76 false 1 8 (.nilFunc) := ⟨by kernel_rfl, by kernel_rfl⟩
theorem ti77 : TI Go.Proofs.Tryd.prog 77 true 3 24 (.agg #[.int .i64 0, .int .i64 0, .int .i64 0]) := ⟨by kernel_rfl, by kernel_rfl⟩
theorem bt77 : BT Go.Proofs.Tryd.prog 77 [(0, 1), (1, 1), (2, 1)] (.agg #[.int .i64 0, .int .i64 0, .int .i64 0]) := fun vs => by kernel_rfl
theorem ei77 : EqI Go.Proofs.Tryd.prog 77 3 := ⟨_, Go.Proofs.Tryd.underlying77, by kernel_rfl, by kernel_rfl, rfl, fun j f hj => by
  match j with
  | 0 => cases hj; exact ⟨by decide, Go.Proofs.Tryd.underlying3, by kernel_rfl, rfl⟩
  | 1 => cases hj; exact ⟨by decide, Go.Proofs.Tryd.underlying3, by kernel_rfl, rfl⟩
  | 2 => cases hj; exact ⟨by decide, Go.Proofs.Tryd.underlying3, by kernel_rfl, rfl⟩
  | _ + 3 => simp at hj⟩
theorem fd77_0 : Fld Go.Proofs.Tryd.prog 77 0 0 3 := ⟨_, _, Go.Proofs.Tryd.underlying77, rfl, rfl, rfl⟩
theorem fd77_1 : Fld Go.Proofs.Tryd.prog 77 1 1 3 := ⟨_, _, Go.Proofs.Tryd.underlying77, rfl, rfl, rfl⟩
theorem fd77_2 : Fld Go.Proofs.Tryd.prog 77 2 2 3 := ⟨_, _, Go.Proofs.Tryd.underlying77, rfl, rfl, rfl⟩
theorem ti78 : TI Go.Proofs.Tryd.prog 78 true 3 24 (.agg #[.int .i64 0, .int .i64 0, .int .i64 0]) := ⟨by kernel_rfl, by kernel_rfl⟩
theorem bt78 : BT Go.Proofs.Tryd.prog 78 [(0, 1), (1, 1), (2, 1)] (.agg #[.int .i64 0, .int .i64 0, .int .i64 0]) := fun vs => by kernel_rfl
theorem ei78 : EqI Go.Proofs.Tryd.prog 78 3 := ⟨_, Go.Proofs.Tryd.underlying78, by kernel_rfl, by kernel_rfl, rfl, fun j f hj => by
  match j with
  | 0 => cases hj; exact ⟨by decide, Go.Proofs.Tryd.underlying3, by kernel_rfl, rfl⟩
  | 1 => cases hj; exact ⟨by decide, Go.Proofs.Tryd.underlying3, by kernel_rfl, rfl⟩
  | 2 => cases hj; exact ⟨by decide, Go.Proofs.Tryd.underlying3, by kernel_rfl, rfl⟩
  | _ + 3 => simp at hj⟩
theorem fd78_0 : Fld Go.Proofs.Tryd.prog 78 0 0 3 := ⟨_, _, Go.Proofs.Tryd.underlying78, rfl, rfl, rfl⟩
theorem fd78_1 : Fld Go.Proofs.Tryd.prog 78 1 1 3 := ⟨_, _, Go.Proofs.Tryd.underlying78, rfl, rfl, rfl⟩
theorem fd78_2 : Fld Go.Proofs.Tryd.prog 78 2 2 3 := ⟨_, _, Go.Proofs.Tryd.underlying78, rfl, rfl, rfl⟩
theorem ti79 : TI Go.Proofs.Tryd.prog 79 false 1 8 (.nilFunc) := ⟨by kernel_rfl, by kernel_rfl⟩
theorem ti80 : TI Go.Proofs.Tryd.prog 80 true 3 24 (.agg #[.int .i64 0, .int .i64 0, .int .i64 0]) := ⟨by kernel_rfl, by kernel_rfl⟩
theorem bt80 : BT Go.Proofs.Tryd.prog 80 [(0, 1), (1, 1), (2, 1)] (.agg #[.int .i64 0, .int .i64 0, .int .i64 0]) := fun vs => by kernel_rfl
theorem ei80 : EqI Go.Proofs.Tryd.prog 80 3 := ⟨_, Go.Proofs.Tryd.underlying80, by kernel_rfl, by kernel_rfl, rfl, fun j f hj => by
  match j with
  | 0 => cases hj; exact ⟨by decide, Go.Proofs.Tryd.underlying3, by kernel_rfl, rfl⟩
  | 1 => cases hj; exact ⟨by decide, Go.Proofs.Tryd.underlying3, by kernel_rfl, rfl⟩
  | 2 => cases hj; exact ⟨by decide, Go.Proofs.Tryd.underlying3, by kernel_rfl, rfl⟩
  | _ + 3 => simp at hj⟩
theorem fd80_0 : Fld Go.Proofs.Tryd.prog 80 0 0 3 := ⟨_, _, Go.Proofs.Tryd.underlying80, rfl, rfl, rfl⟩
theorem fd80_1 : Fld Go.Proofs.Tryd.prog 80 1 1 3 := ⟨_, _, Go.Proofs.Tryd.underlying80, rfl, rfl, rfl⟩
theorem fd80_2 : Fld Go.Proofs.Tryd.prog 80 2 2 3 := ⟨_, _, Go.Proofs.Tryd.underlying80, rfl, rfl, rfl⟩
theorem ti81 : TI Go.Proofs.Tryd.prog 81 true 3 24 (.agg #[.int .i64 0, .int .i64 0, .int .i64 0]) := ⟨by kernel_rfl, by kernel_rfl⟩
theorem bt81 : BT Go.Proofs.Tryd.prog 81 [(0, 1), (1, 1), (2, 1)] (.agg #[.int .i64 0, .int .i64 0, .int .i64 0]) := fun vs => by kernel_rfl
theorem ei81 : EqI Go.Proofs.Tryd.prog 81 3 := ⟨_, Go.Proofs.Tryd.underlying81, by kernel_rfl, by kernel_rfl, rfl, fun j f hj => by
  match j with
  | 0 => cases hj; exact ⟨by decide, Go.Proofs.Tryd.underlying3, by kernel_rfl, rfl⟩
  | 1 => cases hj; exact ⟨by decide, Go.Proofs.Tryd.underlying3, by kernel_rfl, rfl⟩
  | 2 => cases hj; exact ⟨by decide, Go.Proofs.Tryd.underlying3, by kernel_rfl, rfl⟩
  | _ + 3 => simp at hj⟩
theorem fd81_0 : Fld Go.Proofs.Tryd.prog 81 0 0 3 := ⟨_, _, Go.Proofs.Tryd.underlying81, rfl, rfl, rfl⟩
theorem fd81_1 : Fld Go.Proofs.Tryd.prog 81 1 1 3 := ⟨_, _, Go.Proofs.Tryd.underlying81, rfl, rfl, rfl⟩
theorem fd81_2 : Fld Go.Proofs.Tryd.prog 81 2 2 3 := ⟨_, _, Go.Proofs.Tryd.underlying81, rfl, rfl, rfl⟩
theorem ti82 : TI Go.Proofs.Tryd.prog 82 false 1 8 (.nilFunc) := ⟨by kernel_rfl, by kernel_rfl⟩
theorem ti83 : TI Go.Proofs.Tryd.prog 83 true 2 16 (.agg #[.int .i64 0, .int .i64 0]) := ⟨by kernel_rfl, by kernel_rfl⟩
theorem bt83 : BT Go.Proofs.Tryd.prog 83 [(0, 1), (1, 1)] (.agg #[.int .i64 0, .int .i64 0]) := fun vs => by kernel_rfl
theorem ei83 : EqI Go.Proofs.Tryd.prog 83 2 := ⟨_, Go.Proofs.Tryd.underlying83, by kernel_rfl, by kernel_rfl, rfl, fun j f hj => by
  match j with
  | 0 => cases hj; exact ⟨by decide, Go.Proofs.Tryd.underlying3, by kernel_rfl, rfl⟩
  | 1 => cases hj; exact ⟨by decide, Go.Proofs.Tryd.underlying3, by kernel_rfl, rfl⟩
  | _ + 2 => simp at hj⟩
theorem fd83_0 : Fld Go.Proofs.Tryd.prog 83 0 0 3 := ⟨_, _, Go.Proofs.Tryd.underlying83, rfl, rfl, rfl⟩
theorem fd83_1 : Fld Go.Proofs.Tryd.prog 83 1 1 3 := ⟨_, _, Go.Proofs.Tryd.underlying83, rfl, rfl, rfl⟩
theorem ti84 : TI Go.Proofs.Tryd.prog 84 true 2 16 (.agg #[.int .i64 0, .int .i64 0]) := ⟨by kernel_rfl, by kernel_rfl⟩
theorem bt84 : BT Go.Proofs.Tryd.prog 84 [(0, 1), (1, 1)] (.agg #[.int .i64 0, .int .i64 0]) := fun vs => by kernel_rfl
theorem ei84 : EqI Go.Proofs.Tryd.prog 84 2 := ⟨_, Go.Proofs.Tryd.underlying84, by kernel_rfl, by kernel_rfl, rfl, fun j f hj => by
  match j with
  | 0 => cases hj; exact ⟨by decide, Go.Proofs.Tryd.underlying3, by kernel_rfl, rfl⟩
  | 1 => cases hj; exact ⟨by decide, Go.Proofs.Tryd.underlying3, by kernel_rfl, rfl⟩
  | _ + 2 => simp at hj⟩
theorem fd84_0 : Fld Go.Proofs.Tryd.prog 84 0 0 3 := ⟨_, _, Go.Proofs.Tryd.underlying84, rfl, rfl, rfl⟩
theorem fd84_1 : Fld Go.Proofs.Tryd.prog 84 1 1 3 := ⟨_, _, Go.Proofs.Tryd.underlying84, rfl, rfl, rfl⟩
theorem ti85 : TI Go.Proofs.Tryd.prog 85 false 1 8 (.nilFunc) := ⟨by kernel_rfl, by kernel_rfl⟩
theorem ti86 : TI Go.Proofs.Tryd.prog 86 false 1 8 (.pointer none) := ⟨by kernel_rfl, by kernel_rfl⟩
theorem ti87 : TI Go.Proofs.Tryd.prog 87 false 1 8 (.nilFunc) := ⟨by kernel_rfl, by kernel_rfl⟩
theorem ti88 : TI Go.Proofs.Tryd.prog 88 false 1 8 (.nilFunc) := ⟨by kernel_rfl, by kernel_rfl⟩
theorem ti89 : TI Go.Proofs.Tryd.prog 89 false 1 8 (.nilFunc) := ⟨by kernel_rfl, by kernel_rfl⟩
theorem ti90 : TI Go.Proofs.Tryd.prog 90 false 1 8 (.nilFunc) := ⟨by kernel_rfl, by kernel_rfl⟩
theorem ti91 : TI Go.Proofs.Tryd.prog 91 false 1 8 (.nilFunc) := ⟨by kernel_rfl, by kernel_rfl⟩
theorem ti92 : TI Go.Proofs.Tryd.prog 92 false 1 8 (.int .u64 0) := ⟨by kernel_rfl, by kernel_rfl⟩
theorem ti93 : TI Go.Proofs.Tryd.prog 93 false 1 8 (.map none) := ⟨by kernel_rfl, by kernel_rfl⟩
theorem ti94 : TI Go.Proofs.Tryd.prog 94 false 1 8 (.nilFunc) := ⟨by kernel_rfl, by kernel_rfl⟩
theorem ti95 : TI Go.Proofs.Tryd.prog 95 false 1 8 (.nilFunc) := ⟨by kernel_rfl, by kernel_rfl⟩
theorem ti96 : TI Go.Proofs.Tryd.prog 96 false 1 8 (.nilFunc) := ⟨by kernel_rfl, by kernel_rfl⟩
theorem ti97 : TI Go.Proofs.Tryd.prog 97 false 1 8 (.nilFunc) := ⟨by kernel_rfl, by kernel_rfl⟩
theorem ti98 : TI Go.Proofs.Tryd.prog 98 false 1 8 (.int .i64 0) := ⟨by kernel_rfl, by kernel_rfl⟩
theorem ti100 : TI Go.Proofs.Tryd.prog 100 false 1 8 (.nilFunc) := ⟨by kernel_rfl, by kernel_rfl⟩
theorem ti101 : TI Go.Proofs.Tryd.prog 101 false 1 8 (.nilFunc) := ⟨by kernel_rfl, by kernel_rfl⟩
theorem ti102 : TI Go.Proofs.Tryd.prog 102 false 1 8 (.nilFunc) := ⟨by kernel_rfl, by kernel_rfl⟩
theorem ti103 : TI Go.Proofs.Tryd.prog 103 false 1 8 (.nilFunc) := ⟨by kernel_rfl, by kernel_rfl⟩
theorem ti104 : TI Go.Proofs.Tryd.prog 104 false 1 8 (.nilFunc) := ⟨by kernel_rfl, by kernel_rfl⟩
theorem ti105 : TI Go.Proofs.Tryd.prog 105 false 1 8 (.nilFunc) := ⟨by kernel_rfl, by kernel_rfl⟩
theorem ti106 : TI Go.Proofs.Tryd.prog 106 false 1 4 (.int .u32 0) := ⟨by kernel_rfl, by kernel_rfl⟩
theorem ti107 : TI Go.Proofs.Tryd.prog 107 false 1 8 (.nilFunc) := ⟨by kernel_rfl, by kernel_rfl⟩
theorem ti108 : TI Go.Proofs.Tryd.prog 108 false 1 8 (.int .u64 0) := ⟨by kernel_rfl, by kernel_rfl⟩
theorem ti109 : TI Go.Proofs.Tryd.prog 109 false 1 8 (.nilFunc) := ⟨by kernel_rfl, by kernel_rfl⟩
theorem ti111 : TI Go.Proofs.Tryd.prog 111 false 1 8 (.nilFunc) := ⟨by kernel_rfl, by kernel_rfl⟩
theorem ti112 : TI Go.Proofs.Tryd.prog 112 false 1 8 (.nilFunc) := ⟨by kernel_rfl, by kernel_rfl⟩
theorem ti113 : TI Go.Proofs.Tryd.prog 113 false 1 8 (.int .u64 0) := ⟨by kernel_rfl, by kernel_rfl⟩
theorem ti114 : TI Go.Proofs.Tryd.prog 114 false 1 8 (.nilFunc) := ⟨by kernel_rfl, by kernel_rfl⟩
theorem ti115 : TI Go.Proofs.Tryd.prog 115 false 1 8 (.nilFunc) := ⟨by kernel_rfl, by kernel_rfl⟩
theorem ti116 : TI Go.Proofs.Tryd.prog 116 false 1 8 (.nilFunc) := ⟨by kernel_rfl, by kernel_rfl⟩
theorem ti117 : TI Go.Proofs.Tryd.prog 117 false 1 8 (.pointer none) := ⟨by kernel_rfl, by kernel_rfl⟩
theorem ti118 : TI Go.Proofs.Tryd.prog 118 false 1 8 (.nilFunc) := ⟨by kernel_rfl, by kernel_rfl⟩
theorem ti119 : TI Go.Proofs.Tryd.prog 119 false 1 8 (.pointer none) := ⟨by kernel_rfl, by kernel_rfl⟩
theorem ti120 : TI Go.Proofs.Tryd.prog 120 false 1 8 (.nilFunc) := ⟨by kernel_rfl, by kernel_rfl⟩
theorem ti121 : TI Go.Proofs.Tryd.prog 121 true 64 64 (.agg #[.int .u8 0, .int .u8 0, .int .u8 0, .int .u8 0, .int .u8 0, .int .u8 0, .int .u8 0, .int .u8 0, .int .u8 0, .int .u8 0, .int .u8 0, .int .u8 0, .int .u8 0, .int .u8 0, .int .u8 0, .int .u8 0, .int .u8 0, .int .u8 0, .int .u8 0, .int .u8 0, .int .u8 0, .int .u8 0, .int .u8 0, .int .u8 0, .int .u8 0, .int .u8 0, .int .u8 0, .int .u8 0, .int .u8 0, .int .u8 0, .int .u8 0, .int .u8 0, .int .u8 0, .int .u8 0, .int .u8 0, .int .u8 0, .int .u8 0, .int .u8 0, .int .u8 0, .int .u8 0, .int .u8 0, .int .u8 0, .int .u8 0, .int .u8 0, .int .u8 0, .int .u8 0, .int .u8 0, .int .u8 0, .int .u8 0, .int .u8 0, .int .u8 0, .int .u8 0, .int .u8 0, .int .u8 0, .int .u8 0, .int .u8 0, .int .u8 0, .int .u8 0, .int .u8 0, .int .u8 0, .int .u8 0, .int .u8 0, .int .u8 0, .int .u8 0]) := ⟨by kernel_rfl, by kernel_rfl⟩
theorem ti122 : TI Go.Proofs.Tryd.prog 122 false 1 8 (.nilFunc) := ⟨by kernel_rfl, by kernel_rfl⟩
theorem ti123 : TI Go.Proofs.Tryd.prog 123 true 4 40 (.agg #[.pointer none, .pointer none, .pointer none, .string ByteArray.empty]) := ⟨by kernel_rfl, by kernel_rfl⟩
theorem bt123 : BT Go.Proofs.Tryd.prog 123 [(0, 1), (1, 1), (2, 1), (3, 1)] (.agg #[.pointer none, .pointer none, .pointer none, .string ByteArray.empty]) := fun vs => by kernel_rfl
theorem fd123_0 : Fld Go.Proofs.Tryd.prog 123 0 0 17 := ⟨_, _, Go.Proofs.Tryd.underlying123, rfl, rfl, rfl⟩
theorem fd123_1 : Fld Go.Proofs.Tryd.prog 123 1 1 17 := ⟨_, _, Go.Proofs.Tryd.underlying123, rfl, rfl, rfl⟩
theorem fd123_2 : Fld Go.Proofs.Tryd.prog 123 2 2 17 := ⟨_, _, Go.Proofs.Tryd.underlying123, rfl, rfl, rfl⟩
theorem fd123_3 : Fld Go.Proofs.Tryd.prog 123 3 3 9 := ⟨_, _, Go.Proofs.Tryd.underlying123, rfl, rfl, rfl⟩
theorem ti124 : TI Go.Proofs.Tryd.prog 124 true 4 40 (.agg #[.pointer none, .pointer none, .pointer none, .string ByteArray.empty]) := ⟨by kernel_rfl, by kernel_rfl⟩
theorem bt124 : BT Go.Proofs.Tryd.prog 124 [(0, 1), (1, 1), (2, 1), (3, 1)] (.agg #[.pointer none, .pointer none, .pointer none, .string ByteArray.empty]) := fun vs => by kernel_rfl
theorem fd124_0 : Fld Go.Proofs.Tryd.prog 124 0 0 17 := ⟨_, _, Go.Proofs.Tryd.underlying124, rfl, rfl, rfl⟩
theorem fd124_1 : Fld Go.Proofs.Tryd.prog 124 1 1 17 := ⟨_, _, Go.Proofs.Tryd.underlying124, rfl, rfl, rfl⟩
theorem fd124_2 : Fld Go.Proofs.Tryd.prog 124 2 2 17 := ⟨_, _, Go.Proofs.Tryd.underlying124, rfl, rfl, rfl⟩
theorem fd124_3 : Fld Go.Proofs.Tryd.prog 124 3 3 9 := ⟨_, _, Go.Proofs.Tryd.underlying124, rfl, rfl, rfl⟩
theorem ti125 : TI Go.Proofs.Tryd.prog 125 true 0 0 (.agg #[]) := ⟨by kernel_rfl, by kernel_rfl⟩
theorem ti126 : TI Go.Proofs.Tryd.prog 126 true 0 0 (.agg #[]) := ⟨by kernel_rfl, by kernel_rfl⟩
theorem bt126 : BT Go.Proofs.Tryd.prog 126 [(0, 0)] (.agg #[]) := fun vs => by kernel_rfl
theorem fd126_0 : Fld Go.Proofs.Tryd.prog 126 0 0 125 := ⟨_, _, Go.Proofs.Tryd.underlying126, rfl, rfl, rfl⟩
theorem ti127 : TI Go.Proofs.Tryd.prog 127 true 0 0 (.agg #[]) := ⟨by kernel_rfl, by kernel_rfl⟩
theorem bt127 : BT Go.Proofs.Tryd.prog 127 [(0, 0)] (.agg #[]) := fun vs => by kernel_rfl
theorem fd127_0 : Fld Go.Proofs.Tryd.prog 127 0 0 125 := ⟨_, _, Go.Proofs.Tryd.underlying127, rfl, rfl, rfl⟩
theorem ti128 : TI Go.Proofs.Tryd.prog 128 false 1 8 (.nilFunc) := ⟨by kernel_rfl, by kernel_rfl⟩
theorem ti129 : TI Go.Proofs.Tryd.prog 129 false 1 1 (.int .u8 0) := ⟨by kernel_rfl, by kernel_rfl⟩
theorem ti130 : TI Go.Proofs.Tryd.prog 130 false 1 1 (.int .u8 0) := ⟨by kernel_rfl, by kernel_rfl⟩
theorem ti131 : TI Go.Proofs.Tryd.prog 131 false 1 8 (.nilFunc) := ⟨by kernel_rfl, by kernel_rfl⟩
theorem ti132 : TI Go.Proofs.Tryd.prog 132 false 1 8 (.pointer none) := ⟨by kernel_rfl, by kernel_rfl⟩
theorem ti133 : TI Go.Proofs.Tryd.prog 133 false 1 4 (.int .i32 0) := ⟨by kernel_rfl, by kernel_rfl⟩
theorem ti134 : TI Go.Proofs.Tryd.prog 134 false 1 4 (.int .i32 0) := ⟨by kernel_rfl, by kernel_rfl⟩
theorem ti135 : TI Go.Proofs.Tryd.prog 135 true 11 48 (.agg #[.int .u64 0, .int .u64 0, .int .u32 0, .int .u8 0, .int .u8 0, .int .u8 0, .int .u8 0, .nilFunc, .pointer none, .int .i32 0, .int .i32 0]) := ⟨by kernel_rfl, by kernel_rfl⟩
theorem bt135 : BT Go.Proofs.Tryd.prog 135 [(0, 1), (1, 1), (2, 1), (3, 1), (4, 1), (5, 1), (6, 1), (7, 1), (8, 1), (9, 1), (10, 1)] (.agg #[.int .u64 0, .int .u64 0, .int .u32 0, .int .u8 0, .int .u8 0, .int .u8 0, .int .u8 0, .nilFunc, .pointer none, .int .i32 0, .int .i32 0]) := fun vs => by kernel_rfl
theorem fd135_0 : Fld Go.Proofs.Tryd.prog 135 0 0 12 := ⟨_, _, Go.Proofs.Tryd.underlying135, rfl, rfl, rfl⟩
theorem fd135_1 : Fld Go.Proofs.Tryd.prog 135 1 1 12 := ⟨_, _, Go.Proofs.Tryd.underlying135, rfl, rfl, rfl⟩
theorem fd135_2 : Fld Go.Proofs.Tryd.prog 135 2 2 106 := ⟨_, _, Go.Proofs.Tryd.underlying135, rfl, rfl, rfl⟩
theorem fd135_3 : Fld Go.Proofs.Tryd.prog 135 3 3 129 := ⟨_, _, Go.Proofs.Tryd.underlying135, rfl, rfl, rfl⟩
theorem fd135_4 : Fld Go.Proofs.Tryd.prog 135 4 4 5 := ⟨_, _, Go.Proofs.Tryd.underlying135, rfl, rfl, rfl⟩
theorem fd135_5 : Fld Go.Proofs.Tryd.prog 135 5 5 5 := ⟨_, _, Go.Proofs.Tryd.underlying135, rfl, rfl, rfl⟩
theorem fd135_6 : Fld Go.Proofs.Tryd.prog 135 6 6 130 := ⟨_, _, Go.Proofs.Tryd.underlying135, rfl, rfl, rfl⟩
theorem fd135_7 : Fld Go.Proofs.Tryd.prog 135 7 7 131 := ⟨_, _, Go.Proofs.Tryd.underlying135, rfl, rfl, rfl⟩
theorem fd135_8 : Fld Go.Proofs.Tryd.prog 135 8 8 132 := ⟨_, _, Go.Proofs.Tryd.underlying135, rfl, rfl, rfl⟩
theorem fd135_9 : Fld Go.Proofs.Tryd.prog 135 9 9 133 := ⟨_, _, Go.Proofs.Tryd.underlying135, rfl, rfl, rfl⟩
theorem fd135_10 : Fld Go.Proofs.Tryd.prog 135 10 10 134 := ⟨_, _, Go.Proofs.Tryd.underlying135, rfl, rfl, rfl⟩
theorem ti136 : TI Go.Proofs.Tryd.prog 136 true 11 48 (.agg #[.int .u64 0, .int .u64 0, .int .u32 0, .int .u8 0, .int .u8 0, .int .u8 0, .int .u8 0, .nilFunc, .pointer none, .int .i32 0, .int .i32 0]) := ⟨by kernel_rfl, by kernel_rfl⟩
theorem bt136 : BT Go.Proofs.Tryd.prog 136 [(0, 1), (1, 1), (2, 1), (3, 1), (4, 1), (5, 1), (6, 1), (7, 1), (8, 1), (9, 1), (10, 1)] (.agg #[.int .u64 0, .int .u64 0, .int .u32 0, .int .u8 0, .int .u8 0, .int .u8 0, .int .u8 0, .nilFunc, .pointer none, .int .i32 0, .int .i32 0]) := fun vs => by kernel_rfl
theorem fd136_0 : Fld Go.Proofs.Tryd.prog 136 0 0 12 := ⟨_, _, Go.Proofs.Tryd.underlying136, rfl, rfl, rfl⟩
theorem fd136_1 : Fld Go.Proofs.Tryd.prog 136 1 1 12 := ⟨_, _, Go.Proofs.Tryd.underlying136, rfl, rfl, rfl⟩
theorem fd136_2 : Fld Go.Proofs.Tryd.prog 136 2 2 106 := ⟨_, _, Go.Proofs.Tryd.underlying136, rfl, rfl, rfl⟩
theorem fd136_3 : Fld Go.Proofs.Tryd.prog 136 3 3 129 := ⟨_, _, Go.Proofs.Tryd.underlying136, rfl, rfl, rfl⟩
theorem fd136_4 : Fld Go.Proofs.Tryd.prog 136 4 4 5 := ⟨_, _, Go.Proofs.Tryd.underlying136, rfl, rfl, rfl⟩
theorem fd136_5 : Fld Go.Proofs.Tryd.prog 136 5 5 5 := ⟨_, _, Go.Proofs.Tryd.underlying136, rfl, rfl, rfl⟩
theorem fd136_6 : Fld Go.Proofs.Tryd.prog 136 6 6 130 := ⟨_, _, Go.Proofs.Tryd.underlying136, rfl, rfl, rfl⟩
theorem fd136_7 : Fld Go.Proofs.Tryd.prog 136 7 7 131 := ⟨_, _, Go.Proofs.Tryd.underlying136, rfl, rfl, rfl⟩
theorem fd136_8 : Fld Go.Proofs.Tryd.prog 136 8 8 132 := ⟨_, _, Go.Proofs.Tryd.underlying136, rfl, rfl, rfl⟩
theorem fd136_9 : Fld Go.Proofs.Tryd.prog 136 9 9 133 := ⟨_, _, Go.Proofs.Tryd.underlying136, rfl, rfl, rfl⟩
theorem fd136_10 : Fld Go.Proofs.Tryd.prog 136 10 10 134 := ⟨_, _, Go.Proofs.Tryd.underlying136, rfl, rfl, rfl⟩
theorem fn3 : FnOk Go.Proofs.Tryd.prog 3 := ⟨⟨_, Go.Proofs.Tryd.func3, by kernel_rfl, by kernel_rfl⟩⟩
theorem fn4 : FnOk Go.Proofs.Tryd.prog 4 := ⟨⟨_, Go.Proofs.Tryd.func4, by kernel_rfl, by kernel_rfl⟩⟩
theorem fn5 : FnOk Go.Proofs.Tryd.prog 5 := ⟨⟨_, Go.Proofs.Tryd.func5, by kernel_rfl, by kernel_rfl⟩⟩
theorem fn6 : FnOk Go.Proofs.Tryd.prog 6 := ⟨⟨_, Go.Proofs.Tryd.func6, by kernel_rfl, by kernel_rfl⟩⟩
theorem fn7 : FnOk Go.Proofs.Tryd.prog 7 := ⟨⟨_, Go.Proofs.Tryd.func7, by kernel_rfl, by kernel_rfl⟩⟩
theorem fn8 : FnOk Go.Proofs.Tryd.prog 8 := ⟨⟨_, Go.Proofs.Tryd.func8, by kernel_rfl, by kernel_rfl⟩⟩
theorem fn9 : FnOk Go.Proofs.Tryd.prog 9 := ⟨⟨_, Go.Proofs.Tryd.func9, by kernel_rfl, by kernel_rfl⟩⟩
theorem fn10 : FnOk Go.Proofs.Tryd.prog 10 := ⟨⟨_, Go.Proofs.Tryd.func10, by kernel_rfl, by kernel_rfl⟩⟩
theorem fn11 : FnOk Go.Proofs.Tryd.prog 11 := ⟨⟨_, Go.Proofs.Tryd.func11, by kernel_rfl, by kernel_rfl⟩⟩
theorem fn12 : FnOk Go.Proofs.Tryd.prog 12 := ⟨⟨_, Go.Proofs.Tryd.func12, by kernel_rfl, by kernel_rfl⟩⟩
theorem fn13 : FnOk Go.Proofs.Tryd.prog 13 := ⟨⟨_, Go.Proofs.Tryd.func13, by kernel_rfl, by kernel_rfl⟩⟩
theorem fn14 : FnOk Go.Proofs.Tryd.prog 14 := ⟨⟨_, Go.Proofs.Tryd.func14, by kernel_rfl, by kernel_rfl⟩⟩
theorem fn15 : FnOk Go.Proofs.Tryd.prog 15 := ⟨⟨_, Go.Proofs.Tryd.func15, by kernel_rfl, by kernel_rfl⟩⟩
theorem fn16 : FnOk Go.Proofs.Tryd.prog 16 := ⟨⟨_, Go.Proofs.Tryd.func16, by kernel_rfl, by kernel_rfl⟩⟩
theorem fn17 : FnOk Go.Proofs.Tryd.prog 17 := ⟨⟨_, Go.Proofs.Tryd.func17, by kernel_rfl, by kernel_rfl⟩⟩
theorem fn18 : FnOk Go.Proofs.Tryd.prog 18 := ⟨⟨_, Go.Proofs.Tryd.func18, by kernel_rfl, by kernel_rfl⟩⟩
theorem fn19 : FnOk Go.Proofs.Tryd.prog 19 := ⟨⟨_, Go.Proofs.Tryd.func19, by kernel_rfl, by kernel_rfl⟩⟩
theorem fn20 : FnOk Go.Proofs.Tryd.prog 20 := ⟨⟨_, Go.Proofs.Tryd.func20, by kernel_rfl, by kernel_rfl⟩⟩
theorem fn21 : FnOk Go.Proofs.Tryd.prog 21 := ⟨⟨_, Go.Proofs.Tryd.func21, by kernel_rfl, by kernel_rfl⟩⟩
theorem fn22 : FnOk Go.Proofs.Tryd.prog 22 := ⟨⟨_, Go.Proofs.Tryd.func22, by kernel_rfl, by kernel_rfl⟩⟩
theorem fn23 : FnOk Go.Proofs.Tryd.prog 23 := ⟨⟨_, Go.Proofs.Tryd.func23, by kernel_rfl, by kernel_rfl⟩⟩
theorem fn24 : FnOk Go.Proofs.Tryd.prog 24 := ⟨⟨_, Go.Proofs.Tryd.func24, by kernel_rfl, by kernel_rfl⟩⟩
theorem fn25 : FnOk Go.Proofs.Tryd.prog 25 := ⟨⟨_, Go.Proofs.Tryd.func25, by kernel_rfl, by kernel_rfl⟩⟩
theorem fn26 : FnOk Go.Proofs.Tryd.prog 26 := ⟨⟨_, Go.Proofs.Tryd.func26, by kernel_rfl, by kernel_rfl⟩⟩
theorem fn27 : FnOk Go.Proofs.Tryd.prog 27 := ⟨⟨_, Go.Proofs.Tryd.func27, by kernel_rfl, by kernel_rfl⟩⟩
theorem fn28 : FnOk Go.Proofs.Tryd.prog 28 := ⟨⟨_, Go.Proofs.Tryd.func28, by kernel_rfl, by kernel_rfl⟩⟩
theorem fn29 : FnOk Go.Proofs.Tryd.prog 29 := ⟨⟨_, Go.Proofs.Tryd.func29, by kernel_rfl, by kernel_rfl⟩⟩
theorem fn30 : FnOk Go.Proofs.Tryd.prog 30 := ⟨⟨_, Go.Proofs.Tryd.func30, by kernel_rfl, by kernel_rfl⟩⟩
theorem fn31 : FnOk Go.Proofs.Tryd.prog 31 := ⟨⟨_, Go.Proofs.Tryd.func31, by kernel_rfl, by kernel_rfl⟩⟩
theorem fn32 : FnOk Go.Proofs.Tryd.prog 32 := ⟨⟨_, Go.Proofs.Tryd.func32, by kernel_rfl, by kernel_rfl⟩⟩
theorem fn33 : FnOk Go.Proofs.Tryd.prog 33 := ⟨⟨_, Go.Proofs.Tryd.func33, by kernel_rfl, by kernel_rfl⟩⟩
theorem fn34 : FnOk Go.Proofs.Tryd.prog 34 := ⟨⟨_, Go.Proofs.Tryd.func34, by kernel_rfl, by kernel_rfl⟩⟩
theorem fn35 : FnOk Go.Proofs.Tryd.prog 35 := ⟨⟨_, Go.Proofs.Tryd.func35, by kernel_rfl, by kernel_rfl⟩⟩
theorem fn36 : FnOk Go.Proofs.Tryd.prog 36 := ⟨⟨_, Go.Proofs.Tryd.func36, by kernel_rfl, by kernel_rfl⟩⟩
theorem fn37 : FnOk Go.Proofs.Tryd.prog 37 := ⟨⟨_, Go.Proofs.Tryd.func37, by kernel_rfl, by kernel_rfl⟩⟩
theorem fn38 : FnOk Go.Proofs.Tryd.prog 38 := ⟨⟨_, Go.Proofs.Tryd.func38, by kernel_rfl, by kernel_rfl⟩⟩
theorem fn39 : FnOk Go.Proofs.Tryd.prog 39 := ⟨⟨_, Go.Proofs.Tryd.func39, by kernel_rfl, by kernel_rfl⟩⟩
theorem fn40 : FnOk Go.Proofs.Tryd.prog 40 := ⟨⟨_, Go.Proofs.Tryd.func40, by kernel_rfl, by kernel_rfl⟩⟩
theorem fn41 : FnOk Go.Proofs.Tryd.prog 41 := ⟨⟨_, Go.Proofs.Tryd.func41, by kernel_rfl, by kernel_rfl⟩⟩
theorem fn42 : FnOk Go.Proofs.Tryd.prog 42 := ⟨⟨_, Go.Proofs.Tryd.func42, by kernel_rfl, by kernel_rfl⟩⟩
theorem fn44 : FnOk Go.Proofs.Tryd.prog 44 := ⟨⟨_, Go.Proofs.Tryd.func44, by kernel_rfl, by kernel_rfl⟩⟩
theorem fn45 : FnOk Go.Proofs.Tryd.prog 45 := ⟨⟨_, Go.Proofs.Tryd.func45, by kernel_rfl, by kernel_rfl⟩⟩
theorem fn46 : FnOk Go.Proofs.Tryd.prog 46 := ⟨⟨_, Go.Proofs.Tryd.func46, by kernel_rfl, by kernel_rfl⟩⟩
theorem fn47 : FnOk Go.Proofs.Tryd.prog 47 := ⟨⟨_, Go.Proofs.Tryd.func47, by kernel_rfl, by kernel_rfl⟩⟩
theorem fn48 : FnOk Go.Proofs.Tryd.prog 48 := ⟨⟨_, Go.Proofs.Tryd.func48, by kernel_rfl, by kernel_rfl⟩⟩
theorem fn49 : FnOk Go.Proofs.Tryd.prog 49 := ⟨⟨_, Go.Proofs.Tryd.func49, by kernel_rfl, by kernel_rfl⟩⟩
theorem fn50 : FnOk Go.Proofs.Tryd.prog 50 := ⟨⟨_, Go.Proofs.Tryd.func50, by kernel_rfl, by kernel_rfl⟩⟩
theorem fn51 : FnOk Go.Proofs.Tryd.prog 51 := ⟨⟨_, Go.Proofs.Tryd.func51, by kernel_rfl, by kernel_rfl⟩⟩
theorem fn52 : FnOk Go.Proofs.Tryd.prog 52 := ⟨⟨_, Go.Proofs.Tryd.func52, by kernel_rfl, by kernel_rfl⟩⟩
theorem fn53 : FnOk Go.Proofs.Tryd.prog 53 := ⟨⟨_, Go.Proofs.Tryd.func53, by kernel_rfl, by kernel_rfl⟩⟩
theorem fn54 : FnOk Go.Proofs.Tryd.prog 54 := ⟨⟨_, Go.Proofs.Tryd.func54, by kernel_rfl, by kernel_rfl⟩⟩
theorem fn55 : FnOk Go.Proofs.Tryd.prog 55 := ⟨⟨_, Go.Proofs.Tryd.func55, by kernel_rfl, by kernel_rfl⟩⟩
theorem fn56 : FnOk Go.Proofs.Tryd.prog 56 := ⟨⟨_, Go.Proofs.Tryd.func56, by kernel_rfl, by kernel_rfl⟩⟩
theorem fn57 : FnOk Go.Proofs.Tryd.prog 57 := ⟨⟨_, Go.Proofs.Tryd.func57, by kernel_rfl, by kernel_rfl⟩⟩
theorem fn58 : FnOk Go.Proofs.Tryd.prog 58 := ⟨⟨_, Go.Proofs.Tryd.func58, by kernel_rfl, by kernel_rfl⟩⟩
theorem fn59 : FnOk Go.Proofs.Tryd.prog 59 := ⟨⟨_, Go.Proofs.Tryd.func59, by kernel_rfl, by kernel_rfl⟩⟩
theorem fn60 : FnOk Go.Proofs.Tryd.prog 60 := ⟨⟨_, Go.Proofs.Tryd.func60, by kernel_rfl, by kernel_rfl⟩⟩
theorem fn61 : FnOk Go.Proofs.Tryd.prog 61 := ⟨⟨_, Go.Proofs.Tryd.func61, by kernel_rfl, by kernel_rfl⟩⟩
theorem fn62 : FnOk Go.Proofs.Tryd.prog 62 := ⟨⟨_, Go.Proofs.Tryd.func62, by kernel_rfl, by kernel_rfl⟩⟩
theorem fn63 : FnOk Go.Proofs.Tryd.prog 63 := ⟨⟨_, Go.Proofs.Tryd.func63, by kernel_rfl, by kernel_rfl⟩⟩
theorem fn64 : FnOk Go.Proofs.Tryd.prog 64 := ⟨⟨_, Go.Proofs.Tryd.func64, by kernel_rfl, by kernel_rfl⟩⟩
theorem fn65 : FnOk Go.Proofs.Tryd.prog 65 := ⟨⟨_, Go.Proofs.Tryd.func65, by kernel_rfl, by kernel_rfl⟩⟩
theorem fn66 : FnOk Go.Proofs.Tryd.prog 66 := ⟨⟨_, Go.Proofs.Tryd.func66, by kernel_rfl, by kernel_rfl⟩⟩
theorem fn67 : FnOk Go.Proofs.Tryd.prog 67 := ⟨⟨_, Go.Proofs.Tryd.func67, by kernel_rfl, by kernel_rfl⟩⟩
theorem fn68 : FnOk Go.Proofs.Tryd.prog 68 := ⟨⟨_, Go.Proofs.Tryd.func68, by kernel_rfl, by kernel_rfl⟩⟩
theorem fn69 : FnOk Go.Proofs.Tryd.prog 69 := ⟨⟨_, Go.Proofs.Tryd.func69, by kernel_rfl, by kernel_rfl⟩⟩
theorem fn70 : FnOk Go.Proofs.Tryd.prog 70 := ⟨⟨_, Go.Proofs.Tryd.func70, by kernel_rfl, by kernel_rfl⟩⟩
theorem fn71 : FnOk Go.Proofs.Tryd.prog 71 := ⟨⟨_, Go.Proofs.Tryd.func71, by kernel_rfl, by kernel_rfl⟩⟩
theorem fn72 : FnOk Go.Proofs.Tryd.prog 72 := ⟨⟨_, Go.Proofs.Tryd.func72, by kernel_rfl, by kernel_rfl⟩⟩
theorem fn73 : FnOk Go.Proofs.Tryd.prog 73 := ⟨⟨_, Go.Proofs.Tryd.func73, by kernel_rfl, by kernel_rfl⟩⟩
theorem fn74 : FnOk Go.Proofs.Tryd.prog 74 := ⟨⟨_, Go.Proofs.Tryd.func74, by kernel_rfl, by kernel_rfl⟩⟩
theorem fn75 : FnOk Go.Proofs.Tryd.prog 75 := ⟨⟨_, Go.Proofs.Tryd.func75, by kernel_rfl, by kernel_rfl⟩⟩
theorem fn76 : FnOk Go.Proofs.Tryd.prog 76 := ⟨⟨_, Go.Proofs.Tryd.func76, by kernel_rfl, by kernel_rfl⟩⟩
theorem fn77 : FnOk Go.Proofs.Tryd.prog 77 := ⟨⟨_, Go.Proofs.Tryd.func77, by kernel_rfl, by kernel_rfl⟩⟩
theorem fn78 : FnOk Go.Proofs.Tryd.prog 78 := ⟨⟨_, Go.Proofs.Tryd.func78, by kernel_rfl, by kernel_rfl⟩⟩
theorem fn99 : FnOk Go.Proofs.Tryd.prog 99 := ⟨⟨_, Go.Proofs.Tryd.func99, by kernel_rfl, by kernel_rfl⟩⟩
theorem mixed : Go.Proofs.Tryd.prog.follows .mixedOrders = true := by kernel_rfl
end Go.Proofs.YtmgnagpgnoikfaaDoor
