/-
  The facts on this seat's types and functions, as instances for the engine's rules. Written by inst.py.
-/
import Derived.Test.YtpochcchekoonaaGreatK1
import Derived.Test.YtpochcchekoonaaGreatRows
namespace Go.Proofs.YtpochcchekoonaaGreat
open Go.Rf

instance : OneT Tryz.prog 1 := ⟨⟨_, Tryz.underlying1, rfl⟩, info_size (by kernel_rfl)⟩
instance : ZeroT Tryz.prog 1 (.nilFunc) := ⟨info_zero (by kernel_rfl)⟩
instance : IntT Tryz.prog 2 .i64 := ⟨Tryz.underlying2⟩
instance : OneT Tryz.prog 2 := ⟨⟨_, Tryz.underlying2, rfl⟩, info_size (by kernel_rfl)⟩
instance : ZeroT Tryz.prog 2 (.int .i64 0) := ⟨info_zero (by kernel_rfl)⟩
instance : IntT Tryz.prog 3 .i64 := ⟨Tryz.underlying3⟩
instance : OneT Tryz.prog 3 := ⟨⟨_, Tryz.underlying3, rfl⟩, info_size (by kernel_rfl)⟩
instance : ZeroT Tryz.prog 3 (.int .i64 0) := ⟨info_zero (by kernel_rfl)⟩
instance : OneT Tryz.prog 4 := ⟨⟨_, Tryz.underlying4, rfl⟩, info_size (by kernel_rfl)⟩
instance : ZeroT Tryz.prog 4 (.bool false) := ⟨info_zero (by kernel_rfl)⟩
instance : IntT Tryz.prog 5 .u8 := ⟨Tryz.underlying5⟩
instance : OneT Tryz.prog 5 := ⟨⟨_, Tryz.underlying5, rfl⟩, info_size (by kernel_rfl)⟩
instance : ZeroT Tryz.prog 5 (.int .u8 0) := ⟨info_zero (by kernel_rfl)⟩
instance : IntT Tryz.prog 6 .u8 := ⟨Tryz.underlying6⟩
instance : OneT Tryz.prog 6 := ⟨⟨_, Tryz.underlying6, rfl⟩, info_size (by kernel_rfl)⟩
instance : ZeroT Tryz.prog 6 (.int .u8 0) := ⟨info_zero (by kernel_rfl)⟩
instance : AggT Tryz.prog 7 4 := ⟨⟨_, Tryz.underlying7, rfl⟩, info_size (by kernel_rfl)⟩
instance : ZeroT Tryz.prog 7 (.agg #[.int .i64 0, .int .i64 0, .bool false, .int .u8 0]) := ⟨info_zero (by kernel_rfl)⟩
instance : BuildT Tryz.prog 7 [.int .i64 0, .int .i64 0, .bool false, .int .u8 0] [(0, 1), (1, 1), (2, 1), (3, 1)] := ⟨build_of (v := .agg #[.int .i64 0, .int .i64 0, .bool false, .int .u8 0]) (by kernel_rfl) rfl, ⟨_, Tryz.underlying7, fun w => by kernel_rfl⟩⟩
instance : FieldT Tryz.prog 7 0 0 := ⟨field_of Tryz.underlying7 rfl rfl (n := 1) (by kernel_rfl) (by decide)⟩
instance : FieldT Tryz.prog 7 1 1 := ⟨field_of Tryz.underlying7 rfl rfl (n := 1) (by kernel_rfl) (by decide)⟩
instance : FieldT Tryz.prog 7 2 2 := ⟨field_of Tryz.underlying7 rfl rfl (n := 1) (by kernel_rfl) (by decide)⟩
instance : FieldT Tryz.prog 7 3 3 := ⟨field_of Tryz.underlying7 rfl rfl (n := 1) (by kernel_rfl) (by decide)⟩
instance : AggT Tryz.prog 8 4 := ⟨⟨_, Tryz.underlying8, rfl⟩, info_size (by kernel_rfl)⟩
instance : ZeroT Tryz.prog 8 (.agg #[.int .i64 0, .int .i64 0, .bool false, .int .u8 0]) := ⟨info_zero (by kernel_rfl)⟩
instance : BuildT Tryz.prog 8 [.int .i64 0, .int .i64 0, .bool false, .int .u8 0] [(0, 1), (1, 1), (2, 1), (3, 1)] := ⟨build_of (v := .agg #[.int .i64 0, .int .i64 0, .bool false, .int .u8 0]) (by kernel_rfl) rfl, ⟨_, Tryz.underlying8, fun w => by kernel_rfl⟩⟩
instance : FieldT Tryz.prog 8 0 0 := ⟨field_of Tryz.underlying8 rfl rfl (n := 1) (by kernel_rfl) (by decide)⟩
instance : FieldT Tryz.prog 8 1 1 := ⟨field_of Tryz.underlying8 rfl rfl (n := 1) (by kernel_rfl) (by decide)⟩
instance : FieldT Tryz.prog 8 2 2 := ⟨field_of Tryz.underlying8 rfl rfl (n := 1) (by kernel_rfl) (by decide)⟩
instance : FieldT Tryz.prog 8 3 3 := ⟨field_of Tryz.underlying8 rfl rfl (n := 1) (by kernel_rfl) (by decide)⟩
instance : StrT Tryz.prog 9 := ⟨Tryz.underlying9⟩
instance : OneT Tryz.prog 9 := ⟨⟨_, Tryz.underlying9, rfl⟩, info_size (by kernel_rfl)⟩
instance : ZeroT Tryz.prog 9 (.string .empty) := ⟨info_zero (by kernel_rfl)⟩
instance : StrT Tryz.prog 10 := ⟨Tryz.underlying10⟩
instance : OneT Tryz.prog 10 := ⟨⟨_, Tryz.underlying10, rfl⟩, info_size (by kernel_rfl)⟩
instance : ZeroT Tryz.prog 10 (.string .empty) := ⟨info_zero (by kernel_rfl)⟩
instance : StrT Tryz.prog 11 := ⟨Tryz.underlying11⟩
instance : OneT Tryz.prog 11 := ⟨⟨_, Tryz.underlying11, rfl⟩, info_size (by kernel_rfl)⟩
instance : ZeroT Tryz.prog 11 (.string .empty) := ⟨info_zero (by kernel_rfl)⟩
instance : IntT Tryz.prog 12 .u64 := ⟨Tryz.underlying12⟩
instance : OneT Tryz.prog 12 := ⟨⟨_, Tryz.underlying12, rfl⟩, info_size (by kernel_rfl)⟩
instance : ZeroT Tryz.prog 12 (.int .u64 0) := ⟨info_zero (by kernel_rfl)⟩
instance : AggT Tryz.prog 13 2 := ⟨⟨_, Tryz.underlying13, rfl⟩, info_size (by kernel_rfl)⟩
instance : ZeroT Tryz.prog 13 (.agg #[.string .empty, .int .u64 0]) := ⟨info_zero (by kernel_rfl)⟩
instance : BuildT Tryz.prog 13 [.string .empty, .int .u64 0] [(0, 1), (1, 1)] := ⟨build_of (v := .agg #[.string .empty, .int .u64 0]) (by kernel_rfl) rfl, ⟨_, Tryz.underlying13, fun w => by kernel_rfl⟩⟩
instance : FieldT Tryz.prog 13 0 0 := ⟨field_of Tryz.underlying13 rfl rfl (n := 1) (by kernel_rfl) (by decide)⟩
instance : FieldT Tryz.prog 13 1 1 := ⟨field_of Tryz.underlying13 rfl rfl (n := 1) (by kernel_rfl) (by decide)⟩
instance : AggT Tryz.prog 14 2 := ⟨⟨_, Tryz.underlying14, rfl⟩, info_size (by kernel_rfl)⟩
instance : ZeroT Tryz.prog 14 (.agg #[.string .empty, .int .u64 0]) := ⟨info_zero (by kernel_rfl)⟩
instance : BuildT Tryz.prog 14 [.string .empty, .int .u64 0] [(0, 1), (1, 1)] := ⟨build_of (v := .agg #[.string .empty, .int .u64 0]) (by kernel_rfl) rfl, ⟨_, Tryz.underlying14, fun w => by kernel_rfl⟩⟩
instance : FieldT Tryz.prog 14 0 0 := ⟨field_of Tryz.underlying14 rfl rfl (n := 1) (by kernel_rfl) (by decide)⟩
instance : FieldT Tryz.prog 14 1 1 := ⟨field_of Tryz.underlying14 rfl rfl (n := 1) (by kernel_rfl) (by decide)⟩
instance : PtrT Tryz.prog 15 := ⟨⟨_, Tryz.underlying15⟩⟩
instance : OneT Tryz.prog 15 := ⟨⟨_, Tryz.underlying15, rfl⟩, info_size (by kernel_rfl)⟩
instance : ZeroT Tryz.prog 15 (.pointer none) := ⟨info_zero (by kernel_rfl)⟩
instance : PtrT Tryz.prog 16 := ⟨⟨_, Tryz.underlying16⟩⟩
instance : OneT Tryz.prog 16 := ⟨⟨_, Tryz.underlying16, rfl⟩, info_size (by kernel_rfl)⟩
instance : ZeroT Tryz.prog 16 (.pointer none) := ⟨info_zero (by kernel_rfl)⟩
instance : PtrT Tryz.prog 17 := ⟨⟨_, Tryz.underlying17⟩⟩
instance : OneT Tryz.prog 17 := ⟨⟨_, Tryz.underlying17, rfl⟩, info_size (by kernel_rfl)⟩
instance : ZeroT Tryz.prog 17 (.pointer none) := ⟨info_zero (by kernel_rfl)⟩
instance : AggT Tryz.prog 18 1 := ⟨⟨_, Tryz.underlying18, rfl⟩, info_size (by kernel_rfl)⟩
instance : ZeroT Tryz.prog 18 (.agg #[.pointer none]) := ⟨info_zero (by kernel_rfl)⟩
instance : BuildT Tryz.prog 18 [.pointer none] [(0, 1)] := ⟨build_of (v := .agg #[.pointer none]) (by kernel_rfl) rfl, ⟨_, Tryz.underlying18, fun w => by kernel_rfl⟩⟩
instance : FieldT Tryz.prog 18 0 0 := ⟨field_of Tryz.underlying18 rfl rfl (n := 1) (by kernel_rfl) (by decide)⟩
instance : AggT Tryz.prog 19 1 := ⟨⟨_, Tryz.underlying19, rfl⟩, info_size (by kernel_rfl)⟩
instance : ZeroT Tryz.prog 19 (.agg #[.pointer none]) := ⟨info_zero (by kernel_rfl)⟩
instance : BuildT Tryz.prog 19 [.pointer none] [(0, 1)] := ⟨build_of (v := .agg #[.pointer none]) (by kernel_rfl) rfl, ⟨_, Tryz.underlying19, fun w => by kernel_rfl⟩⟩
instance : FieldT Tryz.prog 19 0 0 := ⟨field_of Tryz.underlying19 rfl rfl (n := 1) (by kernel_rfl) (by decide)⟩
instance : OneT Tryz.prog 20 := ⟨⟨_, Tryz.underlying20, rfl⟩, info_size (by kernel_rfl)⟩
instance : ZeroT Tryz.prog 20 (.nilIface) := ⟨info_zero (by kernel_rfl)⟩
instance : IntT Tryz.prog 21 .i32 := ⟨Tryz.underlying21⟩
instance : OneT Tryz.prog 21 := ⟨⟨_, Tryz.underlying21, rfl⟩, info_size (by kernel_rfl)⟩
instance : ZeroT Tryz.prog 21 (.int .i32 0) := ⟨info_zero (by kernel_rfl)⟩
instance : SliceT Tryz.prog 22 3 := ⟨Tryz.underlying22⟩
instance : RowT Tryz.prog 22 3 1 8 := ⟨Tryz.underlying22, info_parts_z (z := .int .i64 0) (by kernel_rfl) (by kernel_rfl), by decide⟩
instance : OneT Tryz.prog 22 := ⟨⟨_, Tryz.underlying22, rfl⟩, info_size (by kernel_rfl)⟩
instance : ZeroT Tryz.prog 22 (.slice none 0 0) := ⟨info_zero (by kernel_rfl)⟩
instance : RowZ Tryz.prog 22 3 1 8 [.int .i64 0] := ⟨inferInstance, rowz_of (v := .int .i64 0) (by kernel_rfl) rfl rfl⟩
instance : SliceT Tryz.prog 23 36 := ⟨Tryz.underlying23⟩
instance : RowT Tryz.prog 23 36 12 192 := ⟨Tryz.underlying23, info_parts_z (z := .agg #[.int .i64 0, .string .empty, .int .i64 0, .int .i64 0, .slice none 0 0, .slice none 0 0, .slice none 0 0, .slice none 0 0, .int .i64 0, .int .i64 0, .string .empty, .slice none 0 0]) (by kernel_rfl) (by kernel_rfl), by decide⟩
instance : OneT Tryz.prog 23 := ⟨⟨_, Tryz.underlying23, rfl⟩, info_size (by kernel_rfl)⟩
instance : ZeroT Tryz.prog 23 (.slice none 0 0) := ⟨info_zero (by kernel_rfl)⟩
instance : RowZ Tryz.prog 23 36 12 192 [.int .i64 0, .string .empty, .int .i64 0, .int .i64 0, .slice none 0 0, .slice none 0 0, .slice none 0 0, .slice none 0 0, .int .i64 0, .int .i64 0, .string .empty, .slice none 0 0] := ⟨inferInstance, rowz_of (v := .agg #[.int .i64 0, .string .empty, .int .i64 0, .int .i64 0, .slice none 0 0, .slice none 0 0, .slice none 0 0, .slice none 0 0, .int .i64 0, .int .i64 0, .string .empty, .slice none 0 0]) (by kernel_rfl) rfl rfl⟩
instance : AggT Tryz.prog 24 1 := ⟨⟨_, Tryz.underlying24, rfl⟩, info_size (by kernel_rfl)⟩
instance : ZeroT Tryz.prog 24 (.agg #[.slice none 0 0]) := ⟨info_zero (by kernel_rfl)⟩
instance : BuildT Tryz.prog 24 [.slice none 0 0] [(0, 1)] := ⟨build_of (v := .agg #[.slice none 0 0]) (by kernel_rfl) rfl, ⟨_, Tryz.underlying24, fun w => by kernel_rfl⟩⟩
instance : FieldT Tryz.prog 24 0 0 := ⟨field_of Tryz.underlying24 rfl rfl (n := 1) (by kernel_rfl) (by decide)⟩
instance : AggT Tryz.prog 25 1 := ⟨⟨_, Tryz.underlying25, rfl⟩, info_size (by kernel_rfl)⟩
instance : ZeroT Tryz.prog 25 (.agg #[.slice none 0 0]) := ⟨info_zero (by kernel_rfl)⟩
instance : BuildT Tryz.prog 25 [.slice none 0 0] [(0, 1)] := ⟨build_of (v := .agg #[.slice none 0 0]) (by kernel_rfl) rfl, ⟨_, Tryz.underlying25, fun w => by kernel_rfl⟩⟩
instance : FieldT Tryz.prog 25 0 0 := ⟨field_of Tryz.underlying25 rfl rfl (n := 1) (by kernel_rfl) (by decide)⟩
instance : OneT Tryz.prog 26 := ⟨⟨_, Tryz.underlying26, rfl⟩, info_size (by kernel_rfl)⟩
instance : ZeroT Tryz.prog 26 (.nilFunc) := ⟨info_zero (by kernel_rfl)⟩
instance : OneT Tryz.prog 27 := ⟨⟨_, Tryz.underlying27, rfl⟩, info_size (by kernel_rfl)⟩
instance : ZeroT Tryz.prog 27 (.nilFunc) := ⟨info_zero (by kernel_rfl)⟩
instance : OneT Tryz.prog 28 := ⟨⟨_, Tryz.underlying28, rfl⟩, info_size (by kernel_rfl)⟩
instance : ZeroT Tryz.prog 28 (.nilFunc) := ⟨info_zero (by kernel_rfl)⟩
instance : OneT Tryz.prog 29 := ⟨⟨_, Tryz.underlying29, rfl⟩, info_size (by kernel_rfl)⟩
instance : ZeroT Tryz.prog 29 (.nilFunc) := ⟨info_zero (by kernel_rfl)⟩
instance : OneT Tryz.prog 30 := ⟨⟨_, Tryz.underlying30, rfl⟩, info_size (by kernel_rfl)⟩
instance : ZeroT Tryz.prog 30 (.nilFunc) := ⟨info_zero (by kernel_rfl)⟩
instance : SliceT Tryz.prog 31 33 := ⟨Tryz.underlying31⟩
instance : RowT Tryz.prog 31 33 4 56 := ⟨Tryz.underlying31, info_parts_z (z := .agg #[.int .i64 0, .int .i64 0, .string .empty, .slice none 0 0]) (by kernel_rfl) (by kernel_rfl), by decide⟩
instance : OneT Tryz.prog 31 := ⟨⟨_, Tryz.underlying31, rfl⟩, info_size (by kernel_rfl)⟩
instance : ZeroT Tryz.prog 31 (.slice none 0 0) := ⟨info_zero (by kernel_rfl)⟩
instance : RowZ Tryz.prog 31 33 4 56 [.int .i64 0, .int .i64 0, .string .empty, .slice none 0 0] := ⟨inferInstance, rowz_of (v := .agg #[.int .i64 0, .int .i64 0, .string .empty, .slice none 0 0]) (by kernel_rfl) rfl rfl⟩
instance : AggT Tryz.prog 32 4 := ⟨⟨_, Tryz.underlying32, rfl⟩, info_size (by kernel_rfl)⟩
instance : ZeroT Tryz.prog 32 (.agg #[.int .i64 0, .int .i64 0, .string .empty, .slice none 0 0]) := ⟨info_zero (by kernel_rfl)⟩
instance : BuildT Tryz.prog 32 [.int .i64 0, .int .i64 0, .string .empty, .slice none 0 0] [(0, 1), (1, 1), (2, 1), (3, 1)] := ⟨build_of (v := .agg #[.int .i64 0, .int .i64 0, .string .empty, .slice none 0 0]) (by kernel_rfl) rfl, ⟨_, Tryz.underlying32, fun w => by kernel_rfl⟩⟩
instance : FieldT Tryz.prog 32 0 0 := ⟨field_of Tryz.underlying32 rfl rfl (n := 1) (by kernel_rfl) (by decide)⟩
instance : FieldT Tryz.prog 32 1 1 := ⟨field_of Tryz.underlying32 rfl rfl (n := 1) (by kernel_rfl) (by decide)⟩
instance : FieldT Tryz.prog 32 2 2 := ⟨field_of Tryz.underlying32 rfl rfl (n := 1) (by kernel_rfl) (by decide)⟩
instance : FieldT Tryz.prog 32 3 3 := ⟨field_of Tryz.underlying32 rfl rfl (n := 1) (by kernel_rfl) (by decide)⟩
instance : AggT Tryz.prog 33 4 := ⟨⟨_, Tryz.underlying33, rfl⟩, info_size (by kernel_rfl)⟩
instance : ZeroT Tryz.prog 33 (.agg #[.int .i64 0, .int .i64 0, .string .empty, .slice none 0 0]) := ⟨info_zero (by kernel_rfl)⟩
instance : BuildT Tryz.prog 33 [.int .i64 0, .int .i64 0, .string .empty, .slice none 0 0] [(0, 1), (1, 1), (2, 1), (3, 1)] := ⟨build_of (v := .agg #[.int .i64 0, .int .i64 0, .string .empty, .slice none 0 0]) (by kernel_rfl) rfl, ⟨_, Tryz.underlying33, fun w => by kernel_rfl⟩⟩
instance : FieldT Tryz.prog 33 0 0 := ⟨field_of Tryz.underlying33 rfl rfl (n := 1) (by kernel_rfl) (by decide)⟩
instance : FieldT Tryz.prog 33 1 1 := ⟨field_of Tryz.underlying33 rfl rfl (n := 1) (by kernel_rfl) (by decide)⟩
instance : FieldT Tryz.prog 33 2 2 := ⟨field_of Tryz.underlying33 rfl rfl (n := 1) (by kernel_rfl) (by decide)⟩
instance : FieldT Tryz.prog 33 3 3 := ⟨field_of Tryz.underlying33 rfl rfl (n := 1) (by kernel_rfl) (by decide)⟩
instance : SliceT Tryz.prog 34 9 := ⟨Tryz.underlying34⟩
instance : RowT Tryz.prog 34 9 1 16 := ⟨Tryz.underlying34, info_parts_z (z := .string .empty) (by kernel_rfl) (by kernel_rfl), by decide⟩
instance : OneT Tryz.prog 34 := ⟨⟨_, Tryz.underlying34, rfl⟩, info_size (by kernel_rfl)⟩
instance : ZeroT Tryz.prog 34 (.slice none 0 0) := ⟨info_zero (by kernel_rfl)⟩
instance : RowZ Tryz.prog 34 9 1 16 [.string .empty] := ⟨inferInstance, rowz_of (v := .string .empty) (by kernel_rfl) rfl rfl⟩
instance : AggT Tryz.prog 35 12 := ⟨⟨_, Tryz.underlying35, rfl⟩, info_size (by kernel_rfl)⟩
instance : ZeroT Tryz.prog 35 (.agg #[.int .i64 0, .string .empty, .int .i64 0, .int .i64 0, .slice none 0 0, .slice none 0 0, .slice none 0 0, .slice none 0 0, .int .i64 0, .int .i64 0, .string .empty, .slice none 0 0]) := ⟨info_zero (by kernel_rfl)⟩
instance : BuildT Tryz.prog 35 [.int .i64 0, .string .empty, .int .i64 0, .int .i64 0, .slice none 0 0, .slice none 0 0, .slice none 0 0, .slice none 0 0, .int .i64 0, .int .i64 0, .string .empty, .slice none 0 0] [(0, 1), (1, 1), (2, 1), (3, 1), (4, 1), (5, 1), (6, 1), (7, 1), (8, 4)] := ⟨build_of (v := .agg #[.int .i64 0, .string .empty, .int .i64 0, .int .i64 0, .slice none 0 0, .slice none 0 0, .slice none 0 0, .slice none 0 0, .int .i64 0, .int .i64 0, .string .empty, .slice none 0 0]) (by kernel_rfl) rfl, ⟨_, Tryz.underlying35, fun w => by kernel_rfl⟩⟩
instance : FieldT Tryz.prog 35 0 0 := ⟨field_of Tryz.underlying35 rfl rfl (n := 1) (by kernel_rfl) (by decide)⟩
instance : FieldT Tryz.prog 35 1 1 := ⟨field_of Tryz.underlying35 rfl rfl (n := 1) (by kernel_rfl) (by decide)⟩
instance : FieldT Tryz.prog 35 2 2 := ⟨field_of Tryz.underlying35 rfl rfl (n := 1) (by kernel_rfl) (by decide)⟩
instance : FieldT Tryz.prog 35 3 3 := ⟨field_of Tryz.underlying35 rfl rfl (n := 1) (by kernel_rfl) (by decide)⟩
instance : FieldT Tryz.prog 35 4 4 := ⟨field_of Tryz.underlying35 rfl rfl (n := 1) (by kernel_rfl) (by decide)⟩
instance : FieldT Tryz.prog 35 5 5 := ⟨field_of Tryz.underlying35 rfl rfl (n := 1) (by kernel_rfl) (by decide)⟩
instance : FieldT Tryz.prog 35 6 6 := ⟨field_of Tryz.underlying35 rfl rfl (n := 1) (by kernel_rfl) (by decide)⟩
instance : FieldT Tryz.prog 35 7 7 := ⟨field_of Tryz.underlying35 rfl rfl (n := 1) (by kernel_rfl) (by decide)⟩
instance : FieldT Tryz.prog 35 8 8 := ⟨field_of Tryz.underlying35 rfl rfl (n := 4) (by kernel_rfl) (by decide)⟩
instance : AggT Tryz.prog 36 12 := ⟨⟨_, Tryz.underlying36, rfl⟩, info_size (by kernel_rfl)⟩
instance : ZeroT Tryz.prog 36 (.agg #[.int .i64 0, .string .empty, .int .i64 0, .int .i64 0, .slice none 0 0, .slice none 0 0, .slice none 0 0, .slice none 0 0, .int .i64 0, .int .i64 0, .string .empty, .slice none 0 0]) := ⟨info_zero (by kernel_rfl)⟩
instance : BuildT Tryz.prog 36 [.int .i64 0, .string .empty, .int .i64 0, .int .i64 0, .slice none 0 0, .slice none 0 0, .slice none 0 0, .slice none 0 0, .int .i64 0, .int .i64 0, .string .empty, .slice none 0 0] [(0, 1), (1, 1), (2, 1), (3, 1), (4, 1), (5, 1), (6, 1), (7, 1), (8, 4)] := ⟨build_of (v := .agg #[.int .i64 0, .string .empty, .int .i64 0, .int .i64 0, .slice none 0 0, .slice none 0 0, .slice none 0 0, .slice none 0 0, .int .i64 0, .int .i64 0, .string .empty, .slice none 0 0]) (by kernel_rfl) rfl, ⟨_, Tryz.underlying36, fun w => by kernel_rfl⟩⟩
instance : FieldT Tryz.prog 36 0 0 := ⟨field_of Tryz.underlying36 rfl rfl (n := 1) (by kernel_rfl) (by decide)⟩
instance : FieldT Tryz.prog 36 1 1 := ⟨field_of Tryz.underlying36 rfl rfl (n := 1) (by kernel_rfl) (by decide)⟩
instance : FieldT Tryz.prog 36 2 2 := ⟨field_of Tryz.underlying36 rfl rfl (n := 1) (by kernel_rfl) (by decide)⟩
instance : FieldT Tryz.prog 36 3 3 := ⟨field_of Tryz.underlying36 rfl rfl (n := 1) (by kernel_rfl) (by decide)⟩
instance : FieldT Tryz.prog 36 4 4 := ⟨field_of Tryz.underlying36 rfl rfl (n := 1) (by kernel_rfl) (by decide)⟩
instance : FieldT Tryz.prog 36 5 5 := ⟨field_of Tryz.underlying36 rfl rfl (n := 1) (by kernel_rfl) (by decide)⟩
instance : FieldT Tryz.prog 36 6 6 := ⟨field_of Tryz.underlying36 rfl rfl (n := 1) (by kernel_rfl) (by decide)⟩
instance : FieldT Tryz.prog 36 7 7 := ⟨field_of Tryz.underlying36 rfl rfl (n := 1) (by kernel_rfl) (by decide)⟩
instance : FieldT Tryz.prog 36 8 8 := ⟨field_of Tryz.underlying36 rfl rfl (n := 4) (by kernel_rfl) (by decide)⟩
instance : OneT Tryz.prog 37 := ⟨⟨_, Tryz.underlying37, rfl⟩, info_size (by kernel_rfl)⟩
instance : ZeroT Tryz.prog 37 (.nilFunc) := ⟨info_zero (by kernel_rfl)⟩
instance : IntT Tryz.prog 38 .i64 := ⟨Tryz.underlying38⟩
instance : OneT Tryz.prog 38 := ⟨⟨_, Tryz.underlying38, rfl⟩, info_size (by kernel_rfl)⟩
instance : ZeroT Tryz.prog 38 (.int .i64 0) := ⟨info_zero (by kernel_rfl)⟩
instance : OneT Tryz.prog 40 := ⟨⟨_, Tryz.underlying40, rfl⟩, info_size (by kernel_rfl)⟩
instance : ZeroT Tryz.prog 40 (.nilFunc) := ⟨info_zero (by kernel_rfl)⟩
instance : OneT Tryz.prog 42 := ⟨⟨_, Tryz.underlying42, rfl⟩, info_size (by kernel_rfl)⟩
instance : ZeroT Tryz.prog 42 (.nilFunc) := ⟨info_zero (by kernel_rfl)⟩
instance : OneT Tryz.prog 43 := ⟨⟨_, Tryz.underlying43, rfl⟩, info_size (by kernel_rfl)⟩
instance : ZeroT Tryz.prog 43 (.nilFunc) := ⟨info_zero (by kernel_rfl)⟩
instance : OneT Tryz.prog 44 := ⟨⟨_, Tryz.underlying44, rfl⟩, info_size (by kernel_rfl)⟩
instance : ZeroT Tryz.prog 44 (.nilFunc) := ⟨info_zero (by kernel_rfl)⟩
instance : OneT Tryz.prog 45 := ⟨⟨_, Tryz.underlying45, rfl⟩, info_size (by kernel_rfl)⟩
instance : ZeroT Tryz.prog 45 (.nilFunc) := ⟨info_zero (by kernel_rfl)⟩
instance : OneT Tryz.prog 46 := ⟨⟨_, Tryz.underlying46, rfl⟩, info_size (by kernel_rfl)⟩
instance : ZeroT Tryz.prog 46 (.nilFunc) := ⟨info_zero (by kernel_rfl)⟩
instance : OneT Tryz.prog 47 := ⟨⟨_, Tryz.underlying47, rfl⟩, info_size (by kernel_rfl)⟩
instance : ZeroT Tryz.prog 47 (.nilFunc) := ⟨info_zero (by kernel_rfl)⟩
instance : SliceT Tryz.prog 48 5 := ⟨Tryz.underlying48⟩
instance : RowT Tryz.prog 48 5 1 1 := ⟨Tryz.underlying48, info_parts_z (z := .int .u8 0) (by kernel_rfl) (by kernel_rfl), by decide⟩
instance : OneT Tryz.prog 48 := ⟨⟨_, Tryz.underlying48, rfl⟩, info_size (by kernel_rfl)⟩
instance : ZeroT Tryz.prog 48 (.slice none 0 0) := ⟨info_zero (by kernel_rfl)⟩
instance : U8T Tryz.prog 48 := ⟨⟨5, Tryz.underlying48, Tryz.underlying5⟩⟩
instance : RowZ Tryz.prog 48 5 1 1 [.int .u8 0] := ⟨inferInstance, rowz_of (v := .int .u8 0) (by kernel_rfl) rfl rfl⟩
instance : OneT Tryz.prog 49 := ⟨⟨_, Tryz.underlying49, rfl⟩, info_size (by kernel_rfl)⟩
instance : ZeroT Tryz.prog 49 (.nilFunc) := ⟨info_zero (by kernel_rfl)⟩
instance : OneT Tryz.prog 51 := ⟨⟨_, Tryz.underlying51, rfl⟩, info_size (by kernel_rfl)⟩
instance : ZeroT Tryz.prog 51 (.nilFunc) := ⟨info_zero (by kernel_rfl)⟩
instance : PtrT Tryz.prog 52 := ⟨⟨_, Tryz.underlying52⟩⟩
instance : OneT Tryz.prog 52 := ⟨⟨_, Tryz.underlying52, rfl⟩, info_size (by kernel_rfl)⟩
instance : ZeroT Tryz.prog 52 (.pointer none) := ⟨info_zero (by kernel_rfl)⟩
instance : OneT Tryz.prog 53 := ⟨⟨_, Tryz.underlying53, rfl⟩, info_size (by kernel_rfl)⟩
instance : ZeroT Tryz.prog 53 (.nilFunc) := ⟨info_zero (by kernel_rfl)⟩
instance : OneT Tryz.prog 54 := ⟨⟨_, Tryz.underlying54, rfl⟩, info_size (by kernel_rfl)⟩
instance : ZeroT Tryz.prog 54 (.nilFunc) := ⟨info_zero (by kernel_rfl)⟩
instance : OneT Tryz.prog 55 := ⟨⟨_, Tryz.underlying55, rfl⟩, info_size (by kernel_rfl)⟩
instance : ZeroT Tryz.prog 55 (.nilFunc) := ⟨info_zero (by kernel_rfl)⟩
instance : OneT Tryz.prog 56 := ⟨⟨_, Tryz.underlying56, rfl⟩, info_size (by kernel_rfl)⟩
instance : ZeroT Tryz.prog 56 (.nilFunc) := ⟨info_zero (by kernel_rfl)⟩
instance : OneT Tryz.prog 57 := ⟨⟨_, Tryz.underlying57, rfl⟩, info_size (by kernel_rfl)⟩
instance : ZeroT Tryz.prog 57 (.nilFunc) := ⟨info_zero (by kernel_rfl)⟩
instance : SliceT Tryz.prog 58 48 := ⟨Tryz.underlying58⟩
instance : RowT Tryz.prog 58 48 1 24 := ⟨Tryz.underlying58, info_parts_z (z := .slice none 0 0) (by kernel_rfl) (by kernel_rfl), by decide⟩
instance : OneT Tryz.prog 58 := ⟨⟨_, Tryz.underlying58, rfl⟩, info_size (by kernel_rfl)⟩
instance : ZeroT Tryz.prog 58 (.slice none 0 0) := ⟨info_zero (by kernel_rfl)⟩
instance : RowZ Tryz.prog 58 48 1 24 [.slice none 0 0] := ⟨inferInstance, rowz_of (v := .slice none 0 0) (by kernel_rfl) rfl rfl⟩
instance : OneT Tryz.prog 59 := ⟨⟨_, Tryz.underlying59, rfl⟩, info_size (by kernel_rfl)⟩
instance : ZeroT Tryz.prog 59 (.nilFunc) := ⟨info_zero (by kernel_rfl)⟩
instance : OneT Tryz.prog 60 := ⟨⟨_, Tryz.underlying60, rfl⟩, info_size (by kernel_rfl)⟩
instance : ZeroT Tryz.prog 60 (.nilFunc) := ⟨info_zero (by kernel_rfl)⟩
instance : OneT Tryz.prog 61 := ⟨⟨_, Tryz.underlying61, rfl⟩, info_size (by kernel_rfl)⟩
instance : ZeroT Tryz.prog 61 (.nilFunc) := ⟨info_zero (by kernel_rfl)⟩
instance : OneT Tryz.prog 62 := ⟨⟨_, Tryz.underlying62, rfl⟩, info_size (by kernel_rfl)⟩
instance : ZeroT Tryz.prog 62 (.nilFunc) := ⟨info_zero (by kernel_rfl)⟩
instance : SliceT Tryz.prog 63 4 := ⟨Tryz.underlying63⟩
instance : RowT Tryz.prog 63 4 1 1 := ⟨Tryz.underlying63, info_parts_z (z := .bool false) (by kernel_rfl) (by kernel_rfl), by decide⟩
instance : OneT Tryz.prog 63 := ⟨⟨_, Tryz.underlying63, rfl⟩, info_size (by kernel_rfl)⟩
instance : ZeroT Tryz.prog 63 (.slice none 0 0) := ⟨info_zero (by kernel_rfl)⟩
instance : RowZ Tryz.prog 63 4 1 1 [.bool false] := ⟨inferInstance, rowz_of (v := .bool false) (by kernel_rfl) rfl rfl⟩
instance : OneT Tryz.prog 64 := ⟨⟨_, Tryz.underlying64, rfl⟩, info_size (by kernel_rfl)⟩
instance : ZeroT Tryz.prog 64 (.map none) := ⟨info_zero (by kernel_rfl)⟩
instance : OneT Tryz.prog 65 := ⟨⟨_, Tryz.underlying65, rfl⟩, info_size (by kernel_rfl)⟩
instance : ZeroT Tryz.prog 65 (.nilFunc) := ⟨info_zero (by kernel_rfl)⟩
instance : OneT Tryz.prog 66 := ⟨⟨_, Tryz.underlying66, rfl⟩, info_size (by kernel_rfl)⟩
instance : ZeroT Tryz.prog 66 (.nilFunc) := ⟨info_zero (by kernel_rfl)⟩
instance : OneT Tryz.prog 68 := ⟨⟨_, Tryz.underlying68, rfl⟩, info_size (by kernel_rfl)⟩
instance : ZeroT Tryz.prog 68 (.nilFunc) := ⟨info_zero (by kernel_rfl)⟩
instance : OneT Tryz.prog 69 := ⟨⟨_, Tryz.underlying69, rfl⟩, info_size (by kernel_rfl)⟩
instance : ZeroT Tryz.prog 69 (.nilFunc) := ⟨info_zero (by kernel_rfl)⟩
instance : OneT Tryz.prog 70 := ⟨⟨_, Tryz.underlying70, rfl⟩, info_size (by kernel_rfl)⟩
instance : ZeroT Tryz.prog 70 (.nilFunc) := ⟨info_zero (by kernel_rfl)⟩
instance : OneT Tryz.prog 71 := ⟨⟨_, Tryz.underlying71, rfl⟩, info_size (by kernel_rfl)⟩
instance : ZeroT Tryz.prog 71 (.nilFunc) := ⟨info_zero (by kernel_rfl)⟩
instance : PtrT Tryz.prog 72 := ⟨⟨_, Tryz.underlying72⟩⟩
instance : OneT Tryz.prog 72 := ⟨⟨_, Tryz.underlying72, rfl⟩, info_size (by kernel_rfl)⟩
instance : ZeroT Tryz.prog 72 (.pointer none) := ⟨info_zero (by kernel_rfl)⟩
instance : OneT Tryz.prog 73 := ⟨⟨_, Tryz.underlying73, rfl⟩, info_size (by kernel_rfl)⟩
instance : ZeroT Tryz.prog 73 (.nilFunc) := ⟨info_zero (by kernel_rfl)⟩
instance : OneT Tryz.prog 74 := ⟨⟨_, Tryz.underlying74, rfl⟩, info_size (by kernel_rfl)⟩
instance : ZeroT Tryz.prog 74 (.nilFunc) := ⟨info_zero (by kernel_rfl)⟩
instance : SliceT Tryz.prog 75 93 := ⟨Tryz.underlying75⟩
instance : RowT Tryz.prog 75 93 3 24 := ⟨Tryz.underlying75, info_parts_z (z := .agg #[.int .i64 0, .int .i64 0, .int .i64 0]) (by kernel_rfl) (by kernel_rfl), by decide⟩
instance : OneT Tryz.prog 75 := ⟨⟨_, Tryz.underlying75, rfl⟩, info_size (by kernel_rfl)⟩
instance : ZeroT Tryz.prog 75 (.slice none 0 0) := ⟨info_zero (by kernel_rfl)⟩
instance : RowZ Tryz.prog 75 93 3 24 [.int .i64 0, .int .i64 0, .int .i64 0] := ⟨inferInstance, rowz_of (v := .agg #[.int .i64 0, .int .i64 0, .int .i64 0]) (by kernel_rfl) rfl rfl⟩
instance : AggT Tryz.prog 76 7 := ⟨⟨_, Tryz.underlying76, rfl⟩, info_size (by kernel_rfl)⟩
instance : ZeroT Tryz.prog 76 (.agg #[.int .i64 0, .int .i64 0, .string .empty, .slice none 0 0, .int .i64 0, .slice none 0 0, .int .i64 0]) := ⟨info_zero (by kernel_rfl)⟩
instance : BuildT Tryz.prog 76 [.int .i64 0, .int .i64 0, .string .empty, .slice none 0 0, .int .i64 0, .slice none 0 0, .int .i64 0] [(0, 4), (4, 1), (5, 1), (6, 1)] := ⟨build_of (v := .agg #[.int .i64 0, .int .i64 0, .string .empty, .slice none 0 0, .int .i64 0, .slice none 0 0, .int .i64 0]) (by kernel_rfl) rfl, ⟨_, Tryz.underlying76, fun w => by kernel_rfl⟩⟩
instance : FieldT Tryz.prog 76 0 0 := ⟨field_of Tryz.underlying76 rfl rfl (n := 4) (by kernel_rfl) (by decide)⟩
instance : FieldT Tryz.prog 76 1 4 := ⟨field_of Tryz.underlying76 rfl rfl (n := 1) (by kernel_rfl) (by decide)⟩
instance : FieldT Tryz.prog 76 2 5 := ⟨field_of Tryz.underlying76 rfl rfl (n := 1) (by kernel_rfl) (by decide)⟩
instance : FieldT Tryz.prog 76 3 6 := ⟨field_of Tryz.underlying76 rfl rfl (n := 1) (by kernel_rfl) (by decide)⟩
instance : AggT Tryz.prog 77 7 := ⟨⟨_, Tryz.underlying77, rfl⟩, info_size (by kernel_rfl)⟩
instance : ZeroT Tryz.prog 77 (.agg #[.int .i64 0, .int .i64 0, .string .empty, .slice none 0 0, .int .i64 0, .slice none 0 0, .int .i64 0]) := ⟨info_zero (by kernel_rfl)⟩
instance : BuildT Tryz.prog 77 [.int .i64 0, .int .i64 0, .string .empty, .slice none 0 0, .int .i64 0, .slice none 0 0, .int .i64 0] [(0, 4), (4, 1), (5, 1), (6, 1)] := ⟨build_of (v := .agg #[.int .i64 0, .int .i64 0, .string .empty, .slice none 0 0, .int .i64 0, .slice none 0 0, .int .i64 0]) (by kernel_rfl) rfl, ⟨_, Tryz.underlying77, fun w => by kernel_rfl⟩⟩
instance : FieldT Tryz.prog 77 0 0 := ⟨field_of Tryz.underlying77 rfl rfl (n := 4) (by kernel_rfl) (by decide)⟩
instance : FieldT Tryz.prog 77 1 4 := ⟨field_of Tryz.underlying77 rfl rfl (n := 1) (by kernel_rfl) (by decide)⟩
instance : FieldT Tryz.prog 77 2 5 := ⟨field_of Tryz.underlying77 rfl rfl (n := 1) (by kernel_rfl) (by decide)⟩
instance : FieldT Tryz.prog 77 3 6 := ⟨field_of Tryz.underlying77 rfl rfl (n := 1) (by kernel_rfl) (by decide)⟩
instance : OneT Tryz.prog 79 := ⟨⟨_, Tryz.underlying79, rfl⟩, info_size (by kernel_rfl)⟩
instance : ZeroT Tryz.prog 79 (.nilFunc) := ⟨info_zero (by kernel_rfl)⟩
instance : OneT Tryz.prog 80 := ⟨⟨_, Tryz.underlying80, rfl⟩, info_size (by kernel_rfl)⟩
instance : ZeroT Tryz.prog 80 (.nilFunc) := ⟨info_zero (by kernel_rfl)⟩
instance : PtrT Tryz.prog 81 := ⟨⟨_, Tryz.underlying81⟩⟩
instance : OneT Tryz.prog 81 := ⟨⟨_, Tryz.underlying81, rfl⟩, info_size (by kernel_rfl)⟩
instance : ZeroT Tryz.prog 81 (.pointer none) := ⟨info_zero (by kernel_rfl)⟩
instance : PtrT Tryz.prog 82 := ⟨⟨_, Tryz.underlying82⟩⟩
instance : OneT Tryz.prog 82 := ⟨⟨_, Tryz.underlying82, rfl⟩, info_size (by kernel_rfl)⟩
instance : ZeroT Tryz.prog 82 (.pointer none) := ⟨info_zero (by kernel_rfl)⟩
instance : OneT Tryz.prog 83 := ⟨⟨_, Tryz.underlying83, rfl⟩, info_size (by kernel_rfl)⟩
instance : ZeroT Tryz.prog 83 (.nilFunc) := ⟨info_zero (by kernel_rfl)⟩
instance : AggT Tryz.prog 84 4 := ⟨⟨_, Tryz.underlying84, rfl⟩, info_size (by kernel_rfl)⟩
instance : ZeroT Tryz.prog 84 (.agg #[.slice none 0 0, .slice none 0 0, .slice none 0 0, .pointer none]) := ⟨info_zero (by kernel_rfl)⟩
instance : BuildT Tryz.prog 84 [.slice none 0 0, .slice none 0 0, .slice none 0 0, .pointer none] [(0, 1), (1, 1), (2, 1), (3, 1)] := ⟨build_of (v := .agg #[.slice none 0 0, .slice none 0 0, .slice none 0 0, .pointer none]) (by kernel_rfl) rfl, ⟨_, Tryz.underlying84, fun w => by kernel_rfl⟩⟩
instance : FieldT Tryz.prog 84 0 0 := ⟨field_of Tryz.underlying84 rfl rfl (n := 1) (by kernel_rfl) (by decide)⟩
instance : FieldT Tryz.prog 84 1 1 := ⟨field_of Tryz.underlying84 rfl rfl (n := 1) (by kernel_rfl) (by decide)⟩
instance : FieldT Tryz.prog 84 2 2 := ⟨field_of Tryz.underlying84 rfl rfl (n := 1) (by kernel_rfl) (by decide)⟩
instance : FieldT Tryz.prog 84 3 3 := ⟨field_of Tryz.underlying84 rfl rfl (n := 1) (by kernel_rfl) (by decide)⟩
instance : AggT Tryz.prog 85 4 := ⟨⟨_, Tryz.underlying85, rfl⟩, info_size (by kernel_rfl)⟩
instance : ZeroT Tryz.prog 85 (.agg #[.slice none 0 0, .slice none 0 0, .slice none 0 0, .pointer none]) := ⟨info_zero (by kernel_rfl)⟩
instance : BuildT Tryz.prog 85 [.slice none 0 0, .slice none 0 0, .slice none 0 0, .pointer none] [(0, 1), (1, 1), (2, 1), (3, 1)] := ⟨build_of (v := .agg #[.slice none 0 0, .slice none 0 0, .slice none 0 0, .pointer none]) (by kernel_rfl) rfl, ⟨_, Tryz.underlying85, fun w => by kernel_rfl⟩⟩
instance : FieldT Tryz.prog 85 0 0 := ⟨field_of Tryz.underlying85 rfl rfl (n := 1) (by kernel_rfl) (by decide)⟩
instance : FieldT Tryz.prog 85 1 1 := ⟨field_of Tryz.underlying85 rfl rfl (n := 1) (by kernel_rfl) (by decide)⟩
instance : FieldT Tryz.prog 85 2 2 := ⟨field_of Tryz.underlying85 rfl rfl (n := 1) (by kernel_rfl) (by decide)⟩
instance : FieldT Tryz.prog 85 3 3 := ⟨field_of Tryz.underlying85 rfl rfl (n := 1) (by kernel_rfl) (by decide)⟩
instance : PtrT Tryz.prog 86 := ⟨⟨_, Tryz.underlying86⟩⟩
instance : OneT Tryz.prog 86 := ⟨⟨_, Tryz.underlying86, rfl⟩, info_size (by kernel_rfl)⟩
instance : ZeroT Tryz.prog 86 (.pointer none) := ⟨info_zero (by kernel_rfl)⟩
instance : OneT Tryz.prog 87 := ⟨⟨_, Tryz.underlying87, rfl⟩, info_size (by kernel_rfl)⟩
instance : ZeroT Tryz.prog 87 (.nilFunc) := ⟨info_zero (by kernel_rfl)⟩
instance : OneT Tryz.prog 88 := ⟨⟨_, Tryz.underlying88, rfl⟩, info_size (by kernel_rfl)⟩
instance : ZeroT Tryz.prog 88 (.nilFunc) := ⟨info_zero (by kernel_rfl)⟩
instance : OneT Tryz.prog 89 := ⟨⟨_, Tryz.underlying89, rfl⟩, info_size (by kernel_rfl)⟩
instance : ZeroT Tryz.prog 89 (.nilFunc) := ⟨info_zero (by kernel_rfl)⟩
instance : OneT Tryz.prog 90 := ⟨⟨_, Tryz.underlying90, rfl⟩, info_size (by kernel_rfl)⟩
instance : ZeroT Tryz.prog 90 (.nilFunc) := ⟨info_zero (by kernel_rfl)⟩
instance : OneT Tryz.prog 92 := ⟨⟨_, Tryz.underlying92, rfl⟩, info_size (by kernel_rfl)⟩
instance : ZeroT Tryz.prog 92 (.nilFunc) := ⟨info_zero (by kernel_rfl)⟩
instance : AggT Tryz.prog 93 3 := ⟨⟨_, Tryz.underlying93, rfl⟩, info_size (by kernel_rfl)⟩
instance : ArrT Tryz.prog 93 3 3 1 := ⟨Tryz.underlying93, info_size (by kernel_rfl)⟩
instance : ZeroT Tryz.prog 93 (.agg #[.int .i64 0, .int .i64 0, .int .i64 0]) := ⟨info_zero (by kernel_rfl)⟩
instance : AggT Tryz.prog 94 1 := ⟨⟨_, Tryz.underlying94, rfl⟩, info_size (by kernel_rfl)⟩
instance : ZeroT Tryz.prog 94 (.agg #[.slice none 0 0]) := ⟨info_zero (by kernel_rfl)⟩
instance : BuildT Tryz.prog 94 [.slice none 0 0] [(0, 1)] := ⟨build_of (v := .agg #[.slice none 0 0]) (by kernel_rfl) rfl, ⟨_, Tryz.underlying94, fun w => by kernel_rfl⟩⟩
instance : FieldT Tryz.prog 94 0 0 := ⟨field_of Tryz.underlying94 rfl rfl (n := 1) (by kernel_rfl) (by decide)⟩
instance : AggT Tryz.prog 95 1 := ⟨⟨_, Tryz.underlying95, rfl⟩, info_size (by kernel_rfl)⟩
instance : ZeroT Tryz.prog 95 (.agg #[.slice none 0 0]) := ⟨info_zero (by kernel_rfl)⟩
instance : BuildT Tryz.prog 95 [.slice none 0 0] [(0, 1)] := ⟨build_of (v := .agg #[.slice none 0 0]) (by kernel_rfl) rfl, ⟨_, Tryz.underlying95, fun w => by kernel_rfl⟩⟩
instance : FieldT Tryz.prog 95 0 0 := ⟨field_of Tryz.underlying95 rfl rfl (n := 1) (by kernel_rfl) (by decide)⟩
instance : OneT Tryz.prog 96 := ⟨⟨_, Tryz.underlying96, rfl⟩, info_size (by kernel_rfl)⟩
instance : ZeroT Tryz.prog 96 (.nilFunc) := ⟨info_zero (by kernel_rfl)⟩
instance : OneT Tryz.prog 97 := ⟨⟨_, Tryz.underlying97, rfl⟩, info_size (by kernel_rfl)⟩
instance : ZeroT Tryz.prog 97 (.nilFunc) := ⟨info_zero (by kernel_rfl)⟩
instance : PtrT Tryz.prog 98 := ⟨⟨_, Tryz.underlying98⟩⟩
instance : OneT Tryz.prog 98 := ⟨⟨_, Tryz.underlying98, rfl⟩, info_size (by kernel_rfl)⟩
instance : ZeroT Tryz.prog 98 (.pointer none) := ⟨info_zero (by kernel_rfl)⟩
instance : OneT Tryz.prog 99 := ⟨⟨_, Tryz.underlying99, rfl⟩, info_size (by kernel_rfl)⟩
instance : ZeroT Tryz.prog 99 (.nilFunc) := ⟨info_zero (by kernel_rfl)⟩
instance : PtrT Tryz.prog 100 := ⟨⟨_, Tryz.underlying100⟩⟩
instance : OneT Tryz.prog 100 := ⟨⟨_, Tryz.underlying100, rfl⟩, info_size (by kernel_rfl)⟩
instance : ZeroT Tryz.prog 100 (.pointer none) := ⟨info_zero (by kernel_rfl)⟩
instance : AggT Tryz.prog 101 3 := ⟨⟨_, Tryz.underlying101, rfl⟩, info_size (by kernel_rfl)⟩
instance : ZeroT Tryz.prog 101 (.agg #[.pointer none, .int .i64 0, .bool false]) := ⟨info_zero (by kernel_rfl)⟩
instance : BuildT Tryz.prog 101 [.pointer none, .int .i64 0, .bool false] [(0, 1), (1, 1), (2, 1)] := ⟨build_of (v := .agg #[.pointer none, .int .i64 0, .bool false]) (by kernel_rfl) rfl, ⟨_, Tryz.underlying101, fun w => by kernel_rfl⟩⟩
instance : FieldT Tryz.prog 101 0 0 := ⟨field_of Tryz.underlying101 rfl rfl (n := 1) (by kernel_rfl) (by decide)⟩
instance : FieldT Tryz.prog 101 1 1 := ⟨field_of Tryz.underlying101 rfl rfl (n := 1) (by kernel_rfl) (by decide)⟩
instance : FieldT Tryz.prog 101 2 2 := ⟨field_of Tryz.underlying101 rfl rfl (n := 1) (by kernel_rfl) (by decide)⟩
instance : AggT Tryz.prog 102 3 := ⟨⟨_, Tryz.underlying102, rfl⟩, info_size (by kernel_rfl)⟩
instance : ZeroT Tryz.prog 102 (.agg #[.pointer none, .int .i64 0, .bool false]) := ⟨info_zero (by kernel_rfl)⟩
instance : BuildT Tryz.prog 102 [.pointer none, .int .i64 0, .bool false] [(0, 1), (1, 1), (2, 1)] := ⟨build_of (v := .agg #[.pointer none, .int .i64 0, .bool false]) (by kernel_rfl) rfl, ⟨_, Tryz.underlying102, fun w => by kernel_rfl⟩⟩
instance : FieldT Tryz.prog 102 0 0 := ⟨field_of Tryz.underlying102 rfl rfl (n := 1) (by kernel_rfl) (by decide)⟩
instance : FieldT Tryz.prog 102 1 1 := ⟨field_of Tryz.underlying102 rfl rfl (n := 1) (by kernel_rfl) (by decide)⟩
instance : FieldT Tryz.prog 102 2 2 := ⟨field_of Tryz.underlying102 rfl rfl (n := 1) (by kernel_rfl) (by decide)⟩
instance : OneT Tryz.prog 103 := ⟨⟨_, Tryz.underlying103, rfl⟩, info_size (by kernel_rfl)⟩
instance : ZeroT Tryz.prog 103 (.nilFunc) := ⟨info_zero (by kernel_rfl)⟩
instance : OneT Tryz.prog 104 := ⟨⟨_, Tryz.underlying104, rfl⟩, info_size (by kernel_rfl)⟩
instance : ZeroT Tryz.prog 104 (.nilFunc) := ⟨info_zero (by kernel_rfl)⟩
instance : OneT Tryz.prog 105 := ⟨⟨_, Tryz.underlying105, rfl⟩, info_size (by kernel_rfl)⟩
instance : ZeroT Tryz.prog 105 (.nilFunc) := ⟨info_zero (by kernel_rfl)⟩
instance : AggT Tryz.prog 106 2 := ⟨⟨_, Tryz.underlying106, rfl⟩, info_size (by kernel_rfl)⟩
instance : ZeroT Tryz.prog 106 (.agg #[.slice none 0 0, .int .i64 0]) := ⟨info_zero (by kernel_rfl)⟩
instance : BuildT Tryz.prog 106 [.slice none 0 0, .int .i64 0] [(0, 1), (1, 1)] := ⟨build_of (v := .agg #[.slice none 0 0, .int .i64 0]) (by kernel_rfl) rfl, ⟨_, Tryz.underlying106, fun w => by kernel_rfl⟩⟩
instance : FieldT Tryz.prog 106 0 0 := ⟨field_of Tryz.underlying106 rfl rfl (n := 1) (by kernel_rfl) (by decide)⟩
instance : FieldT Tryz.prog 106 1 1 := ⟨field_of Tryz.underlying106 rfl rfl (n := 1) (by kernel_rfl) (by decide)⟩
instance : AggT Tryz.prog 107 2 := ⟨⟨_, Tryz.underlying107, rfl⟩, info_size (by kernel_rfl)⟩
instance : ZeroT Tryz.prog 107 (.agg #[.slice none 0 0, .int .i64 0]) := ⟨info_zero (by kernel_rfl)⟩
instance : BuildT Tryz.prog 107 [.slice none 0 0, .int .i64 0] [(0, 1), (1, 1)] := ⟨build_of (v := .agg #[.slice none 0 0, .int .i64 0]) (by kernel_rfl) rfl, ⟨_, Tryz.underlying107, fun w => by kernel_rfl⟩⟩
instance : FieldT Tryz.prog 107 0 0 := ⟨field_of Tryz.underlying107 rfl rfl (n := 1) (by kernel_rfl) (by decide)⟩
instance : FieldT Tryz.prog 107 1 1 := ⟨field_of Tryz.underlying107 rfl rfl (n := 1) (by kernel_rfl) (by decide)⟩
instance : OneT Tryz.prog 108 := ⟨⟨_, Tryz.underlying108, rfl⟩, info_size (by kernel_rfl)⟩
instance : ZeroT Tryz.prog 108 (.nilFunc) := ⟨info_zero (by kernel_rfl)⟩
instance : OneT Tryz.prog 109 := ⟨⟨_, Tryz.underlying109, rfl⟩, info_size (by kernel_rfl)⟩
instance : ZeroT Tryz.prog 109 (.nilFunc) := ⟨info_zero (by kernel_rfl)⟩
instance : OneT Tryz.prog 110 := ⟨⟨_, Tryz.underlying110, rfl⟩, info_size (by kernel_rfl)⟩
instance : ZeroT Tryz.prog 110 (.nilFunc) := ⟨info_zero (by kernel_rfl)⟩
instance : IntT Tryz.prog 111 .u64 := ⟨Tryz.underlying111⟩
instance : OneT Tryz.prog 111 := ⟨⟨_, Tryz.underlying111, rfl⟩, info_size (by kernel_rfl)⟩
instance : ZeroT Tryz.prog 111 (.int .u64 0) := ⟨info_zero (by kernel_rfl)⟩
instance : OneT Tryz.prog 112 := ⟨⟨_, Tryz.underlying112, rfl⟩, info_size (by kernel_rfl)⟩
instance : ZeroT Tryz.prog 112 (.nilFunc) := ⟨info_zero (by kernel_rfl)⟩
instance : IntT Tryz.prog 113 .u64 := ⟨Tryz.underlying113⟩
instance : OneT Tryz.prog 113 := ⟨⟨_, Tryz.underlying113, rfl⟩, info_size (by kernel_rfl)⟩
instance : ZeroT Tryz.prog 113 (.int .u64 0) := ⟨info_zero (by kernel_rfl)⟩
instance : OneT Tryz.prog 115 := ⟨⟨_, Tryz.underlying115, rfl⟩, info_size (by kernel_rfl)⟩
instance : ZeroT Tryz.prog 115 (.nilFunc) := ⟨info_zero (by kernel_rfl)⟩
instance : OneT Tryz.prog 116 := ⟨⟨_, Tryz.underlying116, rfl⟩, info_size (by kernel_rfl)⟩
instance : ZeroT Tryz.prog 116 (.nilFunc) := ⟨info_zero (by kernel_rfl)⟩
instance : OneT Tryz.prog 117 := ⟨⟨_, Tryz.underlying117, rfl⟩, info_size (by kernel_rfl)⟩
instance : ZeroT Tryz.prog 117 (.nilFunc) := ⟨info_zero (by kernel_rfl)⟩
instance : OneT Tryz.prog 118 := ⟨⟨_, Tryz.underlying118, rfl⟩, info_size (by kernel_rfl)⟩
instance : ZeroT Tryz.prog 118 (.nilFunc) := ⟨info_zero (by kernel_rfl)⟩
instance : OneT Tryz.prog 119 := ⟨⟨_, Tryz.underlying119, rfl⟩, info_size (by kernel_rfl)⟩
instance : ZeroT Tryz.prog 119 (.nilFunc) := ⟨info_zero (by kernel_rfl)⟩
instance : OneT Tryz.prog 120 := ⟨⟨_, Tryz.underlying120, rfl⟩, info_size (by kernel_rfl)⟩
instance : ZeroT Tryz.prog 120 (.nilFunc) := ⟨info_zero (by kernel_rfl)⟩
instance : OneT Tryz.prog 121 := ⟨⟨_, Tryz.underlying121, rfl⟩, info_size (by kernel_rfl)⟩
instance : ZeroT Tryz.prog 121 (.nilFunc) := ⟨info_zero (by kernel_rfl)⟩
instance : OneT Tryz.prog 122 := ⟨⟨_, Tryz.underlying122, rfl⟩, info_size (by kernel_rfl)⟩
instance : ZeroT Tryz.prog 122 (.nilFunc) := ⟨info_zero (by kernel_rfl)⟩
instance : OneT Tryz.prog 123 := ⟨⟨_, Tryz.underlying123, rfl⟩, info_size (by kernel_rfl)⟩
instance : ZeroT Tryz.prog 123 (.nilFunc) := ⟨info_zero (by kernel_rfl)⟩
instance : OneT Tryz.prog 124 := ⟨⟨_, Tryz.underlying124, rfl⟩, info_size (by kernel_rfl)⟩
instance : ZeroT Tryz.prog 124 (.nilFunc) := ⟨info_zero (by kernel_rfl)⟩
instance : OneT Tryz.prog 125 := ⟨⟨_, Tryz.underlying125, rfl⟩, info_size (by kernel_rfl)⟩
instance : ZeroT Tryz.prog 125 (.nilFunc) := ⟨info_zero (by kernel_rfl)⟩
instance : OneT Tryz.prog 126 := ⟨⟨_, Tryz.underlying126, rfl⟩, info_size (by kernel_rfl)⟩
instance : ZeroT Tryz.prog 126 (.nilFunc) := ⟨info_zero (by kernel_rfl)⟩
instance : OneT Tryz.prog 127 := ⟨⟨_, Tryz.underlying127, rfl⟩, info_size (by kernel_rfl)⟩
instance : ZeroT Tryz.prog 127 (.nilFunc) := ⟨info_zero (by kernel_rfl)⟩
instance : OneT Tryz.prog 128 := ⟨⟨_, Tryz.underlying128, rfl⟩, info_size (by kernel_rfl)⟩
instance : ZeroT Tryz.prog 128 (.nilFunc) := ⟨info_zero (by kernel_rfl)⟩
instance : OneT Tryz.prog 129 := ⟨⟨_, Tryz.underlying129, rfl⟩, info_size (by kernel_rfl)⟩
instance : ZeroT Tryz.prog 129 (.nilFunc) := ⟨info_zero (by kernel_rfl)⟩
instance : OneT Tryz.prog 130 := ⟨⟨_, Tryz.underlying130, rfl⟩, info_size (by kernel_rfl)⟩
instance : ZeroT Tryz.prog 130 (.nilFunc) := ⟨info_zero (by kernel_rfl)⟩
instance : OneT Tryz.prog 131 := ⟨⟨_, Tryz.underlying131, rfl⟩, info_size (by kernel_rfl)⟩
instance : ZeroT Tryz.prog 131 (.nilFunc) := ⟨info_zero (by kernel_rfl)⟩
instance : AggT Tryz.prog 132 3 := ⟨⟨_, Tryz.underlying132, rfl⟩, info_size (by kernel_rfl)⟩
instance : ZeroT Tryz.prog 132 (.agg #[.pointer none, .slice none 0 0, .slice none 0 0]) := ⟨info_zero (by kernel_rfl)⟩
instance : BuildT Tryz.prog 132 [.pointer none, .slice none 0 0, .slice none 0 0] [(0, 1), (1, 1), (2, 1)] := ⟨build_of (v := .agg #[.pointer none, .slice none 0 0, .slice none 0 0]) (by kernel_rfl) rfl, ⟨_, Tryz.underlying132, fun w => by kernel_rfl⟩⟩
instance : FieldT Tryz.prog 132 0 0 := ⟨field_of Tryz.underlying132 rfl rfl (n := 1) (by kernel_rfl) (by decide)⟩
instance : FieldT Tryz.prog 132 1 1 := ⟨field_of Tryz.underlying132 rfl rfl (n := 1) (by kernel_rfl) (by decide)⟩
instance : FieldT Tryz.prog 132 2 2 := ⟨field_of Tryz.underlying132 rfl rfl (n := 1) (by kernel_rfl) (by decide)⟩
instance : AggT Tryz.prog 133 3 := ⟨⟨_, Tryz.underlying133, rfl⟩, info_size (by kernel_rfl)⟩
instance : ZeroT Tryz.prog 133 (.agg #[.pointer none, .slice none 0 0, .slice none 0 0]) := ⟨info_zero (by kernel_rfl)⟩
instance : BuildT Tryz.prog 133 [.pointer none, .slice none 0 0, .slice none 0 0] [(0, 1), (1, 1), (2, 1)] := ⟨build_of (v := .agg #[.pointer none, .slice none 0 0, .slice none 0 0]) (by kernel_rfl) rfl, ⟨_, Tryz.underlying133, fun w => by kernel_rfl⟩⟩
instance : FieldT Tryz.prog 133 0 0 := ⟨field_of Tryz.underlying133 rfl rfl (n := 1) (by kernel_rfl) (by decide)⟩
instance : FieldT Tryz.prog 133 1 1 := ⟨field_of Tryz.underlying133 rfl rfl (n := 1) (by kernel_rfl) (by decide)⟩
instance : FieldT Tryz.prog 133 2 2 := ⟨field_of Tryz.underlying133 rfl rfl (n := 1) (by kernel_rfl) (by decide)⟩
instance : OneT Tryz.prog 134 := ⟨⟨_, Tryz.underlying134, rfl⟩, info_size (by kernel_rfl)⟩
instance : ZeroT Tryz.prog 134 (.nilFunc) := ⟨info_zero (by kernel_rfl)⟩
instance : OneT Tryz.prog 135 := ⟨⟨_, Tryz.underlying135, rfl⟩, info_size (by kernel_rfl)⟩
instance : ZeroT Tryz.prog 135 (.nilFunc) := ⟨info_zero (by kernel_rfl)⟩
instance : OneT Tryz.prog 136 := ⟨⟨_, Tryz.underlying136, rfl⟩, info_size (by kernel_rfl)⟩
instance : ZeroT Tryz.prog 136 (.nilFunc) := ⟨info_zero (by kernel_rfl)⟩
instance : OneT Tryz.prog 137 := ⟨⟨_, Tryz.underlying137, rfl⟩, info_size (by kernel_rfl)⟩
instance : ZeroT Tryz.prog 137 (.nilFunc) := ⟨info_zero (by kernel_rfl)⟩
instance : SliceT Tryz.prog 138 31 := ⟨Tryz.underlying138⟩
instance : RowT Tryz.prog 138 31 1 24 := ⟨Tryz.underlying138, info_parts_z (z := .slice none 0 0) (by kernel_rfl) (by kernel_rfl), by decide⟩
instance : OneT Tryz.prog 138 := ⟨⟨_, Tryz.underlying138, rfl⟩, info_size (by kernel_rfl)⟩
instance : ZeroT Tryz.prog 138 (.slice none 0 0) := ⟨info_zero (by kernel_rfl)⟩
instance : RowZ Tryz.prog 138 31 1 24 [.slice none 0 0] := ⟨inferInstance, rowz_of (v := .slice none 0 0) (by kernel_rfl) rfl rfl⟩
instance : AggT Tryz.prog 139 4 := ⟨⟨_, Tryz.underlying139, rfl⟩, info_size (by kernel_rfl)⟩
instance : ZeroT Tryz.prog 139 (.agg #[.slice none 0 0, .slice none 0 0, .slice none 0 0, .slice none 0 0]) := ⟨info_zero (by kernel_rfl)⟩
instance : BuildT Tryz.prog 139 [.slice none 0 0, .slice none 0 0, .slice none 0 0, .slice none 0 0] [(0, 1), (1, 1), (2, 1), (3, 1)] := ⟨build_of (v := .agg #[.slice none 0 0, .slice none 0 0, .slice none 0 0, .slice none 0 0]) (by kernel_rfl) rfl, ⟨_, Tryz.underlying139, fun w => by kernel_rfl⟩⟩
instance : FieldT Tryz.prog 139 0 0 := ⟨field_of Tryz.underlying139 rfl rfl (n := 1) (by kernel_rfl) (by decide)⟩
instance : FieldT Tryz.prog 139 1 1 := ⟨field_of Tryz.underlying139 rfl rfl (n := 1) (by kernel_rfl) (by decide)⟩
instance : FieldT Tryz.prog 139 2 2 := ⟨field_of Tryz.underlying139 rfl rfl (n := 1) (by kernel_rfl) (by decide)⟩
instance : FieldT Tryz.prog 139 3 3 := ⟨field_of Tryz.underlying139 rfl rfl (n := 1) (by kernel_rfl) (by decide)⟩
instance : AggT Tryz.prog 140 4 := ⟨⟨_, Tryz.underlying140, rfl⟩, info_size (by kernel_rfl)⟩
instance : ZeroT Tryz.prog 140 (.agg #[.slice none 0 0, .slice none 0 0, .slice none 0 0, .slice none 0 0]) := ⟨info_zero (by kernel_rfl)⟩
instance : BuildT Tryz.prog 140 [.slice none 0 0, .slice none 0 0, .slice none 0 0, .slice none 0 0] [(0, 1), (1, 1), (2, 1), (3, 1)] := ⟨build_of (v := .agg #[.slice none 0 0, .slice none 0 0, .slice none 0 0, .slice none 0 0]) (by kernel_rfl) rfl, ⟨_, Tryz.underlying140, fun w => by kernel_rfl⟩⟩
instance : FieldT Tryz.prog 140 0 0 := ⟨field_of Tryz.underlying140 rfl rfl (n := 1) (by kernel_rfl) (by decide)⟩
instance : FieldT Tryz.prog 140 1 1 := ⟨field_of Tryz.underlying140 rfl rfl (n := 1) (by kernel_rfl) (by decide)⟩
instance : FieldT Tryz.prog 140 2 2 := ⟨field_of Tryz.underlying140 rfl rfl (n := 1) (by kernel_rfl) (by decide)⟩
instance : FieldT Tryz.prog 140 3 3 := ⟨field_of Tryz.underlying140 rfl rfl (n := 1) (by kernel_rfl) (by decide)⟩
instance : OneT Tryz.prog 141 := ⟨⟨_, Tryz.underlying141, rfl⟩, info_size (by kernel_rfl)⟩
instance : ZeroT Tryz.prog 141 (.nilFunc) := ⟨info_zero (by kernel_rfl)⟩
instance : OneT Tryz.prog 142 := ⟨⟨_, Tryz.underlying142, rfl⟩, info_size (by kernel_rfl)⟩
instance : ZeroT Tryz.prog 142 (.nilFunc) := ⟨info_zero (by kernel_rfl)⟩
instance : OneT Tryz.prog 143 := ⟨⟨_, Tryz.underlying143, rfl⟩, info_size (by kernel_rfl)⟩
instance : ZeroT Tryz.prog 143 (.nilFunc) := ⟨info_zero (by kernel_rfl)⟩
instance : OneT Tryz.prog 144 := ⟨⟨_, Tryz.underlying144, rfl⟩, info_size (by kernel_rfl)⟩
instance : ZeroT Tryz.prog 144 (.nilFunc) := ⟨info_zero (by kernel_rfl)⟩
instance : OneT Tryz.prog 145 := ⟨⟨_, Tryz.underlying145, rfl⟩, info_size (by kernel_rfl)⟩
instance : ZeroT Tryz.prog 145 (.nilFunc) := ⟨info_zero (by kernel_rfl)⟩
instance : OneT Tryz.prog 146 := ⟨⟨_, Tryz.underlying146, rfl⟩, info_size (by kernel_rfl)⟩
instance : ZeroT Tryz.prog 146 (.nilFunc) := ⟨info_zero (by kernel_rfl)⟩
instance : OneT Tryz.prog 147 := ⟨⟨_, Tryz.underlying147, rfl⟩, info_size (by kernel_rfl)⟩
instance : ZeroT Tryz.prog 147 (.nilFunc) := ⟨info_zero (by kernel_rfl)⟩
instance : OneT Tryz.prog 148 := ⟨⟨_, Tryz.underlying148, rfl⟩, info_size (by kernel_rfl)⟩
instance : ZeroT Tryz.prog 148 (.nilFunc) := ⟨info_zero (by kernel_rfl)⟩
instance : OneT Tryz.prog 149 := ⟨⟨_, Tryz.underlying149, rfl⟩, info_size (by kernel_rfl)⟩
instance : ZeroT Tryz.prog 149 (.nilFunc) := ⟨info_zero (by kernel_rfl)⟩
instance : OneT Tryz.prog 150 := ⟨⟨_, Tryz.underlying150, rfl⟩, info_size (by kernel_rfl)⟩
instance : ZeroT Tryz.prog 150 (.nilFunc) := ⟨info_zero (by kernel_rfl)⟩
instance : OneT Tryz.prog 151 := ⟨⟨_, Tryz.underlying151, rfl⟩, info_size (by kernel_rfl)⟩
instance : ZeroT Tryz.prog 151 (.nilFunc) := ⟨info_zero (by kernel_rfl)⟩
instance : OneT Tryz.prog 152 := ⟨⟨_, Tryz.underlying152, rfl⟩, info_size (by kernel_rfl)⟩
instance : ZeroT Tryz.prog 152 (.nilFunc) := ⟨info_zero (by kernel_rfl)⟩
instance : OneT Tryz.prog 153 := ⟨⟨_, Tryz.underlying153, rfl⟩, info_size (by kernel_rfl)⟩
instance : ZeroT Tryz.prog 153 (.nilFunc) := ⟨info_zero (by kernel_rfl)⟩
instance : OneT Tryz.prog 154 := ⟨⟨_, Tryz.underlying154, rfl⟩, info_size (by kernel_rfl)⟩
instance : ZeroT Tryz.prog 154 (.nilFunc) := ⟨info_zero (by kernel_rfl)⟩
instance : OneT Tryz.prog 155 := ⟨⟨_, Tryz.underlying155, rfl⟩, info_size (by kernel_rfl)⟩
instance : ZeroT Tryz.prog 155 (.nilFunc) := ⟨info_zero (by kernel_rfl)⟩
instance : OneT Tryz.prog 156 := ⟨⟨_, Tryz.underlying156, rfl⟩, info_size (by kernel_rfl)⟩
instance : ZeroT Tryz.prog 156 (.nilFunc) := ⟨info_zero (by kernel_rfl)⟩
instance : OneT Tryz.prog 157 := ⟨⟨_, Tryz.underlying157, rfl⟩, info_size (by kernel_rfl)⟩
instance : ZeroT Tryz.prog 157 (.nilFunc) := ⟨info_zero (by kernel_rfl)⟩
instance : SliceT Tryz.prog 158 161 := ⟨Tryz.underlying158⟩
instance : RowT Tryz.prog 158 161 2 32 := ⟨Tryz.underlying158, info_parts_z (z := .agg #[.slice none 0 0, .bool false]) (by kernel_rfl) (by kernel_rfl), by decide⟩
instance : OneT Tryz.prog 158 := ⟨⟨_, Tryz.underlying158, rfl⟩, info_size (by kernel_rfl)⟩
instance : ZeroT Tryz.prog 158 (.slice none 0 0) := ⟨info_zero (by kernel_rfl)⟩
instance : RowZ Tryz.prog 158 161 2 32 [.slice none 0 0, .bool false] := ⟨inferInstance, rowz_of (v := .agg #[.slice none 0 0, .bool false]) (by kernel_rfl) rfl rfl⟩
instance : OneT Tryz.prog 159 := ⟨⟨_, Tryz.underlying159, rfl⟩, info_size (by kernel_rfl)⟩
instance : ZeroT Tryz.prog 159 (.nilFunc) := ⟨info_zero (by kernel_rfl)⟩
instance : AggT Tryz.prog 160 2 := ⟨⟨_, Tryz.underlying160, rfl⟩, info_size (by kernel_rfl)⟩
instance : ZeroT Tryz.prog 160 (.agg #[.slice none 0 0, .bool false]) := ⟨info_zero (by kernel_rfl)⟩
instance : BuildT Tryz.prog 160 [.slice none 0 0, .bool false] [(0, 1), (1, 1)] := ⟨build_of (v := .agg #[.slice none 0 0, .bool false]) (by kernel_rfl) rfl, ⟨_, Tryz.underlying160, fun w => by kernel_rfl⟩⟩
instance : FieldT Tryz.prog 160 0 0 := ⟨field_of Tryz.underlying160 rfl rfl (n := 1) (by kernel_rfl) (by decide)⟩
instance : FieldT Tryz.prog 160 1 1 := ⟨field_of Tryz.underlying160 rfl rfl (n := 1) (by kernel_rfl) (by decide)⟩
instance : AggT Tryz.prog 161 2 := ⟨⟨_, Tryz.underlying161, rfl⟩, info_size (by kernel_rfl)⟩
instance : ZeroT Tryz.prog 161 (.agg #[.slice none 0 0, .bool false]) := ⟨info_zero (by kernel_rfl)⟩
instance : BuildT Tryz.prog 161 [.slice none 0 0, .bool false] [(0, 1), (1, 1)] := ⟨build_of (v := .agg #[.slice none 0 0, .bool false]) (by kernel_rfl) rfl, ⟨_, Tryz.underlying161, fun w => by kernel_rfl⟩⟩
instance : FieldT Tryz.prog 161 0 0 := ⟨field_of Tryz.underlying161 rfl rfl (n := 1) (by kernel_rfl) (by decide)⟩
instance : FieldT Tryz.prog 161 1 1 := ⟨field_of Tryz.underlying161 rfl rfl (n := 1) (by kernel_rfl) (by decide)⟩
instance : OneT Tryz.prog 162 := ⟨⟨_, Tryz.underlying162, rfl⟩, info_size (by kernel_rfl)⟩
instance : ZeroT Tryz.prog 162 (.nilFunc) := ⟨info_zero (by kernel_rfl)⟩
instance : OneT Tryz.prog 163 := ⟨⟨_, Tryz.underlying163, rfl⟩, info_size (by kernel_rfl)⟩
instance : ZeroT Tryz.prog 163 (.nilFunc) := ⟨info_zero (by kernel_rfl)⟩
instance : OneT Tryz.prog 164 := ⟨⟨_, Tryz.underlying164, rfl⟩, info_size (by kernel_rfl)⟩
instance : ZeroT Tryz.prog 164 (.nilFunc) := ⟨info_zero (by kernel_rfl)⟩
instance : OneT Tryz.prog 165 := ⟨⟨_, Tryz.underlying165, rfl⟩, info_size (by kernel_rfl)⟩
instance : ZeroT Tryz.prog 165 (.nilFunc) := ⟨info_zero (by kernel_rfl)⟩
instance : OneT Tryz.prog 166 := ⟨⟨_, Tryz.underlying166, rfl⟩, info_size (by kernel_rfl)⟩
instance : ZeroT Tryz.prog 166 (.nilFunc) := ⟨info_zero (by kernel_rfl)⟩
instance : AggT Tryz.prog 167 2 := ⟨⟨_, Tryz.underlying167, rfl⟩, info_size (by kernel_rfl)⟩
instance : ZeroT Tryz.prog 167 (.agg #[.int .i64 0, .int .i64 0]) := ⟨info_zero (by kernel_rfl)⟩
instance : BuildT Tryz.prog 167 [.int .i64 0, .int .i64 0] [(0, 1), (1, 1)] := ⟨build_of (v := .agg #[.int .i64 0, .int .i64 0]) (by kernel_rfl) rfl, ⟨_, Tryz.underlying167, fun w => by kernel_rfl⟩⟩
instance : FieldT Tryz.prog 167 0 0 := ⟨field_of Tryz.underlying167 rfl rfl (n := 1) (by kernel_rfl) (by decide)⟩
instance : FieldT Tryz.prog 167 1 1 := ⟨field_of Tryz.underlying167 rfl rfl (n := 1) (by kernel_rfl) (by decide)⟩
instance : AggT Tryz.prog 168 2 := ⟨⟨_, Tryz.underlying168, rfl⟩, info_size (by kernel_rfl)⟩
instance : ZeroT Tryz.prog 168 (.agg #[.int .i64 0, .int .i64 0]) := ⟨info_zero (by kernel_rfl)⟩
instance : BuildT Tryz.prog 168 [.int .i64 0, .int .i64 0] [(0, 1), (1, 1)] := ⟨build_of (v := .agg #[.int .i64 0, .int .i64 0]) (by kernel_rfl) rfl, ⟨_, Tryz.underlying168, fun w => by kernel_rfl⟩⟩
instance : FieldT Tryz.prog 168 0 0 := ⟨field_of Tryz.underlying168 rfl rfl (n := 1) (by kernel_rfl) (by decide)⟩
instance : FieldT Tryz.prog 168 1 1 := ⟨field_of Tryz.underlying168 rfl rfl (n := 1) (by kernel_rfl) (by decide)⟩
instance : OneT Tryz.prog 170 := ⟨⟨_, Tryz.underlying170, rfl⟩, info_size (by kernel_rfl)⟩
instance : ZeroT Tryz.prog 170 (.nilFunc) := ⟨info_zero (by kernel_rfl)⟩
instance : OneT Tryz.prog 171 := ⟨⟨_, Tryz.underlying171, rfl⟩, info_size (by kernel_rfl)⟩
instance : ZeroT Tryz.prog 171 (.nilFunc) := ⟨info_zero (by kernel_rfl)⟩
instance : OneT Tryz.prog 172 := ⟨⟨_, Tryz.underlying172, rfl⟩, info_size (by kernel_rfl)⟩
instance : ZeroT Tryz.prog 172 (.nilFunc) := ⟨info_zero (by kernel_rfl)⟩
instance : OneT Tryz.prog 173 := ⟨⟨_, Tryz.underlying173, rfl⟩, info_size (by kernel_rfl)⟩
instance : ZeroT Tryz.prog 173 (.nilFunc) := ⟨info_zero (by kernel_rfl)⟩
instance : OneT Tryz.prog 174 := ⟨⟨_, Tryz.underlying174, rfl⟩, info_size (by kernel_rfl)⟩
instance : ZeroT Tryz.prog 174 (.nilFunc) := ⟨info_zero (by kernel_rfl)⟩
instance : OneT Tryz.prog 175 := ⟨⟨_, Tryz.underlying175, rfl⟩, info_size (by kernel_rfl)⟩
instance : ZeroT Tryz.prog 175 (.nilFunc) := ⟨info_zero (by kernel_rfl)⟩
instance : OneT Tryz.prog 176 := ⟨⟨_, Tryz.underlying176, rfl⟩, info_size (by kernel_rfl)⟩
instance : ZeroT Tryz.prog 176 (.nilFunc) := ⟨info_zero (by kernel_rfl)⟩
instance : OneT Tryz.prog 177 := ⟨⟨_, Tryz.underlying177, rfl⟩, info_size (by kernel_rfl)⟩
instance : ZeroT Tryz.prog 177 (.nilFunc) := ⟨info_zero (by kernel_rfl)⟩
instance : OneT Tryz.prog 178 := ⟨⟨_, Tryz.underlying178, rfl⟩, info_size (by kernel_rfl)⟩
instance : ZeroT Tryz.prog 178 (.nilFunc) := ⟨info_zero (by kernel_rfl)⟩
instance : OneT Tryz.prog 179 := ⟨⟨_, Tryz.underlying179, rfl⟩, info_size (by kernel_rfl)⟩
instance : ZeroT Tryz.prog 179 (.nilFunc) := ⟨info_zero (by kernel_rfl)⟩
instance : OneT Tryz.prog 180 := ⟨⟨_, Tryz.underlying180, rfl⟩, info_size (by kernel_rfl)⟩
instance : ZeroT Tryz.prog 180 (.nilFunc) := ⟨info_zero (by kernel_rfl)⟩
instance : OneT Tryz.prog 181 := ⟨⟨_, Tryz.underlying181, rfl⟩, info_size (by kernel_rfl)⟩
instance : ZeroT Tryz.prog 181 (.nilFunc) := ⟨info_zero (by kernel_rfl)⟩
instance : OneT Tryz.prog 182 := ⟨⟨_, Tryz.underlying182, rfl⟩, info_size (by kernel_rfl)⟩
instance : ZeroT Tryz.prog 182 (.nilFunc) := ⟨info_zero (by kernel_rfl)⟩
instance : AggT Tryz.prog 183 4 := ⟨⟨_, Tryz.underlying183, rfl⟩, info_size (by kernel_rfl)⟩
instance : ZeroT Tryz.prog 183 (.agg #[.pointer none, .pointer none, .pointer none, .string .empty]) := ⟨info_zero (by kernel_rfl)⟩
instance : BuildT Tryz.prog 183 [.pointer none, .pointer none, .pointer none, .string .empty] [(0, 1), (1, 1), (2, 1), (3, 1)] := ⟨build_of (v := .agg #[.pointer none, .pointer none, .pointer none, .string .empty]) (by kernel_rfl) rfl, ⟨_, Tryz.underlying183, fun w => by kernel_rfl⟩⟩
instance : FieldT Tryz.prog 183 0 0 := ⟨field_of Tryz.underlying183 rfl rfl (n := 1) (by kernel_rfl) (by decide)⟩
instance : FieldT Tryz.prog 183 1 1 := ⟨field_of Tryz.underlying183 rfl rfl (n := 1) (by kernel_rfl) (by decide)⟩
instance : FieldT Tryz.prog 183 2 2 := ⟨field_of Tryz.underlying183 rfl rfl (n := 1) (by kernel_rfl) (by decide)⟩
instance : FieldT Tryz.prog 183 3 3 := ⟨field_of Tryz.underlying183 rfl rfl (n := 1) (by kernel_rfl) (by decide)⟩
instance : AggT Tryz.prog 184 4 := ⟨⟨_, Tryz.underlying184, rfl⟩, info_size (by kernel_rfl)⟩
instance : ZeroT Tryz.prog 184 (.agg #[.pointer none, .pointer none, .pointer none, .string .empty]) := ⟨info_zero (by kernel_rfl)⟩
instance : BuildT Tryz.prog 184 [.pointer none, .pointer none, .pointer none, .string .empty] [(0, 1), (1, 1), (2, 1), (3, 1)] := ⟨build_of (v := .agg #[.pointer none, .pointer none, .pointer none, .string .empty]) (by kernel_rfl) rfl, ⟨_, Tryz.underlying184, fun w => by kernel_rfl⟩⟩
instance : FieldT Tryz.prog 184 0 0 := ⟨field_of Tryz.underlying184 rfl rfl (n := 1) (by kernel_rfl) (by decide)⟩
instance : FieldT Tryz.prog 184 1 1 := ⟨field_of Tryz.underlying184 rfl rfl (n := 1) (by kernel_rfl) (by decide)⟩
instance : FieldT Tryz.prog 184 2 2 := ⟨field_of Tryz.underlying184 rfl rfl (n := 1) (by kernel_rfl) (by decide)⟩
instance : FieldT Tryz.prog 184 3 3 := ⟨field_of Tryz.underlying184 rfl rfl (n := 1) (by kernel_rfl) (by decide)⟩
instance : ArrT Tryz.prog 185 0 16 1 := ⟨Tryz.underlying185, info_size (by kernel_rfl)⟩
instance : IntT Tryz.prog 188 .u32 := ⟨Tryz.underlying188⟩
instance : OneT Tryz.prog 188 := ⟨⟨_, Tryz.underlying188, rfl⟩, info_size (by kernel_rfl)⟩
instance : ZeroT Tryz.prog 188 (.int .u32 0) := ⟨info_zero (by kernel_rfl)⟩
instance : IntT Tryz.prog 189 .u8 := ⟨Tryz.underlying189⟩
instance : OneT Tryz.prog 189 := ⟨⟨_, Tryz.underlying189, rfl⟩, info_size (by kernel_rfl)⟩
instance : ZeroT Tryz.prog 189 (.int .u8 0) := ⟨info_zero (by kernel_rfl)⟩
instance : IntT Tryz.prog 190 .u8 := ⟨Tryz.underlying190⟩
instance : OneT Tryz.prog 190 := ⟨⟨_, Tryz.underlying190, rfl⟩, info_size (by kernel_rfl)⟩
instance : ZeroT Tryz.prog 190 (.int .u8 0) := ⟨info_zero (by kernel_rfl)⟩
instance : OneT Tryz.prog 191 := ⟨⟨_, Tryz.underlying191, rfl⟩, info_size (by kernel_rfl)⟩
instance : ZeroT Tryz.prog 191 (.nilFunc) := ⟨info_zero (by kernel_rfl)⟩
instance : PtrT Tryz.prog 192 := ⟨⟨_, Tryz.underlying192⟩⟩
instance : OneT Tryz.prog 192 := ⟨⟨_, Tryz.underlying192, rfl⟩, info_size (by kernel_rfl)⟩
instance : ZeroT Tryz.prog 192 (.pointer none) := ⟨info_zero (by kernel_rfl)⟩
instance : IntT Tryz.prog 193 .i32 := ⟨Tryz.underlying193⟩
instance : OneT Tryz.prog 193 := ⟨⟨_, Tryz.underlying193, rfl⟩, info_size (by kernel_rfl)⟩
instance : ZeroT Tryz.prog 193 (.int .i32 0) := ⟨info_zero (by kernel_rfl)⟩
instance : IntT Tryz.prog 194 .i32 := ⟨Tryz.underlying194⟩
instance : OneT Tryz.prog 194 := ⟨⟨_, Tryz.underlying194, rfl⟩, info_size (by kernel_rfl)⟩
instance : ZeroT Tryz.prog 194 (.int .i32 0) := ⟨info_zero (by kernel_rfl)⟩
instance : AggT Tryz.prog 195 11 := ⟨⟨_, Tryz.underlying195, rfl⟩, info_size (by kernel_rfl)⟩
instance : ZeroT Tryz.prog 195 (.agg #[.int .u64 0, .int .u64 0, .int .u32 0, .int .u8 0, .int .u8 0, .int .u8 0, .int .u8 0, .nilFunc, .pointer none, .int .i32 0, .int .i32 0]) := ⟨info_zero (by kernel_rfl)⟩
instance : BuildT Tryz.prog 195 [.int .u64 0, .int .u64 0, .int .u32 0, .int .u8 0, .int .u8 0, .int .u8 0, .int .u8 0, .nilFunc, .pointer none, .int .i32 0, .int .i32 0] [(0, 1), (1, 1), (2, 1), (3, 1), (4, 1), (5, 1), (6, 1), (7, 1), (8, 1), (9, 1), (10, 1)] := ⟨build_of (v := .agg #[.int .u64 0, .int .u64 0, .int .u32 0, .int .u8 0, .int .u8 0, .int .u8 0, .int .u8 0, .nilFunc, .pointer none, .int .i32 0, .int .i32 0]) (by kernel_rfl) rfl, ⟨_, Tryz.underlying195, fun w => by kernel_rfl⟩⟩
instance : FieldT Tryz.prog 195 0 0 := ⟨field_of Tryz.underlying195 rfl rfl (n := 1) (by kernel_rfl) (by decide)⟩
instance : FieldT Tryz.prog 195 1 1 := ⟨field_of Tryz.underlying195 rfl rfl (n := 1) (by kernel_rfl) (by decide)⟩
instance : FieldT Tryz.prog 195 2 2 := ⟨field_of Tryz.underlying195 rfl rfl (n := 1) (by kernel_rfl) (by decide)⟩
instance : FieldT Tryz.prog 195 3 3 := ⟨field_of Tryz.underlying195 rfl rfl (n := 1) (by kernel_rfl) (by decide)⟩
instance : FieldT Tryz.prog 195 4 4 := ⟨field_of Tryz.underlying195 rfl rfl (n := 1) (by kernel_rfl) (by decide)⟩
instance : FieldT Tryz.prog 195 5 5 := ⟨field_of Tryz.underlying195 rfl rfl (n := 1) (by kernel_rfl) (by decide)⟩
instance : FieldT Tryz.prog 195 6 6 := ⟨field_of Tryz.underlying195 rfl rfl (n := 1) (by kernel_rfl) (by decide)⟩
instance : FieldT Tryz.prog 195 7 7 := ⟨field_of Tryz.underlying195 rfl rfl (n := 1) (by kernel_rfl) (by decide)⟩
instance : FieldT Tryz.prog 195 8 8 := ⟨field_of Tryz.underlying195 rfl rfl (n := 1) (by kernel_rfl) (by decide)⟩
instance : FieldT Tryz.prog 195 9 9 := ⟨field_of Tryz.underlying195 rfl rfl (n := 1) (by kernel_rfl) (by decide)⟩
instance : FieldT Tryz.prog 195 10 10 := ⟨field_of Tryz.underlying195 rfl rfl (n := 1) (by kernel_rfl) (by decide)⟩
instance : AggT Tryz.prog 196 11 := ⟨⟨_, Tryz.underlying196, rfl⟩, info_size (by kernel_rfl)⟩
instance : ZeroT Tryz.prog 196 (.agg #[.int .u64 0, .int .u64 0, .int .u32 0, .int .u8 0, .int .u8 0, .int .u8 0, .int .u8 0, .nilFunc, .pointer none, .int .i32 0, .int .i32 0]) := ⟨info_zero (by kernel_rfl)⟩
instance : BuildT Tryz.prog 196 [.int .u64 0, .int .u64 0, .int .u32 0, .int .u8 0, .int .u8 0, .int .u8 0, .int .u8 0, .nilFunc, .pointer none, .int .i32 0, .int .i32 0] [(0, 1), (1, 1), (2, 1), (3, 1), (4, 1), (5, 1), (6, 1), (7, 1), (8, 1), (9, 1), (10, 1)] := ⟨build_of (v := .agg #[.int .u64 0, .int .u64 0, .int .u32 0, .int .u8 0, .int .u8 0, .int .u8 0, .int .u8 0, .nilFunc, .pointer none, .int .i32 0, .int .i32 0]) (by kernel_rfl) rfl, ⟨_, Tryz.underlying196, fun w => by kernel_rfl⟩⟩
instance : FieldT Tryz.prog 196 0 0 := ⟨field_of Tryz.underlying196 rfl rfl (n := 1) (by kernel_rfl) (by decide)⟩
instance : FieldT Tryz.prog 196 1 1 := ⟨field_of Tryz.underlying196 rfl rfl (n := 1) (by kernel_rfl) (by decide)⟩
instance : FieldT Tryz.prog 196 2 2 := ⟨field_of Tryz.underlying196 rfl rfl (n := 1) (by kernel_rfl) (by decide)⟩
instance : FieldT Tryz.prog 196 3 3 := ⟨field_of Tryz.underlying196 rfl rfl (n := 1) (by kernel_rfl) (by decide)⟩
instance : FieldT Tryz.prog 196 4 4 := ⟨field_of Tryz.underlying196 rfl rfl (n := 1) (by kernel_rfl) (by decide)⟩
instance : FieldT Tryz.prog 196 5 5 := ⟨field_of Tryz.underlying196 rfl rfl (n := 1) (by kernel_rfl) (by decide)⟩
instance : FieldT Tryz.prog 196 6 6 := ⟨field_of Tryz.underlying196 rfl rfl (n := 1) (by kernel_rfl) (by decide)⟩
instance : FieldT Tryz.prog 196 7 7 := ⟨field_of Tryz.underlying196 rfl rfl (n := 1) (by kernel_rfl) (by decide)⟩
instance : FieldT Tryz.prog 196 8 8 := ⟨field_of Tryz.underlying196 rfl rfl (n := 1) (by kernel_rfl) (by decide)⟩
instance : FieldT Tryz.prog 196 9 9 := ⟨field_of Tryz.underlying196 rfl rfl (n := 1) (by kernel_rfl) (by decide)⟩
instance : FieldT Tryz.prog 196 10 10 := ⟨field_of Tryz.underlying196 rfl rfl (n := 1) (by kernel_rfl) (by decide)⟩
instance : OneT Tryz.prog 197 := ⟨⟨_, Tryz.underlying197, rfl⟩, info_size (by kernel_rfl)⟩
instance : ZeroT Tryz.prog 197 (.nilFunc) := ⟨info_zero (by kernel_rfl)⟩
instance : ZeroT Tryz.prog 198 (.pointer none) := ⟨info_zero (by kernel_rfl)⟩
instance : FnT Tryz.prog 3 := ⟨⟨_, Tryz.func3, by kernel_rfl, by kernel_rfl⟩⟩
instance : FnT Tryz.prog 4 := ⟨⟨_, Tryz.func4, by kernel_rfl, by kernel_rfl⟩⟩
instance : FnT Tryz.prog 5 := ⟨⟨_, Tryz.func5, by kernel_rfl, by kernel_rfl⟩⟩
instance : FnT Tryz.prog 6 := ⟨⟨_, Tryz.func6, by kernel_rfl, by kernel_rfl⟩⟩
instance : FnT Tryz.prog 7 := ⟨⟨_, Tryz.func7, by kernel_rfl, by kernel_rfl⟩⟩
instance : FnT Tryz.prog 8 := ⟨⟨_, Tryz.func8, by kernel_rfl, by kernel_rfl⟩⟩
instance : FnT Tryz.prog 9 := ⟨⟨_, Tryz.func9, by kernel_rfl, by kernel_rfl⟩⟩
instance : FnT Tryz.prog 10 := ⟨⟨_, Tryz.func10, by kernel_rfl, by kernel_rfl⟩⟩
instance : FnT Tryz.prog 11 := ⟨⟨_, Tryz.func11, by kernel_rfl, by kernel_rfl⟩⟩
instance : FnT Tryz.prog 12 := ⟨⟨_, Tryz.func12, by kernel_rfl, by kernel_rfl⟩⟩
instance : FnT Tryz.prog 13 := ⟨⟨_, Tryz.func13, by kernel_rfl, by kernel_rfl⟩⟩
instance : FnT Tryz.prog 14 := ⟨⟨_, Tryz.func14, by kernel_rfl, by kernel_rfl⟩⟩
instance : FnT Tryz.prog 15 := ⟨⟨_, Tryz.func15, by kernel_rfl, by kernel_rfl⟩⟩
instance : FnT Tryz.prog 16 := ⟨⟨_, Tryz.func16, by kernel_rfl, by kernel_rfl⟩⟩
instance : FnT Tryz.prog 17 := ⟨⟨_, Tryz.func17, by kernel_rfl, by kernel_rfl⟩⟩
instance : FnT Tryz.prog 18 := ⟨⟨_, Tryz.func18, by kernel_rfl, by kernel_rfl⟩⟩
instance : FnT Tryz.prog 19 := ⟨⟨_, Tryz.func19, by kernel_rfl, by kernel_rfl⟩⟩
instance : FnT Tryz.prog 20 := ⟨⟨_, Tryz.func20, by kernel_rfl, by kernel_rfl⟩⟩
instance : FnT Tryz.prog 21 := ⟨⟨_, Tryz.func21, by kernel_rfl, by kernel_rfl⟩⟩
instance : FnT Tryz.prog 22 := ⟨⟨_, Tryz.func22, by kernel_rfl, by kernel_rfl⟩⟩
instance : FnT Tryz.prog 23 := ⟨⟨_, Tryz.func23, by kernel_rfl, by kernel_rfl⟩⟩
instance : FnT Tryz.prog 24 := ⟨⟨_, Tryz.func24, by kernel_rfl, by kernel_rfl⟩⟩
instance : FnT Tryz.prog 25 := ⟨⟨_, Tryz.func25, by kernel_rfl, by kernel_rfl⟩⟩
instance : FnT Tryz.prog 26 := ⟨⟨_, Tryz.func26, by kernel_rfl, by kernel_rfl⟩⟩
instance : FnT Tryz.prog 27 := ⟨⟨_, Tryz.func27, by kernel_rfl, by kernel_rfl⟩⟩
instance : FnT Tryz.prog 28 := ⟨⟨_, Tryz.func28, by kernel_rfl, by kernel_rfl⟩⟩
instance : FnT Tryz.prog 29 := ⟨⟨_, Tryz.func29, by kernel_rfl, by kernel_rfl⟩⟩
instance : FnT Tryz.prog 30 := ⟨⟨_, Tryz.func30, by kernel_rfl, by kernel_rfl⟩⟩
instance : FnT Tryz.prog 31 := ⟨⟨_, Tryz.func31, by kernel_rfl, by kernel_rfl⟩⟩
instance : FnT Tryz.prog 32 := ⟨⟨_, Tryz.func32, by kernel_rfl, by kernel_rfl⟩⟩
instance : FnT Tryz.prog 33 := ⟨⟨_, Tryz.func33, by kernel_rfl, by kernel_rfl⟩⟩
instance : FnT Tryz.prog 34 := ⟨⟨_, Tryz.func34, by kernel_rfl, by kernel_rfl⟩⟩
instance : FnT Tryz.prog 35 := ⟨⟨_, Tryz.func35, by kernel_rfl, by kernel_rfl⟩⟩
instance : FnT Tryz.prog 36 := ⟨⟨_, Tryz.func36, by kernel_rfl, by kernel_rfl⟩⟩
instance : FnT Tryz.prog 37 := ⟨⟨_, Tryz.func37, by kernel_rfl, by kernel_rfl⟩⟩
instance : FnT Tryz.prog 38 := ⟨⟨_, Tryz.func38, by kernel_rfl, by kernel_rfl⟩⟩
instance : FnT Tryz.prog 39 := ⟨⟨_, Tryz.func39, by kernel_rfl, by kernel_rfl⟩⟩
instance : FnT Tryz.prog 40 := ⟨⟨_, Tryz.func40, by kernel_rfl, by kernel_rfl⟩⟩
instance : FnT Tryz.prog 41 := ⟨⟨_, Tryz.func41, by kernel_rfl, by kernel_rfl⟩⟩
instance : FnT Tryz.prog 42 := ⟨⟨_, Tryz.func42, by kernel_rfl, by kernel_rfl⟩⟩
instance : FnT Tryz.prog 43 := ⟨⟨_, Tryz.func43, by kernel_rfl, by kernel_rfl⟩⟩
instance : FnT Tryz.prog 44 := ⟨⟨_, Tryz.func44, by kernel_rfl, by kernel_rfl⟩⟩
instance : FnT Tryz.prog 45 := ⟨⟨_, Tryz.func45, by kernel_rfl, by kernel_rfl⟩⟩
instance : FnT Tryz.prog 46 := ⟨⟨_, Tryz.func46, by kernel_rfl, by kernel_rfl⟩⟩
instance : FnT Tryz.prog 47 := ⟨⟨_, Tryz.func47, by kernel_rfl, by kernel_rfl⟩⟩
instance : FnT Tryz.prog 48 := ⟨⟨_, Tryz.func48, by kernel_rfl, by kernel_rfl⟩⟩
instance : FnT Tryz.prog 49 := ⟨⟨_, Tryz.func49, by kernel_rfl, by kernel_rfl⟩⟩
instance : FnT Tryz.prog 50 := ⟨⟨_, Tryz.func50, by kernel_rfl, by kernel_rfl⟩⟩
instance : FnT Tryz.prog 51 := ⟨⟨_, Tryz.func51, by kernel_rfl, by kernel_rfl⟩⟩
instance : FnT Tryz.prog 52 := ⟨⟨_, Tryz.func52, by kernel_rfl, by kernel_rfl⟩⟩
instance : FnT Tryz.prog 53 := ⟨⟨_, Tryz.func53, by kernel_rfl, by kernel_rfl⟩⟩
instance : FnT Tryz.prog 54 := ⟨⟨_, Tryz.func54, by kernel_rfl, by kernel_rfl⟩⟩
instance : FnT Tryz.prog 55 := ⟨⟨_, Tryz.func55, by kernel_rfl, by kernel_rfl⟩⟩
instance : FnT Tryz.prog 56 := ⟨⟨_, Tryz.func56, by kernel_rfl, by kernel_rfl⟩⟩
instance : FnT Tryz.prog 57 := ⟨⟨_, Tryz.func57, by kernel_rfl, by kernel_rfl⟩⟩
instance : FnT Tryz.prog 58 := ⟨⟨_, Tryz.func58, by kernel_rfl, by kernel_rfl⟩⟩
instance : FnT Tryz.prog 59 := ⟨⟨_, Tryz.func59, by kernel_rfl, by kernel_rfl⟩⟩
instance : FnT Tryz.prog 60 := ⟨⟨_, Tryz.func60, by kernel_rfl, by kernel_rfl⟩⟩
instance : FnT Tryz.prog 61 := ⟨⟨_, Tryz.func61, by kernel_rfl, by kernel_rfl⟩⟩
instance : FnT Tryz.prog 62 := ⟨⟨_, Tryz.func62, by kernel_rfl, by kernel_rfl⟩⟩
instance : FnT Tryz.prog 63 := ⟨⟨_, Tryz.func63, by kernel_rfl, by kernel_rfl⟩⟩
instance : FnT Tryz.prog 64 := ⟨⟨_, Tryz.func64, by kernel_rfl, by kernel_rfl⟩⟩
instance : FnT Tryz.prog 65 := ⟨⟨_, Tryz.func65, by kernel_rfl, by kernel_rfl⟩⟩
instance : FnT Tryz.prog 66 := ⟨⟨_, Tryz.func66, by kernel_rfl, by kernel_rfl⟩⟩
instance : FnT Tryz.prog 67 := ⟨⟨_, Tryz.func67, by kernel_rfl, by kernel_rfl⟩⟩
instance : FnT Tryz.prog 68 := ⟨⟨_, Tryz.func68, by kernel_rfl, by kernel_rfl⟩⟩
instance : FnT Tryz.prog 69 := ⟨⟨_, Tryz.func69, by kernel_rfl, by kernel_rfl⟩⟩
instance : FnT Tryz.prog 70 := ⟨⟨_, Tryz.func70, by kernel_rfl, by kernel_rfl⟩⟩
instance : FnT Tryz.prog 71 := ⟨⟨_, Tryz.func71, by kernel_rfl, by kernel_rfl⟩⟩
instance : FnT Tryz.prog 72 := ⟨⟨_, Tryz.func72, by kernel_rfl, by kernel_rfl⟩⟩
instance : FnT Tryz.prog 73 := ⟨⟨_, Tryz.func73, by kernel_rfl, by kernel_rfl⟩⟩
instance : FnT Tryz.prog 74 := ⟨⟨_, Tryz.func74, by kernel_rfl, by kernel_rfl⟩⟩
instance : FnT Tryz.prog 75 := ⟨⟨_, Tryz.func75, by kernel_rfl, by kernel_rfl⟩⟩
instance : FnT Tryz.prog 76 := ⟨⟨_, Tryz.func76, by kernel_rfl, by kernel_rfl⟩⟩
instance : FnT Tryz.prog 77 := ⟨⟨_, Tryz.func77, by kernel_rfl, by kernel_rfl⟩⟩
instance : FnT Tryz.prog 78 := ⟨⟨_, Tryz.func78, by kernel_rfl, by kernel_rfl⟩⟩
instance : FnT Tryz.prog 79 := ⟨⟨_, Tryz.func79, by kernel_rfl, by kernel_rfl⟩⟩
instance : FnT Tryz.prog 80 := ⟨⟨_, Tryz.func80, by kernel_rfl, by kernel_rfl⟩⟩
instance : FnT Tryz.prog 81 := ⟨⟨_, Tryz.func81, by kernel_rfl, by kernel_rfl⟩⟩
instance : FnT Tryz.prog 82 := ⟨⟨_, Tryz.func82, by kernel_rfl, by kernel_rfl⟩⟩
instance : FnT Tryz.prog 83 := ⟨⟨_, Tryz.func83, by kernel_rfl, by kernel_rfl⟩⟩
instance : FnT Tryz.prog 84 := ⟨⟨_, Tryz.func84, by kernel_rfl, by kernel_rfl⟩⟩
instance : FnT Tryz.prog 85 := ⟨⟨_, Tryz.func85, by kernel_rfl, by kernel_rfl⟩⟩
instance : FnT Tryz.prog 86 := ⟨⟨_, Tryz.func86, by kernel_rfl, by kernel_rfl⟩⟩
instance : FnT Tryz.prog 87 := ⟨⟨_, Tryz.func87, by kernel_rfl, by kernel_rfl⟩⟩
instance : FnT Tryz.prog 88 := ⟨⟨_, Tryz.func88, by kernel_rfl, by kernel_rfl⟩⟩
instance : FnT Tryz.prog 89 := ⟨⟨_, Tryz.func89, by kernel_rfl, by kernel_rfl⟩⟩
instance : FnT Tryz.prog 90 := ⟨⟨_, Tryz.func90, by kernel_rfl, by kernel_rfl⟩⟩
instance : FnT Tryz.prog 91 := ⟨⟨_, Tryz.func91, by kernel_rfl, by kernel_rfl⟩⟩
instance : FnT Tryz.prog 92 := ⟨⟨_, Tryz.func92, by kernel_rfl, by kernel_rfl⟩⟩
instance : FnT Tryz.prog 93 := ⟨⟨_, Tryz.func93, by kernel_rfl, by kernel_rfl⟩⟩
instance : FnT Tryz.prog 94 := ⟨⟨_, Tryz.func94, by kernel_rfl, by kernel_rfl⟩⟩
instance : FnT Tryz.prog 95 := ⟨⟨_, Tryz.func95, by kernel_rfl, by kernel_rfl⟩⟩
instance : FnT Tryz.prog 96 := ⟨⟨_, Tryz.func96, by kernel_rfl, by kernel_rfl⟩⟩
instance : FnT Tryz.prog 97 := ⟨⟨_, Tryz.func97, by kernel_rfl, by kernel_rfl⟩⟩
instance : FnT Tryz.prog 98 := ⟨⟨_, Tryz.func98, by kernel_rfl, by kernel_rfl⟩⟩
instance : FnT Tryz.prog 99 := ⟨⟨_, Tryz.func99, by kernel_rfl, by kernel_rfl⟩⟩
instance : FnT Tryz.prog 100 := ⟨⟨_, Tryz.func100, by kernel_rfl, by kernel_rfl⟩⟩
instance : FnT Tryz.prog 101 := ⟨⟨_, Tryz.func101, by kernel_rfl, by kernel_rfl⟩⟩
instance : FnT Tryz.prog 102 := ⟨⟨_, Tryz.func102, by kernel_rfl, by kernel_rfl⟩⟩
instance : FnT Tryz.prog 103 := ⟨⟨_, Tryz.func103, by kernel_rfl, by kernel_rfl⟩⟩
instance : FnT Tryz.prog 104 := ⟨⟨_, Tryz.func104, by kernel_rfl, by kernel_rfl⟩⟩
instance : FnT Tryz.prog 105 := ⟨⟨_, Tryz.func105, by kernel_rfl, by kernel_rfl⟩⟩
instance : FnT Tryz.prog 106 := ⟨⟨_, Tryz.func106, by kernel_rfl, by kernel_rfl⟩⟩
instance : FnT Tryz.prog 107 := ⟨⟨_, Tryz.func107, by kernel_rfl, by kernel_rfl⟩⟩
instance : FnT Tryz.prog 108 := ⟨⟨_, Tryz.func108, by kernel_rfl, by kernel_rfl⟩⟩
instance : FnT Tryz.prog 109 := ⟨⟨_, Tryz.func109, by kernel_rfl, by kernel_rfl⟩⟩
instance : FnT Tryz.prog 110 := ⟨⟨_, Tryz.func110, by kernel_rfl, by kernel_rfl⟩⟩
instance : FnT Tryz.prog 111 := ⟨⟨_, Tryz.func111, by kernel_rfl, by kernel_rfl⟩⟩
instance : FnT Tryz.prog 112 := ⟨⟨_, Tryz.func112, by kernel_rfl, by kernel_rfl⟩⟩
instance : FnT Tryz.prog 113 := ⟨⟨_, Tryz.func113, by kernel_rfl, by kernel_rfl⟩⟩
instance : FnT Tryz.prog 114 := ⟨⟨_, Tryz.func114, by kernel_rfl, by kernel_rfl⟩⟩
instance : FnT Tryz.prog 115 := ⟨⟨_, Tryz.func115, by kernel_rfl, by kernel_rfl⟩⟩
instance : FnT Tryz.prog 116 := ⟨⟨_, Tryz.func116, by kernel_rfl, by kernel_rfl⟩⟩
instance : FnT Tryz.prog 117 := ⟨⟨_, Tryz.func117, by kernel_rfl, by kernel_rfl⟩⟩
instance : FnT Tryz.prog 118 := ⟨⟨_, Tryz.func118, by kernel_rfl, by kernel_rfl⟩⟩
instance : FnT Tryz.prog 119 := ⟨⟨_, Tryz.func119, by kernel_rfl, by kernel_rfl⟩⟩
instance : FnT Tryz.prog 120 := ⟨⟨_, Tryz.func120, by kernel_rfl, by kernel_rfl⟩⟩
instance : FnT Tryz.prog 121 := ⟨⟨_, Tryz.func121, by kernel_rfl, by kernel_rfl⟩⟩
instance : FnT Tryz.prog 122 := ⟨⟨_, Tryz.func122, by kernel_rfl, by kernel_rfl⟩⟩
instance : FnT Tryz.prog 123 := ⟨⟨_, Tryz.func123, by kernel_rfl, by kernel_rfl⟩⟩
instance : FnT Tryz.prog 124 := ⟨⟨_, Tryz.func124, by kernel_rfl, by kernel_rfl⟩⟩
instance : FnT Tryz.prog 125 := ⟨⟨_, Tryz.func125, by kernel_rfl, by kernel_rfl⟩⟩
instance : FnT Tryz.prog 126 := ⟨⟨_, Tryz.func126, by kernel_rfl, by kernel_rfl⟩⟩
instance : FnT Tryz.prog 127 := ⟨⟨_, Tryz.func127, by kernel_rfl, by kernel_rfl⟩⟩
instance : FnT Tryz.prog 128 := ⟨⟨_, Tryz.func128, by kernel_rfl, by kernel_rfl⟩⟩
instance : FnT Tryz.prog 129 := ⟨⟨_, Tryz.func129, by kernel_rfl, by kernel_rfl⟩⟩
instance : FnT Tryz.prog 130 := ⟨⟨_, Tryz.func130, by kernel_rfl, by kernel_rfl⟩⟩
instance : FnT Tryz.prog 131 := ⟨⟨_, Tryz.func131, by kernel_rfl, by kernel_rfl⟩⟩
instance : FnT Tryz.prog 132 := ⟨⟨_, Tryz.func132, by kernel_rfl, by kernel_rfl⟩⟩
instance : FnT Tryz.prog 133 := ⟨⟨_, Tryz.func133, by kernel_rfl, by kernel_rfl⟩⟩
instance : FnT Tryz.prog 134 := ⟨⟨_, Tryz.func134, by kernel_rfl, by kernel_rfl⟩⟩
instance : FnT Tryz.prog 135 := ⟨⟨_, Tryz.func135, by kernel_rfl, by kernel_rfl⟩⟩
instance : FnT Tryz.prog 136 := ⟨⟨_, Tryz.func136, by kernel_rfl, by kernel_rfl⟩⟩
instance : FnT Tryz.prog 137 := ⟨⟨_, Tryz.func137, by kernel_rfl, by kernel_rfl⟩⟩
instance : FnT Tryz.prog 138 := ⟨⟨_, Tryz.func138, by kernel_rfl, by kernel_rfl⟩⟩
instance : FnT Tryz.prog 139 := ⟨⟨_, Tryz.func139, by kernel_rfl, by kernel_rfl⟩⟩
instance : FnT Tryz.prog 140 := ⟨⟨_, Tryz.func140, by kernel_rfl, by kernel_rfl⟩⟩
instance : FnT Tryz.prog 141 := ⟨⟨_, Tryz.func141, by kernel_rfl, by kernel_rfl⟩⟩
instance : FnT Tryz.prog 142 := ⟨⟨_, Tryz.func142, by kernel_rfl, by kernel_rfl⟩⟩
instance : FnT Tryz.prog 143 := ⟨⟨_, Tryz.func143, by kernel_rfl, by kernel_rfl⟩⟩
instance : FnT Tryz.prog 144 := ⟨⟨_, Tryz.func144, by kernel_rfl, by kernel_rfl⟩⟩
instance : FnT Tryz.prog 145 := ⟨⟨_, Tryz.func145, by kernel_rfl, by kernel_rfl⟩⟩
instance : FnT Tryz.prog 146 := ⟨⟨_, Tryz.func146, by kernel_rfl, by kernel_rfl⟩⟩
instance : FnT Tryz.prog 147 := ⟨⟨_, Tryz.func147, by kernel_rfl, by kernel_rfl⟩⟩
instance : FnT Tryz.prog 148 := ⟨⟨_, Tryz.func148, by kernel_rfl, by kernel_rfl⟩⟩
instance : FnT Tryz.prog 149 := ⟨⟨_, Tryz.func149, by kernel_rfl, by kernel_rfl⟩⟩
instance : FnT Tryz.prog 150 := ⟨⟨_, Tryz.func150, by kernel_rfl, by kernel_rfl⟩⟩
end Go.Proofs.YtpochcchekoonaaGreat
