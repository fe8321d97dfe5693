/-
  The facts on this seat's types and functions, as instances for the engine's rules. Written by inst.py.
-/
import Derived.Test.YtpochcchekoonaaK1
import Derived.Test.YtpochcchekoonaaRows
namespace Go.Proofs.Ytpochcchekoonaa
open Go.Rf

instance : OneT Try.prog 1 := ⟨⟨_, Try.underlying1, rfl⟩, info_size (by kernel_rfl)⟩
instance : ZeroT Try.prog 1 (.nilFunc) := ⟨info_zero (by kernel_rfl)⟩
instance : IntT Try.prog 2 .i64 := ⟨Try.underlying2⟩
instance : OneT Try.prog 2 := ⟨⟨_, Try.underlying2, rfl⟩, info_size (by kernel_rfl)⟩
instance : ZeroT Try.prog 2 (.int .i64 0) := ⟨info_zero (by kernel_rfl)⟩
instance : IntT Try.prog 3 .i64 := ⟨Try.underlying3⟩
instance : OneT Try.prog 3 := ⟨⟨_, Try.underlying3, rfl⟩, info_size (by kernel_rfl)⟩
instance : ZeroT Try.prog 3 (.int .i64 0) := ⟨info_zero (by kernel_rfl)⟩
instance : OneT Try.prog 4 := ⟨⟨_, Try.underlying4, rfl⟩, info_size (by kernel_rfl)⟩
instance : ZeroT Try.prog 4 (.bool false) := ⟨info_zero (by kernel_rfl)⟩
instance : IntT Try.prog 5 .u8 := ⟨Try.underlying5⟩
instance : OneT Try.prog 5 := ⟨⟨_, Try.underlying5, rfl⟩, info_size (by kernel_rfl)⟩
instance : ZeroT Try.prog 5 (.int .u8 0) := ⟨info_zero (by kernel_rfl)⟩
instance : IntT Try.prog 6 .u8 := ⟨Try.underlying6⟩
instance : OneT Try.prog 6 := ⟨⟨_, Try.underlying6, rfl⟩, info_size (by kernel_rfl)⟩
instance : ZeroT Try.prog 6 (.int .u8 0) := ⟨info_zero (by kernel_rfl)⟩
instance : AggT Try.prog 7 4 := ⟨⟨_, Try.underlying7, rfl⟩, info_size (by kernel_rfl)⟩
instance : ZeroT Try.prog 7 (.agg #[.int .i64 0, .int .i64 0, .bool false, .int .u8 0]) := ⟨info_zero (by kernel_rfl)⟩
instance : BuildT Try.prog 7 [.int .i64 0, .int .i64 0, .bool false, .int .u8 0] [(0, 1), (1, 1), (2, 1), (3, 1)] := ⟨build_of (v := .agg #[.int .i64 0, .int .i64 0, .bool false, .int .u8 0]) (by kernel_rfl) rfl, ⟨_, Try.underlying7, fun w => by kernel_rfl⟩⟩
instance : FieldT Try.prog 7 0 0 := ⟨field_of Try.underlying7 rfl rfl (n := 1) (by kernel_rfl) (by decide)⟩
instance : FieldT Try.prog 7 1 1 := ⟨field_of Try.underlying7 rfl rfl (n := 1) (by kernel_rfl) (by decide)⟩
instance : FieldT Try.prog 7 2 2 := ⟨field_of Try.underlying7 rfl rfl (n := 1) (by kernel_rfl) (by decide)⟩
instance : FieldT Try.prog 7 3 3 := ⟨field_of Try.underlying7 rfl rfl (n := 1) (by kernel_rfl) (by decide)⟩
instance : AggT Try.prog 8 4 := ⟨⟨_, Try.underlying8, rfl⟩, info_size (by kernel_rfl)⟩
instance : ZeroT Try.prog 8 (.agg #[.int .i64 0, .int .i64 0, .bool false, .int .u8 0]) := ⟨info_zero (by kernel_rfl)⟩
instance : BuildT Try.prog 8 [.int .i64 0, .int .i64 0, .bool false, .int .u8 0] [(0, 1), (1, 1), (2, 1), (3, 1)] := ⟨build_of (v := .agg #[.int .i64 0, .int .i64 0, .bool false, .int .u8 0]) (by kernel_rfl) rfl, ⟨_, Try.underlying8, fun w => by kernel_rfl⟩⟩
instance : FieldT Try.prog 8 0 0 := ⟨field_of Try.underlying8 rfl rfl (n := 1) (by kernel_rfl) (by decide)⟩
instance : FieldT Try.prog 8 1 1 := ⟨field_of Try.underlying8 rfl rfl (n := 1) (by kernel_rfl) (by decide)⟩
instance : FieldT Try.prog 8 2 2 := ⟨field_of Try.underlying8 rfl rfl (n := 1) (by kernel_rfl) (by decide)⟩
instance : FieldT Try.prog 8 3 3 := ⟨field_of Try.underlying8 rfl rfl (n := 1) (by kernel_rfl) (by decide)⟩
instance : StrT Try.prog 9 := ⟨Try.underlying9⟩
instance : OneT Try.prog 9 := ⟨⟨_, Try.underlying9, rfl⟩, info_size (by kernel_rfl)⟩
instance : ZeroT Try.prog 9 (.string .empty) := ⟨info_zero (by kernel_rfl)⟩
instance : StrT Try.prog 10 := ⟨Try.underlying10⟩
instance : OneT Try.prog 10 := ⟨⟨_, Try.underlying10, rfl⟩, info_size (by kernel_rfl)⟩
instance : ZeroT Try.prog 10 (.string .empty) := ⟨info_zero (by kernel_rfl)⟩
instance : StrT Try.prog 11 := ⟨Try.underlying11⟩
instance : OneT Try.prog 11 := ⟨⟨_, Try.underlying11, rfl⟩, info_size (by kernel_rfl)⟩
instance : ZeroT Try.prog 11 (.string .empty) := ⟨info_zero (by kernel_rfl)⟩
instance : IntT Try.prog 12 .u64 := ⟨Try.underlying12⟩
instance : OneT Try.prog 12 := ⟨⟨_, Try.underlying12, rfl⟩, info_size (by kernel_rfl)⟩
instance : ZeroT Try.prog 12 (.int .u64 0) := ⟨info_zero (by kernel_rfl)⟩
instance : AggT Try.prog 13 2 := ⟨⟨_, Try.underlying13, rfl⟩, info_size (by kernel_rfl)⟩
instance : ZeroT Try.prog 13 (.agg #[.string .empty, .int .u64 0]) := ⟨info_zero (by kernel_rfl)⟩
instance : BuildT Try.prog 13 [.string .empty, .int .u64 0] [(0, 1), (1, 1)] := ⟨build_of (v := .agg #[.string .empty, .int .u64 0]) (by kernel_rfl) rfl, ⟨_, Try.underlying13, fun w => by kernel_rfl⟩⟩
instance : FieldT Try.prog 13 0 0 := ⟨field_of Try.underlying13 rfl rfl (n := 1) (by kernel_rfl) (by decide)⟩
instance : FieldT Try.prog 13 1 1 := ⟨field_of Try.underlying13 rfl rfl (n := 1) (by kernel_rfl) (by decide)⟩
instance : AggT Try.prog 14 2 := ⟨⟨_, Try.underlying14, rfl⟩, info_size (by kernel_rfl)⟩
instance : ZeroT Try.prog 14 (.agg #[.string .empty, .int .u64 0]) := ⟨info_zero (by kernel_rfl)⟩
instance : BuildT Try.prog 14 [.string .empty, .int .u64 0] [(0, 1), (1, 1)] := ⟨build_of (v := .agg #[.string .empty, .int .u64 0]) (by kernel_rfl) rfl, ⟨_, Try.underlying14, fun w => by kernel_rfl⟩⟩
instance : FieldT Try.prog 14 0 0 := ⟨field_of Try.underlying14 rfl rfl (n := 1) (by kernel_rfl) (by decide)⟩
instance : FieldT Try.prog 14 1 1 := ⟨field_of Try.underlying14 rfl rfl (n := 1) (by kernel_rfl) (by decide)⟩
instance : PtrT Try.prog 15 := ⟨⟨_, Try.underlying15⟩⟩
instance : OneT Try.prog 15 := ⟨⟨_, Try.underlying15, rfl⟩, info_size (by kernel_rfl)⟩
instance : ZeroT Try.prog 15 (.pointer none) := ⟨info_zero (by kernel_rfl)⟩
instance : PtrT Try.prog 16 := ⟨⟨_, Try.underlying16⟩⟩
instance : OneT Try.prog 16 := ⟨⟨_, Try.underlying16, rfl⟩, info_size (by kernel_rfl)⟩
instance : ZeroT Try.prog 16 (.pointer none) := ⟨info_zero (by kernel_rfl)⟩
instance : PtrT Try.prog 17 := ⟨⟨_, Try.underlying17⟩⟩
instance : OneT Try.prog 17 := ⟨⟨_, Try.underlying17, rfl⟩, info_size (by kernel_rfl)⟩
instance : ZeroT Try.prog 17 (.pointer none) := ⟨info_zero (by kernel_rfl)⟩
instance : AggT Try.prog 18 1 := ⟨⟨_, Try.underlying18, rfl⟩, info_size (by kernel_rfl)⟩
instance : ZeroT Try.prog 18 (.agg #[.pointer none]) := ⟨info_zero (by kernel_rfl)⟩
instance : BuildT Try.prog 18 [.pointer none] [(0, 1)] := ⟨build_of (v := .agg #[.pointer none]) (by kernel_rfl) rfl, ⟨_, Try.underlying18, fun w => by kernel_rfl⟩⟩
instance : FieldT Try.prog 18 0 0 := ⟨field_of Try.underlying18 rfl rfl (n := 1) (by kernel_rfl) (by decide)⟩
instance : AggT Try.prog 19 1 := ⟨⟨_, Try.underlying19, rfl⟩, info_size (by kernel_rfl)⟩
instance : ZeroT Try.prog 19 (.agg #[.pointer none]) := ⟨info_zero (by kernel_rfl)⟩
instance : BuildT Try.prog 19 [.pointer none] [(0, 1)] := ⟨build_of (v := .agg #[.pointer none]) (by kernel_rfl) rfl, ⟨_, Try.underlying19, fun w => by kernel_rfl⟩⟩
instance : FieldT Try.prog 19 0 0 := ⟨field_of Try.underlying19 rfl rfl (n := 1) (by kernel_rfl) (by decide)⟩
instance : OneT Try.prog 20 := ⟨⟨_, Try.underlying20, rfl⟩, info_size (by kernel_rfl)⟩
instance : ZeroT Try.prog 20 (.nilIface) := ⟨info_zero (by kernel_rfl)⟩
instance : IntT Try.prog 21 .i32 := ⟨Try.underlying21⟩
instance : OneT Try.prog 21 := ⟨⟨_, Try.underlying21, rfl⟩, info_size (by kernel_rfl)⟩
instance : ZeroT Try.prog 21 (.int .i32 0) := ⟨info_zero (by kernel_rfl)⟩
instance : SliceT Try.prog 22 3 := ⟨Try.underlying22⟩
instance : RowT Try.prog 22 3 1 8 := ⟨Try.underlying22, info_parts_z (z := .int .i64 0) (by kernel_rfl) (by kernel_rfl), by decide⟩
instance : OneT Try.prog 22 := ⟨⟨_, Try.underlying22, rfl⟩, info_size (by kernel_rfl)⟩
instance : ZeroT Try.prog 22 (.slice none 0 0) := ⟨info_zero (by kernel_rfl)⟩
instance : RowZ Try.prog 22 3 1 8 [.int .i64 0] := ⟨inferInstance, rowz_of (v := .int .i64 0) (by kernel_rfl) rfl rfl⟩
instance : SliceT Try.prog 23 39 := ⟨Try.underlying23⟩
instance : RowT Try.prog 23 39 12 192 := ⟨Try.underlying23, info_parts_z (z := .agg #[.int .i64 0, .string .empty, .int .i64 0, .int .i64 0, .slice none 0 0, .slice none 0 0, .slice none 0 0, .slice none 0 0, .int .i64 0, .int .i64 0, .string .empty, .slice none 0 0]) (by kernel_rfl) (by kernel_rfl), by decide⟩
instance : OneT Try.prog 23 := ⟨⟨_, Try.underlying23, rfl⟩, info_size (by kernel_rfl)⟩
instance : ZeroT Try.prog 23 (.slice none 0 0) := ⟨info_zero (by kernel_rfl)⟩
instance : RowZ Try.prog 23 39 12 192 [.int .i64 0, .string .empty, .int .i64 0, .int .i64 0, .slice none 0 0, .slice none 0 0, .slice none 0 0, .slice none 0 0, .int .i64 0, .int .i64 0, .string .empty, .slice none 0 0] := ⟨inferInstance, rowz_of (v := .agg #[.int .i64 0, .string .empty, .int .i64 0, .int .i64 0, .slice none 0 0, .slice none 0 0, .slice none 0 0, .slice none 0 0, .int .i64 0, .int .i64 0, .string .empty, .slice none 0 0]) (by kernel_rfl) rfl rfl⟩
instance : AggT Try.prog 24 1 := ⟨⟨_, Try.underlying24, rfl⟩, info_size (by kernel_rfl)⟩
instance : ZeroT Try.prog 24 (.agg #[.slice none 0 0]) := ⟨info_zero (by kernel_rfl)⟩
instance : BuildT Try.prog 24 [.slice none 0 0] [(0, 1)] := ⟨build_of (v := .agg #[.slice none 0 0]) (by kernel_rfl) rfl, ⟨_, Try.underlying24, fun w => by kernel_rfl⟩⟩
instance : FieldT Try.prog 24 0 0 := ⟨field_of Try.underlying24 rfl rfl (n := 1) (by kernel_rfl) (by decide)⟩
instance : AggT Try.prog 25 1 := ⟨⟨_, Try.underlying25, rfl⟩, info_size (by kernel_rfl)⟩
instance : ZeroT Try.prog 25 (.agg #[.slice none 0 0]) := ⟨info_zero (by kernel_rfl)⟩
instance : BuildT Try.prog 25 [.slice none 0 0] [(0, 1)] := ⟨build_of (v := .agg #[.slice none 0 0]) (by kernel_rfl) rfl, ⟨_, Try.underlying25, fun w => by kernel_rfl⟩⟩
instance : FieldT Try.prog 25 0 0 := ⟨field_of Try.underlying25 rfl rfl (n := 1) (by kernel_rfl) (by decide)⟩
instance : OneT Try.prog 26 := ⟨⟨_, Try.underlying26, rfl⟩, info_size (by kernel_rfl)⟩
instance : ZeroT Try.prog 26 (.nilFunc) := ⟨info_zero (by kernel_rfl)⟩
instance : OneT Try.prog 27 := ⟨⟨_, Try.underlying27, rfl⟩, info_size (by kernel_rfl)⟩
instance : ZeroT Try.prog 27 (.nilFunc) := ⟨info_zero (by kernel_rfl)⟩
instance : OneT Try.prog 28 := ⟨⟨_, Try.underlying28, rfl⟩, info_size (by kernel_rfl)⟩
instance : ZeroT Try.prog 28 (.nilFunc) := ⟨info_zero (by kernel_rfl)⟩
instance : SliceT Try.prog 29 25 := ⟨Try.underlying29⟩
instance : RowT Try.prog 29 25 1 24 := ⟨Try.underlying29, info_parts_z (z := .agg #[.slice none 0 0]) (by kernel_rfl) (by kernel_rfl), by decide⟩
instance : OneT Try.prog 29 := ⟨⟨_, Try.underlying29, rfl⟩, info_size (by kernel_rfl)⟩
instance : ZeroT Try.prog 29 (.slice none 0 0) := ⟨info_zero (by kernel_rfl)⟩
instance : RowZ Try.prog 29 25 1 24 [.slice none 0 0] := ⟨inferInstance, rowz_of (v := .agg #[.slice none 0 0]) (by kernel_rfl) rfl rfl⟩
instance : IntT Try.prog 30 .i64 := ⟨Try.underlying30⟩
instance : OneT Try.prog 30 := ⟨⟨_, Try.underlying30, rfl⟩, info_size (by kernel_rfl)⟩
instance : ZeroT Try.prog 30 (.int .i64 0) := ⟨info_zero (by kernel_rfl)⟩
instance : OneT Try.prog 31 := ⟨⟨_, Try.underlying31, rfl⟩, info_size (by kernel_rfl)⟩
instance : ZeroT Try.prog 31 (.nilFunc) := ⟨info_zero (by kernel_rfl)⟩
instance : OneT Try.prog 32 := ⟨⟨_, Try.underlying32, rfl⟩, info_size (by kernel_rfl)⟩
instance : ZeroT Try.prog 32 (.nilFunc) := ⟨info_zero (by kernel_rfl)⟩
instance : OneT Try.prog 33 := ⟨⟨_, Try.underlying33, rfl⟩, info_size (by kernel_rfl)⟩
instance : ZeroT Try.prog 33 (.nilFunc) := ⟨info_zero (by kernel_rfl)⟩
instance : SliceT Try.prog 34 9 := ⟨Try.underlying34⟩
instance : RowT Try.prog 34 9 1 16 := ⟨Try.underlying34, info_parts_z (z := .string .empty) (by kernel_rfl) (by kernel_rfl), by decide⟩
instance : OneT Try.prog 34 := ⟨⟨_, Try.underlying34, rfl⟩, info_size (by kernel_rfl)⟩
instance : ZeroT Try.prog 34 (.slice none 0 0) := ⟨info_zero (by kernel_rfl)⟩
instance : RowZ Try.prog 34 9 1 16 [.string .empty] := ⟨inferInstance, rowz_of (v := .string .empty) (by kernel_rfl) rfl rfl⟩
instance : SliceT Try.prog 35 37 := ⟨Try.underlying35⟩
instance : RowT Try.prog 35 37 4 56 := ⟨Try.underlying35, info_parts_z (z := .agg #[.int .i64 0, .int .i64 0, .string .empty, .slice none 0 0]) (by kernel_rfl) (by kernel_rfl), by decide⟩
instance : OneT Try.prog 35 := ⟨⟨_, Try.underlying35, rfl⟩, info_size (by kernel_rfl)⟩
instance : ZeroT Try.prog 35 (.slice none 0 0) := ⟨info_zero (by kernel_rfl)⟩
instance : RowZ Try.prog 35 37 4 56 [.int .i64 0, .int .i64 0, .string .empty, .slice none 0 0] := ⟨inferInstance, rowz_of (v := .agg #[.int .i64 0, .int .i64 0, .string .empty, .slice none 0 0]) (by kernel_rfl) rfl rfl⟩
instance : AggT Try.prog 36 4 := ⟨⟨_, Try.underlying36, rfl⟩, info_size (by kernel_rfl)⟩
instance : ZeroT Try.prog 36 (.agg #[.int .i64 0, .int .i64 0, .string .empty, .slice none 0 0]) := ⟨info_zero (by kernel_rfl)⟩
instance : BuildT Try.prog 36 [.int .i64 0, .int .i64 0, .string .empty, .slice none 0 0] [(0, 1), (1, 1), (2, 1), (3, 1)] := ⟨build_of (v := .agg #[.int .i64 0, .int .i64 0, .string .empty, .slice none 0 0]) (by kernel_rfl) rfl, ⟨_, Try.underlying36, fun w => by kernel_rfl⟩⟩
instance : FieldT Try.prog 36 0 0 := ⟨field_of Try.underlying36 rfl rfl (n := 1) (by kernel_rfl) (by decide)⟩
instance : FieldT Try.prog 36 1 1 := ⟨field_of Try.underlying36 rfl rfl (n := 1) (by kernel_rfl) (by decide)⟩
instance : FieldT Try.prog 36 2 2 := ⟨field_of Try.underlying36 rfl rfl (n := 1) (by kernel_rfl) (by decide)⟩
instance : FieldT Try.prog 36 3 3 := ⟨field_of Try.underlying36 rfl rfl (n := 1) (by kernel_rfl) (by decide)⟩
instance : AggT Try.prog 37 4 := ⟨⟨_, Try.underlying37, rfl⟩, info_size (by kernel_rfl)⟩
instance : ZeroT Try.prog 37 (.agg #[.int .i64 0, .int .i64 0, .string .empty, .slice none 0 0]) := ⟨info_zero (by kernel_rfl)⟩
instance : BuildT Try.prog 37 [.int .i64 0, .int .i64 0, .string .empty, .slice none 0 0] [(0, 1), (1, 1), (2, 1), (3, 1)] := ⟨build_of (v := .agg #[.int .i64 0, .int .i64 0, .string .empty, .slice none 0 0]) (by kernel_rfl) rfl, ⟨_, Try.underlying37, fun w => by kernel_rfl⟩⟩
instance : FieldT Try.prog 37 0 0 := ⟨field_of Try.underlying37 rfl rfl (n := 1) (by kernel_rfl) (by decide)⟩
instance : FieldT Try.prog 37 1 1 := ⟨field_of Try.underlying37 rfl rfl (n := 1) (by kernel_rfl) (by decide)⟩
instance : FieldT Try.prog 37 2 2 := ⟨field_of Try.underlying37 rfl rfl (n := 1) (by kernel_rfl) (by decide)⟩
instance : FieldT Try.prog 37 3 3 := ⟨field_of Try.underlying37 rfl rfl (n := 1) (by kernel_rfl) (by decide)⟩
instance : AggT Try.prog 38 12 := ⟨⟨_, Try.underlying38, rfl⟩, info_size (by kernel_rfl)⟩
instance : ZeroT Try.prog 38 (.agg #[.int .i64 0, .string .empty, .int .i64 0, .int .i64 0, .slice none 0 0, .slice none 0 0, .slice none 0 0, .slice none 0 0, .int .i64 0, .int .i64 0, .string .empty, .slice none 0 0]) := ⟨info_zero (by kernel_rfl)⟩
instance : BuildT Try.prog 38 [.int .i64 0, .string .empty, .int .i64 0, .int .i64 0, .slice none 0 0, .slice none 0 0, .slice none 0 0, .slice none 0 0, .int .i64 0, .int .i64 0, .string .empty, .slice none 0 0] [(0, 1), (1, 1), (2, 1), (3, 1), (4, 1), (5, 1), (6, 1), (7, 1), (8, 4)] := ⟨build_of (v := .agg #[.int .i64 0, .string .empty, .int .i64 0, .int .i64 0, .slice none 0 0, .slice none 0 0, .slice none 0 0, .slice none 0 0, .int .i64 0, .int .i64 0, .string .empty, .slice none 0 0]) (by kernel_rfl) rfl, ⟨_, Try.underlying38, fun w => by kernel_rfl⟩⟩
instance : FieldT Try.prog 38 0 0 := ⟨field_of Try.underlying38 rfl rfl (n := 1) (by kernel_rfl) (by decide)⟩
instance : FieldT Try.prog 38 1 1 := ⟨field_of Try.underlying38 rfl rfl (n := 1) (by kernel_rfl) (by decide)⟩
instance : FieldT Try.prog 38 2 2 := ⟨field_of Try.underlying38 rfl rfl (n := 1) (by kernel_rfl) (by decide)⟩
instance : FieldT Try.prog 38 3 3 := ⟨field_of Try.underlying38 rfl rfl (n := 1) (by kernel_rfl) (by decide)⟩
instance : FieldT Try.prog 38 4 4 := ⟨field_of Try.underlying38 rfl rfl (n := 1) (by kernel_rfl) (by decide)⟩
instance : FieldT Try.prog 38 5 5 := ⟨field_of Try.underlying38 rfl rfl (n := 1) (by kernel_rfl) (by decide)⟩
instance : FieldT Try.prog 38 6 6 := ⟨field_of Try.underlying38 rfl rfl (n := 1) (by kernel_rfl) (by decide)⟩
instance : FieldT Try.prog 38 7 7 := ⟨field_of Try.underlying38 rfl rfl (n := 1) (by kernel_rfl) (by decide)⟩
instance : FieldT Try.prog 38 8 8 := ⟨field_of Try.underlying38 rfl rfl (n := 4) (by kernel_rfl) (by decide)⟩
instance : AggT Try.prog 39 12 := ⟨⟨_, Try.underlying39, rfl⟩, info_size (by kernel_rfl)⟩
instance : ZeroT Try.prog 39 (.agg #[.int .i64 0, .string .empty, .int .i64 0, .int .i64 0, .slice none 0 0, .slice none 0 0, .slice none 0 0, .slice none 0 0, .int .i64 0, .int .i64 0, .string .empty, .slice none 0 0]) := ⟨info_zero (by kernel_rfl)⟩
instance : BuildT Try.prog 39 [.int .i64 0, .string .empty, .int .i64 0, .int .i64 0, .slice none 0 0, .slice none 0 0, .slice none 0 0, .slice none 0 0, .int .i64 0, .int .i64 0, .string .empty, .slice none 0 0] [(0, 1), (1, 1), (2, 1), (3, 1), (4, 1), (5, 1), (6, 1), (7, 1), (8, 4)] := ⟨build_of (v := .agg #[.int .i64 0, .string .empty, .int .i64 0, .int .i64 0, .slice none 0 0, .slice none 0 0, .slice none 0 0, .slice none 0 0, .int .i64 0, .int .i64 0, .string .empty, .slice none 0 0]) (by kernel_rfl) rfl, ⟨_, Try.underlying39, fun w => by kernel_rfl⟩⟩
instance : FieldT Try.prog 39 0 0 := ⟨field_of Try.underlying39 rfl rfl (n := 1) (by kernel_rfl) (by decide)⟩
instance : FieldT Try.prog 39 1 1 := ⟨field_of Try.underlying39 rfl rfl (n := 1) (by kernel_rfl) (by decide)⟩
instance : FieldT Try.prog 39 2 2 := ⟨field_of Try.underlying39 rfl rfl (n := 1) (by kernel_rfl) (by decide)⟩
instance : FieldT Try.prog 39 3 3 := ⟨field_of Try.underlying39 rfl rfl (n := 1) (by kernel_rfl) (by decide)⟩
instance : FieldT Try.prog 39 4 4 := ⟨field_of Try.underlying39 rfl rfl (n := 1) (by kernel_rfl) (by decide)⟩
instance : FieldT Try.prog 39 5 5 := ⟨field_of Try.underlying39 rfl rfl (n := 1) (by kernel_rfl) (by decide)⟩
instance : FieldT Try.prog 39 6 6 := ⟨field_of Try.underlying39 rfl rfl (n := 1) (by kernel_rfl) (by decide)⟩
instance : FieldT Try.prog 39 7 7 := ⟨field_of Try.underlying39 rfl rfl (n := 1) (by kernel_rfl) (by decide)⟩
instance : FieldT Try.prog 39 8 8 := ⟨field_of Try.underlying39 rfl rfl (n := 4) (by kernel_rfl) (by decide)⟩
instance : OneT Try.prog 40 := ⟨⟨_, Try.underlying40, rfl⟩, info_size (by kernel_rfl)⟩
instance : ZeroT Try.prog 40 (.nilFunc) := ⟨info_zero (by kernel_rfl)⟩
instance : OneT Try.prog 42 := ⟨⟨_, Try.underlying42, rfl⟩, info_size (by kernel_rfl)⟩
instance : ZeroT Try.prog 42 (.nilFunc) := ⟨info_zero (by kernel_rfl)⟩
instance : OneT Try.prog 43 := ⟨⟨_, Try.underlying43, rfl⟩, info_size (by kernel_rfl)⟩
instance : ZeroT Try.prog 43 (.nilFunc) := ⟨info_zero (by kernel_rfl)⟩
instance : SliceT Try.prog 44 22 := ⟨Try.underlying44⟩
instance : RowT Try.prog 44 22 1 24 := ⟨Try.underlying44, info_parts_z (z := .slice none 0 0) (by kernel_rfl) (by kernel_rfl), by decide⟩
instance : OneT Try.prog 44 := ⟨⟨_, Try.underlying44, rfl⟩, info_size (by kernel_rfl)⟩
instance : ZeroT Try.prog 44 (.slice none 0 0) := ⟨info_zero (by kernel_rfl)⟩
instance : RowZ Try.prog 44 22 1 24 [.slice none 0 0] := ⟨inferInstance, rowz_of (v := .slice none 0 0) (by kernel_rfl) rfl rfl⟩
instance : SliceT Try.prog 45 48 := ⟨Try.underlying45⟩
instance : RowT Try.prog 45 48 3 24 := ⟨Try.underlying45, info_parts_z (z := .agg #[.int .i64 0, .int .i64 0, .int .i64 0]) (by kernel_rfl) (by kernel_rfl), by decide⟩
instance : OneT Try.prog 45 := ⟨⟨_, Try.underlying45, rfl⟩, info_size (by kernel_rfl)⟩
instance : ZeroT Try.prog 45 (.slice none 0 0) := ⟨info_zero (by kernel_rfl)⟩
instance : RowZ Try.prog 45 48 3 24 [.int .i64 0, .int .i64 0, .int .i64 0] := ⟨inferInstance, rowz_of (v := .agg #[.int .i64 0, .int .i64 0, .int .i64 0]) (by kernel_rfl) rfl rfl⟩
instance : OneT Try.prog 47 := ⟨⟨_, Try.underlying47, rfl⟩, info_size (by kernel_rfl)⟩
instance : ZeroT Try.prog 47 (.nilFunc) := ⟨info_zero (by kernel_rfl)⟩
instance : AggT Try.prog 48 3 := ⟨⟨_, Try.underlying48, rfl⟩, info_size (by kernel_rfl)⟩
instance : ArrT Try.prog 48 3 3 1 := ⟨Try.underlying48, info_size (by kernel_rfl)⟩
instance : ZeroT Try.prog 48 (.agg #[.int .i64 0, .int .i64 0, .int .i64 0]) := ⟨info_zero (by kernel_rfl)⟩
instance : OneT Try.prog 49 := ⟨⟨_, Try.underlying49, rfl⟩, info_size (by kernel_rfl)⟩
instance : ZeroT Try.prog 49 (.nilFunc) := ⟨info_zero (by kernel_rfl)⟩
instance : OneT Try.prog 51 := ⟨⟨_, Try.underlying51, rfl⟩, info_size (by kernel_rfl)⟩
instance : ZeroT Try.prog 51 (.nilFunc) := ⟨info_zero (by kernel_rfl)⟩
instance : OneT Try.prog 52 := ⟨⟨_, Try.underlying52, rfl⟩, info_size (by kernel_rfl)⟩
instance : ZeroT Try.prog 52 (.nilFunc) := ⟨info_zero (by kernel_rfl)⟩
instance : OneT Try.prog 53 := ⟨⟨_, Try.underlying53, rfl⟩, info_size (by kernel_rfl)⟩
instance : ZeroT Try.prog 53 (.nilFunc) := ⟨info_zero (by kernel_rfl)⟩
instance : OneT Try.prog 54 := ⟨⟨_, Try.underlying54, rfl⟩, info_size (by kernel_rfl)⟩
instance : ZeroT Try.prog 54 (.nilFunc) := ⟨info_zero (by kernel_rfl)⟩
instance : OneT Try.prog 56 := ⟨⟨_, Try.underlying56, rfl⟩, info_size (by kernel_rfl)⟩
instance : ZeroT Try.prog 56 (.nilFunc) := ⟨info_zero (by kernel_rfl)⟩
instance : OneT Try.prog 57 := ⟨⟨_, Try.underlying57, rfl⟩, info_size (by kernel_rfl)⟩
instance : ZeroT Try.prog 57 (.nilFunc) := ⟨info_zero (by kernel_rfl)⟩
instance : OneT Try.prog 58 := ⟨⟨_, Try.underlying58, rfl⟩, info_size (by kernel_rfl)⟩
instance : ZeroT Try.prog 58 (.nilFunc) := ⟨info_zero (by kernel_rfl)⟩
instance : OneT Try.prog 59 := ⟨⟨_, Try.underlying59, rfl⟩, info_size (by kernel_rfl)⟩
instance : ZeroT Try.prog 59 (.nilFunc) := ⟨info_zero (by kernel_rfl)⟩
instance : OneT Try.prog 60 := ⟨⟨_, Try.underlying60, rfl⟩, info_size (by kernel_rfl)⟩
instance : ZeroT Try.prog 60 (.nilFunc) := ⟨info_zero (by kernel_rfl)⟩
instance : OneT Try.prog 61 := ⟨⟨_, Try.underlying61, rfl⟩, info_size (by kernel_rfl)⟩
instance : ZeroT Try.prog 61 (.nilFunc) := ⟨info_zero (by kernel_rfl)⟩
instance : OneT Try.prog 62 := ⟨⟨_, Try.underlying62, rfl⟩, info_size (by kernel_rfl)⟩
instance : ZeroT Try.prog 62 (.nilFunc) := ⟨info_zero (by kernel_rfl)⟩
instance : OneT Try.prog 63 := ⟨⟨_, Try.underlying63, rfl⟩, info_size (by kernel_rfl)⟩
instance : ZeroT Try.prog 63 (.nilFunc) := ⟨info_zero (by kernel_rfl)⟩
instance : PtrT Try.prog 64 := ⟨⟨_, Try.underlying64⟩⟩
instance : OneT Try.prog 64 := ⟨⟨_, Try.underlying64, rfl⟩, info_size (by kernel_rfl)⟩
instance : ZeroT Try.prog 64 (.pointer none) := ⟨info_zero (by kernel_rfl)⟩
instance : PtrT Try.prog 65 := ⟨⟨_, Try.underlying65⟩⟩
instance : OneT Try.prog 65 := ⟨⟨_, Try.underlying65, rfl⟩, info_size (by kernel_rfl)⟩
instance : ZeroT Try.prog 65 (.pointer none) := ⟨info_zero (by kernel_rfl)⟩
instance : OneT Try.prog 66 := ⟨⟨_, Try.underlying66, rfl⟩, info_size (by kernel_rfl)⟩
instance : ZeroT Try.prog 66 (.nilFunc) := ⟨info_zero (by kernel_rfl)⟩
instance : AggT Try.prog 67 4 := ⟨⟨_, Try.underlying67, rfl⟩, info_size (by kernel_rfl)⟩
instance : ZeroT Try.prog 67 (.agg #[.slice none 0 0, .slice none 0 0, .slice none 0 0, .pointer none]) := ⟨info_zero (by kernel_rfl)⟩
instance : BuildT Try.prog 67 [.slice none 0 0, .slice none 0 0, .slice none 0 0, .pointer none] [(0, 1), (1, 1), (2, 1), (3, 1)] := ⟨build_of (v := .agg #[.slice none 0 0, .slice none 0 0, .slice none 0 0, .pointer none]) (by kernel_rfl) rfl, ⟨_, Try.underlying67, fun w => by kernel_rfl⟩⟩
instance : FieldT Try.prog 67 0 0 := ⟨field_of Try.underlying67 rfl rfl (n := 1) (by kernel_rfl) (by decide)⟩
instance : FieldT Try.prog 67 1 1 := ⟨field_of Try.underlying67 rfl rfl (n := 1) (by kernel_rfl) (by decide)⟩
instance : FieldT Try.prog 67 2 2 := ⟨field_of Try.underlying67 rfl rfl (n := 1) (by kernel_rfl) (by decide)⟩
instance : FieldT Try.prog 67 3 3 := ⟨field_of Try.underlying67 rfl rfl (n := 1) (by kernel_rfl) (by decide)⟩
instance : AggT Try.prog 68 4 := ⟨⟨_, Try.underlying68, rfl⟩, info_size (by kernel_rfl)⟩
instance : ZeroT Try.prog 68 (.agg #[.slice none 0 0, .slice none 0 0, .slice none 0 0, .pointer none]) := ⟨info_zero (by kernel_rfl)⟩
instance : BuildT Try.prog 68 [.slice none 0 0, .slice none 0 0, .slice none 0 0, .pointer none] [(0, 1), (1, 1), (2, 1), (3, 1)] := ⟨build_of (v := .agg #[.slice none 0 0, .slice none 0 0, .slice none 0 0, .pointer none]) (by kernel_rfl) rfl, ⟨_, Try.underlying68, fun w => by kernel_rfl⟩⟩
instance : FieldT Try.prog 68 0 0 := ⟨field_of Try.underlying68 rfl rfl (n := 1) (by kernel_rfl) (by decide)⟩
instance : FieldT Try.prog 68 1 1 := ⟨field_of Try.underlying68 rfl rfl (n := 1) (by kernel_rfl) (by decide)⟩
instance : FieldT Try.prog 68 2 2 := ⟨field_of Try.underlying68 rfl rfl (n := 1) (by kernel_rfl) (by decide)⟩
instance : FieldT Try.prog 68 3 3 := ⟨field_of Try.underlying68 rfl rfl (n := 1) (by kernel_rfl) (by decide)⟩
instance : PtrT Try.prog 69 := ⟨⟨_, Try.underlying69⟩⟩
instance : OneT Try.prog 69 := ⟨⟨_, Try.underlying69, rfl⟩, info_size (by kernel_rfl)⟩
instance : ZeroT Try.prog 69 (.pointer none) := ⟨info_zero (by kernel_rfl)⟩
instance : OneT Try.prog 70 := ⟨⟨_, Try.underlying70, rfl⟩, info_size (by kernel_rfl)⟩
instance : ZeroT Try.prog 70 (.nilFunc) := ⟨info_zero (by kernel_rfl)⟩
instance : OneT Try.prog 71 := ⟨⟨_, Try.underlying71, rfl⟩, info_size (by kernel_rfl)⟩
instance : ZeroT Try.prog 71 (.nilFunc) := ⟨info_zero (by kernel_rfl)⟩
instance : OneT Try.prog 72 := ⟨⟨_, Try.underlying72, rfl⟩, info_size (by kernel_rfl)⟩
instance : ZeroT Try.prog 72 (.nilFunc) := ⟨info_zero (by kernel_rfl)⟩
instance : OneT Try.prog 73 := ⟨⟨_, Try.underlying73, rfl⟩, info_size (by kernel_rfl)⟩
instance : ZeroT Try.prog 73 (.nilFunc) := ⟨info_zero (by kernel_rfl)⟩
instance : OneT Try.prog 74 := ⟨⟨_, Try.underlying74, rfl⟩, info_size (by kernel_rfl)⟩
instance : ZeroT Try.prog 74 (.nilFunc) := ⟨info_zero (by kernel_rfl)⟩
instance : OneT Try.prog 75 := ⟨⟨_, Try.underlying75, rfl⟩, info_size (by kernel_rfl)⟩
instance : ZeroT Try.prog 75 (.nilFunc) := ⟨info_zero (by kernel_rfl)⟩
instance : OneT Try.prog 76 := ⟨⟨_, Try.underlying76, rfl⟩, info_size (by kernel_rfl)⟩
instance : ZeroT Try.prog 76 (.nilFunc) := ⟨info_zero (by kernel_rfl)⟩
instance : AggT Try.prog 77 7 := ⟨⟨_, Try.underlying77, rfl⟩, info_size (by kernel_rfl)⟩
instance : ZeroT Try.prog 77 (.agg #[.int .i64 0, .int .i64 0, .string .empty, .slice none 0 0, .int .i64 0, .int .i64 0, .slice none 0 0]) := ⟨info_zero (by kernel_rfl)⟩
instance : BuildT Try.prog 77 [.int .i64 0, .int .i64 0, .string .empty, .slice none 0 0, .int .i64 0, .int .i64 0, .slice none 0 0] [(0, 4), (4, 1), (5, 1), (6, 1)] := ⟨build_of (v := .agg #[.int .i64 0, .int .i64 0, .string .empty, .slice none 0 0, .int .i64 0, .int .i64 0, .slice none 0 0]) (by kernel_rfl) rfl, ⟨_, Try.underlying77, fun w => by kernel_rfl⟩⟩
instance : FieldT Try.prog 77 0 0 := ⟨field_of Try.underlying77 rfl rfl (n := 4) (by kernel_rfl) (by decide)⟩
instance : FieldT Try.prog 77 1 4 := ⟨field_of Try.underlying77 rfl rfl (n := 1) (by kernel_rfl) (by decide)⟩
instance : FieldT Try.prog 77 2 5 := ⟨field_of Try.underlying77 rfl rfl (n := 1) (by kernel_rfl) (by decide)⟩
instance : FieldT Try.prog 77 3 6 := ⟨field_of Try.underlying77 rfl rfl (n := 1) (by kernel_rfl) (by decide)⟩
instance : AggT Try.prog 78 7 := ⟨⟨_, Try.underlying78, rfl⟩, info_size (by kernel_rfl)⟩
instance : ZeroT Try.prog 78 (.agg #[.int .i64 0, .int .i64 0, .string .empty, .slice none 0 0, .int .i64 0, .int .i64 0, .slice none 0 0]) := ⟨info_zero (by kernel_rfl)⟩
instance : BuildT Try.prog 78 [.int .i64 0, .int .i64 0, .string .empty, .slice none 0 0, .int .i64 0, .int .i64 0, .slice none 0 0] [(0, 4), (4, 1), (5, 1), (6, 1)] := ⟨build_of (v := .agg #[.int .i64 0, .int .i64 0, .string .empty, .slice none 0 0, .int .i64 0, .int .i64 0, .slice none 0 0]) (by kernel_rfl) rfl, ⟨_, Try.underlying78, fun w => by kernel_rfl⟩⟩
instance : FieldT Try.prog 78 0 0 := ⟨field_of Try.underlying78 rfl rfl (n := 4) (by kernel_rfl) (by decide)⟩
instance : FieldT Try.prog 78 1 4 := ⟨field_of Try.underlying78 rfl rfl (n := 1) (by kernel_rfl) (by decide)⟩
instance : FieldT Try.prog 78 2 5 := ⟨field_of Try.underlying78 rfl rfl (n := 1) (by kernel_rfl) (by decide)⟩
instance : FieldT Try.prog 78 3 6 := ⟨field_of Try.underlying78 rfl rfl (n := 1) (by kernel_rfl) (by decide)⟩
instance : OneT Try.prog 79 := ⟨⟨_, Try.underlying79, rfl⟩, info_size (by kernel_rfl)⟩
instance : ZeroT Try.prog 79 (.nilFunc) := ⟨info_zero (by kernel_rfl)⟩
instance : AggT Try.prog 80 7 := ⟨⟨_, Try.underlying80, rfl⟩, info_size (by kernel_rfl)⟩
instance : ZeroT Try.prog 80 (.agg #[.int .i64 0, .int .i64 0, .string .empty, .slice none 0 0, .int .i64 0, .slice none 0 0, .int .i64 0]) := ⟨info_zero (by kernel_rfl)⟩
instance : BuildT Try.prog 80 [.int .i64 0, .int .i64 0, .string .empty, .slice none 0 0, .int .i64 0, .slice none 0 0, .int .i64 0] [(0, 4), (4, 1), (5, 1), (6, 1)] := ⟨build_of (v := .agg #[.int .i64 0, .int .i64 0, .string .empty, .slice none 0 0, .int .i64 0, .slice none 0 0, .int .i64 0]) (by kernel_rfl) rfl, ⟨_, Try.underlying80, fun w => by kernel_rfl⟩⟩
instance : FieldT Try.prog 80 0 0 := ⟨field_of Try.underlying80 rfl rfl (n := 4) (by kernel_rfl) (by decide)⟩
instance : FieldT Try.prog 80 1 4 := ⟨field_of Try.underlying80 rfl rfl (n := 1) (by kernel_rfl) (by decide)⟩
instance : FieldT Try.prog 80 2 5 := ⟨field_of Try.underlying80 rfl rfl (n := 1) (by kernel_rfl) (by decide)⟩
instance : FieldT Try.prog 80 3 6 := ⟨field_of Try.underlying80 rfl rfl (n := 1) (by kernel_rfl) (by decide)⟩
instance : AggT Try.prog 81 7 := ⟨⟨_, Try.underlying81, rfl⟩, info_size (by kernel_rfl)⟩
instance : ZeroT Try.prog 81 (.agg #[.int .i64 0, .int .i64 0, .string .empty, .slice none 0 0, .int .i64 0, .slice none 0 0, .int .i64 0]) := ⟨info_zero (by kernel_rfl)⟩
instance : BuildT Try.prog 81 [.int .i64 0, .int .i64 0, .string .empty, .slice none 0 0, .int .i64 0, .slice none 0 0, .int .i64 0] [(0, 4), (4, 1), (5, 1), (6, 1)] := ⟨build_of (v := .agg #[.int .i64 0, .int .i64 0, .string .empty, .slice none 0 0, .int .i64 0, .slice none 0 0, .int .i64 0]) (by kernel_rfl) rfl, ⟨_, Try.underlying81, fun w => by kernel_rfl⟩⟩
instance : FieldT Try.prog 81 0 0 := ⟨field_of Try.underlying81 rfl rfl (n := 4) (by kernel_rfl) (by decide)⟩
instance : FieldT Try.prog 81 1 4 := ⟨field_of Try.underlying81 rfl rfl (n := 1) (by kernel_rfl) (by decide)⟩
instance : FieldT Try.prog 81 2 5 := ⟨field_of Try.underlying81 rfl rfl (n := 1) (by kernel_rfl) (by decide)⟩
instance : FieldT Try.prog 81 3 6 := ⟨field_of Try.underlying81 rfl rfl (n := 1) (by kernel_rfl) (by decide)⟩
instance : OneT Try.prog 83 := ⟨⟨_, Try.underlying83, rfl⟩, info_size (by kernel_rfl)⟩
instance : ZeroT Try.prog 83 (.nilFunc) := ⟨info_zero (by kernel_rfl)⟩
instance : PtrT Try.prog 84 := ⟨⟨_, Try.underlying84⟩⟩
instance : OneT Try.prog 84 := ⟨⟨_, Try.underlying84, rfl⟩, info_size (by kernel_rfl)⟩
instance : ZeroT Try.prog 84 (.pointer none) := ⟨info_zero (by kernel_rfl)⟩
instance : OneT Try.prog 85 := ⟨⟨_, Try.underlying85, rfl⟩, info_size (by kernel_rfl)⟩
instance : ZeroT Try.prog 85 (.nilFunc) := ⟨info_zero (by kernel_rfl)⟩
instance : OneT Try.prog 86 := ⟨⟨_, Try.underlying86, rfl⟩, info_size (by kernel_rfl)⟩
instance : ZeroT Try.prog 86 (.nilFunc) := ⟨info_zero (by kernel_rfl)⟩
instance : OneT Try.prog 87 := ⟨⟨_, Try.underlying87, rfl⟩, info_size (by kernel_rfl)⟩
instance : ZeroT Try.prog 87 (.nilFunc) := ⟨info_zero (by kernel_rfl)⟩
instance : OneT Try.prog 88 := ⟨⟨_, Try.underlying88, rfl⟩, info_size (by kernel_rfl)⟩
instance : ZeroT Try.prog 88 (.nilFunc) := ⟨info_zero (by kernel_rfl)⟩
instance : OneT Try.prog 89 := ⟨⟨_, Try.underlying89, rfl⟩, info_size (by kernel_rfl)⟩
instance : ZeroT Try.prog 89 (.nilFunc) := ⟨info_zero (by kernel_rfl)⟩
instance : OneT Try.prog 90 := ⟨⟨_, Try.underlying90, rfl⟩, info_size (by kernel_rfl)⟩
instance : ZeroT Try.prog 90 (.nilFunc) := ⟨info_zero (by kernel_rfl)⟩
instance : OneT Try.prog 91 := ⟨⟨_, Try.underlying91, rfl⟩, info_size (by kernel_rfl)⟩
instance : ZeroT Try.prog 91 (.nilFunc) := ⟨info_zero (by kernel_rfl)⟩
instance : OneT Try.prog 92 := ⟨⟨_, Try.underlying92, rfl⟩, info_size (by kernel_rfl)⟩
instance : ZeroT Try.prog 92 (.nilFunc) := ⟨info_zero (by kernel_rfl)⟩
instance : OneT Try.prog 93 := ⟨⟨_, Try.underlying93, rfl⟩, info_size (by kernel_rfl)⟩
instance : ZeroT Try.prog 93 (.nilFunc) := ⟨info_zero (by kernel_rfl)⟩
instance : OneT Try.prog 94 := ⟨⟨_, Try.underlying94, rfl⟩, info_size (by kernel_rfl)⟩
instance : ZeroT Try.prog 94 (.nilFunc) := ⟨info_zero (by kernel_rfl)⟩
instance : OneT Try.prog 96 := ⟨⟨_, Try.underlying96, rfl⟩, info_size (by kernel_rfl)⟩
instance : ZeroT Try.prog 96 (.nilFunc) := ⟨info_zero (by kernel_rfl)⟩
instance : SliceT Try.prog 97 4 := ⟨Try.underlying97⟩
instance : RowT Try.prog 97 4 1 1 := ⟨Try.underlying97, info_parts_z (z := .bool false) (by kernel_rfl) (by kernel_rfl), by decide⟩
instance : OneT Try.prog 97 := ⟨⟨_, Try.underlying97, rfl⟩, info_size (by kernel_rfl)⟩
instance : ZeroT Try.prog 97 (.slice none 0 0) := ⟨info_zero (by kernel_rfl)⟩
instance : RowZ Try.prog 97 4 1 1 [.bool false] := ⟨inferInstance, rowz_of (v := .bool false) (by kernel_rfl) rfl rfl⟩
instance : SliceT Try.prog 98 35 := ⟨Try.underlying98⟩
instance : RowT Try.prog 98 35 1 24 := ⟨Try.underlying98, info_parts_z (z := .slice none 0 0) (by kernel_rfl) (by kernel_rfl), by decide⟩
instance : OneT Try.prog 98 := ⟨⟨_, Try.underlying98, rfl⟩, info_size (by kernel_rfl)⟩
instance : ZeroT Try.prog 98 (.slice none 0 0) := ⟨info_zero (by kernel_rfl)⟩
instance : RowZ Try.prog 98 35 1 24 [.slice none 0 0] := ⟨inferInstance, rowz_of (v := .slice none 0 0) (by kernel_rfl) rfl rfl⟩
instance : AggT Try.prog 99 4 := ⟨⟨_, Try.underlying99, rfl⟩, info_size (by kernel_rfl)⟩
instance : ZeroT Try.prog 99 (.agg #[.slice none 0 0, .slice none 0 0, .slice none 0 0, .slice none 0 0]) := ⟨info_zero (by kernel_rfl)⟩
instance : BuildT Try.prog 99 [.slice none 0 0, .slice none 0 0, .slice none 0 0, .slice none 0 0] [(0, 1), (1, 1), (2, 1), (3, 1)] := ⟨build_of (v := .agg #[.slice none 0 0, .slice none 0 0, .slice none 0 0, .slice none 0 0]) (by kernel_rfl) rfl, ⟨_, Try.underlying99, fun w => by kernel_rfl⟩⟩
instance : FieldT Try.prog 99 0 0 := ⟨field_of Try.underlying99 rfl rfl (n := 1) (by kernel_rfl) (by decide)⟩
instance : FieldT Try.prog 99 1 1 := ⟨field_of Try.underlying99 rfl rfl (n := 1) (by kernel_rfl) (by decide)⟩
instance : FieldT Try.prog 99 2 2 := ⟨field_of Try.underlying99 rfl rfl (n := 1) (by kernel_rfl) (by decide)⟩
instance : FieldT Try.prog 99 3 3 := ⟨field_of Try.underlying99 rfl rfl (n := 1) (by kernel_rfl) (by decide)⟩
instance : AggT Try.prog 100 4 := ⟨⟨_, Try.underlying100, rfl⟩, info_size (by kernel_rfl)⟩
instance : ZeroT Try.prog 100 (.agg #[.slice none 0 0, .slice none 0 0, .slice none 0 0, .slice none 0 0]) := ⟨info_zero (by kernel_rfl)⟩
instance : BuildT Try.prog 100 [.slice none 0 0, .slice none 0 0, .slice none 0 0, .slice none 0 0] [(0, 1), (1, 1), (2, 1), (3, 1)] := ⟨build_of (v := .agg #[.slice none 0 0, .slice none 0 0, .slice none 0 0, .slice none 0 0]) (by kernel_rfl) rfl, ⟨_, Try.underlying100, fun w => by kernel_rfl⟩⟩
instance : FieldT Try.prog 100 0 0 := ⟨field_of Try.underlying100 rfl rfl (n := 1) (by kernel_rfl) (by decide)⟩
instance : FieldT Try.prog 100 1 1 := ⟨field_of Try.underlying100 rfl rfl (n := 1) (by kernel_rfl) (by decide)⟩
instance : FieldT Try.prog 100 2 2 := ⟨field_of Try.underlying100 rfl rfl (n := 1) (by kernel_rfl) (by decide)⟩
instance : FieldT Try.prog 100 3 3 := ⟨field_of Try.underlying100 rfl rfl (n := 1) (by kernel_rfl) (by decide)⟩
instance : IntT Try.prog 101 .u64 := ⟨Try.underlying101⟩
instance : OneT Try.prog 101 := ⟨⟨_, Try.underlying101, rfl⟩, info_size (by kernel_rfl)⟩
instance : ZeroT Try.prog 101 (.int .u64 0) := ⟨info_zero (by kernel_rfl)⟩
instance : OneT Try.prog 102 := ⟨⟨_, Try.underlying102, rfl⟩, info_size (by kernel_rfl)⟩
instance : ZeroT Try.prog 102 (.nilFunc) := ⟨info_zero (by kernel_rfl)⟩
instance : OneT Try.prog 103 := ⟨⟨_, Try.underlying103, rfl⟩, info_size (by kernel_rfl)⟩
instance : ZeroT Try.prog 103 (.nilFunc) := ⟨info_zero (by kernel_rfl)⟩
instance : OneT Try.prog 104 := ⟨⟨_, Try.underlying104, rfl⟩, info_size (by kernel_rfl)⟩
instance : ZeroT Try.prog 104 (.nilFunc) := ⟨info_zero (by kernel_rfl)⟩
instance : OneT Try.prog 105 := ⟨⟨_, Try.underlying105, rfl⟩, info_size (by kernel_rfl)⟩
instance : ZeroT Try.prog 105 (.nilFunc) := ⟨info_zero (by kernel_rfl)⟩
instance : OneT Try.prog 106 := ⟨⟨_, Try.underlying106, rfl⟩, info_size (by kernel_rfl)⟩
instance : ZeroT Try.prog 106 (.nilFunc) := ⟨info_zero (by kernel_rfl)⟩
instance : OneT Try.prog 107 := ⟨⟨_, Try.underlying107, rfl⟩, info_size (by kernel_rfl)⟩
instance : ZeroT Try.prog 107 (.nilFunc) := ⟨info_zero (by kernel_rfl)⟩
instance : OneT Try.prog 108 := ⟨⟨_, Try.underlying108, rfl⟩, info_size (by kernel_rfl)⟩
instance : ZeroT Try.prog 108 (.nilFunc) := ⟨info_zero (by kernel_rfl)⟩
instance : OneT Try.prog 109 := ⟨⟨_, Try.underlying109, rfl⟩, info_size (by kernel_rfl)⟩
instance : ZeroT Try.prog 109 (.nilFunc) := ⟨info_zero (by kernel_rfl)⟩
instance : OneT Try.prog 110 := ⟨⟨_, Try.underlying110, rfl⟩, info_size (by kernel_rfl)⟩
instance : ZeroT Try.prog 110 (.nilFunc) := ⟨info_zero (by kernel_rfl)⟩
instance : AggT Try.prog 111 3 := ⟨⟨_, Try.underlying111, rfl⟩, info_size (by kernel_rfl)⟩
instance : ZeroT Try.prog 111 (.agg #[.pointer none, .slice none 0 0, .slice none 0 0]) := ⟨info_zero (by kernel_rfl)⟩
instance : BuildT Try.prog 111 [.pointer none, .slice none 0 0, .slice none 0 0] [(0, 1), (1, 1), (2, 1)] := ⟨build_of (v := .agg #[.pointer none, .slice none 0 0, .slice none 0 0]) (by kernel_rfl) rfl, ⟨_, Try.underlying111, fun w => by kernel_rfl⟩⟩
instance : FieldT Try.prog 111 0 0 := ⟨field_of Try.underlying111 rfl rfl (n := 1) (by kernel_rfl) (by decide)⟩
instance : FieldT Try.prog 111 1 1 := ⟨field_of Try.underlying111 rfl rfl (n := 1) (by kernel_rfl) (by decide)⟩
instance : FieldT Try.prog 111 2 2 := ⟨field_of Try.underlying111 rfl rfl (n := 1) (by kernel_rfl) (by decide)⟩
instance : AggT Try.prog 112 3 := ⟨⟨_, Try.underlying112, rfl⟩, info_size (by kernel_rfl)⟩
instance : ZeroT Try.prog 112 (.agg #[.pointer none, .slice none 0 0, .slice none 0 0]) := ⟨info_zero (by kernel_rfl)⟩
instance : BuildT Try.prog 112 [.pointer none, .slice none 0 0, .slice none 0 0] [(0, 1), (1, 1), (2, 1)] := ⟨build_of (v := .agg #[.pointer none, .slice none 0 0, .slice none 0 0]) (by kernel_rfl) rfl, ⟨_, Try.underlying112, fun w => by kernel_rfl⟩⟩
instance : FieldT Try.prog 112 0 0 := ⟨field_of Try.underlying112 rfl rfl (n := 1) (by kernel_rfl) (by decide)⟩
instance : FieldT Try.prog 112 1 1 := ⟨field_of Try.underlying112 rfl rfl (n := 1) (by kernel_rfl) (by decide)⟩
instance : FieldT Try.prog 112 2 2 := ⟨field_of Try.underlying112 rfl rfl (n := 1) (by kernel_rfl) (by decide)⟩
instance : OneT Try.prog 113 := ⟨⟨_, Try.underlying113, rfl⟩, info_size (by kernel_rfl)⟩
instance : ZeroT Try.prog 113 (.nilFunc) := ⟨info_zero (by kernel_rfl)⟩
instance : OneT Try.prog 114 := ⟨⟨_, Try.underlying114, rfl⟩, info_size (by kernel_rfl)⟩
instance : ZeroT Try.prog 114 (.nilFunc) := ⟨info_zero (by kernel_rfl)⟩
instance : OneT Try.prog 115 := ⟨⟨_, Try.underlying115, rfl⟩, info_size (by kernel_rfl)⟩
instance : ZeroT Try.prog 115 (.nilFunc) := ⟨info_zero (by kernel_rfl)⟩
instance : OneT Try.prog 116 := ⟨⟨_, Try.underlying116, rfl⟩, info_size (by kernel_rfl)⟩
instance : ZeroT Try.prog 116 (.nilFunc) := ⟨info_zero (by kernel_rfl)⟩
instance : AggT Try.prog 117 2 := ⟨⟨_, Try.underlying117, rfl⟩, info_size (by kernel_rfl)⟩
instance : ZeroT Try.prog 117 (.agg #[.int .i64 0, .int .i64 0]) := ⟨info_zero (by kernel_rfl)⟩
instance : BuildT Try.prog 117 [.int .i64 0, .int .i64 0] [(0, 1), (1, 1)] := ⟨build_of (v := .agg #[.int .i64 0, .int .i64 0]) (by kernel_rfl) rfl, ⟨_, Try.underlying117, fun w => by kernel_rfl⟩⟩
instance : FieldT Try.prog 117 0 0 := ⟨field_of Try.underlying117 rfl rfl (n := 1) (by kernel_rfl) (by decide)⟩
instance : FieldT Try.prog 117 1 1 := ⟨field_of Try.underlying117 rfl rfl (n := 1) (by kernel_rfl) (by decide)⟩
instance : AggT Try.prog 118 2 := ⟨⟨_, Try.underlying118, rfl⟩, info_size (by kernel_rfl)⟩
instance : ZeroT Try.prog 118 (.agg #[.int .i64 0, .int .i64 0]) := ⟨info_zero (by kernel_rfl)⟩
instance : BuildT Try.prog 118 [.int .i64 0, .int .i64 0] [(0, 1), (1, 1)] := ⟨build_of (v := .agg #[.int .i64 0, .int .i64 0]) (by kernel_rfl) rfl, ⟨_, Try.underlying118, fun w => by kernel_rfl⟩⟩
instance : FieldT Try.prog 118 0 0 := ⟨field_of Try.underlying118 rfl rfl (n := 1) (by kernel_rfl) (by decide)⟩
instance : FieldT Try.prog 118 1 1 := ⟨field_of Try.underlying118 rfl rfl (n := 1) (by kernel_rfl) (by decide)⟩
instance : OneT Try.prog 120 := ⟨⟨_, Try.underlying120, rfl⟩, info_size (by kernel_rfl)⟩
instance : ZeroT Try.prog 120 (.nilFunc) := ⟨info_zero (by kernel_rfl)⟩
instance : OneT Try.prog 121 := ⟨⟨_, Try.underlying121, rfl⟩, info_size (by kernel_rfl)⟩
instance : ZeroT Try.prog 121 (.nilFunc) := ⟨info_zero (by kernel_rfl)⟩
instance : OneT Try.prog 122 := ⟨⟨_, Try.underlying122, rfl⟩, info_size (by kernel_rfl)⟩
instance : ZeroT Try.prog 122 (.nilFunc) := ⟨info_zero (by kernel_rfl)⟩
instance : SliceT Try.prog 123 126 := ⟨Try.underlying123⟩
instance : RowT Try.prog 123 126 2 32 := ⟨Try.underlying123, info_parts_z (z := .agg #[.slice none 0 0, .bool false]) (by kernel_rfl) (by kernel_rfl), by decide⟩
instance : OneT Try.prog 123 := ⟨⟨_, Try.underlying123, rfl⟩, info_size (by kernel_rfl)⟩
instance : ZeroT Try.prog 123 (.slice none 0 0) := ⟨info_zero (by kernel_rfl)⟩
instance : RowZ Try.prog 123 126 2 32 [.slice none 0 0, .bool false] := ⟨inferInstance, rowz_of (v := .agg #[.slice none 0 0, .bool false]) (by kernel_rfl) rfl rfl⟩
instance : OneT Try.prog 124 := ⟨⟨_, Try.underlying124, rfl⟩, info_size (by kernel_rfl)⟩
instance : ZeroT Try.prog 124 (.nilFunc) := ⟨info_zero (by kernel_rfl)⟩
instance : AggT Try.prog 125 2 := ⟨⟨_, Try.underlying125, rfl⟩, info_size (by kernel_rfl)⟩
instance : ZeroT Try.prog 125 (.agg #[.slice none 0 0, .bool false]) := ⟨info_zero (by kernel_rfl)⟩
instance : BuildT Try.prog 125 [.slice none 0 0, .bool false] [(0, 1), (1, 1)] := ⟨build_of (v := .agg #[.slice none 0 0, .bool false]) (by kernel_rfl) rfl, ⟨_, Try.underlying125, fun w => by kernel_rfl⟩⟩
instance : FieldT Try.prog 125 0 0 := ⟨field_of Try.underlying125 rfl rfl (n := 1) (by kernel_rfl) (by decide)⟩
instance : FieldT Try.prog 125 1 1 := ⟨field_of Try.underlying125 rfl rfl (n := 1) (by kernel_rfl) (by decide)⟩
instance : AggT Try.prog 126 2 := ⟨⟨_, Try.underlying126, rfl⟩, info_size (by kernel_rfl)⟩
instance : ZeroT Try.prog 126 (.agg #[.slice none 0 0, .bool false]) := ⟨info_zero (by kernel_rfl)⟩
instance : BuildT Try.prog 126 [.slice none 0 0, .bool false] [(0, 1), (1, 1)] := ⟨build_of (v := .agg #[.slice none 0 0, .bool false]) (by kernel_rfl) rfl, ⟨_, Try.underlying126, fun w => by kernel_rfl⟩⟩
instance : FieldT Try.prog 126 0 0 := ⟨field_of Try.underlying126 rfl rfl (n := 1) (by kernel_rfl) (by decide)⟩
instance : FieldT Try.prog 126 1 1 := ⟨field_of Try.underlying126 rfl rfl (n := 1) (by kernel_rfl) (by decide)⟩
instance : OneT Try.prog 127 := ⟨⟨_, Try.underlying127, rfl⟩, info_size (by kernel_rfl)⟩
instance : ZeroT Try.prog 127 (.nilFunc) := ⟨info_zero (by kernel_rfl)⟩
instance : OneT Try.prog 128 := ⟨⟨_, Try.underlying128, rfl⟩, info_size (by kernel_rfl)⟩
instance : ZeroT Try.prog 128 (.nilFunc) := ⟨info_zero (by kernel_rfl)⟩
instance : OneT Try.prog 129 := ⟨⟨_, Try.underlying129, rfl⟩, info_size (by kernel_rfl)⟩
instance : ZeroT Try.prog 129 (.nilFunc) := ⟨info_zero (by kernel_rfl)⟩
instance : OneT Try.prog 131 := ⟨⟨_, Try.underlying131, rfl⟩, info_size (by kernel_rfl)⟩
instance : ZeroT Try.prog 131 (.nilFunc) := ⟨info_zero (by kernel_rfl)⟩
instance : OneT Try.prog 132 := ⟨⟨_, Try.underlying132, rfl⟩, info_size (by kernel_rfl)⟩
instance : ZeroT Try.prog 132 (.nilFunc) := ⟨info_zero (by kernel_rfl)⟩
instance : OneT Try.prog 133 := ⟨⟨_, Try.underlying133, rfl⟩, info_size (by kernel_rfl)⟩
instance : ZeroT Try.prog 133 (.nilFunc) := ⟨info_zero (by kernel_rfl)⟩
instance : OneT Try.prog 134 := ⟨⟨_, Try.underlying134, rfl⟩, info_size (by kernel_rfl)⟩
instance : ZeroT Try.prog 134 (.nilFunc) := ⟨info_zero (by kernel_rfl)⟩
instance : OneT Try.prog 135 := ⟨⟨_, Try.underlying135, rfl⟩, info_size (by kernel_rfl)⟩
instance : ZeroT Try.prog 135 (.nilFunc) := ⟨info_zero (by kernel_rfl)⟩
instance : OneT Try.prog 136 := ⟨⟨_, Try.underlying136, rfl⟩, info_size (by kernel_rfl)⟩
instance : ZeroT Try.prog 136 (.nilFunc) := ⟨info_zero (by kernel_rfl)⟩
instance : OneT Try.prog 137 := ⟨⟨_, Try.underlying137, rfl⟩, info_size (by kernel_rfl)⟩
instance : ZeroT Try.prog 137 (.nilFunc) := ⟨info_zero (by kernel_rfl)⟩
instance : OneT Try.prog 138 := ⟨⟨_, Try.underlying138, rfl⟩, info_size (by kernel_rfl)⟩
instance : ZeroT Try.prog 138 (.nilFunc) := ⟨info_zero (by kernel_rfl)⟩
instance : OneT Try.prog 139 := ⟨⟨_, Try.underlying139, rfl⟩, info_size (by kernel_rfl)⟩
instance : ZeroT Try.prog 139 (.nilFunc) := ⟨info_zero (by kernel_rfl)⟩
instance : IntT Try.prog 140 .u64 := ⟨Try.underlying140⟩
instance : OneT Try.prog 140 := ⟨⟨_, Try.underlying140, rfl⟩, info_size (by kernel_rfl)⟩
instance : ZeroT Try.prog 140 (.int .u64 0) := ⟨info_zero (by kernel_rfl)⟩
instance : OneT Try.prog 141 := ⟨⟨_, Try.underlying141, rfl⟩, info_size (by kernel_rfl)⟩
instance : ZeroT Try.prog 141 (.nilFunc) := ⟨info_zero (by kernel_rfl)⟩
instance : AggT Try.prog 142 4 := ⟨⟨_, Try.underlying142, rfl⟩, info_size (by kernel_rfl)⟩
instance : ZeroT Try.prog 142 (.agg #[.pointer none, .pointer none, .pointer none, .string .empty]) := ⟨info_zero (by kernel_rfl)⟩
instance : BuildT Try.prog 142 [.pointer none, .pointer none, .pointer none, .string .empty] [(0, 1), (1, 1), (2, 1), (3, 1)] := ⟨build_of (v := .agg #[.pointer none, .pointer none, .pointer none, .string .empty]) (by kernel_rfl) rfl, ⟨_, Try.underlying142, fun w => by kernel_rfl⟩⟩
instance : FieldT Try.prog 142 0 0 := ⟨field_of Try.underlying142 rfl rfl (n := 1) (by kernel_rfl) (by decide)⟩
instance : FieldT Try.prog 142 1 1 := ⟨field_of Try.underlying142 rfl rfl (n := 1) (by kernel_rfl) (by decide)⟩
instance : FieldT Try.prog 142 2 2 := ⟨field_of Try.underlying142 rfl rfl (n := 1) (by kernel_rfl) (by decide)⟩
instance : FieldT Try.prog 142 3 3 := ⟨field_of Try.underlying142 rfl rfl (n := 1) (by kernel_rfl) (by decide)⟩
instance : AggT Try.prog 143 4 := ⟨⟨_, Try.underlying143, rfl⟩, info_size (by kernel_rfl)⟩
instance : ZeroT Try.prog 143 (.agg #[.pointer none, .pointer none, .pointer none, .string .empty]) := ⟨info_zero (by kernel_rfl)⟩
instance : BuildT Try.prog 143 [.pointer none, .pointer none, .pointer none, .string .empty] [(0, 1), (1, 1), (2, 1), (3, 1)] := ⟨build_of (v := .agg #[.pointer none, .pointer none, .pointer none, .string .empty]) (by kernel_rfl) rfl, ⟨_, Try.underlying143, fun w => by kernel_rfl⟩⟩
instance : FieldT Try.prog 143 0 0 := ⟨field_of Try.underlying143 rfl rfl (n := 1) (by kernel_rfl) (by decide)⟩
instance : FieldT Try.prog 143 1 1 := ⟨field_of Try.underlying143 rfl rfl (n := 1) (by kernel_rfl) (by decide)⟩
instance : FieldT Try.prog 143 2 2 := ⟨field_of Try.underlying143 rfl rfl (n := 1) (by kernel_rfl) (by decide)⟩
instance : FieldT Try.prog 143 3 3 := ⟨field_of Try.underlying143 rfl rfl (n := 1) (by kernel_rfl) (by decide)⟩
instance : ArrT Try.prog 144 0 16 1 := ⟨Try.underlying144, info_size (by kernel_rfl)⟩
instance : IntT Try.prog 147 .u32 := ⟨Try.underlying147⟩
instance : OneT Try.prog 147 := ⟨⟨_, Try.underlying147, rfl⟩, info_size (by kernel_rfl)⟩
instance : ZeroT Try.prog 147 (.int .u32 0) := ⟨info_zero (by kernel_rfl)⟩
instance : IntT Try.prog 148 .u8 := ⟨Try.underlying148⟩
instance : OneT Try.prog 148 := ⟨⟨_, Try.underlying148, rfl⟩, info_size (by kernel_rfl)⟩
instance : ZeroT Try.prog 148 (.int .u8 0) := ⟨info_zero (by kernel_rfl)⟩
instance : IntT Try.prog 149 .u8 := ⟨Try.underlying149⟩
instance : OneT Try.prog 149 := ⟨⟨_, Try.underlying149, rfl⟩, info_size (by kernel_rfl)⟩
instance : ZeroT Try.prog 149 (.int .u8 0) := ⟨info_zero (by kernel_rfl)⟩
instance : OneT Try.prog 150 := ⟨⟨_, Try.underlying150, rfl⟩, info_size (by kernel_rfl)⟩
instance : ZeroT Try.prog 150 (.nilFunc) := ⟨info_zero (by kernel_rfl)⟩
instance : PtrT Try.prog 151 := ⟨⟨_, Try.underlying151⟩⟩
instance : OneT Try.prog 151 := ⟨⟨_, Try.underlying151, rfl⟩, info_size (by kernel_rfl)⟩
instance : ZeroT Try.prog 151 (.pointer none) := ⟨info_zero (by kernel_rfl)⟩
instance : IntT Try.prog 152 .i32 := ⟨Try.underlying152⟩
instance : OneT Try.prog 152 := ⟨⟨_, Try.underlying152, rfl⟩, info_size (by kernel_rfl)⟩
instance : ZeroT Try.prog 152 (.int .i32 0) := ⟨info_zero (by kernel_rfl)⟩
instance : IntT Try.prog 153 .i32 := ⟨Try.underlying153⟩
instance : OneT Try.prog 153 := ⟨⟨_, Try.underlying153, rfl⟩, info_size (by kernel_rfl)⟩
instance : ZeroT Try.prog 153 (.int .i32 0) := ⟨info_zero (by kernel_rfl)⟩
instance : AggT Try.prog 154 11 := ⟨⟨_, Try.underlying154, rfl⟩, info_size (by kernel_rfl)⟩
instance : ZeroT Try.prog 154 (.agg #[.int .u64 0, .int .u64 0, .int .u32 0, .int .u8 0, .int .u8 0, .int .u8 0, .int .u8 0, .nilFunc, .pointer none, .int .i32 0, .int .i32 0]) := ⟨info_zero (by kernel_rfl)⟩
instance : BuildT Try.prog 154 [.int .u64 0, .int .u64 0, .int .u32 0, .int .u8 0, .int .u8 0, .int .u8 0, .int .u8 0, .nilFunc, .pointer none, .int .i32 0, .int .i32 0] [(0, 1), (1, 1), (2, 1), (3, 1), (4, 1), (5, 1), (6, 1), (7, 1), (8, 1), (9, 1), (10, 1)] := ⟨build_of (v := .agg #[.int .u64 0, .int .u64 0, .int .u32 0, .int .u8 0, .int .u8 0, .int .u8 0, .int .u8 0, .nilFunc, .pointer none, .int .i32 0, .int .i32 0]) (by kernel_rfl) rfl, ⟨_, Try.underlying154, fun w => by kernel_rfl⟩⟩
instance : FieldT Try.prog 154 0 0 := ⟨field_of Try.underlying154 rfl rfl (n := 1) (by kernel_rfl) (by decide)⟩
instance : FieldT Try.prog 154 1 1 := ⟨field_of Try.underlying154 rfl rfl (n := 1) (by kernel_rfl) (by decide)⟩
instance : FieldT Try.prog 154 2 2 := ⟨field_of Try.underlying154 rfl rfl (n := 1) (by kernel_rfl) (by decide)⟩
instance : FieldT Try.prog 154 3 3 := ⟨field_of Try.underlying154 rfl rfl (n := 1) (by kernel_rfl) (by decide)⟩
instance : FieldT Try.prog 154 4 4 := ⟨field_of Try.underlying154 rfl rfl (n := 1) (by kernel_rfl) (by decide)⟩
instance : FieldT Try.prog 154 5 5 := ⟨field_of Try.underlying154 rfl rfl (n := 1) (by kernel_rfl) (by decide)⟩
instance : FieldT Try.prog 154 6 6 := ⟨field_of Try.underlying154 rfl rfl (n := 1) (by kernel_rfl) (by decide)⟩
instance : FieldT Try.prog 154 7 7 := ⟨field_of Try.underlying154 rfl rfl (n := 1) (by kernel_rfl) (by decide)⟩
instance : FieldT Try.prog 154 8 8 := ⟨field_of Try.underlying154 rfl rfl (n := 1) (by kernel_rfl) (by decide)⟩
instance : FieldT Try.prog 154 9 9 := ⟨field_of Try.underlying154 rfl rfl (n := 1) (by kernel_rfl) (by decide)⟩
instance : FieldT Try.prog 154 10 10 := ⟨field_of Try.underlying154 rfl rfl (n := 1) (by kernel_rfl) (by decide)⟩
instance : AggT Try.prog 155 11 := ⟨⟨_, Try.underlying155, rfl⟩, info_size (by kernel_rfl)⟩
instance : ZeroT Try.prog 155 (.agg #[.int .u64 0, .int .u64 0, .int .u32 0, .int .u8 0, .int .u8 0, .int .u8 0, .int .u8 0, .nilFunc, .pointer none, .int .i32 0, .int .i32 0]) := ⟨info_zero (by kernel_rfl)⟩
instance : BuildT Try.prog 155 [.int .u64 0, .int .u64 0, .int .u32 0, .int .u8 0, .int .u8 0, .int .u8 0, .int .u8 0, .nilFunc, .pointer none, .int .i32 0, .int .i32 0] [(0, 1), (1, 1), (2, 1), (3, 1), (4, 1), (5, 1), (6, 1), (7, 1), (8, 1), (9, 1), (10, 1)] := ⟨build_of (v := .agg #[.int .u64 0, .int .u64 0, .int .u32 0, .int .u8 0, .int .u8 0, .int .u8 0, .int .u8 0, .nilFunc, .pointer none, .int .i32 0, .int .i32 0]) (by kernel_rfl) rfl, ⟨_, Try.underlying155, fun w => by kernel_rfl⟩⟩
instance : FieldT Try.prog 155 0 0 := ⟨field_of Try.underlying155 rfl rfl (n := 1) (by kernel_rfl) (by decide)⟩
instance : FieldT Try.prog 155 1 1 := ⟨field_of Try.underlying155 rfl rfl (n := 1) (by kernel_rfl) (by decide)⟩
instance : FieldT Try.prog 155 2 2 := ⟨field_of Try.underlying155 rfl rfl (n := 1) (by kernel_rfl) (by decide)⟩
instance : FieldT Try.prog 155 3 3 := ⟨field_of Try.underlying155 rfl rfl (n := 1) (by kernel_rfl) (by decide)⟩
instance : FieldT Try.prog 155 4 4 := ⟨field_of Try.underlying155 rfl rfl (n := 1) (by kernel_rfl) (by decide)⟩
instance : FieldT Try.prog 155 5 5 := ⟨field_of Try.underlying155 rfl rfl (n := 1) (by kernel_rfl) (by decide)⟩
instance : FieldT Try.prog 155 6 6 := ⟨field_of Try.underlying155 rfl rfl (n := 1) (by kernel_rfl) (by decide)⟩
instance : FieldT Try.prog 155 7 7 := ⟨field_of Try.underlying155 rfl rfl (n := 1) (by kernel_rfl) (by decide)⟩
instance : FieldT Try.prog 155 8 8 := ⟨field_of Try.underlying155 rfl rfl (n := 1) (by kernel_rfl) (by decide)⟩
instance : FieldT Try.prog 155 9 9 := ⟨field_of Try.underlying155 rfl rfl (n := 1) (by kernel_rfl) (by decide)⟩
instance : FieldT Try.prog 155 10 10 := ⟨field_of Try.underlying155 rfl rfl (n := 1) (by kernel_rfl) (by decide)⟩
instance : ZeroT Try.prog 156 (.pointer none) := ⟨info_zero (by kernel_rfl)⟩
instance : FnT Try.prog 3 := ⟨⟨_, Try.func3, by kernel_rfl, by kernel_rfl⟩⟩
instance : FnT Try.prog 4 := ⟨⟨_, Try.func4, by kernel_rfl, by kernel_rfl⟩⟩
instance : FnT Try.prog 5 := ⟨⟨_, Try.func5, by kernel_rfl, by kernel_rfl⟩⟩
instance : FnT Try.prog 6 := ⟨⟨_, Try.func6, by kernel_rfl, by kernel_rfl⟩⟩
instance : FnT Try.prog 7 := ⟨⟨_, Try.func7, by kernel_rfl, by kernel_rfl⟩⟩
instance : FnT Try.prog 8 := ⟨⟨_, Try.func8, by kernel_rfl, by kernel_rfl⟩⟩
instance : FnT Try.prog 9 := ⟨⟨_, Try.func9, by kernel_rfl, by kernel_rfl⟩⟩
instance : FnT Try.prog 10 := ⟨⟨_, Try.func10, by kernel_rfl, by kernel_rfl⟩⟩
instance : FnT Try.prog 11 := ⟨⟨_, Try.func11, by kernel_rfl, by kernel_rfl⟩⟩
instance : FnT Try.prog 12 := ⟨⟨_, Try.func12, by kernel_rfl, by kernel_rfl⟩⟩
instance : FnT Try.prog 13 := ⟨⟨_, Try.func13, by kernel_rfl, by kernel_rfl⟩⟩
instance : FnT Try.prog 14 := ⟨⟨_, Try.func14, by kernel_rfl, by kernel_rfl⟩⟩
instance : FnT Try.prog 15 := ⟨⟨_, Try.func15, by kernel_rfl, by kernel_rfl⟩⟩
instance : FnT Try.prog 16 := ⟨⟨_, Try.func16, by kernel_rfl, by kernel_rfl⟩⟩
instance : FnT Try.prog 17 := ⟨⟨_, Try.func17, by kernel_rfl, by kernel_rfl⟩⟩
instance : FnT Try.prog 18 := ⟨⟨_, Try.func18, by kernel_rfl, by kernel_rfl⟩⟩
instance : FnT Try.prog 19 := ⟨⟨_, Try.func19, by kernel_rfl, by kernel_rfl⟩⟩
instance : FnT Try.prog 20 := ⟨⟨_, Try.func20, by kernel_rfl, by kernel_rfl⟩⟩
instance : FnT Try.prog 21 := ⟨⟨_, Try.func21, by kernel_rfl, by kernel_rfl⟩⟩
instance : FnT Try.prog 22 := ⟨⟨_, Try.func22, by kernel_rfl, by kernel_rfl⟩⟩
instance : FnT Try.prog 23 := ⟨⟨_, Try.func23, by kernel_rfl, by kernel_rfl⟩⟩
instance : FnT Try.prog 24 := ⟨⟨_, Try.func24, by kernel_rfl, by kernel_rfl⟩⟩
instance : FnT Try.prog 25 := ⟨⟨_, Try.func25, by kernel_rfl, by kernel_rfl⟩⟩
instance : FnT Try.prog 26 := ⟨⟨_, Try.func26, by kernel_rfl, by kernel_rfl⟩⟩
instance : FnT Try.prog 27 := ⟨⟨_, Try.func27, by kernel_rfl, by kernel_rfl⟩⟩
instance : FnT Try.prog 28 := ⟨⟨_, Try.func28, by kernel_rfl, by kernel_rfl⟩⟩
instance : FnT Try.prog 29 := ⟨⟨_, Try.func29, by kernel_rfl, by kernel_rfl⟩⟩
instance : FnT Try.prog 30 := ⟨⟨_, Try.func30, by kernel_rfl, by kernel_rfl⟩⟩
instance : FnT Try.prog 31 := ⟨⟨_, Try.func31, by kernel_rfl, by kernel_rfl⟩⟩
instance : FnT Try.prog 32 := ⟨⟨_, Try.func32, by kernel_rfl, by kernel_rfl⟩⟩
instance : FnT Try.prog 33 := ⟨⟨_, Try.func33, by kernel_rfl, by kernel_rfl⟩⟩
instance : FnT Try.prog 34 := ⟨⟨_, Try.func34, by kernel_rfl, by kernel_rfl⟩⟩
instance : FnT Try.prog 35 := ⟨⟨_, Try.func35, by kernel_rfl, by kernel_rfl⟩⟩
instance : FnT Try.prog 36 := ⟨⟨_, Try.func36, by kernel_rfl, by kernel_rfl⟩⟩
instance : FnT Try.prog 37 := ⟨⟨_, Try.func37, by kernel_rfl, by kernel_rfl⟩⟩
instance : FnT Try.prog 38 := ⟨⟨_, Try.func38, by kernel_rfl, by kernel_rfl⟩⟩
instance : FnT Try.prog 39 := ⟨⟨_, Try.func39, by kernel_rfl, by kernel_rfl⟩⟩
instance : FnT Try.prog 40 := ⟨⟨_, Try.func40, by kernel_rfl, by kernel_rfl⟩⟩
instance : FnT Try.prog 41 := ⟨⟨_, Try.func41, by kernel_rfl, by kernel_rfl⟩⟩
instance : FnT Try.prog 42 := ⟨⟨_, Try.func42, by kernel_rfl, by kernel_rfl⟩⟩
instance : FnT Try.prog 43 := ⟨⟨_, Try.func43, by kernel_rfl, by kernel_rfl⟩⟩
instance : FnT Try.prog 44 := ⟨⟨_, Try.func44, by kernel_rfl, by kernel_rfl⟩⟩
instance : FnT Try.prog 45 := ⟨⟨_, Try.func45, by kernel_rfl, by kernel_rfl⟩⟩
instance : FnT Try.prog 46 := ⟨⟨_, Try.func46, by kernel_rfl, by kernel_rfl⟩⟩
instance : FnT Try.prog 47 := ⟨⟨_, Try.func47, by kernel_rfl, by kernel_rfl⟩⟩
instance : FnT Try.prog 48 := ⟨⟨_, Try.func48, by kernel_rfl, by kernel_rfl⟩⟩
instance : FnT Try.prog 49 := ⟨⟨_, Try.func49, by kernel_rfl, by kernel_rfl⟩⟩
instance : FnT Try.prog 50 := ⟨⟨_, Try.func50, by kernel_rfl, by kernel_rfl⟩⟩
instance : FnT Try.prog 51 := ⟨⟨_, Try.func51, by kernel_rfl, by kernel_rfl⟩⟩
instance : FnT Try.prog 52 := ⟨⟨_, Try.func52, by kernel_rfl, by kernel_rfl⟩⟩
instance : FnT Try.prog 53 := ⟨⟨_, Try.func53, by kernel_rfl, by kernel_rfl⟩⟩
instance : FnT Try.prog 54 := ⟨⟨_, Try.func54, by kernel_rfl, by kernel_rfl⟩⟩
instance : FnT Try.prog 55 := ⟨⟨_, Try.func55, by kernel_rfl, by kernel_rfl⟩⟩
instance : FnT Try.prog 56 := ⟨⟨_, Try.func56, by kernel_rfl, by kernel_rfl⟩⟩
instance : FnT Try.prog 57 := ⟨⟨_, Try.func57, by kernel_rfl, by kernel_rfl⟩⟩
instance : FnT Try.prog 58 := ⟨⟨_, Try.func58, by kernel_rfl, by kernel_rfl⟩⟩
instance : FnT Try.prog 59 := ⟨⟨_, Try.func59, by kernel_rfl, by kernel_rfl⟩⟩
instance : FnT Try.prog 60 := ⟨⟨_, Try.func60, by kernel_rfl, by kernel_rfl⟩⟩
instance : FnT Try.prog 61 := ⟨⟨_, Try.func61, by kernel_rfl, by kernel_rfl⟩⟩
instance : FnT Try.prog 62 := ⟨⟨_, Try.func62, by kernel_rfl, by kernel_rfl⟩⟩
instance : FnT Try.prog 63 := ⟨⟨_, Try.func63, by kernel_rfl, by kernel_rfl⟩⟩
instance : FnT Try.prog 64 := ⟨⟨_, Try.func64, by kernel_rfl, by kernel_rfl⟩⟩
instance : FnT Try.prog 65 := ⟨⟨_, Try.func65, by kernel_rfl, by kernel_rfl⟩⟩
instance : FnT Try.prog 66 := ⟨⟨_, Try.func66, by kernel_rfl, by kernel_rfl⟩⟩
instance : FnT Try.prog 67 := ⟨⟨_, Try.func67, by kernel_rfl, by kernel_rfl⟩⟩
instance : FnT Try.prog 68 := ⟨⟨_, Try.func68, by kernel_rfl, by kernel_rfl⟩⟩
instance : FnT Try.prog 69 := ⟨⟨_, Try.func69, by kernel_rfl, by kernel_rfl⟩⟩
instance : FnT Try.prog 70 := ⟨⟨_, Try.func70, by kernel_rfl, by kernel_rfl⟩⟩
instance : FnT Try.prog 71 := ⟨⟨_, Try.func71, by kernel_rfl, by kernel_rfl⟩⟩
instance : FnT Try.prog 72 := ⟨⟨_, Try.func72, by kernel_rfl, by kernel_rfl⟩⟩
instance : FnT Try.prog 73 := ⟨⟨_, Try.func73, by kernel_rfl, by kernel_rfl⟩⟩
instance : FnT Try.prog 74 := ⟨⟨_, Try.func74, by kernel_rfl, by kernel_rfl⟩⟩
instance : FnT Try.prog 75 := ⟨⟨_, Try.func75, by kernel_rfl, by kernel_rfl⟩⟩
instance : FnT Try.prog 76 := ⟨⟨_, Try.func76, by kernel_rfl, by kernel_rfl⟩⟩
instance : FnT Try.prog 77 := ⟨⟨_, Try.func77, by kernel_rfl, by kernel_rfl⟩⟩
instance : FnT Try.prog 78 := ⟨⟨_, Try.func78, by kernel_rfl, by kernel_rfl⟩⟩
instance : FnT Try.prog 79 := ⟨⟨_, Try.func79, by kernel_rfl, by kernel_rfl⟩⟩
instance : FnT Try.prog 80 := ⟨⟨_, Try.func80, by kernel_rfl, by kernel_rfl⟩⟩
instance : FnT Try.prog 81 := ⟨⟨_, Try.func81, by kernel_rfl, by kernel_rfl⟩⟩
instance : FnT Try.prog 82 := ⟨⟨_, Try.func82, by kernel_rfl, by kernel_rfl⟩⟩
instance : FnT Try.prog 83 := ⟨⟨_, Try.func83, by kernel_rfl, by kernel_rfl⟩⟩
instance : FnT Try.prog 84 := ⟨⟨_, Try.func84, by kernel_rfl, by kernel_rfl⟩⟩
instance : FnT Try.prog 85 := ⟨⟨_, Try.func85, by kernel_rfl, by kernel_rfl⟩⟩
instance : FnT Try.prog 86 := ⟨⟨_, Try.func86, by kernel_rfl, by kernel_rfl⟩⟩
instance : FnT Try.prog 87 := ⟨⟨_, Try.func87, by kernel_rfl, by kernel_rfl⟩⟩
instance : FnT Try.prog 88 := ⟨⟨_, Try.func88, by kernel_rfl, by kernel_rfl⟩⟩
instance : FnT Try.prog 89 := ⟨⟨_, Try.func89, by kernel_rfl, by kernel_rfl⟩⟩
instance : FnT Try.prog 90 := ⟨⟨_, Try.func90, by kernel_rfl, by kernel_rfl⟩⟩
instance : FnT Try.prog 91 := ⟨⟨_, Try.func91, by kernel_rfl, by kernel_rfl⟩⟩
instance : FnT Try.prog 92 := ⟨⟨_, Try.func92, by kernel_rfl, by kernel_rfl⟩⟩
instance : FnT Try.prog 93 := ⟨⟨_, Try.func93, by kernel_rfl, by kernel_rfl⟩⟩
instance : FnT Try.prog 94 := ⟨⟨_, Try.func94, by kernel_rfl, by kernel_rfl⟩⟩
instance : FnT Try.prog 95 := ⟨⟨_, Try.func95, by kernel_rfl, by kernel_rfl⟩⟩
instance : FnT Try.prog 96 := ⟨⟨_, Try.func96, by kernel_rfl, by kernel_rfl⟩⟩
instance : FnT Try.prog 97 := ⟨⟨_, Try.func97, by kernel_rfl, by kernel_rfl⟩⟩
instance : FnT Try.prog 98 := ⟨⟨_, Try.func98, by kernel_rfl, by kernel_rfl⟩⟩
instance : FnT Try.prog 99 := ⟨⟨_, Try.func99, by kernel_rfl, by kernel_rfl⟩⟩
instance : FnT Try.prog 100 := ⟨⟨_, Try.func100, by kernel_rfl, by kernel_rfl⟩⟩
instance : FnT Try.prog 101 := ⟨⟨_, Try.func101, by kernel_rfl, by kernel_rfl⟩⟩
instance : FnT Try.prog 102 := ⟨⟨_, Try.func102, by kernel_rfl, by kernel_rfl⟩⟩
instance : FnT Try.prog 103 := ⟨⟨_, Try.func103, by kernel_rfl, by kernel_rfl⟩⟩
instance : FnT Try.prog 104 := ⟨⟨_, Try.func104, by kernel_rfl, by kernel_rfl⟩⟩
instance : FnT Try.prog 105 := ⟨⟨_, Try.func105, by kernel_rfl, by kernel_rfl⟩⟩
instance : FnT Try.prog 106 := ⟨⟨_, Try.func106, by kernel_rfl, by kernel_rfl⟩⟩
instance : FnT Try.prog 107 := ⟨⟨_, Try.func107, by kernel_rfl, by kernel_rfl⟩⟩
instance : FnT Try.prog 108 := ⟨⟨_, Try.func108, by kernel_rfl, by kernel_rfl⟩⟩
instance : FnT Try.prog 109 := ⟨⟨_, Try.func109, by kernel_rfl, by kernel_rfl⟩⟩
instance : FnT Try.prog 110 := ⟨⟨_, Try.func110, by kernel_rfl, by kernel_rfl⟩⟩
instance : FnT Try.prog 111 := ⟨⟨_, Try.func111, by kernel_rfl, by kernel_rfl⟩⟩
end Go.Proofs.Ytpochcchekoonaa
