/-
  The facts on this seat's types and functions, as instances for the engine's rules. Written by inst.py.
-/
import Derived.Test.YtjhgodgppmgneaaOp3
import Derived.Test.YtjhgodgppmgneaaRows
namespace Go.Proofs.Ytjhgodgppmgneaa
open Go.Rf

instance : OneT Try.prog 1 := ⟨⟨_, Try.underlying1, rfl⟩, info_size (by kernel_rfl)⟩
instance : ZeroT Try.prog 1 (.nilFunc) := ⟨info_zero (by kernel_rfl)⟩
instance : IntT Try.prog 2 .i64 := ⟨Try.underlying2⟩
instance : OneT Try.prog 2 := ⟨⟨_, Try.underlying2, rfl⟩, info_size (by kernel_rfl)⟩
instance : ZeroT Try.prog 2 (.int .i64 0) := ⟨info_zero (by kernel_rfl)⟩
instance : IntT Try.prog 3 .i64 := ⟨Try.underlying3⟩
instance : OneT Try.prog 3 := ⟨⟨_, Try.underlying3, rfl⟩, info_size (by kernel_rfl)⟩
instance : ZeroT Try.prog 3 (.int .i64 0) := ⟨info_zero (by kernel_rfl)⟩
instance : OneT Try.prog 4 := ⟨⟨_, Try.underlying4, rfl⟩, info_size (by kernel_rfl)⟩
instance : ZeroT Try.prog 4 (.bool false) := ⟨info_zero (by kernel_rfl)⟩
instance : IntT Try.prog 5 .u8 := ⟨Try.underlying5⟩
instance : OneT Try.prog 5 := ⟨⟨_, Try.underlying5, rfl⟩, info_size (by kernel_rfl)⟩
instance : ZeroT Try.prog 5 (.int .u8 0) := ⟨info_zero (by kernel_rfl)⟩
instance : IntT Try.prog 6 .u8 := ⟨Try.underlying6⟩
instance : OneT Try.prog 6 := ⟨⟨_, Try.underlying6, rfl⟩, info_size (by kernel_rfl)⟩
instance : ZeroT Try.prog 6 (.int .u8 0) := ⟨info_zero (by kernel_rfl)⟩
instance : AggT Try.prog 7 4 := ⟨⟨_, Try.underlying7, rfl⟩, info_size (by kernel_rfl)⟩
instance : ZeroT Try.prog 7 (.agg #[.int .i64 0, .int .i64 0, .bool false, .int .u8 0]) := ⟨info_zero (by kernel_rfl)⟩
instance : BuildT Try.prog 7 [.int .i64 0, .int .i64 0, .bool false, .int .u8 0] [(0, 1), (1, 1), (2, 1), (3, 1)] := ⟨build_of (v := .agg #[.int .i64 0, .int .i64 0, .bool false, .int .u8 0]) (by kernel_rfl) rfl, ⟨_, Try.underlying7, fun w => by kernel_rfl⟩⟩
instance : FieldT Try.prog 7 0 0 := ⟨field_of Try.underlying7 rfl rfl (n := 1) (by kernel_rfl) (by decide)⟩
instance : FieldT Try.prog 7 1 1 := ⟨field_of Try.underlying7 rfl rfl (n := 1) (by kernel_rfl) (by decide)⟩
instance : FieldT Try.prog 7 2 2 := ⟨field_of Try.underlying7 rfl rfl (n := 1) (by kernel_rfl) (by decide)⟩
instance : FieldT Try.prog 7 3 3 := ⟨field_of Try.underlying7 rfl rfl (n := 1) (by kernel_rfl) (by decide)⟩
instance : AggT Try.prog 8 4 := ⟨⟨_, Try.underlying8, rfl⟩, info_size (by kernel_rfl)⟩
instance : ZeroT Try.prog 8 (.agg #[.int .i64 0, .int .i64 0, .bool false, .int .u8 0]) := ⟨info_zero (by kernel_rfl)⟩
instance : BuildT Try.prog 8 [.int .i64 0, .int .i64 0, .bool false, .int .u8 0] [(0, 1), (1, 1), (2, 1), (3, 1)] := ⟨build_of (v := .agg #[.int .i64 0, .int .i64 0, .bool false, .int .u8 0]) (by kernel_rfl) rfl, ⟨_, Try.underlying8, fun w => by kernel_rfl⟩⟩
instance : FieldT Try.prog 8 0 0 := ⟨field_of Try.underlying8 rfl rfl (n := 1) (by kernel_rfl) (by decide)⟩
instance : FieldT Try.prog 8 1 1 := ⟨field_of Try.underlying8 rfl rfl (n := 1) (by kernel_rfl) (by decide)⟩
instance : FieldT Try.prog 8 2 2 := ⟨field_of Try.underlying8 rfl rfl (n := 1) (by kernel_rfl) (by decide)⟩
instance : FieldT Try.prog 8 3 3 := ⟨field_of Try.underlying8 rfl rfl (n := 1) (by kernel_rfl) (by decide)⟩
instance : StrT Try.prog 9 := ⟨Try.underlying9⟩
instance : OneT Try.prog 9 := ⟨⟨_, Try.underlying9, rfl⟩, info_size (by kernel_rfl)⟩
instance : ZeroT Try.prog 9 (.string .empty) := ⟨info_zero (by kernel_rfl)⟩
instance : StrT Try.prog 10 := ⟨Try.underlying10⟩
instance : OneT Try.prog 10 := ⟨⟨_, Try.underlying10, rfl⟩, info_size (by kernel_rfl)⟩
instance : ZeroT Try.prog 10 (.string .empty) := ⟨info_zero (by kernel_rfl)⟩
instance : StrT Try.prog 11 := ⟨Try.underlying11⟩
instance : OneT Try.prog 11 := ⟨⟨_, Try.underlying11, rfl⟩, info_size (by kernel_rfl)⟩
instance : ZeroT Try.prog 11 (.string .empty) := ⟨info_zero (by kernel_rfl)⟩
instance : IntT Try.prog 12 .u64 := ⟨Try.underlying12⟩
instance : OneT Try.prog 12 := ⟨⟨_, Try.underlying12, rfl⟩, info_size (by kernel_rfl)⟩
instance : ZeroT Try.prog 12 (.int .u64 0) := ⟨info_zero (by kernel_rfl)⟩
instance : AggT Try.prog 13 2 := ⟨⟨_, Try.underlying13, rfl⟩, info_size (by kernel_rfl)⟩
instance : ZeroT Try.prog 13 (.agg #[.string .empty, .int .u64 0]) := ⟨info_zero (by kernel_rfl)⟩
instance : BuildT Try.prog 13 [.string .empty, .int .u64 0] [(0, 1), (1, 1)] := ⟨build_of (v := .agg #[.string .empty, .int .u64 0]) (by kernel_rfl) rfl, ⟨_, Try.underlying13, fun w => by kernel_rfl⟩⟩
instance : FieldT Try.prog 13 0 0 := ⟨field_of Try.underlying13 rfl rfl (n := 1) (by kernel_rfl) (by decide)⟩
instance : FieldT Try.prog 13 1 1 := ⟨field_of Try.underlying13 rfl rfl (n := 1) (by kernel_rfl) (by decide)⟩
instance : AggT Try.prog 14 2 := ⟨⟨_, Try.underlying14, rfl⟩, info_size (by kernel_rfl)⟩
instance : ZeroT Try.prog 14 (.agg #[.string .empty, .int .u64 0]) := ⟨info_zero (by kernel_rfl)⟩
instance : BuildT Try.prog 14 [.string .empty, .int .u64 0] [(0, 1), (1, 1)] := ⟨build_of (v := .agg #[.string .empty, .int .u64 0]) (by kernel_rfl) rfl, ⟨_, Try.underlying14, fun w => by kernel_rfl⟩⟩
instance : FieldT Try.prog 14 0 0 := ⟨field_of Try.underlying14 rfl rfl (n := 1) (by kernel_rfl) (by decide)⟩
instance : FieldT Try.prog 14 1 1 := ⟨field_of Try.underlying14 rfl rfl (n := 1) (by kernel_rfl) (by decide)⟩
instance : PtrT Try.prog 15 := ⟨⟨_, Try.underlying15⟩⟩
instance : OneT Try.prog 15 := ⟨⟨_, Try.underlying15, rfl⟩, info_size (by kernel_rfl)⟩
instance : ZeroT Try.prog 15 (.pointer none) := ⟨info_zero (by kernel_rfl)⟩
instance : PtrT Try.prog 16 := ⟨⟨_, Try.underlying16⟩⟩
instance : OneT Try.prog 16 := ⟨⟨_, Try.underlying16, rfl⟩, info_size (by kernel_rfl)⟩
instance : ZeroT Try.prog 16 (.pointer none) := ⟨info_zero (by kernel_rfl)⟩
instance : PtrT Try.prog 17 := ⟨⟨_, Try.underlying17⟩⟩
instance : OneT Try.prog 17 := ⟨⟨_, Try.underlying17, rfl⟩, info_size (by kernel_rfl)⟩
instance : ZeroT Try.prog 17 (.pointer none) := ⟨info_zero (by kernel_rfl)⟩
instance : AggT Try.prog 18 1 := ⟨⟨_, Try.underlying18, rfl⟩, info_size (by kernel_rfl)⟩
instance : ZeroT Try.prog 18 (.agg #[.pointer none]) := ⟨info_zero (by kernel_rfl)⟩
instance : BuildT Try.prog 18 [.pointer none] [(0, 1)] := ⟨build_of (v := .agg #[.pointer none]) (by kernel_rfl) rfl, ⟨_, Try.underlying18, fun w => by kernel_rfl⟩⟩
instance : FieldT Try.prog 18 0 0 := ⟨field_of Try.underlying18 rfl rfl (n := 1) (by kernel_rfl) (by decide)⟩
instance : AggT Try.prog 19 1 := ⟨⟨_, Try.underlying19, rfl⟩, info_size (by kernel_rfl)⟩
instance : ZeroT Try.prog 19 (.agg #[.pointer none]) := ⟨info_zero (by kernel_rfl)⟩
instance : BuildT Try.prog 19 [.pointer none] [(0, 1)] := ⟨build_of (v := .agg #[.pointer none]) (by kernel_rfl) rfl, ⟨_, Try.underlying19, fun w => by kernel_rfl⟩⟩
instance : FieldT Try.prog 19 0 0 := ⟨field_of Try.underlying19 rfl rfl (n := 1) (by kernel_rfl) (by decide)⟩
instance : OneT Try.prog 20 := ⟨⟨_, Try.underlying20, rfl⟩, info_size (by kernel_rfl)⟩
instance : ZeroT Try.prog 20 (.nilIface) := ⟨info_zero (by kernel_rfl)⟩
instance : IntT Try.prog 21 .i32 := ⟨Try.underlying21⟩
instance : OneT Try.prog 21 := ⟨⟨_, Try.underlying21, rfl⟩, info_size (by kernel_rfl)⟩
instance : ZeroT Try.prog 21 (.int .i32 0) := ⟨info_zero (by kernel_rfl)⟩
instance : IntT Try.prog 22 .u64 := ⟨Try.underlying22⟩
instance : OneT Try.prog 22 := ⟨⟨_, Try.underlying22, rfl⟩, info_size (by kernel_rfl)⟩
instance : ZeroT Try.prog 22 (.int .u64 0) := ⟨info_zero (by kernel_rfl)⟩
instance : OneT Try.prog 23 := ⟨⟨_, Try.underlying23, rfl⟩, info_size (by kernel_rfl)⟩
instance : ZeroT Try.prog 23 (.nilFunc) := ⟨info_zero (by kernel_rfl)⟩
instance : SliceT Try.prog 24 5 := ⟨Try.underlying24⟩
instance : RowT Try.prog 24 5 1 1 := ⟨Try.underlying24, info_parts_z (z := .int .u8 0) (by kernel_rfl) (by kernel_rfl), by decide⟩
instance : OneT Try.prog 24 := ⟨⟨_, Try.underlying24, rfl⟩, info_size (by kernel_rfl)⟩
instance : ZeroT Try.prog 24 (.slice none 0 0) := ⟨info_zero (by kernel_rfl)⟩
instance : U8T Try.prog 24 := ⟨⟨5, Try.underlying24, Try.underlying5⟩⟩
instance : RowZ Try.prog 24 5 1 1 [.int .u8 0] := ⟨inferInstance, rowz_of (v := .int .u8 0) (by kernel_rfl) rfl rfl⟩
instance : AggT Try.prog 25 1 := ⟨⟨_, Try.underlying25, rfl⟩, info_size (by kernel_rfl)⟩
instance : ZeroT Try.prog 25 (.agg #[.slice none 0 0]) := ⟨info_zero (by kernel_rfl)⟩
instance : BuildT Try.prog 25 [.slice none 0 0] [(0, 1)] := ⟨build_of (v := .agg #[.slice none 0 0]) (by kernel_rfl) rfl, ⟨_, Try.underlying25, fun w => by kernel_rfl⟩⟩
instance : FieldT Try.prog 25 0 0 := ⟨field_of Try.underlying25 rfl rfl (n := 1) (by kernel_rfl) (by decide)⟩
instance : AggT Try.prog 26 1 := ⟨⟨_, Try.underlying26, rfl⟩, info_size (by kernel_rfl)⟩
instance : ZeroT Try.prog 26 (.agg #[.slice none 0 0]) := ⟨info_zero (by kernel_rfl)⟩
instance : BuildT Try.prog 26 [.slice none 0 0] [(0, 1)] := ⟨build_of (v := .agg #[.slice none 0 0]) (by kernel_rfl) rfl, ⟨_, Try.underlying26, fun w => by kernel_rfl⟩⟩
instance : FieldT Try.prog 26 0 0 := ⟨field_of Try.underlying26 rfl rfl (n := 1) (by kernel_rfl) (by decide)⟩
instance : OneT Try.prog 27 := ⟨⟨_, Try.underlying27, rfl⟩, info_size (by kernel_rfl)⟩
instance : ZeroT Try.prog 27 (.nilFunc) := ⟨info_zero (by kernel_rfl)⟩
instance : OneT Try.prog 28 := ⟨⟨_, Try.underlying28, rfl⟩, info_size (by kernel_rfl)⟩
instance : ZeroT Try.prog 28 (.nilFunc) := ⟨info_zero (by kernel_rfl)⟩
instance : OneT Try.prog 29 := ⟨⟨_, Try.underlying29, rfl⟩, info_size (by kernel_rfl)⟩
instance : ZeroT Try.prog 29 (.nilFunc) := ⟨info_zero (by kernel_rfl)⟩
instance : OneT Try.prog 30 := ⟨⟨_, Try.underlying30, rfl⟩, info_size (by kernel_rfl)⟩
instance : ZeroT Try.prog 30 (.nilFunc) := ⟨info_zero (by kernel_rfl)⟩
instance : OneT Try.prog 31 := ⟨⟨_, Try.underlying31, rfl⟩, info_size (by kernel_rfl)⟩
instance : ZeroT Try.prog 31 (.nilFunc) := ⟨info_zero (by kernel_rfl)⟩
instance : OneT Try.prog 32 := ⟨⟨_, Try.underlying32, rfl⟩, info_size (by kernel_rfl)⟩
instance : ZeroT Try.prog 32 (.nilFunc) := ⟨info_zero (by kernel_rfl)⟩
instance : PtrT Try.prog 33 := ⟨⟨_, Try.underlying33⟩⟩
instance : OneT Try.prog 33 := ⟨⟨_, Try.underlying33, rfl⟩, info_size (by kernel_rfl)⟩
instance : ZeroT Try.prog 33 (.pointer none) := ⟨info_zero (by kernel_rfl)⟩
instance : IntT Try.prog 34 .u64 := ⟨Try.underlying34⟩
instance : OneT Try.prog 34 := ⟨⟨_, Try.underlying34, rfl⟩, info_size (by kernel_rfl)⟩
instance : ZeroT Try.prog 34 (.int .u64 0) := ⟨info_zero (by kernel_rfl)⟩
instance : OneT Try.prog 35 := ⟨⟨_, Try.underlying35, rfl⟩, info_size (by kernel_rfl)⟩
instance : ZeroT Try.prog 35 (.nilFunc) := ⟨info_zero (by kernel_rfl)⟩
instance : OneT Try.prog 36 := ⟨⟨_, Try.underlying36, rfl⟩, info_size (by kernel_rfl)⟩
instance : ZeroT Try.prog 36 (.nilFunc) := ⟨info_zero (by kernel_rfl)⟩
instance : PtrT Try.prog 37 := ⟨⟨_, Try.underlying37⟩⟩
instance : OneT Try.prog 37 := ⟨⟨_, Try.underlying37, rfl⟩, info_size (by kernel_rfl)⟩
instance : ZeroT Try.prog 37 (.pointer none) := ⟨info_zero (by kernel_rfl)⟩
instance : OneT Try.prog 38 := ⟨⟨_, Try.underlying38, rfl⟩, info_size (by kernel_rfl)⟩
instance : ZeroT Try.prog 38 (.nilFunc) := ⟨info_zero (by kernel_rfl)⟩
instance : OneT Try.prog 39 := ⟨⟨_, Try.underlying39, rfl⟩, info_size (by kernel_rfl)⟩
instance : ZeroT Try.prog 39 (.nilFunc) := ⟨info_zero (by kernel_rfl)⟩
instance : OneT Try.prog 40 := ⟨⟨_, Try.underlying40, rfl⟩, info_size (by kernel_rfl)⟩
instance : ZeroT Try.prog 40 (.nilFunc) := ⟨info_zero (by kernel_rfl)⟩
instance : OneT Try.prog 41 := ⟨⟨_, Try.underlying41, rfl⟩, info_size (by kernel_rfl)⟩
instance : ZeroT Try.prog 41 (.nilFunc) := ⟨info_zero (by kernel_rfl)⟩
instance : OneT Try.prog 42 := ⟨⟨_, Try.underlying42, rfl⟩, info_size (by kernel_rfl)⟩
instance : ZeroT Try.prog 42 (.nilFunc) := ⟨info_zero (by kernel_rfl)⟩
instance : IntT Try.prog 43 .i64 := ⟨Try.underlying43⟩
instance : OneT Try.prog 43 := ⟨⟨_, Try.underlying43, rfl⟩, info_size (by kernel_rfl)⟩
instance : ZeroT Try.prog 43 (.int .i64 0) := ⟨info_zero (by kernel_rfl)⟩
instance : OneT Try.prog 44 := ⟨⟨_, Try.underlying44, rfl⟩, info_size (by kernel_rfl)⟩
instance : ZeroT Try.prog 44 (.nilFunc) := ⟨info_zero (by kernel_rfl)⟩
instance : SliceT Try.prog 45 3 := ⟨Try.underlying45⟩
instance : RowT Try.prog 45 3 1 8 := ⟨Try.underlying45, info_parts_z (z := .int .i64 0) (by kernel_rfl) (by kernel_rfl), by decide⟩
instance : OneT Try.prog 45 := ⟨⟨_, Try.underlying45, rfl⟩, info_size (by kernel_rfl)⟩
instance : ZeroT Try.prog 45 (.slice none 0 0) := ⟨info_zero (by kernel_rfl)⟩
instance : RowZ Try.prog 45 3 1 8 [.int .i64 0] := ⟨inferInstance, rowz_of (v := .int .i64 0) (by kernel_rfl) rfl rfl⟩
instance : OneT Try.prog 46 := ⟨⟨_, Try.underlying46, rfl⟩, info_size (by kernel_rfl)⟩
instance : ZeroT Try.prog 46 (.nilFunc) := ⟨info_zero (by kernel_rfl)⟩
instance : OneT Try.prog 47 := ⟨⟨_, Try.underlying47, rfl⟩, info_size (by kernel_rfl)⟩
instance : ZeroT Try.prog 47 (.nilFunc) := ⟨info_zero (by kernel_rfl)⟩
instance : OneT Try.prog 48 := ⟨⟨_, Try.underlying48, rfl⟩, info_size (by kernel_rfl)⟩
instance : ZeroT Try.prog 48 (.nilFunc) := ⟨info_zero (by kernel_rfl)⟩
instance : OneT Try.prog 49 := ⟨⟨_, Try.underlying49, rfl⟩, info_size (by kernel_rfl)⟩
instance : ZeroT Try.prog 49 (.nilFunc) := ⟨info_zero (by kernel_rfl)⟩
instance : AggT Try.prog 50 2 := ⟨⟨_, Try.underlying50, rfl⟩, info_size (by kernel_rfl)⟩
instance : ZeroT Try.prog 50 (.agg #[.slice none 0 0, .int .i64 0]) := ⟨info_zero (by kernel_rfl)⟩
instance : BuildT Try.prog 50 [.slice none 0 0, .int .i64 0] [(0, 1), (1, 1)] := ⟨build_of (v := .agg #[.slice none 0 0, .int .i64 0]) (by kernel_rfl) rfl, ⟨_, Try.underlying50, fun w => by kernel_rfl⟩⟩
instance : FieldT Try.prog 50 0 0 := ⟨field_of Try.underlying50 rfl rfl (n := 1) (by kernel_rfl) (by decide)⟩
instance : FieldT Try.prog 50 1 1 := ⟨field_of Try.underlying50 rfl rfl (n := 1) (by kernel_rfl) (by decide)⟩
instance : AggT Try.prog 51 2 := ⟨⟨_, Try.underlying51, rfl⟩, info_size (by kernel_rfl)⟩
instance : ZeroT Try.prog 51 (.agg #[.slice none 0 0, .int .i64 0]) := ⟨info_zero (by kernel_rfl)⟩
instance : BuildT Try.prog 51 [.slice none 0 0, .int .i64 0] [(0, 1), (1, 1)] := ⟨build_of (v := .agg #[.slice none 0 0, .int .i64 0]) (by kernel_rfl) rfl, ⟨_, Try.underlying51, fun w => by kernel_rfl⟩⟩
instance : FieldT Try.prog 51 0 0 := ⟨field_of Try.underlying51 rfl rfl (n := 1) (by kernel_rfl) (by decide)⟩
instance : FieldT Try.prog 51 1 1 := ⟨field_of Try.underlying51 rfl rfl (n := 1) (by kernel_rfl) (by decide)⟩
instance : OneT Try.prog 52 := ⟨⟨_, Try.underlying52, rfl⟩, info_size (by kernel_rfl)⟩
instance : ZeroT Try.prog 52 (.nilFunc) := ⟨info_zero (by kernel_rfl)⟩
instance : OneT Try.prog 53 := ⟨⟨_, Try.underlying53, rfl⟩, info_size (by kernel_rfl)⟩
instance : ZeroT Try.prog 53 (.nilFunc) := ⟨info_zero (by kernel_rfl)⟩
instance : OneT Try.prog 54 := ⟨⟨_, Try.underlying54, rfl⟩, info_size (by kernel_rfl)⟩
instance : ZeroT Try.prog 54 (.nilFunc) := ⟨info_zero (by kernel_rfl)⟩
instance : OneT Try.prog 55 := ⟨⟨_, Try.underlying55, rfl⟩, info_size (by kernel_rfl)⟩
instance : ZeroT Try.prog 55 (.nilFunc) := ⟨info_zero (by kernel_rfl)⟩
instance : AggT Try.prog 56 4 := ⟨⟨_, Try.underlying56, rfl⟩, info_size (by kernel_rfl)⟩
instance : ZeroT Try.prog 56 (.agg #[.pointer none, .pointer none, .pointer none, .string .empty]) := ⟨info_zero (by kernel_rfl)⟩
instance : BuildT Try.prog 56 [.pointer none, .pointer none, .pointer none, .string .empty] [(0, 1), (1, 1), (2, 1), (3, 1)] := ⟨build_of (v := .agg #[.pointer none, .pointer none, .pointer none, .string .empty]) (by kernel_rfl) rfl, ⟨_, Try.underlying56, fun w => by kernel_rfl⟩⟩
instance : FieldT Try.prog 56 0 0 := ⟨field_of Try.underlying56 rfl rfl (n := 1) (by kernel_rfl) (by decide)⟩
instance : FieldT Try.prog 56 1 1 := ⟨field_of Try.underlying56 rfl rfl (n := 1) (by kernel_rfl) (by decide)⟩
instance : FieldT Try.prog 56 2 2 := ⟨field_of Try.underlying56 rfl rfl (n := 1) (by kernel_rfl) (by decide)⟩
instance : FieldT Try.prog 56 3 3 := ⟨field_of Try.underlying56 rfl rfl (n := 1) (by kernel_rfl) (by decide)⟩
instance : AggT Try.prog 57 4 := ⟨⟨_, Try.underlying57, rfl⟩, info_size (by kernel_rfl)⟩
instance : ZeroT Try.prog 57 (.agg #[.pointer none, .pointer none, .pointer none, .string .empty]) := ⟨info_zero (by kernel_rfl)⟩
instance : BuildT Try.prog 57 [.pointer none, .pointer none, .pointer none, .string .empty] [(0, 1), (1, 1), (2, 1), (3, 1)] := ⟨build_of (v := .agg #[.pointer none, .pointer none, .pointer none, .string .empty]) (by kernel_rfl) rfl, ⟨_, Try.underlying57, fun w => by kernel_rfl⟩⟩
instance : FieldT Try.prog 57 0 0 := ⟨field_of Try.underlying57 rfl rfl (n := 1) (by kernel_rfl) (by decide)⟩
instance : FieldT Try.prog 57 1 1 := ⟨field_of Try.underlying57 rfl rfl (n := 1) (by kernel_rfl) (by decide)⟩
instance : FieldT Try.prog 57 2 2 := ⟨field_of Try.underlying57 rfl rfl (n := 1) (by kernel_rfl) (by decide)⟩
instance : FieldT Try.prog 57 3 3 := ⟨field_of Try.underlying57 rfl rfl (n := 1) (by kernel_rfl) (by decide)⟩
instance : ArrT Try.prog 58 0 16 1 := ⟨Try.underlying58, info_size (by kernel_rfl)⟩
instance : IntT Try.prog 61 .u32 := ⟨Try.underlying61⟩
instance : OneT Try.prog 61 := ⟨⟨_, Try.underlying61, rfl⟩, info_size (by kernel_rfl)⟩
instance : ZeroT Try.prog 61 (.int .u32 0) := ⟨info_zero (by kernel_rfl)⟩
instance : IntT Try.prog 62 .u8 := ⟨Try.underlying62⟩
instance : OneT Try.prog 62 := ⟨⟨_, Try.underlying62, rfl⟩, info_size (by kernel_rfl)⟩
instance : ZeroT Try.prog 62 (.int .u8 0) := ⟨info_zero (by kernel_rfl)⟩
instance : IntT Try.prog 63 .u8 := ⟨Try.underlying63⟩
instance : OneT Try.prog 63 := ⟨⟨_, Try.underlying63, rfl⟩, info_size (by kernel_rfl)⟩
instance : ZeroT Try.prog 63 (.int .u8 0) := ⟨info_zero (by kernel_rfl)⟩
instance : OneT Try.prog 64 := ⟨⟨_, Try.underlying64, rfl⟩, info_size (by kernel_rfl)⟩
instance : ZeroT Try.prog 64 (.nilFunc) := ⟨info_zero (by kernel_rfl)⟩
instance : PtrT Try.prog 65 := ⟨⟨_, Try.underlying65⟩⟩
instance : OneT Try.prog 65 := ⟨⟨_, Try.underlying65, rfl⟩, info_size (by kernel_rfl)⟩
instance : ZeroT Try.prog 65 (.pointer none) := ⟨info_zero (by kernel_rfl)⟩
instance : IntT Try.prog 66 .i32 := ⟨Try.underlying66⟩
instance : OneT Try.prog 66 := ⟨⟨_, Try.underlying66, rfl⟩, info_size (by kernel_rfl)⟩
instance : ZeroT Try.prog 66 (.int .i32 0) := ⟨info_zero (by kernel_rfl)⟩
instance : IntT Try.prog 67 .i32 := ⟨Try.underlying67⟩
instance : OneT Try.prog 67 := ⟨⟨_, Try.underlying67, rfl⟩, info_size (by kernel_rfl)⟩
instance : ZeroT Try.prog 67 (.int .i32 0) := ⟨info_zero (by kernel_rfl)⟩
instance : AggT Try.prog 68 11 := ⟨⟨_, Try.underlying68, rfl⟩, info_size (by kernel_rfl)⟩
instance : ZeroT Try.prog 68 (.agg #[.int .u64 0, .int .u64 0, .int .u32 0, .int .u8 0, .int .u8 0, .int .u8 0, .int .u8 0, .nilFunc, .pointer none, .int .i32 0, .int .i32 0]) := ⟨info_zero (by kernel_rfl)⟩
instance : BuildT Try.prog 68 [.int .u64 0, .int .u64 0, .int .u32 0, .int .u8 0, .int .u8 0, .int .u8 0, .int .u8 0, .nilFunc, .pointer none, .int .i32 0, .int .i32 0] [(0, 1), (1, 1), (2, 1), (3, 1), (4, 1), (5, 1), (6, 1), (7, 1), (8, 1), (9, 1), (10, 1)] := ⟨build_of (v := .agg #[.int .u64 0, .int .u64 0, .int .u32 0, .int .u8 0, .int .u8 0, .int .u8 0, .int .u8 0, .nilFunc, .pointer none, .int .i32 0, .int .i32 0]) (by kernel_rfl) rfl, ⟨_, Try.underlying68, fun w => by kernel_rfl⟩⟩
instance : FieldT Try.prog 68 0 0 := ⟨field_of Try.underlying68 rfl rfl (n := 1) (by kernel_rfl) (by decide)⟩
instance : FieldT Try.prog 68 1 1 := ⟨field_of Try.underlying68 rfl rfl (n := 1) (by kernel_rfl) (by decide)⟩
instance : FieldT Try.prog 68 2 2 := ⟨field_of Try.underlying68 rfl rfl (n := 1) (by kernel_rfl) (by decide)⟩
instance : FieldT Try.prog 68 3 3 := ⟨field_of Try.underlying68 rfl rfl (n := 1) (by kernel_rfl) (by decide)⟩
instance : FieldT Try.prog 68 4 4 := ⟨field_of Try.underlying68 rfl rfl (n := 1) (by kernel_rfl) (by decide)⟩
instance : FieldT Try.prog 68 5 5 := ⟨field_of Try.underlying68 rfl rfl (n := 1) (by kernel_rfl) (by decide)⟩
instance : FieldT Try.prog 68 6 6 := ⟨field_of Try.underlying68 rfl rfl (n := 1) (by kernel_rfl) (by decide)⟩
instance : FieldT Try.prog 68 7 7 := ⟨field_of Try.underlying68 rfl rfl (n := 1) (by kernel_rfl) (by decide)⟩
instance : FieldT Try.prog 68 8 8 := ⟨field_of Try.underlying68 rfl rfl (n := 1) (by kernel_rfl) (by decide)⟩
instance : FieldT Try.prog 68 9 9 := ⟨field_of Try.underlying68 rfl rfl (n := 1) (by kernel_rfl) (by decide)⟩
instance : FieldT Try.prog 68 10 10 := ⟨field_of Try.underlying68 rfl rfl (n := 1) (by kernel_rfl) (by decide)⟩
instance : AggT Try.prog 69 11 := ⟨⟨_, Try.underlying69, rfl⟩, info_size (by kernel_rfl)⟩
instance : ZeroT Try.prog 69 (.agg #[.int .u64 0, .int .u64 0, .int .u32 0, .int .u8 0, .int .u8 0, .int .u8 0, .int .u8 0, .nilFunc, .pointer none, .int .i32 0, .int .i32 0]) := ⟨info_zero (by kernel_rfl)⟩
instance : BuildT Try.prog 69 [.int .u64 0, .int .u64 0, .int .u32 0, .int .u8 0, .int .u8 0, .int .u8 0, .int .u8 0, .nilFunc, .pointer none, .int .i32 0, .int .i32 0] [(0, 1), (1, 1), (2, 1), (3, 1), (4, 1), (5, 1), (6, 1), (7, 1), (8, 1), (9, 1), (10, 1)] := ⟨build_of (v := .agg #[.int .u64 0, .int .u64 0, .int .u32 0, .int .u8 0, .int .u8 0, .int .u8 0, .int .u8 0, .nilFunc, .pointer none, .int .i32 0, .int .i32 0]) (by kernel_rfl) rfl, ⟨_, Try.underlying69, fun w => by kernel_rfl⟩⟩
instance : FieldT Try.prog 69 0 0 := ⟨field_of Try.underlying69 rfl rfl (n := 1) (by kernel_rfl) (by decide)⟩
instance : FieldT Try.prog 69 1 1 := ⟨field_of Try.underlying69 rfl rfl (n := 1) (by kernel_rfl) (by decide)⟩
instance : FieldT Try.prog 69 2 2 := ⟨field_of Try.underlying69 rfl rfl (n := 1) (by kernel_rfl) (by decide)⟩
instance : FieldT Try.prog 69 3 3 := ⟨field_of Try.underlying69 rfl rfl (n := 1) (by kernel_rfl) (by decide)⟩
instance : FieldT Try.prog 69 4 4 := ⟨field_of Try.underlying69 rfl rfl (n := 1) (by kernel_rfl) (by decide)⟩
instance : FieldT Try.prog 69 5 5 := ⟨field_of Try.underlying69 rfl rfl (n := 1) (by kernel_rfl) (by decide)⟩
instance : FieldT Try.prog 69 6 6 := ⟨field_of Try.underlying69 rfl rfl (n := 1) (by kernel_rfl) (by decide)⟩
instance : FieldT Try.prog 69 7 7 := ⟨field_of Try.underlying69 rfl rfl (n := 1) (by kernel_rfl) (by decide)⟩
instance : FieldT Try.prog 69 8 8 := ⟨field_of Try.underlying69 rfl rfl (n := 1) (by kernel_rfl) (by decide)⟩
instance : FieldT Try.prog 69 9 9 := ⟨field_of Try.underlying69 rfl rfl (n := 1) (by kernel_rfl) (by decide)⟩
instance : FieldT Try.prog 69 10 10 := ⟨field_of Try.underlying69 rfl rfl (n := 1) (by kernel_rfl) (by decide)⟩
instance : OneT Try.prog 70 := ⟨⟨_, Try.underlying70, rfl⟩, info_size (by kernel_rfl)⟩
instance : ZeroT Try.prog 70 (.nilFunc) := ⟨info_zero (by kernel_rfl)⟩
instance : ZeroT Try.prog 71 (.pointer none) := ⟨info_zero (by kernel_rfl)⟩
instance : FnT Try.prog 3 := ⟨⟨_, Try.func3, by kernel_rfl, by kernel_rfl⟩⟩
instance : FnT Try.prog 4 := ⟨⟨_, Try.func4, by kernel_rfl, by kernel_rfl⟩⟩
instance : FnT Try.prog 5 := ⟨⟨_, Try.func5, by kernel_rfl, by kernel_rfl⟩⟩
instance : FnT Try.prog 6 := ⟨⟨_, Try.func6, by kernel_rfl, by kernel_rfl⟩⟩
instance : FnT Try.prog 7 := ⟨⟨_, Try.func7, by kernel_rfl, by kernel_rfl⟩⟩
instance : FnT Try.prog 8 := ⟨⟨_, Try.func8, by kernel_rfl, by kernel_rfl⟩⟩
instance : FnT Try.prog 9 := ⟨⟨_, Try.func9, by kernel_rfl, by kernel_rfl⟩⟩
instance : FnT Try.prog 10 := ⟨⟨_, Try.func10, by kernel_rfl, by kernel_rfl⟩⟩
instance : FnT Try.prog 11 := ⟨⟨_, Try.func11, by kernel_rfl, by kernel_rfl⟩⟩
instance : FnT Try.prog 12 := ⟨⟨_, Try.func12, by kernel_rfl, by kernel_rfl⟩⟩
instance : FnT Try.prog 13 := ⟨⟨_, Try.func13, by kernel_rfl, by kernel_rfl⟩⟩
instance : FnT Try.prog 14 := ⟨⟨_, Try.func14, by kernel_rfl, by kernel_rfl⟩⟩
instance : FnT Try.prog 15 := ⟨⟨_, Try.func15, by kernel_rfl, by kernel_rfl⟩⟩
instance : FnT Try.prog 16 := ⟨⟨_, Try.func16, by kernel_rfl, by kernel_rfl⟩⟩
instance : FnT Try.prog 17 := ⟨⟨_, Try.func17, by kernel_rfl, by kernel_rfl⟩⟩
instance : FnT Try.prog 18 := ⟨⟨_, Try.func18, by kernel_rfl, by kernel_rfl⟩⟩
instance : FnT Try.prog 19 := ⟨⟨_, Try.func19, by kernel_rfl, by kernel_rfl⟩⟩
instance : FnT Try.prog 20 := ⟨⟨_, Try.func20, by kernel_rfl, by kernel_rfl⟩⟩
instance : FnT Try.prog 21 := ⟨⟨_, Try.func21, by kernel_rfl, by kernel_rfl⟩⟩
instance : FnT Try.prog 22 := ⟨⟨_, Try.func22, by kernel_rfl, by kernel_rfl⟩⟩
instance : FnT Try.prog 23 := ⟨⟨_, Try.func23, by kernel_rfl, by kernel_rfl⟩⟩
instance : FnT Try.prog 24 := ⟨⟨_, Try.func24, by kernel_rfl, by kernel_rfl⟩⟩
end Go.Proofs.Ytjhgodgppmgneaa
