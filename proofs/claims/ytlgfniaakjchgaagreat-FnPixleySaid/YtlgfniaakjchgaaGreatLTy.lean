/- What the translation's types and functions say, as instances. -/
import Derived.Test.YtlgfniaakjchgaaGreatChecked
import Derived.Test.YtlgfniaakjchgaaGreatLPw
namespace Go.Proofs.YtlgfniaakjchgaaGreat
open Go Go.Pv Go.Proofs
set_option maxHeartbeats 32000000
set_option maxRecDepth 100000

instance : CellT Tryz.prog 1 := ⟨fun _ => by kernel_rfl, fun _ => by kernel_rfl⟩
instance : ZeroT Tryz.prog 1 [.nilFunc] := ⟨.nilFunc, fun _ => by kernel_rfl, rfl⟩
instance : CellT Tryz.prog 2 := ⟨fun _ => by kernel_rfl, fun _ => by kernel_rfl⟩
instance : ZeroT Tryz.prog 2 [(.int .i64 0)] := ⟨(.int .i64 0), fun _ => by kernel_rfl, rfl⟩
instance : CellT Tryz.prog 3 := ⟨fun _ => by kernel_rfl, fun _ => by kernel_rfl⟩
instance : ZeroT Tryz.prog 3 [(.int .i64 0)] := ⟨(.int .i64 0), fun _ => by kernel_rfl, rfl⟩
instance : BoolT Tryz.prog 4 := ⟨by kernel_rfl⟩
instance : CellT Tryz.prog 4 := ⟨fun _ => by kernel_rfl, fun _ => by kernel_rfl⟩
instance : ZeroT Tryz.prog 4 [(.bool false)] := ⟨(.bool false), fun _ => by kernel_rfl, rfl⟩
instance : CellT Tryz.prog 5 := ⟨fun _ => by kernel_rfl, fun _ => by kernel_rfl⟩
instance : ZeroT Tryz.prog 5 [(.int .u8 0)] := ⟨(.int .u8 0), fun _ => by kernel_rfl, rfl⟩
instance : CellT Tryz.prog 6 := ⟨fun _ => by kernel_rfl, fun _ => by kernel_rfl⟩
instance : ZeroT Tryz.prog 6 [(.int .u8 0)] := ⟨(.int .u8 0), fun _ => by kernel_rfl, rfl⟩
instance : AggT Tryz.prog 7 4 := ⟨fun _ => by kernel_rfl, fun _ => by kernel_rfl⟩
instance : ZeroT Tryz.prog 7 [(.int .i64 0), (.int .i64 0), (.bool false), (.int .u8 0)] := ⟨.agg #[(.int .i64 0), (.int .i64 0), (.bool false), (.int .u8 0)], fun _ => by kernel_rfl, rfl⟩
instance : FieldT Tryz.prog 7 0 0 2 1 := ⟨⟨_, _, Tryz.underlying7, rfl, rfl, rfl⟩, fun _ => by kernel_rfl, by decide⟩
instance : FieldT Tryz.prog 7 1 1 3 1 := ⟨⟨_, _, Tryz.underlying7, rfl, rfl, rfl⟩, fun _ => by kernel_rfl, by decide⟩
instance : FieldT Tryz.prog 7 2 2 4 1 := ⟨⟨_, _, Tryz.underlying7, rfl, rfl, rfl⟩, fun _ => by kernel_rfl, by decide⟩
instance : FieldT Tryz.prog 7 3 3 6 1 := ⟨⟨_, _, Tryz.underlying7, rfl, rfl, rfl⟩, fun _ => by kernel_rfl, by decide⟩
instance : StructT Tryz.prog 7 [(0, 1), (1, 1), (2, 1), (3, 1)] [(.int .i64 0), (.int .i64 0), (.bool false), (.int .u8 0)] := ⟨⟨_, Tryz.underlying7, fun _ => by kernel_rfl⟩, inferInstance⟩
instance : AggT Tryz.prog 8 4 := ⟨fun _ => by kernel_rfl, fun _ => by kernel_rfl⟩
instance : ZeroT Tryz.prog 8 [(.int .i64 0), (.int .i64 0), (.bool false), (.int .u8 0)] := ⟨.agg #[(.int .i64 0), (.int .i64 0), (.bool false), (.int .u8 0)], fun _ => by kernel_rfl, rfl⟩
instance : FieldT Tryz.prog 8 0 0 2 1 := ⟨⟨_, _, Tryz.underlying8, rfl, rfl, rfl⟩, fun _ => by kernel_rfl, by decide⟩
instance : FieldT Tryz.prog 8 1 1 3 1 := ⟨⟨_, _, Tryz.underlying8, rfl, rfl, rfl⟩, fun _ => by kernel_rfl, by decide⟩
instance : FieldT Tryz.prog 8 2 2 4 1 := ⟨⟨_, _, Tryz.underlying8, rfl, rfl, rfl⟩, fun _ => by kernel_rfl, by decide⟩
instance : FieldT Tryz.prog 8 3 3 6 1 := ⟨⟨_, _, Tryz.underlying8, rfl, rfl, rfl⟩, fun _ => by kernel_rfl, by decide⟩
instance : StructT Tryz.prog 8 [(0, 1), (1, 1), (2, 1), (3, 1)] [(.int .i64 0), (.int .i64 0), (.bool false), (.int .u8 0)] := ⟨⟨_, Tryz.underlying8, fun _ => by kernel_rfl⟩, inferInstance⟩
instance : CellT Tryz.prog 9 := ⟨fun _ => by kernel_rfl, fun _ => by kernel_rfl⟩
instance : ZeroT Tryz.prog 9 [(.string ByteArray.empty)] := ⟨(.string ByteArray.empty), fun _ => by kernel_rfl, rfl⟩
instance : CellT Tryz.prog 10 := ⟨fun _ => by kernel_rfl, fun _ => by kernel_rfl⟩
instance : ZeroT Tryz.prog 10 [(.string ByteArray.empty)] := ⟨(.string ByteArray.empty), fun _ => by kernel_rfl, rfl⟩
instance : CellT Tryz.prog 11 := ⟨fun _ => by kernel_rfl, fun _ => by kernel_rfl⟩
instance : ZeroT Tryz.prog 11 [(.string ByteArray.empty)] := ⟨(.string ByteArray.empty), fun _ => by kernel_rfl, rfl⟩
instance : CellT Tryz.prog 12 := ⟨fun _ => by kernel_rfl, fun _ => by kernel_rfl⟩
instance : ZeroT Tryz.prog 12 [(.int .u64 0)] := ⟨(.int .u64 0), fun _ => by kernel_rfl, rfl⟩
instance : AggT Tryz.prog 13 2 := ⟨fun _ => by kernel_rfl, fun _ => by kernel_rfl⟩
instance : ZeroT Tryz.prog 13 [(.string ByteArray.empty), (.int .u64 0)] := ⟨.agg #[(.string ByteArray.empty), (.int .u64 0)], fun _ => by kernel_rfl, rfl⟩
instance : FieldT Tryz.prog 13 0 0 9 1 := ⟨⟨_, _, Tryz.underlying13, rfl, rfl, rfl⟩, fun _ => by kernel_rfl, by decide⟩
instance : FieldT Tryz.prog 13 1 1 12 1 := ⟨⟨_, _, Tryz.underlying13, rfl, rfl, rfl⟩, fun _ => by kernel_rfl, by decide⟩
instance : StructT Tryz.prog 13 [(0, 1), (1, 1)] [(.string ByteArray.empty), (.int .u64 0)] := ⟨⟨_, Tryz.underlying13, fun _ => by kernel_rfl⟩, inferInstance⟩
instance : AggT Tryz.prog 14 2 := ⟨fun _ => by kernel_rfl, fun _ => by kernel_rfl⟩
instance : ZeroT Tryz.prog 14 [(.string ByteArray.empty), (.int .u64 0)] := ⟨.agg #[(.string ByteArray.empty), (.int .u64 0)], fun _ => by kernel_rfl, rfl⟩
instance : FieldT Tryz.prog 14 0 0 9 1 := ⟨⟨_, _, Tryz.underlying14, rfl, rfl, rfl⟩, fun _ => by kernel_rfl, by decide⟩
instance : FieldT Tryz.prog 14 1 1 12 1 := ⟨⟨_, _, Tryz.underlying14, rfl, rfl, rfl⟩, fun _ => by kernel_rfl, by decide⟩
instance : StructT Tryz.prog 14 [(0, 1), (1, 1)] [(.string ByteArray.empty), (.int .u64 0)] := ⟨⟨_, Tryz.underlying14, fun _ => by kernel_rfl⟩, inferInstance⟩
instance : CellT Tryz.prog 15 := ⟨fun _ => by kernel_rfl, fun _ => by kernel_rfl⟩
instance : ZeroT Tryz.prog 15 [(.pointer none)] := ⟨(.pointer none), fun _ => by kernel_rfl, rfl⟩
instance : CellT Tryz.prog 16 := ⟨fun _ => by kernel_rfl, fun _ => by kernel_rfl⟩
instance : ZeroT Tryz.prog 16 [(.pointer none)] := ⟨(.pointer none), fun _ => by kernel_rfl, rfl⟩
instance : CellT Tryz.prog 17 := ⟨fun _ => by kernel_rfl, fun _ => by kernel_rfl⟩
instance : ZeroT Tryz.prog 17 [(.pointer none)] := ⟨(.pointer none), fun _ => by kernel_rfl, rfl⟩
instance : AggT Tryz.prog 18 1 := ⟨fun _ => by kernel_rfl, fun _ => by kernel_rfl⟩
instance : ZeroT Tryz.prog 18 [(.pointer none)] := ⟨.agg #[(.pointer none)], fun _ => by kernel_rfl, rfl⟩
instance : FieldT Tryz.prog 18 0 0 17 1 := ⟨⟨_, _, Tryz.underlying18, rfl, rfl, rfl⟩, fun _ => by kernel_rfl, by decide⟩
instance : StructT Tryz.prog 18 [(0, 1)] [(.pointer none)] := ⟨⟨_, Tryz.underlying18, fun _ => by kernel_rfl⟩, inferInstance⟩
instance : AggT Tryz.prog 19 1 := ⟨fun _ => by kernel_rfl, fun _ => by kernel_rfl⟩
instance : ZeroT Tryz.prog 19 [(.pointer none)] := ⟨.agg #[(.pointer none)], fun _ => by kernel_rfl, rfl⟩
instance : FieldT Tryz.prog 19 0 0 17 1 := ⟨⟨_, _, Tryz.underlying19, rfl, rfl, rfl⟩, fun _ => by kernel_rfl, by decide⟩
instance : StructT Tryz.prog 19 [(0, 1)] [(.pointer none)] := ⟨⟨_, Tryz.underlying19, fun _ => by kernel_rfl⟩, inferInstance⟩
instance : CellT Tryz.prog 20 := ⟨fun _ => by kernel_rfl, fun _ => by kernel_rfl⟩
instance : ZeroT Tryz.prog 20 [.nilIface] := ⟨.nilIface, fun _ => by kernel_rfl, rfl⟩
instance : CellT Tryz.prog 21 := ⟨fun _ => by kernel_rfl, fun _ => by kernel_rfl⟩
instance : ZeroT Tryz.prog 21 [(.int .i32 0)] := ⟨(.int .i32 0), fun _ => by kernel_rfl, rfl⟩
instance : CellT Tryz.prog 22 := ⟨fun _ => by kernel_rfl, fun _ => by kernel_rfl⟩
instance : ZeroT Tryz.prog 22 [(.slice none 0 0)] := ⟨(.slice none 0 0), fun _ => by kernel_rfl, rfl⟩
instance : SlT Tryz.prog 22 5 1 1 := ⟨Tryz.underlying22, ⟨_, rfl, rfl, rfl⟩⟩
instance : MkT Tryz.prog 22 5 1 1 [(.int .u8 0)] := ⟨Tryz.underlying22, ⟨_, _, rfl, rfl, rfl, rfl, rfl⟩⟩
instance : CellT Tryz.prog 23 := ⟨fun _ => by kernel_rfl, fun _ => by kernel_rfl⟩
instance : ZeroT Tryz.prog 23 [.nilFunc] := ⟨.nilFunc, fun _ => by kernel_rfl, rfl⟩
instance : CellT Tryz.prog 24 := ⟨fun _ => by kernel_rfl, fun _ => by kernel_rfl⟩
instance : ZeroT Tryz.prog 24 [(.slice none 0 0)] := ⟨(.slice none 0 0), fun _ => by kernel_rfl, rfl⟩
instance : SlT Tryz.prog 24 33 2 32 := ⟨Tryz.underlying24, ⟨_, rfl, rfl, rfl⟩⟩
instance : MkT Tryz.prog 24 33 2 32 [(.int .i64 0), (.slice none 0 0)] := ⟨Tryz.underlying24, ⟨_, _, rfl, rfl, rfl, rfl, rfl⟩⟩
instance : AggT Tryz.prog 25 2 := ⟨fun _ => by kernel_rfl, fun _ => by kernel_rfl⟩
instance : ZeroT Tryz.prog 25 [(.int .i64 0), (.slice none 0 0)] := ⟨.agg #[(.int .i64 0), (.slice none 0 0)], fun _ => by kernel_rfl, rfl⟩
instance : FieldT Tryz.prog 25 0 0 3 1 := ⟨⟨_, _, Tryz.underlying25, rfl, rfl, rfl⟩, fun _ => by kernel_rfl, by decide⟩
instance : FieldT Tryz.prog 25 1 1 24 1 := ⟨⟨_, _, Tryz.underlying25, rfl, rfl, rfl⟩, fun _ => by kernel_rfl, by decide⟩
instance : StructT Tryz.prog 25 [(0, 1), (1, 1)] [(.int .i64 0), (.slice none 0 0)] := ⟨⟨_, Tryz.underlying25, fun _ => by kernel_rfl⟩, inferInstance⟩
instance : AggT Tryz.prog 26 2 := ⟨fun _ => by kernel_rfl, fun _ => by kernel_rfl⟩
instance : ZeroT Tryz.prog 26 [(.int .i64 0), (.slice none 0 0)] := ⟨.agg #[(.int .i64 0), (.slice none 0 0)], fun _ => by kernel_rfl, rfl⟩
instance : FieldT Tryz.prog 26 0 0 3 1 := ⟨⟨_, _, Tryz.underlying26, rfl, rfl, rfl⟩, fun _ => by kernel_rfl, by decide⟩
instance : FieldT Tryz.prog 26 1 1 24 1 := ⟨⟨_, _, Tryz.underlying26, rfl, rfl, rfl⟩, fun _ => by kernel_rfl, by decide⟩
instance : StructT Tryz.prog 26 [(0, 1), (1, 1)] [(.int .i64 0), (.slice none 0 0)] := ⟨⟨_, Tryz.underlying26, fun _ => by kernel_rfl⟩, inferInstance⟩
instance : CellT Tryz.prog 27 := ⟨fun _ => by kernel_rfl, fun _ => by kernel_rfl⟩
instance : ZeroT Tryz.prog 27 [.nilFunc] := ⟨.nilFunc, fun _ => by kernel_rfl, rfl⟩
instance : CellT Tryz.prog 29 := ⟨fun _ => by kernel_rfl, fun _ => by kernel_rfl⟩
instance : ZeroT Tryz.prog 29 [.nilFunc] := ⟨.nilFunc, fun _ => by kernel_rfl, rfl⟩
instance : CellT Tryz.prog 30 := ⟨fun _ => by kernel_rfl, fun _ => by kernel_rfl⟩
instance : ZeroT Tryz.prog 30 [.nilFunc] := ⟨.nilFunc, fun _ => by kernel_rfl, rfl⟩
instance : CellT Tryz.prog 31 := ⟨fun _ => by kernel_rfl, fun _ => by kernel_rfl⟩
instance : ZeroT Tryz.prog 31 [(.slice none 0 0)] := ⟨(.slice none 0 0), fun _ => by kernel_rfl, rfl⟩
instance : SlT Tryz.prog 31 3 1 8 := ⟨Tryz.underlying31, ⟨_, rfl, rfl, rfl⟩⟩
instance : MkT Tryz.prog 31 3 1 8 [(.int .i64 0)] := ⟨Tryz.underlying31, ⟨_, _, rfl, rfl, rfl, rfl, rfl⟩⟩
instance : AggT Tryz.prog 32 2 := ⟨fun _ => by kernel_rfl, fun _ => by kernel_rfl⟩
instance : ZeroT Tryz.prog 32 [(.int .i64 0), (.slice none 0 0)] := ⟨.agg #[(.int .i64 0), (.slice none 0 0)], fun _ => by kernel_rfl, rfl⟩
instance : FieldT Tryz.prog 32 0 0 3 1 := ⟨⟨_, _, Tryz.underlying32, rfl, rfl, rfl⟩, fun _ => by kernel_rfl, by decide⟩
instance : FieldT Tryz.prog 32 1 1 31 1 := ⟨⟨_, _, Tryz.underlying32, rfl, rfl, rfl⟩, fun _ => by kernel_rfl, by decide⟩
instance : StructT Tryz.prog 32 [(0, 1), (1, 1)] [(.int .i64 0), (.slice none 0 0)] := ⟨⟨_, Tryz.underlying32, fun _ => by kernel_rfl⟩, inferInstance⟩
instance : AggT Tryz.prog 33 2 := ⟨fun _ => by kernel_rfl, fun _ => by kernel_rfl⟩
instance : ZeroT Tryz.prog 33 [(.int .i64 0), (.slice none 0 0)] := ⟨.agg #[(.int .i64 0), (.slice none 0 0)], fun _ => by kernel_rfl, rfl⟩
instance : FieldT Tryz.prog 33 0 0 3 1 := ⟨⟨_, _, Tryz.underlying33, rfl, rfl, rfl⟩, fun _ => by kernel_rfl, by decide⟩
instance : FieldT Tryz.prog 33 1 1 31 1 := ⟨⟨_, _, Tryz.underlying33, rfl, rfl, rfl⟩, fun _ => by kernel_rfl, by decide⟩
instance : StructT Tryz.prog 33 [(0, 1), (1, 1)] [(.int .i64 0), (.slice none 0 0)] := ⟨⟨_, Tryz.underlying33, fun _ => by kernel_rfl⟩, inferInstance⟩
instance : CellT Tryz.prog 35 := ⟨fun _ => by kernel_rfl, fun _ => by kernel_rfl⟩
instance : ZeroT Tryz.prog 35 [.nilFunc] := ⟨.nilFunc, fun _ => by kernel_rfl, rfl⟩
instance : CellT Tryz.prog 36 := ⟨fun _ => by kernel_rfl, fun _ => by kernel_rfl⟩
instance : ZeroT Tryz.prog 36 [.nilFunc] := ⟨.nilFunc, fun _ => by kernel_rfl, rfl⟩
instance : CellT Tryz.prog 38 := ⟨fun _ => by kernel_rfl, fun _ => by kernel_rfl⟩
instance : ZeroT Tryz.prog 38 [.nilFunc] := ⟨.nilFunc, fun _ => by kernel_rfl, rfl⟩
instance : CellT Tryz.prog 40 := ⟨fun _ => by kernel_rfl, fun _ => by kernel_rfl⟩
instance : ZeroT Tryz.prog 40 [.nilFunc] := ⟨.nilFunc, fun _ => by kernel_rfl, rfl⟩
instance : CellT Tryz.prog 41 := ⟨fun _ => by kernel_rfl, fun _ => by kernel_rfl⟩
instance : ZeroT Tryz.prog 41 [(.pointer none)] := ⟨(.pointer none), fun _ => by kernel_rfl, rfl⟩
instance : CellT Tryz.prog 43 := ⟨fun _ => by kernel_rfl, fun _ => by kernel_rfl⟩
instance : ZeroT Tryz.prog 43 [.nilFunc] := ⟨.nilFunc, fun _ => by kernel_rfl, rfl⟩
instance : CellT Tryz.prog 44 := ⟨fun _ => by kernel_rfl, fun _ => by kernel_rfl⟩
instance : ZeroT Tryz.prog 44 [.nilFunc] := ⟨.nilFunc, fun _ => by kernel_rfl, rfl⟩
instance : CellT Tryz.prog 45 := ⟨fun _ => by kernel_rfl, fun _ => by kernel_rfl⟩
instance : ZeroT Tryz.prog 45 [.nilFunc] := ⟨.nilFunc, fun _ => by kernel_rfl, rfl⟩
instance : CellT Tryz.prog 46 := ⟨fun _ => by kernel_rfl, fun _ => by kernel_rfl⟩
instance : ZeroT Tryz.prog 46 [(.slice none 0 0)] := ⟨(.slice none 0 0), fun _ => by kernel_rfl, rfl⟩
instance : SlT Tryz.prog 46 31 1 24 := ⟨Tryz.underlying46, ⟨_, rfl, rfl, rfl⟩⟩
instance : MkT Tryz.prog 46 31 1 24 [(.slice none 0 0)] := ⟨Tryz.underlying46, ⟨_, _, rfl, rfl, rfl, rfl, rfl⟩⟩
instance : CellT Tryz.prog 48 := ⟨fun _ => by kernel_rfl, fun _ => by kernel_rfl⟩
instance : ZeroT Tryz.prog 48 [.nilFunc] := ⟨.nilFunc, fun _ => by kernel_rfl, rfl⟩
instance : CellT Tryz.prog 49 := ⟨fun _ => by kernel_rfl, fun _ => by kernel_rfl⟩
instance : ZeroT Tryz.prog 49 [.nilFunc] := ⟨.nilFunc, fun _ => by kernel_rfl, rfl⟩
instance : CellT Tryz.prog 50 := ⟨fun _ => by kernel_rfl, fun _ => by kernel_rfl⟩
instance : ZeroT Tryz.prog 50 [.nilFunc] := ⟨.nilFunc, fun _ => by kernel_rfl, rfl⟩
instance : CellT Tryz.prog 51 := ⟨fun _ => by kernel_rfl, fun _ => by kernel_rfl⟩
instance : ZeroT Tryz.prog 51 [.nilFunc] := ⟨.nilFunc, fun _ => by kernel_rfl, rfl⟩
instance : CellT Tryz.prog 52 := ⟨fun _ => by kernel_rfl, fun _ => by kernel_rfl⟩
instance : ZeroT Tryz.prog 52 [(.slice none 0 0)] := ⟨(.slice none 0 0), fun _ => by kernel_rfl, rfl⟩
instance : SlT Tryz.prog 52 4 1 1 := ⟨Tryz.underlying52, ⟨_, rfl, rfl, rfl⟩⟩
instance : MkT Tryz.prog 52 4 1 1 [(.bool false)] := ⟨Tryz.underlying52, ⟨_, _, rfl, rfl, rfl, rfl, rfl⟩⟩
instance : AggT Tryz.prog 53 7 := ⟨fun _ => by kernel_rfl, fun _ => by kernel_rfl⟩
instance : ZeroT Tryz.prog 53 [(.int .i64 0), (.slice none 0 0), (.slice none 0 0), (.slice none 0 0), (.slice none 0 0), (.int .i64 0), (.int .i64 0)] := ⟨.agg #[(.int .i64 0), (.slice none 0 0), (.slice none 0 0), (.slice none 0 0), (.slice none 0 0), (.int .i64 0), (.int .i64 0)], fun _ => by kernel_rfl, rfl⟩
instance : FieldT Tryz.prog 53 0 0 3 1 := ⟨⟨_, _, Tryz.underlying53, rfl, rfl, rfl⟩, fun _ => by kernel_rfl, by decide⟩
instance : FieldT Tryz.prog 53 1 1 46 1 := ⟨⟨_, _, Tryz.underlying53, rfl, rfl, rfl⟩, fun _ => by kernel_rfl, by decide⟩
instance : FieldT Tryz.prog 53 2 2 52 1 := ⟨⟨_, _, Tryz.underlying53, rfl, rfl, rfl⟩, fun _ => by kernel_rfl, by decide⟩
instance : FieldT Tryz.prog 53 3 3 46 1 := ⟨⟨_, _, Tryz.underlying53, rfl, rfl, rfl⟩, fun _ => by kernel_rfl, by decide⟩
instance : FieldT Tryz.prog 53 4 4 46 1 := ⟨⟨_, _, Tryz.underlying53, rfl, rfl, rfl⟩, fun _ => by kernel_rfl, by decide⟩
instance : FieldT Tryz.prog 53 5 5 3 1 := ⟨⟨_, _, Tryz.underlying53, rfl, rfl, rfl⟩, fun _ => by kernel_rfl, by decide⟩
instance : FieldT Tryz.prog 53 6 6 3 1 := ⟨⟨_, _, Tryz.underlying53, rfl, rfl, rfl⟩, fun _ => by kernel_rfl, by decide⟩
instance : StructT Tryz.prog 53 [(0, 1), (1, 1), (2, 1), (3, 1), (4, 1), (5, 1), (6, 1)] [(.int .i64 0), (.slice none 0 0), (.slice none 0 0), (.slice none 0 0), (.slice none 0 0), (.int .i64 0), (.int .i64 0)] := ⟨⟨_, Tryz.underlying53, fun _ => by kernel_rfl⟩, inferInstance⟩
instance : AggT Tryz.prog 54 7 := ⟨fun _ => by kernel_rfl, fun _ => by kernel_rfl⟩
instance : ZeroT Tryz.prog 54 [(.int .i64 0), (.slice none 0 0), (.slice none 0 0), (.slice none 0 0), (.slice none 0 0), (.int .i64 0), (.int .i64 0)] := ⟨.agg #[(.int .i64 0), (.slice none 0 0), (.slice none 0 0), (.slice none 0 0), (.slice none 0 0), (.int .i64 0), (.int .i64 0)], fun _ => by kernel_rfl, rfl⟩
instance : FieldT Tryz.prog 54 0 0 3 1 := ⟨⟨_, _, Tryz.underlying54, rfl, rfl, rfl⟩, fun _ => by kernel_rfl, by decide⟩
instance : FieldT Tryz.prog 54 1 1 46 1 := ⟨⟨_, _, Tryz.underlying54, rfl, rfl, rfl⟩, fun _ => by kernel_rfl, by decide⟩
instance : FieldT Tryz.prog 54 2 2 52 1 := ⟨⟨_, _, Tryz.underlying54, rfl, rfl, rfl⟩, fun _ => by kernel_rfl, by decide⟩
instance : FieldT Tryz.prog 54 3 3 46 1 := ⟨⟨_, _, Tryz.underlying54, rfl, rfl, rfl⟩, fun _ => by kernel_rfl, by decide⟩
instance : FieldT Tryz.prog 54 4 4 46 1 := ⟨⟨_, _, Tryz.underlying54, rfl, rfl, rfl⟩, fun _ => by kernel_rfl, by decide⟩
instance : FieldT Tryz.prog 54 5 5 3 1 := ⟨⟨_, _, Tryz.underlying54, rfl, rfl, rfl⟩, fun _ => by kernel_rfl, by decide⟩
instance : FieldT Tryz.prog 54 6 6 3 1 := ⟨⟨_, _, Tryz.underlying54, rfl, rfl, rfl⟩, fun _ => by kernel_rfl, by decide⟩
instance : StructT Tryz.prog 54 [(0, 1), (1, 1), (2, 1), (3, 1), (4, 1), (5, 1), (6, 1)] [(.int .i64 0), (.slice none 0 0), (.slice none 0 0), (.slice none 0 0), (.slice none 0 0), (.int .i64 0), (.int .i64 0)] := ⟨⟨_, Tryz.underlying54, fun _ => by kernel_rfl⟩, inferInstance⟩
instance : CellT Tryz.prog 55 := ⟨fun _ => by kernel_rfl, fun _ => by kernel_rfl⟩
instance : ZeroT Tryz.prog 55 [.nilFunc] := ⟨.nilFunc, fun _ => by kernel_rfl, rfl⟩
instance : CellT Tryz.prog 56 := ⟨fun _ => by kernel_rfl, fun _ => by kernel_rfl⟩
instance : ZeroT Tryz.prog 56 [.nilFunc] := ⟨.nilFunc, fun _ => by kernel_rfl, rfl⟩
instance : CellT Tryz.prog 57 := ⟨fun _ => by kernel_rfl, fun _ => by kernel_rfl⟩
instance : ZeroT Tryz.prog 57 [.nilFunc] := ⟨.nilFunc, fun _ => by kernel_rfl, rfl⟩
instance : CellT Tryz.prog 58 := ⟨fun _ => by kernel_rfl, fun _ => by kernel_rfl⟩
instance : ZeroT Tryz.prog 58 [.nilFunc] := ⟨.nilFunc, fun _ => by kernel_rfl, rfl⟩
instance : CellT Tryz.prog 59 := ⟨fun _ => by kernel_rfl, fun _ => by kernel_rfl⟩
instance : ZeroT Tryz.prog 59 [.nilFunc] := ⟨.nilFunc, fun _ => by kernel_rfl, rfl⟩
instance : AggT Tryz.prog 60 4 := ⟨fun _ => by kernel_rfl, fun _ => by kernel_rfl⟩
instance : ZeroT Tryz.prog 60 [(.int .i64 0), .nilFunc, .nilFunc, .nilFunc] := ⟨.agg #[(.int .i64 0), .nilFunc, .nilFunc, .nilFunc], fun _ => by kernel_rfl, rfl⟩
instance : FieldT Tryz.prog 60 0 0 3 1 := ⟨⟨_, _, Tryz.underlying60, rfl, rfl, rfl⟩, fun _ => by kernel_rfl, by decide⟩
instance : FieldT Tryz.prog 60 1 1 45 1 := ⟨⟨_, _, Tryz.underlying60, rfl, rfl, rfl⟩, fun _ => by kernel_rfl, by decide⟩
instance : FieldT Tryz.prog 60 2 2 45 1 := ⟨⟨_, _, Tryz.underlying60, rfl, rfl, rfl⟩, fun _ => by kernel_rfl, by decide⟩
instance : FieldT Tryz.prog 60 3 3 59 1 := ⟨⟨_, _, Tryz.underlying60, rfl, rfl, rfl⟩, fun _ => by kernel_rfl, by decide⟩
instance : StructT Tryz.prog 60 [(0, 1), (1, 1), (2, 1), (3, 1)] [(.int .i64 0), .nilFunc, .nilFunc, .nilFunc] := ⟨⟨_, Tryz.underlying60, fun _ => by kernel_rfl⟩, inferInstance⟩
instance : AggT Tryz.prog 61 4 := ⟨fun _ => by kernel_rfl, fun _ => by kernel_rfl⟩
instance : ZeroT Tryz.prog 61 [(.int .i64 0), .nilFunc, .nilFunc, .nilFunc] := ⟨.agg #[(.int .i64 0), .nilFunc, .nilFunc, .nilFunc], fun _ => by kernel_rfl, rfl⟩
instance : FieldT Tryz.prog 61 0 0 3 1 := ⟨⟨_, _, Tryz.underlying61, rfl, rfl, rfl⟩, fun _ => by kernel_rfl, by decide⟩
instance : FieldT Tryz.prog 61 1 1 45 1 := ⟨⟨_, _, Tryz.underlying61, rfl, rfl, rfl⟩, fun _ => by kernel_rfl, by decide⟩
instance : FieldT Tryz.prog 61 2 2 45 1 := ⟨⟨_, _, Tryz.underlying61, rfl, rfl, rfl⟩, fun _ => by kernel_rfl, by decide⟩
instance : FieldT Tryz.prog 61 3 3 59 1 := ⟨⟨_, _, Tryz.underlying61, rfl, rfl, rfl⟩, fun _ => by kernel_rfl, by decide⟩
instance : StructT Tryz.prog 61 [(0, 1), (1, 1), (2, 1), (3, 1)] [(.int .i64 0), .nilFunc, .nilFunc, .nilFunc] := ⟨⟨_, Tryz.underlying61, fun _ => by kernel_rfl⟩, inferInstance⟩
instance : CellT Tryz.prog 62 := ⟨fun _ => by kernel_rfl, fun _ => by kernel_rfl⟩
instance : ZeroT Tryz.prog 62 [.nilFunc] := ⟨.nilFunc, fun _ => by kernel_rfl, rfl⟩
instance : CellT Tryz.prog 64 := ⟨fun _ => by kernel_rfl, fun _ => by kernel_rfl⟩
instance : ZeroT Tryz.prog 64 [.nilFunc] := ⟨.nilFunc, fun _ => by kernel_rfl, rfl⟩
instance : CellT Tryz.prog 65 := ⟨fun _ => by kernel_rfl, fun _ => by kernel_rfl⟩
instance : ZeroT Tryz.prog 65 [(.pointer none)] := ⟨(.pointer none), fun _ => by kernel_rfl, rfl⟩
instance : CellT Tryz.prog 66 := ⟨fun _ => by kernel_rfl, fun _ => by kernel_rfl⟩
instance : ZeroT Tryz.prog 66 [(.int .u64 0)] := ⟨(.int .u64 0), fun _ => by kernel_rfl, rfl⟩
instance : AggT Tryz.prog 67 3 := ⟨fun _ => by kernel_rfl, fun _ => by kernel_rfl⟩
instance : ZeroT Tryz.prog 67 [(.slice none 0 0), (.int .i64 0), (.int .u64 0)] := ⟨.agg #[(.slice none 0 0), (.int .i64 0), (.int .u64 0)], fun _ => by kernel_rfl, rfl⟩
instance : FieldT Tryz.prog 67 0 0 22 1 := ⟨⟨_, _, Tryz.underlying67, rfl, rfl, rfl⟩, fun _ => by kernel_rfl, by decide⟩
instance : FieldT Tryz.prog 67 1 1 3 1 := ⟨⟨_, _, Tryz.underlying67, rfl, rfl, rfl⟩, fun _ => by kernel_rfl, by decide⟩
instance : FieldT Tryz.prog 67 2 2 66 1 := ⟨⟨_, _, Tryz.underlying67, rfl, rfl, rfl⟩, fun _ => by kernel_rfl, by decide⟩
instance : StructT Tryz.prog 67 [(0, 1), (1, 1), (2, 1)] [(.slice none 0 0), (.int .i64 0), (.int .u64 0)] := ⟨⟨_, Tryz.underlying67, fun _ => by kernel_rfl⟩, inferInstance⟩
instance : AggT Tryz.prog 68 3 := ⟨fun _ => by kernel_rfl, fun _ => by kernel_rfl⟩
instance : ZeroT Tryz.prog 68 [(.slice none 0 0), (.int .i64 0), (.int .u64 0)] := ⟨.agg #[(.slice none 0 0), (.int .i64 0), (.int .u64 0)], fun _ => by kernel_rfl, rfl⟩
instance : FieldT Tryz.prog 68 0 0 22 1 := ⟨⟨_, _, Tryz.underlying68, rfl, rfl, rfl⟩, fun _ => by kernel_rfl, by decide⟩
instance : FieldT Tryz.prog 68 1 1 3 1 := ⟨⟨_, _, Tryz.underlying68, rfl, rfl, rfl⟩, fun _ => by kernel_rfl, by decide⟩
instance : FieldT Tryz.prog 68 2 2 66 1 := ⟨⟨_, _, Tryz.underlying68, rfl, rfl, rfl⟩, fun _ => by kernel_rfl, by decide⟩
instance : StructT Tryz.prog 68 [(0, 1), (1, 1), (2, 1)] [(.slice none 0 0), (.int .i64 0), (.int .u64 0)] := ⟨⟨_, Tryz.underlying68, fun _ => by kernel_rfl⟩, inferInstance⟩
instance : CellT Tryz.prog 69 := ⟨fun _ => by kernel_rfl, fun _ => by kernel_rfl⟩
instance : ZeroT Tryz.prog 69 [.nilFunc] := ⟨.nilFunc, fun _ => by kernel_rfl, rfl⟩
instance : CellT Tryz.prog 70 := ⟨fun _ => by kernel_rfl, fun _ => by kernel_rfl⟩
instance : ZeroT Tryz.prog 70 [.nilFunc] := ⟨.nilFunc, fun _ => by kernel_rfl, rfl⟩
instance : CellT Tryz.prog 71 := ⟨fun _ => by kernel_rfl, fun _ => by kernel_rfl⟩
instance : ZeroT Tryz.prog 71 [.nilFunc] := ⟨.nilFunc, fun _ => by kernel_rfl, rfl⟩
instance : CellT Tryz.prog 72 := ⟨fun _ => by kernel_rfl, fun _ => by kernel_rfl⟩
instance : ZeroT Tryz.prog 72 [.nilFunc] := ⟨.nilFunc, fun _ => by kernel_rfl, rfl⟩
instance : CellT Tryz.prog 73 := ⟨fun _ => by kernel_rfl, fun _ => by kernel_rfl⟩
instance : ZeroT Tryz.prog 73 [.nilFunc] := ⟨.nilFunc, fun _ => by kernel_rfl, rfl⟩
instance : CellT Tryz.prog 74 := ⟨fun _ => by kernel_rfl, fun _ => by kernel_rfl⟩
instance : ZeroT Tryz.prog 74 [.nilFunc] := ⟨.nilFunc, fun _ => by kernel_rfl, rfl⟩
instance : CellT Tryz.prog 75 := ⟨fun _ => by kernel_rfl, fun _ => by kernel_rfl⟩
instance : ZeroT Tryz.prog 75 [.nilFunc] := ⟨.nilFunc, fun _ => by kernel_rfl, rfl⟩
instance : CellT Tryz.prog 76 := ⟨fun _ => by kernel_rfl, fun _ => by kernel_rfl⟩
instance : ZeroT Tryz.prog 76 [.nilFunc] := ⟨.nilFunc, fun _ => by kernel_rfl, rfl⟩
instance : CellT Tryz.prog 77 := ⟨fun _ => by kernel_rfl, fun _ => by kernel_rfl⟩
instance : ZeroT Tryz.prog 77 [.nilFunc] := ⟨.nilFunc, fun _ => by kernel_rfl, rfl⟩
instance : CellT Tryz.prog 78 := ⟨fun _ => by kernel_rfl, fun _ => by kernel_rfl⟩
instance : ZeroT Tryz.prog 78 [.nilFunc] := ⟨.nilFunc, fun _ => by kernel_rfl, rfl⟩
instance : CellT Tryz.prog 79 := ⟨fun _ => by kernel_rfl, fun _ => by kernel_rfl⟩
instance : ZeroT Tryz.prog 79 [.nilFunc] := ⟨.nilFunc, fun _ => by kernel_rfl, rfl⟩
instance : CellT Tryz.prog 80 := ⟨fun _ => by kernel_rfl, fun _ => by kernel_rfl⟩
instance : ZeroT Tryz.prog 80 [(.pointer none)] := ⟨(.pointer none), fun _ => by kernel_rfl, rfl⟩
instance : CellT Tryz.prog 82 := ⟨fun _ => by kernel_rfl, fun _ => by kernel_rfl⟩
instance : ZeroT Tryz.prog 82 [.nilFunc] := ⟨.nilFunc, fun _ => by kernel_rfl, rfl⟩
instance : CellT Tryz.prog 83 := ⟨fun _ => by kernel_rfl, fun _ => by kernel_rfl⟩
instance : ZeroT Tryz.prog 83 [(.slice none 0 0)] := ⟨(.slice none 0 0), fun _ => by kernel_rfl, rfl⟩
instance : SlT Tryz.prog 83 113 2 32 := ⟨Tryz.underlying83, ⟨_, rfl, rfl, rfl⟩⟩
instance : MkT Tryz.prog 83 113 2 32 [(.int .i64 0), (.slice none 0 0)] := ⟨Tryz.underlying83, ⟨_, _, rfl, rfl, rfl, rfl, rfl⟩⟩
instance : CellT Tryz.prog 84 := ⟨fun _ => by kernel_rfl, fun _ => by kernel_rfl⟩
instance : ZeroT Tryz.prog 84 [(.map none)] := ⟨(.map none), fun _ => by kernel_rfl, rfl⟩
instance : AggT Tryz.prog 85 3 := ⟨fun _ => by kernel_rfl, fun _ => by kernel_rfl⟩
instance : ZeroT Tryz.prog 85 [(.slice none 0 0), (.slice none 0 0), (.map none)] := ⟨.agg #[(.slice none 0 0), (.slice none 0 0), (.map none)], fun _ => by kernel_rfl, rfl⟩
instance : FieldT Tryz.prog 85 0 0 46 1 := ⟨⟨_, _, Tryz.underlying85, rfl, rfl, rfl⟩, fun _ => by kernel_rfl, by decide⟩
instance : FieldT Tryz.prog 85 1 1 83 1 := ⟨⟨_, _, Tryz.underlying85, rfl, rfl, rfl⟩, fun _ => by kernel_rfl, by decide⟩
instance : FieldT Tryz.prog 85 2 2 84 1 := ⟨⟨_, _, Tryz.underlying85, rfl, rfl, rfl⟩, fun _ => by kernel_rfl, by decide⟩
instance : StructT Tryz.prog 85 [(0, 1), (1, 1), (2, 1)] [(.slice none 0 0), (.slice none 0 0), (.map none)] := ⟨⟨_, Tryz.underlying85, fun _ => by kernel_rfl⟩, inferInstance⟩
instance : AggT Tryz.prog 86 3 := ⟨fun _ => by kernel_rfl, fun _ => by kernel_rfl⟩
instance : ZeroT Tryz.prog 86 [(.slice none 0 0), (.slice none 0 0), (.map none)] := ⟨.agg #[(.slice none 0 0), (.slice none 0 0), (.map none)], fun _ => by kernel_rfl, rfl⟩
instance : FieldT Tryz.prog 86 0 0 46 1 := ⟨⟨_, _, Tryz.underlying86, rfl, rfl, rfl⟩, fun _ => by kernel_rfl, by decide⟩
instance : FieldT Tryz.prog 86 1 1 83 1 := ⟨⟨_, _, Tryz.underlying86, rfl, rfl, rfl⟩, fun _ => by kernel_rfl, by decide⟩
instance : FieldT Tryz.prog 86 2 2 84 1 := ⟨⟨_, _, Tryz.underlying86, rfl, rfl, rfl⟩, fun _ => by kernel_rfl, by decide⟩
instance : StructT Tryz.prog 86 [(0, 1), (1, 1), (2, 1)] [(.slice none 0 0), (.slice none 0 0), (.map none)] := ⟨⟨_, Tryz.underlying86, fun _ => by kernel_rfl⟩, inferInstance⟩
instance : CellT Tryz.prog 87 := ⟨fun _ => by kernel_rfl, fun _ => by kernel_rfl⟩
instance : ZeroT Tryz.prog 87 [.nilFunc] := ⟨.nilFunc, fun _ => by kernel_rfl, rfl⟩
instance : CellT Tryz.prog 88 := ⟨fun _ => by kernel_rfl, fun _ => by kernel_rfl⟩
instance : ZeroT Tryz.prog 88 [.nilFunc] := ⟨.nilFunc, fun _ => by kernel_rfl, rfl⟩
instance : AggT Tryz.prog 89 3 := ⟨fun _ => by kernel_rfl, fun _ => by kernel_rfl⟩
instance : ZeroT Tryz.prog 89 [(.slice none 0 0), (.slice none 0 0), (.bool false)] := ⟨.agg #[(.slice none 0 0), (.slice none 0 0), (.bool false)], fun _ => by kernel_rfl, rfl⟩
instance : FieldT Tryz.prog 89 0 0 46 1 := ⟨⟨_, _, Tryz.underlying89, rfl, rfl, rfl⟩, fun _ => by kernel_rfl, by decide⟩
instance : FieldT Tryz.prog 89 1 1 83 1 := ⟨⟨_, _, Tryz.underlying89, rfl, rfl, rfl⟩, fun _ => by kernel_rfl, by decide⟩
instance : FieldT Tryz.prog 89 2 2 4 1 := ⟨⟨_, _, Tryz.underlying89, rfl, rfl, rfl⟩, fun _ => by kernel_rfl, by decide⟩
instance : StructT Tryz.prog 89 [(0, 1), (1, 1), (2, 1)] [(.slice none 0 0), (.slice none 0 0), (.bool false)] := ⟨⟨_, Tryz.underlying89, fun _ => by kernel_rfl⟩, inferInstance⟩
instance : AggT Tryz.prog 90 3 := ⟨fun _ => by kernel_rfl, fun _ => by kernel_rfl⟩
instance : ZeroT Tryz.prog 90 [(.slice none 0 0), (.slice none 0 0), (.bool false)] := ⟨.agg #[(.slice none 0 0), (.slice none 0 0), (.bool false)], fun _ => by kernel_rfl, rfl⟩
instance : FieldT Tryz.prog 90 0 0 46 1 := ⟨⟨_, _, Tryz.underlying90, rfl, rfl, rfl⟩, fun _ => by kernel_rfl, by decide⟩
instance : FieldT Tryz.prog 90 1 1 83 1 := ⟨⟨_, _, Tryz.underlying90, rfl, rfl, rfl⟩, fun _ => by kernel_rfl, by decide⟩
instance : FieldT Tryz.prog 90 2 2 4 1 := ⟨⟨_, _, Tryz.underlying90, rfl, rfl, rfl⟩, fun _ => by kernel_rfl, by decide⟩
instance : StructT Tryz.prog 90 [(0, 1), (1, 1), (2, 1)] [(.slice none 0 0), (.slice none 0 0), (.bool false)] := ⟨⟨_, Tryz.underlying90, fun _ => by kernel_rfl⟩, inferInstance⟩
instance : CellT Tryz.prog 91 := ⟨fun _ => by kernel_rfl, fun _ => by kernel_rfl⟩
instance : ZeroT Tryz.prog 91 [.nilFunc] := ⟨.nilFunc, fun _ => by kernel_rfl, rfl⟩
instance : CellT Tryz.prog 92 := ⟨fun _ => by kernel_rfl, fun _ => by kernel_rfl⟩
instance : ZeroT Tryz.prog 92 [.nilFunc] := ⟨.nilFunc, fun _ => by kernel_rfl, rfl⟩
instance : CellT Tryz.prog 93 := ⟨fun _ => by kernel_rfl, fun _ => by kernel_rfl⟩
instance : ZeroT Tryz.prog 93 [.nilFunc] := ⟨.nilFunc, fun _ => by kernel_rfl, rfl⟩
instance : CellT Tryz.prog 94 := ⟨fun _ => by kernel_rfl, fun _ => by kernel_rfl⟩
instance : ZeroT Tryz.prog 94 [.nilFunc] := ⟨.nilFunc, fun _ => by kernel_rfl, rfl⟩
instance : CellT Tryz.prog 95 := ⟨fun _ => by kernel_rfl, fun _ => by kernel_rfl⟩
instance : ZeroT Tryz.prog 95 [.nilFunc] := ⟨.nilFunc, fun _ => by kernel_rfl, rfl⟩
instance : CellT Tryz.prog 96 := ⟨fun _ => by kernel_rfl, fun _ => by kernel_rfl⟩
instance : ZeroT Tryz.prog 96 [.nilFunc] := ⟨.nilFunc, fun _ => by kernel_rfl, rfl⟩
instance : CellT Tryz.prog 97 := ⟨fun _ => by kernel_rfl, fun _ => by kernel_rfl⟩
instance : ZeroT Tryz.prog 97 [.nilFunc] := ⟨.nilFunc, fun _ => by kernel_rfl, rfl⟩
instance : CellT Tryz.prog 98 := ⟨fun _ => by kernel_rfl, fun _ => by kernel_rfl⟩
instance : ZeroT Tryz.prog 98 [(.slice none 0 0)] := ⟨(.slice none 0 0), fun _ => by kernel_rfl, rfl⟩
instance : SlT Tryz.prog 98 52 1 24 := ⟨Tryz.underlying98, ⟨_, rfl, rfl, rfl⟩⟩
instance : MkT Tryz.prog 98 52 1 24 [(.slice none 0 0)] := ⟨Tryz.underlying98, ⟨_, _, rfl, rfl, rfl, rfl, rfl⟩⟩
instance : CellT Tryz.prog 99 := ⟨fun _ => by kernel_rfl, fun _ => by kernel_rfl⟩
instance : ZeroT Tryz.prog 99 [.nilFunc] := ⟨.nilFunc, fun _ => by kernel_rfl, rfl⟩
instance : CellT Tryz.prog 100 := ⟨fun _ => by kernel_rfl, fun _ => by kernel_rfl⟩
instance : ZeroT Tryz.prog 100 [.nilFunc] := ⟨.nilFunc, fun _ => by kernel_rfl, rfl⟩
instance : CellT Tryz.prog 101 := ⟨fun _ => by kernel_rfl, fun _ => by kernel_rfl⟩
instance : ZeroT Tryz.prog 101 [(.slice none 0 0)] := ⟨(.slice none 0 0), fun _ => by kernel_rfl, rfl⟩
instance : SlT Tryz.prog 101 98 1 24 := ⟨Tryz.underlying101, ⟨_, rfl, rfl, rfl⟩⟩
instance : MkT Tryz.prog 101 98 1 24 [(.slice none 0 0)] := ⟨Tryz.underlying101, ⟨_, _, rfl, rfl, rfl, rfl, rfl⟩⟩
instance : CellT Tryz.prog 102 := ⟨fun _ => by kernel_rfl, fun _ => by kernel_rfl⟩
instance : ZeroT Tryz.prog 102 [.nilFunc] := ⟨.nilFunc, fun _ => by kernel_rfl, rfl⟩
instance : CellT Tryz.prog 103 := ⟨fun _ => by kernel_rfl, fun _ => by kernel_rfl⟩
instance : ZeroT Tryz.prog 103 [.nilFunc] := ⟨.nilFunc, fun _ => by kernel_rfl, rfl⟩
instance : CellT Tryz.prog 104 := ⟨fun _ => by kernel_rfl, fun _ => by kernel_rfl⟩
instance : ZeroT Tryz.prog 104 [.nilFunc] := ⟨.nilFunc, fun _ => by kernel_rfl, rfl⟩
instance : CellT Tryz.prog 105 := ⟨fun _ => by kernel_rfl, fun _ => by kernel_rfl⟩
instance : ZeroT Tryz.prog 105 [.nilFunc] := ⟨.nilFunc, fun _ => by kernel_rfl, rfl⟩
instance : CellT Tryz.prog 106 := ⟨fun _ => by kernel_rfl, fun _ => by kernel_rfl⟩
instance : ZeroT Tryz.prog 106 [.nilFunc] := ⟨.nilFunc, fun _ => by kernel_rfl, rfl⟩
instance : CellT Tryz.prog 107 := ⟨fun _ => by kernel_rfl, fun _ => by kernel_rfl⟩
instance : ZeroT Tryz.prog 107 [.nilFunc] := ⟨.nilFunc, fun _ => by kernel_rfl, rfl⟩
instance : CellT Tryz.prog 108 := ⟨fun _ => by kernel_rfl, fun _ => by kernel_rfl⟩
instance : ZeroT Tryz.prog 108 [.nilFunc] := ⟨.nilFunc, fun _ => by kernel_rfl, rfl⟩
instance : CellT Tryz.prog 109 := ⟨fun _ => by kernel_rfl, fun _ => by kernel_rfl⟩
instance : ZeroT Tryz.prog 109 [(.int .u64 0)] := ⟨(.int .u64 0), fun _ => by kernel_rfl, rfl⟩
instance : CellT Tryz.prog 110 := ⟨fun _ => by kernel_rfl, fun _ => by kernel_rfl⟩
instance : ZeroT Tryz.prog 110 [.nilFunc] := ⟨.nilFunc, fun _ => by kernel_rfl, rfl⟩
instance : CellT Tryz.prog 111 := ⟨fun _ => by kernel_rfl, fun _ => by kernel_rfl⟩
instance : ZeroT Tryz.prog 111 [.nilFunc] := ⟨.nilFunc, fun _ => by kernel_rfl, rfl⟩
instance : AggT Tryz.prog 112 2 := ⟨fun _ => by kernel_rfl, fun _ => by kernel_rfl⟩
instance : ZeroT Tryz.prog 112 [(.int .i64 0), (.slice none 0 0)] := ⟨.agg #[(.int .i64 0), (.slice none 0 0)], fun _ => by kernel_rfl, rfl⟩
instance : FieldT Tryz.prog 112 0 0 3 1 := ⟨⟨_, _, Tryz.underlying112, rfl, rfl, rfl⟩, fun _ => by kernel_rfl, by decide⟩
instance : FieldT Tryz.prog 112 1 1 31 1 := ⟨⟨_, _, Tryz.underlying112, rfl, rfl, rfl⟩, fun _ => by kernel_rfl, by decide⟩
instance : StructT Tryz.prog 112 [(0, 1), (1, 1)] [(.int .i64 0), (.slice none 0 0)] := ⟨⟨_, Tryz.underlying112, fun _ => by kernel_rfl⟩, inferInstance⟩
instance : AggT Tryz.prog 113 2 := ⟨fun _ => by kernel_rfl, fun _ => by kernel_rfl⟩
instance : ZeroT Tryz.prog 113 [(.int .i64 0), (.slice none 0 0)] := ⟨.agg #[(.int .i64 0), (.slice none 0 0)], fun _ => by kernel_rfl, rfl⟩
instance : FieldT Tryz.prog 113 0 0 3 1 := ⟨⟨_, _, Tryz.underlying113, rfl, rfl, rfl⟩, fun _ => by kernel_rfl, by decide⟩
instance : FieldT Tryz.prog 113 1 1 31 1 := ⟨⟨_, _, Tryz.underlying113, rfl, rfl, rfl⟩, fun _ => by kernel_rfl, by decide⟩
instance : StructT Tryz.prog 113 [(0, 1), (1, 1)] [(.int .i64 0), (.slice none 0 0)] := ⟨⟨_, Tryz.underlying113, fun _ => by kernel_rfl⟩, inferInstance⟩
instance : CellT Tryz.prog 114 := ⟨fun _ => by kernel_rfl, fun _ => by kernel_rfl⟩
instance : ZeroT Tryz.prog 114 [.nilFunc] := ⟨.nilFunc, fun _ => by kernel_rfl, rfl⟩
instance : CellT Tryz.prog 115 := ⟨fun _ => by kernel_rfl, fun _ => by kernel_rfl⟩
instance : ZeroT Tryz.prog 115 [.nilFunc] := ⟨.nilFunc, fun _ => by kernel_rfl, rfl⟩
instance : CellT Tryz.prog 116 := ⟨fun _ => by kernel_rfl, fun _ => by kernel_rfl⟩
instance : ZeroT Tryz.prog 116 [.nilFunc] := ⟨.nilFunc, fun _ => by kernel_rfl, rfl⟩
instance : CellT Tryz.prog 117 := ⟨fun _ => by kernel_rfl, fun _ => by kernel_rfl⟩
instance : ZeroT Tryz.prog 117 [.nilFunc] := ⟨.nilFunc, fun _ => by kernel_rfl, rfl⟩
instance : AggT Tryz.prog 118 4 := ⟨fun _ => by kernel_rfl, fun _ => by kernel_rfl⟩
instance : ZeroT Tryz.prog 118 [(.pointer none), (.pointer none), (.pointer none), (.string ByteArray.empty)] := ⟨.agg #[(.pointer none), (.pointer none), (.pointer none), (.string ByteArray.empty)], fun _ => by kernel_rfl, rfl⟩
instance : FieldT Tryz.prog 118 0 0 17 1 := ⟨⟨_, _, Tryz.underlying118, rfl, rfl, rfl⟩, fun _ => by kernel_rfl, by decide⟩
instance : FieldT Tryz.prog 118 1 1 17 1 := ⟨⟨_, _, Tryz.underlying118, rfl, rfl, rfl⟩, fun _ => by kernel_rfl, by decide⟩
instance : FieldT Tryz.prog 118 2 2 17 1 := ⟨⟨_, _, Tryz.underlying118, rfl, rfl, rfl⟩, fun _ => by kernel_rfl, by decide⟩
instance : FieldT Tryz.prog 118 3 3 9 1 := ⟨⟨_, _, Tryz.underlying118, rfl, rfl, rfl⟩, fun _ => by kernel_rfl, by decide⟩
instance : StructT Tryz.prog 118 [(0, 1), (1, 1), (2, 1), (3, 1)] [(.pointer none), (.pointer none), (.pointer none), (.string ByteArray.empty)] := ⟨⟨_, Tryz.underlying118, fun _ => by kernel_rfl⟩, inferInstance⟩
instance : AggT Tryz.prog 119 4 := ⟨fun _ => by kernel_rfl, fun _ => by kernel_rfl⟩
instance : ZeroT Tryz.prog 119 [(.pointer none), (.pointer none), (.pointer none), (.string ByteArray.empty)] := ⟨.agg #[(.pointer none), (.pointer none), (.pointer none), (.string ByteArray.empty)], fun _ => by kernel_rfl, rfl⟩
instance : FieldT Tryz.prog 119 0 0 17 1 := ⟨⟨_, _, Tryz.underlying119, rfl, rfl, rfl⟩, fun _ => by kernel_rfl, by decide⟩
instance : FieldT Tryz.prog 119 1 1 17 1 := ⟨⟨_, _, Tryz.underlying119, rfl, rfl, rfl⟩, fun _ => by kernel_rfl, by decide⟩
instance : FieldT Tryz.prog 119 2 2 17 1 := ⟨⟨_, _, Tryz.underlying119, rfl, rfl, rfl⟩, fun _ => by kernel_rfl, by decide⟩
instance : FieldT Tryz.prog 119 3 3 9 1 := ⟨⟨_, _, Tryz.underlying119, rfl, rfl, rfl⟩, fun _ => by kernel_rfl, by decide⟩
instance : StructT Tryz.prog 119 [(0, 1), (1, 1), (2, 1), (3, 1)] [(.pointer none), (.pointer none), (.pointer none), (.string ByteArray.empty)] := ⟨⟨_, Tryz.underlying119, fun _ => by kernel_rfl⟩, inferInstance⟩
instance : AggT Tryz.prog 120 0 := ⟨fun _ => by kernel_rfl, fun _ => by kernel_rfl⟩
instance : AggT Tryz.prog 121 0 := ⟨fun _ => by kernel_rfl, fun _ => by kernel_rfl⟩
instance : AggT Tryz.prog 122 0 := ⟨fun _ => by kernel_rfl, fun _ => by kernel_rfl⟩
instance : CellT Tryz.prog 123 := ⟨fun _ => by kernel_rfl, fun _ => by kernel_rfl⟩
instance : ZeroT Tryz.prog 123 [(.int .u32 0)] := ⟨(.int .u32 0), fun _ => by kernel_rfl, rfl⟩
instance : CellT Tryz.prog 124 := ⟨fun _ => by kernel_rfl, fun _ => by kernel_rfl⟩
instance : ZeroT Tryz.prog 124 [(.int .u8 0)] := ⟨(.int .u8 0), fun _ => by kernel_rfl, rfl⟩
instance : CellT Tryz.prog 125 := ⟨fun _ => by kernel_rfl, fun _ => by kernel_rfl⟩
instance : ZeroT Tryz.prog 125 [(.int .u8 0)] := ⟨(.int .u8 0), fun _ => by kernel_rfl, rfl⟩
instance : CellT Tryz.prog 126 := ⟨fun _ => by kernel_rfl, fun _ => by kernel_rfl⟩
instance : ZeroT Tryz.prog 126 [.nilFunc] := ⟨.nilFunc, fun _ => by kernel_rfl, rfl⟩
instance : CellT Tryz.prog 127 := ⟨fun _ => by kernel_rfl, fun _ => by kernel_rfl⟩
instance : ZeroT Tryz.prog 127 [(.pointer none)] := ⟨(.pointer none), fun _ => by kernel_rfl, rfl⟩
instance : CellT Tryz.prog 128 := ⟨fun _ => by kernel_rfl, fun _ => by kernel_rfl⟩
instance : ZeroT Tryz.prog 128 [(.int .i32 0)] := ⟨(.int .i32 0), fun _ => by kernel_rfl, rfl⟩
instance : CellT Tryz.prog 129 := ⟨fun _ => by kernel_rfl, fun _ => by kernel_rfl⟩
instance : ZeroT Tryz.prog 129 [(.int .i32 0)] := ⟨(.int .i32 0), fun _ => by kernel_rfl, rfl⟩
instance : AggT Tryz.prog 130 11 := ⟨fun _ => by kernel_rfl, fun _ => by kernel_rfl⟩
instance : ZeroT Tryz.prog 130 [(.int .u64 0), (.int .u64 0), (.int .u32 0), (.int .u8 0), (.int .u8 0), (.int .u8 0), (.int .u8 0), .nilFunc, (.pointer none), (.int .i32 0), (.int .i32 0)] := ⟨.agg #[(.int .u64 0), (.int .u64 0), (.int .u32 0), (.int .u8 0), (.int .u8 0), (.int .u8 0), (.int .u8 0), .nilFunc, (.pointer none), (.int .i32 0), (.int .i32 0)], fun _ => by kernel_rfl, rfl⟩
instance : FieldT Tryz.prog 130 0 0 12 1 := ⟨⟨_, _, Tryz.underlying130, rfl, rfl, rfl⟩, fun _ => by kernel_rfl, by decide⟩
instance : FieldT Tryz.prog 130 1 1 12 1 := ⟨⟨_, _, Tryz.underlying130, rfl, rfl, rfl⟩, fun _ => by kernel_rfl, by decide⟩
instance : FieldT Tryz.prog 130 2 2 123 1 := ⟨⟨_, _, Tryz.underlying130, rfl, rfl, rfl⟩, fun _ => by kernel_rfl, by decide⟩
instance : FieldT Tryz.prog 130 3 3 124 1 := ⟨⟨_, _, Tryz.underlying130, rfl, rfl, rfl⟩, fun _ => by kernel_rfl, by decide⟩
instance : FieldT Tryz.prog 130 4 4 5 1 := ⟨⟨_, _, Tryz.underlying130, rfl, rfl, rfl⟩, fun _ => by kernel_rfl, by decide⟩
instance : FieldT Tryz.prog 130 5 5 5 1 := ⟨⟨_, _, Tryz.underlying130, rfl, rfl, rfl⟩, fun _ => by kernel_rfl, by decide⟩
instance : FieldT Tryz.prog 130 6 6 125 1 := ⟨⟨_, _, Tryz.underlying130, rfl, rfl, rfl⟩, fun _ => by kernel_rfl, by decide⟩
instance : FieldT Tryz.prog 130 7 7 126 1 := ⟨⟨_, _, Tryz.underlying130, rfl, rfl, rfl⟩, fun _ => by kernel_rfl, by decide⟩
instance : FieldT Tryz.prog 130 8 8 127 1 := ⟨⟨_, _, Tryz.underlying130, rfl, rfl, rfl⟩, fun _ => by kernel_rfl, by decide⟩
instance : FieldT Tryz.prog 130 9 9 128 1 := ⟨⟨_, _, Tryz.underlying130, rfl, rfl, rfl⟩, fun _ => by kernel_rfl, by decide⟩
instance : FieldT Tryz.prog 130 10 10 129 1 := ⟨⟨_, _, Tryz.underlying130, rfl, rfl, rfl⟩, fun _ => by kernel_rfl, by decide⟩
instance : StructT Tryz.prog 130 [(0, 1), (1, 1), (2, 1), (3, 1), (4, 1), (5, 1), (6, 1), (7, 1), (8, 1), (9, 1), (10, 1)] [(.int .u64 0), (.int .u64 0), (.int .u32 0), (.int .u8 0), (.int .u8 0), (.int .u8 0), (.int .u8 0), .nilFunc, (.pointer none), (.int .i32 0), (.int .i32 0)] := ⟨⟨_, Tryz.underlying130, fun _ => by kernel_rfl⟩, inferInstance⟩
instance : AggT Tryz.prog 131 11 := ⟨fun _ => by kernel_rfl, fun _ => by kernel_rfl⟩
instance : ZeroT Tryz.prog 131 [(.int .u64 0), (.int .u64 0), (.int .u32 0), (.int .u8 0), (.int .u8 0), (.int .u8 0), (.int .u8 0), .nilFunc, (.pointer none), (.int .i32 0), (.int .i32 0)] := ⟨.agg #[(.int .u64 0), (.int .u64 0), (.int .u32 0), (.int .u8 0), (.int .u8 0), (.int .u8 0), (.int .u8 0), .nilFunc, (.pointer none), (.int .i32 0), (.int .i32 0)], fun _ => by kernel_rfl, rfl⟩
instance : FieldT Tryz.prog 131 0 0 12 1 := ⟨⟨_, _, Tryz.underlying131, rfl, rfl, rfl⟩, fun _ => by kernel_rfl, by decide⟩
instance : FieldT Tryz.prog 131 1 1 12 1 := ⟨⟨_, _, Tryz.underlying131, rfl, rfl, rfl⟩, fun _ => by kernel_rfl, by decide⟩
instance : FieldT Tryz.prog 131 2 2 123 1 := ⟨⟨_, _, Tryz.underlying131, rfl, rfl, rfl⟩, fun _ => by kernel_rfl, by decide⟩
instance : FieldT Tryz.prog 131 3 3 124 1 := ⟨⟨_, _, Tryz.underlying131, rfl, rfl, rfl⟩, fun _ => by kernel_rfl, by decide⟩
instance : FieldT Tryz.prog 131 4 4 5 1 := ⟨⟨_, _, Tryz.underlying131, rfl, rfl, rfl⟩, fun _ => by kernel_rfl, by decide⟩
instance : FieldT Tryz.prog 131 5 5 5 1 := ⟨⟨_, _, Tryz.underlying131, rfl, rfl, rfl⟩, fun _ => by kernel_rfl, by decide⟩
instance : FieldT Tryz.prog 131 6 6 125 1 := ⟨⟨_, _, Tryz.underlying131, rfl, rfl, rfl⟩, fun _ => by kernel_rfl, by decide⟩
instance : FieldT Tryz.prog 131 7 7 126 1 := ⟨⟨_, _, Tryz.underlying131, rfl, rfl, rfl⟩, fun _ => by kernel_rfl, by decide⟩
instance : FieldT Tryz.prog 131 8 8 127 1 := ⟨⟨_, _, Tryz.underlying131, rfl, rfl, rfl⟩, fun _ => by kernel_rfl, by decide⟩
instance : FieldT Tryz.prog 131 9 9 128 1 := ⟨⟨_, _, Tryz.underlying131, rfl, rfl, rfl⟩, fun _ => by kernel_rfl, by decide⟩
instance : FieldT Tryz.prog 131 10 10 129 1 := ⟨⟨_, _, Tryz.underlying131, rfl, rfl, rfl⟩, fun _ => by kernel_rfl, by decide⟩
instance : StructT Tryz.prog 131 [(0, 1), (1, 1), (2, 1), (3, 1), (4, 1), (5, 1), (6, 1), (7, 1), (8, 1), (9, 1), (10, 1)] [(.int .u64 0), (.int .u64 0), (.int .u32 0), (.int .u8 0), (.int .u8 0), (.int .u8 0), (.int .u8 0), .nilFunc, (.pointer none), (.int .i32 0), (.int .i32 0)] := ⟨⟨_, Tryz.underlying131, fun _ => by kernel_rfl⟩, inferInstance⟩
instance : CellT Tryz.prog 132 := ⟨fun _ => by kernel_rfl, fun _ => by kernel_rfl⟩
instance : ZeroT Tryz.prog 132 [(.pointer none)] := ⟨(.pointer none), fun _ => by kernel_rfl, rfl⟩
instance : FnT Tryz.prog 3 := ⟨Tryz.call3⟩
instance : FnT Tryz.prog 4 := ⟨Tryz.call4⟩
instance : FnT Tryz.prog 5 := ⟨Tryz.call5⟩
instance : FnT Tryz.prog 6 := ⟨Tryz.call6⟩
instance : FnT Tryz.prog 7 := ⟨Tryz.call7⟩
instance : FnT Tryz.prog 8 := ⟨Tryz.call8⟩
instance : FnT Tryz.prog 9 := ⟨Tryz.call9⟩
instance : FnT Tryz.prog 10 := ⟨Tryz.call10⟩
instance : FnT Tryz.prog 11 := ⟨Tryz.call11⟩
instance : FnT Tryz.prog 12 := ⟨Tryz.call12⟩
instance : FnT Tryz.prog 13 := ⟨Tryz.call13⟩
instance : FnT Tryz.prog 14 := ⟨Tryz.call14⟩
instance : FnT Tryz.prog 15 := ⟨Tryz.call15⟩
instance : FnT Tryz.prog 16 := ⟨Tryz.call16⟩
instance : FnT Tryz.prog 17 := ⟨Tryz.call17⟩
instance : FnT Tryz.prog 18 := ⟨Tryz.call18⟩
instance : FnT Tryz.prog 19 := ⟨Tryz.call19⟩
instance : FnT Tryz.prog 20 := ⟨Tryz.call20⟩
instance : FnT Tryz.prog 21 := ⟨Tryz.call21⟩
instance : FnT Tryz.prog 22 := ⟨Tryz.call22⟩
instance : FnT Tryz.prog 23 := ⟨Tryz.call23⟩
instance : FnT Tryz.prog 24 := ⟨Tryz.call24⟩
instance : FnT Tryz.prog 25 := ⟨Tryz.call25⟩
instance : FnT Tryz.prog 26 := ⟨Tryz.call26⟩
instance : FnT Tryz.prog 27 := ⟨Tryz.call27⟩
instance : FnT Tryz.prog 28 := ⟨Tryz.call28⟩
instance : FnT Tryz.prog 29 := ⟨Tryz.call29⟩
instance : FnT Tryz.prog 30 := ⟨Tryz.call30⟩
instance : FnT Tryz.prog 31 := ⟨Tryz.call31⟩
instance : FnT Tryz.prog 32 := ⟨Tryz.call32⟩
instance : FnT Tryz.prog 33 := ⟨Tryz.call33⟩
instance : FnT Tryz.prog 34 := ⟨Tryz.call34⟩
instance : FnT Tryz.prog 35 := ⟨Tryz.call35⟩
instance : FnT Tryz.prog 36 := ⟨Tryz.call36⟩
instance : FnT Tryz.prog 37 := ⟨Tryz.call37⟩
instance : FnT Tryz.prog 38 := ⟨Tryz.call38⟩
instance : FnT Tryz.prog 39 := ⟨Tryz.call39⟩
instance : FnT Tryz.prog 40 := ⟨Tryz.call40⟩
instance : FnT Tryz.prog 41 := ⟨Tryz.call41⟩
instance : FnT Tryz.prog 42 := ⟨Tryz.call42⟩
instance : FnT Tryz.prog 43 := ⟨Tryz.call43⟩
instance : FnT Tryz.prog 44 := ⟨Tryz.call44⟩
instance : FnT Tryz.prog 45 := ⟨Tryz.call45⟩
instance : FnT Tryz.prog 46 := ⟨Tryz.call46⟩
instance : FnT Tryz.prog 47 := ⟨Tryz.call47⟩
instance : FnT Tryz.prog 48 := ⟨Tryz.call48⟩
instance : FnT Tryz.prog 49 := ⟨Tryz.call49⟩
instance : FnT Tryz.prog 50 := ⟨Tryz.call50⟩
instance : FnT Tryz.prog 51 := ⟨Tryz.call51⟩
instance : FnT Tryz.prog 52 := ⟨Tryz.call52⟩
instance : FnT Tryz.prog 53 := ⟨Tryz.call53⟩
instance : FnT Tryz.prog 54 := ⟨Tryz.call54⟩
instance : FnT Tryz.prog 55 := ⟨Tryz.call55⟩
instance : FnT Tryz.prog 56 := ⟨Tryz.call56⟩
instance : FnT Tryz.prog 57 := ⟨Tryz.call57⟩
instance : FnT Tryz.prog 58 := ⟨Tryz.call58⟩
instance : FnT Tryz.prog 59 := ⟨Tryz.call59⟩
instance : FnT Tryz.prog 60 := ⟨Tryz.call60⟩
instance : FnT Tryz.prog 61 := ⟨Tryz.call61⟩
instance : FnT Tryz.prog 62 := ⟨Tryz.call62⟩
instance : FnT Tryz.prog 63 := ⟨Tryz.call63⟩
instance : FnT Tryz.prog 64 := ⟨Tryz.call64⟩
instance : FnT Tryz.prog 65 := ⟨Tryz.call65⟩
instance : FnT Tryz.prog 66 := ⟨Tryz.call66⟩
instance : FnT Tryz.prog 67 := ⟨Tryz.call67⟩
instance : FnT Tryz.prog 68 := ⟨Tryz.call68⟩
instance : FnT Tryz.prog 69 := ⟨Tryz.call69⟩
instance : FnT Tryz.prog 70 := ⟨Tryz.call70⟩
instance : FnT Tryz.prog 71 := ⟨Tryz.call71⟩
instance : FnT Tryz.prog 72 := ⟨Tryz.call72⟩
instance : FnT Tryz.prog 73 := ⟨Tryz.call73⟩
instance : FnT Tryz.prog 74 := ⟨Tryz.call74⟩
instance : FnT Tryz.prog 75 := ⟨Tryz.call75⟩
instance : FnT Tryz.prog 76 := ⟨Tryz.call76⟩
instance : FnT Tryz.prog 77 := ⟨Tryz.call77⟩
instance : FnT Tryz.prog 78 := ⟨Tryz.call78⟩
instance : FnT Tryz.prog 79 := ⟨Tryz.call79⟩
instance : FnT Tryz.prog 80 := ⟨Tryz.call80⟩
instance : FnT Tryz.prog 81 := ⟨Tryz.call81⟩
instance : FnT Tryz.prog 82 := ⟨Tryz.call82⟩
instance : FnT Tryz.prog 83 := ⟨Tryz.call83⟩
instance : FnT Tryz.prog 84 := ⟨Tryz.call84⟩
instance : FnT Tryz.prog 85 := ⟨Tryz.call85⟩
instance : FnT Tryz.prog 86 := ⟨Tryz.call86⟩
instance : FnT Tryz.prog 87 := ⟨Tryz.call87⟩
instance : FnT Tryz.prog 88 := ⟨Tryz.call88⟩
instance : FnT Tryz.prog 89 := ⟨Tryz.call89⟩
instance : FnT Tryz.prog 90 := ⟨Tryz.call90⟩
instance : FnT Tryz.prog 91 := ⟨Tryz.call91⟩
instance : FnT Tryz.prog 92 := ⟨Tryz.call92⟩
instance : FnT Tryz.prog 93 := ⟨Tryz.call93⟩
instance : FnT Tryz.prog 94 := ⟨Tryz.call94⟩
instance : FnT Tryz.prog 95 := ⟨Tryz.call95⟩
instance : FnT Tryz.prog 96 := ⟨Tryz.call96⟩
instance : FnT Tryz.prog 97 := ⟨Tryz.call97⟩
instance : FnT Tryz.prog 98 := ⟨Tryz.call98⟩
instance : FnT Tryz.prog 99 := ⟨Tryz.call99⟩
instance : FnT Tryz.prog 100 := ⟨Tryz.call100⟩
instance : FnT Tryz.prog 101 := ⟨Tryz.call101⟩
instance : FnT Tryz.prog 102 := ⟨Tryz.call102⟩
instance : FnT Tryz.prog 103 := ⟨Tryz.call103⟩
instance : FnT Tryz.prog 104 := ⟨Tryz.call104⟩
instance : FnT Tryz.prog 105 := ⟨Tryz.call105⟩
end Go.Proofs.YtlgfniaakjchgaaGreat
