/- What the translation's types and functions say, as instances. -/
import Derived.Test.YtembaiccchgllaaGreatChecked
import Derived.Test.YtembaiccchgllaaGreatJPw
namespace Go.Proofs.YtembaiccchgllaaGreat
open Go Go.Pv Go.Proofs
set_option maxHeartbeats 32000000
set_option maxRecDepth 100000

instance : CellT Tryz.prog 1 := ⟨fun _ => by kernel_rfl, fun _ => by kernel_rfl⟩
instance : ZeroT Tryz.prog 1 [.nilFunc] := ⟨.nilFunc, fun _ => by kernel_rfl, rfl⟩
instance : CellT Tryz.prog 2 := ⟨fun _ => by kernel_rfl, fun _ => by kernel_rfl⟩
instance : ZeroT Tryz.prog 2 [(.int .i64 0)] := ⟨(.int .i64 0), fun _ => by kernel_rfl, rfl⟩
instance : CellT Tryz.prog 3 := ⟨fun _ => by kernel_rfl, fun _ => by kernel_rfl⟩
instance : ZeroT Tryz.prog 3 [(.int .i64 0)] := ⟨(.int .i64 0), fun _ => by kernel_rfl, rfl⟩
instance : BoolT Tryz.prog 4 := ⟨by kernel_rfl⟩
instance : CellT Tryz.prog 4 := ⟨fun _ => by kernel_rfl, fun _ => by kernel_rfl⟩
instance : ZeroT Tryz.prog 4 [(.bool false)] := ⟨(.bool false), fun _ => by kernel_rfl, rfl⟩
instance : CellT Tryz.prog 5 := ⟨fun _ => by kernel_rfl, fun _ => by kernel_rfl⟩
instance : ZeroT Tryz.prog 5 [(.int .u8 0)] := ⟨(.int .u8 0), fun _ => by kernel_rfl, rfl⟩
instance : CellT Tryz.prog 6 := ⟨fun _ => by kernel_rfl, fun _ => by kernel_rfl⟩
instance : ZeroT Tryz.prog 6 [(.int .u8 0)] := ⟨(.int .u8 0), fun _ => by kernel_rfl, rfl⟩
instance : AggT Tryz.prog 7 4 := ⟨fun _ => by kernel_rfl, fun _ => by kernel_rfl⟩
instance : ZeroT Tryz.prog 7 [(.int .i64 0), (.int .i64 0), (.bool false), (.int .u8 0)] := ⟨.agg #[(.int .i64 0), (.int .i64 0), (.bool false), (.int .u8 0)], fun _ => by kernel_rfl, rfl⟩
instance : FieldT Tryz.prog 7 0 0 2 1 := ⟨⟨_, _, Tryz.underlying7, rfl, rfl, rfl⟩, fun _ => by kernel_rfl, by decide⟩
instance : FieldT Tryz.prog 7 1 1 3 1 := ⟨⟨_, _, Tryz.underlying7, rfl, rfl, rfl⟩, fun _ => by kernel_rfl, by decide⟩
instance : FieldT Tryz.prog 7 2 2 4 1 := ⟨⟨_, _, Tryz.underlying7, rfl, rfl, rfl⟩, fun _ => by kernel_rfl, by decide⟩
instance : FieldT Tryz.prog 7 3 3 6 1 := ⟨⟨_, _, Tryz.underlying7, rfl, rfl, rfl⟩, fun _ => by kernel_rfl, by decide⟩
instance : StructT Tryz.prog 7 [(0, 1), (1, 1), (2, 1), (3, 1)] [(.int .i64 0), (.int .i64 0), (.bool false), (.int .u8 0)] := ⟨⟨_, Tryz.underlying7, fun _ => by kernel_rfl⟩, inferInstance⟩
instance : AggT Tryz.prog 8 4 := ⟨fun _ => by kernel_rfl, fun _ => by kernel_rfl⟩
instance : ZeroT Tryz.prog 8 [(.int .i64 0), (.int .i64 0), (.bool false), (.int .u8 0)] := ⟨.agg #[(.int .i64 0), (.int .i64 0), (.bool false), (.int .u8 0)], fun _ => by kernel_rfl, rfl⟩
instance : FieldT Tryz.prog 8 0 0 2 1 := ⟨⟨_, _, Tryz.underlying8, rfl, rfl, rfl⟩, fun _ => by kernel_rfl, by decide⟩
instance : FieldT Tryz.prog 8 1 1 3 1 := ⟨⟨_, _, Tryz.underlying8, rfl, rfl, rfl⟩, fun _ => by kernel_rfl, by decide⟩
instance : FieldT Tryz.prog 8 2 2 4 1 := ⟨⟨_, _, Tryz.underlying8, rfl, rfl, rfl⟩, fun _ => by kernel_rfl, by decide⟩
instance : FieldT Tryz.prog 8 3 3 6 1 := ⟨⟨_, _, Tryz.underlying8, rfl, rfl, rfl⟩, fun _ => by kernel_rfl, by decide⟩
instance : StructT Tryz.prog 8 [(0, 1), (1, 1), (2, 1), (3, 1)] [(.int .i64 0), (.int .i64 0), (.bool false), (.int .u8 0)] := ⟨⟨_, Tryz.underlying8, fun _ => by kernel_rfl⟩, inferInstance⟩
instance : CellT Tryz.prog 9 := ⟨fun _ => by kernel_rfl, fun _ => by kernel_rfl⟩
instance : ZeroT Tryz.prog 9 [(.string ByteArray.empty)] := ⟨(.string ByteArray.empty), fun _ => by kernel_rfl, rfl⟩
instance : CellT Tryz.prog 10 := ⟨fun _ => by kernel_rfl, fun _ => by kernel_rfl⟩
instance : ZeroT Tryz.prog 10 [(.string ByteArray.empty)] := ⟨(.string ByteArray.empty), fun _ => by kernel_rfl, rfl⟩
instance : CellT Tryz.prog 11 := ⟨fun _ => by kernel_rfl, fun _ => by kernel_rfl⟩
instance : ZeroT Tryz.prog 11 [(.string ByteArray.empty)] := ⟨(.string ByteArray.empty), fun _ => by kernel_rfl, rfl⟩
instance : CellT Tryz.prog 12 := ⟨fun _ => by kernel_rfl, fun _ => by kernel_rfl⟩
instance : ZeroT Tryz.prog 12 [(.int .u64 0)] := ⟨(.int .u64 0), fun _ => by kernel_rfl, rfl⟩
instance : AggT Tryz.prog 13 2 := ⟨fun _ => by kernel_rfl, fun _ => by kernel_rfl⟩
instance : ZeroT Tryz.prog 13 [(.string ByteArray.empty), (.int .u64 0)] := ⟨.agg #[(.string ByteArray.empty), (.int .u64 0)], fun _ => by kernel_rfl, rfl⟩
instance : FieldT Tryz.prog 13 0 0 9 1 := ⟨⟨_, _, Tryz.underlying13, rfl, rfl, rfl⟩, fun _ => by kernel_rfl, by decide⟩
instance : FieldT Tryz.prog 13 1 1 12 1 := ⟨⟨_, _, Tryz.underlying13, rfl, rfl, rfl⟩, fun _ => by kernel_rfl, by decide⟩
instance : StructT Tryz.prog 13 [(0, 1), (1, 1)] [(.string ByteArray.empty), (.int .u64 0)] := ⟨⟨_, Tryz.underlying13, fun _ => by kernel_rfl⟩, inferInstance⟩
instance : AggT Tryz.prog 14 2 := ⟨fun _ => by kernel_rfl, fun _ => by kernel_rfl⟩
instance : ZeroT Tryz.prog 14 [(.string ByteArray.empty), (.int .u64 0)] := ⟨.agg #[(.string ByteArray.empty), (.int .u64 0)], fun _ => by kernel_rfl, rfl⟩
instance : FieldT Tryz.prog 14 0 0 9 1 := ⟨⟨_, _, Tryz.underlying14, rfl, rfl, rfl⟩, fun _ => by kernel_rfl, by decide⟩
instance : FieldT Tryz.prog 14 1 1 12 1 := ⟨⟨_, _, Tryz.underlying14, rfl, rfl, rfl⟩, fun _ => by kernel_rfl, by decide⟩
instance : StructT Tryz.prog 14 [(0, 1), (1, 1)] [(.string ByteArray.empty), (.int .u64 0)] := ⟨⟨_, Tryz.underlying14, fun _ => by kernel_rfl⟩, inferInstance⟩
instance : CellT Tryz.prog 15 := ⟨fun _ => by kernel_rfl, fun _ => by kernel_rfl⟩
instance : ZeroT Tryz.prog 15 [(.pointer none)] := ⟨(.pointer none), fun _ => by kernel_rfl, rfl⟩
instance : CellT Tryz.prog 16 := ⟨fun _ => by kernel_rfl, fun _ => by kernel_rfl⟩
instance : ZeroT Tryz.prog 16 [(.pointer none)] := ⟨(.pointer none), fun _ => by kernel_rfl, rfl⟩
instance : CellT Tryz.prog 17 := ⟨fun _ => by kernel_rfl, fun _ => by kernel_rfl⟩
instance : ZeroT Tryz.prog 17 [(.pointer none)] := ⟨(.pointer none), fun _ => by kernel_rfl, rfl⟩
instance : AggT Tryz.prog 18 1 := ⟨fun _ => by kernel_rfl, fun _ => by kernel_rfl⟩
instance : ZeroT Tryz.prog 18 [(.pointer none)] := ⟨.agg #[(.pointer none)], fun _ => by kernel_rfl, rfl⟩
instance : FieldT Tryz.prog 18 0 0 17 1 := ⟨⟨_, _, Tryz.underlying18, rfl, rfl, rfl⟩, fun _ => by kernel_rfl, by decide⟩
instance : StructT Tryz.prog 18 [(0, 1)] [(.pointer none)] := ⟨⟨_, Tryz.underlying18, fun _ => by kernel_rfl⟩, inferInstance⟩
instance : AggT Tryz.prog 19 1 := ⟨fun _ => by kernel_rfl, fun _ => by kernel_rfl⟩
instance : ZeroT Tryz.prog 19 [(.pointer none)] := ⟨.agg #[(.pointer none)], fun _ => by kernel_rfl, rfl⟩
instance : FieldT Tryz.prog 19 0 0 17 1 := ⟨⟨_, _, Tryz.underlying19, rfl, rfl, rfl⟩, fun _ => by kernel_rfl, by decide⟩
instance : StructT Tryz.prog 19 [(0, 1)] [(.pointer none)] := ⟨⟨_, Tryz.underlying19, fun _ => by kernel_rfl⟩, inferInstance⟩
instance : CellT Tryz.prog 20 := ⟨fun _ => by kernel_rfl, fun _ => by kernel_rfl⟩
instance : ZeroT Tryz.prog 20 [.nilIface] := ⟨.nilIface, fun _ => by kernel_rfl, rfl⟩
instance : CellT Tryz.prog 21 := ⟨fun _ => by kernel_rfl, fun _ => by kernel_rfl⟩
instance : ZeroT Tryz.prog 21 [(.int .i32 0)] := ⟨(.int .i32 0), fun _ => by kernel_rfl, rfl⟩
instance : CellT Tryz.prog 22 := ⟨fun _ => by kernel_rfl, fun _ => by kernel_rfl⟩
instance : ZeroT Tryz.prog 22 [(.slice none 0 0)] := ⟨(.slice none 0 0), fun _ => by kernel_rfl, rfl⟩
instance : SlT Tryz.prog 22 5 1 1 := ⟨Tryz.underlying22, ⟨_, rfl, rfl, rfl⟩⟩
instance : MkT Tryz.prog 22 5 1 1 [(.int .u8 0)] := ⟨Tryz.underlying22, ⟨_, _, rfl, rfl, rfl, rfl, rfl⟩⟩
instance : CellT Tryz.prog 23 := ⟨fun _ => by kernel_rfl, fun _ => by kernel_rfl⟩
instance : ZeroT Tryz.prog 23 [.nilFunc] := ⟨.nilFunc, fun _ => by kernel_rfl, rfl⟩
instance : CellT Tryz.prog 24 := ⟨fun _ => by kernel_rfl, fun _ => by kernel_rfl⟩
instance : ZeroT Tryz.prog 24 [(.slice none 0 0)] := ⟨(.slice none 0 0), fun _ => by kernel_rfl, rfl⟩
instance : SlT Tryz.prog 24 62 2 32 := ⟨Tryz.underlying24, ⟨_, rfl, rfl, rfl⟩⟩
instance : MkT Tryz.prog 24 62 2 32 [(.int .i64 0), (.slice none 0 0)] := ⟨Tryz.underlying24, ⟨_, _, rfl, rfl, rfl, rfl, rfl⟩⟩
instance : AggT Tryz.prog 25 2 := ⟨fun _ => by kernel_rfl, fun _ => by kernel_rfl⟩
instance : ZeroT Tryz.prog 25 [(.int .i64 0), (.slice none 0 0)] := ⟨.agg #[(.int .i64 0), (.slice none 0 0)], fun _ => by kernel_rfl, rfl⟩
instance : FieldT Tryz.prog 25 0 0 3 1 := ⟨⟨_, _, Tryz.underlying25, rfl, rfl, rfl⟩, fun _ => by kernel_rfl, by decide⟩
instance : FieldT Tryz.prog 25 1 1 24 1 := ⟨⟨_, _, Tryz.underlying25, rfl, rfl, rfl⟩, fun _ => by kernel_rfl, by decide⟩
instance : StructT Tryz.prog 25 [(0, 1), (1, 1)] [(.int .i64 0), (.slice none 0 0)] := ⟨⟨_, Tryz.underlying25, fun _ => by kernel_rfl⟩, inferInstance⟩
instance : AggT Tryz.prog 26 2 := ⟨fun _ => by kernel_rfl, fun _ => by kernel_rfl⟩
instance : ZeroT Tryz.prog 26 [(.int .i64 0), (.slice none 0 0)] := ⟨.agg #[(.int .i64 0), (.slice none 0 0)], fun _ => by kernel_rfl, rfl⟩
instance : FieldT Tryz.prog 26 0 0 3 1 := ⟨⟨_, _, Tryz.underlying26, rfl, rfl, rfl⟩, fun _ => by kernel_rfl, by decide⟩
instance : FieldT Tryz.prog 26 1 1 24 1 := ⟨⟨_, _, Tryz.underlying26, rfl, rfl, rfl⟩, fun _ => by kernel_rfl, by decide⟩
instance : StructT Tryz.prog 26 [(0, 1), (1, 1)] [(.int .i64 0), (.slice none 0 0)] := ⟨⟨_, Tryz.underlying26, fun _ => by kernel_rfl⟩, inferInstance⟩
instance : CellT Tryz.prog 27 := ⟨fun _ => by kernel_rfl, fun _ => by kernel_rfl⟩
instance : ZeroT Tryz.prog 27 [.nilFunc] := ⟨.nilFunc, fun _ => by kernel_rfl, rfl⟩
instance : CellT Tryz.prog 28 := ⟨fun _ => by kernel_rfl, fun _ => by kernel_rfl⟩
instance : ZeroT Tryz.prog 28 [(.slice none 0 0)] := ⟨(.slice none 0 0), fun _ => by kernel_rfl, rfl⟩
instance : SlT Tryz.prog 28 34 1 24 := ⟨Tryz.underlying28, ⟨_, rfl, rfl, rfl⟩⟩
instance : MkT Tryz.prog 28 34 1 24 [(.slice none 0 0)] := ⟨Tryz.underlying28, ⟨_, _, rfl, rfl, rfl, rfl, rfl⟩⟩
instance : CellT Tryz.prog 30 := ⟨fun _ => by kernel_rfl, fun _ => by kernel_rfl⟩
instance : ZeroT Tryz.prog 30 [.nilFunc] := ⟨.nilFunc, fun _ => by kernel_rfl, rfl⟩
instance : CellT Tryz.prog 31 := ⟨fun _ => by kernel_rfl, fun _ => by kernel_rfl⟩
instance : ZeroT Tryz.prog 31 [.nilFunc] := ⟨.nilFunc, fun _ => by kernel_rfl, rfl⟩
instance : AggT Tryz.prog 32 1 := ⟨fun _ => by kernel_rfl, fun _ => by kernel_rfl⟩
instance : ZeroT Tryz.prog 32 [(.slice none 0 0)] := ⟨.agg #[(.slice none 0 0)], fun _ => by kernel_rfl, rfl⟩
instance : FieldT Tryz.prog 32 0 0 28 1 := ⟨⟨_, _, Tryz.underlying32, rfl, rfl, rfl⟩, fun _ => by kernel_rfl, by decide⟩
instance : StructT Tryz.prog 32 [(0, 1)] [(.slice none 0 0)] := ⟨⟨_, Tryz.underlying32, fun _ => by kernel_rfl⟩, inferInstance⟩
instance : AggT Tryz.prog 33 1 := ⟨fun _ => by kernel_rfl, fun _ => by kernel_rfl⟩
instance : ZeroT Tryz.prog 33 [(.slice none 0 0)] := ⟨.agg #[(.slice none 0 0)], fun _ => by kernel_rfl, rfl⟩
instance : FieldT Tryz.prog 33 0 0 28 1 := ⟨⟨_, _, Tryz.underlying33, rfl, rfl, rfl⟩, fun _ => by kernel_rfl, by decide⟩
instance : StructT Tryz.prog 33 [(0, 1)] [(.slice none 0 0)] := ⟨⟨_, Tryz.underlying33, fun _ => by kernel_rfl⟩, inferInstance⟩
instance : CellT Tryz.prog 34 := ⟨fun _ => by kernel_rfl, fun _ => by kernel_rfl⟩
instance : ZeroT Tryz.prog 34 [(.slice none 0 0)] := ⟨(.slice none 0 0), fun _ => by kernel_rfl, rfl⟩
instance : SlT Tryz.prog 34 3 1 8 := ⟨Tryz.underlying34, ⟨_, rfl, rfl, rfl⟩⟩
instance : MkT Tryz.prog 34 3 1 8 [(.int .i64 0)] := ⟨Tryz.underlying34, ⟨_, _, rfl, rfl, rfl, rfl, rfl⟩⟩
instance : CellT Tryz.prog 36 := ⟨fun _ => by kernel_rfl, fun _ => by kernel_rfl⟩
instance : ZeroT Tryz.prog 36 [.nilFunc] := ⟨.nilFunc, fun _ => by kernel_rfl, rfl⟩
instance : CellT Tryz.prog 37 := ⟨fun _ => by kernel_rfl, fun _ => by kernel_rfl⟩
instance : ZeroT Tryz.prog 37 [.nilFunc] := ⟨.nilFunc, fun _ => by kernel_rfl, rfl⟩
instance : CellT Tryz.prog 39 := ⟨fun _ => by kernel_rfl, fun _ => by kernel_rfl⟩
instance : ZeroT Tryz.prog 39 [.nilFunc] := ⟨.nilFunc, fun _ => by kernel_rfl, rfl⟩
instance : CellT Tryz.prog 41 := ⟨fun _ => by kernel_rfl, fun _ => by kernel_rfl⟩
instance : ZeroT Tryz.prog 41 [.nilFunc] := ⟨.nilFunc, fun _ => by kernel_rfl, rfl⟩
instance : CellT Tryz.prog 42 := ⟨fun _ => by kernel_rfl, fun _ => by kernel_rfl⟩
instance : ZeroT Tryz.prog 42 [.nilFunc] := ⟨.nilFunc, fun _ => by kernel_rfl, rfl⟩
instance : CellT Tryz.prog 43 := ⟨fun _ => by kernel_rfl, fun _ => by kernel_rfl⟩
instance : ZeroT Tryz.prog 43 [.nilFunc] := ⟨.nilFunc, fun _ => by kernel_rfl, rfl⟩
instance : CellT Tryz.prog 45 := ⟨fun _ => by kernel_rfl, fun _ => by kernel_rfl⟩
instance : ZeroT Tryz.prog 45 [.nilFunc] := ⟨.nilFunc, fun _ => by kernel_rfl, rfl⟩
instance : CellT Tryz.prog 47 := ⟨fun _ => by kernel_rfl, fun _ => by kernel_rfl⟩
instance : ZeroT Tryz.prog 47 [.nilFunc] := ⟨.nilFunc, fun _ => by kernel_rfl, rfl⟩
instance : CellT Tryz.prog 48 := ⟨fun _ => by kernel_rfl, fun _ => by kernel_rfl⟩
instance : ZeroT Tryz.prog 48 [.nilFunc] := ⟨.nilFunc, fun _ => by kernel_rfl, rfl⟩
instance : CellT Tryz.prog 49 := ⟨fun _ => by kernel_rfl, fun _ => by kernel_rfl⟩
instance : ZeroT Tryz.prog 49 [.nilFunc] := ⟨.nilFunc, fun _ => by kernel_rfl, rfl⟩
instance : CellT Tryz.prog 50 := ⟨fun _ => by kernel_rfl, fun _ => by kernel_rfl⟩
instance : ZeroT Tryz.prog 50 [.nilFunc] := ⟨.nilFunc, fun _ => by kernel_rfl, rfl⟩
instance : CellT Tryz.prog 51 := ⟨fun _ => by kernel_rfl, fun _ => by kernel_rfl⟩
instance : ZeroT Tryz.prog 51 [.nilFunc] := ⟨.nilFunc, fun _ => by kernel_rfl, rfl⟩
instance : CellT Tryz.prog 52 := ⟨fun _ => by kernel_rfl, fun _ => by kernel_rfl⟩
instance : ZeroT Tryz.prog 52 [.nilFunc] := ⟨.nilFunc, fun _ => by kernel_rfl, rfl⟩
instance : CellT Tryz.prog 53 := ⟨fun _ => by kernel_rfl, fun _ => by kernel_rfl⟩
instance : ZeroT Tryz.prog 53 [.nilFunc] := ⟨.nilFunc, fun _ => by kernel_rfl, rfl⟩
instance : CellT Tryz.prog 54 := ⟨fun _ => by kernel_rfl, fun _ => by kernel_rfl⟩
instance : ZeroT Tryz.prog 54 [.nilFunc] := ⟨.nilFunc, fun _ => by kernel_rfl, rfl⟩
instance : CellT Tryz.prog 55 := ⟨fun _ => by kernel_rfl, fun _ => by kernel_rfl⟩
instance : ZeroT Tryz.prog 55 [(.slice none 0 0)] := ⟨(.slice none 0 0), fun _ => by kernel_rfl, rfl⟩
instance : SlT Tryz.prog 55 26 2 32 := ⟨Tryz.underlying55, ⟨_, rfl, rfl, rfl⟩⟩
instance : MkT Tryz.prog 55 26 2 32 [(.int .i64 0), (.slice none 0 0)] := ⟨Tryz.underlying55, ⟨_, _, rfl, rfl, rfl, rfl, rfl⟩⟩
instance : CellT Tryz.prog 57 := ⟨fun _ => by kernel_rfl, fun _ => by kernel_rfl⟩
instance : ZeroT Tryz.prog 57 [.nilFunc] := ⟨.nilFunc, fun _ => by kernel_rfl, rfl⟩
instance : CellT Tryz.prog 58 := ⟨fun _ => by kernel_rfl, fun _ => by kernel_rfl⟩
instance : ZeroT Tryz.prog 58 [.nilFunc] := ⟨.nilFunc, fun _ => by kernel_rfl, rfl⟩
instance : CellT Tryz.prog 59 := ⟨fun _ => by kernel_rfl, fun _ => by kernel_rfl⟩
instance : ZeroT Tryz.prog 59 [.nilFunc] := ⟨.nilFunc, fun _ => by kernel_rfl, rfl⟩
instance : CellT Tryz.prog 60 := ⟨fun _ => by kernel_rfl, fun _ => by kernel_rfl⟩
instance : ZeroT Tryz.prog 60 [.nilFunc] := ⟨.nilFunc, fun _ => by kernel_rfl, rfl⟩
instance : AggT Tryz.prog 61 2 := ⟨fun _ => by kernel_rfl, fun _ => by kernel_rfl⟩
instance : ZeroT Tryz.prog 61 [(.int .i64 0), (.slice none 0 0)] := ⟨.agg #[(.int .i64 0), (.slice none 0 0)], fun _ => by kernel_rfl, rfl⟩
instance : FieldT Tryz.prog 61 0 0 3 1 := ⟨⟨_, _, Tryz.underlying61, rfl, rfl, rfl⟩, fun _ => by kernel_rfl, by decide⟩
instance : FieldT Tryz.prog 61 1 1 34 1 := ⟨⟨_, _, Tryz.underlying61, rfl, rfl, rfl⟩, fun _ => by kernel_rfl, by decide⟩
instance : StructT Tryz.prog 61 [(0, 1), (1, 1)] [(.int .i64 0), (.slice none 0 0)] := ⟨⟨_, Tryz.underlying61, fun _ => by kernel_rfl⟩, inferInstance⟩
instance : AggT Tryz.prog 62 2 := ⟨fun _ => by kernel_rfl, fun _ => by kernel_rfl⟩
instance : ZeroT Tryz.prog 62 [(.int .i64 0), (.slice none 0 0)] := ⟨.agg #[(.int .i64 0), (.slice none 0 0)], fun _ => by kernel_rfl, rfl⟩
instance : FieldT Tryz.prog 62 0 0 3 1 := ⟨⟨_, _, Tryz.underlying62, rfl, rfl, rfl⟩, fun _ => by kernel_rfl, by decide⟩
instance : FieldT Tryz.prog 62 1 1 34 1 := ⟨⟨_, _, Tryz.underlying62, rfl, rfl, rfl⟩, fun _ => by kernel_rfl, by decide⟩
instance : StructT Tryz.prog 62 [(0, 1), (1, 1)] [(.int .i64 0), (.slice none 0 0)] := ⟨⟨_, Tryz.underlying62, fun _ => by kernel_rfl⟩, inferInstance⟩
instance : CellT Tryz.prog 63 := ⟨fun _ => by kernel_rfl, fun _ => by kernel_rfl⟩
instance : ZeroT Tryz.prog 63 [.nilFunc] := ⟨.nilFunc, fun _ => by kernel_rfl, rfl⟩
instance : CellT Tryz.prog 65 := ⟨fun _ => by kernel_rfl, fun _ => by kernel_rfl⟩
instance : ZeroT Tryz.prog 65 [.nilFunc] := ⟨.nilFunc, fun _ => by kernel_rfl, rfl⟩
instance : CellT Tryz.prog 66 := ⟨fun _ => by kernel_rfl, fun _ => by kernel_rfl⟩
instance : ZeroT Tryz.prog 66 [.nilFunc] := ⟨.nilFunc, fun _ => by kernel_rfl, rfl⟩
instance : CellT Tryz.prog 67 := ⟨fun _ => by kernel_rfl, fun _ => by kernel_rfl⟩
instance : ZeroT Tryz.prog 67 [.nilFunc] := ⟨.nilFunc, fun _ => by kernel_rfl, rfl⟩
instance : CellT Tryz.prog 68 := ⟨fun _ => by kernel_rfl, fun _ => by kernel_rfl⟩
instance : ZeroT Tryz.prog 68 [(.slice none 0 0)] := ⟨(.slice none 0 0), fun _ => by kernel_rfl, rfl⟩
instance : SlT Tryz.prog 68 71 2 16 := ⟨Tryz.underlying68, ⟨_, rfl, rfl, rfl⟩⟩
instance : MkT Tryz.prog 68 71 2 16 [(.int .i64 0), (.int .i64 0)] := ⟨Tryz.underlying68, ⟨_, _, rfl, rfl, rfl, rfl, rfl⟩⟩
instance : CellT Tryz.prog 70 := ⟨fun _ => by kernel_rfl, fun _ => by kernel_rfl⟩
instance : ZeroT Tryz.prog 70 [.nilFunc] := ⟨.nilFunc, fun _ => by kernel_rfl, rfl⟩
instance : AggT Tryz.prog 71 2 := ⟨fun _ => by kernel_rfl, fun _ => by kernel_rfl⟩
instance : ZeroT Tryz.prog 71 [(.int .i64 0), (.int .i64 0)] := ⟨.agg #[(.int .i64 0), (.int .i64 0)], fun _ => by kernel_rfl, rfl⟩
instance : ArrT Tryz.prog 71 2 3 1 := ⟨Tryz.underlying71, fun _ => by kernel_rfl⟩
instance : CellT Tryz.prog 72 := ⟨fun _ => by kernel_rfl, fun _ => by kernel_rfl⟩
instance : ZeroT Tryz.prog 72 [.nilFunc] := ⟨.nilFunc, fun _ => by kernel_rfl, rfl⟩
instance : CellT Tryz.prog 73 := ⟨fun _ => by kernel_rfl, fun _ => by kernel_rfl⟩
instance : ZeroT Tryz.prog 73 [.nilFunc] := ⟨.nilFunc, fun _ => by kernel_rfl, rfl⟩
instance : CellT Tryz.prog 74 := ⟨fun _ => by kernel_rfl, fun _ => by kernel_rfl⟩
instance : ZeroT Tryz.prog 74 [.nilFunc] := ⟨.nilFunc, fun _ => by kernel_rfl, rfl⟩
instance : CellT Tryz.prog 75 := ⟨fun _ => by kernel_rfl, fun _ => by kernel_rfl⟩
instance : ZeroT Tryz.prog 75 [.nilFunc] := ⟨.nilFunc, fun _ => by kernel_rfl, rfl⟩
instance : CellT Tryz.prog 77 := ⟨fun _ => by kernel_rfl, fun _ => by kernel_rfl⟩
instance : ZeroT Tryz.prog 77 [.nilFunc] := ⟨.nilFunc, fun _ => by kernel_rfl, rfl⟩
instance : CellT Tryz.prog 79 := ⟨fun _ => by kernel_rfl, fun _ => by kernel_rfl⟩
instance : ZeroT Tryz.prog 79 [.nilFunc] := ⟨.nilFunc, fun _ => by kernel_rfl, rfl⟩
instance : CellT Tryz.prog 80 := ⟨fun _ => by kernel_rfl, fun _ => by kernel_rfl⟩
instance : ZeroT Tryz.prog 80 [.nilFunc] := ⟨.nilFunc, fun _ => by kernel_rfl, rfl⟩
instance : CellT Tryz.prog 81 := ⟨fun _ => by kernel_rfl, fun _ => by kernel_rfl⟩
instance : ZeroT Tryz.prog 81 [.nilFunc] := ⟨.nilFunc, fun _ => by kernel_rfl, rfl⟩
instance : AggT Tryz.prog 82 2 := ⟨fun _ => by kernel_rfl, fun _ => by kernel_rfl⟩
instance : ZeroT Tryz.prog 82 [(.slice none 0 0), (.slice none 0 0)] := ⟨.agg #[(.slice none 0 0), (.slice none 0 0)], fun _ => by kernel_rfl, rfl⟩
instance : FieldT Tryz.prog 82 0 0 34 1 := ⟨⟨_, _, Tryz.underlying82, rfl, rfl, rfl⟩, fun _ => by kernel_rfl, by decide⟩
instance : FieldT Tryz.prog 82 1 1 34 1 := ⟨⟨_, _, Tryz.underlying82, rfl, rfl, rfl⟩, fun _ => by kernel_rfl, by decide⟩
instance : StructT Tryz.prog 82 [(0, 1), (1, 1)] [(.slice none 0 0), (.slice none 0 0)] := ⟨⟨_, Tryz.underlying82, fun _ => by kernel_rfl⟩, inferInstance⟩
instance : AggT Tryz.prog 83 2 := ⟨fun _ => by kernel_rfl, fun _ => by kernel_rfl⟩
instance : ZeroT Tryz.prog 83 [(.slice none 0 0), (.slice none 0 0)] := ⟨.agg #[(.slice none 0 0), (.slice none 0 0)], fun _ => by kernel_rfl, rfl⟩
instance : FieldT Tryz.prog 83 0 0 34 1 := ⟨⟨_, _, Tryz.underlying83, rfl, rfl, rfl⟩, fun _ => by kernel_rfl, by decide⟩
instance : FieldT Tryz.prog 83 1 1 34 1 := ⟨⟨_, _, Tryz.underlying83, rfl, rfl, rfl⟩, fun _ => by kernel_rfl, by decide⟩
instance : StructT Tryz.prog 83 [(0, 1), (1, 1)] [(.slice none 0 0), (.slice none 0 0)] := ⟨⟨_, Tryz.underlying83, fun _ => by kernel_rfl⟩, inferInstance⟩
instance : CellT Tryz.prog 85 := ⟨fun _ => by kernel_rfl, fun _ => by kernel_rfl⟩
instance : ZeroT Tryz.prog 85 [.nilFunc] := ⟨.nilFunc, fun _ => by kernel_rfl, rfl⟩
instance : CellT Tryz.prog 86 := ⟨fun _ => by kernel_rfl, fun _ => by kernel_rfl⟩
instance : ZeroT Tryz.prog 86 [.nilFunc] := ⟨.nilFunc, fun _ => by kernel_rfl, rfl⟩
instance : CellT Tryz.prog 88 := ⟨fun _ => by kernel_rfl, fun _ => by kernel_rfl⟩
instance : ZeroT Tryz.prog 88 [.nilFunc] := ⟨.nilFunc, fun _ => by kernel_rfl, rfl⟩
instance : CellT Tryz.prog 89 := ⟨fun _ => by kernel_rfl, fun _ => by kernel_rfl⟩
instance : ZeroT Tryz.prog 89 [.nilFunc] := ⟨.nilFunc, fun _ => by kernel_rfl, rfl⟩
instance : CellT Tryz.prog 91 := ⟨fun _ => by kernel_rfl, fun _ => by kernel_rfl⟩
instance : ZeroT Tryz.prog 91 [.nilFunc] := ⟨.nilFunc, fun _ => by kernel_rfl, rfl⟩
instance : CellT Tryz.prog 92 := ⟨fun _ => by kernel_rfl, fun _ => by kernel_rfl⟩
instance : ZeroT Tryz.prog 92 [(.slice none 0 0)] := ⟨(.slice none 0 0), fun _ => by kernel_rfl, rfl⟩
instance : SlT Tryz.prog 92 28 1 24 := ⟨Tryz.underlying92, ⟨_, rfl, rfl, rfl⟩⟩
instance : MkT Tryz.prog 92 28 1 24 [(.slice none 0 0)] := ⟨Tryz.underlying92, ⟨_, _, rfl, rfl, rfl, rfl, rfl⟩⟩
instance : CellT Tryz.prog 94 := ⟨fun _ => by kernel_rfl, fun _ => by kernel_rfl⟩
instance : ZeroT Tryz.prog 94 [.nilFunc] := ⟨.nilFunc, fun _ => by kernel_rfl, rfl⟩
instance : CellT Tryz.prog 95 := ⟨fun _ => by kernel_rfl, fun _ => by kernel_rfl⟩
instance : ZeroT Tryz.prog 95 [.nilFunc] := ⟨.nilFunc, fun _ => by kernel_rfl, rfl⟩
instance : CellT Tryz.prog 97 := ⟨fun _ => by kernel_rfl, fun _ => by kernel_rfl⟩
instance : ZeroT Tryz.prog 97 [.nilFunc] := ⟨.nilFunc, fun _ => by kernel_rfl, rfl⟩
instance : CellT Tryz.prog 98 := ⟨fun _ => by kernel_rfl, fun _ => by kernel_rfl⟩
instance : ZeroT Tryz.prog 98 [.nilFunc] := ⟨.nilFunc, fun _ => by kernel_rfl, rfl⟩
instance : CellT Tryz.prog 99 := ⟨fun _ => by kernel_rfl, fun _ => by kernel_rfl⟩
instance : ZeroT Tryz.prog 99 [.nilFunc] := ⟨.nilFunc, fun _ => by kernel_rfl, rfl⟩
instance : CellT Tryz.prog 100 := ⟨fun _ => by kernel_rfl, fun _ => by kernel_rfl⟩
instance : ZeroT Tryz.prog 100 [.nilFunc] := ⟨.nilFunc, fun _ => by kernel_rfl, rfl⟩
instance : CellT Tryz.prog 101 := ⟨fun _ => by kernel_rfl, fun _ => by kernel_rfl⟩
instance : ZeroT Tryz.prog 101 [(.pointer none)] := ⟨(.pointer none), fun _ => by kernel_rfl, rfl⟩
instance : CellT Tryz.prog 103 := ⟨fun _ => by kernel_rfl, fun _ => by kernel_rfl⟩
instance : ZeroT Tryz.prog 103 [.nilFunc] := ⟨.nilFunc, fun _ => by kernel_rfl, rfl⟩
instance : CellT Tryz.prog 104 := ⟨fun _ => by kernel_rfl, fun _ => by kernel_rfl⟩
instance : ZeroT Tryz.prog 104 [.nilFunc] := ⟨.nilFunc, fun _ => by kernel_rfl, rfl⟩
instance : CellT Tryz.prog 105 := ⟨fun _ => by kernel_rfl, fun _ => by kernel_rfl⟩
instance : ZeroT Tryz.prog 105 [(.slice none 0 0)] := ⟨(.slice none 0 0), fun _ => by kernel_rfl, rfl⟩
instance : SlT Tryz.prog 105 179 1 24 := ⟨Tryz.underlying105, ⟨_, rfl, rfl, rfl⟩⟩
instance : MkT Tryz.prog 105 179 1 24 [(.slice none 0 0)] := ⟨Tryz.underlying105, ⟨_, _, rfl, rfl, rfl, rfl, rfl⟩⟩
instance : CellT Tryz.prog 106 := ⟨fun _ => by kernel_rfl, fun _ => by kernel_rfl⟩
instance : ZeroT Tryz.prog 106 [(.slice none 0 0)] := ⟨(.slice none 0 0), fun _ => by kernel_rfl, rfl⟩
instance : SlT Tryz.prog 106 179 1 24 := ⟨Tryz.underlying106, ⟨_, rfl, rfl, rfl⟩⟩
instance : MkT Tryz.prog 106 179 1 24 [(.slice none 0 0)] := ⟨Tryz.underlying106, ⟨_, _, rfl, rfl, rfl, rfl, rfl⟩⟩
instance : AggT Tryz.prog 107 3 := ⟨fun _ => by kernel_rfl, fun _ => by kernel_rfl⟩
instance : ZeroT Tryz.prog 107 [(.slice none 0 0), (.slice none 0 0), (.slice none 0 0)] := ⟨.agg #[(.slice none 0 0), (.slice none 0 0), (.slice none 0 0)], fun _ => by kernel_rfl, rfl⟩
instance : FieldT Tryz.prog 107 0 0 106 1 := ⟨⟨_, _, Tryz.underlying107, rfl, rfl, rfl⟩, fun _ => by kernel_rfl, by decide⟩
instance : FieldT Tryz.prog 107 1 1 28 1 := ⟨⟨_, _, Tryz.underlying107, rfl, rfl, rfl⟩, fun _ => by kernel_rfl, by decide⟩
instance : FieldT Tryz.prog 107 2 2 28 1 := ⟨⟨_, _, Tryz.underlying107, rfl, rfl, rfl⟩, fun _ => by kernel_rfl, by decide⟩
instance : StructT Tryz.prog 107 [(0, 1), (1, 1), (2, 1)] [(.slice none 0 0), (.slice none 0 0), (.slice none 0 0)] := ⟨⟨_, Tryz.underlying107, fun _ => by kernel_rfl⟩, inferInstance⟩
instance : AggT Tryz.prog 108 3 := ⟨fun _ => by kernel_rfl, fun _ => by kernel_rfl⟩
instance : ZeroT Tryz.prog 108 [(.slice none 0 0), (.slice none 0 0), (.slice none 0 0)] := ⟨.agg #[(.slice none 0 0), (.slice none 0 0), (.slice none 0 0)], fun _ => by kernel_rfl, rfl⟩
instance : FieldT Tryz.prog 108 0 0 106 1 := ⟨⟨_, _, Tryz.underlying108, rfl, rfl, rfl⟩, fun _ => by kernel_rfl, by decide⟩
instance : FieldT Tryz.prog 108 1 1 28 1 := ⟨⟨_, _, Tryz.underlying108, rfl, rfl, rfl⟩, fun _ => by kernel_rfl, by decide⟩
instance : FieldT Tryz.prog 108 2 2 28 1 := ⟨⟨_, _, Tryz.underlying108, rfl, rfl, rfl⟩, fun _ => by kernel_rfl, by decide⟩
instance : StructT Tryz.prog 108 [(0, 1), (1, 1), (2, 1)] [(.slice none 0 0), (.slice none 0 0), (.slice none 0 0)] := ⟨⟨_, Tryz.underlying108, fun _ => by kernel_rfl⟩, inferInstance⟩
instance : CellT Tryz.prog 109 := ⟨fun _ => by kernel_rfl, fun _ => by kernel_rfl⟩
instance : ZeroT Tryz.prog 109 [.nilFunc] := ⟨.nilFunc, fun _ => by kernel_rfl, rfl⟩
instance : CellT Tryz.prog 110 := ⟨fun _ => by kernel_rfl, fun _ => by kernel_rfl⟩
instance : ZeroT Tryz.prog 110 [.nilFunc] := ⟨.nilFunc, fun _ => by kernel_rfl, rfl⟩
instance : CellT Tryz.prog 111 := ⟨fun _ => by kernel_rfl, fun _ => by kernel_rfl⟩
instance : ZeroT Tryz.prog 111 [.nilFunc] := ⟨.nilFunc, fun _ => by kernel_rfl, rfl⟩
instance : CellT Tryz.prog 112 := ⟨fun _ => by kernel_rfl, fun _ => by kernel_rfl⟩
instance : ZeroT Tryz.prog 112 [.nilFunc] := ⟨.nilFunc, fun _ => by kernel_rfl, rfl⟩
instance : CellT Tryz.prog 113 := ⟨fun _ => by kernel_rfl, fun _ => by kernel_rfl⟩
instance : ZeroT Tryz.prog 113 [.nilFunc] := ⟨.nilFunc, fun _ => by kernel_rfl, rfl⟩
instance : CellT Tryz.prog 114 := ⟨fun _ => by kernel_rfl, fun _ => by kernel_rfl⟩
instance : ZeroT Tryz.prog 114 [.nilFunc] := ⟨.nilFunc, fun _ => by kernel_rfl, rfl⟩
instance : CellT Tryz.prog 115 := ⟨fun _ => by kernel_rfl, fun _ => by kernel_rfl⟩
instance : ZeroT Tryz.prog 115 [.nilFunc] := ⟨.nilFunc, fun _ => by kernel_rfl, rfl⟩
instance : CellT Tryz.prog 116 := ⟨fun _ => by kernel_rfl, fun _ => by kernel_rfl⟩
instance : ZeroT Tryz.prog 116 [.nilFunc] := ⟨.nilFunc, fun _ => by kernel_rfl, rfl⟩
instance : CellT Tryz.prog 117 := ⟨fun _ => by kernel_rfl, fun _ => by kernel_rfl⟩
instance : ZeroT Tryz.prog 117 [.nilFunc] := ⟨.nilFunc, fun _ => by kernel_rfl, rfl⟩
instance : CellT Tryz.prog 118 := ⟨fun _ => by kernel_rfl, fun _ => by kernel_rfl⟩
instance : ZeroT Tryz.prog 118 [.nilFunc] := ⟨.nilFunc, fun _ => by kernel_rfl, rfl⟩
instance : CellT Tryz.prog 119 := ⟨fun _ => by kernel_rfl, fun _ => by kernel_rfl⟩
instance : ZeroT Tryz.prog 119 [.nilFunc] := ⟨.nilFunc, fun _ => by kernel_rfl, rfl⟩
instance : CellT Tryz.prog 120 := ⟨fun _ => by kernel_rfl, fun _ => by kernel_rfl⟩
instance : ZeroT Tryz.prog 120 [.nilFunc] := ⟨.nilFunc, fun _ => by kernel_rfl, rfl⟩
instance : CellT Tryz.prog 121 := ⟨fun _ => by kernel_rfl, fun _ => by kernel_rfl⟩
instance : ZeroT Tryz.prog 121 [.nilFunc] := ⟨.nilFunc, fun _ => by kernel_rfl, rfl⟩
instance : CellT Tryz.prog 122 := ⟨fun _ => by kernel_rfl, fun _ => by kernel_rfl⟩
instance : ZeroT Tryz.prog 122 [.nilFunc] := ⟨.nilFunc, fun _ => by kernel_rfl, rfl⟩
instance : CellT Tryz.prog 123 := ⟨fun _ => by kernel_rfl, fun _ => by kernel_rfl⟩
instance : ZeroT Tryz.prog 123 [.nilFunc] := ⟨.nilFunc, fun _ => by kernel_rfl, rfl⟩
instance : CellT Tryz.prog 124 := ⟨fun _ => by kernel_rfl, fun _ => by kernel_rfl⟩
instance : ZeroT Tryz.prog 124 [.nilFunc] := ⟨.nilFunc, fun _ => by kernel_rfl, rfl⟩
instance : CellT Tryz.prog 125 := ⟨fun _ => by kernel_rfl, fun _ => by kernel_rfl⟩
instance : ZeroT Tryz.prog 125 [.nilFunc] := ⟨.nilFunc, fun _ => by kernel_rfl, rfl⟩
instance : CellT Tryz.prog 126 := ⟨fun _ => by kernel_rfl, fun _ => by kernel_rfl⟩
instance : ZeroT Tryz.prog 126 [.nilFunc] := ⟨.nilFunc, fun _ => by kernel_rfl, rfl⟩
instance : CellT Tryz.prog 127 := ⟨fun _ => by kernel_rfl, fun _ => by kernel_rfl⟩
instance : ZeroT Tryz.prog 127 [.nilFunc] := ⟨.nilFunc, fun _ => by kernel_rfl, rfl⟩
instance : CellT Tryz.prog 128 := ⟨fun _ => by kernel_rfl, fun _ => by kernel_rfl⟩
instance : ZeroT Tryz.prog 128 [.nilFunc] := ⟨.nilFunc, fun _ => by kernel_rfl, rfl⟩
instance : CellT Tryz.prog 129 := ⟨fun _ => by kernel_rfl, fun _ => by kernel_rfl⟩
instance : ZeroT Tryz.prog 129 [.nilFunc] := ⟨.nilFunc, fun _ => by kernel_rfl, rfl⟩
instance : CellT Tryz.prog 130 := ⟨fun _ => by kernel_rfl, fun _ => by kernel_rfl⟩
instance : ZeroT Tryz.prog 130 [.nilFunc] := ⟨.nilFunc, fun _ => by kernel_rfl, rfl⟩
instance : CellT Tryz.prog 131 := ⟨fun _ => by kernel_rfl, fun _ => by kernel_rfl⟩
instance : ZeroT Tryz.prog 131 [.nilFunc] := ⟨.nilFunc, fun _ => by kernel_rfl, rfl⟩
instance : CellT Tryz.prog 132 := ⟨fun _ => by kernel_rfl, fun _ => by kernel_rfl⟩
instance : ZeroT Tryz.prog 132 [.nilFunc] := ⟨.nilFunc, fun _ => by kernel_rfl, rfl⟩
instance : CellT Tryz.prog 133 := ⟨fun _ => by kernel_rfl, fun _ => by kernel_rfl⟩
instance : ZeroT Tryz.prog 133 [.nilFunc] := ⟨.nilFunc, fun _ => by kernel_rfl, rfl⟩
instance : CellT Tryz.prog 134 := ⟨fun _ => by kernel_rfl, fun _ => by kernel_rfl⟩
instance : ZeroT Tryz.prog 134 [.nilFunc] := ⟨.nilFunc, fun _ => by kernel_rfl, rfl⟩
instance : CellT Tryz.prog 135 := ⟨fun _ => by kernel_rfl, fun _ => by kernel_rfl⟩
instance : ZeroT Tryz.prog 135 [.nilFunc] := ⟨.nilFunc, fun _ => by kernel_rfl, rfl⟩
instance : CellT Tryz.prog 136 := ⟨fun _ => by kernel_rfl, fun _ => by kernel_rfl⟩
instance : ZeroT Tryz.prog 136 [.nilFunc] := ⟨.nilFunc, fun _ => by kernel_rfl, rfl⟩
instance : CellT Tryz.prog 137 := ⟨fun _ => by kernel_rfl, fun _ => by kernel_rfl⟩
instance : ZeroT Tryz.prog 137 [.nilFunc] := ⟨.nilFunc, fun _ => by kernel_rfl, rfl⟩
instance : CellT Tryz.prog 139 := ⟨fun _ => by kernel_rfl, fun _ => by kernel_rfl⟩
instance : ZeroT Tryz.prog 139 [.nilFunc] := ⟨.nilFunc, fun _ => by kernel_rfl, rfl⟩
instance : CellT Tryz.prog 140 := ⟨fun _ => by kernel_rfl, fun _ => by kernel_rfl⟩
instance : ZeroT Tryz.prog 140 [.nilFunc] := ⟨.nilFunc, fun _ => by kernel_rfl, rfl⟩
instance : CellT Tryz.prog 142 := ⟨fun _ => by kernel_rfl, fun _ => by kernel_rfl⟩
instance : ZeroT Tryz.prog 142 [.nilFunc] := ⟨.nilFunc, fun _ => by kernel_rfl, rfl⟩
instance : CellT Tryz.prog 143 := ⟨fun _ => by kernel_rfl, fun _ => by kernel_rfl⟩
instance : ZeroT Tryz.prog 143 [.nilFunc] := ⟨.nilFunc, fun _ => by kernel_rfl, rfl⟩
instance : CellT Tryz.prog 144 := ⟨fun _ => by kernel_rfl, fun _ => by kernel_rfl⟩
instance : ZeroT Tryz.prog 144 [.nilFunc] := ⟨.nilFunc, fun _ => by kernel_rfl, rfl⟩
instance : CellT Tryz.prog 145 := ⟨fun _ => by kernel_rfl, fun _ => by kernel_rfl⟩
instance : ZeroT Tryz.prog 145 [.nilFunc] := ⟨.nilFunc, fun _ => by kernel_rfl, rfl⟩
instance : CellT Tryz.prog 146 := ⟨fun _ => by kernel_rfl, fun _ => by kernel_rfl⟩
instance : ZeroT Tryz.prog 146 [.nilFunc] := ⟨.nilFunc, fun _ => by kernel_rfl, rfl⟩
instance : CellT Tryz.prog 147 := ⟨fun _ => by kernel_rfl, fun _ => by kernel_rfl⟩
instance : ZeroT Tryz.prog 147 [.nilFunc] := ⟨.nilFunc, fun _ => by kernel_rfl, rfl⟩
instance : CellT Tryz.prog 148 := ⟨fun _ => by kernel_rfl, fun _ => by kernel_rfl⟩
instance : ZeroT Tryz.prog 148 [.nilFunc] := ⟨.nilFunc, fun _ => by kernel_rfl, rfl⟩
instance : CellT Tryz.prog 149 := ⟨fun _ => by kernel_rfl, fun _ => by kernel_rfl⟩
instance : ZeroT Tryz.prog 149 [.nilFunc] := ⟨.nilFunc, fun _ => by kernel_rfl, rfl⟩
instance : CellT Tryz.prog 150 := ⟨fun _ => by kernel_rfl, fun _ => by kernel_rfl⟩
instance : ZeroT Tryz.prog 150 [(.pointer none)] := ⟨(.pointer none), fun _ => by kernel_rfl, rfl⟩
instance : CellT Tryz.prog 151 := ⟨fun _ => by kernel_rfl, fun _ => by kernel_rfl⟩
instance : ZeroT Tryz.prog 151 [(.int .u64 0)] := ⟨(.int .u64 0), fun _ => by kernel_rfl, rfl⟩
instance : AggT Tryz.prog 152 3 := ⟨fun _ => by kernel_rfl, fun _ => by kernel_rfl⟩
instance : ZeroT Tryz.prog 152 [(.slice none 0 0), (.int .i64 0), (.int .u64 0)] := ⟨.agg #[(.slice none 0 0), (.int .i64 0), (.int .u64 0)], fun _ => by kernel_rfl, rfl⟩
instance : FieldT Tryz.prog 152 0 0 22 1 := ⟨⟨_, _, Tryz.underlying152, rfl, rfl, rfl⟩, fun _ => by kernel_rfl, by decide⟩
instance : FieldT Tryz.prog 152 1 1 3 1 := ⟨⟨_, _, Tryz.underlying152, rfl, rfl, rfl⟩, fun _ => by kernel_rfl, by decide⟩
instance : FieldT Tryz.prog 152 2 2 151 1 := ⟨⟨_, _, Tryz.underlying152, rfl, rfl, rfl⟩, fun _ => by kernel_rfl, by decide⟩
instance : StructT Tryz.prog 152 [(0, 1), (1, 1), (2, 1)] [(.slice none 0 0), (.int .i64 0), (.int .u64 0)] := ⟨⟨_, Tryz.underlying152, fun _ => by kernel_rfl⟩, inferInstance⟩
instance : AggT Tryz.prog 153 3 := ⟨fun _ => by kernel_rfl, fun _ => by kernel_rfl⟩
instance : ZeroT Tryz.prog 153 [(.slice none 0 0), (.int .i64 0), (.int .u64 0)] := ⟨.agg #[(.slice none 0 0), (.int .i64 0), (.int .u64 0)], fun _ => by kernel_rfl, rfl⟩
instance : FieldT Tryz.prog 153 0 0 22 1 := ⟨⟨_, _, Tryz.underlying153, rfl, rfl, rfl⟩, fun _ => by kernel_rfl, by decide⟩
instance : FieldT Tryz.prog 153 1 1 3 1 := ⟨⟨_, _, Tryz.underlying153, rfl, rfl, rfl⟩, fun _ => by kernel_rfl, by decide⟩
instance : FieldT Tryz.prog 153 2 2 151 1 := ⟨⟨_, _, Tryz.underlying153, rfl, rfl, rfl⟩, fun _ => by kernel_rfl, by decide⟩
instance : StructT Tryz.prog 153 [(0, 1), (1, 1), (2, 1)] [(.slice none 0 0), (.int .i64 0), (.int .u64 0)] := ⟨⟨_, Tryz.underlying153, fun _ => by kernel_rfl⟩, inferInstance⟩
instance : CellT Tryz.prog 154 := ⟨fun _ => by kernel_rfl, fun _ => by kernel_rfl⟩
instance : ZeroT Tryz.prog 154 [.nilFunc] := ⟨.nilFunc, fun _ => by kernel_rfl, rfl⟩
instance : CellT Tryz.prog 155 := ⟨fun _ => by kernel_rfl, fun _ => by kernel_rfl⟩
instance : ZeroT Tryz.prog 155 [.nilFunc] := ⟨.nilFunc, fun _ => by kernel_rfl, rfl⟩
instance : CellT Tryz.prog 156 := ⟨fun _ => by kernel_rfl, fun _ => by kernel_rfl⟩
instance : ZeroT Tryz.prog 156 [.nilFunc] := ⟨.nilFunc, fun _ => by kernel_rfl, rfl⟩
instance : CellT Tryz.prog 157 := ⟨fun _ => by kernel_rfl, fun _ => by kernel_rfl⟩
instance : ZeroT Tryz.prog 157 [.nilFunc] := ⟨.nilFunc, fun _ => by kernel_rfl, rfl⟩
instance : CellT Tryz.prog 158 := ⟨fun _ => by kernel_rfl, fun _ => by kernel_rfl⟩
instance : ZeroT Tryz.prog 158 [.nilFunc] := ⟨.nilFunc, fun _ => by kernel_rfl, rfl⟩
instance : CellT Tryz.prog 159 := ⟨fun _ => by kernel_rfl, fun _ => by kernel_rfl⟩
instance : ZeroT Tryz.prog 159 [.nilFunc] := ⟨.nilFunc, fun _ => by kernel_rfl, rfl⟩
instance : CellT Tryz.prog 160 := ⟨fun _ => by kernel_rfl, fun _ => by kernel_rfl⟩
instance : ZeroT Tryz.prog 160 [.nilFunc] := ⟨.nilFunc, fun _ => by kernel_rfl, rfl⟩
instance : CellT Tryz.prog 161 := ⟨fun _ => by kernel_rfl, fun _ => by kernel_rfl⟩
instance : ZeroT Tryz.prog 161 [.nilFunc] := ⟨.nilFunc, fun _ => by kernel_rfl, rfl⟩
instance : CellT Tryz.prog 162 := ⟨fun _ => by kernel_rfl, fun _ => by kernel_rfl⟩
instance : ZeroT Tryz.prog 162 [.nilFunc] := ⟨.nilFunc, fun _ => by kernel_rfl, rfl⟩
instance : CellT Tryz.prog 164 := ⟨fun _ => by kernel_rfl, fun _ => by kernel_rfl⟩
instance : ZeroT Tryz.prog 164 [.nilFunc] := ⟨.nilFunc, fun _ => by kernel_rfl, rfl⟩
instance : CellT Tryz.prog 165 := ⟨fun _ => by kernel_rfl, fun _ => by kernel_rfl⟩
instance : ZeroT Tryz.prog 165 [.nilFunc] := ⟨.nilFunc, fun _ => by kernel_rfl, rfl⟩
instance : CellT Tryz.prog 166 := ⟨fun _ => by kernel_rfl, fun _ => by kernel_rfl⟩
instance : ZeroT Tryz.prog 166 [.nilFunc] := ⟨.nilFunc, fun _ => by kernel_rfl, rfl⟩
instance : CellT Tryz.prog 167 := ⟨fun _ => by kernel_rfl, fun _ => by kernel_rfl⟩
instance : ZeroT Tryz.prog 167 [.nilFunc] := ⟨.nilFunc, fun _ => by kernel_rfl, rfl⟩
instance : CellT Tryz.prog 168 := ⟨fun _ => by kernel_rfl, fun _ => by kernel_rfl⟩
instance : ZeroT Tryz.prog 168 [.nilFunc] := ⟨.nilFunc, fun _ => by kernel_rfl, rfl⟩
instance : CellT Tryz.prog 169 := ⟨fun _ => by kernel_rfl, fun _ => by kernel_rfl⟩
instance : ZeroT Tryz.prog 169 [.nilFunc] := ⟨.nilFunc, fun _ => by kernel_rfl, rfl⟩
instance : CellT Tryz.prog 170 := ⟨fun _ => by kernel_rfl, fun _ => by kernel_rfl⟩
instance : ZeroT Tryz.prog 170 [.nilFunc] := ⟨.nilFunc, fun _ => by kernel_rfl, rfl⟩
instance : CellT Tryz.prog 171 := ⟨fun _ => by kernel_rfl, fun _ => by kernel_rfl⟩
instance : ZeroT Tryz.prog 171 [.nilFunc] := ⟨.nilFunc, fun _ => by kernel_rfl, rfl⟩
instance : CellT Tryz.prog 172 := ⟨fun _ => by kernel_rfl, fun _ => by kernel_rfl⟩
instance : ZeroT Tryz.prog 172 [.nilFunc] := ⟨.nilFunc, fun _ => by kernel_rfl, rfl⟩
instance : CellT Tryz.prog 173 := ⟨fun _ => by kernel_rfl, fun _ => by kernel_rfl⟩
instance : ZeroT Tryz.prog 173 [.nilFunc] := ⟨.nilFunc, fun _ => by kernel_rfl, rfl⟩
instance : CellT Tryz.prog 174 := ⟨fun _ => by kernel_rfl, fun _ => by kernel_rfl⟩
instance : ZeroT Tryz.prog 174 [.nilFunc] := ⟨.nilFunc, fun _ => by kernel_rfl, rfl⟩
instance : CellT Tryz.prog 175 := ⟨fun _ => by kernel_rfl, fun _ => by kernel_rfl⟩
instance : ZeroT Tryz.prog 175 [.nilFunc] := ⟨.nilFunc, fun _ => by kernel_rfl, rfl⟩
instance : CellT Tryz.prog 177 := ⟨fun _ => by kernel_rfl, fun _ => by kernel_rfl⟩
instance : ZeroT Tryz.prog 177 [.nilFunc] := ⟨.nilFunc, fun _ => by kernel_rfl, rfl⟩
instance : CellT Tryz.prog 178 := ⟨fun _ => by kernel_rfl, fun _ => by kernel_rfl⟩
instance : ZeroT Tryz.prog 178 [.nilFunc] := ⟨.nilFunc, fun _ => by kernel_rfl, rfl⟩
instance : CellT Tryz.prog 179 := ⟨fun _ => by kernel_rfl, fun _ => by kernel_rfl⟩
instance : ZeroT Tryz.prog 179 [(.slice none 0 0)] := ⟨(.slice none 0 0), fun _ => by kernel_rfl, rfl⟩
instance : SlT Tryz.prog 179 4 1 1 := ⟨Tryz.underlying179, ⟨_, rfl, rfl, rfl⟩⟩
instance : MkT Tryz.prog 179 4 1 1 [(.bool false)] := ⟨Tryz.underlying179, ⟨_, _, rfl, rfl, rfl, rfl, rfl⟩⟩
instance : CellT Tryz.prog 180 := ⟨fun _ => by kernel_rfl, fun _ => by kernel_rfl⟩
instance : ZeroT Tryz.prog 180 [.nilFunc] := ⟨.nilFunc, fun _ => by kernel_rfl, rfl⟩
instance : CellT Tryz.prog 181 := ⟨fun _ => by kernel_rfl, fun _ => by kernel_rfl⟩
instance : ZeroT Tryz.prog 181 [.nilFunc] := ⟨.nilFunc, fun _ => by kernel_rfl, rfl⟩
instance : CellT Tryz.prog 182 := ⟨fun _ => by kernel_rfl, fun _ => by kernel_rfl⟩
instance : ZeroT Tryz.prog 182 [.nilFunc] := ⟨.nilFunc, fun _ => by kernel_rfl, rfl⟩
instance : CellT Tryz.prog 183 := ⟨fun _ => by kernel_rfl, fun _ => by kernel_rfl⟩
instance : ZeroT Tryz.prog 183 [.nilFunc] := ⟨.nilFunc, fun _ => by kernel_rfl, rfl⟩
instance : CellT Tryz.prog 184 := ⟨fun _ => by kernel_rfl, fun _ => by kernel_rfl⟩
instance : ZeroT Tryz.prog 184 [.nilFunc] := ⟨.nilFunc, fun _ => by kernel_rfl, rfl⟩
instance : CellT Tryz.prog 185 := ⟨fun _ => by kernel_rfl, fun _ => by kernel_rfl⟩
instance : ZeroT Tryz.prog 185 [.nilFunc] := ⟨.nilFunc, fun _ => by kernel_rfl, rfl⟩
instance : CellT Tryz.prog 186 := ⟨fun _ => by kernel_rfl, fun _ => by kernel_rfl⟩
instance : ZeroT Tryz.prog 186 [.nilFunc] := ⟨.nilFunc, fun _ => by kernel_rfl, rfl⟩
instance : CellT Tryz.prog 187 := ⟨fun _ => by kernel_rfl, fun _ => by kernel_rfl⟩
instance : ZeroT Tryz.prog 187 [(.map none)] := ⟨(.map none), fun _ => by kernel_rfl, rfl⟩
instance : CellT Tryz.prog 188 := ⟨fun _ => by kernel_rfl, fun _ => by kernel_rfl⟩
instance : ZeroT Tryz.prog 188 [.nilFunc] := ⟨.nilFunc, fun _ => by kernel_rfl, rfl⟩
instance : AggT Tryz.prog 189 2 := ⟨fun _ => by kernel_rfl, fun _ => by kernel_rfl⟩
instance : ZeroT Tryz.prog 189 [(.int .i64 0), (.slice none 0 0)] := ⟨.agg #[(.int .i64 0), (.slice none 0 0)], fun _ => by kernel_rfl, rfl⟩
instance : FieldT Tryz.prog 189 0 0 3 1 := ⟨⟨_, _, Tryz.underlying189, rfl, rfl, rfl⟩, fun _ => by kernel_rfl, by decide⟩
instance : FieldT Tryz.prog 189 1 1 28 1 := ⟨⟨_, _, Tryz.underlying189, rfl, rfl, rfl⟩, fun _ => by kernel_rfl, by decide⟩
instance : StructT Tryz.prog 189 [(0, 1), (1, 1)] [(.int .i64 0), (.slice none 0 0)] := ⟨⟨_, Tryz.underlying189, fun _ => by kernel_rfl⟩, inferInstance⟩
instance : AggT Tryz.prog 190 2 := ⟨fun _ => by kernel_rfl, fun _ => by kernel_rfl⟩
instance : ZeroT Tryz.prog 190 [(.int .i64 0), (.slice none 0 0)] := ⟨.agg #[(.int .i64 0), (.slice none 0 0)], fun _ => by kernel_rfl, rfl⟩
instance : FieldT Tryz.prog 190 0 0 3 1 := ⟨⟨_, _, Tryz.underlying190, rfl, rfl, rfl⟩, fun _ => by kernel_rfl, by decide⟩
instance : FieldT Tryz.prog 190 1 1 28 1 := ⟨⟨_, _, Tryz.underlying190, rfl, rfl, rfl⟩, fun _ => by kernel_rfl, by decide⟩
instance : StructT Tryz.prog 190 [(0, 1), (1, 1)] [(.int .i64 0), (.slice none 0 0)] := ⟨⟨_, Tryz.underlying190, fun _ => by kernel_rfl⟩, inferInstance⟩
instance : CellT Tryz.prog 191 := ⟨fun _ => by kernel_rfl, fun _ => by kernel_rfl⟩
instance : ZeroT Tryz.prog 191 [.nilFunc] := ⟨.nilFunc, fun _ => by kernel_rfl, rfl⟩
instance : CellT Tryz.prog 192 := ⟨fun _ => by kernel_rfl, fun _ => by kernel_rfl⟩
instance : ZeroT Tryz.prog 192 [.nilFunc] := ⟨.nilFunc, fun _ => by kernel_rfl, rfl⟩
instance : CellT Tryz.prog 193 := ⟨fun _ => by kernel_rfl, fun _ => by kernel_rfl⟩
instance : ZeroT Tryz.prog 193 [.nilFunc] := ⟨.nilFunc, fun _ => by kernel_rfl, rfl⟩
instance : CellT Tryz.prog 194 := ⟨fun _ => by kernel_rfl, fun _ => by kernel_rfl⟩
instance : ZeroT Tryz.prog 194 [.nilFunc] := ⟨.nilFunc, fun _ => by kernel_rfl, rfl⟩
instance : CellT Tryz.prog 195 := ⟨fun _ => by kernel_rfl, fun _ => by kernel_rfl⟩
instance : ZeroT Tryz.prog 195 [.nilFunc] := ⟨.nilFunc, fun _ => by kernel_rfl, rfl⟩
instance : CellT Tryz.prog 196 := ⟨fun _ => by kernel_rfl, fun _ => by kernel_rfl⟩
instance : ZeroT Tryz.prog 196 [.nilFunc] := ⟨.nilFunc, fun _ => by kernel_rfl, rfl⟩
instance : CellT Tryz.prog 197 := ⟨fun _ => by kernel_rfl, fun _ => by kernel_rfl⟩
instance : ZeroT Tryz.prog 197 [.nilFunc] := ⟨.nilFunc, fun _ => by kernel_rfl, rfl⟩
instance : CellT Tryz.prog 198 := ⟨fun _ => by kernel_rfl, fun _ => by kernel_rfl⟩
instance : ZeroT Tryz.prog 198 [.nilFunc] := ⟨.nilFunc, fun _ => by kernel_rfl, rfl⟩
instance : CellT Tryz.prog 199 := ⟨fun _ => by kernel_rfl, fun _ => by kernel_rfl⟩
instance : ZeroT Tryz.prog 199 [.nilFunc] := ⟨.nilFunc, fun _ => by kernel_rfl, rfl⟩
instance : CellT Tryz.prog 200 := ⟨fun _ => by kernel_rfl, fun _ => by kernel_rfl⟩
instance : ZeroT Tryz.prog 200 [.nilFunc] := ⟨.nilFunc, fun _ => by kernel_rfl, rfl⟩
instance : CellT Tryz.prog 201 := ⟨fun _ => by kernel_rfl, fun _ => by kernel_rfl⟩
instance : ZeroT Tryz.prog 201 [.nilFunc] := ⟨.nilFunc, fun _ => by kernel_rfl, rfl⟩
instance : CellT Tryz.prog 203 := ⟨fun _ => by kernel_rfl, fun _ => by kernel_rfl⟩
instance : ZeroT Tryz.prog 203 [.nilFunc] := ⟨.nilFunc, fun _ => by kernel_rfl, rfl⟩
instance : CellT Tryz.prog 204 := ⟨fun _ => by kernel_rfl, fun _ => by kernel_rfl⟩
instance : ZeroT Tryz.prog 204 [.nilFunc] := ⟨.nilFunc, fun _ => by kernel_rfl, rfl⟩
instance : CellT Tryz.prog 205 := ⟨fun _ => by kernel_rfl, fun _ => by kernel_rfl⟩
instance : ZeroT Tryz.prog 205 [.nilFunc] := ⟨.nilFunc, fun _ => by kernel_rfl, rfl⟩
instance : CellT Tryz.prog 206 := ⟨fun _ => by kernel_rfl, fun _ => by kernel_rfl⟩
instance : ZeroT Tryz.prog 206 [.nilFunc] := ⟨.nilFunc, fun _ => by kernel_rfl, rfl⟩
instance : CellT Tryz.prog 207 := ⟨fun _ => by kernel_rfl, fun _ => by kernel_rfl⟩
instance : ZeroT Tryz.prog 207 [.nilFunc] := ⟨.nilFunc, fun _ => by kernel_rfl, rfl⟩
instance : CellT Tryz.prog 208 := ⟨fun _ => by kernel_rfl, fun _ => by kernel_rfl⟩
instance : ZeroT Tryz.prog 208 [.nilFunc] := ⟨.nilFunc, fun _ => by kernel_rfl, rfl⟩
instance : CellT Tryz.prog 209 := ⟨fun _ => by kernel_rfl, fun _ => by kernel_rfl⟩
instance : ZeroT Tryz.prog 209 [.nilFunc] := ⟨.nilFunc, fun _ => by kernel_rfl, rfl⟩
instance : CellT Tryz.prog 210 := ⟨fun _ => by kernel_rfl, fun _ => by kernel_rfl⟩
instance : ZeroT Tryz.prog 210 [(.pointer none)] := ⟨(.pointer none), fun _ => by kernel_rfl, rfl⟩
instance : AggT Tryz.prog 211 7 := ⟨fun _ => by kernel_rfl, fun _ => by kernel_rfl⟩
instance : ZeroT Tryz.prog 211 [(.int .i64 0), (.slice none 0 0), (.int .i64 0), (.slice none 0 0), (.bool false), (.int .i64 0), .nilFunc] := ⟨.agg #[(.int .i64 0), (.slice none 0 0), (.int .i64 0), (.slice none 0 0), (.bool false), (.int .i64 0), .nilFunc], fun _ => by kernel_rfl, rfl⟩
instance : FieldT Tryz.prog 211 0 0 26 2 := ⟨⟨_, _, Tryz.underlying211, rfl, rfl, rfl⟩, fun _ => by kernel_rfl, by decide⟩
instance : FieldT Tryz.prog 211 1 2 26 2 := ⟨⟨_, _, Tryz.underlying211, rfl, rfl, rfl⟩, fun _ => by kernel_rfl, by decide⟩
instance : FieldT Tryz.prog 211 2 4 4 1 := ⟨⟨_, _, Tryz.underlying211, rfl, rfl, rfl⟩, fun _ => by kernel_rfl, by decide⟩
instance : FieldT Tryz.prog 211 3 5 3 1 := ⟨⟨_, _, Tryz.underlying211, rfl, rfl, rfl⟩, fun _ => by kernel_rfl, by decide⟩
instance : FieldT Tryz.prog 211 4 6 137 1 := ⟨⟨_, _, Tryz.underlying211, rfl, rfl, rfl⟩, fun _ => by kernel_rfl, by decide⟩
instance : StructT Tryz.prog 211 [(0, 2), (2, 2), (4, 1), (5, 1), (6, 1)] [(.int .i64 0), (.slice none 0 0), (.int .i64 0), (.slice none 0 0), (.bool false), (.int .i64 0), .nilFunc] := ⟨⟨_, Tryz.underlying211, fun _ => by kernel_rfl⟩, inferInstance⟩
instance : AggT Tryz.prog 212 7 := ⟨fun _ => by kernel_rfl, fun _ => by kernel_rfl⟩
instance : ZeroT Tryz.prog 212 [(.int .i64 0), (.slice none 0 0), (.int .i64 0), (.slice none 0 0), (.bool false), (.int .i64 0), .nilFunc] := ⟨.agg #[(.int .i64 0), (.slice none 0 0), (.int .i64 0), (.slice none 0 0), (.bool false), (.int .i64 0), .nilFunc], fun _ => by kernel_rfl, rfl⟩
instance : FieldT Tryz.prog 212 0 0 26 2 := ⟨⟨_, _, Tryz.underlying212, rfl, rfl, rfl⟩, fun _ => by kernel_rfl, by decide⟩
instance : FieldT Tryz.prog 212 1 2 26 2 := ⟨⟨_, _, Tryz.underlying212, rfl, rfl, rfl⟩, fun _ => by kernel_rfl, by decide⟩
instance : FieldT Tryz.prog 212 2 4 4 1 := ⟨⟨_, _, Tryz.underlying212, rfl, rfl, rfl⟩, fun _ => by kernel_rfl, by decide⟩
instance : FieldT Tryz.prog 212 3 5 3 1 := ⟨⟨_, _, Tryz.underlying212, rfl, rfl, rfl⟩, fun _ => by kernel_rfl, by decide⟩
instance : FieldT Tryz.prog 212 4 6 137 1 := ⟨⟨_, _, Tryz.underlying212, rfl, rfl, rfl⟩, fun _ => by kernel_rfl, by decide⟩
instance : StructT Tryz.prog 212 [(0, 2), (2, 2), (4, 1), (5, 1), (6, 1)] [(.int .i64 0), (.slice none 0 0), (.int .i64 0), (.slice none 0 0), (.bool false), (.int .i64 0), .nilFunc] := ⟨⟨_, Tryz.underlying212, fun _ => by kernel_rfl⟩, inferInstance⟩
instance : CellT Tryz.prog 213 := ⟨fun _ => by kernel_rfl, fun _ => by kernel_rfl⟩
instance : ZeroT Tryz.prog 213 [(.int .u64 0)] := ⟨(.int .u64 0), fun _ => by kernel_rfl, rfl⟩
instance : CellT Tryz.prog 214 := ⟨fun _ => by kernel_rfl, fun _ => by kernel_rfl⟩
instance : ZeroT Tryz.prog 214 [.nilFunc] := ⟨.nilFunc, fun _ => by kernel_rfl, rfl⟩
instance : CellT Tryz.prog 215 := ⟨fun _ => by kernel_rfl, fun _ => by kernel_rfl⟩
instance : ZeroT Tryz.prog 215 [.nilFunc] := ⟨.nilFunc, fun _ => by kernel_rfl, rfl⟩
instance : CellT Tryz.prog 216 := ⟨fun _ => by kernel_rfl, fun _ => by kernel_rfl⟩
instance : ZeroT Tryz.prog 216 [.nilFunc] := ⟨.nilFunc, fun _ => by kernel_rfl, rfl⟩
instance : CellT Tryz.prog 217 := ⟨fun _ => by kernel_rfl, fun _ => by kernel_rfl⟩
instance : ZeroT Tryz.prog 217 [.nilFunc] := ⟨.nilFunc, fun _ => by kernel_rfl, rfl⟩
instance : CellT Tryz.prog 218 := ⟨fun _ => by kernel_rfl, fun _ => by kernel_rfl⟩
instance : ZeroT Tryz.prog 218 [.nilFunc] := ⟨.nilFunc, fun _ => by kernel_rfl, rfl⟩
instance : CellT Tryz.prog 219 := ⟨fun _ => by kernel_rfl, fun _ => by kernel_rfl⟩
instance : ZeroT Tryz.prog 219 [.nilFunc] := ⟨.nilFunc, fun _ => by kernel_rfl, rfl⟩
instance : CellT Tryz.prog 220 := ⟨fun _ => by kernel_rfl, fun _ => by kernel_rfl⟩
instance : ZeroT Tryz.prog 220 [.nilFunc] := ⟨.nilFunc, fun _ => by kernel_rfl, rfl⟩
instance : CellT Tryz.prog 221 := ⟨fun _ => by kernel_rfl, fun _ => by kernel_rfl⟩
instance : ZeroT Tryz.prog 221 [.nilFunc] := ⟨.nilFunc, fun _ => by kernel_rfl, rfl⟩
instance : CellT Tryz.prog 222 := ⟨fun _ => by kernel_rfl, fun _ => by kernel_rfl⟩
instance : ZeroT Tryz.prog 222 [.nilFunc] := ⟨.nilFunc, fun _ => by kernel_rfl, rfl⟩
instance : CellT Tryz.prog 223 := ⟨fun _ => by kernel_rfl, fun _ => by kernel_rfl⟩
instance : ZeroT Tryz.prog 223 [.nilFunc] := ⟨.nilFunc, fun _ => by kernel_rfl, rfl⟩
instance : CellT Tryz.prog 224 := ⟨fun _ => by kernel_rfl, fun _ => by kernel_rfl⟩
instance : ZeroT Tryz.prog 224 [(.pointer none)] := ⟨(.pointer none), fun _ => by kernel_rfl, rfl⟩
instance : CellT Tryz.prog 225 := ⟨fun _ => by kernel_rfl, fun _ => by kernel_rfl⟩
instance : ZeroT Tryz.prog 225 [(.int .u64 0)] := ⟨(.int .u64 0), fun _ => by kernel_rfl, rfl⟩
instance : AggT Tryz.prog 226 3 := ⟨fun _ => by kernel_rfl, fun _ => by kernel_rfl⟩
instance : ZeroT Tryz.prog 226 [(.pointer none), (.pointer none), (.int .u64 0)] := ⟨.agg #[(.pointer none), (.pointer none), (.int .u64 0)], fun _ => by kernel_rfl, rfl⟩
instance : FieldT Tryz.prog 226 0 0 17 1 := ⟨⟨_, _, Tryz.underlying226, rfl, rfl, rfl⟩, fun _ => by kernel_rfl, by decide⟩
instance : FieldT Tryz.prog 226 1 1 224 1 := ⟨⟨_, _, Tryz.underlying226, rfl, rfl, rfl⟩, fun _ => by kernel_rfl, by decide⟩
instance : FieldT Tryz.prog 226 2 2 225 1 := ⟨⟨_, _, Tryz.underlying226, rfl, rfl, rfl⟩, fun _ => by kernel_rfl, by decide⟩
instance : StructT Tryz.prog 226 [(0, 1), (1, 1), (2, 1)] [(.pointer none), (.pointer none), (.int .u64 0)] := ⟨⟨_, Tryz.underlying226, fun _ => by kernel_rfl⟩, inferInstance⟩
instance : AggT Tryz.prog 227 3 := ⟨fun _ => by kernel_rfl, fun _ => by kernel_rfl⟩
instance : ZeroT Tryz.prog 227 [(.pointer none), (.pointer none), (.int .u64 0)] := ⟨.agg #[(.pointer none), (.pointer none), (.int .u64 0)], fun _ => by kernel_rfl, rfl⟩
instance : FieldT Tryz.prog 227 0 0 17 1 := ⟨⟨_, _, Tryz.underlying227, rfl, rfl, rfl⟩, fun _ => by kernel_rfl, by decide⟩
instance : FieldT Tryz.prog 227 1 1 224 1 := ⟨⟨_, _, Tryz.underlying227, rfl, rfl, rfl⟩, fun _ => by kernel_rfl, by decide⟩
instance : FieldT Tryz.prog 227 2 2 225 1 := ⟨⟨_, _, Tryz.underlying227, rfl, rfl, rfl⟩, fun _ => by kernel_rfl, by decide⟩
instance : StructT Tryz.prog 227 [(0, 1), (1, 1), (2, 1)] [(.pointer none), (.pointer none), (.int .u64 0)] := ⟨⟨_, Tryz.underlying227, fun _ => by kernel_rfl⟩, inferInstance⟩
instance : CellT Tryz.prog 228 := ⟨fun _ => by kernel_rfl, fun _ => by kernel_rfl⟩
instance : ZeroT Tryz.prog 228 [.nilFunc] := ⟨.nilFunc, fun _ => by kernel_rfl, rfl⟩
instance : CellT Tryz.prog 229 := ⟨fun _ => by kernel_rfl, fun _ => by kernel_rfl⟩
instance : ZeroT Tryz.prog 229 [.nilFunc] := ⟨.nilFunc, fun _ => by kernel_rfl, rfl⟩
instance : CellT Tryz.prog 230 := ⟨fun _ => by kernel_rfl, fun _ => by kernel_rfl⟩
instance : ZeroT Tryz.prog 230 [.nilFunc] := ⟨.nilFunc, fun _ => by kernel_rfl, rfl⟩
instance : CellT Tryz.prog 231 := ⟨fun _ => by kernel_rfl, fun _ => by kernel_rfl⟩
instance : ZeroT Tryz.prog 231 [.nilFunc] := ⟨.nilFunc, fun _ => by kernel_rfl, rfl⟩
instance : AggT Tryz.prog 232 2 := ⟨fun _ => by kernel_rfl, fun _ => by kernel_rfl⟩
instance : ZeroT Tryz.prog 232 [.nilFunc, .nilFunc] := ⟨.agg #[.nilFunc, .nilFunc], fun _ => by kernel_rfl, rfl⟩
instance : FieldT Tryz.prog 232 0 0 171 1 := ⟨⟨_, _, Tryz.underlying232, rfl, rfl, rfl⟩, fun _ => by kernel_rfl, by decide⟩
instance : FieldT Tryz.prog 232 1 1 229 1 := ⟨⟨_, _, Tryz.underlying232, rfl, rfl, rfl⟩, fun _ => by kernel_rfl, by decide⟩
instance : StructT Tryz.prog 232 [(0, 1), (1, 1)] [.nilFunc, .nilFunc] := ⟨⟨_, Tryz.underlying232, fun _ => by kernel_rfl⟩, inferInstance⟩
instance : AggT Tryz.prog 233 2 := ⟨fun _ => by kernel_rfl, fun _ => by kernel_rfl⟩
instance : ZeroT Tryz.prog 233 [.nilFunc, .nilFunc] := ⟨.agg #[.nilFunc, .nilFunc], fun _ => by kernel_rfl, rfl⟩
instance : FieldT Tryz.prog 233 0 0 171 1 := ⟨⟨_, _, Tryz.underlying233, rfl, rfl, rfl⟩, fun _ => by kernel_rfl, by decide⟩
instance : FieldT Tryz.prog 233 1 1 229 1 := ⟨⟨_, _, Tryz.underlying233, rfl, rfl, rfl⟩, fun _ => by kernel_rfl, by decide⟩
instance : StructT Tryz.prog 233 [(0, 1), (1, 1)] [.nilFunc, .nilFunc] := ⟨⟨_, Tryz.underlying233, fun _ => by kernel_rfl⟩, inferInstance⟩
instance : CellT Tryz.prog 234 := ⟨fun _ => by kernel_rfl, fun _ => by kernel_rfl⟩
instance : ZeroT Tryz.prog 234 [.nilFunc] := ⟨.nilFunc, fun _ => by kernel_rfl, rfl⟩
instance : CellT Tryz.prog 235 := ⟨fun _ => by kernel_rfl, fun _ => by kernel_rfl⟩
instance : ZeroT Tryz.prog 235 [(.pointer none)] := ⟨(.pointer none), fun _ => by kernel_rfl, rfl⟩
instance : AggT Tryz.prog 236 9 := ⟨fun _ => by kernel_rfl, fun _ => by kernel_rfl⟩
instance : ZeroT Tryz.prog 236 [(.int .i64 0), (.slice none 0 0), (.int .i64 0), (.slice none 0 0), (.bool false), (.bool false), (.int .i64 0), (.int .i64 0), (.slice none 0 0)] := ⟨.agg #[(.int .i64 0), (.slice none 0 0), (.int .i64 0), (.slice none 0 0), (.bool false), (.bool false), (.int .i64 0), (.int .i64 0), (.slice none 0 0)], fun _ => by kernel_rfl, rfl⟩
instance : FieldT Tryz.prog 236 0 0 26 2 := ⟨⟨_, _, Tryz.underlying236, rfl, rfl, rfl⟩, fun _ => by kernel_rfl, by decide⟩
instance : FieldT Tryz.prog 236 1 2 26 2 := ⟨⟨_, _, Tryz.underlying236, rfl, rfl, rfl⟩, fun _ => by kernel_rfl, by decide⟩
instance : FieldT Tryz.prog 236 2 4 4 1 := ⟨⟨_, _, Tryz.underlying236, rfl, rfl, rfl⟩, fun _ => by kernel_rfl, by decide⟩
instance : FieldT Tryz.prog 236 3 5 4 1 := ⟨⟨_, _, Tryz.underlying236, rfl, rfl, rfl⟩, fun _ => by kernel_rfl, by decide⟩
instance : FieldT Tryz.prog 236 4 6 3 1 := ⟨⟨_, _, Tryz.underlying236, rfl, rfl, rfl⟩, fun _ => by kernel_rfl, by decide⟩
instance : FieldT Tryz.prog 236 5 7 3 1 := ⟨⟨_, _, Tryz.underlying236, rfl, rfl, rfl⟩, fun _ => by kernel_rfl, by decide⟩
instance : FieldT Tryz.prog 236 6 8 28 1 := ⟨⟨_, _, Tryz.underlying236, rfl, rfl, rfl⟩, fun _ => by kernel_rfl, by decide⟩
instance : StructT Tryz.prog 236 [(0, 2), (2, 2), (4, 1), (5, 1), (6, 1), (7, 1), (8, 1)] [(.int .i64 0), (.slice none 0 0), (.int .i64 0), (.slice none 0 0), (.bool false), (.bool false), (.int .i64 0), (.int .i64 0), (.slice none 0 0)] := ⟨⟨_, Tryz.underlying236, fun _ => by kernel_rfl⟩, inferInstance⟩
instance : AggT Tryz.prog 237 9 := ⟨fun _ => by kernel_rfl, fun _ => by kernel_rfl⟩
instance : ZeroT Tryz.prog 237 [(.int .i64 0), (.slice none 0 0), (.int .i64 0), (.slice none 0 0), (.bool false), (.bool false), (.int .i64 0), (.int .i64 0), (.slice none 0 0)] := ⟨.agg #[(.int .i64 0), (.slice none 0 0), (.int .i64 0), (.slice none 0 0), (.bool false), (.bool false), (.int .i64 0), (.int .i64 0), (.slice none 0 0)], fun _ => by kernel_rfl, rfl⟩
instance : FieldT Tryz.prog 237 0 0 26 2 := ⟨⟨_, _, Tryz.underlying237, rfl, rfl, rfl⟩, fun _ => by kernel_rfl, by decide⟩
instance : FieldT Tryz.prog 237 1 2 26 2 := ⟨⟨_, _, Tryz.underlying237, rfl, rfl, rfl⟩, fun _ => by kernel_rfl, by decide⟩
instance : FieldT Tryz.prog 237 2 4 4 1 := ⟨⟨_, _, Tryz.underlying237, rfl, rfl, rfl⟩, fun _ => by kernel_rfl, by decide⟩
instance : FieldT Tryz.prog 237 3 5 4 1 := ⟨⟨_, _, Tryz.underlying237, rfl, rfl, rfl⟩, fun _ => by kernel_rfl, by decide⟩
instance : FieldT Tryz.prog 237 4 6 3 1 := ⟨⟨_, _, Tryz.underlying237, rfl, rfl, rfl⟩, fun _ => by kernel_rfl, by decide⟩
instance : FieldT Tryz.prog 237 5 7 3 1 := ⟨⟨_, _, Tryz.underlying237, rfl, rfl, rfl⟩, fun _ => by kernel_rfl, by decide⟩
instance : FieldT Tryz.prog 237 6 8 28 1 := ⟨⟨_, _, Tryz.underlying237, rfl, rfl, rfl⟩, fun _ => by kernel_rfl, by decide⟩
instance : StructT Tryz.prog 237 [(0, 2), (2, 2), (4, 1), (5, 1), (6, 1), (7, 1), (8, 1)] [(.int .i64 0), (.slice none 0 0), (.int .i64 0), (.slice none 0 0), (.bool false), (.bool false), (.int .i64 0), (.int .i64 0), (.slice none 0 0)] := ⟨⟨_, Tryz.underlying237, fun _ => by kernel_rfl⟩, inferInstance⟩
instance : CellT Tryz.prog 238 := ⟨fun _ => by kernel_rfl, fun _ => by kernel_rfl⟩
instance : ZeroT Tryz.prog 238 [.nilFunc] := ⟨.nilFunc, fun _ => by kernel_rfl, rfl⟩
instance : CellT Tryz.prog 239 := ⟨fun _ => by kernel_rfl, fun _ => by kernel_rfl⟩
instance : ZeroT Tryz.prog 239 [.nilFunc] := ⟨.nilFunc, fun _ => by kernel_rfl, rfl⟩
instance : CellT Tryz.prog 240 := ⟨fun _ => by kernel_rfl, fun _ => by kernel_rfl⟩
instance : ZeroT Tryz.prog 240 [.nilFunc] := ⟨.nilFunc, fun _ => by kernel_rfl, rfl⟩
instance : AggT Tryz.prog 241 1 := ⟨fun _ => by kernel_rfl, fun _ => by kernel_rfl⟩
instance : ZeroT Tryz.prog 241 [(.pointer none)] := ⟨.agg #[(.pointer none)], fun _ => by kernel_rfl, rfl⟩
instance : FieldT Tryz.prog 241 0 0 17 1 := ⟨⟨_, _, Tryz.underlying241, rfl, rfl, rfl⟩, fun _ => by kernel_rfl, by decide⟩
instance : StructT Tryz.prog 241 [(0, 1)] [(.pointer none)] := ⟨⟨_, Tryz.underlying241, fun _ => by kernel_rfl⟩, inferInstance⟩
instance : AggT Tryz.prog 242 1 := ⟨fun _ => by kernel_rfl, fun _ => by kernel_rfl⟩
instance : ZeroT Tryz.prog 242 [(.pointer none)] := ⟨.agg #[(.pointer none)], fun _ => by kernel_rfl, rfl⟩
instance : FieldT Tryz.prog 242 0 0 17 1 := ⟨⟨_, _, Tryz.underlying242, rfl, rfl, rfl⟩, fun _ => by kernel_rfl, by decide⟩
instance : StructT Tryz.prog 242 [(0, 1)] [(.pointer none)] := ⟨⟨_, Tryz.underlying242, fun _ => by kernel_rfl⟩, inferInstance⟩
instance : CellT Tryz.prog 243 := ⟨fun _ => by kernel_rfl, fun _ => by kernel_rfl⟩
instance : ZeroT Tryz.prog 243 [(.pointer none)] := ⟨(.pointer none), fun _ => by kernel_rfl, rfl⟩
instance : CellT Tryz.prog 244 := ⟨fun _ => by kernel_rfl, fun _ => by kernel_rfl⟩
instance : ZeroT Tryz.prog 244 [.nilFunc] := ⟨.nilFunc, fun _ => by kernel_rfl, rfl⟩
instance : CellT Tryz.prog 245 := ⟨fun _ => by kernel_rfl, fun _ => by kernel_rfl⟩
instance : ZeroT Tryz.prog 245 [.nilFunc] := ⟨.nilFunc, fun _ => by kernel_rfl, rfl⟩
instance : CellT Tryz.prog 246 := ⟨fun _ => by kernel_rfl, fun _ => by kernel_rfl⟩
instance : ZeroT Tryz.prog 246 [.nilFunc] := ⟨.nilFunc, fun _ => by kernel_rfl, rfl⟩
instance : CellT Tryz.prog 247 := ⟨fun _ => by kernel_rfl, fun _ => by kernel_rfl⟩
instance : ZeroT Tryz.prog 247 [.nilFunc] := ⟨.nilFunc, fun _ => by kernel_rfl, rfl⟩
instance : AggT Tryz.prog 248 4 := ⟨fun _ => by kernel_rfl, fun _ => by kernel_rfl⟩
instance : ZeroT Tryz.prog 248 [(.pointer none), (.pointer none), (.pointer none), (.string ByteArray.empty)] := ⟨.agg #[(.pointer none), (.pointer none), (.pointer none), (.string ByteArray.empty)], fun _ => by kernel_rfl, rfl⟩
instance : FieldT Tryz.prog 248 0 0 17 1 := ⟨⟨_, _, Tryz.underlying248, rfl, rfl, rfl⟩, fun _ => by kernel_rfl, by decide⟩
instance : FieldT Tryz.prog 248 1 1 17 1 := ⟨⟨_, _, Tryz.underlying248, rfl, rfl, rfl⟩, fun _ => by kernel_rfl, by decide⟩
instance : FieldT Tryz.prog 248 2 2 17 1 := ⟨⟨_, _, Tryz.underlying248, rfl, rfl, rfl⟩, fun _ => by kernel_rfl, by decide⟩
instance : FieldT Tryz.prog 248 3 3 9 1 := ⟨⟨_, _, Tryz.underlying248, rfl, rfl, rfl⟩, fun _ => by kernel_rfl, by decide⟩
instance : StructT Tryz.prog 248 [(0, 1), (1, 1), (2, 1), (3, 1)] [(.pointer none), (.pointer none), (.pointer none), (.string ByteArray.empty)] := ⟨⟨_, Tryz.underlying248, fun _ => by kernel_rfl⟩, inferInstance⟩
instance : AggT Tryz.prog 249 4 := ⟨fun _ => by kernel_rfl, fun _ => by kernel_rfl⟩
instance : ZeroT Tryz.prog 249 [(.pointer none), (.pointer none), (.pointer none), (.string ByteArray.empty)] := ⟨.agg #[(.pointer none), (.pointer none), (.pointer none), (.string ByteArray.empty)], fun _ => by kernel_rfl, rfl⟩
instance : FieldT Tryz.prog 249 0 0 17 1 := ⟨⟨_, _, Tryz.underlying249, rfl, rfl, rfl⟩, fun _ => by kernel_rfl, by decide⟩
instance : FieldT Tryz.prog 249 1 1 17 1 := ⟨⟨_, _, Tryz.underlying249, rfl, rfl, rfl⟩, fun _ => by kernel_rfl, by decide⟩
instance : FieldT Tryz.prog 249 2 2 17 1 := ⟨⟨_, _, Tryz.underlying249, rfl, rfl, rfl⟩, fun _ => by kernel_rfl, by decide⟩
instance : FieldT Tryz.prog 249 3 3 9 1 := ⟨⟨_, _, Tryz.underlying249, rfl, rfl, rfl⟩, fun _ => by kernel_rfl, by decide⟩
instance : StructT Tryz.prog 249 [(0, 1), (1, 1), (2, 1), (3, 1)] [(.pointer none), (.pointer none), (.pointer none), (.string ByteArray.empty)] := ⟨⟨_, Tryz.underlying249, fun _ => by kernel_rfl⟩, inferInstance⟩
instance : AggT Tryz.prog 250 0 := ⟨fun _ => by kernel_rfl, fun _ => by kernel_rfl⟩
instance : AggT Tryz.prog 251 0 := ⟨fun _ => by kernel_rfl, fun _ => by kernel_rfl⟩
instance : AggT Tryz.prog 252 0 := ⟨fun _ => by kernel_rfl, fun _ => by kernel_rfl⟩
instance : CellT Tryz.prog 253 := ⟨fun _ => by kernel_rfl, fun _ => by kernel_rfl⟩
instance : ZeroT Tryz.prog 253 [(.int .u32 0)] := ⟨(.int .u32 0), fun _ => by kernel_rfl, rfl⟩
instance : CellT Tryz.prog 254 := ⟨fun _ => by kernel_rfl, fun _ => by kernel_rfl⟩
instance : ZeroT Tryz.prog 254 [(.int .u8 0)] := ⟨(.int .u8 0), fun _ => by kernel_rfl, rfl⟩
instance : CellT Tryz.prog 255 := ⟨fun _ => by kernel_rfl, fun _ => by kernel_rfl⟩
instance : ZeroT Tryz.prog 255 [(.int .u8 0)] := ⟨(.int .u8 0), fun _ => by kernel_rfl, rfl⟩
instance : CellT Tryz.prog 256 := ⟨fun _ => by kernel_rfl, fun _ => by kernel_rfl⟩
instance : ZeroT Tryz.prog 256 [.nilFunc] := ⟨.nilFunc, fun _ => by kernel_rfl, rfl⟩
instance : CellT Tryz.prog 257 := ⟨fun _ => by kernel_rfl, fun _ => by kernel_rfl⟩
instance : ZeroT Tryz.prog 257 [(.pointer none)] := ⟨(.pointer none), fun _ => by kernel_rfl, rfl⟩
instance : CellT Tryz.prog 258 := ⟨fun _ => by kernel_rfl, fun _ => by kernel_rfl⟩
instance : ZeroT Tryz.prog 258 [(.int .i32 0)] := ⟨(.int .i32 0), fun _ => by kernel_rfl, rfl⟩
instance : CellT Tryz.prog 259 := ⟨fun _ => by kernel_rfl, fun _ => by kernel_rfl⟩
instance : ZeroT Tryz.prog 259 [(.int .i32 0)] := ⟨(.int .i32 0), fun _ => by kernel_rfl, rfl⟩
instance : AggT Tryz.prog 260 11 := ⟨fun _ => by kernel_rfl, fun _ => by kernel_rfl⟩
instance : ZeroT Tryz.prog 260 [(.int .u64 0), (.int .u64 0), (.int .u32 0), (.int .u8 0), (.int .u8 0), (.int .u8 0), (.int .u8 0), .nilFunc, (.pointer none), (.int .i32 0), (.int .i32 0)] := ⟨.agg #[(.int .u64 0), (.int .u64 0), (.int .u32 0), (.int .u8 0), (.int .u8 0), (.int .u8 0), (.int .u8 0), .nilFunc, (.pointer none), (.int .i32 0), (.int .i32 0)], fun _ => by kernel_rfl, rfl⟩
instance : FieldT Tryz.prog 260 0 0 12 1 := ⟨⟨_, _, Tryz.underlying260, rfl, rfl, rfl⟩, fun _ => by kernel_rfl, by decide⟩
instance : FieldT Tryz.prog 260 1 1 12 1 := ⟨⟨_, _, Tryz.underlying260, rfl, rfl, rfl⟩, fun _ => by kernel_rfl, by decide⟩
instance : FieldT Tryz.prog 260 2 2 253 1 := ⟨⟨_, _, Tryz.underlying260, rfl, rfl, rfl⟩, fun _ => by kernel_rfl, by decide⟩
instance : FieldT Tryz.prog 260 3 3 254 1 := ⟨⟨_, _, Tryz.underlying260, rfl, rfl, rfl⟩, fun _ => by kernel_rfl, by decide⟩
instance : FieldT Tryz.prog 260 4 4 5 1 := ⟨⟨_, _, Tryz.underlying260, rfl, rfl, rfl⟩, fun _ => by kernel_rfl, by decide⟩
instance : FieldT Tryz.prog 260 5 5 5 1 := ⟨⟨_, _, Tryz.underlying260, rfl, rfl, rfl⟩, fun _ => by kernel_rfl, by decide⟩
instance : FieldT Tryz.prog 260 6 6 255 1 := ⟨⟨_, _, Tryz.underlying260, rfl, rfl, rfl⟩, fun _ => by kernel_rfl, by decide⟩
instance : FieldT Tryz.prog 260 7 7 256 1 := ⟨⟨_, _, Tryz.underlying260, rfl, rfl, rfl⟩, fun _ => by kernel_rfl, by decide⟩
instance : FieldT Tryz.prog 260 8 8 257 1 := ⟨⟨_, _, Tryz.underlying260, rfl, rfl, rfl⟩, fun _ => by kernel_rfl, by decide⟩
instance : FieldT Tryz.prog 260 9 9 258 1 := ⟨⟨_, _, Tryz.underlying260, rfl, rfl, rfl⟩, fun _ => by kernel_rfl, by decide⟩
instance : FieldT Tryz.prog 260 10 10 259 1 := ⟨⟨_, _, Tryz.underlying260, rfl, rfl, rfl⟩, fun _ => by kernel_rfl, by decide⟩
instance : StructT Tryz.prog 260 [(0, 1), (1, 1), (2, 1), (3, 1), (4, 1), (5, 1), (6, 1), (7, 1), (8, 1), (9, 1), (10, 1)] [(.int .u64 0), (.int .u64 0), (.int .u32 0), (.int .u8 0), (.int .u8 0), (.int .u8 0), (.int .u8 0), .nilFunc, (.pointer none), (.int .i32 0), (.int .i32 0)] := ⟨⟨_, Tryz.underlying260, fun _ => by kernel_rfl⟩, inferInstance⟩
instance : AggT Tryz.prog 261 11 := ⟨fun _ => by kernel_rfl, fun _ => by kernel_rfl⟩
instance : ZeroT Tryz.prog 261 [(.int .u64 0), (.int .u64 0), (.int .u32 0), (.int .u8 0), (.int .u8 0), (.int .u8 0), (.int .u8 0), .nilFunc, (.pointer none), (.int .i32 0), (.int .i32 0)] := ⟨.agg #[(.int .u64 0), (.int .u64 0), (.int .u32 0), (.int .u8 0), (.int .u8 0), (.int .u8 0), (.int .u8 0), .nilFunc, (.pointer none), (.int .i32 0), (.int .i32 0)], fun _ => by kernel_rfl, rfl⟩
instance : FieldT Tryz.prog 261 0 0 12 1 := ⟨⟨_, _, Tryz.underlying261, rfl, rfl, rfl⟩, fun _ => by kernel_rfl, by decide⟩
instance : FieldT Tryz.prog 261 1 1 12 1 := ⟨⟨_, _, Tryz.underlying261, rfl, rfl, rfl⟩, fun _ => by kernel_rfl, by decide⟩
instance : FieldT Tryz.prog 261 2 2 253 1 := ⟨⟨_, _, Tryz.underlying261, rfl, rfl, rfl⟩, fun _ => by kernel_rfl, by decide⟩
instance : FieldT Tryz.prog 261 3 3 254 1 := ⟨⟨_, _, Tryz.underlying261, rfl, rfl, rfl⟩, fun _ => by kernel_rfl, by decide⟩
instance : FieldT Tryz.prog 261 4 4 5 1 := ⟨⟨_, _, Tryz.underlying261, rfl, rfl, rfl⟩, fun _ => by kernel_rfl, by decide⟩
instance : FieldT Tryz.prog 261 5 5 5 1 := ⟨⟨_, _, Tryz.underlying261, rfl, rfl, rfl⟩, fun _ => by kernel_rfl, by decide⟩
instance : FieldT Tryz.prog 261 6 6 255 1 := ⟨⟨_, _, Tryz.underlying261, rfl, rfl, rfl⟩, fun _ => by kernel_rfl, by decide⟩
instance : FieldT Tryz.prog 261 7 7 256 1 := ⟨⟨_, _, Tryz.underlying261, rfl, rfl, rfl⟩, fun _ => by kernel_rfl, by decide⟩
instance : FieldT Tryz.prog 261 8 8 257 1 := ⟨⟨_, _, Tryz.underlying261, rfl, rfl, rfl⟩, fun _ => by kernel_rfl, by decide⟩
instance : FieldT Tryz.prog 261 9 9 258 1 := ⟨⟨_, _, Tryz.underlying261, rfl, rfl, rfl⟩, fun _ => by kernel_rfl, by decide⟩
instance : FieldT Tryz.prog 261 10 10 259 1 := ⟨⟨_, _, Tryz.underlying261, rfl, rfl, rfl⟩, fun _ => by kernel_rfl, by decide⟩
instance : StructT Tryz.prog 261 [(0, 1), (1, 1), (2, 1), (3, 1), (4, 1), (5, 1), (6, 1), (7, 1), (8, 1), (9, 1), (10, 1)] [(.int .u64 0), (.int .u64 0), (.int .u32 0), (.int .u8 0), (.int .u8 0), (.int .u8 0), (.int .u8 0), .nilFunc, (.pointer none), (.int .i32 0), (.int .i32 0)] := ⟨⟨_, Tryz.underlying261, fun _ => by kernel_rfl⟩, inferInstance⟩
instance : AggT Tryz.prog 262 2 := ⟨fun _ => by kernel_rfl, fun _ => by kernel_rfl⟩
instance : ZeroT Tryz.prog 262 [(.string ByteArray.empty), (.int .u8 0)] := ⟨.agg #[(.string ByteArray.empty), (.int .u8 0)], fun _ => by kernel_rfl, rfl⟩
instance : FieldT Tryz.prog 262 0 0 9 1 := ⟨⟨_, _, Tryz.underlying262, rfl, rfl, rfl⟩, fun _ => by kernel_rfl, by decide⟩
instance : FieldT Tryz.prog 262 1 1 255 1 := ⟨⟨_, _, Tryz.underlying262, rfl, rfl, rfl⟩, fun _ => by kernel_rfl, by decide⟩
instance : StructT Tryz.prog 262 [(0, 1), (1, 1)] [(.string ByteArray.empty), (.int .u8 0)] := ⟨⟨_, Tryz.underlying262, fun _ => by kernel_rfl⟩, inferInstance⟩
instance : AggT Tryz.prog 263 2 := ⟨fun _ => by kernel_rfl, fun _ => by kernel_rfl⟩
instance : ZeroT Tryz.prog 263 [(.string ByteArray.empty), (.int .u8 0)] := ⟨.agg #[(.string ByteArray.empty), (.int .u8 0)], fun _ => by kernel_rfl, rfl⟩
instance : FieldT Tryz.prog 263 0 0 9 1 := ⟨⟨_, _, Tryz.underlying263, rfl, rfl, rfl⟩, fun _ => by kernel_rfl, by decide⟩
instance : FieldT Tryz.prog 263 1 1 255 1 := ⟨⟨_, _, Tryz.underlying263, rfl, rfl, rfl⟩, fun _ => by kernel_rfl, by decide⟩
instance : StructT Tryz.prog 263 [(0, 1), (1, 1)] [(.string ByteArray.empty), (.int .u8 0)] := ⟨⟨_, Tryz.underlying263, fun _ => by kernel_rfl⟩, inferInstance⟩
instance : FnT Tryz.prog 3 := ⟨Tryz.call3⟩
instance : FnT Tryz.prog 4 := ⟨Tryz.call4⟩
instance : FnT Tryz.prog 5 := ⟨Tryz.call5⟩
instance : FnT Tryz.prog 6 := ⟨Tryz.call6⟩
instance : FnT Tryz.prog 7 := ⟨Tryz.call7⟩
instance : FnT Tryz.prog 8 := ⟨Tryz.call8⟩
instance : FnT Tryz.prog 9 := ⟨Tryz.call9⟩
instance : FnT Tryz.prog 10 := ⟨Tryz.call10⟩
instance : FnT Tryz.prog 11 := ⟨Tryz.call11⟩
instance : FnT Tryz.prog 12 := ⟨Tryz.call12⟩
instance : FnT Tryz.prog 13 := ⟨Tryz.call13⟩
instance : FnT Tryz.prog 14 := ⟨Tryz.call14⟩
instance : FnT Tryz.prog 15 := ⟨Tryz.call15⟩
instance : FnT Tryz.prog 16 := ⟨Tryz.call16⟩
instance : FnT Tryz.prog 17 := ⟨Tryz.call17⟩
instance : FnT Tryz.prog 18 := ⟨Tryz.call18⟩
instance : FnT Tryz.prog 19 := ⟨Tryz.call19⟩
instance : FnT Tryz.prog 20 := ⟨Tryz.call20⟩
instance : FnT Tryz.prog 21 := ⟨Tryz.call21⟩
instance : FnT Tryz.prog 22 := ⟨Tryz.call22⟩
instance : FnT Tryz.prog 23 := ⟨Tryz.call23⟩
instance : FnT Tryz.prog 24 := ⟨Tryz.call24⟩
instance : FnT Tryz.prog 25 := ⟨Tryz.call25⟩
instance : FnT Tryz.prog 26 := ⟨Tryz.call26⟩
instance : FnT Tryz.prog 27 := ⟨Tryz.call27⟩
instance : FnT Tryz.prog 28 := ⟨Tryz.call28⟩
instance : FnT Tryz.prog 29 := ⟨Tryz.call29⟩
instance : FnT Tryz.prog 30 := ⟨Tryz.call30⟩
instance : FnT Tryz.prog 31 := ⟨Tryz.call31⟩
instance : FnT Tryz.prog 32 := ⟨Tryz.call32⟩
instance : FnT Tryz.prog 33 := ⟨Tryz.call33⟩
instance : FnT Tryz.prog 34 := ⟨Tryz.call34⟩
instance : FnT Tryz.prog 35 := ⟨Tryz.call35⟩
instance : FnT Tryz.prog 36 := ⟨Tryz.call36⟩
instance : FnT Tryz.prog 37 := ⟨Tryz.call37⟩
instance : FnT Tryz.prog 38 := ⟨Tryz.call38⟩
instance : FnT Tryz.prog 39 := ⟨Tryz.call39⟩
instance : FnT Tryz.prog 40 := ⟨Tryz.call40⟩
instance : FnT Tryz.prog 41 := ⟨Tryz.call41⟩
instance : FnT Tryz.prog 42 := ⟨Tryz.call42⟩
instance : FnT Tryz.prog 43 := ⟨Tryz.call43⟩
instance : FnT Tryz.prog 44 := ⟨Tryz.call44⟩
instance : FnT Tryz.prog 45 := ⟨Tryz.call45⟩
instance : FnT Tryz.prog 46 := ⟨Tryz.call46⟩
instance : FnT Tryz.prog 47 := ⟨Tryz.call47⟩
instance : FnT Tryz.prog 48 := ⟨Tryz.call48⟩
instance : FnT Tryz.prog 49 := ⟨Tryz.call49⟩
instance : FnT Tryz.prog 50 := ⟨Tryz.call50⟩
instance : FnT Tryz.prog 51 := ⟨Tryz.call51⟩
instance : FnT Tryz.prog 52 := ⟨Tryz.call52⟩
instance : FnT Tryz.prog 53 := ⟨Tryz.call53⟩
instance : FnT Tryz.prog 54 := ⟨Tryz.call54⟩
instance : FnT Tryz.prog 55 := ⟨Tryz.call55⟩
instance : FnT Tryz.prog 56 := ⟨Tryz.call56⟩
instance : FnT Tryz.prog 57 := ⟨Tryz.call57⟩
instance : FnT Tryz.prog 58 := ⟨Tryz.call58⟩
instance : FnT Tryz.prog 59 := ⟨Tryz.call59⟩
instance : FnT Tryz.prog 60 := ⟨Tryz.call60⟩
instance : FnT Tryz.prog 61 := ⟨Tryz.call61⟩
instance : FnT Tryz.prog 62 := ⟨Tryz.call62⟩
instance : FnT Tryz.prog 63 := ⟨Tryz.call63⟩
instance : FnT Tryz.prog 64 := ⟨Tryz.call64⟩
instance : FnT Tryz.prog 65 := ⟨Tryz.call65⟩
instance : FnT Tryz.prog 66 := ⟨Tryz.call66⟩
instance : FnT Tryz.prog 67 := ⟨Tryz.call67⟩
instance : FnT Tryz.prog 68 := ⟨Tryz.call68⟩
instance : FnT Tryz.prog 69 := ⟨Tryz.call69⟩
instance : FnT Tryz.prog 70 := ⟨Tryz.call70⟩
instance : FnT Tryz.prog 71 := ⟨Tryz.call71⟩
instance : FnT Tryz.prog 72 := ⟨Tryz.call72⟩
instance : FnT Tryz.prog 73 := ⟨Tryz.call73⟩
instance : FnT Tryz.prog 74 := ⟨Tryz.call74⟩
instance : FnT Tryz.prog 75 := ⟨Tryz.call75⟩
instance : FnT Tryz.prog 76 := ⟨Tryz.call76⟩
instance : FnT Tryz.prog 77 := ⟨Tryz.call77⟩
instance : FnT Tryz.prog 78 := ⟨Tryz.call78⟩
instance : FnT Tryz.prog 79 := ⟨Tryz.call79⟩
instance : FnT Tryz.prog 80 := ⟨Tryz.call80⟩
instance : FnT Tryz.prog 81 := ⟨Tryz.call81⟩
instance : FnT Tryz.prog 82 := ⟨Tryz.call82⟩
instance : FnT Tryz.prog 83 := ⟨Tryz.call83⟩
instance : FnT Tryz.prog 84 := ⟨Tryz.call84⟩
instance : FnT Tryz.prog 85 := ⟨Tryz.call85⟩
instance : FnT Tryz.prog 86 := ⟨Tryz.call86⟩
instance : FnT Tryz.prog 87 := ⟨Tryz.call87⟩
instance : FnT Tryz.prog 88 := ⟨Tryz.call88⟩
instance : FnT Tryz.prog 89 := ⟨Tryz.call89⟩
instance : FnT Tryz.prog 90 := ⟨Tryz.call90⟩
instance : FnT Tryz.prog 91 := ⟨Tryz.call91⟩
instance : FnT Tryz.prog 92 := ⟨Tryz.call92⟩
instance : FnT Tryz.prog 93 := ⟨Tryz.call93⟩
instance : FnT Tryz.prog 94 := ⟨Tryz.call94⟩
instance : FnT Tryz.prog 95 := ⟨Tryz.call95⟩
instance : FnT Tryz.prog 96 := ⟨Tryz.call96⟩
instance : FnT Tryz.prog 97 := ⟨Tryz.call97⟩
instance : FnT Tryz.prog 98 := ⟨Tryz.call98⟩
instance : FnT Tryz.prog 99 := ⟨Tryz.call99⟩
instance : FnT Tryz.prog 100 := ⟨Tryz.call100⟩
instance : FnT Tryz.prog 101 := ⟨Tryz.call101⟩
instance : FnT Tryz.prog 102 := ⟨Tryz.call102⟩
instance : FnT Tryz.prog 103 := ⟨Tryz.call103⟩
instance : FnT Tryz.prog 104 := ⟨Tryz.call104⟩
instance : FnT Tryz.prog 105 := ⟨Tryz.call105⟩
instance : FnT Tryz.prog 106 := ⟨Tryz.call106⟩
instance : FnT Tryz.prog 107 := ⟨Tryz.call107⟩
instance : FnT Tryz.prog 108 := ⟨Tryz.call108⟩
instance : FnT Tryz.prog 109 := ⟨Tryz.call109⟩
instance : FnT Tryz.prog 110 := ⟨Tryz.call110⟩
instance : FnT Tryz.prog 111 := ⟨Tryz.call111⟩
instance : FnT Tryz.prog 112 := ⟨Tryz.call112⟩
instance : FnT Tryz.prog 113 := ⟨Tryz.call113⟩
instance : FnT Tryz.prog 114 := ⟨Tryz.call114⟩
instance : FnT Tryz.prog 115 := ⟨Tryz.call115⟩
instance : FnT Tryz.prog 116 := ⟨Tryz.call116⟩
instance : FnT Tryz.prog 117 := ⟨Tryz.call117⟩
instance : FnT Tryz.prog 118 := ⟨Tryz.call118⟩
instance : FnT Tryz.prog 119 := ⟨Tryz.call119⟩
instance : FnT Tryz.prog 120 := ⟨Tryz.call120⟩
instance : FnT Tryz.prog 121 := ⟨Tryz.call121⟩
instance : FnT Tryz.prog 122 := ⟨Tryz.call122⟩
instance : FnT Tryz.prog 123 := ⟨Tryz.call123⟩
instance : FnT Tryz.prog 124 := ⟨Tryz.call124⟩
instance : FnT Tryz.prog 125 := ⟨Tryz.call125⟩
instance : FnT Tryz.prog 126 := ⟨Tryz.call126⟩
instance : FnT Tryz.prog 127 := ⟨Tryz.call127⟩
instance : FnT Tryz.prog 128 := ⟨Tryz.call128⟩
instance : FnT Tryz.prog 129 := ⟨Tryz.call129⟩
instance : FnT Tryz.prog 130 := ⟨Tryz.call130⟩
instance : FnT Tryz.prog 131 := ⟨Tryz.call131⟩
instance : FnT Tryz.prog 132 := ⟨Tryz.call132⟩
instance : FnT Tryz.prog 133 := ⟨Tryz.call133⟩
instance : FnT Tryz.prog 134 := ⟨Tryz.call134⟩
instance : FnT Tryz.prog 135 := ⟨Tryz.call135⟩
instance : FnT Tryz.prog 136 := ⟨Tryz.call136⟩
instance : FnT Tryz.prog 137 := ⟨Tryz.call137⟩
instance : FnT Tryz.prog 138 := ⟨Tryz.call138⟩
instance : FnT Tryz.prog 139 := ⟨Tryz.call139⟩
instance : FnT Tryz.prog 140 := ⟨Tryz.call140⟩
instance : FnT Tryz.prog 141 := ⟨Tryz.call141⟩
instance : FnT Tryz.prog 142 := ⟨Tryz.call142⟩
instance : FnT Tryz.prog 143 := ⟨Tryz.call143⟩
instance : FnT Tryz.prog 144 := ⟨Tryz.call144⟩
instance : FnT Tryz.prog 145 := ⟨Tryz.call145⟩
instance : FnT Tryz.prog 146 := ⟨Tryz.call146⟩
instance : FnT Tryz.prog 147 := ⟨Tryz.call147⟩
instance : FnT Tryz.prog 148 := ⟨Tryz.call148⟩
instance : FnT Tryz.prog 149 := ⟨Tryz.call149⟩
instance : FnT Tryz.prog 150 := ⟨Tryz.call150⟩
instance : FnT Tryz.prog 151 := ⟨Tryz.call151⟩
instance : FnT Tryz.prog 152 := ⟨Tryz.call152⟩
instance : FnT Tryz.prog 153 := ⟨Tryz.call153⟩
instance : FnT Tryz.prog 154 := ⟨Tryz.call154⟩
instance : FnT Tryz.prog 155 := ⟨Tryz.call155⟩
instance : FnT Tryz.prog 156 := ⟨Tryz.call156⟩
instance : FnT Tryz.prog 157 := ⟨Tryz.call157⟩
instance : FnT Tryz.prog 158 := ⟨Tryz.call158⟩
instance : FnT Tryz.prog 159 := ⟨Tryz.call159⟩
instance : FnT Tryz.prog 160 := ⟨Tryz.call160⟩
instance : FnT Tryz.prog 161 := ⟨Tryz.call161⟩
instance : FnT Tryz.prog 162 := ⟨Tryz.call162⟩
instance : FnT Tryz.prog 163 := ⟨Tryz.call163⟩
instance : FnT Tryz.prog 164 := ⟨Tryz.call164⟩
instance : FnT Tryz.prog 165 := ⟨Tryz.call165⟩
instance : FnT Tryz.prog 166 := ⟨Tryz.call166⟩
instance : FnT Tryz.prog 167 := ⟨Tryz.call167⟩
instance : FnT Tryz.prog 168 := ⟨Tryz.call168⟩
instance : FnT Tryz.prog 169 := ⟨Tryz.call169⟩
instance : FnT Tryz.prog 170 := ⟨Tryz.call170⟩
instance : FnT Tryz.prog 171 := ⟨Tryz.call171⟩
instance : FnT Tryz.prog 172 := ⟨Tryz.call172⟩
instance : FnT Tryz.prog 173 := ⟨Tryz.call173⟩
instance : FnT Tryz.prog 174 := ⟨Tryz.call174⟩
instance : FnT Tryz.prog 175 := ⟨Tryz.call175⟩
instance : FnT Tryz.prog 176 := ⟨Tryz.call176⟩
instance : FnT Tryz.prog 177 := ⟨Tryz.call177⟩
instance : FnT Tryz.prog 178 := ⟨Tryz.call178⟩
instance : FnT Tryz.prog 179 := ⟨Tryz.call179⟩
instance : FnT Tryz.prog 180 := ⟨Tryz.call180⟩
instance : FnT Tryz.prog 181 := ⟨Tryz.call181⟩
instance : FnT Tryz.prog 182 := ⟨Tryz.call182⟩
instance : FnT Tryz.prog 183 := ⟨Tryz.call183⟩
instance : FnT Tryz.prog 184 := ⟨Tryz.call184⟩
instance : FnT Tryz.prog 185 := ⟨Tryz.call185⟩
instance : FnT Tryz.prog 186 := ⟨Tryz.call186⟩
instance : FnT Tryz.prog 187 := ⟨Tryz.call187⟩
instance : FnT Tryz.prog 188 := ⟨Tryz.call188⟩
instance : FnT Tryz.prog 189 := ⟨Tryz.call189⟩
instance : FnT Tryz.prog 190 := ⟨Tryz.call190⟩
instance : FnT Tryz.prog 191 := ⟨Tryz.call191⟩
instance : FnT Tryz.prog 192 := ⟨Tryz.call192⟩
instance : FnT Tryz.prog 193 := ⟨Tryz.call193⟩
instance : FnT Tryz.prog 194 := ⟨Tryz.call194⟩
instance : FnT Tryz.prog 195 := ⟨Tryz.call195⟩
instance : FnT Tryz.prog 196 := ⟨Tryz.call196⟩
instance : FnT Tryz.prog 197 := ⟨Tryz.call197⟩
instance : FnT Tryz.prog 198 := ⟨Tryz.call198⟩
instance : FnT Tryz.prog 199 := ⟨Tryz.call199⟩
instance : FnT Tryz.prog 200 := ⟨Tryz.call200⟩
instance : FnT Tryz.prog 201 := ⟨Tryz.call201⟩
instance : FnT Tryz.prog 202 := ⟨Tryz.call202⟩
instance : FnT Tryz.prog 203 := ⟨Tryz.call203⟩
instance : FnT Tryz.prog 204 := ⟨Tryz.call204⟩
instance : FnT Tryz.prog 205 := ⟨Tryz.call205⟩
instance : FnT Tryz.prog 206 := ⟨Tryz.call206⟩
instance : FnT Tryz.prog 207 := ⟨Tryz.call207⟩
instance : FnT Tryz.prog 208 := ⟨Tryz.call208⟩
instance : FnT Tryz.prog 209 := ⟨Tryz.call209⟩
instance : FnT Tryz.prog 210 := ⟨Tryz.call210⟩
instance : FnT Tryz.prog 211 := ⟨Tryz.call211⟩
instance : FnT Tryz.prog 212 := ⟨Tryz.call212⟩
instance : FnT Tryz.prog 213 := ⟨Tryz.call213⟩
instance : FnT Tryz.prog 214 := ⟨Tryz.call214⟩
instance : FnT Tryz.prog 215 := ⟨Tryz.call215⟩
instance : FnT Tryz.prog 216 := ⟨Tryz.call216⟩
instance : FnT Tryz.prog 217 := ⟨Tryz.call217⟩
instance : FnT Tryz.prog 218 := ⟨Tryz.call218⟩
instance : FnT Tryz.prog 219 := ⟨Tryz.call219⟩
instance : FnT Tryz.prog 220 := ⟨Tryz.call220⟩
instance : FnT Tryz.prog 221 := ⟨Tryz.call221⟩
instance : FnT Tryz.prog 222 := ⟨Tryz.call222⟩
instance : FnT Tryz.prog 223 := ⟨Tryz.call223⟩
instance : FnT Tryz.prog 224 := ⟨Tryz.call224⟩
instance : FnT Tryz.prog 225 := ⟨Tryz.call225⟩
instance : FnT Tryz.prog 226 := ⟨Tryz.call226⟩
instance : FnT Tryz.prog 227 := ⟨Tryz.call227⟩
instance : FnT Tryz.prog 228 := ⟨Tryz.call228⟩
instance : FnT Tryz.prog 229 := ⟨Tryz.call229⟩
instance : FnT Tryz.prog 230 := ⟨Tryz.call230⟩
instance : FnT Tryz.prog 231 := ⟨Tryz.call231⟩
instance : FnT Tryz.prog 232 := ⟨Tryz.call232⟩
instance : FnT Tryz.prog 233 := ⟨Tryz.call233⟩
instance : FnT Tryz.prog 234 := ⟨Tryz.call234⟩
instance : FnT Tryz.prog 235 := ⟨Tryz.call235⟩
instance : FnT Tryz.prog 236 := ⟨Tryz.call236⟩
instance : FnT Tryz.prog 237 := ⟨Tryz.call237⟩
instance : FnT Tryz.prog 238 := ⟨Tryz.call238⟩
instance : FnT Tryz.prog 239 := ⟨Tryz.call239⟩
instance : FnT Tryz.prog 240 := ⟨Tryz.call240⟩
instance : FnT Tryz.prog 241 := ⟨Tryz.call241⟩
instance : FnT Tryz.prog 242 := ⟨Tryz.call242⟩
instance : FnT Tryz.prog 243 := ⟨Tryz.call243⟩
instance : FnT Tryz.prog 244 := ⟨Tryz.call244⟩
instance : FnT Tryz.prog 245 := ⟨Tryz.call245⟩
instance : FnT Tryz.prog 246 := ⟨Tryz.call246⟩
instance : FnT Tryz.prog 247 := ⟨Tryz.call247⟩
instance : FnT Tryz.prog 248 := ⟨Tryz.call248⟩
instance : FnT Tryz.prog 249 := ⟨Tryz.call249⟩
instance : FnT Tryz.prog 250 := ⟨Tryz.call250⟩
instance : FnT Tryz.prog 251 := ⟨Tryz.call251⟩
instance : FnT Tryz.prog 252 := ⟨Tryz.call252⟩
instance : FnT Tryz.prog 253 := ⟨Tryz.call253⟩
instance : FnT Tryz.prog 254 := ⟨Tryz.call254⟩
instance : FnT Tryz.prog 255 := ⟨Tryz.call255⟩
instance : FnT Tryz.prog 256 := ⟨Tryz.call256⟩
instance : FnT Tryz.prog 257 := ⟨Tryz.call257⟩
instance : FnT Tryz.prog 258 := ⟨Tryz.call258⟩
instance : FnT Tryz.prog 259 := ⟨Tryz.call259⟩
instance : FnT Tryz.prog 260 := ⟨Tryz.call260⟩
instance : FnT Tryz.prog 261 := ⟨Tryz.call261⟩
instance : FnT Tryz.prog 262 := ⟨Tryz.call262⟩
instance : FnT Tryz.prog 263 := ⟨Tryz.call263⟩
instance : FnT Tryz.prog 264 := ⟨Tryz.call264⟩
instance : FnT Tryz.prog 265 := ⟨Tryz.call265⟩
instance : FnT Tryz.prog 266 := ⟨Tryz.call266⟩
instance : FnT Tryz.prog 267 := ⟨Tryz.call267⟩
instance : FnT Tryz.prog 268 := ⟨Tryz.call268⟩
instance : FnT Tryz.prog 269 := ⟨Tryz.call269⟩
instance : FnT Tryz.prog 270 := ⟨Tryz.call270⟩
instance : FnT Tryz.prog 271 := ⟨Tryz.call271⟩
instance : FnT Tryz.prog 272 := ⟨Tryz.call272⟩
instance : FnT Tryz.prog 273 := ⟨Tryz.call273⟩
instance : FnT Tryz.prog 274 := ⟨Tryz.call274⟩
instance : FnT Tryz.prog 275 := ⟨Tryz.call275⟩
instance : FnT Tryz.prog 276 := ⟨Tryz.call276⟩
instance : FnT Tryz.prog 277 := ⟨Tryz.call277⟩
instance : FnT Tryz.prog 278 := ⟨Tryz.call278⟩
instance : FnT Tryz.prog 279 := ⟨Tryz.call279⟩
instance : FnT Tryz.prog 280 := ⟨Tryz.call280⟩
instance : FnT Tryz.prog 281 := ⟨Tryz.call281⟩
instance : FnT Tryz.prog 282 := ⟨Tryz.call282⟩
instance : FnT Tryz.prog 283 := ⟨Tryz.call283⟩
instance : FnT Tryz.prog 284 := ⟨Tryz.call284⟩
instance : FnT Tryz.prog 285 := ⟨Tryz.call285⟩
instance : FnT Tryz.prog 286 := ⟨Tryz.call286⟩
instance : FnT Tryz.prog 287 := ⟨Tryz.call287⟩
instance : FnT Tryz.prog 288 := ⟨Tryz.call288⟩
instance : FnT Tryz.prog 289 := ⟨Tryz.call289⟩
instance : FnT Tryz.prog 290 := ⟨Tryz.call290⟩
instance : FnT Tryz.prog 291 := ⟨Tryz.call291⟩
instance : FnT Tryz.prog 292 := ⟨Tryz.call292⟩
instance : FnT Tryz.prog 293 := ⟨Tryz.call293⟩
instance : FnT Tryz.prog 294 := ⟨Tryz.call294⟩
instance : FnT Tryz.prog 295 := ⟨Tryz.call295⟩
instance : FnT Tryz.prog 296 := ⟨Tryz.call296⟩
instance : FnT Tryz.prog 297 := ⟨Tryz.call297⟩
instance : FnT Tryz.prog 298 := ⟨Tryz.call298⟩
instance : FnT Tryz.prog 299 := ⟨Tryz.call299⟩
instance : FnT Tryz.prog 300 := ⟨Tryz.call300⟩
instance : FnT Tryz.prog 301 := ⟨Tryz.call301⟩
instance : FnT Tryz.prog 302 := ⟨Tryz.call302⟩
instance : FnT Tryz.prog 303 := ⟨Tryz.call303⟩
instance : FnT Tryz.prog 304 := ⟨Tryz.call304⟩
instance : FnT Tryz.prog 305 := ⟨Tryz.call305⟩
instance : FnT Tryz.prog 306 := ⟨Tryz.call306⟩
instance : FnT Tryz.prog 307 := ⟨Tryz.call307⟩
instance : FnT Tryz.prog 308 := ⟨Tryz.call308⟩
instance : FnT Tryz.prog 309 := ⟨Tryz.call309⟩
instance : FnT Tryz.prog 310 := ⟨Tryz.call310⟩
instance : FnT Tryz.prog 311 := ⟨Tryz.call311⟩
instance : FnT Tryz.prog 312 := ⟨Tryz.call312⟩
instance : FnT Tryz.prog 313 := ⟨Tryz.call313⟩
instance : FnT Tryz.prog 314 := ⟨Tryz.call314⟩
instance : FnT Tryz.prog 315 := ⟨Tryz.call315⟩
instance : FnT Tryz.prog 316 := ⟨Tryz.call316⟩
instance : FnT Tryz.prog 317 := ⟨Tryz.call317⟩
instance : FnT Tryz.prog 318 := ⟨Tryz.call318⟩
instance : FnT Tryz.prog 319 := ⟨Tryz.call319⟩
instance : FnT Tryz.prog 320 := ⟨Tryz.call320⟩
instance : FnT Tryz.prog 321 := ⟨Tryz.call321⟩
instance : FnT Tryz.prog 322 := ⟨Tryz.call322⟩
instance : FnT Tryz.prog 323 := ⟨Tryz.call323⟩
instance : FnT Tryz.prog 324 := ⟨Tryz.call324⟩
instance : FnT Tryz.prog 325 := ⟨Tryz.call325⟩
instance : FnT Tryz.prog 326 := ⟨Tryz.call326⟩
instance : FnT Tryz.prog 327 := ⟨Tryz.call327⟩
instance : FnT Tryz.prog 328 := ⟨Tryz.call328⟩
instance : FnT Tryz.prog 329 := ⟨Tryz.call329⟩
instance : FnT Tryz.prog 330 := ⟨Tryz.call330⟩
instance : FnT Tryz.prog 331 := ⟨Tryz.call331⟩
instance : FnT Tryz.prog 332 := ⟨Tryz.call332⟩
instance : FnT Tryz.prog 335 := ⟨Tryz.call335⟩
instance : FnT Tryz.prog 337 := ⟨Tryz.call337⟩
instance : FnT Tryz.prog 338 := ⟨Tryz.call338⟩
instance : FnT Tryz.prog 339 := ⟨Tryz.call339⟩
instance : FnT Tryz.prog 340 := ⟨Tryz.call340⟩
instance : FnT Tryz.prog 341 := ⟨Tryz.call341⟩
instance : FnT Tryz.prog 342 := ⟨Tryz.call342⟩
instance : FnT Tryz.prog 343 := ⟨Tryz.call343⟩
instance : FnT Tryz.prog 344 := ⟨Tryz.call344⟩
instance : FnT Tryz.prog 345 := ⟨Tryz.call345⟩
instance : FnT Tryz.prog 355 := ⟨Tryz.call355⟩
instance : FnT Tryz.prog 356 := ⟨Tryz.call356⟩
instance : FnT Tryz.prog 357 := ⟨Tryz.call357⟩
instance : FnT Tryz.prog 358 := ⟨Tryz.call358⟩
instance : FnT Tryz.prog 359 := ⟨Tryz.call359⟩
instance : FnT Tryz.prog 360 := ⟨Tryz.call360⟩
instance : FnT Tryz.prog 361 := ⟨Tryz.call361⟩
instance : FnT Tryz.prog 362 := ⟨Tryz.call362⟩
instance : FnT Tryz.prog 363 := ⟨Tryz.call363⟩
end Go.Proofs.YtembaiccchgllaaGreat
