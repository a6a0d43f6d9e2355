/- What the translation's types and functions say, as instances. -/
import Derived.Test.YtkdagmbgjddopaaChecked
import Derived.Test.YtkdagmbgjddopaaJPw
namespace Go.Proofs.Ytkdagmbgjddopaa
open Go Go.Pv Go.Proofs
set_option maxHeartbeats 32000000
set_option maxRecDepth 100000

instance : CellT Try.prog 1 := ⟨fun _ => by kernel_rfl, fun _ => by kernel_rfl⟩
instance : ZeroT Try.prog 1 [.nilFunc] := ⟨.nilFunc, fun _ => by kernel_rfl, rfl⟩
instance : CellT Try.prog 2 := ⟨fun _ => by kernel_rfl, fun _ => by kernel_rfl⟩
instance : ZeroT Try.prog 2 [(.int .i64 0)] := ⟨(.int .i64 0), fun _ => by kernel_rfl, rfl⟩
instance : CellT Try.prog 3 := ⟨fun _ => by kernel_rfl, fun _ => by kernel_rfl⟩
instance : ZeroT Try.prog 3 [(.int .i64 0)] := ⟨(.int .i64 0), fun _ => by kernel_rfl, rfl⟩
instance : BoolT Try.prog 4 := ⟨by kernel_rfl⟩
instance : CellT Try.prog 4 := ⟨fun _ => by kernel_rfl, fun _ => by kernel_rfl⟩
instance : ZeroT Try.prog 4 [(.bool false)] := ⟨(.bool false), fun _ => by kernel_rfl, rfl⟩
instance : CellT Try.prog 5 := ⟨fun _ => by kernel_rfl, fun _ => by kernel_rfl⟩
instance : ZeroT Try.prog 5 [(.int .u8 0)] := ⟨(.int .u8 0), fun _ => by kernel_rfl, rfl⟩
instance : CellT Try.prog 6 := ⟨fun _ => by kernel_rfl, fun _ => by kernel_rfl⟩
instance : ZeroT Try.prog 6 [(.int .u8 0)] := ⟨(.int .u8 0), fun _ => by kernel_rfl, rfl⟩
instance : AggT Try.prog 7 4 := ⟨fun _ => by kernel_rfl, fun _ => by kernel_rfl⟩
instance : ZeroT Try.prog 7 [(.int .i64 0), (.int .i64 0), (.bool false), (.int .u8 0)] := ⟨.agg #[(.int .i64 0), (.int .i64 0), (.bool false), (.int .u8 0)], fun _ => by kernel_rfl, rfl⟩
instance : FieldT Try.prog 7 0 0 2 1 := ⟨⟨_, _, Try.underlying7, rfl, rfl, rfl⟩, fun _ => by kernel_rfl, by decide⟩
instance : FieldT Try.prog 7 1 1 3 1 := ⟨⟨_, _, Try.underlying7, rfl, rfl, rfl⟩, fun _ => by kernel_rfl, by decide⟩
instance : FieldT Try.prog 7 2 2 4 1 := ⟨⟨_, _, Try.underlying7, rfl, rfl, rfl⟩, fun _ => by kernel_rfl, by decide⟩
instance : FieldT Try.prog 7 3 3 6 1 := ⟨⟨_, _, Try.underlying7, rfl, rfl, rfl⟩, fun _ => by kernel_rfl, by decide⟩
instance : StructT Try.prog 7 [(0, 1), (1, 1), (2, 1), (3, 1)] [(.int .i64 0), (.int .i64 0), (.bool false), (.int .u8 0)] := ⟨⟨_, Try.underlying7, fun _ => by kernel_rfl⟩, inferInstance⟩
instance : AggT Try.prog 8 4 := ⟨fun _ => by kernel_rfl, fun _ => by kernel_rfl⟩
instance : ZeroT Try.prog 8 [(.int .i64 0), (.int .i64 0), (.bool false), (.int .u8 0)] := ⟨.agg #[(.int .i64 0), (.int .i64 0), (.bool false), (.int .u8 0)], fun _ => by kernel_rfl, rfl⟩
instance : FieldT Try.prog 8 0 0 2 1 := ⟨⟨_, _, Try.underlying8, rfl, rfl, rfl⟩, fun _ => by kernel_rfl, by decide⟩
instance : FieldT Try.prog 8 1 1 3 1 := ⟨⟨_, _, Try.underlying8, rfl, rfl, rfl⟩, fun _ => by kernel_rfl, by decide⟩
instance : FieldT Try.prog 8 2 2 4 1 := ⟨⟨_, _, Try.underlying8, rfl, rfl, rfl⟩, fun _ => by kernel_rfl, by decide⟩
instance : FieldT Try.prog 8 3 3 6 1 := ⟨⟨_, _, Try.underlying8, rfl, rfl, rfl⟩, fun _ => by kernel_rfl, by decide⟩
instance : StructT Try.prog 8 [(0, 1), (1, 1), (2, 1), (3, 1)] [(.int .i64 0), (.int .i64 0), (.bool false), (.int .u8 0)] := ⟨⟨_, Try.underlying8, fun _ => by kernel_rfl⟩, inferInstance⟩
instance : CellT Try.prog 9 := ⟨fun _ => by kernel_rfl, fun _ => by kernel_rfl⟩
instance : ZeroT Try.prog 9 [(.string ByteArray.empty)] := ⟨(.string ByteArray.empty), fun _ => by kernel_rfl, rfl⟩
instance : CellT Try.prog 10 := ⟨fun _ => by kernel_rfl, fun _ => by kernel_rfl⟩
instance : ZeroT Try.prog 10 [(.string ByteArray.empty)] := ⟨(.string ByteArray.empty), fun _ => by kernel_rfl, rfl⟩
instance : CellT Try.prog 11 := ⟨fun _ => by kernel_rfl, fun _ => by kernel_rfl⟩
instance : ZeroT Try.prog 11 [(.string ByteArray.empty)] := ⟨(.string ByteArray.empty), fun _ => by kernel_rfl, rfl⟩
instance : CellT Try.prog 12 := ⟨fun _ => by kernel_rfl, fun _ => by kernel_rfl⟩
instance : ZeroT Try.prog 12 [(.int .u64 0)] := ⟨(.int .u64 0), fun _ => by kernel_rfl, rfl⟩
instance : AggT Try.prog 13 2 := ⟨fun _ => by kernel_rfl, fun _ => by kernel_rfl⟩
instance : ZeroT Try.prog 13 [(.string ByteArray.empty), (.int .u64 0)] := ⟨.agg #[(.string ByteArray.empty), (.int .u64 0)], fun _ => by kernel_rfl, rfl⟩
instance : FieldT Try.prog 13 0 0 9 1 := ⟨⟨_, _, Try.underlying13, rfl, rfl, rfl⟩, fun _ => by kernel_rfl, by decide⟩
instance : FieldT Try.prog 13 1 1 12 1 := ⟨⟨_, _, Try.underlying13, rfl, rfl, rfl⟩, fun _ => by kernel_rfl, by decide⟩
instance : StructT Try.prog 13 [(0, 1), (1, 1)] [(.string ByteArray.empty), (.int .u64 0)] := ⟨⟨_, Try.underlying13, fun _ => by kernel_rfl⟩, inferInstance⟩
instance : AggT Try.prog 14 2 := ⟨fun _ => by kernel_rfl, fun _ => by kernel_rfl⟩
instance : ZeroT Try.prog 14 [(.string ByteArray.empty), (.int .u64 0)] := ⟨.agg #[(.string ByteArray.empty), (.int .u64 0)], fun _ => by kernel_rfl, rfl⟩
instance : FieldT Try.prog 14 0 0 9 1 := ⟨⟨_, _, Try.underlying14, rfl, rfl, rfl⟩, fun _ => by kernel_rfl, by decide⟩
instance : FieldT Try.prog 14 1 1 12 1 := ⟨⟨_, _, Try.underlying14, rfl, rfl, rfl⟩, fun _ => by kernel_rfl, by decide⟩
instance : StructT Try.prog 14 [(0, 1), (1, 1)] [(.string ByteArray.empty), (.int .u64 0)] := ⟨⟨_, Try.underlying14, fun _ => by kernel_rfl⟩, inferInstance⟩
instance : CellT Try.prog 15 := ⟨fun _ => by kernel_rfl, fun _ => by kernel_rfl⟩
instance : ZeroT Try.prog 15 [(.pointer none)] := ⟨(.pointer none), fun _ => by kernel_rfl, rfl⟩
instance : CellT Try.prog 16 := ⟨fun _ => by kernel_rfl, fun _ => by kernel_rfl⟩
instance : ZeroT Try.prog 16 [(.pointer none)] := ⟨(.pointer none), fun _ => by kernel_rfl, rfl⟩
instance : CellT Try.prog 17 := ⟨fun _ => by kernel_rfl, fun _ => by kernel_rfl⟩
instance : ZeroT Try.prog 17 [(.pointer none)] := ⟨(.pointer none), fun _ => by kernel_rfl, rfl⟩
instance : AggT Try.prog 18 1 := ⟨fun _ => by kernel_rfl, fun _ => by kernel_rfl⟩
instance : ZeroT Try.prog 18 [(.pointer none)] := ⟨.agg #[(.pointer none)], fun _ => by kernel_rfl, rfl⟩
instance : FieldT Try.prog 18 0 0 17 1 := ⟨⟨_, _, Try.underlying18, rfl, rfl, rfl⟩, fun _ => by kernel_rfl, by decide⟩
instance : StructT Try.prog 18 [(0, 1)] [(.pointer none)] := ⟨⟨_, Try.underlying18, fun _ => by kernel_rfl⟩, inferInstance⟩
instance : AggT Try.prog 19 1 := ⟨fun _ => by kernel_rfl, fun _ => by kernel_rfl⟩
instance : ZeroT Try.prog 19 [(.pointer none)] := ⟨.agg #[(.pointer none)], fun _ => by kernel_rfl, rfl⟩
instance : FieldT Try.prog 19 0 0 17 1 := ⟨⟨_, _, Try.underlying19, rfl, rfl, rfl⟩, fun _ => by kernel_rfl, by decide⟩
instance : StructT Try.prog 19 [(0, 1)] [(.pointer none)] := ⟨⟨_, Try.underlying19, fun _ => by kernel_rfl⟩, inferInstance⟩
instance : CellT Try.prog 20 := ⟨fun _ => by kernel_rfl, fun _ => by kernel_rfl⟩
instance : ZeroT Try.prog 20 [.nilIface] := ⟨.nilIface, fun _ => by kernel_rfl, rfl⟩
instance : CellT Try.prog 21 := ⟨fun _ => by kernel_rfl, fun _ => by kernel_rfl⟩
instance : ZeroT Try.prog 21 [(.int .i32 0)] := ⟨(.int .i32 0), fun _ => by kernel_rfl, rfl⟩
instance : CellT Try.prog 22 := ⟨fun _ => by kernel_rfl, fun _ => by kernel_rfl⟩
instance : ZeroT Try.prog 22 [(.slice none 0 0)] := ⟨(.slice none 0 0), fun _ => by kernel_rfl, rfl⟩
instance : SlT Try.prog 22 5 1 1 := ⟨Try.underlying22, ⟨_, rfl, rfl, rfl⟩⟩
instance : MkT Try.prog 22 5 1 1 [(.int .u8 0)] := ⟨Try.underlying22, ⟨_, _, rfl, rfl, rfl, rfl, rfl⟩⟩
instance : CellT Try.prog 23 := ⟨fun _ => by kernel_rfl, fun _ => by kernel_rfl⟩
instance : ZeroT Try.prog 23 [.nilFunc] := ⟨.nilFunc, fun _ => by kernel_rfl, rfl⟩
instance : CellT Try.prog 24 := ⟨fun _ => by kernel_rfl, fun _ => by kernel_rfl⟩
instance : ZeroT Try.prog 24 [(.slice none 0 0)] := ⟨(.slice none 0 0), fun _ => by kernel_rfl, rfl⟩
instance : SlT Try.prog 24 79 2 32 := ⟨Try.underlying24, ⟨_, rfl, rfl, rfl⟩⟩
instance : MkT Try.prog 24 79 2 32 [(.int .i64 0), (.slice none 0 0)] := ⟨Try.underlying24, ⟨_, _, rfl, rfl, rfl, rfl, rfl⟩⟩
instance : AggT Try.prog 25 2 := ⟨fun _ => by kernel_rfl, fun _ => by kernel_rfl⟩
instance : ZeroT Try.prog 25 [(.int .i64 0), (.slice none 0 0)] := ⟨.agg #[(.int .i64 0), (.slice none 0 0)], fun _ => by kernel_rfl, rfl⟩
instance : FieldT Try.prog 25 0 0 3 1 := ⟨⟨_, _, Try.underlying25, rfl, rfl, rfl⟩, fun _ => by kernel_rfl, by decide⟩
instance : FieldT Try.prog 25 1 1 24 1 := ⟨⟨_, _, Try.underlying25, rfl, rfl, rfl⟩, fun _ => by kernel_rfl, by decide⟩
instance : StructT Try.prog 25 [(0, 1), (1, 1)] [(.int .i64 0), (.slice none 0 0)] := ⟨⟨_, Try.underlying25, fun _ => by kernel_rfl⟩, inferInstance⟩
instance : AggT Try.prog 26 2 := ⟨fun _ => by kernel_rfl, fun _ => by kernel_rfl⟩
instance : ZeroT Try.prog 26 [(.int .i64 0), (.slice none 0 0)] := ⟨.agg #[(.int .i64 0), (.slice none 0 0)], fun _ => by kernel_rfl, rfl⟩
instance : FieldT Try.prog 26 0 0 3 1 := ⟨⟨_, _, Try.underlying26, rfl, rfl, rfl⟩, fun _ => by kernel_rfl, by decide⟩
instance : FieldT Try.prog 26 1 1 24 1 := ⟨⟨_, _, Try.underlying26, rfl, rfl, rfl⟩, fun _ => by kernel_rfl, by decide⟩
instance : StructT Try.prog 26 [(0, 1), (1, 1)] [(.int .i64 0), (.slice none 0 0)] := ⟨⟨_, Try.underlying26, fun _ => by kernel_rfl⟩, inferInstance⟩
instance : CellT Try.prog 28 := ⟨fun _ => by kernel_rfl, fun _ => by kernel_rfl⟩
instance : ZeroT Try.prog 28 [.nilFunc] := ⟨.nilFunc, fun _ => by kernel_rfl, rfl⟩
instance : CellT Try.prog 29 := ⟨fun _ => by kernel_rfl, fun _ => by kernel_rfl⟩
instance : ZeroT Try.prog 29 [(.slice none 0 0)] := ⟨(.slice none 0 0), fun _ => by kernel_rfl, rfl⟩
instance : SlT Try.prog 29 3 1 8 := ⟨Try.underlying29, ⟨_, rfl, rfl, rfl⟩⟩
instance : MkT Try.prog 29 3 1 8 [(.int .i64 0)] := ⟨Try.underlying29, ⟨_, _, rfl, rfl, rfl, rfl, rfl⟩⟩
instance : CellT Try.prog 31 := ⟨fun _ => by kernel_rfl, fun _ => by kernel_rfl⟩
instance : ZeroT Try.prog 31 [.nilFunc] := ⟨.nilFunc, fun _ => by kernel_rfl, rfl⟩
instance : CellT Try.prog 32 := ⟨fun _ => by kernel_rfl, fun _ => by kernel_rfl⟩
instance : ZeroT Try.prog 32 [.nilFunc] := ⟨.nilFunc, fun _ => by kernel_rfl, rfl⟩
instance : CellT Try.prog 33 := ⟨fun _ => by kernel_rfl, fun _ => by kernel_rfl⟩
instance : ZeroT Try.prog 33 [.nilFunc] := ⟨.nilFunc, fun _ => by kernel_rfl, rfl⟩
instance : CellT Try.prog 34 := ⟨fun _ => by kernel_rfl, fun _ => by kernel_rfl⟩
instance : ZeroT Try.prog 34 [(.slice none 0 0)] := ⟨(.slice none 0 0), fun _ => by kernel_rfl, rfl⟩
instance : SlT Try.prog 34 37 2 16 := ⟨Try.underlying34, ⟨_, rfl, rfl, rfl⟩⟩
instance : MkT Try.prog 34 37 2 16 [(.int .i64 0), (.int .i64 0)] := ⟨Try.underlying34, ⟨_, _, rfl, rfl, rfl, rfl, rfl⟩⟩
instance : CellT Try.prog 36 := ⟨fun _ => by kernel_rfl, fun _ => by kernel_rfl⟩
instance : ZeroT Try.prog 36 [.nilFunc] := ⟨.nilFunc, fun _ => by kernel_rfl, rfl⟩
instance : AggT Try.prog 37 2 := ⟨fun _ => by kernel_rfl, fun _ => by kernel_rfl⟩
instance : ZeroT Try.prog 37 [(.int .i64 0), (.int .i64 0)] := ⟨.agg #[(.int .i64 0), (.int .i64 0)], fun _ => by kernel_rfl, rfl⟩
instance : ArrT Try.prog 37 2 3 1 := ⟨Try.underlying37, fun _ => by kernel_rfl⟩
instance : CellT Try.prog 38 := ⟨fun _ => by kernel_rfl, fun _ => by kernel_rfl⟩
instance : ZeroT Try.prog 38 [(.slice none 0 0)] := ⟨(.slice none 0 0), fun _ => by kernel_rfl, rfl⟩
instance : SlT Try.prog 38 29 1 24 := ⟨Try.underlying38, ⟨_, rfl, rfl, rfl⟩⟩
instance : MkT Try.prog 38 29 1 24 [(.slice none 0 0)] := ⟨Try.underlying38, ⟨_, _, rfl, rfl, rfl, rfl, rfl⟩⟩
instance : CellT Try.prog 40 := ⟨fun _ => by kernel_rfl, fun _ => by kernel_rfl⟩
instance : ZeroT Try.prog 40 [.nilFunc] := ⟨.nilFunc, fun _ => by kernel_rfl, rfl⟩
instance : CellT Try.prog 41 := ⟨fun _ => by kernel_rfl, fun _ => by kernel_rfl⟩
instance : ZeroT Try.prog 41 [.nilFunc] := ⟨.nilFunc, fun _ => by kernel_rfl, rfl⟩
instance : CellT Try.prog 42 := ⟨fun _ => by kernel_rfl, fun _ => by kernel_rfl⟩
instance : ZeroT Try.prog 42 [.nilFunc] := ⟨.nilFunc, fun _ => by kernel_rfl, rfl⟩
instance : CellT Try.prog 43 := ⟨fun _ => by kernel_rfl, fun _ => by kernel_rfl⟩
instance : ZeroT Try.prog 43 [.nilFunc] := ⟨.nilFunc, fun _ => by kernel_rfl, rfl⟩
instance : CellT Try.prog 45 := ⟨fun _ => by kernel_rfl, fun _ => by kernel_rfl⟩
instance : ZeroT Try.prog 45 [.nilFunc] := ⟨.nilFunc, fun _ => by kernel_rfl, rfl⟩
instance : CellT Try.prog 47 := ⟨fun _ => by kernel_rfl, fun _ => by kernel_rfl⟩
instance : ZeroT Try.prog 47 [.nilFunc] := ⟨.nilFunc, fun _ => by kernel_rfl, rfl⟩
instance : CellT Try.prog 49 := ⟨fun _ => by kernel_rfl, fun _ => by kernel_rfl⟩
instance : ZeroT Try.prog 49 [.nilFunc] := ⟨.nilFunc, fun _ => by kernel_rfl, rfl⟩
instance : CellT Try.prog 50 := ⟨fun _ => by kernel_rfl, fun _ => by kernel_rfl⟩
instance : ZeroT Try.prog 50 [(.pointer none)] := ⟨(.pointer none), fun _ => by kernel_rfl, rfl⟩
instance : CellT Try.prog 51 := ⟨fun _ => by kernel_rfl, fun _ => by kernel_rfl⟩
instance : ZeroT Try.prog 51 [(.int .u64 0)] := ⟨(.int .u64 0), fun _ => by kernel_rfl, rfl⟩
instance : AggT Try.prog 52 3 := ⟨fun _ => by kernel_rfl, fun _ => by kernel_rfl⟩
instance : ZeroT Try.prog 52 [(.slice none 0 0), (.int .i64 0), (.int .u64 0)] := ⟨.agg #[(.slice none 0 0), (.int .i64 0), (.int .u64 0)], fun _ => by kernel_rfl, rfl⟩
instance : FieldT Try.prog 52 0 0 22 1 := ⟨⟨_, _, Try.underlying52, rfl, rfl, rfl⟩, fun _ => by kernel_rfl, by decide⟩
instance : FieldT Try.prog 52 1 1 3 1 := ⟨⟨_, _, Try.underlying52, rfl, rfl, rfl⟩, fun _ => by kernel_rfl, by decide⟩
instance : FieldT Try.prog 52 2 2 51 1 := ⟨⟨_, _, Try.underlying52, rfl, rfl, rfl⟩, fun _ => by kernel_rfl, by decide⟩
instance : StructT Try.prog 52 [(0, 1), (1, 1), (2, 1)] [(.slice none 0 0), (.int .i64 0), (.int .u64 0)] := ⟨⟨_, Try.underlying52, fun _ => by kernel_rfl⟩, inferInstance⟩
instance : AggT Try.prog 53 3 := ⟨fun _ => by kernel_rfl, fun _ => by kernel_rfl⟩
instance : ZeroT Try.prog 53 [(.slice none 0 0), (.int .i64 0), (.int .u64 0)] := ⟨.agg #[(.slice none 0 0), (.int .i64 0), (.int .u64 0)], fun _ => by kernel_rfl, rfl⟩
instance : FieldT Try.prog 53 0 0 22 1 := ⟨⟨_, _, Try.underlying53, rfl, rfl, rfl⟩, fun _ => by kernel_rfl, by decide⟩
instance : FieldT Try.prog 53 1 1 3 1 := ⟨⟨_, _, Try.underlying53, rfl, rfl, rfl⟩, fun _ => by kernel_rfl, by decide⟩
instance : FieldT Try.prog 53 2 2 51 1 := ⟨⟨_, _, Try.underlying53, rfl, rfl, rfl⟩, fun _ => by kernel_rfl, by decide⟩
instance : StructT Try.prog 53 [(0, 1), (1, 1), (2, 1)] [(.slice none 0 0), (.int .i64 0), (.int .u64 0)] := ⟨⟨_, Try.underlying53, fun _ => by kernel_rfl⟩, inferInstance⟩
instance : CellT Try.prog 54 := ⟨fun _ => by kernel_rfl, fun _ => by kernel_rfl⟩
instance : ZeroT Try.prog 54 [.nilFunc] := ⟨.nilFunc, fun _ => by kernel_rfl, rfl⟩
instance : CellT Try.prog 55 := ⟨fun _ => by kernel_rfl, fun _ => by kernel_rfl⟩
instance : ZeroT Try.prog 55 [.nilFunc] := ⟨.nilFunc, fun _ => by kernel_rfl, rfl⟩
instance : CellT Try.prog 56 := ⟨fun _ => by kernel_rfl, fun _ => by kernel_rfl⟩
instance : ZeroT Try.prog 56 [.nilFunc] := ⟨.nilFunc, fun _ => by kernel_rfl, rfl⟩
instance : CellT Try.prog 57 := ⟨fun _ => by kernel_rfl, fun _ => by kernel_rfl⟩
instance : ZeroT Try.prog 57 [(.slice none 0 0)] := ⟨(.slice none 0 0), fun _ => by kernel_rfl, rfl⟩
instance : SlT Try.prog 57 4 1 1 := ⟨Try.underlying57, ⟨_, rfl, rfl, rfl⟩⟩
instance : MkT Try.prog 57 4 1 1 [(.bool false)] := ⟨Try.underlying57, ⟨_, _, rfl, rfl, rfl, rfl, rfl⟩⟩
instance : CellT Try.prog 58 := ⟨fun _ => by kernel_rfl, fun _ => by kernel_rfl⟩
instance : ZeroT Try.prog 58 [.nilFunc] := ⟨.nilFunc, fun _ => by kernel_rfl, rfl⟩
instance : CellT Try.prog 59 := ⟨fun _ => by kernel_rfl, fun _ => by kernel_rfl⟩
instance : ZeroT Try.prog 59 [.nilFunc] := ⟨.nilFunc, fun _ => by kernel_rfl, rfl⟩
instance : CellT Try.prog 60 := ⟨fun _ => by kernel_rfl, fun _ => by kernel_rfl⟩
instance : ZeroT Try.prog 60 [.nilFunc] := ⟨.nilFunc, fun _ => by kernel_rfl, rfl⟩
instance : CellT Try.prog 61 := ⟨fun _ => by kernel_rfl, fun _ => by kernel_rfl⟩
instance : ZeroT Try.prog 61 [.nilFunc] := ⟨.nilFunc, fun _ => by kernel_rfl, rfl⟩
instance : CellT Try.prog 62 := ⟨fun _ => by kernel_rfl, fun _ => by kernel_rfl⟩
instance : ZeroT Try.prog 62 [(.slice none 0 0)] := ⟨(.slice none 0 0), fun _ => by kernel_rfl, rfl⟩
instance : SlT Try.prog 62 57 1 24 := ⟨Try.underlying62, ⟨_, rfl, rfl, rfl⟩⟩
instance : MkT Try.prog 62 57 1 24 [(.slice none 0 0)] := ⟨Try.underlying62, ⟨_, _, rfl, rfl, rfl, rfl, rfl⟩⟩
instance : CellT Try.prog 63 := ⟨fun _ => by kernel_rfl, fun _ => by kernel_rfl⟩
instance : ZeroT Try.prog 63 [.nilFunc] := ⟨.nilFunc, fun _ => by kernel_rfl, rfl⟩
instance : CellT Try.prog 64 := ⟨fun _ => by kernel_rfl, fun _ => by kernel_rfl⟩
instance : ZeroT Try.prog 64 [.nilFunc] := ⟨.nilFunc, fun _ => by kernel_rfl, rfl⟩
instance : CellT Try.prog 65 := ⟨fun _ => by kernel_rfl, fun _ => by kernel_rfl⟩
instance : ZeroT Try.prog 65 [.nilFunc] := ⟨.nilFunc, fun _ => by kernel_rfl, rfl⟩
instance : CellT Try.prog 66 := ⟨fun _ => by kernel_rfl, fun _ => by kernel_rfl⟩
instance : ZeroT Try.prog 66 [.nilFunc] := ⟨.nilFunc, fun _ => by kernel_rfl, rfl⟩
instance : CellT Try.prog 67 := ⟨fun _ => by kernel_rfl, fun _ => by kernel_rfl⟩
instance : ZeroT Try.prog 67 [.nilFunc] := ⟨.nilFunc, fun _ => by kernel_rfl, rfl⟩
instance : CellT Try.prog 68 := ⟨fun _ => by kernel_rfl, fun _ => by kernel_rfl⟩
instance : ZeroT Try.prog 68 [.nilFunc] := ⟨.nilFunc, fun _ => by kernel_rfl, rfl⟩
instance : CellT Try.prog 69 := ⟨fun _ => by kernel_rfl, fun _ => by kernel_rfl⟩
instance : ZeroT Try.prog 69 [.nilFunc] := ⟨.nilFunc, fun _ => by kernel_rfl, rfl⟩
instance : CellT Try.prog 70 := ⟨fun _ => by kernel_rfl, fun _ => by kernel_rfl⟩
instance : ZeroT Try.prog 70 [.nilFunc] := ⟨.nilFunc, fun _ => by kernel_rfl, rfl⟩
instance : CellT Try.prog 71 := ⟨fun _ => by kernel_rfl, fun _ => by kernel_rfl⟩
instance : ZeroT Try.prog 71 [.nilFunc] := ⟨.nilFunc, fun _ => by kernel_rfl, rfl⟩
instance : CellT Try.prog 72 := ⟨fun _ => by kernel_rfl, fun _ => by kernel_rfl⟩
instance : ZeroT Try.prog 72 [.nilFunc] := ⟨.nilFunc, fun _ => by kernel_rfl, rfl⟩
instance : CellT Try.prog 73 := ⟨fun _ => by kernel_rfl, fun _ => by kernel_rfl⟩
instance : ZeroT Try.prog 73 [.nilFunc] := ⟨.nilFunc, fun _ => by kernel_rfl, rfl⟩
instance : CellT Try.prog 74 := ⟨fun _ => by kernel_rfl, fun _ => by kernel_rfl⟩
instance : ZeroT Try.prog 74 [.nilFunc] := ⟨.nilFunc, fun _ => by kernel_rfl, rfl⟩
instance : CellT Try.prog 75 := ⟨fun _ => by kernel_rfl, fun _ => by kernel_rfl⟩
instance : ZeroT Try.prog 75 [.nilFunc] := ⟨.nilFunc, fun _ => by kernel_rfl, rfl⟩
instance : CellT Try.prog 76 := ⟨fun _ => by kernel_rfl, fun _ => by kernel_rfl⟩
instance : ZeroT Try.prog 76 [.nilFunc] := ⟨.nilFunc, fun _ => by kernel_rfl, rfl⟩
instance : CellT Try.prog 77 := ⟨fun _ => by kernel_rfl, fun _ => by kernel_rfl⟩
instance : ZeroT Try.prog 77 [.nilFunc] := ⟨.nilFunc, fun _ => by kernel_rfl, rfl⟩
instance : AggT Try.prog 78 2 := ⟨fun _ => by kernel_rfl, fun _ => by kernel_rfl⟩
instance : ZeroT Try.prog 78 [(.int .i64 0), (.slice none 0 0)] := ⟨.agg #[(.int .i64 0), (.slice none 0 0)], fun _ => by kernel_rfl, rfl⟩
instance : FieldT Try.prog 78 0 0 3 1 := ⟨⟨_, _, Try.underlying78, rfl, rfl, rfl⟩, fun _ => by kernel_rfl, by decide⟩
instance : FieldT Try.prog 78 1 1 29 1 := ⟨⟨_, _, Try.underlying78, rfl, rfl, rfl⟩, fun _ => by kernel_rfl, by decide⟩
instance : StructT Try.prog 78 [(0, 1), (1, 1)] [(.int .i64 0), (.slice none 0 0)] := ⟨⟨_, Try.underlying78, fun _ => by kernel_rfl⟩, inferInstance⟩
instance : AggT Try.prog 79 2 := ⟨fun _ => by kernel_rfl, fun _ => by kernel_rfl⟩
instance : ZeroT Try.prog 79 [(.int .i64 0), (.slice none 0 0)] := ⟨.agg #[(.int .i64 0), (.slice none 0 0)], fun _ => by kernel_rfl, rfl⟩
instance : FieldT Try.prog 79 0 0 3 1 := ⟨⟨_, _, Try.underlying79, rfl, rfl, rfl⟩, fun _ => by kernel_rfl, by decide⟩
instance : FieldT Try.prog 79 1 1 29 1 := ⟨⟨_, _, Try.underlying79, rfl, rfl, rfl⟩, fun _ => by kernel_rfl, by decide⟩
instance : StructT Try.prog 79 [(0, 1), (1, 1)] [(.int .i64 0), (.slice none 0 0)] := ⟨⟨_, Try.underlying79, fun _ => by kernel_rfl⟩, inferInstance⟩
instance : CellT Try.prog 80 := ⟨fun _ => by kernel_rfl, fun _ => by kernel_rfl⟩
instance : ZeroT Try.prog 80 [.nilFunc] := ⟨.nilFunc, fun _ => by kernel_rfl, rfl⟩
instance : CellT Try.prog 81 := ⟨fun _ => by kernel_rfl, fun _ => by kernel_rfl⟩
instance : ZeroT Try.prog 81 [.nilFunc] := ⟨.nilFunc, fun _ => by kernel_rfl, rfl⟩
instance : CellT Try.prog 82 := ⟨fun _ => by kernel_rfl, fun _ => by kernel_rfl⟩
instance : ZeroT Try.prog 82 [.nilFunc] := ⟨.nilFunc, fun _ => by kernel_rfl, rfl⟩
instance : CellT Try.prog 83 := ⟨fun _ => by kernel_rfl, fun _ => by kernel_rfl⟩
instance : ZeroT Try.prog 83 [.nilFunc] := ⟨.nilFunc, fun _ => by kernel_rfl, rfl⟩
instance : CellT Try.prog 84 := ⟨fun _ => by kernel_rfl, fun _ => by kernel_rfl⟩
instance : ZeroT Try.prog 84 [.nilFunc] := ⟨.nilFunc, fun _ => by kernel_rfl, rfl⟩
instance : CellT Try.prog 85 := ⟨fun _ => by kernel_rfl, fun _ => by kernel_rfl⟩
instance : ZeroT Try.prog 85 [.nilFunc] := ⟨.nilFunc, fun _ => by kernel_rfl, rfl⟩
instance : CellT Try.prog 86 := ⟨fun _ => by kernel_rfl, fun _ => by kernel_rfl⟩
instance : ZeroT Try.prog 86 [.nilFunc] := ⟨.nilFunc, fun _ => by kernel_rfl, rfl⟩
instance : CellT Try.prog 87 := ⟨fun _ => by kernel_rfl, fun _ => by kernel_rfl⟩
instance : ZeroT Try.prog 87 [.nilFunc] := ⟨.nilFunc, fun _ => by kernel_rfl, rfl⟩
instance : CellT Try.prog 88 := ⟨fun _ => by kernel_rfl, fun _ => by kernel_rfl⟩
instance : ZeroT Try.prog 88 [.nilFunc] := ⟨.nilFunc, fun _ => by kernel_rfl, rfl⟩
instance : CellT Try.prog 89 := ⟨fun _ => by kernel_rfl, fun _ => by kernel_rfl⟩
instance : ZeroT Try.prog 89 [.nilFunc] := ⟨.nilFunc, fun _ => by kernel_rfl, rfl⟩
instance : CellT Try.prog 90 := ⟨fun _ => by kernel_rfl, fun _ => by kernel_rfl⟩
instance : ZeroT Try.prog 90 [.nilFunc] := ⟨.nilFunc, fun _ => by kernel_rfl, rfl⟩
instance : CellT Try.prog 92 := ⟨fun _ => by kernel_rfl, fun _ => by kernel_rfl⟩
instance : ZeroT Try.prog 92 [.nilFunc] := ⟨.nilFunc, fun _ => by kernel_rfl, rfl⟩
instance : CellT Try.prog 93 := ⟨fun _ => by kernel_rfl, fun _ => by kernel_rfl⟩
instance : ZeroT Try.prog 93 [.nilFunc] := ⟨.nilFunc, fun _ => by kernel_rfl, rfl⟩
instance : CellT Try.prog 95 := ⟨fun _ => by kernel_rfl, fun _ => by kernel_rfl⟩
instance : ZeroT Try.prog 95 [.nilFunc] := ⟨.nilFunc, fun _ => by kernel_rfl, rfl⟩
instance : CellT Try.prog 96 := ⟨fun _ => by kernel_rfl, fun _ => by kernel_rfl⟩
instance : ZeroT Try.prog 96 [.nilFunc] := ⟨.nilFunc, fun _ => by kernel_rfl, rfl⟩
instance : CellT Try.prog 97 := ⟨fun _ => by kernel_rfl, fun _ => by kernel_rfl⟩
instance : ZeroT Try.prog 97 [.nilFunc] := ⟨.nilFunc, fun _ => by kernel_rfl, rfl⟩
instance : CellT Try.prog 98 := ⟨fun _ => by kernel_rfl, fun _ => by kernel_rfl⟩
instance : ZeroT Try.prog 98 [.nilFunc] := ⟨.nilFunc, fun _ => by kernel_rfl, rfl⟩
instance : CellT Try.prog 99 := ⟨fun _ => by kernel_rfl, fun _ => by kernel_rfl⟩
instance : ZeroT Try.prog 99 [.nilFunc] := ⟨.nilFunc, fun _ => by kernel_rfl, rfl⟩
instance : CellT Try.prog 100 := ⟨fun _ => by kernel_rfl, fun _ => by kernel_rfl⟩
instance : ZeroT Try.prog 100 [.nilFunc] := ⟨.nilFunc, fun _ => by kernel_rfl, rfl⟩
instance : CellT Try.prog 101 := ⟨fun _ => by kernel_rfl, fun _ => by kernel_rfl⟩
instance : ZeroT Try.prog 101 [.nilFunc] := ⟨.nilFunc, fun _ => by kernel_rfl, rfl⟩
instance : CellT Try.prog 102 := ⟨fun _ => by kernel_rfl, fun _ => by kernel_rfl⟩
instance : ZeroT Try.prog 102 [(.map none)] := ⟨(.map none), fun _ => by kernel_rfl, rfl⟩
instance : CellT Try.prog 103 := ⟨fun _ => by kernel_rfl, fun _ => by kernel_rfl⟩
instance : ZeroT Try.prog 103 [.nilFunc] := ⟨.nilFunc, fun _ => by kernel_rfl, rfl⟩
instance : CellT Try.prog 104 := ⟨fun _ => by kernel_rfl, fun _ => by kernel_rfl⟩
instance : ZeroT Try.prog 104 [.nilFunc] := ⟨.nilFunc, fun _ => by kernel_rfl, rfl⟩
instance : CellT Try.prog 105 := ⟨fun _ => by kernel_rfl, fun _ => by kernel_rfl⟩
instance : ZeroT Try.prog 105 [.nilFunc] := ⟨.nilFunc, fun _ => by kernel_rfl, rfl⟩
instance : CellT Try.prog 106 := ⟨fun _ => by kernel_rfl, fun _ => by kernel_rfl⟩
instance : ZeroT Try.prog 106 [.nilFunc] := ⟨.nilFunc, fun _ => by kernel_rfl, rfl⟩
instance : CellT Try.prog 107 := ⟨fun _ => by kernel_rfl, fun _ => by kernel_rfl⟩
instance : ZeroT Try.prog 107 [.nilFunc] := ⟨.nilFunc, fun _ => by kernel_rfl, rfl⟩
instance : CellT Try.prog 108 := ⟨fun _ => by kernel_rfl, fun _ => by kernel_rfl⟩
instance : ZeroT Try.prog 108 [(.int .u64 0)] := ⟨(.int .u64 0), fun _ => by kernel_rfl, rfl⟩
instance : CellT Try.prog 109 := ⟨fun _ => by kernel_rfl, fun _ => by kernel_rfl⟩
instance : ZeroT Try.prog 109 [.nilFunc] := ⟨.nilFunc, fun _ => by kernel_rfl, rfl⟩
instance : CellT Try.prog 110 := ⟨fun _ => by kernel_rfl, fun _ => by kernel_rfl⟩
instance : ZeroT Try.prog 110 [.nilFunc] := ⟨.nilFunc, fun _ => by kernel_rfl, rfl⟩
instance : CellT Try.prog 111 := ⟨fun _ => by kernel_rfl, fun _ => by kernel_rfl⟩
instance : ZeroT Try.prog 111 [.nilFunc] := ⟨.nilFunc, fun _ => by kernel_rfl, rfl⟩
instance : CellT Try.prog 112 := ⟨fun _ => by kernel_rfl, fun _ => by kernel_rfl⟩
instance : ZeroT Try.prog 112 [(.pointer none)] := ⟨(.pointer none), fun _ => by kernel_rfl, rfl⟩
instance : CellT Try.prog 113 := ⟨fun _ => by kernel_rfl, fun _ => by kernel_rfl⟩
instance : ZeroT Try.prog 113 [(.int .u64 0)] := ⟨(.int .u64 0), fun _ => by kernel_rfl, rfl⟩
instance : AggT Try.prog 114 3 := ⟨fun _ => by kernel_rfl, fun _ => by kernel_rfl⟩
instance : ZeroT Try.prog 114 [(.pointer none), (.pointer none), (.int .u64 0)] := ⟨.agg #[(.pointer none), (.pointer none), (.int .u64 0)], fun _ => by kernel_rfl, rfl⟩
instance : FieldT Try.prog 114 0 0 17 1 := ⟨⟨_, _, Try.underlying114, rfl, rfl, rfl⟩, fun _ => by kernel_rfl, by decide⟩
instance : FieldT Try.prog 114 1 1 112 1 := ⟨⟨_, _, Try.underlying114, rfl, rfl, rfl⟩, fun _ => by kernel_rfl, by decide⟩
instance : FieldT Try.prog 114 2 2 113 1 := ⟨⟨_, _, Try.underlying114, rfl, rfl, rfl⟩, fun _ => by kernel_rfl, by decide⟩
instance : StructT Try.prog 114 [(0, 1), (1, 1), (2, 1)] [(.pointer none), (.pointer none), (.int .u64 0)] := ⟨⟨_, Try.underlying114, fun _ => by kernel_rfl⟩, inferInstance⟩
instance : AggT Try.prog 115 3 := ⟨fun _ => by kernel_rfl, fun _ => by kernel_rfl⟩
instance : ZeroT Try.prog 115 [(.pointer none), (.pointer none), (.int .u64 0)] := ⟨.agg #[(.pointer none), (.pointer none), (.int .u64 0)], fun _ => by kernel_rfl, rfl⟩
instance : FieldT Try.prog 115 0 0 17 1 := ⟨⟨_, _, Try.underlying115, rfl, rfl, rfl⟩, fun _ => by kernel_rfl, by decide⟩
instance : FieldT Try.prog 115 1 1 112 1 := ⟨⟨_, _, Try.underlying115, rfl, rfl, rfl⟩, fun _ => by kernel_rfl, by decide⟩
instance : FieldT Try.prog 115 2 2 113 1 := ⟨⟨_, _, Try.underlying115, rfl, rfl, rfl⟩, fun _ => by kernel_rfl, by decide⟩
instance : StructT Try.prog 115 [(0, 1), (1, 1), (2, 1)] [(.pointer none), (.pointer none), (.int .u64 0)] := ⟨⟨_, Try.underlying115, fun _ => by kernel_rfl⟩, inferInstance⟩
instance : CellT Try.prog 116 := ⟨fun _ => by kernel_rfl, fun _ => by kernel_rfl⟩
instance : ZeroT Try.prog 116 [.nilFunc] := ⟨.nilFunc, fun _ => by kernel_rfl, rfl⟩
instance : CellT Try.prog 117 := ⟨fun _ => by kernel_rfl, fun _ => by kernel_rfl⟩
instance : ZeroT Try.prog 117 [.nilFunc] := ⟨.nilFunc, fun _ => by kernel_rfl, rfl⟩
instance : CellT Try.prog 118 := ⟨fun _ => by kernel_rfl, fun _ => by kernel_rfl⟩
instance : ZeroT Try.prog 118 [.nilFunc] := ⟨.nilFunc, fun _ => by kernel_rfl, rfl⟩
instance : CellT Try.prog 119 := ⟨fun _ => by kernel_rfl, fun _ => by kernel_rfl⟩
instance : ZeroT Try.prog 119 [.nilFunc] := ⟨.nilFunc, fun _ => by kernel_rfl, rfl⟩
instance : AggT Try.prog 120 2 := ⟨fun _ => by kernel_rfl, fun _ => by kernel_rfl⟩
instance : ZeroT Try.prog 120 [.nilFunc, .nilFunc] := ⟨.agg #[.nilFunc, .nilFunc], fun _ => by kernel_rfl, rfl⟩
instance : FieldT Try.prog 120 0 0 59 1 := ⟨⟨_, _, Try.underlying120, rfl, rfl, rfl⟩, fun _ => by kernel_rfl, by decide⟩
instance : FieldT Try.prog 120 1 1 117 1 := ⟨⟨_, _, Try.underlying120, rfl, rfl, rfl⟩, fun _ => by kernel_rfl, by decide⟩
instance : StructT Try.prog 120 [(0, 1), (1, 1)] [.nilFunc, .nilFunc] := ⟨⟨_, Try.underlying120, fun _ => by kernel_rfl⟩, inferInstance⟩
instance : AggT Try.prog 121 2 := ⟨fun _ => by kernel_rfl, fun _ => by kernel_rfl⟩
instance : ZeroT Try.prog 121 [.nilFunc, .nilFunc] := ⟨.agg #[.nilFunc, .nilFunc], fun _ => by kernel_rfl, rfl⟩
instance : FieldT Try.prog 121 0 0 59 1 := ⟨⟨_, _, Try.underlying121, rfl, rfl, rfl⟩, fun _ => by kernel_rfl, by decide⟩
instance : FieldT Try.prog 121 1 1 117 1 := ⟨⟨_, _, Try.underlying121, rfl, rfl, rfl⟩, fun _ => by kernel_rfl, by decide⟩
instance : StructT Try.prog 121 [(0, 1), (1, 1)] [.nilFunc, .nilFunc] := ⟨⟨_, Try.underlying121, fun _ => by kernel_rfl⟩, inferInstance⟩
instance : CellT Try.prog 122 := ⟨fun _ => by kernel_rfl, fun _ => by kernel_rfl⟩
instance : ZeroT Try.prog 122 [.nilFunc] := ⟨.nilFunc, fun _ => by kernel_rfl, rfl⟩
instance : AggT Try.prog 123 1 := ⟨fun _ => by kernel_rfl, fun _ => by kernel_rfl⟩
instance : ZeroT Try.prog 123 [(.pointer none)] := ⟨.agg #[(.pointer none)], fun _ => by kernel_rfl, rfl⟩
instance : FieldT Try.prog 123 0 0 17 1 := ⟨⟨_, _, Try.underlying123, rfl, rfl, rfl⟩, fun _ => by kernel_rfl, by decide⟩
instance : StructT Try.prog 123 [(0, 1)] [(.pointer none)] := ⟨⟨_, Try.underlying123, fun _ => by kernel_rfl⟩, inferInstance⟩
instance : AggT Try.prog 124 1 := ⟨fun _ => by kernel_rfl, fun _ => by kernel_rfl⟩
instance : ZeroT Try.prog 124 [(.pointer none)] := ⟨.agg #[(.pointer none)], fun _ => by kernel_rfl, rfl⟩
instance : FieldT Try.prog 124 0 0 17 1 := ⟨⟨_, _, Try.underlying124, rfl, rfl, rfl⟩, fun _ => by kernel_rfl, by decide⟩
instance : StructT Try.prog 124 [(0, 1)] [(.pointer none)] := ⟨⟨_, Try.underlying124, fun _ => by kernel_rfl⟩, inferInstance⟩
instance : CellT Try.prog 125 := ⟨fun _ => by kernel_rfl, fun _ => by kernel_rfl⟩
instance : ZeroT Try.prog 125 [(.pointer none)] := ⟨(.pointer none), fun _ => by kernel_rfl, rfl⟩
instance : CellT Try.prog 126 := ⟨fun _ => by kernel_rfl, fun _ => by kernel_rfl⟩
instance : ZeroT Try.prog 126 [.nilFunc] := ⟨.nilFunc, fun _ => by kernel_rfl, rfl⟩
instance : CellT Try.prog 127 := ⟨fun _ => by kernel_rfl, fun _ => by kernel_rfl⟩
instance : ZeroT Try.prog 127 [.nilFunc] := ⟨.nilFunc, fun _ => by kernel_rfl, rfl⟩
instance : CellT Try.prog 128 := ⟨fun _ => by kernel_rfl, fun _ => by kernel_rfl⟩
instance : ZeroT Try.prog 128 [.nilFunc] := ⟨.nilFunc, fun _ => by kernel_rfl, rfl⟩
instance : AggT Try.prog 129 4 := ⟨fun _ => by kernel_rfl, fun _ => by kernel_rfl⟩
instance : ZeroT Try.prog 129 [(.pointer none), (.pointer none), (.pointer none), (.string ByteArray.empty)] := ⟨.agg #[(.pointer none), (.pointer none), (.pointer none), (.string ByteArray.empty)], fun _ => by kernel_rfl, rfl⟩
instance : FieldT Try.prog 129 0 0 17 1 := ⟨⟨_, _, Try.underlying129, rfl, rfl, rfl⟩, fun _ => by kernel_rfl, by decide⟩
instance : FieldT Try.prog 129 1 1 17 1 := ⟨⟨_, _, Try.underlying129, rfl, rfl, rfl⟩, fun _ => by kernel_rfl, by decide⟩
instance : FieldT Try.prog 129 2 2 17 1 := ⟨⟨_, _, Try.underlying129, rfl, rfl, rfl⟩, fun _ => by kernel_rfl, by decide⟩
instance : FieldT Try.prog 129 3 3 9 1 := ⟨⟨_, _, Try.underlying129, rfl, rfl, rfl⟩, fun _ => by kernel_rfl, by decide⟩
instance : StructT Try.prog 129 [(0, 1), (1, 1), (2, 1), (3, 1)] [(.pointer none), (.pointer none), (.pointer none), (.string ByteArray.empty)] := ⟨⟨_, Try.underlying129, fun _ => by kernel_rfl⟩, inferInstance⟩
instance : AggT Try.prog 130 4 := ⟨fun _ => by kernel_rfl, fun _ => by kernel_rfl⟩
instance : ZeroT Try.prog 130 [(.pointer none), (.pointer none), (.pointer none), (.string ByteArray.empty)] := ⟨.agg #[(.pointer none), (.pointer none), (.pointer none), (.string ByteArray.empty)], fun _ => by kernel_rfl, rfl⟩
instance : FieldT Try.prog 130 0 0 17 1 := ⟨⟨_, _, Try.underlying130, rfl, rfl, rfl⟩, fun _ => by kernel_rfl, by decide⟩
instance : FieldT Try.prog 130 1 1 17 1 := ⟨⟨_, _, Try.underlying130, rfl, rfl, rfl⟩, fun _ => by kernel_rfl, by decide⟩
instance : FieldT Try.prog 130 2 2 17 1 := ⟨⟨_, _, Try.underlying130, rfl, rfl, rfl⟩, fun _ => by kernel_rfl, by decide⟩
instance : FieldT Try.prog 130 3 3 9 1 := ⟨⟨_, _, Try.underlying130, rfl, rfl, rfl⟩, fun _ => by kernel_rfl, by decide⟩
instance : StructT Try.prog 130 [(0, 1), (1, 1), (2, 1), (3, 1)] [(.pointer none), (.pointer none), (.pointer none), (.string ByteArray.empty)] := ⟨⟨_, Try.underlying130, fun _ => by kernel_rfl⟩, inferInstance⟩
instance : AggT Try.prog 131 0 := ⟨fun _ => by kernel_rfl, fun _ => by kernel_rfl⟩
instance : AggT Try.prog 132 0 := ⟨fun _ => by kernel_rfl, fun _ => by kernel_rfl⟩
instance : AggT Try.prog 133 0 := ⟨fun _ => by kernel_rfl, fun _ => by kernel_rfl⟩
instance : CellT Try.prog 134 := ⟨fun _ => by kernel_rfl, fun _ => by kernel_rfl⟩
instance : ZeroT Try.prog 134 [(.int .u32 0)] := ⟨(.int .u32 0), fun _ => by kernel_rfl, rfl⟩
instance : CellT Try.prog 135 := ⟨fun _ => by kernel_rfl, fun _ => by kernel_rfl⟩
instance : ZeroT Try.prog 135 [(.int .u8 0)] := ⟨(.int .u8 0), fun _ => by kernel_rfl, rfl⟩
instance : CellT Try.prog 136 := ⟨fun _ => by kernel_rfl, fun _ => by kernel_rfl⟩
instance : ZeroT Try.prog 136 [(.int .u8 0)] := ⟨(.int .u8 0), fun _ => by kernel_rfl, rfl⟩
instance : CellT Try.prog 137 := ⟨fun _ => by kernel_rfl, fun _ => by kernel_rfl⟩
instance : ZeroT Try.prog 137 [.nilFunc] := ⟨.nilFunc, fun _ => by kernel_rfl, rfl⟩
instance : CellT Try.prog 138 := ⟨fun _ => by kernel_rfl, fun _ => by kernel_rfl⟩
instance : ZeroT Try.prog 138 [(.pointer none)] := ⟨(.pointer none), fun _ => by kernel_rfl, rfl⟩
instance : CellT Try.prog 139 := ⟨fun _ => by kernel_rfl, fun _ => by kernel_rfl⟩
instance : ZeroT Try.prog 139 [(.int .i32 0)] := ⟨(.int .i32 0), fun _ => by kernel_rfl, rfl⟩
instance : CellT Try.prog 140 := ⟨fun _ => by kernel_rfl, fun _ => by kernel_rfl⟩
instance : ZeroT Try.prog 140 [(.int .i32 0)] := ⟨(.int .i32 0), fun _ => by kernel_rfl, rfl⟩
instance : AggT Try.prog 141 11 := ⟨fun _ => by kernel_rfl, fun _ => by kernel_rfl⟩
instance : ZeroT Try.prog 141 [(.int .u64 0), (.int .u64 0), (.int .u32 0), (.int .u8 0), (.int .u8 0), (.int .u8 0), (.int .u8 0), .nilFunc, (.pointer none), (.int .i32 0), (.int .i32 0)] := ⟨.agg #[(.int .u64 0), (.int .u64 0), (.int .u32 0), (.int .u8 0), (.int .u8 0), (.int .u8 0), (.int .u8 0), .nilFunc, (.pointer none), (.int .i32 0), (.int .i32 0)], fun _ => by kernel_rfl, rfl⟩
instance : FieldT Try.prog 141 0 0 12 1 := ⟨⟨_, _, Try.underlying141, rfl, rfl, rfl⟩, fun _ => by kernel_rfl, by decide⟩
instance : FieldT Try.prog 141 1 1 12 1 := ⟨⟨_, _, Try.underlying141, rfl, rfl, rfl⟩, fun _ => by kernel_rfl, by decide⟩
instance : FieldT Try.prog 141 2 2 134 1 := ⟨⟨_, _, Try.underlying141, rfl, rfl, rfl⟩, fun _ => by kernel_rfl, by decide⟩
instance : FieldT Try.prog 141 3 3 135 1 := ⟨⟨_, _, Try.underlying141, rfl, rfl, rfl⟩, fun _ => by kernel_rfl, by decide⟩
instance : FieldT Try.prog 141 4 4 5 1 := ⟨⟨_, _, Try.underlying141, rfl, rfl, rfl⟩, fun _ => by kernel_rfl, by decide⟩
instance : FieldT Try.prog 141 5 5 5 1 := ⟨⟨_, _, Try.underlying141, rfl, rfl, rfl⟩, fun _ => by kernel_rfl, by decide⟩
instance : FieldT Try.prog 141 6 6 136 1 := ⟨⟨_, _, Try.underlying141, rfl, rfl, rfl⟩, fun _ => by kernel_rfl, by decide⟩
instance : FieldT Try.prog 141 7 7 137 1 := ⟨⟨_, _, Try.underlying141, rfl, rfl, rfl⟩, fun _ => by kernel_rfl, by decide⟩
instance : FieldT Try.prog 141 8 8 138 1 := ⟨⟨_, _, Try.underlying141, rfl, rfl, rfl⟩, fun _ => by kernel_rfl, by decide⟩
instance : FieldT Try.prog 141 9 9 139 1 := ⟨⟨_, _, Try.underlying141, rfl, rfl, rfl⟩, fun _ => by kernel_rfl, by decide⟩
instance : FieldT Try.prog 141 10 10 140 1 := ⟨⟨_, _, Try.underlying141, rfl, rfl, rfl⟩, fun _ => by kernel_rfl, by decide⟩
instance : StructT Try.prog 141 [(0, 1), (1, 1), (2, 1), (3, 1), (4, 1), (5, 1), (6, 1), (7, 1), (8, 1), (9, 1), (10, 1)] [(.int .u64 0), (.int .u64 0), (.int .u32 0), (.int .u8 0), (.int .u8 0), (.int .u8 0), (.int .u8 0), .nilFunc, (.pointer none), (.int .i32 0), (.int .i32 0)] := ⟨⟨_, Try.underlying141, fun _ => by kernel_rfl⟩, inferInstance⟩
instance : AggT Try.prog 142 11 := ⟨fun _ => by kernel_rfl, fun _ => by kernel_rfl⟩
instance : ZeroT Try.prog 142 [(.int .u64 0), (.int .u64 0), (.int .u32 0), (.int .u8 0), (.int .u8 0), (.int .u8 0), (.int .u8 0), .nilFunc, (.pointer none), (.int .i32 0), (.int .i32 0)] := ⟨.agg #[(.int .u64 0), (.int .u64 0), (.int .u32 0), (.int .u8 0), (.int .u8 0), (.int .u8 0), (.int .u8 0), .nilFunc, (.pointer none), (.int .i32 0), (.int .i32 0)], fun _ => by kernel_rfl, rfl⟩
instance : FieldT Try.prog 142 0 0 12 1 := ⟨⟨_, _, Try.underlying142, rfl, rfl, rfl⟩, fun _ => by kernel_rfl, by decide⟩
instance : FieldT Try.prog 142 1 1 12 1 := ⟨⟨_, _, Try.underlying142, rfl, rfl, rfl⟩, fun _ => by kernel_rfl, by decide⟩
instance : FieldT Try.prog 142 2 2 134 1 := ⟨⟨_, _, Try.underlying142, rfl, rfl, rfl⟩, fun _ => by kernel_rfl, by decide⟩
instance : FieldT Try.prog 142 3 3 135 1 := ⟨⟨_, _, Try.underlying142, rfl, rfl, rfl⟩, fun _ => by kernel_rfl, by decide⟩
instance : FieldT Try.prog 142 4 4 5 1 := ⟨⟨_, _, Try.underlying142, rfl, rfl, rfl⟩, fun _ => by kernel_rfl, by decide⟩
instance : FieldT Try.prog 142 5 5 5 1 := ⟨⟨_, _, Try.underlying142, rfl, rfl, rfl⟩, fun _ => by kernel_rfl, by decide⟩
instance : FieldT Try.prog 142 6 6 136 1 := ⟨⟨_, _, Try.underlying142, rfl, rfl, rfl⟩, fun _ => by kernel_rfl, by decide⟩
instance : FieldT Try.prog 142 7 7 137 1 := ⟨⟨_, _, Try.underlying142, rfl, rfl, rfl⟩, fun _ => by kernel_rfl, by decide⟩
instance : FieldT Try.prog 142 8 8 138 1 := ⟨⟨_, _, Try.underlying142, rfl, rfl, rfl⟩, fun _ => by kernel_rfl, by decide⟩
instance : FieldT Try.prog 142 9 9 139 1 := ⟨⟨_, _, Try.underlying142, rfl, rfl, rfl⟩, fun _ => by kernel_rfl, by decide⟩
instance : FieldT Try.prog 142 10 10 140 1 := ⟨⟨_, _, Try.underlying142, rfl, rfl, rfl⟩, fun _ => by kernel_rfl, by decide⟩
instance : StructT Try.prog 142 [(0, 1), (1, 1), (2, 1), (3, 1), (4, 1), (5, 1), (6, 1), (7, 1), (8, 1), (9, 1), (10, 1)] [(.int .u64 0), (.int .u64 0), (.int .u32 0), (.int .u8 0), (.int .u8 0), (.int .u8 0), (.int .u8 0), .nilFunc, (.pointer none), (.int .i32 0), (.int .i32 0)] := ⟨⟨_, Try.underlying142, fun _ => by kernel_rfl⟩, inferInstance⟩
instance : AggT Try.prog 143 2 := ⟨fun _ => by kernel_rfl, fun _ => by kernel_rfl⟩
instance : ZeroT Try.prog 143 [(.string ByteArray.empty), (.int .u8 0)] := ⟨.agg #[(.string ByteArray.empty), (.int .u8 0)], fun _ => by kernel_rfl, rfl⟩
instance : FieldT Try.prog 143 0 0 9 1 := ⟨⟨_, _, Try.underlying143, rfl, rfl, rfl⟩, fun _ => by kernel_rfl, by decide⟩
instance : FieldT Try.prog 143 1 1 136 1 := ⟨⟨_, _, Try.underlying143, rfl, rfl, rfl⟩, fun _ => by kernel_rfl, by decide⟩
instance : StructT Try.prog 143 [(0, 1), (1, 1)] [(.string ByteArray.empty), (.int .u8 0)] := ⟨⟨_, Try.underlying143, fun _ => by kernel_rfl⟩, inferInstance⟩
instance : AggT Try.prog 144 2 := ⟨fun _ => by kernel_rfl, fun _ => by kernel_rfl⟩
instance : ZeroT Try.prog 144 [(.string ByteArray.empty), (.int .u8 0)] := ⟨.agg #[(.string ByteArray.empty), (.int .u8 0)], fun _ => by kernel_rfl, rfl⟩
instance : FieldT Try.prog 144 0 0 9 1 := ⟨⟨_, _, Try.underlying144, rfl, rfl, rfl⟩, fun _ => by kernel_rfl, by decide⟩
instance : FieldT Try.prog 144 1 1 136 1 := ⟨⟨_, _, Try.underlying144, rfl, rfl, rfl⟩, fun _ => by kernel_rfl, by decide⟩
instance : StructT Try.prog 144 [(0, 1), (1, 1)] [(.string ByteArray.empty), (.int .u8 0)] := ⟨⟨_, Try.underlying144, fun _ => by kernel_rfl⟩, inferInstance⟩
instance : FnT Try.prog 3 := ⟨Try.call3⟩
instance : FnT Try.prog 4 := ⟨Try.call4⟩
instance : FnT Try.prog 5 := ⟨Try.call5⟩
instance : FnT Try.prog 6 := ⟨Try.call6⟩
instance : FnT Try.prog 7 := ⟨Try.call7⟩
instance : FnT Try.prog 8 := ⟨Try.call8⟩
instance : FnT Try.prog 9 := ⟨Try.call9⟩
instance : FnT Try.prog 10 := ⟨Try.call10⟩
instance : FnT Try.prog 11 := ⟨Try.call11⟩
instance : FnT Try.prog 12 := ⟨Try.call12⟩
instance : FnT Try.prog 13 := ⟨Try.call13⟩
instance : FnT Try.prog 14 := ⟨Try.call14⟩
instance : FnT Try.prog 15 := ⟨Try.call15⟩
instance : FnT Try.prog 16 := ⟨Try.call16⟩
instance : FnT Try.prog 17 := ⟨Try.call17⟩
instance : FnT Try.prog 18 := ⟨Try.call18⟩
instance : FnT Try.prog 19 := ⟨Try.call19⟩
instance : FnT Try.prog 20 := ⟨Try.call20⟩
instance : FnT Try.prog 21 := ⟨Try.call21⟩
instance : FnT Try.prog 22 := ⟨Try.call22⟩
instance : FnT Try.prog 23 := ⟨Try.call23⟩
instance : FnT Try.prog 24 := ⟨Try.call24⟩
instance : FnT Try.prog 25 := ⟨Try.call25⟩
instance : FnT Try.prog 26 := ⟨Try.call26⟩
instance : FnT Try.prog 27 := ⟨Try.call27⟩
instance : FnT Try.prog 28 := ⟨Try.call28⟩
instance : FnT Try.prog 29 := ⟨Try.call29⟩
instance : FnT Try.prog 30 := ⟨Try.call30⟩
instance : FnT Try.prog 31 := ⟨Try.call31⟩
instance : FnT Try.prog 32 := ⟨Try.call32⟩
instance : FnT Try.prog 33 := ⟨Try.call33⟩
instance : FnT Try.prog 34 := ⟨Try.call34⟩
instance : FnT Try.prog 35 := ⟨Try.call35⟩
instance : FnT Try.prog 36 := ⟨Try.call36⟩
instance : FnT Try.prog 37 := ⟨Try.call37⟩
instance : FnT Try.prog 38 := ⟨Try.call38⟩
instance : FnT Try.prog 39 := ⟨Try.call39⟩
instance : FnT Try.prog 40 := ⟨Try.call40⟩
instance : FnT Try.prog 41 := ⟨Try.call41⟩
instance : FnT Try.prog 42 := ⟨Try.call42⟩
instance : FnT Try.prog 43 := ⟨Try.call43⟩
instance : FnT Try.prog 44 := ⟨Try.call44⟩
instance : FnT Try.prog 45 := ⟨Try.call45⟩
instance : FnT Try.prog 46 := ⟨Try.call46⟩
instance : FnT Try.prog 47 := ⟨Try.call47⟩
instance : FnT Try.prog 48 := ⟨Try.call48⟩
instance : FnT Try.prog 49 := ⟨Try.call49⟩
instance : FnT Try.prog 50 := ⟨Try.call50⟩
instance : FnT Try.prog 51 := ⟨Try.call51⟩
instance : FnT Try.prog 52 := ⟨Try.call52⟩
instance : FnT Try.prog 53 := ⟨Try.call53⟩
instance : FnT Try.prog 54 := ⟨Try.call54⟩
instance : FnT Try.prog 55 := ⟨Try.call55⟩
instance : FnT Try.prog 56 := ⟨Try.call56⟩
instance : FnT Try.prog 57 := ⟨Try.call57⟩
instance : FnT Try.prog 58 := ⟨Try.call58⟩
instance : FnT Try.prog 59 := ⟨Try.call59⟩
instance : FnT Try.prog 60 := ⟨Try.call60⟩
instance : FnT Try.prog 61 := ⟨Try.call61⟩
instance : FnT Try.prog 62 := ⟨Try.call62⟩
instance : FnT Try.prog 63 := ⟨Try.call63⟩
instance : FnT Try.prog 64 := ⟨Try.call64⟩
instance : FnT Try.prog 65 := ⟨Try.call65⟩
instance : FnT Try.prog 66 := ⟨Try.call66⟩
instance : FnT Try.prog 67 := ⟨Try.call67⟩
instance : FnT Try.prog 68 := ⟨Try.call68⟩
instance : FnT Try.prog 69 := ⟨Try.call69⟩
instance : FnT Try.prog 70 := ⟨Try.call70⟩
instance : FnT Try.prog 71 := ⟨Try.call71⟩
instance : FnT Try.prog 72 := ⟨Try.call72⟩
instance : FnT Try.prog 73 := ⟨Try.call73⟩
instance : FnT Try.prog 74 := ⟨Try.call74⟩
instance : FnT Try.prog 75 := ⟨Try.call75⟩
instance : FnT Try.prog 76 := ⟨Try.call76⟩
instance : FnT Try.prog 77 := ⟨Try.call77⟩
instance : FnT Try.prog 78 := ⟨Try.call78⟩
instance : FnT Try.prog 79 := ⟨Try.call79⟩
instance : FnT Try.prog 80 := ⟨Try.call80⟩
instance : FnT Try.prog 81 := ⟨Try.call81⟩
instance : FnT Try.prog 82 := ⟨Try.call82⟩
instance : FnT Try.prog 83 := ⟨Try.call83⟩
instance : FnT Try.prog 84 := ⟨Try.call84⟩
instance : FnT Try.prog 85 := ⟨Try.call85⟩
instance : FnT Try.prog 86 := ⟨Try.call86⟩
instance : FnT Try.prog 87 := ⟨Try.call87⟩
instance : FnT Try.prog 88 := ⟨Try.call88⟩
instance : FnT Try.prog 89 := ⟨Try.call89⟩
instance : FnT Try.prog 90 := ⟨Try.call90⟩
instance : FnT Try.prog 91 := ⟨Try.call91⟩
instance : FnT Try.prog 92 := ⟨Try.call92⟩
instance : FnT Try.prog 93 := ⟨Try.call93⟩
instance : FnT Try.prog 94 := ⟨Try.call94⟩
instance : FnT Try.prog 95 := ⟨Try.call95⟩
instance : FnT Try.prog 96 := ⟨Try.call96⟩
instance : FnT Try.prog 97 := ⟨Try.call97⟩
instance : FnT Try.prog 98 := ⟨Try.call98⟩
instance : FnT Try.prog 99 := ⟨Try.call99⟩
instance : FnT Try.prog 100 := ⟨Try.call100⟩
instance : FnT Try.prog 101 := ⟨Try.call101⟩
instance : FnT Try.prog 102 := ⟨Try.call102⟩
instance : FnT Try.prog 103 := ⟨Try.call103⟩
instance : FnT Try.prog 104 := ⟨Try.call104⟩
instance : FnT Try.prog 105 := ⟨Try.call105⟩
instance : FnT Try.prog 108 := ⟨Try.call108⟩
instance : FnT Try.prog 110 := ⟨Try.call110⟩
instance : FnT Try.prog 120 := ⟨Try.call120⟩
instance : FnT Try.prog 121 := ⟨Try.call121⟩
instance : FnT Try.prog 122 := ⟨Try.call122⟩
instance : FnT Try.prog 123 := ⟨Try.call123⟩
end Go.Proofs.Ytkdagmbgjddopaa
