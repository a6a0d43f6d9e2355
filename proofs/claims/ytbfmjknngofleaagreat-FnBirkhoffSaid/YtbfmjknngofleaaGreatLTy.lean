/- What the translation's types and functions say, as instances. -/
import Derived.Test.YtbfmjknngofleaaGreatChecked
import Derived.Test.YtbfmjknngofleaaGreatLPw
namespace Go.Proofs.YtbfmjknngofleaaGreat
open Go Go.Pv Go.Proofs

instance : CellT Tryz.prog 1 := ⟨fun _ => by kernel_rfl, fun _ => by kernel_rfl⟩
instance : ZeroT Tryz.prog 1 [.nilFunc] := ⟨.nilFunc, fun _ => by kernel_rfl, rfl⟩
instance : CellT Tryz.prog 2 := ⟨fun _ => by kernel_rfl, fun _ => by kernel_rfl⟩
instance : ZeroT Tryz.prog 2 [(.int .i64 0)] := ⟨(.int .i64 0), fun _ => by kernel_rfl, rfl⟩
instance : CellT Tryz.prog 3 := ⟨fun _ => by kernel_rfl, fun _ => by kernel_rfl⟩
instance : ZeroT Tryz.prog 3 [(.int .i64 0)] := ⟨(.int .i64 0), fun _ => by kernel_rfl, rfl⟩
instance : BoolT Tryz.prog 4 := ⟨by kernel_rfl⟩
instance : CellT Tryz.prog 4 := ⟨fun _ => by kernel_rfl, fun _ => by kernel_rfl⟩
instance : ZeroT Tryz.prog 4 [(.bool false)] := ⟨(.bool false), fun _ => by kernel_rfl, rfl⟩
instance : CellT Tryz.prog 5 := ⟨fun _ => by kernel_rfl, fun _ => by kernel_rfl⟩
instance : ZeroT Tryz.prog 5 [(.int .u8 0)] := ⟨(.int .u8 0), fun _ => by kernel_rfl, rfl⟩
instance : CellT Tryz.prog 6 := ⟨fun _ => by kernel_rfl, fun _ => by kernel_rfl⟩
instance : ZeroT Tryz.prog 6 [(.int .u8 0)] := ⟨(.int .u8 0), fun _ => by kernel_rfl, rfl⟩
instance : AggT Tryz.prog 7 4 := ⟨fun _ => by kernel_rfl, fun _ => by kernel_rfl⟩
instance : ZeroT Tryz.prog 7 [(.int .i64 0), (.int .i64 0), (.bool false), (.int .u8 0)] := ⟨.agg #[(.int .i64 0), (.int .i64 0), (.bool false), (.int .u8 0)], fun _ => by kernel_rfl, rfl⟩
instance : FieldT Tryz.prog 7 0 0 2 1 := ⟨⟨_, _, Tryz.underlying7, rfl, rfl, rfl⟩, fun _ => by kernel_rfl, by decide⟩
instance : FieldT Tryz.prog 7 1 1 3 1 := ⟨⟨_, _, Tryz.underlying7, rfl, rfl, rfl⟩, fun _ => by kernel_rfl, by decide⟩
instance : FieldT Tryz.prog 7 2 2 4 1 := ⟨⟨_, _, Tryz.underlying7, rfl, rfl, rfl⟩, fun _ => by kernel_rfl, by decide⟩
instance : FieldT Tryz.prog 7 3 3 6 1 := ⟨⟨_, _, Tryz.underlying7, rfl, rfl, rfl⟩, fun _ => by kernel_rfl, by decide⟩
instance : StructT Tryz.prog 7 [(0, 1), (1, 1), (2, 1), (3, 1)] [(.int .i64 0), (.int .i64 0), (.bool false), (.int .u8 0)] := ⟨⟨_, Tryz.underlying7, fun _ => by kernel_rfl⟩, inferInstance⟩
instance : AggT Tryz.prog 8 4 := ⟨fun _ => by kernel_rfl, fun _ => by kernel_rfl⟩
instance : ZeroT Tryz.prog 8 [(.int .i64 0), (.int .i64 0), (.bool false), (.int .u8 0)] := ⟨.agg #[(.int .i64 0), (.int .i64 0), (.bool false), (.int .u8 0)], fun _ => by kernel_rfl, rfl⟩
instance : FieldT Tryz.prog 8 0 0 2 1 := ⟨⟨_, _, Tryz.underlying8, rfl, rfl, rfl⟩, fun _ => by kernel_rfl, by decide⟩
instance : FieldT Tryz.prog 8 1 1 3 1 := ⟨⟨_, _, Tryz.underlying8, rfl, rfl, rfl⟩, fun _ => by kernel_rfl, by decide⟩
instance : FieldT Tryz.prog 8 2 2 4 1 := ⟨⟨_, _, Tryz.underlying8, rfl, rfl, rfl⟩, fun _ => by kernel_rfl, by decide⟩
instance : FieldT Tryz.prog 8 3 3 6 1 := ⟨⟨_, _, Tryz.underlying8, rfl, rfl, rfl⟩, fun _ => by kernel_rfl, by decide⟩
instance : StructT Tryz.prog 8 [(0, 1), (1, 1), (2, 1), (3, 1)] [(.int .i64 0), (.int .i64 0), (.bool false), (.int .u8 0)] := ⟨⟨_, Tryz.underlying8, fun _ => by kernel_rfl⟩, inferInstance⟩
instance : CellT Tryz.prog 9 := ⟨fun _ => by kernel_rfl, fun _ => by kernel_rfl⟩
instance : ZeroT Tryz.prog 9 [(.string ByteArray.empty)] := ⟨(.string ByteArray.empty), fun _ => by kernel_rfl, rfl⟩
instance : CellT Tryz.prog 10 := ⟨fun _ => by kernel_rfl, fun _ => by kernel_rfl⟩
instance : ZeroT Tryz.prog 10 [(.string ByteArray.empty)] := ⟨(.string ByteArray.empty), fun _ => by kernel_rfl, rfl⟩
instance : CellT Tryz.prog 11 := ⟨fun _ => by kernel_rfl, fun _ => by kernel_rfl⟩
instance : ZeroT Tryz.prog 11 [(.string ByteArray.empty)] := ⟨(.string ByteArray.empty), fun _ => by kernel_rfl, rfl⟩
instance : CellT Tryz.prog 12 := ⟨fun _ => by kernel_rfl, fun _ => by kernel_rfl⟩
instance : ZeroT Tryz.prog 12 [(.int .u64 0)] := ⟨(.int .u64 0), fun _ => by kernel_rfl, rfl⟩
instance : AggT Tryz.prog 13 2 := ⟨fun _ => by kernel_rfl, fun _ => by kernel_rfl⟩
instance : ZeroT Tryz.prog 13 [(.string ByteArray.empty), (.int .u64 0)] := ⟨.agg #[(.string ByteArray.empty), (.int .u64 0)], fun _ => by kernel_rfl, rfl⟩
instance : FieldT Tryz.prog 13 0 0 9 1 := ⟨⟨_, _, Tryz.underlying13, rfl, rfl, rfl⟩, fun _ => by kernel_rfl, by decide⟩
instance : FieldT Tryz.prog 13 1 1 12 1 := ⟨⟨_, _, Tryz.underlying13, rfl, rfl, rfl⟩, fun _ => by kernel_rfl, by decide⟩
instance : StructT Tryz.prog 13 [(0, 1), (1, 1)] [(.string ByteArray.empty), (.int .u64 0)] := ⟨⟨_, Tryz.underlying13, fun _ => by kernel_rfl⟩, inferInstance⟩
instance : AggT Tryz.prog 14 2 := ⟨fun _ => by kernel_rfl, fun _ => by kernel_rfl⟩
instance : ZeroT Tryz.prog 14 [(.string ByteArray.empty), (.int .u64 0)] := ⟨.agg #[(.string ByteArray.empty), (.int .u64 0)], fun _ => by kernel_rfl, rfl⟩
instance : FieldT Tryz.prog 14 0 0 9 1 := ⟨⟨_, _, Tryz.underlying14, rfl, rfl, rfl⟩, fun _ => by kernel_rfl, by decide⟩
instance : FieldT Tryz.prog 14 1 1 12 1 := ⟨⟨_, _, Tryz.underlying14, rfl, rfl, rfl⟩, fun _ => by kernel_rfl, by decide⟩
instance : StructT Tryz.prog 14 [(0, 1), (1, 1)] [(.string ByteArray.empty), (.int .u64 0)] := ⟨⟨_, Tryz.underlying14, fun _ => by kernel_rfl⟩, inferInstance⟩
instance : CellT Tryz.prog 15 := ⟨fun _ => by kernel_rfl, fun _ => by kernel_rfl⟩
instance : ZeroT Tryz.prog 15 [(.pointer none)] := ⟨(.pointer none), fun _ => by kernel_rfl, rfl⟩
instance : CellT Tryz.prog 16 := ⟨fun _ => by kernel_rfl, fun _ => by kernel_rfl⟩
instance : ZeroT Tryz.prog 16 [(.pointer none)] := ⟨(.pointer none), fun _ => by kernel_rfl, rfl⟩
instance : CellT Tryz.prog 17 := ⟨fun _ => by kernel_rfl, fun _ => by kernel_rfl⟩
instance : ZeroT Tryz.prog 17 [(.pointer none)] := ⟨(.pointer none), fun _ => by kernel_rfl, rfl⟩
instance : AggT Tryz.prog 18 1 := ⟨fun _ => by kernel_rfl, fun _ => by kernel_rfl⟩
instance : ZeroT Tryz.prog 18 [(.pointer none)] := ⟨.agg #[(.pointer none)], fun _ => by kernel_rfl, rfl⟩
instance : FieldT Tryz.prog 18 0 0 17 1 := ⟨⟨_, _, Tryz.underlying18, rfl, rfl, rfl⟩, fun _ => by kernel_rfl, by decide⟩
instance : StructT Tryz.prog 18 [(0, 1)] [(.pointer none)] := ⟨⟨_, Tryz.underlying18, fun _ => by kernel_rfl⟩, inferInstance⟩
instance : AggT Tryz.prog 19 1 := ⟨fun _ => by kernel_rfl, fun _ => by kernel_rfl⟩
instance : ZeroT Tryz.prog 19 [(.pointer none)] := ⟨.agg #[(.pointer none)], fun _ => by kernel_rfl, rfl⟩
instance : FieldT Tryz.prog 19 0 0 17 1 := ⟨⟨_, _, Tryz.underlying19, rfl, rfl, rfl⟩, fun _ => by kernel_rfl, by decide⟩
instance : StructT Tryz.prog 19 [(0, 1)] [(.pointer none)] := ⟨⟨_, Tryz.underlying19, fun _ => by kernel_rfl⟩, inferInstance⟩
instance : CellT Tryz.prog 20 := ⟨fun _ => by kernel_rfl, fun _ => by kernel_rfl⟩
instance : ZeroT Tryz.prog 20 [.nilIface] := ⟨.nilIface, fun _ => by kernel_rfl, rfl⟩
instance : CellT Tryz.prog 21 := ⟨fun _ => by kernel_rfl, fun _ => by kernel_rfl⟩
instance : ZeroT Tryz.prog 21 [(.int .i32 0)] := ⟨(.int .i32 0), fun _ => by kernel_rfl, rfl⟩
instance : CellT Tryz.prog 22 := ⟨fun _ => by kernel_rfl, fun _ => by kernel_rfl⟩
instance : ZeroT Tryz.prog 22 [(.slice none 0 0)] := ⟨(.slice none 0 0), fun _ => by kernel_rfl, rfl⟩
set_option maxRecDepth 100000 in
instance : SlT Tryz.prog 22 5 1 1 := ⟨Tryz.underlying22, ⟨_, rfl, rfl, rfl⟩⟩
set_option maxRecDepth 100000 in
instance : MkT Tryz.prog 22 5 1 1 [(.int .u8 0)] := ⟨Tryz.underlying22, ⟨_, _, rfl, rfl, rfl, rfl, rfl⟩⟩
instance : CellT Tryz.prog 23 := ⟨fun _ => by kernel_rfl, fun _ => by kernel_rfl⟩
instance : ZeroT Tryz.prog 23 [.nilFunc] := ⟨.nilFunc, fun _ => by kernel_rfl, rfl⟩
instance : CellT Tryz.prog 24 := ⟨fun _ => by kernel_rfl, fun _ => by kernel_rfl⟩
instance : ZeroT Tryz.prog 24 [(.slice none 0 0)] := ⟨(.slice none 0 0), fun _ => by kernel_rfl, rfl⟩
set_option maxRecDepth 100000 in
instance : SlT Tryz.prog 24 28 1 24 := ⟨Tryz.underlying24, ⟨_, rfl, rfl, rfl⟩⟩
set_option maxRecDepth 100000 in
instance : MkT Tryz.prog 24 28 1 24 [(.slice none 0 0)] := ⟨Tryz.underlying24, ⟨_, _, rfl, rfl, rfl, rfl, rfl⟩⟩
instance : AggT Tryz.prog 25 1 := ⟨fun _ => by kernel_rfl, fun _ => by kernel_rfl⟩
instance : ZeroT Tryz.prog 25 [(.slice none 0 0)] := ⟨.agg #[(.slice none 0 0)], fun _ => by kernel_rfl, rfl⟩
instance : FieldT Tryz.prog 25 0 0 24 1 := ⟨⟨_, _, Tryz.underlying25, rfl, rfl, rfl⟩, fun _ => by kernel_rfl, by decide⟩
instance : StructT Tryz.prog 25 [(0, 1)] [(.slice none 0 0)] := ⟨⟨_, Tryz.underlying25, fun _ => by kernel_rfl⟩, inferInstance⟩
instance : AggT Tryz.prog 26 1 := ⟨fun _ => by kernel_rfl, fun _ => by kernel_rfl⟩
instance : ZeroT Tryz.prog 26 [(.slice none 0 0)] := ⟨.agg #[(.slice none 0 0)], fun _ => by kernel_rfl, rfl⟩
instance : FieldT Tryz.prog 26 0 0 24 1 := ⟨⟨_, _, Tryz.underlying26, rfl, rfl, rfl⟩, fun _ => by kernel_rfl, by decide⟩
instance : StructT Tryz.prog 26 [(0, 1)] [(.slice none 0 0)] := ⟨⟨_, Tryz.underlying26, fun _ => by kernel_rfl⟩, inferInstance⟩
instance : CellT Tryz.prog 27 := ⟨fun _ => by kernel_rfl, fun _ => by kernel_rfl⟩
instance : ZeroT Tryz.prog 27 [.nilFunc] := ⟨.nilFunc, fun _ => by kernel_rfl, rfl⟩
instance : CellT Tryz.prog 28 := ⟨fun _ => by kernel_rfl, fun _ => by kernel_rfl⟩
instance : ZeroT Tryz.prog 28 [(.slice none 0 0)] := ⟨(.slice none 0 0), fun _ => by kernel_rfl, rfl⟩
set_option maxRecDepth 100000 in
instance : SlT Tryz.prog 28 3 1 8 := ⟨Tryz.underlying28, ⟨_, rfl, rfl, rfl⟩⟩
set_option maxRecDepth 100000 in
instance : MkT Tryz.prog 28 3 1 8 [(.int .i64 0)] := ⟨Tryz.underlying28, ⟨_, _, rfl, rfl, rfl, rfl, rfl⟩⟩
instance : CellT Tryz.prog 30 := ⟨fun _ => by kernel_rfl, fun _ => by kernel_rfl⟩
instance : ZeroT Tryz.prog 30 [.nilFunc] := ⟨.nilFunc, fun _ => by kernel_rfl, rfl⟩
instance : CellT Tryz.prog 31 := ⟨fun _ => by kernel_rfl, fun _ => by kernel_rfl⟩
instance : ZeroT Tryz.prog 31 [.nilFunc] := ⟨.nilFunc, fun _ => by kernel_rfl, rfl⟩
instance : CellT Tryz.prog 33 := ⟨fun _ => by kernel_rfl, fun _ => by kernel_rfl⟩
instance : ZeroT Tryz.prog 33 [.nilFunc] := ⟨.nilFunc, fun _ => by kernel_rfl, rfl⟩
instance : CellT Tryz.prog 34 := ⟨fun _ => by kernel_rfl, fun _ => by kernel_rfl⟩
instance : ZeroT Tryz.prog 34 [.nilFunc] := ⟨.nilFunc, fun _ => by kernel_rfl, rfl⟩
instance : CellT Tryz.prog 36 := ⟨fun _ => by kernel_rfl, fun _ => by kernel_rfl⟩
instance : ZeroT Tryz.prog 36 [.nilFunc] := ⟨.nilFunc, fun _ => by kernel_rfl, rfl⟩
instance : CellT Tryz.prog 38 := ⟨fun _ => by kernel_rfl, fun _ => by kernel_rfl⟩
instance : ZeroT Tryz.prog 38 [.nilFunc] := ⟨.nilFunc, fun _ => by kernel_rfl, rfl⟩
instance : CellT Tryz.prog 40 := ⟨fun _ => by kernel_rfl, fun _ => by kernel_rfl⟩
instance : ZeroT Tryz.prog 40 [.nilFunc] := ⟨.nilFunc, fun _ => by kernel_rfl, rfl⟩
instance : CellT Tryz.prog 41 := ⟨fun _ => by kernel_rfl, fun _ => by kernel_rfl⟩
instance : ZeroT Tryz.prog 41 [.nilFunc] := ⟨.nilFunc, fun _ => by kernel_rfl, rfl⟩
instance : CellT Tryz.prog 42 := ⟨fun _ => by kernel_rfl, fun _ => by kernel_rfl⟩
instance : ZeroT Tryz.prog 42 [.nilFunc] := ⟨.nilFunc, fun _ => by kernel_rfl, rfl⟩
instance : CellT Tryz.prog 43 := ⟨fun _ => by kernel_rfl, fun _ => by kernel_rfl⟩
instance : ZeroT Tryz.prog 43 [.nilFunc] := ⟨.nilFunc, fun _ => by kernel_rfl, rfl⟩
instance : CellT Tryz.prog 44 := ⟨fun _ => by kernel_rfl, fun _ => by kernel_rfl⟩
instance : ZeroT Tryz.prog 44 [.nilFunc] := ⟨.nilFunc, fun _ => by kernel_rfl, rfl⟩
instance : CellT Tryz.prog 45 := ⟨fun _ => by kernel_rfl, fun _ => by kernel_rfl⟩
instance : ZeroT Tryz.prog 45 [.nilFunc] := ⟨.nilFunc, fun _ => by kernel_rfl, rfl⟩
instance : CellT Tryz.prog 47 := ⟨fun _ => by kernel_rfl, fun _ => by kernel_rfl⟩
instance : ZeroT Tryz.prog 47 [.nilFunc] := ⟨.nilFunc, fun _ => by kernel_rfl, rfl⟩
instance : CellT Tryz.prog 48 := ⟨fun _ => by kernel_rfl, fun _ => by kernel_rfl⟩
instance : ZeroT Tryz.prog 48 [.nilFunc] := ⟨.nilFunc, fun _ => by kernel_rfl, rfl⟩
instance : CellT Tryz.prog 49 := ⟨fun _ => by kernel_rfl, fun _ => by kernel_rfl⟩
instance : ZeroT Tryz.prog 49 [.nilFunc] := ⟨.nilFunc, fun _ => by kernel_rfl, rfl⟩
instance : CellT Tryz.prog 50 := ⟨fun _ => by kernel_rfl, fun _ => by kernel_rfl⟩
instance : ZeroT Tryz.prog 50 [.nilFunc] := ⟨.nilFunc, fun _ => by kernel_rfl, rfl⟩
instance : CellT Tryz.prog 52 := ⟨fun _ => by kernel_rfl, fun _ => by kernel_rfl⟩
instance : ZeroT Tryz.prog 52 [.nilFunc] := ⟨.nilFunc, fun _ => by kernel_rfl, rfl⟩
instance : CellT Tryz.prog 53 := ⟨fun _ => by kernel_rfl, fun _ => by kernel_rfl⟩
instance : ZeroT Tryz.prog 53 [.nilFunc] := ⟨.nilFunc, fun _ => by kernel_rfl, rfl⟩
instance : CellT Tryz.prog 54 := ⟨fun _ => by kernel_rfl, fun _ => by kernel_rfl⟩
instance : ZeroT Tryz.prog 54 [.nilFunc] := ⟨.nilFunc, fun _ => by kernel_rfl, rfl⟩
instance : CellT Tryz.prog 55 := ⟨fun _ => by kernel_rfl, fun _ => by kernel_rfl⟩
instance : ZeroT Tryz.prog 55 [(.pointer none)] := ⟨(.pointer none), fun _ => by kernel_rfl, rfl⟩
instance : CellT Tryz.prog 56 := ⟨fun _ => by kernel_rfl, fun _ => by kernel_rfl⟩
instance : ZeroT Tryz.prog 56 [.nilFunc] := ⟨.nilFunc, fun _ => by kernel_rfl, rfl⟩
instance : CellT Tryz.prog 57 := ⟨fun _ => by kernel_rfl, fun _ => by kernel_rfl⟩
instance : ZeroT Tryz.prog 57 [(.slice none 0 0)] := ⟨(.slice none 0 0), fun _ => by kernel_rfl, rfl⟩
set_option maxRecDepth 100000 in
instance : SlT Tryz.prog 57 85 1 24 := ⟨Tryz.underlying57, ⟨_, rfl, rfl, rfl⟩⟩
set_option maxRecDepth 100000 in
instance : MkT Tryz.prog 57 85 1 24 [(.slice none 0 0)] := ⟨Tryz.underlying57, ⟨_, _, rfl, rfl, rfl, rfl, rfl⟩⟩
instance : CellT Tryz.prog 58 := ⟨fun _ => by kernel_rfl, fun _ => by kernel_rfl⟩
instance : ZeroT Tryz.prog 58 [(.slice none 0 0)] := ⟨(.slice none 0 0), fun _ => by kernel_rfl, rfl⟩
set_option maxRecDepth 100000 in
instance : SlT Tryz.prog 58 85 1 24 := ⟨Tryz.underlying58, ⟨_, rfl, rfl, rfl⟩⟩
set_option maxRecDepth 100000 in
instance : MkT Tryz.prog 58 85 1 24 [(.slice none 0 0)] := ⟨Tryz.underlying58, ⟨_, _, rfl, rfl, rfl, rfl, rfl⟩⟩
instance : AggT Tryz.prog 59 3 := ⟨fun _ => by kernel_rfl, fun _ => by kernel_rfl⟩
instance : ZeroT Tryz.prog 59 [(.slice none 0 0), (.slice none 0 0), (.slice none 0 0)] := ⟨.agg #[(.slice none 0 0), (.slice none 0 0), (.slice none 0 0)], fun _ => by kernel_rfl, rfl⟩
instance : FieldT Tryz.prog 59 0 0 58 1 := ⟨⟨_, _, Tryz.underlying59, rfl, rfl, rfl⟩, fun _ => by kernel_rfl, by decide⟩
instance : FieldT Tryz.prog 59 1 1 24 1 := ⟨⟨_, _, Tryz.underlying59, rfl, rfl, rfl⟩, fun _ => by kernel_rfl, by decide⟩
instance : FieldT Tryz.prog 59 2 2 24 1 := ⟨⟨_, _, Tryz.underlying59, rfl, rfl, rfl⟩, fun _ => by kernel_rfl, by decide⟩
instance : StructT Tryz.prog 59 [(0, 1), (1, 1), (2, 1)] [(.slice none 0 0), (.slice none 0 0), (.slice none 0 0)] := ⟨⟨_, Tryz.underlying59, fun _ => by kernel_rfl⟩, inferInstance⟩
instance : AggT Tryz.prog 60 3 := ⟨fun _ => by kernel_rfl, fun _ => by kernel_rfl⟩
instance : ZeroT Tryz.prog 60 [(.slice none 0 0), (.slice none 0 0), (.slice none 0 0)] := ⟨.agg #[(.slice none 0 0), (.slice none 0 0), (.slice none 0 0)], fun _ => by kernel_rfl, rfl⟩
instance : FieldT Tryz.prog 60 0 0 58 1 := ⟨⟨_, _, Tryz.underlying60, rfl, rfl, rfl⟩, fun _ => by kernel_rfl, by decide⟩
instance : FieldT Tryz.prog 60 1 1 24 1 := ⟨⟨_, _, Tryz.underlying60, rfl, rfl, rfl⟩, fun _ => by kernel_rfl, by decide⟩
instance : FieldT Tryz.prog 60 2 2 24 1 := ⟨⟨_, _, Tryz.underlying60, rfl, rfl, rfl⟩, fun _ => by kernel_rfl, by decide⟩
instance : StructT Tryz.prog 60 [(0, 1), (1, 1), (2, 1)] [(.slice none 0 0), (.slice none 0 0), (.slice none 0 0)] := ⟨⟨_, Tryz.underlying60, fun _ => by kernel_rfl⟩, inferInstance⟩
instance : CellT Tryz.prog 61 := ⟨fun _ => by kernel_rfl, fun _ => by kernel_rfl⟩
instance : ZeroT Tryz.prog 61 [.nilFunc] := ⟨.nilFunc, fun _ => by kernel_rfl, rfl⟩
instance : CellT Tryz.prog 62 := ⟨fun _ => by kernel_rfl, fun _ => by kernel_rfl⟩
instance : ZeroT Tryz.prog 62 [.nilFunc] := ⟨.nilFunc, fun _ => by kernel_rfl, rfl⟩
instance : CellT Tryz.prog 63 := ⟨fun _ => by kernel_rfl, fun _ => by kernel_rfl⟩
instance : ZeroT Tryz.prog 63 [.nilFunc] := ⟨.nilFunc, fun _ => by kernel_rfl, rfl⟩
instance : CellT Tryz.prog 64 := ⟨fun _ => by kernel_rfl, fun _ => by kernel_rfl⟩
instance : ZeroT Tryz.prog 64 [.nilFunc] := ⟨.nilFunc, fun _ => by kernel_rfl, rfl⟩
instance : CellT Tryz.prog 65 := ⟨fun _ => by kernel_rfl, fun _ => by kernel_rfl⟩
instance : ZeroT Tryz.prog 65 [.nilFunc] := ⟨.nilFunc, fun _ => by kernel_rfl, rfl⟩
instance : CellT Tryz.prog 66 := ⟨fun _ => by kernel_rfl, fun _ => by kernel_rfl⟩
instance : ZeroT Tryz.prog 66 [.nilFunc] := ⟨.nilFunc, fun _ => by kernel_rfl, rfl⟩
instance : CellT Tryz.prog 68 := ⟨fun _ => by kernel_rfl, fun _ => by kernel_rfl⟩
instance : ZeroT Tryz.prog 68 [.nilFunc] := ⟨.nilFunc, fun _ => by kernel_rfl, rfl⟩
instance : CellT Tryz.prog 69 := ⟨fun _ => by kernel_rfl, fun _ => by kernel_rfl⟩
instance : ZeroT Tryz.prog 69 [.nilFunc] := ⟨.nilFunc, fun _ => by kernel_rfl, rfl⟩
instance : CellT Tryz.prog 70 := ⟨fun _ => by kernel_rfl, fun _ => by kernel_rfl⟩
instance : ZeroT Tryz.prog 70 [.nilFunc] := ⟨.nilFunc, fun _ => by kernel_rfl, rfl⟩
instance : CellT Tryz.prog 71 := ⟨fun _ => by kernel_rfl, fun _ => by kernel_rfl⟩
instance : ZeroT Tryz.prog 71 [.nilFunc] := ⟨.nilFunc, fun _ => by kernel_rfl, rfl⟩
instance : CellT Tryz.prog 72 := ⟨fun _ => by kernel_rfl, fun _ => by kernel_rfl⟩
instance : ZeroT Tryz.prog 72 [.nilFunc] := ⟨.nilFunc, fun _ => by kernel_rfl, rfl⟩
instance : CellT Tryz.prog 73 := ⟨fun _ => by kernel_rfl, fun _ => by kernel_rfl⟩
instance : ZeroT Tryz.prog 73 [.nilFunc] := ⟨.nilFunc, fun _ => by kernel_rfl, rfl⟩
instance : CellT Tryz.prog 74 := ⟨fun _ => by kernel_rfl, fun _ => by kernel_rfl⟩
instance : ZeroT Tryz.prog 74 [.nilFunc] := ⟨.nilFunc, fun _ => by kernel_rfl, rfl⟩
instance : CellT Tryz.prog 75 := ⟨fun _ => by kernel_rfl, fun _ => by kernel_rfl⟩
instance : ZeroT Tryz.prog 75 [.nilFunc] := ⟨.nilFunc, fun _ => by kernel_rfl, rfl⟩
instance : CellT Tryz.prog 76 := ⟨fun _ => by kernel_rfl, fun _ => by kernel_rfl⟩
instance : ZeroT Tryz.prog 76 [(.pointer none)] := ⟨(.pointer none), fun _ => by kernel_rfl, rfl⟩
instance : CellT Tryz.prog 77 := ⟨fun _ => by kernel_rfl, fun _ => by kernel_rfl⟩
instance : ZeroT Tryz.prog 77 [(.int .u64 0)] := ⟨(.int .u64 0), fun _ => by kernel_rfl, rfl⟩
instance : AggT Tryz.prog 78 3 := ⟨fun _ => by kernel_rfl, fun _ => by kernel_rfl⟩
instance : ZeroT Tryz.prog 78 [(.slice none 0 0), (.int .i64 0), (.int .u64 0)] := ⟨.agg #[(.slice none 0 0), (.int .i64 0), (.int .u64 0)], fun _ => by kernel_rfl, rfl⟩
instance : FieldT Tryz.prog 78 0 0 22 1 := ⟨⟨_, _, Tryz.underlying78, rfl, rfl, rfl⟩, fun _ => by kernel_rfl, by decide⟩
instance : FieldT Tryz.prog 78 1 1 3 1 := ⟨⟨_, _, Tryz.underlying78, rfl, rfl, rfl⟩, fun _ => by kernel_rfl, by decide⟩
instance : FieldT Tryz.prog 78 2 2 77 1 := ⟨⟨_, _, Tryz.underlying78, rfl, rfl, rfl⟩, fun _ => by kernel_rfl, by decide⟩
instance : StructT Tryz.prog 78 [(0, 1), (1, 1), (2, 1)] [(.slice none 0 0), (.int .i64 0), (.int .u64 0)] := ⟨⟨_, Tryz.underlying78, fun _ => by kernel_rfl⟩, inferInstance⟩
instance : AggT Tryz.prog 79 3 := ⟨fun _ => by kernel_rfl, fun _ => by kernel_rfl⟩
instance : ZeroT Tryz.prog 79 [(.slice none 0 0), (.int .i64 0), (.int .u64 0)] := ⟨.agg #[(.slice none 0 0), (.int .i64 0), (.int .u64 0)], fun _ => by kernel_rfl, rfl⟩
instance : FieldT Tryz.prog 79 0 0 22 1 := ⟨⟨_, _, Tryz.underlying79, rfl, rfl, rfl⟩, fun _ => by kernel_rfl, by decide⟩
instance : FieldT Tryz.prog 79 1 1 3 1 := ⟨⟨_, _, Tryz.underlying79, rfl, rfl, rfl⟩, fun _ => by kernel_rfl, by decide⟩
instance : FieldT Tryz.prog 79 2 2 77 1 := ⟨⟨_, _, Tryz.underlying79, rfl, rfl, rfl⟩, fun _ => by kernel_rfl, by decide⟩
instance : StructT Tryz.prog 79 [(0, 1), (1, 1), (2, 1)] [(.slice none 0 0), (.int .i64 0), (.int .u64 0)] := ⟨⟨_, Tryz.underlying79, fun _ => by kernel_rfl⟩, inferInstance⟩
instance : CellT Tryz.prog 80 := ⟨fun _ => by kernel_rfl, fun _ => by kernel_rfl⟩
instance : ZeroT Tryz.prog 80 [.nilFunc] := ⟨.nilFunc, fun _ => by kernel_rfl, rfl⟩
instance : CellT Tryz.prog 81 := ⟨fun _ => by kernel_rfl, fun _ => by kernel_rfl⟩
instance : ZeroT Tryz.prog 81 [.nilFunc] := ⟨.nilFunc, fun _ => by kernel_rfl, rfl⟩
instance : CellT Tryz.prog 82 := ⟨fun _ => by kernel_rfl, fun _ => by kernel_rfl⟩
instance : ZeroT Tryz.prog 82 [.nilFunc] := ⟨.nilFunc, fun _ => by kernel_rfl, rfl⟩
instance : CellT Tryz.prog 84 := ⟨fun _ => by kernel_rfl, fun _ => by kernel_rfl⟩
instance : ZeroT Tryz.prog 84 [.nilFunc] := ⟨.nilFunc, fun _ => by kernel_rfl, rfl⟩
instance : CellT Tryz.prog 85 := ⟨fun _ => by kernel_rfl, fun _ => by kernel_rfl⟩
instance : ZeroT Tryz.prog 85 [(.slice none 0 0)] := ⟨(.slice none 0 0), fun _ => by kernel_rfl, rfl⟩
set_option maxRecDepth 100000 in
instance : SlT Tryz.prog 85 4 1 1 := ⟨Tryz.underlying85, ⟨_, rfl, rfl, rfl⟩⟩
set_option maxRecDepth 100000 in
instance : MkT Tryz.prog 85 4 1 1 [(.bool false)] := ⟨Tryz.underlying85, ⟨_, _, rfl, rfl, rfl, rfl, rfl⟩⟩
instance : AggT Tryz.prog 86 5 := ⟨fun _ => by kernel_rfl, fun _ => by kernel_rfl⟩
instance : ZeroT Tryz.prog 86 [(.int .i64 0), (.int .i64 0), (.int .i64 0), (.int .i64 0), (.int .i64 0)] := ⟨.agg #[(.int .i64 0), (.int .i64 0), (.int .i64 0), (.int .i64 0), (.int .i64 0)], fun _ => by kernel_rfl, rfl⟩
instance : ArrT Tryz.prog 86 5 3 1 := ⟨Tryz.underlying86, fun _ => by kernel_rfl⟩
instance : CellT Tryz.prog 87 := ⟨fun _ => by kernel_rfl, fun _ => by kernel_rfl⟩
instance : ZeroT Tryz.prog 87 [.nilFunc] := ⟨.nilFunc, fun _ => by kernel_rfl, rfl⟩
instance : CellT Tryz.prog 88 := ⟨fun _ => by kernel_rfl, fun _ => by kernel_rfl⟩
instance : ZeroT Tryz.prog 88 [.nilFunc] := ⟨.nilFunc, fun _ => by kernel_rfl, rfl⟩
instance : CellT Tryz.prog 89 := ⟨fun _ => by kernel_rfl, fun _ => by kernel_rfl⟩
instance : ZeroT Tryz.prog 89 [.nilFunc] := ⟨.nilFunc, fun _ => by kernel_rfl, rfl⟩
instance : CellT Tryz.prog 90 := ⟨fun _ => by kernel_rfl, fun _ => by kernel_rfl⟩
instance : ZeroT Tryz.prog 90 [.nilFunc] := ⟨.nilFunc, fun _ => by kernel_rfl, rfl⟩
instance : CellT Tryz.prog 91 := ⟨fun _ => by kernel_rfl, fun _ => by kernel_rfl⟩
instance : ZeroT Tryz.prog 91 [.nilFunc] := ⟨.nilFunc, fun _ => by kernel_rfl, rfl⟩
instance : CellT Tryz.prog 92 := ⟨fun _ => by kernel_rfl, fun _ => by kernel_rfl⟩
instance : ZeroT Tryz.prog 92 [.nilFunc] := ⟨.nilFunc, fun _ => by kernel_rfl, rfl⟩
instance : CellT Tryz.prog 93 := ⟨fun _ => by kernel_rfl, fun _ => by kernel_rfl⟩
instance : ZeroT Tryz.prog 93 [.nilFunc] := ⟨.nilFunc, fun _ => by kernel_rfl, rfl⟩
instance : CellT Tryz.prog 94 := ⟨fun _ => by kernel_rfl, fun _ => by kernel_rfl⟩
instance : ZeroT Tryz.prog 94 [.nilFunc] := ⟨.nilFunc, fun _ => by kernel_rfl, rfl⟩
instance : CellT Tryz.prog 95 := ⟨fun _ => by kernel_rfl, fun _ => by kernel_rfl⟩
instance : ZeroT Tryz.prog 95 [.nilFunc] := ⟨.nilFunc, fun _ => by kernel_rfl, rfl⟩
instance : CellT Tryz.prog 97 := ⟨fun _ => by kernel_rfl, fun _ => by kernel_rfl⟩
instance : ZeroT Tryz.prog 97 [.nilFunc] := ⟨.nilFunc, fun _ => by kernel_rfl, rfl⟩
instance : CellT Tryz.prog 98 := ⟨fun _ => by kernel_rfl, fun _ => by kernel_rfl⟩
instance : ZeroT Tryz.prog 98 [.nilFunc] := ⟨.nilFunc, fun _ => by kernel_rfl, rfl⟩
instance : CellT Tryz.prog 99 := ⟨fun _ => by kernel_rfl, fun _ => by kernel_rfl⟩
instance : ZeroT Tryz.prog 99 [.nilFunc] := ⟨.nilFunc, fun _ => by kernel_rfl, rfl⟩
instance : CellT Tryz.prog 100 := ⟨fun _ => by kernel_rfl, fun _ => by kernel_rfl⟩
instance : ZeroT Tryz.prog 100 [.nilFunc] := ⟨.nilFunc, fun _ => by kernel_rfl, rfl⟩
instance : CellT Tryz.prog 101 := ⟨fun _ => by kernel_rfl, fun _ => by kernel_rfl⟩
instance : ZeroT Tryz.prog 101 [.nilFunc] := ⟨.nilFunc, fun _ => by kernel_rfl, rfl⟩
instance : CellT Tryz.prog 102 := ⟨fun _ => by kernel_rfl, fun _ => by kernel_rfl⟩
instance : ZeroT Tryz.prog 102 [.nilFunc] := ⟨.nilFunc, fun _ => by kernel_rfl, rfl⟩
instance : CellT Tryz.prog 103 := ⟨fun _ => by kernel_rfl, fun _ => by kernel_rfl⟩
instance : ZeroT Tryz.prog 103 [.nilFunc] := ⟨.nilFunc, fun _ => by kernel_rfl, rfl⟩
instance : CellT Tryz.prog 104 := ⟨fun _ => by kernel_rfl, fun _ => by kernel_rfl⟩
instance : ZeroT Tryz.prog 104 [.nilFunc] := ⟨.nilFunc, fun _ => by kernel_rfl, rfl⟩
instance : CellT Tryz.prog 105 := ⟨fun _ => by kernel_rfl, fun _ => by kernel_rfl⟩
instance : ZeroT Tryz.prog 105 [.nilFunc] := ⟨.nilFunc, fun _ => by kernel_rfl, rfl⟩
instance : CellT Tryz.prog 106 := ⟨fun _ => by kernel_rfl, fun _ => by kernel_rfl⟩
instance : ZeroT Tryz.prog 106 [.nilFunc] := ⟨.nilFunc, fun _ => by kernel_rfl, rfl⟩
instance : CellT Tryz.prog 107 := ⟨fun _ => by kernel_rfl, fun _ => by kernel_rfl⟩
instance : ZeroT Tryz.prog 107 [.nilFunc] := ⟨.nilFunc, fun _ => by kernel_rfl, rfl⟩
instance : CellT Tryz.prog 108 := ⟨fun _ => by kernel_rfl, fun _ => by kernel_rfl⟩
instance : ZeroT Tryz.prog 108 [(.slice none 0 0)] := ⟨(.slice none 0 0), fun _ => by kernel_rfl, rfl⟩
set_option maxRecDepth 100000 in
instance : SlT Tryz.prog 108 110 2 16 := ⟨Tryz.underlying108, ⟨_, rfl, rfl, rfl⟩⟩
set_option maxRecDepth 100000 in
instance : MkT Tryz.prog 108 110 2 16 [(.int .i64 0), (.int .i64 0)] := ⟨Tryz.underlying108, ⟨_, _, rfl, rfl, rfl, rfl, rfl⟩⟩
instance : CellT Tryz.prog 109 := ⟨fun _ => by kernel_rfl, fun _ => by kernel_rfl⟩
instance : ZeroT Tryz.prog 109 [.nilFunc] := ⟨.nilFunc, fun _ => by kernel_rfl, rfl⟩
instance : AggT Tryz.prog 110 2 := ⟨fun _ => by kernel_rfl, fun _ => by kernel_rfl⟩
instance : ZeroT Tryz.prog 110 [(.int .i64 0), (.int .i64 0)] := ⟨.agg #[(.int .i64 0), (.int .i64 0)], fun _ => by kernel_rfl, rfl⟩
instance : ArrT Tryz.prog 110 2 3 1 := ⟨Tryz.underlying110, fun _ => by kernel_rfl⟩
instance : CellT Tryz.prog 111 := ⟨fun _ => by kernel_rfl, fun _ => by kernel_rfl⟩
instance : ZeroT Tryz.prog 111 [.nilFunc] := ⟨.nilFunc, fun _ => by kernel_rfl, rfl⟩
instance : CellT Tryz.prog 112 := ⟨fun _ => by kernel_rfl, fun _ => by kernel_rfl⟩
instance : ZeroT Tryz.prog 112 [.nilFunc] := ⟨.nilFunc, fun _ => by kernel_rfl, rfl⟩
instance : CellT Tryz.prog 113 := ⟨fun _ => by kernel_rfl, fun _ => by kernel_rfl⟩
instance : ZeroT Tryz.prog 113 [.nilFunc] := ⟨.nilFunc, fun _ => by kernel_rfl, rfl⟩
instance : CellT Tryz.prog 114 := ⟨fun _ => by kernel_rfl, fun _ => by kernel_rfl⟩
instance : ZeroT Tryz.prog 114 [.nilFunc] := ⟨.nilFunc, fun _ => by kernel_rfl, rfl⟩
instance : CellT Tryz.prog 115 := ⟨fun _ => by kernel_rfl, fun _ => by kernel_rfl⟩
instance : ZeroT Tryz.prog 115 [.nilFunc] := ⟨.nilFunc, fun _ => by kernel_rfl, rfl⟩
instance : CellT Tryz.prog 116 := ⟨fun _ => by kernel_rfl, fun _ => by kernel_rfl⟩
instance : ZeroT Tryz.prog 116 [.nilFunc] := ⟨.nilFunc, fun _ => by kernel_rfl, rfl⟩
instance : CellT Tryz.prog 117 := ⟨fun _ => by kernel_rfl, fun _ => by kernel_rfl⟩
instance : ZeroT Tryz.prog 117 [(.pointer none)] := ⟨(.pointer none), fun _ => by kernel_rfl, rfl⟩
instance : CellT Tryz.prog 118 := ⟨fun _ => by kernel_rfl, fun _ => by kernel_rfl⟩
instance : ZeroT Tryz.prog 118 [(.int .u64 0)] := ⟨(.int .u64 0), fun _ => by kernel_rfl, rfl⟩
instance : AggT Tryz.prog 119 3 := ⟨fun _ => by kernel_rfl, fun _ => by kernel_rfl⟩
instance : ZeroT Tryz.prog 119 [(.pointer none), (.pointer none), (.int .u64 0)] := ⟨.agg #[(.pointer none), (.pointer none), (.int .u64 0)], fun _ => by kernel_rfl, rfl⟩
instance : FieldT Tryz.prog 119 0 0 17 1 := ⟨⟨_, _, Tryz.underlying119, rfl, rfl, rfl⟩, fun _ => by kernel_rfl, by decide⟩
instance : FieldT Tryz.prog 119 1 1 117 1 := ⟨⟨_, _, Tryz.underlying119, rfl, rfl, rfl⟩, fun _ => by kernel_rfl, by decide⟩
instance : FieldT Tryz.prog 119 2 2 118 1 := ⟨⟨_, _, Tryz.underlying119, rfl, rfl, rfl⟩, fun _ => by kernel_rfl, by decide⟩
instance : StructT Tryz.prog 119 [(0, 1), (1, 1), (2, 1)] [(.pointer none), (.pointer none), (.int .u64 0)] := ⟨⟨_, Tryz.underlying119, fun _ => by kernel_rfl⟩, inferInstance⟩
instance : AggT Tryz.prog 120 3 := ⟨fun _ => by kernel_rfl, fun _ => by kernel_rfl⟩
instance : ZeroT Tryz.prog 120 [(.pointer none), (.pointer none), (.int .u64 0)] := ⟨.agg #[(.pointer none), (.pointer none), (.int .u64 0)], fun _ => by kernel_rfl, rfl⟩
instance : FieldT Tryz.prog 120 0 0 17 1 := ⟨⟨_, _, Tryz.underlying120, rfl, rfl, rfl⟩, fun _ => by kernel_rfl, by decide⟩
instance : FieldT Tryz.prog 120 1 1 117 1 := ⟨⟨_, _, Tryz.underlying120, rfl, rfl, rfl⟩, fun _ => by kernel_rfl, by decide⟩
instance : FieldT Tryz.prog 120 2 2 118 1 := ⟨⟨_, _, Tryz.underlying120, rfl, rfl, rfl⟩, fun _ => by kernel_rfl, by decide⟩
instance : StructT Tryz.prog 120 [(0, 1), (1, 1), (2, 1)] [(.pointer none), (.pointer none), (.int .u64 0)] := ⟨⟨_, Tryz.underlying120, fun _ => by kernel_rfl⟩, inferInstance⟩
instance : CellT Tryz.prog 121 := ⟨fun _ => by kernel_rfl, fun _ => by kernel_rfl⟩
instance : ZeroT Tryz.prog 121 [.nilFunc] := ⟨.nilFunc, fun _ => by kernel_rfl, rfl⟩
instance : CellT Tryz.prog 122 := ⟨fun _ => by kernel_rfl, fun _ => by kernel_rfl⟩
instance : ZeroT Tryz.prog 122 [.nilFunc] := ⟨.nilFunc, fun _ => by kernel_rfl, rfl⟩
instance : CellT Tryz.prog 123 := ⟨fun _ => by kernel_rfl, fun _ => by kernel_rfl⟩
instance : ZeroT Tryz.prog 123 [.nilFunc] := ⟨.nilFunc, fun _ => by kernel_rfl, rfl⟩
instance : CellT Tryz.prog 124 := ⟨fun _ => by kernel_rfl, fun _ => by kernel_rfl⟩
instance : ZeroT Tryz.prog 124 [.nilFunc] := ⟨.nilFunc, fun _ => by kernel_rfl, rfl⟩
instance : AggT Tryz.prog 125 2 := ⟨fun _ => by kernel_rfl, fun _ => by kernel_rfl⟩
instance : ZeroT Tryz.prog 125 [.nilFunc, .nilFunc] := ⟨.agg #[.nilFunc, .nilFunc], fun _ => by kernel_rfl, rfl⟩
instance : FieldT Tryz.prog 125 0 0 100 1 := ⟨⟨_, _, Tryz.underlying125, rfl, rfl, rfl⟩, fun _ => by kernel_rfl, by decide⟩
instance : FieldT Tryz.prog 125 1 1 122 1 := ⟨⟨_, _, Tryz.underlying125, rfl, rfl, rfl⟩, fun _ => by kernel_rfl, by decide⟩
instance : StructT Tryz.prog 125 [(0, 1), (1, 1)] [.nilFunc, .nilFunc] := ⟨⟨_, Tryz.underlying125, fun _ => by kernel_rfl⟩, inferInstance⟩
instance : AggT Tryz.prog 126 2 := ⟨fun _ => by kernel_rfl, fun _ => by kernel_rfl⟩
instance : ZeroT Tryz.prog 126 [.nilFunc, .nilFunc] := ⟨.agg #[.nilFunc, .nilFunc], fun _ => by kernel_rfl, rfl⟩
instance : FieldT Tryz.prog 126 0 0 100 1 := ⟨⟨_, _, Tryz.underlying126, rfl, rfl, rfl⟩, fun _ => by kernel_rfl, by decide⟩
instance : FieldT Tryz.prog 126 1 1 122 1 := ⟨⟨_, _, Tryz.underlying126, rfl, rfl, rfl⟩, fun _ => by kernel_rfl, by decide⟩
instance : StructT Tryz.prog 126 [(0, 1), (1, 1)] [.nilFunc, .nilFunc] := ⟨⟨_, Tryz.underlying126, fun _ => by kernel_rfl⟩, inferInstance⟩
instance : CellT Tryz.prog 127 := ⟨fun _ => by kernel_rfl, fun _ => by kernel_rfl⟩
instance : ZeroT Tryz.prog 127 [.nilFunc] := ⟨.nilFunc, fun _ => by kernel_rfl, rfl⟩
instance : CellT Tryz.prog 128 := ⟨fun _ => by kernel_rfl, fun _ => by kernel_rfl⟩
instance : ZeroT Tryz.prog 128 [.nilFunc] := ⟨.nilFunc, fun _ => by kernel_rfl, rfl⟩
instance : CellT Tryz.prog 129 := ⟨fun _ => by kernel_rfl, fun _ => by kernel_rfl⟩
instance : ZeroT Tryz.prog 129 [.nilFunc] := ⟨.nilFunc, fun _ => by kernel_rfl, rfl⟩
instance : CellT Tryz.prog 130 := ⟨fun _ => by kernel_rfl, fun _ => by kernel_rfl⟩
instance : ZeroT Tryz.prog 130 [.nilFunc] := ⟨.nilFunc, fun _ => by kernel_rfl, rfl⟩
instance : CellT Tryz.prog 131 := ⟨fun _ => by kernel_rfl, fun _ => by kernel_rfl⟩
instance : ZeroT Tryz.prog 131 [.nilFunc] := ⟨.nilFunc, fun _ => by kernel_rfl, rfl⟩
instance : AggT Tryz.prog 132 1 := ⟨fun _ => by kernel_rfl, fun _ => by kernel_rfl⟩
instance : ZeroT Tryz.prog 132 [(.pointer none)] := ⟨.agg #[(.pointer none)], fun _ => by kernel_rfl, rfl⟩
instance : FieldT Tryz.prog 132 0 0 17 1 := ⟨⟨_, _, Tryz.underlying132, rfl, rfl, rfl⟩, fun _ => by kernel_rfl, by decide⟩
instance : StructT Tryz.prog 132 [(0, 1)] [(.pointer none)] := ⟨⟨_, Tryz.underlying132, fun _ => by kernel_rfl⟩, inferInstance⟩
instance : AggT Tryz.prog 133 1 := ⟨fun _ => by kernel_rfl, fun _ => by kernel_rfl⟩
instance : ZeroT Tryz.prog 133 [(.pointer none)] := ⟨.agg #[(.pointer none)], fun _ => by kernel_rfl, rfl⟩
instance : FieldT Tryz.prog 133 0 0 17 1 := ⟨⟨_, _, Tryz.underlying133, rfl, rfl, rfl⟩, fun _ => by kernel_rfl, by decide⟩
instance : StructT Tryz.prog 133 [(0, 1)] [(.pointer none)] := ⟨⟨_, Tryz.underlying133, fun _ => by kernel_rfl⟩, inferInstance⟩
instance : CellT Tryz.prog 134 := ⟨fun _ => by kernel_rfl, fun _ => by kernel_rfl⟩
instance : ZeroT Tryz.prog 134 [(.pointer none)] := ⟨(.pointer none), fun _ => by kernel_rfl, rfl⟩
instance : CellT Tryz.prog 135 := ⟨fun _ => by kernel_rfl, fun _ => by kernel_rfl⟩
instance : ZeroT Tryz.prog 135 [.nilFunc] := ⟨.nilFunc, fun _ => by kernel_rfl, rfl⟩
instance : CellT Tryz.prog 136 := ⟨fun _ => by kernel_rfl, fun _ => by kernel_rfl⟩
instance : ZeroT Tryz.prog 136 [.nilFunc] := ⟨.nilFunc, fun _ => by kernel_rfl, rfl⟩
instance : CellT Tryz.prog 137 := ⟨fun _ => by kernel_rfl, fun _ => by kernel_rfl⟩
instance : ZeroT Tryz.prog 137 [(.int .u64 0)] := ⟨(.int .u64 0), fun _ => by kernel_rfl, rfl⟩
instance : CellT Tryz.prog 138 := ⟨fun _ => by kernel_rfl, fun _ => by kernel_rfl⟩
instance : ZeroT Tryz.prog 138 [.nilFunc] := ⟨.nilFunc, fun _ => by kernel_rfl, rfl⟩
instance : AggT Tryz.prog 139 4 := ⟨fun _ => by kernel_rfl, fun _ => by kernel_rfl⟩
instance : ZeroT Tryz.prog 139 [(.pointer none), (.pointer none), (.pointer none), (.string ByteArray.empty)] := ⟨.agg #[(.pointer none), (.pointer none), (.pointer none), (.string ByteArray.empty)], fun _ => by kernel_rfl, rfl⟩
instance : FieldT Tryz.prog 139 0 0 17 1 := ⟨⟨_, _, Tryz.underlying139, rfl, rfl, rfl⟩, fun _ => by kernel_rfl, by decide⟩
instance : FieldT Tryz.prog 139 1 1 17 1 := ⟨⟨_, _, Tryz.underlying139, rfl, rfl, rfl⟩, fun _ => by kernel_rfl, by decide⟩
instance : FieldT Tryz.prog 139 2 2 17 1 := ⟨⟨_, _, Tryz.underlying139, rfl, rfl, rfl⟩, fun _ => by kernel_rfl, by decide⟩
instance : FieldT Tryz.prog 139 3 3 9 1 := ⟨⟨_, _, Tryz.underlying139, rfl, rfl, rfl⟩, fun _ => by kernel_rfl, by decide⟩
instance : StructT Tryz.prog 139 [(0, 1), (1, 1), (2, 1), (3, 1)] [(.pointer none), (.pointer none), (.pointer none), (.string ByteArray.empty)] := ⟨⟨_, Tryz.underlying139, fun _ => by kernel_rfl⟩, inferInstance⟩
instance : AggT Tryz.prog 140 4 := ⟨fun _ => by kernel_rfl, fun _ => by kernel_rfl⟩
instance : ZeroT Tryz.prog 140 [(.pointer none), (.pointer none), (.pointer none), (.string ByteArray.empty)] := ⟨.agg #[(.pointer none), (.pointer none), (.pointer none), (.string ByteArray.empty)], fun _ => by kernel_rfl, rfl⟩
instance : FieldT Tryz.prog 140 0 0 17 1 := ⟨⟨_, _, Tryz.underlying140, rfl, rfl, rfl⟩, fun _ => by kernel_rfl, by decide⟩
instance : FieldT Tryz.prog 140 1 1 17 1 := ⟨⟨_, _, Tryz.underlying140, rfl, rfl, rfl⟩, fun _ => by kernel_rfl, by decide⟩
instance : FieldT Tryz.prog 140 2 2 17 1 := ⟨⟨_, _, Tryz.underlying140, rfl, rfl, rfl⟩, fun _ => by kernel_rfl, by decide⟩
instance : FieldT Tryz.prog 140 3 3 9 1 := ⟨⟨_, _, Tryz.underlying140, rfl, rfl, rfl⟩, fun _ => by kernel_rfl, by decide⟩
instance : StructT Tryz.prog 140 [(0, 1), (1, 1), (2, 1), (3, 1)] [(.pointer none), (.pointer none), (.pointer none), (.string ByteArray.empty)] := ⟨⟨_, Tryz.underlying140, fun _ => by kernel_rfl⟩, inferInstance⟩
instance : AggT Tryz.prog 141 0 := ⟨fun _ => by kernel_rfl, fun _ => by kernel_rfl⟩
instance : AggT Tryz.prog 142 0 := ⟨fun _ => by kernel_rfl, fun _ => by kernel_rfl⟩
instance : AggT Tryz.prog 143 0 := ⟨fun _ => by kernel_rfl, fun _ => by kernel_rfl⟩
instance : CellT Tryz.prog 144 := ⟨fun _ => by kernel_rfl, fun _ => by kernel_rfl⟩
instance : ZeroT Tryz.prog 144 [(.int .u32 0)] := ⟨(.int .u32 0), fun _ => by kernel_rfl, rfl⟩
instance : CellT Tryz.prog 145 := ⟨fun _ => by kernel_rfl, fun _ => by kernel_rfl⟩
instance : ZeroT Tryz.prog 145 [(.int .u8 0)] := ⟨(.int .u8 0), fun _ => by kernel_rfl, rfl⟩
instance : CellT Tryz.prog 146 := ⟨fun _ => by kernel_rfl, fun _ => by kernel_rfl⟩
instance : ZeroT Tryz.prog 146 [(.int .u8 0)] := ⟨(.int .u8 0), fun _ => by kernel_rfl, rfl⟩
instance : CellT Tryz.prog 147 := ⟨fun _ => by kernel_rfl, fun _ => by kernel_rfl⟩
instance : ZeroT Tryz.prog 147 [.nilFunc] := ⟨.nilFunc, fun _ => by kernel_rfl, rfl⟩
instance : CellT Tryz.prog 148 := ⟨fun _ => by kernel_rfl, fun _ => by kernel_rfl⟩
instance : ZeroT Tryz.prog 148 [(.pointer none)] := ⟨(.pointer none), fun _ => by kernel_rfl, rfl⟩
instance : CellT Tryz.prog 149 := ⟨fun _ => by kernel_rfl, fun _ => by kernel_rfl⟩
instance : ZeroT Tryz.prog 149 [(.int .i32 0)] := ⟨(.int .i32 0), fun _ => by kernel_rfl, rfl⟩
instance : CellT Tryz.prog 150 := ⟨fun _ => by kernel_rfl, fun _ => by kernel_rfl⟩
instance : ZeroT Tryz.prog 150 [(.int .i32 0)] := ⟨(.int .i32 0), fun _ => by kernel_rfl, rfl⟩
instance : AggT Tryz.prog 151 11 := ⟨fun _ => by kernel_rfl, fun _ => by kernel_rfl⟩
instance : ZeroT Tryz.prog 151 [(.int .u64 0), (.int .u64 0), (.int .u32 0), (.int .u8 0), (.int .u8 0), (.int .u8 0), (.int .u8 0), .nilFunc, (.pointer none), (.int .i32 0), (.int .i32 0)] := ⟨.agg #[(.int .u64 0), (.int .u64 0), (.int .u32 0), (.int .u8 0), (.int .u8 0), (.int .u8 0), (.int .u8 0), .nilFunc, (.pointer none), (.int .i32 0), (.int .i32 0)], fun _ => by kernel_rfl, rfl⟩
instance : FieldT Tryz.prog 151 0 0 12 1 := ⟨⟨_, _, Tryz.underlying151, rfl, rfl, rfl⟩, fun _ => by kernel_rfl, by decide⟩
instance : FieldT Tryz.prog 151 1 1 12 1 := ⟨⟨_, _, Tryz.underlying151, rfl, rfl, rfl⟩, fun _ => by kernel_rfl, by decide⟩
instance : FieldT Tryz.prog 151 2 2 144 1 := ⟨⟨_, _, Tryz.underlying151, rfl, rfl, rfl⟩, fun _ => by kernel_rfl, by decide⟩
instance : FieldT Tryz.prog 151 3 3 145 1 := ⟨⟨_, _, Tryz.underlying151, rfl, rfl, rfl⟩, fun _ => by kernel_rfl, by decide⟩
instance : FieldT Tryz.prog 151 4 4 5 1 := ⟨⟨_, _, Tryz.underlying151, rfl, rfl, rfl⟩, fun _ => by kernel_rfl, by decide⟩
instance : FieldT Tryz.prog 151 5 5 5 1 := ⟨⟨_, _, Tryz.underlying151, rfl, rfl, rfl⟩, fun _ => by kernel_rfl, by decide⟩
instance : FieldT Tryz.prog 151 6 6 146 1 := ⟨⟨_, _, Tryz.underlying151, rfl, rfl, rfl⟩, fun _ => by kernel_rfl, by decide⟩
instance : FieldT Tryz.prog 151 7 7 147 1 := ⟨⟨_, _, Tryz.underlying151, rfl, rfl, rfl⟩, fun _ => by kernel_rfl, by decide⟩
instance : FieldT Tryz.prog 151 8 8 148 1 := ⟨⟨_, _, Tryz.underlying151, rfl, rfl, rfl⟩, fun _ => by kernel_rfl, by decide⟩
instance : FieldT Tryz.prog 151 9 9 149 1 := ⟨⟨_, _, Tryz.underlying151, rfl, rfl, rfl⟩, fun _ => by kernel_rfl, by decide⟩
instance : FieldT Tryz.prog 151 10 10 150 1 := ⟨⟨_, _, Tryz.underlying151, rfl, rfl, rfl⟩, fun _ => by kernel_rfl, by decide⟩
instance : StructT Tryz.prog 151 [(0, 1), (1, 1), (2, 1), (3, 1), (4, 1), (5, 1), (6, 1), (7, 1), (8, 1), (9, 1), (10, 1)] [(.int .u64 0), (.int .u64 0), (.int .u32 0), (.int .u8 0), (.int .u8 0), (.int .u8 0), (.int .u8 0), .nilFunc, (.pointer none), (.int .i32 0), (.int .i32 0)] := ⟨⟨_, Tryz.underlying151, fun _ => by kernel_rfl⟩, inferInstance⟩
instance : AggT Tryz.prog 152 11 := ⟨fun _ => by kernel_rfl, fun _ => by kernel_rfl⟩
instance : ZeroT Tryz.prog 152 [(.int .u64 0), (.int .u64 0), (.int .u32 0), (.int .u8 0), (.int .u8 0), (.int .u8 0), (.int .u8 0), .nilFunc, (.pointer none), (.int .i32 0), (.int .i32 0)] := ⟨.agg #[(.int .u64 0), (.int .u64 0), (.int .u32 0), (.int .u8 0), (.int .u8 0), (.int .u8 0), (.int .u8 0), .nilFunc, (.pointer none), (.int .i32 0), (.int .i32 0)], fun _ => by kernel_rfl, rfl⟩
instance : FieldT Tryz.prog 152 0 0 12 1 := ⟨⟨_, _, Tryz.underlying152, rfl, rfl, rfl⟩, fun _ => by kernel_rfl, by decide⟩
instance : FieldT Tryz.prog 152 1 1 12 1 := ⟨⟨_, _, Tryz.underlying152, rfl, rfl, rfl⟩, fun _ => by kernel_rfl, by decide⟩
instance : FieldT Tryz.prog 152 2 2 144 1 := ⟨⟨_, _, Tryz.underlying152, rfl, rfl, rfl⟩, fun _ => by kernel_rfl, by decide⟩
instance : FieldT Tryz.prog 152 3 3 145 1 := ⟨⟨_, _, Tryz.underlying152, rfl, rfl, rfl⟩, fun _ => by kernel_rfl, by decide⟩
instance : FieldT Tryz.prog 152 4 4 5 1 := ⟨⟨_, _, Tryz.underlying152, rfl, rfl, rfl⟩, fun _ => by kernel_rfl, by decide⟩
instance : FieldT Tryz.prog 152 5 5 5 1 := ⟨⟨_, _, Tryz.underlying152, rfl, rfl, rfl⟩, fun _ => by kernel_rfl, by decide⟩
instance : FieldT Tryz.prog 152 6 6 146 1 := ⟨⟨_, _, Tryz.underlying152, rfl, rfl, rfl⟩, fun _ => by kernel_rfl, by decide⟩
instance : FieldT Tryz.prog 152 7 7 147 1 := ⟨⟨_, _, Tryz.underlying152, rfl, rfl, rfl⟩, fun _ => by kernel_rfl, by decide⟩
instance : FieldT Tryz.prog 152 8 8 148 1 := ⟨⟨_, _, Tryz.underlying152, rfl, rfl, rfl⟩, fun _ => by kernel_rfl, by decide⟩
instance : FieldT Tryz.prog 152 9 9 149 1 := ⟨⟨_, _, Tryz.underlying152, rfl, rfl, rfl⟩, fun _ => by kernel_rfl, by decide⟩
instance : FieldT Tryz.prog 152 10 10 150 1 := ⟨⟨_, _, Tryz.underlying152, rfl, rfl, rfl⟩, fun _ => by kernel_rfl, by decide⟩
instance : StructT Tryz.prog 152 [(0, 1), (1, 1), (2, 1), (3, 1), (4, 1), (5, 1), (6, 1), (7, 1), (8, 1), (9, 1), (10, 1)] [(.int .u64 0), (.int .u64 0), (.int .u32 0), (.int .u8 0), (.int .u8 0), (.int .u8 0), (.int .u8 0), .nilFunc, (.pointer none), (.int .i32 0), (.int .i32 0)] := ⟨⟨_, Tryz.underlying152, fun _ => by kernel_rfl⟩, inferInstance⟩
instance : AggT Tryz.prog 153 2 := ⟨fun _ => by kernel_rfl, fun _ => by kernel_rfl⟩
instance : ZeroT Tryz.prog 153 [(.string ByteArray.empty), (.int .u8 0)] := ⟨.agg #[(.string ByteArray.empty), (.int .u8 0)], fun _ => by kernel_rfl, rfl⟩
instance : FieldT Tryz.prog 153 0 0 9 1 := ⟨⟨_, _, Tryz.underlying153, rfl, rfl, rfl⟩, fun _ => by kernel_rfl, by decide⟩
instance : FieldT Tryz.prog 153 1 1 146 1 := ⟨⟨_, _, Tryz.underlying153, rfl, rfl, rfl⟩, fun _ => by kernel_rfl, by decide⟩
instance : StructT Tryz.prog 153 [(0, 1), (1, 1)] [(.string ByteArray.empty), (.int .u8 0)] := ⟨⟨_, Tryz.underlying153, fun _ => by kernel_rfl⟩, inferInstance⟩
instance : AggT Tryz.prog 154 2 := ⟨fun _ => by kernel_rfl, fun _ => by kernel_rfl⟩
instance : ZeroT Tryz.prog 154 [(.string ByteArray.empty), (.int .u8 0)] := ⟨.agg #[(.string ByteArray.empty), (.int .u8 0)], fun _ => by kernel_rfl, rfl⟩
instance : FieldT Tryz.prog 154 0 0 9 1 := ⟨⟨_, _, Tryz.underlying154, rfl, rfl, rfl⟩, fun _ => by kernel_rfl, by decide⟩
instance : FieldT Tryz.prog 154 1 1 146 1 := ⟨⟨_, _, Tryz.underlying154, rfl, rfl, rfl⟩, fun _ => by kernel_rfl, by decide⟩
instance : StructT Tryz.prog 154 [(0, 1), (1, 1)] [(.string ByteArray.empty), (.int .u8 0)] := ⟨⟨_, Tryz.underlying154, fun _ => by kernel_rfl⟩, inferInstance⟩
instance : FnT Tryz.prog 3 := ⟨Tryz.call3⟩
instance : FnT Tryz.prog 4 := ⟨Tryz.call4⟩
instance : FnT Tryz.prog 5 := ⟨Tryz.call5⟩
instance : FnT Tryz.prog 6 := ⟨Tryz.call6⟩
instance : FnT Tryz.prog 7 := ⟨Tryz.call7⟩
instance : FnT Tryz.prog 8 := ⟨Tryz.call8⟩
instance : FnT Tryz.prog 9 := ⟨Tryz.call9⟩
instance : FnT Tryz.prog 10 := ⟨Tryz.call10⟩
instance : FnT Tryz.prog 11 := ⟨Tryz.call11⟩
instance : FnT Tryz.prog 12 := ⟨Tryz.call12⟩
instance : FnT Tryz.prog 13 := ⟨Tryz.call13⟩
instance : FnT Tryz.prog 14 := ⟨Tryz.call14⟩
instance : FnT Tryz.prog 15 := ⟨Tryz.call15⟩
instance : FnT Tryz.prog 16 := ⟨Tryz.call16⟩
instance : FnT Tryz.prog 17 := ⟨Tryz.call17⟩
instance : FnT Tryz.prog 18 := ⟨Tryz.call18⟩
instance : FnT Tryz.prog 19 := ⟨Tryz.call19⟩
instance : FnT Tryz.prog 20 := ⟨Tryz.call20⟩
instance : FnT Tryz.prog 21 := ⟨Tryz.call21⟩
instance : FnT Tryz.prog 22 := ⟨Tryz.call22⟩
instance : FnT Tryz.prog 23 := ⟨Tryz.call23⟩
instance : FnT Tryz.prog 24 := ⟨Tryz.call24⟩
instance : FnT Tryz.prog 25 := ⟨Tryz.call25⟩
instance : FnT Tryz.prog 26 := ⟨Tryz.call26⟩
instance : FnT Tryz.prog 27 := ⟨Tryz.call27⟩
instance : FnT Tryz.prog 28 := ⟨Tryz.call28⟩
instance : FnT Tryz.prog 29 := ⟨Tryz.call29⟩
instance : FnT Tryz.prog 30 := ⟨Tryz.call30⟩
instance : FnT Tryz.prog 31 := ⟨Tryz.call31⟩
instance : FnT Tryz.prog 32 := ⟨Tryz.call32⟩
instance : FnT Tryz.prog 33 := ⟨Tryz.call33⟩
instance : FnT Tryz.prog 34 := ⟨Tryz.call34⟩
instance : FnT Tryz.prog 35 := ⟨Tryz.call35⟩
instance : FnT Tryz.prog 36 := ⟨Tryz.call36⟩
instance : FnT Tryz.prog 37 := ⟨Tryz.call37⟩
instance : FnT Tryz.prog 38 := ⟨Tryz.call38⟩
instance : FnT Tryz.prog 39 := ⟨Tryz.call39⟩
instance : FnT Tryz.prog 40 := ⟨Tryz.call40⟩
instance : FnT Tryz.prog 41 := ⟨Tryz.call41⟩
instance : FnT Tryz.prog 42 := ⟨Tryz.call42⟩
instance : FnT Tryz.prog 43 := ⟨Tryz.call43⟩
instance : FnT Tryz.prog 44 := ⟨Tryz.call44⟩
instance : FnT Tryz.prog 45 := ⟨Tryz.call45⟩
instance : FnT Tryz.prog 46 := ⟨Tryz.call46⟩
instance : FnT Tryz.prog 47 := ⟨Tryz.call47⟩
instance : FnT Tryz.prog 48 := ⟨Tryz.call48⟩
instance : FnT Tryz.prog 49 := ⟨Tryz.call49⟩
instance : FnT Tryz.prog 50 := ⟨Tryz.call50⟩
instance : FnT Tryz.prog 51 := ⟨Tryz.call51⟩
instance : FnT Tryz.prog 52 := ⟨Tryz.call52⟩
instance : FnT Tryz.prog 53 := ⟨Tryz.call53⟩
instance : FnT Tryz.prog 54 := ⟨Tryz.call54⟩
instance : FnT Tryz.prog 55 := ⟨Tryz.call55⟩
instance : FnT Tryz.prog 56 := ⟨Tryz.call56⟩
instance : FnT Tryz.prog 57 := ⟨Tryz.call57⟩
instance : FnT Tryz.prog 58 := ⟨Tryz.call58⟩
instance : FnT Tryz.prog 59 := ⟨Tryz.call59⟩
instance : FnT Tryz.prog 60 := ⟨Tryz.call60⟩
instance : FnT Tryz.prog 61 := ⟨Tryz.call61⟩
instance : FnT Tryz.prog 62 := ⟨Tryz.call62⟩
instance : FnT Tryz.prog 63 := ⟨Tryz.call63⟩
instance : FnT Tryz.prog 64 := ⟨Tryz.call64⟩
instance : FnT Tryz.prog 65 := ⟨Tryz.call65⟩
instance : FnT Tryz.prog 66 := ⟨Tryz.call66⟩
instance : FnT Tryz.prog 67 := ⟨Tryz.call67⟩
instance : FnT Tryz.prog 68 := ⟨Tryz.call68⟩
instance : FnT Tryz.prog 69 := ⟨Tryz.call69⟩
instance : FnT Tryz.prog 70 := ⟨Tryz.call70⟩
instance : FnT Tryz.prog 71 := ⟨Tryz.call71⟩
instance : FnT Tryz.prog 72 := ⟨Tryz.call72⟩
instance : FnT Tryz.prog 73 := ⟨Tryz.call73⟩
instance : FnT Tryz.prog 74 := ⟨Tryz.call74⟩
instance : FnT Tryz.prog 75 := ⟨Tryz.call75⟩
instance : FnT Tryz.prog 76 := ⟨Tryz.call76⟩
instance : FnT Tryz.prog 77 := ⟨Tryz.call77⟩
instance : FnT Tryz.prog 78 := ⟨Tryz.call78⟩
instance : FnT Tryz.prog 79 := ⟨Tryz.call79⟩
instance : FnT Tryz.prog 80 := ⟨Tryz.call80⟩
instance : FnT Tryz.prog 81 := ⟨Tryz.call81⟩
instance : FnT Tryz.prog 82 := ⟨Tryz.call82⟩
instance : FnT Tryz.prog 83 := ⟨Tryz.call83⟩
instance : FnT Tryz.prog 84 := ⟨Tryz.call84⟩
instance : FnT Tryz.prog 85 := ⟨Tryz.call85⟩
instance : FnT Tryz.prog 86 := ⟨Tryz.call86⟩
instance : FnT Tryz.prog 87 := ⟨Tryz.call87⟩
instance : FnT Tryz.prog 88 := ⟨Tryz.call88⟩
instance : FnT Tryz.prog 89 := ⟨Tryz.call89⟩
instance : FnT Tryz.prog 90 := ⟨Tryz.call90⟩
instance : FnT Tryz.prog 91 := ⟨Tryz.call91⟩
instance : FnT Tryz.prog 92 := ⟨Tryz.call92⟩
instance : FnT Tryz.prog 93 := ⟨Tryz.call93⟩
instance : FnT Tryz.prog 94 := ⟨Tryz.call94⟩
instance : FnT Tryz.prog 95 := ⟨Tryz.call95⟩
instance : FnT Tryz.prog 96 := ⟨Tryz.call96⟩
instance : FnT Tryz.prog 97 := ⟨Tryz.call97⟩
instance : FnT Tryz.prog 98 := ⟨Tryz.call98⟩
instance : FnT Tryz.prog 99 := ⟨Tryz.call99⟩
instance : FnT Tryz.prog 100 := ⟨Tryz.call100⟩
instance : FnT Tryz.prog 101 := ⟨Tryz.call101⟩
instance : FnT Tryz.prog 102 := ⟨Tryz.call102⟩
instance : FnT Tryz.prog 103 := ⟨Tryz.call103⟩
instance : FnT Tryz.prog 104 := ⟨Tryz.call104⟩
instance : FnT Tryz.prog 105 := ⟨Tryz.call105⟩
instance : FnT Tryz.prog 106 := ⟨Tryz.call106⟩
instance : FnT Tryz.prog 107 := ⟨Tryz.call107⟩
instance : FnT Tryz.prog 108 := ⟨Tryz.call108⟩
instance : FnT Tryz.prog 109 := ⟨Tryz.call109⟩
instance : FnT Tryz.prog 110 := ⟨Tryz.call110⟩
instance : FnT Tryz.prog 111 := ⟨Tryz.call111⟩
instance : FnT Tryz.prog 112 := ⟨Tryz.call112⟩
instance : FnT Tryz.prog 113 := ⟨Tryz.call113⟩
instance : FnT Tryz.prog 114 := ⟨Tryz.call114⟩
instance : FnT Tryz.prog 115 := ⟨Tryz.call115⟩
instance : FnT Tryz.prog 116 := ⟨Tryz.call116⟩
instance : FnT Tryz.prog 117 := ⟨Tryz.call117⟩
instance : FnT Tryz.prog 118 := ⟨Tryz.call118⟩
instance : FnT Tryz.prog 119 := ⟨Tryz.call119⟩
instance : FnT Tryz.prog 120 := ⟨Tryz.call120⟩
instance : FnT Tryz.prog 121 := ⟨Tryz.call121⟩
instance : FnT Tryz.prog 122 := ⟨Tryz.call122⟩
instance : FnT Tryz.prog 123 := ⟨Tryz.call123⟩
instance : FnT Tryz.prog 124 := ⟨Tryz.call124⟩
instance : FnT Tryz.prog 125 := ⟨Tryz.call125⟩
instance : FnT Tryz.prog 126 := ⟨Tryz.call126⟩
instance : FnT Tryz.prog 127 := ⟨Tryz.call127⟩
instance : FnT Tryz.prog 128 := ⟨Tryz.call128⟩
instance : FnT Tryz.prog 129 := ⟨Tryz.call129⟩
instance : FnT Tryz.prog 130 := ⟨Tryz.call130⟩
instance : FnT Tryz.prog 131 := ⟨Tryz.call131⟩
instance : FnT Tryz.prog 132 := ⟨Tryz.call132⟩
instance : FnT Tryz.prog 133 := ⟨Tryz.call133⟩
instance : FnT Tryz.prog 136 := ⟨Tryz.call136⟩
instance : FnT Tryz.prog 138 := ⟨Tryz.call138⟩
instance : FnT Tryz.prog 139 := ⟨Tryz.call139⟩
instance : FnT Tryz.prog 140 := ⟨Tryz.call140⟩
instance : FnT Tryz.prog 141 := ⟨Tryz.call141⟩
instance : FnT Tryz.prog 142 := ⟨Tryz.call142⟩
instance : FnT Tryz.prog 143 := ⟨Tryz.call143⟩
instance : FnT Tryz.prog 144 := ⟨Tryz.call144⟩
instance : FnT Tryz.prog 145 := ⟨Tryz.call145⟩
instance : FnT Tryz.prog 155 := ⟨Tryz.call155⟩
instance : FnT Tryz.prog 156 := ⟨Tryz.call156⟩
instance : FnT Tryz.prog 157 := ⟨Tryz.call157⟩
instance : FnT Tryz.prog 158 := ⟨Tryz.call158⟩
end Go.Proofs.YtbfmjknngofleaaGreat
