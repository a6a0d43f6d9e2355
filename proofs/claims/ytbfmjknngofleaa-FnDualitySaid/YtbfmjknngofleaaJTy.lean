/- What the translation's types and functions say, as instances. -/
import Derived.Test.YtbfmjknngofleaaChecked
import Derived.Test.YtbfmjknngofleaaJPw
namespace Go.Proofs.Ytbfmjknngofleaa
open Go Go.Pv Go.Proofs

instance : CellT Try.prog 1 := ⟨fun _ => by kernel_rfl, fun _ => by kernel_rfl⟩
instance : ZeroT Try.prog 1 [.nilFunc] := ⟨.nilFunc, fun _ => by kernel_rfl, rfl⟩
instance : CellT Try.prog 2 := ⟨fun _ => by kernel_rfl, fun _ => by kernel_rfl⟩
instance : ZeroT Try.prog 2 [(.int .i64 0)] := ⟨(.int .i64 0), fun _ => by kernel_rfl, rfl⟩
instance : CellT Try.prog 3 := ⟨fun _ => by kernel_rfl, fun _ => by kernel_rfl⟩
instance : ZeroT Try.prog 3 [(.int .i64 0)] := ⟨(.int .i64 0), fun _ => by kernel_rfl, rfl⟩
instance : BoolT Try.prog 4 := ⟨by kernel_rfl⟩
instance : CellT Try.prog 4 := ⟨fun _ => by kernel_rfl, fun _ => by kernel_rfl⟩
instance : ZeroT Try.prog 4 [(.bool false)] := ⟨(.bool false), fun _ => by kernel_rfl, rfl⟩
instance : CellT Try.prog 5 := ⟨fun _ => by kernel_rfl, fun _ => by kernel_rfl⟩
instance : ZeroT Try.prog 5 [(.int .u8 0)] := ⟨(.int .u8 0), fun _ => by kernel_rfl, rfl⟩
instance : CellT Try.prog 6 := ⟨fun _ => by kernel_rfl, fun _ => by kernel_rfl⟩
instance : ZeroT Try.prog 6 [(.int .u8 0)] := ⟨(.int .u8 0), fun _ => by kernel_rfl, rfl⟩
instance : AggT Try.prog 7 4 := ⟨fun _ => by kernel_rfl, fun _ => by kernel_rfl⟩
instance : ZeroT Try.prog 7 [(.int .i64 0), (.int .i64 0), (.bool false), (.int .u8 0)] := ⟨.agg #[(.int .i64 0), (.int .i64 0), (.bool false), (.int .u8 0)], fun _ => by kernel_rfl, rfl⟩
instance : FieldT Try.prog 7 0 0 2 1 := ⟨⟨_, _, Try.underlying7, rfl, rfl, rfl⟩, fun _ => by kernel_rfl, by decide⟩
instance : FieldT Try.prog 7 1 1 3 1 := ⟨⟨_, _, Try.underlying7, rfl, rfl, rfl⟩, fun _ => by kernel_rfl, by decide⟩
instance : FieldT Try.prog 7 2 2 4 1 := ⟨⟨_, _, Try.underlying7, rfl, rfl, rfl⟩, fun _ => by kernel_rfl, by decide⟩
instance : FieldT Try.prog 7 3 3 6 1 := ⟨⟨_, _, Try.underlying7, rfl, rfl, rfl⟩, fun _ => by kernel_rfl, by decide⟩
instance : StructT Try.prog 7 [(0, 1), (1, 1), (2, 1), (3, 1)] [(.int .i64 0), (.int .i64 0), (.bool false), (.int .u8 0)] := ⟨⟨_, Try.underlying7, fun _ => by kernel_rfl⟩, inferInstance⟩
instance : AggT Try.prog 8 4 := ⟨fun _ => by kernel_rfl, fun _ => by kernel_rfl⟩
instance : ZeroT Try.prog 8 [(.int .i64 0), (.int .i64 0), (.bool false), (.int .u8 0)] := ⟨.agg #[(.int .i64 0), (.int .i64 0), (.bool false), (.int .u8 0)], fun _ => by kernel_rfl, rfl⟩
instance : FieldT Try.prog 8 0 0 2 1 := ⟨⟨_, _, Try.underlying8, rfl, rfl, rfl⟩, fun _ => by kernel_rfl, by decide⟩
instance : FieldT Try.prog 8 1 1 3 1 := ⟨⟨_, _, Try.underlying8, rfl, rfl, rfl⟩, fun _ => by kernel_rfl, by decide⟩
instance : FieldT Try.prog 8 2 2 4 1 := ⟨⟨_, _, Try.underlying8, rfl, rfl, rfl⟩, fun _ => by kernel_rfl, by decide⟩
instance : FieldT Try.prog 8 3 3 6 1 := ⟨⟨_, _, Try.underlying8, rfl, rfl, rfl⟩, fun _ => by kernel_rfl, by decide⟩
instance : StructT Try.prog 8 [(0, 1), (1, 1), (2, 1), (3, 1)] [(.int .i64 0), (.int .i64 0), (.bool false), (.int .u8 0)] := ⟨⟨_, Try.underlying8, fun _ => by kernel_rfl⟩, inferInstance⟩
instance : CellT Try.prog 9 := ⟨fun _ => by kernel_rfl, fun _ => by kernel_rfl⟩
instance : ZeroT Try.prog 9 [(.string ByteArray.empty)] := ⟨(.string ByteArray.empty), fun _ => by kernel_rfl, rfl⟩
instance : CellT Try.prog 10 := ⟨fun _ => by kernel_rfl, fun _ => by kernel_rfl⟩
instance : ZeroT Try.prog 10 [(.string ByteArray.empty)] := ⟨(.string ByteArray.empty), fun _ => by kernel_rfl, rfl⟩
instance : CellT Try.prog 11 := ⟨fun _ => by kernel_rfl, fun _ => by kernel_rfl⟩
instance : ZeroT Try.prog 11 [(.string ByteArray.empty)] := ⟨(.string ByteArray.empty), fun _ => by kernel_rfl, rfl⟩
instance : CellT Try.prog 12 := ⟨fun _ => by kernel_rfl, fun _ => by kernel_rfl⟩
instance : ZeroT Try.prog 12 [(.int .u64 0)] := ⟨(.int .u64 0), fun _ => by kernel_rfl, rfl⟩
instance : AggT Try.prog 13 2 := ⟨fun _ => by kernel_rfl, fun _ => by kernel_rfl⟩
instance : ZeroT Try.prog 13 [(.string ByteArray.empty), (.int .u64 0)] := ⟨.agg #[(.string ByteArray.empty), (.int .u64 0)], fun _ => by kernel_rfl, rfl⟩
instance : FieldT Try.prog 13 0 0 9 1 := ⟨⟨_, _, Try.underlying13, rfl, rfl, rfl⟩, fun _ => by kernel_rfl, by decide⟩
instance : FieldT Try.prog 13 1 1 12 1 := ⟨⟨_, _, Try.underlying13, rfl, rfl, rfl⟩, fun _ => by kernel_rfl, by decide⟩
instance : StructT Try.prog 13 [(0, 1), (1, 1)] [(.string ByteArray.empty), (.int .u64 0)] := ⟨⟨_, Try.underlying13, fun _ => by kernel_rfl⟩, inferInstance⟩
instance : AggT Try.prog 14 2 := ⟨fun _ => by kernel_rfl, fun _ => by kernel_rfl⟩
instance : ZeroT Try.prog 14 [(.string ByteArray.empty), (.int .u64 0)] := ⟨.agg #[(.string ByteArray.empty), (.int .u64 0)], fun _ => by kernel_rfl, rfl⟩
instance : FieldT Try.prog 14 0 0 9 1 := ⟨⟨_, _, Try.underlying14, rfl, rfl, rfl⟩, fun _ => by kernel_rfl, by decide⟩
instance : FieldT Try.prog 14 1 1 12 1 := ⟨⟨_, _, Try.underlying14, rfl, rfl, rfl⟩, fun _ => by kernel_rfl, by decide⟩
instance : StructT Try.prog 14 [(0, 1), (1, 1)] [(.string ByteArray.empty), (.int .u64 0)] := ⟨⟨_, Try.underlying14, fun _ => by kernel_rfl⟩, inferInstance⟩
instance : CellT Try.prog 15 := ⟨fun _ => by kernel_rfl, fun _ => by kernel_rfl⟩
instance : ZeroT Try.prog 15 [(.pointer none)] := ⟨(.pointer none), fun _ => by kernel_rfl, rfl⟩
instance : CellT Try.prog 16 := ⟨fun _ => by kernel_rfl, fun _ => by kernel_rfl⟩
instance : ZeroT Try.prog 16 [(.pointer none)] := ⟨(.pointer none), fun _ => by kernel_rfl, rfl⟩
instance : CellT Try.prog 17 := ⟨fun _ => by kernel_rfl, fun _ => by kernel_rfl⟩
instance : ZeroT Try.prog 17 [(.pointer none)] := ⟨(.pointer none), fun _ => by kernel_rfl, rfl⟩
instance : AggT Try.prog 18 1 := ⟨fun _ => by kernel_rfl, fun _ => by kernel_rfl⟩
instance : ZeroT Try.prog 18 [(.pointer none)] := ⟨.agg #[(.pointer none)], fun _ => by kernel_rfl, rfl⟩
instance : FieldT Try.prog 18 0 0 17 1 := ⟨⟨_, _, Try.underlying18, rfl, rfl, rfl⟩, fun _ => by kernel_rfl, by decide⟩
instance : StructT Try.prog 18 [(0, 1)] [(.pointer none)] := ⟨⟨_, Try.underlying18, fun _ => by kernel_rfl⟩, inferInstance⟩
instance : AggT Try.prog 19 1 := ⟨fun _ => by kernel_rfl, fun _ => by kernel_rfl⟩
instance : ZeroT Try.prog 19 [(.pointer none)] := ⟨.agg #[(.pointer none)], fun _ => by kernel_rfl, rfl⟩
instance : FieldT Try.prog 19 0 0 17 1 := ⟨⟨_, _, Try.underlying19, rfl, rfl, rfl⟩, fun _ => by kernel_rfl, by decide⟩
instance : StructT Try.prog 19 [(0, 1)] [(.pointer none)] := ⟨⟨_, Try.underlying19, fun _ => by kernel_rfl⟩, inferInstance⟩
instance : CellT Try.prog 20 := ⟨fun _ => by kernel_rfl, fun _ => by kernel_rfl⟩
instance : ZeroT Try.prog 20 [.nilIface] := ⟨.nilIface, fun _ => by kernel_rfl, rfl⟩
instance : CellT Try.prog 21 := ⟨fun _ => by kernel_rfl, fun _ => by kernel_rfl⟩
instance : ZeroT Try.prog 21 [(.int .i32 0)] := ⟨(.int .i32 0), fun _ => by kernel_rfl, rfl⟩
instance : CellT Try.prog 22 := ⟨fun _ => by kernel_rfl, fun _ => by kernel_rfl⟩
instance : ZeroT Try.prog 22 [(.slice none 0 0)] := ⟨(.slice none 0 0), fun _ => by kernel_rfl, rfl⟩
instance : SlT Try.prog 22 5 1 1 := ⟨Try.underlying22, ⟨_, rfl, rfl, rfl⟩⟩
instance : MkT Try.prog 22 5 1 1 [(.int .u8 0)] := ⟨Try.underlying22, ⟨_, _, rfl, rfl, rfl, rfl, rfl⟩⟩
instance : CellT Try.prog 23 := ⟨fun _ => by kernel_rfl, fun _ => by kernel_rfl⟩
instance : ZeroT Try.prog 23 [.nilFunc] := ⟨.nilFunc, fun _ => by kernel_rfl, rfl⟩
instance : CellT Try.prog 24 := ⟨fun _ => by kernel_rfl, fun _ => by kernel_rfl⟩
instance : ZeroT Try.prog 24 [(.slice none 0 0)] := ⟨(.slice none 0 0), fun _ => by kernel_rfl, rfl⟩
instance : SlT Try.prog 24 27 1 24 := ⟨Try.underlying24, ⟨_, rfl, rfl, rfl⟩⟩
instance : MkT Try.prog 24 27 1 24 [(.slice none 0 0)] := ⟨Try.underlying24, ⟨_, _, rfl, rfl, rfl, rfl, rfl⟩⟩
instance : AggT Try.prog 25 1 := ⟨fun _ => by kernel_rfl, fun _ => by kernel_rfl⟩
instance : ZeroT Try.prog 25 [(.slice none 0 0)] := ⟨.agg #[(.slice none 0 0)], fun _ => by kernel_rfl, rfl⟩
instance : FieldT Try.prog 25 0 0 24 1 := ⟨⟨_, _, Try.underlying25, rfl, rfl, rfl⟩, fun _ => by kernel_rfl, by decide⟩
instance : StructT Try.prog 25 [(0, 1)] [(.slice none 0 0)] := ⟨⟨_, Try.underlying25, fun _ => by kernel_rfl⟩, inferInstance⟩
instance : AggT Try.prog 26 1 := ⟨fun _ => by kernel_rfl, fun _ => by kernel_rfl⟩
instance : ZeroT Try.prog 26 [(.slice none 0 0)] := ⟨.agg #[(.slice none 0 0)], fun _ => by kernel_rfl, rfl⟩
instance : FieldT Try.prog 26 0 0 24 1 := ⟨⟨_, _, Try.underlying26, rfl, rfl, rfl⟩, fun _ => by kernel_rfl, by decide⟩
instance : StructT Try.prog 26 [(0, 1)] [(.slice none 0 0)] := ⟨⟨_, Try.underlying26, fun _ => by kernel_rfl⟩, inferInstance⟩
instance : CellT Try.prog 27 := ⟨fun _ => by kernel_rfl, fun _ => by kernel_rfl⟩
instance : ZeroT Try.prog 27 [(.slice none 0 0)] := ⟨(.slice none 0 0), fun _ => by kernel_rfl, rfl⟩
instance : SlT Try.prog 27 3 1 8 := ⟨Try.underlying27, ⟨_, rfl, rfl, rfl⟩⟩
instance : MkT Try.prog 27 3 1 8 [(.int .i64 0)] := ⟨Try.underlying27, ⟨_, _, rfl, rfl, rfl, rfl, rfl⟩⟩
instance : CellT Try.prog 29 := ⟨fun _ => by kernel_rfl, fun _ => by kernel_rfl⟩
instance : ZeroT Try.prog 29 [.nilFunc] := ⟨.nilFunc, fun _ => by kernel_rfl, rfl⟩
instance : CellT Try.prog 31 := ⟨fun _ => by kernel_rfl, fun _ => by kernel_rfl⟩
instance : ZeroT Try.prog 31 [.nilFunc] := ⟨.nilFunc, fun _ => by kernel_rfl, rfl⟩
instance : CellT Try.prog 32 := ⟨fun _ => by kernel_rfl, fun _ => by kernel_rfl⟩
instance : ZeroT Try.prog 32 [.nilFunc] := ⟨.nilFunc, fun _ => by kernel_rfl, rfl⟩
instance : CellT Try.prog 34 := ⟨fun _ => by kernel_rfl, fun _ => by kernel_rfl⟩
instance : ZeroT Try.prog 34 [.nilFunc] := ⟨.nilFunc, fun _ => by kernel_rfl, rfl⟩
instance : CellT Try.prog 35 := ⟨fun _ => by kernel_rfl, fun _ => by kernel_rfl⟩
instance : ZeroT Try.prog 35 [(.pointer none)] := ⟨(.pointer none), fun _ => by kernel_rfl, rfl⟩
instance : CellT Try.prog 36 := ⟨fun _ => by kernel_rfl, fun _ => by kernel_rfl⟩
instance : ZeroT Try.prog 36 [(.int .u64 0)] := ⟨(.int .u64 0), fun _ => by kernel_rfl, rfl⟩
instance : AggT Try.prog 37 3 := ⟨fun _ => by kernel_rfl, fun _ => by kernel_rfl⟩
instance : ZeroT Try.prog 37 [(.slice none 0 0), (.int .i64 0), (.int .u64 0)] := ⟨.agg #[(.slice none 0 0), (.int .i64 0), (.int .u64 0)], fun _ => by kernel_rfl, rfl⟩
instance : FieldT Try.prog 37 0 0 22 1 := ⟨⟨_, _, Try.underlying37, rfl, rfl, rfl⟩, fun _ => by kernel_rfl, by decide⟩
instance : FieldT Try.prog 37 1 1 3 1 := ⟨⟨_, _, Try.underlying37, rfl, rfl, rfl⟩, fun _ => by kernel_rfl, by decide⟩
instance : FieldT Try.prog 37 2 2 36 1 := ⟨⟨_, _, Try.underlying37, rfl, rfl, rfl⟩, fun _ => by kernel_rfl, by decide⟩
instance : StructT Try.prog 37 [(0, 1), (1, 1), (2, 1)] [(.slice none 0 0), (.int .i64 0), (.int .u64 0)] := ⟨⟨_, Try.underlying37, fun _ => by kernel_rfl⟩, inferInstance⟩
instance : AggT Try.prog 38 3 := ⟨fun _ => by kernel_rfl, fun _ => by kernel_rfl⟩
instance : ZeroT Try.prog 38 [(.slice none 0 0), (.int .i64 0), (.int .u64 0)] := ⟨.agg #[(.slice none 0 0), (.int .i64 0), (.int .u64 0)], fun _ => by kernel_rfl, rfl⟩
instance : FieldT Try.prog 38 0 0 22 1 := ⟨⟨_, _, Try.underlying38, rfl, rfl, rfl⟩, fun _ => by kernel_rfl, by decide⟩
instance : FieldT Try.prog 38 1 1 3 1 := ⟨⟨_, _, Try.underlying38, rfl, rfl, rfl⟩, fun _ => by kernel_rfl, by decide⟩
instance : FieldT Try.prog 38 2 2 36 1 := ⟨⟨_, _, Try.underlying38, rfl, rfl, rfl⟩, fun _ => by kernel_rfl, by decide⟩
instance : StructT Try.prog 38 [(0, 1), (1, 1), (2, 1)] [(.slice none 0 0), (.int .i64 0), (.int .u64 0)] := ⟨⟨_, Try.underlying38, fun _ => by kernel_rfl⟩, inferInstance⟩
instance : CellT Try.prog 39 := ⟨fun _ => by kernel_rfl, fun _ => by kernel_rfl⟩
instance : ZeroT Try.prog 39 [.nilFunc] := ⟨.nilFunc, fun _ => by kernel_rfl, rfl⟩
instance : CellT Try.prog 40 := ⟨fun _ => by kernel_rfl, fun _ => by kernel_rfl⟩
instance : ZeroT Try.prog 40 [.nilFunc] := ⟨.nilFunc, fun _ => by kernel_rfl, rfl⟩
instance : CellT Try.prog 41 := ⟨fun _ => by kernel_rfl, fun _ => by kernel_rfl⟩
instance : ZeroT Try.prog 41 [(.pointer none)] := ⟨(.pointer none), fun _ => by kernel_rfl, rfl⟩
instance : CellT Try.prog 43 := ⟨fun _ => by kernel_rfl, fun _ => by kernel_rfl⟩
instance : ZeroT Try.prog 43 [.nilFunc] := ⟨.nilFunc, fun _ => by kernel_rfl, rfl⟩
instance : CellT Try.prog 44 := ⟨fun _ => by kernel_rfl, fun _ => by kernel_rfl⟩
instance : ZeroT Try.prog 44 [.nilFunc] := ⟨.nilFunc, fun _ => by kernel_rfl, rfl⟩
instance : CellT Try.prog 45 := ⟨fun _ => by kernel_rfl, fun _ => by kernel_rfl⟩
instance : ZeroT Try.prog 45 [.nilFunc] := ⟨.nilFunc, fun _ => by kernel_rfl, rfl⟩
instance : CellT Try.prog 46 := ⟨fun _ => by kernel_rfl, fun _ => by kernel_rfl⟩
instance : ZeroT Try.prog 46 [.nilFunc] := ⟨.nilFunc, fun _ => by kernel_rfl, rfl⟩
instance : CellT Try.prog 47 := ⟨fun _ => by kernel_rfl, fun _ => by kernel_rfl⟩
instance : ZeroT Try.prog 47 [.nilFunc] := ⟨.nilFunc, fun _ => by kernel_rfl, rfl⟩
instance : CellT Try.prog 48 := ⟨fun _ => by kernel_rfl, fun _ => by kernel_rfl⟩
instance : ZeroT Try.prog 48 [(.slice none 0 0)] := ⟨(.slice none 0 0), fun _ => by kernel_rfl, rfl⟩
instance : SlT Try.prog 48 52 1 24 := ⟨Try.underlying48, ⟨_, rfl, rfl, rfl⟩⟩
instance : MkT Try.prog 48 52 1 24 [(.slice none 0 0)] := ⟨Try.underlying48, ⟨_, _, rfl, rfl, rfl, rfl, rfl⟩⟩
instance : CellT Try.prog 49 := ⟨fun _ => by kernel_rfl, fun _ => by kernel_rfl⟩
instance : ZeroT Try.prog 49 [(.slice none 0 0)] := ⟨(.slice none 0 0), fun _ => by kernel_rfl, rfl⟩
instance : SlT Try.prog 49 52 1 24 := ⟨Try.underlying49, ⟨_, rfl, rfl, rfl⟩⟩
instance : MkT Try.prog 49 52 1 24 [(.slice none 0 0)] := ⟨Try.underlying49, ⟨_, _, rfl, rfl, rfl, rfl, rfl⟩⟩
instance : AggT Try.prog 50 3 := ⟨fun _ => by kernel_rfl, fun _ => by kernel_rfl⟩
instance : ZeroT Try.prog 50 [(.slice none 0 0), (.slice none 0 0), (.slice none 0 0)] := ⟨.agg #[(.slice none 0 0), (.slice none 0 0), (.slice none 0 0)], fun _ => by kernel_rfl, rfl⟩
instance : FieldT Try.prog 50 0 0 49 1 := ⟨⟨_, _, Try.underlying50, rfl, rfl, rfl⟩, fun _ => by kernel_rfl, by decide⟩
instance : FieldT Try.prog 50 1 1 24 1 := ⟨⟨_, _, Try.underlying50, rfl, rfl, rfl⟩, fun _ => by kernel_rfl, by decide⟩
instance : FieldT Try.prog 50 2 2 24 1 := ⟨⟨_, _, Try.underlying50, rfl, rfl, rfl⟩, fun _ => by kernel_rfl, by decide⟩
instance : StructT Try.prog 50 [(0, 1), (1, 1), (2, 1)] [(.slice none 0 0), (.slice none 0 0), (.slice none 0 0)] := ⟨⟨_, Try.underlying50, fun _ => by kernel_rfl⟩, inferInstance⟩
instance : AggT Try.prog 51 3 := ⟨fun _ => by kernel_rfl, fun _ => by kernel_rfl⟩
instance : ZeroT Try.prog 51 [(.slice none 0 0), (.slice none 0 0), (.slice none 0 0)] := ⟨.agg #[(.slice none 0 0), (.slice none 0 0), (.slice none 0 0)], fun _ => by kernel_rfl, rfl⟩
instance : FieldT Try.prog 51 0 0 49 1 := ⟨⟨_, _, Try.underlying51, rfl, rfl, rfl⟩, fun _ => by kernel_rfl, by decide⟩
instance : FieldT Try.prog 51 1 1 24 1 := ⟨⟨_, _, Try.underlying51, rfl, rfl, rfl⟩, fun _ => by kernel_rfl, by decide⟩
instance : FieldT Try.prog 51 2 2 24 1 := ⟨⟨_, _, Try.underlying51, rfl, rfl, rfl⟩, fun _ => by kernel_rfl, by decide⟩
instance : StructT Try.prog 51 [(0, 1), (1, 1), (2, 1)] [(.slice none 0 0), (.slice none 0 0), (.slice none 0 0)] := ⟨⟨_, Try.underlying51, fun _ => by kernel_rfl⟩, inferInstance⟩
instance : CellT Try.prog 52 := ⟨fun _ => by kernel_rfl, fun _ => by kernel_rfl⟩
instance : ZeroT Try.prog 52 [(.slice none 0 0)] := ⟨(.slice none 0 0), fun _ => by kernel_rfl, rfl⟩
instance : SlT Try.prog 52 4 1 1 := ⟨Try.underlying52, ⟨_, rfl, rfl, rfl⟩⟩
instance : MkT Try.prog 52 4 1 1 [(.bool false)] := ⟨Try.underlying52, ⟨_, _, rfl, rfl, rfl, rfl, rfl⟩⟩
instance : CellT Try.prog 53 := ⟨fun _ => by kernel_rfl, fun _ => by kernel_rfl⟩
instance : ZeroT Try.prog 53 [.nilFunc] := ⟨.nilFunc, fun _ => by kernel_rfl, rfl⟩
instance : CellT Try.prog 54 := ⟨fun _ => by kernel_rfl, fun _ => by kernel_rfl⟩
instance : ZeroT Try.prog 54 [.nilFunc] := ⟨.nilFunc, fun _ => by kernel_rfl, rfl⟩
instance : CellT Try.prog 55 := ⟨fun _ => by kernel_rfl, fun _ => by kernel_rfl⟩
instance : ZeroT Try.prog 55 [.nilFunc] := ⟨.nilFunc, fun _ => by kernel_rfl, rfl⟩
instance : CellT Try.prog 56 := ⟨fun _ => by kernel_rfl, fun _ => by kernel_rfl⟩
instance : ZeroT Try.prog 56 [.nilFunc] := ⟨.nilFunc, fun _ => by kernel_rfl, rfl⟩
instance : CellT Try.prog 57 := ⟨fun _ => by kernel_rfl, fun _ => by kernel_rfl⟩
instance : ZeroT Try.prog 57 [.nilFunc] := ⟨.nilFunc, fun _ => by kernel_rfl, rfl⟩
instance : CellT Try.prog 58 := ⟨fun _ => by kernel_rfl, fun _ => by kernel_rfl⟩
instance : ZeroT Try.prog 58 [.nilFunc] := ⟨.nilFunc, fun _ => by kernel_rfl, rfl⟩
instance : CellT Try.prog 59 := ⟨fun _ => by kernel_rfl, fun _ => by kernel_rfl⟩
instance : ZeroT Try.prog 59 [.nilFunc] := ⟨.nilFunc, fun _ => by kernel_rfl, rfl⟩
instance : CellT Try.prog 60 := ⟨fun _ => by kernel_rfl, fun _ => by kernel_rfl⟩
instance : ZeroT Try.prog 60 [.nilFunc] := ⟨.nilFunc, fun _ => by kernel_rfl, rfl⟩
instance : CellT Try.prog 61 := ⟨fun _ => by kernel_rfl, fun _ => by kernel_rfl⟩
instance : ZeroT Try.prog 61 [.nilFunc] := ⟨.nilFunc, fun _ => by kernel_rfl, rfl⟩
instance : CellT Try.prog 63 := ⟨fun _ => by kernel_rfl, fun _ => by kernel_rfl⟩
instance : ZeroT Try.prog 63 [.nilFunc] := ⟨.nilFunc, fun _ => by kernel_rfl, rfl⟩
instance : CellT Try.prog 64 := ⟨fun _ => by kernel_rfl, fun _ => by kernel_rfl⟩
instance : ZeroT Try.prog 64 [.nilFunc] := ⟨.nilFunc, fun _ => by kernel_rfl, rfl⟩
instance : CellT Try.prog 65 := ⟨fun _ => by kernel_rfl, fun _ => by kernel_rfl⟩
instance : ZeroT Try.prog 65 [.nilFunc] := ⟨.nilFunc, fun _ => by kernel_rfl, rfl⟩
instance : CellT Try.prog 66 := ⟨fun _ => by kernel_rfl, fun _ => by kernel_rfl⟩
instance : ZeroT Try.prog 66 [.nilFunc] := ⟨.nilFunc, fun _ => by kernel_rfl, rfl⟩
instance : CellT Try.prog 68 := ⟨fun _ => by kernel_rfl, fun _ => by kernel_rfl⟩
instance : ZeroT Try.prog 68 [.nilFunc] := ⟨.nilFunc, fun _ => by kernel_rfl, rfl⟩
instance : CellT Try.prog 69 := ⟨fun _ => by kernel_rfl, fun _ => by kernel_rfl⟩
instance : ZeroT Try.prog 69 [.nilFunc] := ⟨.nilFunc, fun _ => by kernel_rfl, rfl⟩
instance : CellT Try.prog 70 := ⟨fun _ => by kernel_rfl, fun _ => by kernel_rfl⟩
instance : ZeroT Try.prog 70 [.nilFunc] := ⟨.nilFunc, fun _ => by kernel_rfl, rfl⟩
instance : CellT Try.prog 71 := ⟨fun _ => by kernel_rfl, fun _ => by kernel_rfl⟩
instance : ZeroT Try.prog 71 [.nilFunc] := ⟨.nilFunc, fun _ => by kernel_rfl, rfl⟩
instance : CellT Try.prog 72 := ⟨fun _ => by kernel_rfl, fun _ => by kernel_rfl⟩
instance : ZeroT Try.prog 72 [.nilFunc] := ⟨.nilFunc, fun _ => by kernel_rfl, rfl⟩
instance : CellT Try.prog 73 := ⟨fun _ => by kernel_rfl, fun _ => by kernel_rfl⟩
instance : ZeroT Try.prog 73 [.nilFunc] := ⟨.nilFunc, fun _ => by kernel_rfl, rfl⟩
instance : CellT Try.prog 74 := ⟨fun _ => by kernel_rfl, fun _ => by kernel_rfl⟩
instance : ZeroT Try.prog 74 [.nilFunc] := ⟨.nilFunc, fun _ => by kernel_rfl, rfl⟩
instance : CellT Try.prog 75 := ⟨fun _ => by kernel_rfl, fun _ => by kernel_rfl⟩
instance : ZeroT Try.prog 75 [.nilFunc] := ⟨.nilFunc, fun _ => by kernel_rfl, rfl⟩
instance : CellT Try.prog 76 := ⟨fun _ => by kernel_rfl, fun _ => by kernel_rfl⟩
instance : ZeroT Try.prog 76 [.nilFunc] := ⟨.nilFunc, fun _ => by kernel_rfl, rfl⟩
instance : CellT Try.prog 77 := ⟨fun _ => by kernel_rfl, fun _ => by kernel_rfl⟩
instance : ZeroT Try.prog 77 [(.slice none 0 0)] := ⟨(.slice none 0 0), fun _ => by kernel_rfl, rfl⟩
instance : SlT Try.prog 77 79 2 16 := ⟨Try.underlying77, ⟨_, rfl, rfl, rfl⟩⟩
instance : MkT Try.prog 77 79 2 16 [(.int .i64 0), (.int .i64 0)] := ⟨Try.underlying77, ⟨_, _, rfl, rfl, rfl, rfl, rfl⟩⟩
instance : CellT Try.prog 78 := ⟨fun _ => by kernel_rfl, fun _ => by kernel_rfl⟩
instance : ZeroT Try.prog 78 [.nilFunc] := ⟨.nilFunc, fun _ => by kernel_rfl, rfl⟩
instance : AggT Try.prog 79 2 := ⟨fun _ => by kernel_rfl, fun _ => by kernel_rfl⟩
instance : ZeroT Try.prog 79 [(.int .i64 0), (.int .i64 0)] := ⟨.agg #[(.int .i64 0), (.int .i64 0)], fun _ => by kernel_rfl, rfl⟩
instance : ArrT Try.prog 79 2 3 1 := ⟨Try.underlying79, fun _ => by kernel_rfl⟩
instance : CellT Try.prog 80 := ⟨fun _ => by kernel_rfl, fun _ => by kernel_rfl⟩
instance : ZeroT Try.prog 80 [.nilFunc] := ⟨.nilFunc, fun _ => by kernel_rfl, rfl⟩
instance : CellT Try.prog 81 := ⟨fun _ => by kernel_rfl, fun _ => by kernel_rfl⟩
instance : ZeroT Try.prog 81 [.nilFunc] := ⟨.nilFunc, fun _ => by kernel_rfl, rfl⟩
instance : CellT Try.prog 82 := ⟨fun _ => by kernel_rfl, fun _ => by kernel_rfl⟩
instance : ZeroT Try.prog 82 [.nilFunc] := ⟨.nilFunc, fun _ => by kernel_rfl, rfl⟩
instance : CellT Try.prog 83 := ⟨fun _ => by kernel_rfl, fun _ => by kernel_rfl⟩
instance : ZeroT Try.prog 83 [.nilFunc] := ⟨.nilFunc, fun _ => by kernel_rfl, rfl⟩
instance : CellT Try.prog 84 := ⟨fun _ => by kernel_rfl, fun _ => by kernel_rfl⟩
instance : ZeroT Try.prog 84 [.nilFunc] := ⟨.nilFunc, fun _ => by kernel_rfl, rfl⟩
instance : CellT Try.prog 85 := ⟨fun _ => by kernel_rfl, fun _ => by kernel_rfl⟩
instance : ZeroT Try.prog 85 [.nilFunc] := ⟨.nilFunc, fun _ => by kernel_rfl, rfl⟩
instance : CellT Try.prog 86 := ⟨fun _ => by kernel_rfl, fun _ => by kernel_rfl⟩
instance : ZeroT Try.prog 86 [.nilFunc] := ⟨.nilFunc, fun _ => by kernel_rfl, rfl⟩
instance : CellT Try.prog 88 := ⟨fun _ => by kernel_rfl, fun _ => by kernel_rfl⟩
instance : ZeroT Try.prog 88 [.nilFunc] := ⟨.nilFunc, fun _ => by kernel_rfl, rfl⟩
instance : CellT Try.prog 90 := ⟨fun _ => by kernel_rfl, fun _ => by kernel_rfl⟩
instance : ZeroT Try.prog 90 [.nilFunc] := ⟨.nilFunc, fun _ => by kernel_rfl, rfl⟩
instance : CellT Try.prog 91 := ⟨fun _ => by kernel_rfl, fun _ => by kernel_rfl⟩
instance : ZeroT Try.prog 91 [.nilFunc] := ⟨.nilFunc, fun _ => by kernel_rfl, rfl⟩
instance : CellT Try.prog 92 := ⟨fun _ => by kernel_rfl, fun _ => by kernel_rfl⟩
instance : ZeroT Try.prog 92 [.nilFunc] := ⟨.nilFunc, fun _ => by kernel_rfl, rfl⟩
instance : CellT Try.prog 93 := ⟨fun _ => by kernel_rfl, fun _ => by kernel_rfl⟩
instance : ZeroT Try.prog 93 [.nilFunc] := ⟨.nilFunc, fun _ => by kernel_rfl, rfl⟩
instance : CellT Try.prog 94 := ⟨fun _ => by kernel_rfl, fun _ => by kernel_rfl⟩
instance : ZeroT Try.prog 94 [.nilFunc] := ⟨.nilFunc, fun _ => by kernel_rfl, rfl⟩
instance : CellT Try.prog 95 := ⟨fun _ => by kernel_rfl, fun _ => by kernel_rfl⟩
instance : ZeroT Try.prog 95 [(.int .u64 0)] := ⟨(.int .u64 0), fun _ => by kernel_rfl, rfl⟩
instance : CellT Try.prog 96 := ⟨fun _ => by kernel_rfl, fun _ => by kernel_rfl⟩
instance : ZeroT Try.prog 96 [.nilFunc] := ⟨.nilFunc, fun _ => by kernel_rfl, rfl⟩
instance : CellT Try.prog 97 := ⟨fun _ => by kernel_rfl, fun _ => by kernel_rfl⟩
instance : ZeroT Try.prog 97 [.nilFunc] := ⟨.nilFunc, fun _ => by kernel_rfl, rfl⟩
instance : CellT Try.prog 98 := ⟨fun _ => by kernel_rfl, fun _ => by kernel_rfl⟩
instance : ZeroT Try.prog 98 [.nilFunc] := ⟨.nilFunc, fun _ => by kernel_rfl, rfl⟩
instance : CellT Try.prog 99 := ⟨fun _ => by kernel_rfl, fun _ => by kernel_rfl⟩
instance : ZeroT Try.prog 99 [.nilFunc] := ⟨.nilFunc, fun _ => by kernel_rfl, rfl⟩
instance : CellT Try.prog 100 := ⟨fun _ => by kernel_rfl, fun _ => by kernel_rfl⟩
instance : ZeroT Try.prog 100 [.nilFunc] := ⟨.nilFunc, fun _ => by kernel_rfl, rfl⟩
instance : AggT Try.prog 101 4 := ⟨fun _ => by kernel_rfl, fun _ => by kernel_rfl⟩
instance : ZeroT Try.prog 101 [(.pointer none), (.pointer none), (.pointer none), (.string ByteArray.empty)] := ⟨.agg #[(.pointer none), (.pointer none), (.pointer none), (.string ByteArray.empty)], fun _ => by kernel_rfl, rfl⟩
instance : FieldT Try.prog 101 0 0 17 1 := ⟨⟨_, _, Try.underlying101, rfl, rfl, rfl⟩, fun _ => by kernel_rfl, by decide⟩
instance : FieldT Try.prog 101 1 1 17 1 := ⟨⟨_, _, Try.underlying101, rfl, rfl, rfl⟩, fun _ => by kernel_rfl, by decide⟩
instance : FieldT Try.prog 101 2 2 17 1 := ⟨⟨_, _, Try.underlying101, rfl, rfl, rfl⟩, fun _ => by kernel_rfl, by decide⟩
instance : FieldT Try.prog 101 3 3 9 1 := ⟨⟨_, _, Try.underlying101, rfl, rfl, rfl⟩, fun _ => by kernel_rfl, by decide⟩
instance : StructT Try.prog 101 [(0, 1), (1, 1), (2, 1), (3, 1)] [(.pointer none), (.pointer none), (.pointer none), (.string ByteArray.empty)] := ⟨⟨_, Try.underlying101, fun _ => by kernel_rfl⟩, inferInstance⟩
instance : AggT Try.prog 102 4 := ⟨fun _ => by kernel_rfl, fun _ => by kernel_rfl⟩
instance : ZeroT Try.prog 102 [(.pointer none), (.pointer none), (.pointer none), (.string ByteArray.empty)] := ⟨.agg #[(.pointer none), (.pointer none), (.pointer none), (.string ByteArray.empty)], fun _ => by kernel_rfl, rfl⟩
instance : FieldT Try.prog 102 0 0 17 1 := ⟨⟨_, _, Try.underlying102, rfl, rfl, rfl⟩, fun _ => by kernel_rfl, by decide⟩
instance : FieldT Try.prog 102 1 1 17 1 := ⟨⟨_, _, Try.underlying102, rfl, rfl, rfl⟩, fun _ => by kernel_rfl, by decide⟩
instance : FieldT Try.prog 102 2 2 17 1 := ⟨⟨_, _, Try.underlying102, rfl, rfl, rfl⟩, fun _ => by kernel_rfl, by decide⟩
instance : FieldT Try.prog 102 3 3 9 1 := ⟨⟨_, _, Try.underlying102, rfl, rfl, rfl⟩, fun _ => by kernel_rfl, by decide⟩
instance : StructT Try.prog 102 [(0, 1), (1, 1), (2, 1), (3, 1)] [(.pointer none), (.pointer none), (.pointer none), (.string ByteArray.empty)] := ⟨⟨_, Try.underlying102, fun _ => by kernel_rfl⟩, inferInstance⟩
instance : AggT Try.prog 103 0 := ⟨fun _ => by kernel_rfl, fun _ => by kernel_rfl⟩
instance : AggT Try.prog 104 0 := ⟨fun _ => by kernel_rfl, fun _ => by kernel_rfl⟩
instance : AggT Try.prog 105 0 := ⟨fun _ => by kernel_rfl, fun _ => by kernel_rfl⟩
instance : CellT Try.prog 106 := ⟨fun _ => by kernel_rfl, fun _ => by kernel_rfl⟩
instance : ZeroT Try.prog 106 [(.int .u32 0)] := ⟨(.int .u32 0), fun _ => by kernel_rfl, rfl⟩
instance : CellT Try.prog 107 := ⟨fun _ => by kernel_rfl, fun _ => by kernel_rfl⟩
instance : ZeroT Try.prog 107 [(.int .u8 0)] := ⟨(.int .u8 0), fun _ => by kernel_rfl, rfl⟩
instance : CellT Try.prog 108 := ⟨fun _ => by kernel_rfl, fun _ => by kernel_rfl⟩
instance : ZeroT Try.prog 108 [(.int .u8 0)] := ⟨(.int .u8 0), fun _ => by kernel_rfl, rfl⟩
instance : CellT Try.prog 109 := ⟨fun _ => by kernel_rfl, fun _ => by kernel_rfl⟩
instance : ZeroT Try.prog 109 [.nilFunc] := ⟨.nilFunc, fun _ => by kernel_rfl, rfl⟩
instance : CellT Try.prog 110 := ⟨fun _ => by kernel_rfl, fun _ => by kernel_rfl⟩
instance : ZeroT Try.prog 110 [(.pointer none)] := ⟨(.pointer none), fun _ => by kernel_rfl, rfl⟩
instance : CellT Try.prog 111 := ⟨fun _ => by kernel_rfl, fun _ => by kernel_rfl⟩
instance : ZeroT Try.prog 111 [(.int .i32 0)] := ⟨(.int .i32 0), fun _ => by kernel_rfl, rfl⟩
instance : CellT Try.prog 112 := ⟨fun _ => by kernel_rfl, fun _ => by kernel_rfl⟩
instance : ZeroT Try.prog 112 [(.int .i32 0)] := ⟨(.int .i32 0), fun _ => by kernel_rfl, rfl⟩
instance : AggT Try.prog 113 11 := ⟨fun _ => by kernel_rfl, fun _ => by kernel_rfl⟩
instance : ZeroT Try.prog 113 [(.int .u64 0), (.int .u64 0), (.int .u32 0), (.int .u8 0), (.int .u8 0), (.int .u8 0), (.int .u8 0), .nilFunc, (.pointer none), (.int .i32 0), (.int .i32 0)] := ⟨.agg #[(.int .u64 0), (.int .u64 0), (.int .u32 0), (.int .u8 0), (.int .u8 0), (.int .u8 0), (.int .u8 0), .nilFunc, (.pointer none), (.int .i32 0), (.int .i32 0)], fun _ => by kernel_rfl, rfl⟩
instance : FieldT Try.prog 113 0 0 12 1 := ⟨⟨_, _, Try.underlying113, rfl, rfl, rfl⟩, fun _ => by kernel_rfl, by decide⟩
instance : FieldT Try.prog 113 1 1 12 1 := ⟨⟨_, _, Try.underlying113, rfl, rfl, rfl⟩, fun _ => by kernel_rfl, by decide⟩
instance : FieldT Try.prog 113 2 2 106 1 := ⟨⟨_, _, Try.underlying113, rfl, rfl, rfl⟩, fun _ => by kernel_rfl, by decide⟩
instance : FieldT Try.prog 113 3 3 107 1 := ⟨⟨_, _, Try.underlying113, rfl, rfl, rfl⟩, fun _ => by kernel_rfl, by decide⟩
instance : FieldT Try.prog 113 4 4 5 1 := ⟨⟨_, _, Try.underlying113, rfl, rfl, rfl⟩, fun _ => by kernel_rfl, by decide⟩
instance : FieldT Try.prog 113 5 5 5 1 := ⟨⟨_, _, Try.underlying113, rfl, rfl, rfl⟩, fun _ => by kernel_rfl, by decide⟩
instance : FieldT Try.prog 113 6 6 108 1 := ⟨⟨_, _, Try.underlying113, rfl, rfl, rfl⟩, fun _ => by kernel_rfl, by decide⟩
instance : FieldT Try.prog 113 7 7 109 1 := ⟨⟨_, _, Try.underlying113, rfl, rfl, rfl⟩, fun _ => by kernel_rfl, by decide⟩
instance : FieldT Try.prog 113 8 8 110 1 := ⟨⟨_, _, Try.underlying113, rfl, rfl, rfl⟩, fun _ => by kernel_rfl, by decide⟩
instance : FieldT Try.prog 113 9 9 111 1 := ⟨⟨_, _, Try.underlying113, rfl, rfl, rfl⟩, fun _ => by kernel_rfl, by decide⟩
instance : FieldT Try.prog 113 10 10 112 1 := ⟨⟨_, _, Try.underlying113, rfl, rfl, rfl⟩, fun _ => by kernel_rfl, by decide⟩
instance : StructT Try.prog 113 [(0, 1), (1, 1), (2, 1), (3, 1), (4, 1), (5, 1), (6, 1), (7, 1), (8, 1), (9, 1), (10, 1)] [(.int .u64 0), (.int .u64 0), (.int .u32 0), (.int .u8 0), (.int .u8 0), (.int .u8 0), (.int .u8 0), .nilFunc, (.pointer none), (.int .i32 0), (.int .i32 0)] := ⟨⟨_, Try.underlying113, fun _ => by kernel_rfl⟩, inferInstance⟩
instance : AggT Try.prog 114 11 := ⟨fun _ => by kernel_rfl, fun _ => by kernel_rfl⟩
instance : ZeroT Try.prog 114 [(.int .u64 0), (.int .u64 0), (.int .u32 0), (.int .u8 0), (.int .u8 0), (.int .u8 0), (.int .u8 0), .nilFunc, (.pointer none), (.int .i32 0), (.int .i32 0)] := ⟨.agg #[(.int .u64 0), (.int .u64 0), (.int .u32 0), (.int .u8 0), (.int .u8 0), (.int .u8 0), (.int .u8 0), .nilFunc, (.pointer none), (.int .i32 0), (.int .i32 0)], fun _ => by kernel_rfl, rfl⟩
instance : FieldT Try.prog 114 0 0 12 1 := ⟨⟨_, _, Try.underlying114, rfl, rfl, rfl⟩, fun _ => by kernel_rfl, by decide⟩
instance : FieldT Try.prog 114 1 1 12 1 := ⟨⟨_, _, Try.underlying114, rfl, rfl, rfl⟩, fun _ => by kernel_rfl, by decide⟩
instance : FieldT Try.prog 114 2 2 106 1 := ⟨⟨_, _, Try.underlying114, rfl, rfl, rfl⟩, fun _ => by kernel_rfl, by decide⟩
instance : FieldT Try.prog 114 3 3 107 1 := ⟨⟨_, _, Try.underlying114, rfl, rfl, rfl⟩, fun _ => by kernel_rfl, by decide⟩
instance : FieldT Try.prog 114 4 4 5 1 := ⟨⟨_, _, Try.underlying114, rfl, rfl, rfl⟩, fun _ => by kernel_rfl, by decide⟩
instance : FieldT Try.prog 114 5 5 5 1 := ⟨⟨_, _, Try.underlying114, rfl, rfl, rfl⟩, fun _ => by kernel_rfl, by decide⟩
instance : FieldT Try.prog 114 6 6 108 1 := ⟨⟨_, _, Try.underlying114, rfl, rfl, rfl⟩, fun _ => by kernel_rfl, by decide⟩
instance : FieldT Try.prog 114 7 7 109 1 := ⟨⟨_, _, Try.underlying114, rfl, rfl, rfl⟩, fun _ => by kernel_rfl, by decide⟩
instance : FieldT Try.prog 114 8 8 110 1 := ⟨⟨_, _, Try.underlying114, rfl, rfl, rfl⟩, fun _ => by kernel_rfl, by decide⟩
instance : FieldT Try.prog 114 9 9 111 1 := ⟨⟨_, _, Try.underlying114, rfl, rfl, rfl⟩, fun _ => by kernel_rfl, by decide⟩
instance : FieldT Try.prog 114 10 10 112 1 := ⟨⟨_, _, Try.underlying114, rfl, rfl, rfl⟩, fun _ => by kernel_rfl, by decide⟩
instance : StructT Try.prog 114 [(0, 1), (1, 1), (2, 1), (3, 1), (4, 1), (5, 1), (6, 1), (7, 1), (8, 1), (9, 1), (10, 1)] [(.int .u64 0), (.int .u64 0), (.int .u32 0), (.int .u8 0), (.int .u8 0), (.int .u8 0), (.int .u8 0), .nilFunc, (.pointer none), (.int .i32 0), (.int .i32 0)] := ⟨⟨_, Try.underlying114, fun _ => by kernel_rfl⟩, inferInstance⟩
instance : CellT Try.prog 115 := ⟨fun _ => by kernel_rfl, fun _ => by kernel_rfl⟩
instance : ZeroT Try.prog 115 [(.pointer none)] := ⟨(.pointer none), fun _ => by kernel_rfl, rfl⟩
instance : FnT Try.prog 3 := ⟨Try.call3⟩
instance : FnT Try.prog 4 := ⟨Try.call4⟩
instance : FnT Try.prog 5 := ⟨Try.call5⟩
instance : FnT Try.prog 6 := ⟨Try.call6⟩
instance : FnT Try.prog 7 := ⟨Try.call7⟩
instance : FnT Try.prog 8 := ⟨Try.call8⟩
instance : FnT Try.prog 9 := ⟨Try.call9⟩
instance : FnT Try.prog 10 := ⟨Try.call10⟩
instance : FnT Try.prog 11 := ⟨Try.call11⟩
instance : FnT Try.prog 12 := ⟨Try.call12⟩
instance : FnT Try.prog 13 := ⟨Try.call13⟩
instance : FnT Try.prog 14 := ⟨Try.call14⟩
instance : FnT Try.prog 15 := ⟨Try.call15⟩
instance : FnT Try.prog 16 := ⟨Try.call16⟩
instance : FnT Try.prog 17 := ⟨Try.call17⟩
instance : FnT Try.prog 18 := ⟨Try.call18⟩
instance : FnT Try.prog 19 := ⟨Try.call19⟩
instance : FnT Try.prog 20 := ⟨Try.call20⟩
instance : FnT Try.prog 21 := ⟨Try.call21⟩
instance : FnT Try.prog 22 := ⟨Try.call22⟩
instance : FnT Try.prog 23 := ⟨Try.call23⟩
instance : FnT Try.prog 24 := ⟨Try.call24⟩
instance : FnT Try.prog 25 := ⟨Try.call25⟩
instance : FnT Try.prog 26 := ⟨Try.call26⟩
instance : FnT Try.prog 27 := ⟨Try.call27⟩
instance : FnT Try.prog 28 := ⟨Try.call28⟩
instance : FnT Try.prog 29 := ⟨Try.call29⟩
instance : FnT Try.prog 30 := ⟨Try.call30⟩
instance : FnT Try.prog 31 := ⟨Try.call31⟩
instance : FnT Try.prog 32 := ⟨Try.call32⟩
instance : FnT Try.prog 33 := ⟨Try.call33⟩
instance : FnT Try.prog 34 := ⟨Try.call34⟩
instance : FnT Try.prog 35 := ⟨Try.call35⟩
instance : FnT Try.prog 36 := ⟨Try.call36⟩
instance : FnT Try.prog 37 := ⟨Try.call37⟩
instance : FnT Try.prog 38 := ⟨Try.call38⟩
instance : FnT Try.prog 39 := ⟨Try.call39⟩
instance : FnT Try.prog 40 := ⟨Try.call40⟩
instance : FnT Try.prog 41 := ⟨Try.call41⟩
instance : FnT Try.prog 42 := ⟨Try.call42⟩
instance : FnT Try.prog 43 := ⟨Try.call43⟩
instance : FnT Try.prog 44 := ⟨Try.call44⟩
instance : FnT Try.prog 45 := ⟨Try.call45⟩
instance : FnT Try.prog 46 := ⟨Try.call46⟩
instance : FnT Try.prog 47 := ⟨Try.call47⟩
instance : FnT Try.prog 48 := ⟨Try.call48⟩
instance : FnT Try.prog 49 := ⟨Try.call49⟩
instance : FnT Try.prog 50 := ⟨Try.call50⟩
instance : FnT Try.prog 51 := ⟨Try.call51⟩
instance : FnT Try.prog 52 := ⟨Try.call52⟩
instance : FnT Try.prog 53 := ⟨Try.call53⟩
instance : FnT Try.prog 54 := ⟨Try.call54⟩
instance : FnT Try.prog 55 := ⟨Try.call55⟩
instance : FnT Try.prog 56 := ⟨Try.call56⟩
instance : FnT Try.prog 57 := ⟨Try.call57⟩
instance : FnT Try.prog 58 := ⟨Try.call58⟩
instance : FnT Try.prog 59 := ⟨Try.call59⟩
instance : FnT Try.prog 60 := ⟨Try.call60⟩
instance : FnT Try.prog 61 := ⟨Try.call61⟩
instance : FnT Try.prog 62 := ⟨Try.call62⟩
instance : FnT Try.prog 63 := ⟨Try.call63⟩
instance : FnT Try.prog 64 := ⟨Try.call64⟩
instance : FnT Try.prog 65 := ⟨Try.call65⟩
instance : FnT Try.prog 66 := ⟨Try.call66⟩
instance : FnT Try.prog 67 := ⟨Try.call67⟩
instance : FnT Try.prog 68 := ⟨Try.call68⟩
instance : FnT Try.prog 69 := ⟨Try.call69⟩
instance : FnT Try.prog 70 := ⟨Try.call70⟩
instance : FnT Try.prog 71 := ⟨Try.call71⟩
instance : FnT Try.prog 72 := ⟨Try.call72⟩
instance : FnT Try.prog 73 := ⟨Try.call73⟩
instance : FnT Try.prog 74 := ⟨Try.call74⟩
instance : FnT Try.prog 75 := ⟨Try.call75⟩
instance : FnT Try.prog 76 := ⟨Try.call76⟩
instance : FnT Try.prog 77 := ⟨Try.call77⟩
instance : FnT Try.prog 78 := ⟨Try.call78⟩
instance : FnT Try.prog 79 := ⟨Try.call79⟩
instance : FnT Try.prog 80 := ⟨Try.call80⟩
instance : FnT Try.prog 81 := ⟨Try.call81⟩
instance : FnT Try.prog 82 := ⟨Try.call82⟩
instance : FnT Try.prog 83 := ⟨Try.call83⟩
instance : FnT Try.prog 84 := ⟨Try.call84⟩
instance : FnT Try.prog 85 := ⟨Try.call85⟩
instance : FnT Try.prog 86 := ⟨Try.call86⟩
instance : FnT Try.prog 87 := ⟨Try.call87⟩
instance : FnT Try.prog 88 := ⟨Try.call88⟩
instance : FnT Try.prog 89 := ⟨Try.call89⟩
instance : FnT Try.prog 90 := ⟨Try.call90⟩
instance : FnT Try.prog 91 := ⟨Try.call91⟩
instance : FnT Try.prog 92 := ⟨Try.call92⟩
instance : FnT Try.prog 93 := ⟨Try.call93⟩
instance : FnT Try.prog 94 := ⟨Try.call94⟩
instance : FnT Try.prog 95 := ⟨Try.call95⟩
instance : FnT Try.prog 96 := ⟨Try.call96⟩
instance : FnT Try.prog 97 := ⟨Try.call97⟩
end Go.Proofs.Ytbfmjknngofleaa
