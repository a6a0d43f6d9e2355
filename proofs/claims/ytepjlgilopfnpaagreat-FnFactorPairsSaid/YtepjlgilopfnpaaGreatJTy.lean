/- What the translation's types and functions say, as instances. -/
import Derived.Test.YtepjlgilopfnpaaGreatChecked
import Derived.Test.YtepjlgilopfnpaaGreatJPw
namespace Go.Proofs.YtepjlgilopfnpaaGreat
open Go Go.Pv Go.Proofs
set_option maxHeartbeats 32000000
set_option maxRecDepth 100000

instance : CellT Tryz.prog 3 := ⟨fun _ => by kernel_rfl, fun _ => by kernel_rfl⟩
instance : ZeroT Tryz.prog 3 [(.int .i64 0)] := ⟨(.int .i64 0), fun _ => by kernel_rfl, rfl⟩
instance : BoolT Tryz.prog 4 := ⟨by kernel_rfl⟩
instance : CellT Tryz.prog 4 := ⟨fun _ => by kernel_rfl, fun _ => by kernel_rfl⟩
instance : CellT Tryz.prog 5 := ⟨fun _ => by kernel_rfl, fun _ => by kernel_rfl⟩
instance : ZeroT Tryz.prog 5 [(.int .u8 0)] := ⟨(.int .u8 0), fun _ => by kernel_rfl, rfl⟩
instance : CellT Tryz.prog 22 := ⟨fun _ => by kernel_rfl, fun _ => by kernel_rfl⟩
instance : SlT Tryz.prog 22 5 1 1 := ⟨Tryz.underlying22, ⟨_, rfl, rfl, rfl⟩⟩
instance : MkT Tryz.prog 22 5 1 1 [(.int .u8 0)] := ⟨Tryz.underlying22, ⟨_, _, rfl, rfl, rfl, rfl, rfl⟩⟩
instance : CellT Tryz.prog 24 := ⟨fun _ => by kernel_rfl, fun _ => by kernel_rfl⟩
instance : SlT Tryz.prog 24 89 2 32 := ⟨Tryz.underlying24, ⟨_, rfl, rfl, rfl⟩⟩
instance : MkT Tryz.prog 24 89 2 32 [(.int .i64 0), (.slice none 0 0)] := ⟨Tryz.underlying24, ⟨_, _, rfl, rfl, rfl, rfl, rfl⟩⟩
instance : AggT Tryz.prog 26 2 := ⟨fun _ => by kernel_rfl, fun _ => by kernel_rfl⟩
instance : ZeroT Tryz.prog 26 [(.int .i64 0), (.slice none 0 0)] := ⟨.agg #[(.int .i64 0), (.slice none 0 0)], fun _ => by kernel_rfl, rfl⟩
instance : FieldT Tryz.prog 26 0 0 3 1 := ⟨⟨_, _, Tryz.underlying26, rfl, rfl, rfl⟩, fun _ => by kernel_rfl, by decide⟩
instance : FieldT Tryz.prog 26 1 1 24 1 := ⟨⟨_, _, Tryz.underlying26, rfl, rfl, rfl⟩, fun _ => by kernel_rfl, by decide⟩
instance : StructT Tryz.prog 26 [(0, 1), (1, 1)] [(.int .i64 0), (.slice none 0 0)] := ⟨⟨_, Tryz.underlying26, fun _ => by kernel_rfl⟩, inferInstance⟩
instance : CellT Tryz.prog 27 := ⟨fun _ => by kernel_rfl, fun _ => by kernel_rfl⟩
instance : ZeroT Tryz.prog 27 [(.slice none 0 0)] := ⟨(.slice none 0 0), fun _ => by kernel_rfl, rfl⟩
instance : SlT Tryz.prog 27 3 1 8 := ⟨Tryz.underlying27, ⟨_, rfl, rfl, rfl⟩⟩
instance : MkT Tryz.prog 27 3 1 8 [(.int .i64 0)] := ⟨Tryz.underlying27, ⟨_, _, rfl, rfl, rfl, rfl, rfl⟩⟩
instance : SlT Tryz.prog 39 46 2 16 := ⟨Tryz.underlying39, ⟨_, rfl, rfl, rfl⟩⟩
instance : MkT Tryz.prog 39 46 2 16 [(.int .i64 0), (.int .i64 0)] := ⟨Tryz.underlying39, ⟨_, _, rfl, rfl, rfl, rfl, rfl⟩⟩
instance : SlT Tryz.prog 42 27 1 24 := ⟨Tryz.underlying42, ⟨_, rfl, rfl, rfl⟩⟩
instance : MkT Tryz.prog 42 27 1 24 [(.slice none 0 0)] := ⟨Tryz.underlying42, ⟨_, _, rfl, rfl, rfl, rfl, rfl⟩⟩
instance : AggT Tryz.prog 46 2 := ⟨fun _ => by kernel_rfl, fun _ => by kernel_rfl⟩
instance : ZeroT Tryz.prog 46 [(.int .i64 0), (.int .i64 0)] := ⟨.agg #[(.int .i64 0), (.int .i64 0)], fun _ => by kernel_rfl, rfl⟩
instance : ArrT Tryz.prog 46 2 3 1 := ⟨Tryz.underlying46, fun _ => by kernel_rfl⟩
instance : CellT Tryz.prog 74 := ⟨fun _ => by kernel_rfl, fun _ => by kernel_rfl⟩
instance : CellT Tryz.prog 84 := ⟨fun _ => by kernel_rfl, fun _ => by kernel_rfl⟩
instance : ZeroT Tryz.prog 86 [(.slice none 0 0), (.int .i64 0), (.int .u64 0)] := ⟨.agg #[(.slice none 0 0), (.int .i64 0), (.int .u64 0)], fun _ => by kernel_rfl, rfl⟩
instance : FieldT Tryz.prog 86 0 0 22 1 := ⟨⟨_, _, Tryz.underlying86, rfl, rfl, rfl⟩, fun _ => by kernel_rfl, by decide⟩
instance : FieldT Tryz.prog 86 1 1 3 1 := ⟨⟨_, _, Tryz.underlying86, rfl, rfl, rfl⟩, fun _ => by kernel_rfl, by decide⟩
instance : FieldT Tryz.prog 86 2 2 84 1 := ⟨⟨_, _, Tryz.underlying86, rfl, rfl, rfl⟩, fun _ => by kernel_rfl, by decide⟩
instance : StructT Tryz.prog 86 [(0, 1), (1, 1), (2, 1)] [(.slice none 0 0), (.int .i64 0), (.int .u64 0)] := ⟨⟨_, Tryz.underlying86, fun _ => by kernel_rfl⟩, inferInstance⟩
instance : AggT Tryz.prog 89 2 := ⟨fun _ => by kernel_rfl, fun _ => by kernel_rfl⟩
instance : ZeroT Tryz.prog 89 [(.int .i64 0), (.slice none 0 0)] := ⟨.agg #[(.int .i64 0), (.slice none 0 0)], fun _ => by kernel_rfl, rfl⟩
instance : FieldT Tryz.prog 89 0 0 3 1 := ⟨⟨_, _, Tryz.underlying89, rfl, rfl, rfl⟩, fun _ => by kernel_rfl, by decide⟩
instance : FieldT Tryz.prog 89 1 1 27 1 := ⟨⟨_, _, Tryz.underlying89, rfl, rfl, rfl⟩, fun _ => by kernel_rfl, by decide⟩
instance : StructT Tryz.prog 89 [(0, 1), (1, 1)] [(.int .i64 0), (.slice none 0 0)] := ⟨⟨_, Tryz.underlying89, fun _ => by kernel_rfl⟩, inferInstance⟩
instance : CellT Tryz.prog 104 := ⟨fun _ => by kernel_rfl, fun _ => by kernel_rfl⟩
instance : SlT Tryz.prog 104 4 1 1 := ⟨Tryz.underlying104, ⟨_, rfl, rfl, rfl⟩⟩
instance : MkT Tryz.prog 104 4 1 1 [(.bool false)] := ⟨Tryz.underlying104, ⟨_, _, rfl, rfl, rfl, rfl, rfl⟩⟩
instance : ZeroT Tryz.prog 134 [(.int .i64 0), (.slice none 0 0), (.int .i64 0), (.slice none 0 0), (.bool false), (.int .i64 0), .nilFunc] := ⟨.agg #[(.int .i64 0), (.slice none 0 0), (.int .i64 0), (.slice none 0 0), (.bool false), (.int .i64 0), .nilFunc], fun _ => by kernel_rfl, rfl⟩
instance : FieldT Tryz.prog 134 0 0 26 2 := ⟨⟨_, _, Tryz.underlying134, rfl, rfl, rfl⟩, fun _ => by kernel_rfl, by decide⟩
instance : FieldT Tryz.prog 134 1 2 26 2 := ⟨⟨_, _, Tryz.underlying134, rfl, rfl, rfl⟩, fun _ => by kernel_rfl, by decide⟩
instance : FieldT Tryz.prog 134 2 4 4 1 := ⟨⟨_, _, Tryz.underlying134, rfl, rfl, rfl⟩, fun _ => by kernel_rfl, by decide⟩
instance : FieldT Tryz.prog 134 3 5 3 1 := ⟨⟨_, _, Tryz.underlying134, rfl, rfl, rfl⟩, fun _ => by kernel_rfl, by decide⟩
instance : FieldT Tryz.prog 134 4 6 74 1 := ⟨⟨_, _, Tryz.underlying134, rfl, rfl, rfl⟩, fun _ => by kernel_rfl, by decide⟩
instance : StructT Tryz.prog 134 [(0, 2), (2, 2), (4, 1), (5, 1), (6, 1)] [(.int .i64 0), (.slice none 0 0), (.int .i64 0), (.slice none 0 0), (.bool false), (.int .i64 0), .nilFunc] := ⟨⟨_, Tryz.underlying134, fun _ => by kernel_rfl⟩, inferInstance⟩
instance : SlT Tryz.prog 137 104 1 24 := ⟨Tryz.underlying137, ⟨_, rfl, rfl, rfl⟩⟩
instance : MkT Tryz.prog 137 104 1 24 [(.slice none 0 0)] := ⟨Tryz.underlying137, ⟨_, _, rfl, rfl, rfl, rfl, rfl⟩⟩
instance : FnT Tryz.prog 15 := ⟨Tryz.call15⟩
instance : FnT Tryz.prog 17 := ⟨Tryz.call17⟩
instance : FnT Tryz.prog 18 := ⟨Tryz.call18⟩
instance : FnT Tryz.prog 19 := ⟨Tryz.call19⟩
instance : FnT Tryz.prog 20 := ⟨Tryz.call20⟩
instance : FnT Tryz.prog 21 := ⟨Tryz.call21⟩
instance : FnT Tryz.prog 22 := ⟨Tryz.call22⟩
instance : FnT Tryz.prog 23 := ⟨Tryz.call23⟩
instance : FnT Tryz.prog 24 := ⟨Tryz.call24⟩
instance : FnT Tryz.prog 25 := ⟨Tryz.call25⟩
instance : FnT Tryz.prog 26 := ⟨Tryz.call26⟩
instance : FnT Tryz.prog 27 := ⟨Tryz.call27⟩
instance : FnT Tryz.prog 28 := ⟨Tryz.call28⟩
instance : FnT Tryz.prog 29 := ⟨Tryz.call29⟩
instance : FnT Tryz.prog 30 := ⟨Tryz.call30⟩
instance : FnT Tryz.prog 45 := ⟨Tryz.call45⟩
instance : FnT Tryz.prog 47 := ⟨Tryz.call47⟩
instance : FnT Tryz.prog 53 := ⟨Tryz.call53⟩
instance : FnT Tryz.prog 54 := ⟨Tryz.call54⟩
instance : FnT Tryz.prog 56 := ⟨Tryz.call56⟩
instance : FnT Tryz.prog 57 := ⟨Tryz.call57⟩
instance : FnT Tryz.prog 59 := ⟨Tryz.call59⟩
instance : FnT Tryz.prog 60 := ⟨Tryz.call60⟩
instance : FnT Tryz.prog 61 := ⟨Tryz.call61⟩
instance : FnT Tryz.prog 62 := ⟨Tryz.call62⟩
instance : FnT Tryz.prog 63 := ⟨Tryz.call63⟩
instance : FnT Tryz.prog 64 := ⟨Tryz.call64⟩
instance : FnT Tryz.prog 65 := ⟨Tryz.call65⟩
instance : FnT Tryz.prog 66 := ⟨Tryz.call66⟩
instance : FnT Tryz.prog 67 := ⟨Tryz.call67⟩
instance : FnT Tryz.prog 68 := ⟨Tryz.call68⟩
instance : FnT Tryz.prog 69 := ⟨Tryz.call69⟩
instance : FnT Tryz.prog 70 := ⟨Tryz.call70⟩
instance : FnT Tryz.prog 71 := ⟨Tryz.call71⟩
instance : FnT Tryz.prog 72 := ⟨Tryz.call72⟩
instance : FnT Tryz.prog 73 := ⟨Tryz.call73⟩
instance : FnT Tryz.prog 74 := ⟨Tryz.call74⟩
instance : FnT Tryz.prog 75 := ⟨Tryz.call75⟩
instance : FnT Tryz.prog 76 := ⟨Tryz.call76⟩
instance : FnT Tryz.prog 77 := ⟨Tryz.call77⟩
instance : FnT Tryz.prog 78 := ⟨Tryz.call78⟩
instance : FnT Tryz.prog 79 := ⟨Tryz.call79⟩
instance : FnT Tryz.prog 80 := ⟨Tryz.call80⟩
instance : FnT Tryz.prog 85 := ⟨Tryz.call85⟩
instance : FnT Tryz.prog 89 := ⟨Tryz.call89⟩
instance : FnT Tryz.prog 90 := ⟨Tryz.call90⟩
instance : FnT Tryz.prog 92 := ⟨Tryz.call92⟩
instance : FnT Tryz.prog 93 := ⟨Tryz.call93⟩
instance : FnT Tryz.prog 94 := ⟨Tryz.call94⟩
instance : FnT Tryz.prog 97 := ⟨Tryz.call97⟩
instance : FnT Tryz.prog 106 := ⟨Tryz.call106⟩
instance : FnT Tryz.prog 107 := ⟨Tryz.call107⟩
instance : FnT Tryz.prog 108 := ⟨Tryz.call108⟩
instance : FnT Tryz.prog 109 := ⟨Tryz.call109⟩
instance : FnT Tryz.prog 110 := ⟨Tryz.call110⟩
instance : FnT Tryz.prog 113 := ⟨Tryz.call113⟩
instance : FnT Tryz.prog 114 := ⟨Tryz.call114⟩
instance : FnT Tryz.prog 115 := ⟨Tryz.call115⟩
instance : FnT Tryz.prog 116 := ⟨Tryz.call116⟩
instance : FnT Tryz.prog 117 := ⟨Tryz.call117⟩
instance : FnT Tryz.prog 118 := ⟨Tryz.call118⟩
instance : FnT Tryz.prog 119 := ⟨Tryz.call119⟩
instance : FnT Tryz.prog 120 := ⟨Tryz.call120⟩
instance : FnT Tryz.prog 121 := ⟨Tryz.call121⟩
instance : FnT Tryz.prog 122 := ⟨Tryz.call122⟩
instance : FnT Tryz.prog 123 := ⟨Tryz.call123⟩
instance : FnT Tryz.prog 124 := ⟨Tryz.call124⟩
instance : FnT Tryz.prog 125 := ⟨Tryz.call125⟩
instance : FnT Tryz.prog 126 := ⟨Tryz.call126⟩
instance : FnT Tryz.prog 127 := ⟨Tryz.call127⟩
instance : FnT Tryz.prog 129 := ⟨Tryz.call129⟩
instance : FnT Tryz.prog 130 := ⟨Tryz.call130⟩
instance : FnT Tryz.prog 131 := ⟨Tryz.call131⟩
instance : FnT Tryz.prog 132 := ⟨Tryz.call132⟩
instance : FnT Tryz.prog 133 := ⟨Tryz.call133⟩
instance : FnT Tryz.prog 134 := ⟨Tryz.call134⟩
instance : FnT Tryz.prog 135 := ⟨Tryz.call135⟩
instance : FnT Tryz.prog 142 := ⟨Tryz.call142⟩
instance : FnT Tryz.prog 144 := ⟨Tryz.call144⟩
instance : FnT Tryz.prog 148 := ⟨Tryz.call148⟩
instance : FnT Tryz.prog 150 := ⟨Tryz.call150⟩
instance : FnT Tryz.prog 151 := ⟨Tryz.call151⟩
instance : FnT Tryz.prog 152 := ⟨Tryz.call152⟩
instance : FnT Tryz.prog 153 := ⟨Tryz.call153⟩
instance : FnT Tryz.prog 157 := ⟨Tryz.call157⟩
instance : FnT Tryz.prog 159 := ⟨Tryz.call159⟩
instance : FnT Tryz.prog 160 := ⟨Tryz.call160⟩
instance : FnT Tryz.prog 161 := ⟨Tryz.call161⟩
instance : FnT Tryz.prog 162 := ⟨Tryz.call162⟩
instance : FnT Tryz.prog 163 := ⟨Tryz.call163⟩
instance : FnT Tryz.prog 164 := ⟨Tryz.call164⟩
instance : FnT Tryz.prog 168 := ⟨Tryz.call168⟩
instance : FnT Tryz.prog 174 := ⟨Tryz.call174⟩
instance : FnT Tryz.prog 175 := ⟨Tryz.call175⟩
instance : FnT Tryz.prog 181 := ⟨Tryz.call181⟩
instance : FnT Tryz.prog 182 := ⟨Tryz.call182⟩
instance : FnT Tryz.prog 184 := ⟨Tryz.call184⟩
instance : FnT Tryz.prog 185 := ⟨Tryz.call185⟩
instance : FnT Tryz.prog 186 := ⟨Tryz.call186⟩
instance : FnT Tryz.prog 187 := ⟨Tryz.call187⟩
instance : FnT Tryz.prog 188 := ⟨Tryz.call188⟩
instance : FnT Tryz.prog 197 := ⟨Tryz.call197⟩
instance : FnT Tryz.prog 198 := ⟨Tryz.call198⟩
instance : FnT Tryz.prog 199 := ⟨Tryz.call199⟩
end Go.Proofs.YtepjlgilopfnpaaGreat
