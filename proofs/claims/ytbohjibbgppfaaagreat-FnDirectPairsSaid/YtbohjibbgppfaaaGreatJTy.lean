/- What the translation's types and functions say, as instances. -/
import Derived.Test.YtbohjibbgppfaaaGreatChecked
import Derived.Test.YtbohjibbgppfaaaGreatJPw
namespace Go.Proofs.YtbohjibbgppfaaaGreat
open Go Go.Pv Go.Proofs
set_option maxHeartbeats 32000000
set_option maxRecDepth 100000

instance : CellT Tryz.prog 3 := ⟨fun _ => by kernel_rfl, fun _ => by kernel_rfl⟩
instance : ZeroT Tryz.prog 3 [(.int .i64 0)] := ⟨(.int .i64 0), fun _ => by kernel_rfl, rfl⟩
instance : BoolT Tryz.prog 4 := ⟨by kernel_rfl⟩
instance : CellT Tryz.prog 4 := ⟨fun _ => by kernel_rfl, fun _ => by kernel_rfl⟩
instance : CellT Tryz.prog 5 := ⟨fun _ => by kernel_rfl, fun _ => by kernel_rfl⟩
instance : ZeroT Tryz.prog 5 [(.int .u8 0)] := ⟨(.int .u8 0), fun _ => by kernel_rfl, rfl⟩
instance : CellT Tryz.prog 22 := ⟨fun _ => by kernel_rfl, fun _ => by kernel_rfl⟩
instance : SlT Tryz.prog 22 5 1 1 := ⟨Tryz.underlying22, ⟨_, rfl, rfl, rfl⟩⟩
instance : MkT Tryz.prog 22 5 1 1 [(.int .u8 0)] := ⟨Tryz.underlying22, ⟨_, _, rfl, rfl, rfl, rfl, rfl⟩⟩
instance : CellT Tryz.prog 24 := ⟨fun _ => by kernel_rfl, fun _ => by kernel_rfl⟩
instance : SlT Tryz.prog 24 51 2 32 := ⟨Tryz.underlying24, ⟨_, rfl, rfl, rfl⟩⟩
instance : MkT Tryz.prog 24 51 2 32 [(.int .i64 0), (.slice none 0 0)] := ⟨Tryz.underlying24, ⟨_, _, rfl, rfl, rfl, rfl, rfl⟩⟩
instance : AggT Tryz.prog 26 2 := ⟨fun _ => by kernel_rfl, fun _ => by kernel_rfl⟩
instance : ZeroT Tryz.prog 26 [(.int .i64 0), (.slice none 0 0)] := ⟨.agg #[(.int .i64 0), (.slice none 0 0)], fun _ => by kernel_rfl, rfl⟩
instance : FieldT Tryz.prog 26 0 0 3 1 := ⟨⟨_, _, Tryz.underlying26, rfl, rfl, rfl⟩, fun _ => by kernel_rfl, by decide⟩
instance : FieldT Tryz.prog 26 1 1 24 1 := ⟨⟨_, _, Tryz.underlying26, rfl, rfl, rfl⟩, fun _ => by kernel_rfl, by decide⟩
instance : StructT Tryz.prog 26 [(0, 1), (1, 1)] [(.int .i64 0), (.slice none 0 0)] := ⟨⟨_, Tryz.underlying26, fun _ => by kernel_rfl⟩, inferInstance⟩
instance : CellT Tryz.prog 27 := ⟨fun _ => by kernel_rfl, fun _ => by kernel_rfl⟩
instance : ZeroT Tryz.prog 27 [(.slice none 0 0)] := ⟨(.slice none 0 0), fun _ => by kernel_rfl, rfl⟩
instance : SlT Tryz.prog 27 3 1 8 := ⟨Tryz.underlying27, ⟨_, rfl, rfl, rfl⟩⟩
instance : MkT Tryz.prog 27 3 1 8 [(.int .i64 0)] := ⟨Tryz.underlying27, ⟨_, _, rfl, rfl, rfl, rfl, rfl⟩⟩
instance : CellT Tryz.prog 39 := ⟨fun _ => by kernel_rfl, fun _ => by kernel_rfl⟩
instance : ZeroT Tryz.prog 39 [(.slice none 0 0)] := ⟨(.slice none 0 0), fun _ => by kernel_rfl, rfl⟩
instance : SlT Tryz.prog 39 27 1 24 := ⟨Tryz.underlying39, ⟨_, rfl, rfl, rfl⟩⟩
instance : MkT Tryz.prog 39 27 1 24 [(.slice none 0 0)] := ⟨Tryz.underlying39, ⟨_, _, rfl, rfl, rfl, rfl, rfl⟩⟩
instance : AggT Tryz.prog 51 2 := ⟨fun _ => by kernel_rfl, fun _ => by kernel_rfl⟩
instance : ZeroT Tryz.prog 51 [(.int .i64 0), (.slice none 0 0)] := ⟨.agg #[(.int .i64 0), (.slice none 0 0)], fun _ => by kernel_rfl, rfl⟩
instance : FieldT Tryz.prog 51 0 0 3 1 := ⟨⟨_, _, Tryz.underlying51, rfl, rfl, rfl⟩, fun _ => by kernel_rfl, by decide⟩
instance : FieldT Tryz.prog 51 1 1 27 1 := ⟨⟨_, _, Tryz.underlying51, rfl, rfl, rfl⟩, fun _ => by kernel_rfl, by decide⟩
instance : StructT Tryz.prog 51 [(0, 1), (1, 1)] [(.int .i64 0), (.slice none 0 0)] := ⟨⟨_, Tryz.underlying51, fun _ => by kernel_rfl⟩, inferInstance⟩
instance : SlT Tryz.prog 58 61 2 16 := ⟨Tryz.underlying58, ⟨_, rfl, rfl, rfl⟩⟩
instance : AggT Tryz.prog 61 2 := ⟨fun _ => by kernel_rfl, fun _ => by kernel_rfl⟩
instance : ZeroT Tryz.prog 61 [(.int .i64 0), (.int .i64 0)] := ⟨.agg #[(.int .i64 0), (.int .i64 0)], fun _ => by kernel_rfl, rfl⟩
instance : ArrT Tryz.prog 61 2 3 1 := ⟨Tryz.underlying61, fun _ => by kernel_rfl⟩
instance : SlT Tryz.prog 80 39 1 24 := ⟨Tryz.underlying80, ⟨_, rfl, rfl, rfl⟩⟩
instance : MkT Tryz.prog 80 39 1 24 [(.slice none 0 0)] := ⟨Tryz.underlying80, ⟨_, _, rfl, rfl, rfl, rfl, rfl⟩⟩
instance : CellT Tryz.prog 92 := ⟨fun _ => by kernel_rfl, fun _ => by kernel_rfl⟩
instance : CellT Tryz.prog 113 := ⟨fun _ => by kernel_rfl, fun _ => by kernel_rfl⟩
instance : ZeroT Tryz.prog 115 [(.slice none 0 0), (.int .i64 0), (.int .u64 0)] := ⟨.agg #[(.slice none 0 0), (.int .i64 0), (.int .u64 0)], fun _ => by kernel_rfl, rfl⟩
instance : FieldT Tryz.prog 115 0 0 22 1 := ⟨⟨_, _, Tryz.underlying115, rfl, rfl, rfl⟩, fun _ => by kernel_rfl, by decide⟩
instance : FieldT Tryz.prog 115 1 1 3 1 := ⟨⟨_, _, Tryz.underlying115, rfl, rfl, rfl⟩, fun _ => by kernel_rfl, by decide⟩
instance : FieldT Tryz.prog 115 2 2 113 1 := ⟨⟨_, _, Tryz.underlying115, rfl, rfl, rfl⟩, fun _ => by kernel_rfl, by decide⟩
instance : StructT Tryz.prog 115 [(0, 1), (1, 1), (2, 1)] [(.slice none 0 0), (.int .i64 0), (.int .u64 0)] := ⟨⟨_, Tryz.underlying115, fun _ => by kernel_rfl⟩, inferInstance⟩
instance : CellT Tryz.prog 132 := ⟨fun _ => by kernel_rfl, fun _ => by kernel_rfl⟩
instance : SlT Tryz.prog 132 4 1 1 := ⟨Tryz.underlying132, ⟨_, rfl, rfl, rfl⟩⟩
instance : MkT Tryz.prog 132 4 1 1 [(.bool false)] := ⟨Tryz.underlying132, ⟨_, _, rfl, rfl, rfl, rfl, rfl⟩⟩
instance : AggT Tryz.prog 156 2 := ⟨fun _ => by kernel_rfl, fun _ => by kernel_rfl⟩
instance : ZeroT Tryz.prog 156 [(.int .i64 0), (.slice none 0 0)] := ⟨.agg #[(.int .i64 0), (.slice none 0 0)], fun _ => by kernel_rfl, rfl⟩
instance : FieldT Tryz.prog 156 0 0 3 1 := ⟨⟨_, _, Tryz.underlying156, rfl, rfl, rfl⟩, fun _ => by kernel_rfl, by decide⟩
instance : FieldT Tryz.prog 156 1 1 39 1 := ⟨⟨_, _, Tryz.underlying156, rfl, rfl, rfl⟩, fun _ => by kernel_rfl, by decide⟩
instance : StructT Tryz.prog 156 [(0, 1), (1, 1)] [(.int .i64 0), (.slice none 0 0)] := ⟨⟨_, Tryz.underlying156, fun _ => by kernel_rfl⟩, inferInstance⟩
instance : ZeroT Tryz.prog 164 [(.int .i64 0), (.slice none 0 0), (.int .i64 0), (.slice none 0 0), (.bool false), (.int .i64 0), .nilFunc] := ⟨.agg #[(.int .i64 0), (.slice none 0 0), (.int .i64 0), (.slice none 0 0), (.bool false), (.int .i64 0), .nilFunc], fun _ => by kernel_rfl, rfl⟩
instance : FieldT Tryz.prog 164 0 0 26 2 := ⟨⟨_, _, Tryz.underlying164, rfl, rfl, rfl⟩, fun _ => by kernel_rfl, by decide⟩
instance : FieldT Tryz.prog 164 1 2 26 2 := ⟨⟨_, _, Tryz.underlying164, rfl, rfl, rfl⟩, fun _ => by kernel_rfl, by decide⟩
instance : FieldT Tryz.prog 164 2 4 4 1 := ⟨⟨_, _, Tryz.underlying164, rfl, rfl, rfl⟩, fun _ => by kernel_rfl, by decide⟩
instance : FieldT Tryz.prog 164 3 5 3 1 := ⟨⟨_, _, Tryz.underlying164, rfl, rfl, rfl⟩, fun _ => by kernel_rfl, by decide⟩
instance : FieldT Tryz.prog 164 4 6 92 1 := ⟨⟨_, _, Tryz.underlying164, rfl, rfl, rfl⟩, fun _ => by kernel_rfl, by decide⟩
instance : StructT Tryz.prog 164 [(0, 2), (2, 2), (4, 1), (5, 1), (6, 1)] [(.int .i64 0), (.slice none 0 0), (.int .i64 0), (.slice none 0 0), (.bool false), (.int .i64 0), .nilFunc] := ⟨⟨_, Tryz.underlying164, fun _ => by kernel_rfl⟩, inferInstance⟩
instance : SlT Tryz.prog 166 132 1 24 := ⟨Tryz.underlying166, ⟨_, rfl, rfl, rfl⟩⟩
instance : MkT Tryz.prog 166 132 1 24 [(.slice none 0 0)] := ⟨Tryz.underlying166, ⟨_, _, rfl, rfl, rfl, rfl, rfl⟩⟩
instance : FnT Tryz.prog 8 := ⟨Tryz.call8⟩
instance : FnT Tryz.prog 12 := ⟨Tryz.call12⟩
instance : FnT Tryz.prog 17 := ⟨Tryz.call17⟩
instance : FnT Tryz.prog 19 := ⟨Tryz.call19⟩
instance : FnT Tryz.prog 37 := ⟨Tryz.call37⟩
instance : FnT Tryz.prog 45 := ⟨Tryz.call45⟩
instance : FnT Tryz.prog 53 := ⟨Tryz.call53⟩
instance : FnT Tryz.prog 54 := ⟨Tryz.call54⟩
instance : FnT Tryz.prog 59 := ⟨Tryz.call59⟩
instance : FnT Tryz.prog 62 := ⟨Tryz.call62⟩
instance : FnT Tryz.prog 63 := ⟨Tryz.call63⟩
instance : FnT Tryz.prog 64 := ⟨Tryz.call64⟩
instance : FnT Tryz.prog 65 := ⟨Tryz.call65⟩
instance : FnT Tryz.prog 66 := ⟨Tryz.call66⟩
instance : FnT Tryz.prog 67 := ⟨Tryz.call67⟩
instance : FnT Tryz.prog 68 := ⟨Tryz.call68⟩
instance : FnT Tryz.prog 70 := ⟨Tryz.call70⟩
instance : FnT Tryz.prog 72 := ⟨Tryz.call72⟩
instance : FnT Tryz.prog 78 := ⟨Tryz.call78⟩
instance : FnT Tryz.prog 80 := ⟨Tryz.call80⟩
instance : FnT Tryz.prog 81 := ⟨Tryz.call81⟩
instance : FnT Tryz.prog 83 := ⟨Tryz.call83⟩
instance : FnT Tryz.prog 84 := ⟨Tryz.call84⟩
instance : FnT Tryz.prog 92 := ⟨Tryz.call92⟩
instance : FnT Tryz.prog 95 := ⟨Tryz.call95⟩
instance : FnT Tryz.prog 97 := ⟨Tryz.call97⟩
instance : FnT Tryz.prog 101 := ⟨Tryz.call101⟩
instance : FnT Tryz.prog 102 := ⟨Tryz.call102⟩
instance : FnT Tryz.prog 104 := ⟨Tryz.call104⟩
instance : FnT Tryz.prog 106 := ⟨Tryz.call106⟩
instance : FnT Tryz.prog 112 := ⟨Tryz.call112⟩
instance : FnT Tryz.prog 113 := ⟨Tryz.call113⟩
instance : FnT Tryz.prog 114 := ⟨Tryz.call114⟩
instance : FnT Tryz.prog 115 := ⟨Tryz.call115⟩
instance : FnT Tryz.prog 117 := ⟨Tryz.call117⟩
instance : FnT Tryz.prog 118 := ⟨Tryz.call118⟩
instance : FnT Tryz.prog 122 := ⟨Tryz.call122⟩
instance : FnT Tryz.prog 123 := ⟨Tryz.call123⟩
instance : FnT Tryz.prog 124 := ⟨Tryz.call124⟩
instance : FnT Tryz.prog 125 := ⟨Tryz.call125⟩
instance : FnT Tryz.prog 129 := ⟨Tryz.call129⟩
instance : FnT Tryz.prog 130 := ⟨Tryz.call130⟩
instance : FnT Tryz.prog 132 := ⟨Tryz.call132⟩
instance : FnT Tryz.prog 133 := ⟨Tryz.call133⟩
instance : FnT Tryz.prog 134 := ⟨Tryz.call134⟩
instance : FnT Tryz.prog 135 := ⟨Tryz.call135⟩
instance : FnT Tryz.prog 136 := ⟨Tryz.call136⟩
instance : FnT Tryz.prog 137 := ⟨Tryz.call137⟩
instance : FnT Tryz.prog 138 := ⟨Tryz.call138⟩
instance : FnT Tryz.prog 139 := ⟨Tryz.call139⟩
instance : FnT Tryz.prog 140 := ⟨Tryz.call140⟩
instance : FnT Tryz.prog 141 := ⟨Tryz.call141⟩
instance : FnT Tryz.prog 142 := ⟨Tryz.call142⟩
instance : FnT Tryz.prog 143 := ⟨Tryz.call143⟩
instance : FnT Tryz.prog 144 := ⟨Tryz.call144⟩
instance : FnT Tryz.prog 146 := ⟨Tryz.call146⟩
instance : FnT Tryz.prog 155 := ⟨Tryz.call155⟩
instance : FnT Tryz.prog 156 := ⟨Tryz.call156⟩
instance : FnT Tryz.prog 157 := ⟨Tryz.call157⟩
instance : FnT Tryz.prog 160 := ⟨Tryz.call160⟩
instance : FnT Tryz.prog 161 := ⟨Tryz.call161⟩
instance : FnT Tryz.prog 162 := ⟨Tryz.call162⟩
instance : FnT Tryz.prog 163 := ⟨Tryz.call163⟩
instance : FnT Tryz.prog 165 := ⟨Tryz.call165⟩
instance : FnT Tryz.prog 166 := ⟨Tryz.call166⟩
instance : FnT Tryz.prog 168 := ⟨Tryz.call168⟩
instance : FnT Tryz.prog 170 := ⟨Tryz.call170⟩
instance : FnT Tryz.prog 171 := ⟨Tryz.call171⟩
instance : FnT Tryz.prog 178 := ⟨Tryz.call178⟩
instance : FnT Tryz.prog 179 := ⟨Tryz.call179⟩
instance : FnT Tryz.prog 180 := ⟨Tryz.call180⟩
instance : FnT Tryz.prog 181 := ⟨Tryz.call181⟩
instance : FnT Tryz.prog 182 := ⟨Tryz.call182⟩
instance : FnT Tryz.prog 185 := ⟨Tryz.call185⟩
instance : FnT Tryz.prog 186 := ⟨Tryz.call186⟩
instance : FnT Tryz.prog 193 := ⟨Tryz.call193⟩
instance : FnT Tryz.prog 195 := ⟨Tryz.call195⟩
instance : FnT Tryz.prog 199 := ⟨Tryz.call199⟩
instance : FnT Tryz.prog 200 := ⟨Tryz.call200⟩
instance : FnT Tryz.prog 201 := ⟨Tryz.call201⟩
instance : FnT Tryz.prog 202 := ⟨Tryz.call202⟩
instance : FnT Tryz.prog 203 := ⟨Tryz.call203⟩
instance : FnT Tryz.prog 204 := ⟨Tryz.call204⟩
instance : FnT Tryz.prog 205 := ⟨Tryz.call205⟩
instance : FnT Tryz.prog 206 := ⟨Tryz.call206⟩
instance : FnT Tryz.prog 208 := ⟨Tryz.call208⟩
instance : FnT Tryz.prog 209 := ⟨Tryz.call209⟩
instance : FnT Tryz.prog 213 := ⟨Tryz.call213⟩
instance : FnT Tryz.prog 215 := ⟨Tryz.call215⟩
instance : FnT Tryz.prog 216 := ⟨Tryz.call216⟩
instance : FnT Tryz.prog 218 := ⟨Tryz.call218⟩
instance : FnT Tryz.prog 219 := ⟨Tryz.call219⟩
instance : FnT Tryz.prog 220 := ⟨Tryz.call220⟩
instance : FnT Tryz.prog 222 := ⟨Tryz.call222⟩
instance : FnT Tryz.prog 226 := ⟨Tryz.call226⟩
instance : FnT Tryz.prog 232 := ⟨Tryz.call232⟩
instance : FnT Tryz.prog 233 := ⟨Tryz.call233⟩
instance : FnT Tryz.prog 236 := ⟨Tryz.call236⟩
instance : FnT Tryz.prog 237 := ⟨Tryz.call237⟩
instance : FnT Tryz.prog 238 := ⟨Tryz.call238⟩
instance : FnT Tryz.prog 239 := ⟨Tryz.call239⟩
instance : FnT Tryz.prog 243 := ⟨Tryz.call243⟩
instance : FnT Tryz.prog 244 := ⟨Tryz.call244⟩
instance : FnT Tryz.prog 246 := ⟨Tryz.call246⟩
instance : FnT Tryz.prog 249 := ⟨Tryz.call249⟩
instance : FnT Tryz.prog 250 := ⟨Tryz.call250⟩
instance : FnT Tryz.prog 257 := ⟨Tryz.call257⟩
instance : FnT Tryz.prog 260 := ⟨Tryz.call260⟩
instance : FnT Tryz.prog 275 := ⟨Tryz.call275⟩
instance : FnT Tryz.prog 277 := ⟨Tryz.call277⟩
end Go.Proofs.YtbohjibbgppfaaaGreat
