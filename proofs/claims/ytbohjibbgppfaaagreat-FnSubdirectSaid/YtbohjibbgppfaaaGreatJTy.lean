/- What the translation's types and functions say, as instances. -/
import Derived.Test.YtbohjibbgppfaaaGreatChecked
import Derived.Test.YtbohjibbgppfaaaGreatJPw
namespace Go.Proofs.YtbohjibbgppfaaaGreat
open Go Go.Pv Go.Proofs
set_option maxHeartbeats 32000000
set_option maxRecDepth 100000

instance : CellT Tryz.prog 3 := ⟨fun _ => by kernel_rfl, fun _ => by kernel_rfl⟩
instance : ZeroT Tryz.prog 3 [(.int .i64 0)] := ⟨(.int .i64 0), fun _ => by kernel_rfl, rfl⟩
instance : BoolT Tryz.prog 4 := ⟨by kernel_rfl⟩
instance : CellT Tryz.prog 5 := ⟨fun _ => by kernel_rfl, fun _ => by kernel_rfl⟩
instance : ZeroT Tryz.prog 5 [(.int .u8 0)] := ⟨(.int .u8 0), fun _ => by kernel_rfl, rfl⟩
instance : CellT Tryz.prog 22 := ⟨fun _ => by kernel_rfl, fun _ => by kernel_rfl⟩
instance : SlT Tryz.prog 22 5 1 1 := ⟨Tryz.underlying22, ⟨_, rfl, rfl, rfl⟩⟩
instance : MkT Tryz.prog 22 5 1 1 [(.int .u8 0)] := ⟨Tryz.underlying22, ⟨_, _, rfl, rfl, rfl, rfl, rfl⟩⟩
instance : CellT Tryz.prog 24 := ⟨fun _ => by kernel_rfl, fun _ => by kernel_rfl⟩
instance : SlT Tryz.prog 24 51 2 32 := ⟨Tryz.underlying24, ⟨_, rfl, rfl, rfl⟩⟩
instance : MkT Tryz.prog 24 51 2 32 [(.int .i64 0), (.slice none 0 0)] := ⟨Tryz.underlying24, ⟨_, _, rfl, rfl, rfl, rfl, rfl⟩⟩
instance : AggT Tryz.prog 26 2 := ⟨fun _ => by kernel_rfl, fun _ => by kernel_rfl⟩
instance : ZeroT Tryz.prog 26 [(.int .i64 0), (.slice none 0 0)] := ⟨.agg #[(.int .i64 0), (.slice none 0 0)], fun _ => by kernel_rfl, rfl⟩
instance : FieldT Tryz.prog 26 0 0 3 1 := ⟨⟨_, _, Tryz.underlying26, rfl, rfl, rfl⟩, fun _ => by kernel_rfl, by decide⟩
instance : FieldT Tryz.prog 26 1 1 24 1 := ⟨⟨_, _, Tryz.underlying26, rfl, rfl, rfl⟩, fun _ => by kernel_rfl, by decide⟩
instance : StructT Tryz.prog 26 [(0, 1), (1, 1)] [(.int .i64 0), (.slice none 0 0)] := ⟨⟨_, Tryz.underlying26, fun _ => by kernel_rfl⟩, inferInstance⟩
instance : CellT Tryz.prog 27 := ⟨fun _ => by kernel_rfl, fun _ => by kernel_rfl⟩
instance : ZeroT Tryz.prog 27 [(.slice none 0 0)] := ⟨(.slice none 0 0), fun _ => by kernel_rfl, rfl⟩
instance : SlT Tryz.prog 27 3 1 8 := ⟨Tryz.underlying27, ⟨_, rfl, rfl, rfl⟩⟩
instance : MkT Tryz.prog 27 3 1 8 [(.int .i64 0)] := ⟨Tryz.underlying27, ⟨_, _, rfl, rfl, rfl, rfl, rfl⟩⟩
instance : SlT Tryz.prog 39 27 1 24 := ⟨Tryz.underlying39, ⟨_, rfl, rfl, rfl⟩⟩
instance : MkT Tryz.prog 39 27 1 24 [(.slice none 0 0)] := ⟨Tryz.underlying39, ⟨_, _, rfl, rfl, rfl, rfl, rfl⟩⟩
instance : SlT Tryz.prog 43 26 2 32 := ⟨Tryz.underlying43, ⟨_, rfl, rfl, rfl⟩⟩
instance : MkT Tryz.prog 43 26 2 32 [(.int .i64 0), (.slice none 0 0)] := ⟨Tryz.underlying43, ⟨_, _, rfl, rfl, rfl, rfl, rfl⟩⟩
instance : AggT Tryz.prog 51 2 := ⟨fun _ => by kernel_rfl, fun _ => by kernel_rfl⟩
instance : ZeroT Tryz.prog 51 [(.int .i64 0), (.slice none 0 0)] := ⟨.agg #[(.int .i64 0), (.slice none 0 0)], fun _ => by kernel_rfl, rfl⟩
instance : FieldT Tryz.prog 51 0 0 3 1 := ⟨⟨_, _, Tryz.underlying51, rfl, rfl, rfl⟩, fun _ => by kernel_rfl, by decide⟩
instance : FieldT Tryz.prog 51 1 1 27 1 := ⟨⟨_, _, Tryz.underlying51, rfl, rfl, rfl⟩, fun _ => by kernel_rfl, by decide⟩
instance : StructT Tryz.prog 51 [(0, 1), (1, 1)] [(.int .i64 0), (.slice none 0 0)] := ⟨⟨_, Tryz.underlying51, fun _ => by kernel_rfl⟩, inferInstance⟩
instance : SlT Tryz.prog 58 61 2 16 := ⟨Tryz.underlying58, ⟨_, rfl, rfl, rfl⟩⟩
instance : AggT Tryz.prog 61 2 := ⟨fun _ => by kernel_rfl, fun _ => by kernel_rfl⟩
instance : ZeroT Tryz.prog 61 [(.int .i64 0), (.int .i64 0)] := ⟨.agg #[(.int .i64 0), (.int .i64 0)], fun _ => by kernel_rfl, rfl⟩
instance : ArrT Tryz.prog 61 2 3 1 := ⟨Tryz.underlying61, fun _ => by kernel_rfl⟩
instance : CellT Tryz.prog 113 := ⟨fun _ => by kernel_rfl, fun _ => by kernel_rfl⟩
instance : ZeroT Tryz.prog 115 [(.slice none 0 0), (.int .i64 0), (.int .u64 0)] := ⟨.agg #[(.slice none 0 0), (.int .i64 0), (.int .u64 0)], fun _ => by kernel_rfl, rfl⟩
instance : FieldT Tryz.prog 115 0 0 22 1 := ⟨⟨_, _, Tryz.underlying115, rfl, rfl, rfl⟩, fun _ => by kernel_rfl, by decide⟩
instance : FieldT Tryz.prog 115 1 1 3 1 := ⟨⟨_, _, Tryz.underlying115, rfl, rfl, rfl⟩, fun _ => by kernel_rfl, by decide⟩
instance : FieldT Tryz.prog 115 2 2 113 1 := ⟨⟨_, _, Tryz.underlying115, rfl, rfl, rfl⟩, fun _ => by kernel_rfl, by decide⟩
instance : StructT Tryz.prog 115 [(0, 1), (1, 1), (2, 1)] [(.slice none 0 0), (.int .i64 0), (.int .u64 0)] := ⟨⟨_, Tryz.underlying115, fun _ => by kernel_rfl⟩, inferInstance⟩
instance : FnT Tryz.prog 20 := ⟨Tryz.call20⟩
instance : FnT Tryz.prog 21 := ⟨Tryz.call21⟩
instance : FnT Tryz.prog 22 := ⟨Tryz.call22⟩
instance : FnT Tryz.prog 23 := ⟨Tryz.call23⟩
instance : FnT Tryz.prog 24 := ⟨Tryz.call24⟩
instance : FnT Tryz.prog 25 := ⟨Tryz.call25⟩
instance : FnT Tryz.prog 26 := ⟨Tryz.call26⟩
instance : FnT Tryz.prog 27 := ⟨Tryz.call27⟩
instance : FnT Tryz.prog 28 := ⟨Tryz.call28⟩
instance : FnT Tryz.prog 29 := ⟨Tryz.call29⟩
instance : FnT Tryz.prog 30 := ⟨Tryz.call30⟩
instance : FnT Tryz.prog 31 := ⟨Tryz.call31⟩
instance : FnT Tryz.prog 32 := ⟨Tryz.call32⟩
instance : FnT Tryz.prog 33 := ⟨Tryz.call33⟩
instance : FnT Tryz.prog 34 := ⟨Tryz.call34⟩
instance : FnT Tryz.prog 35 := ⟨Tryz.call35⟩
instance : FnT Tryz.prog 36 := ⟨Tryz.call36⟩
instance : FnT Tryz.prog 37 := ⟨Tryz.call37⟩
instance : FnT Tryz.prog 72 := ⟨Tryz.call72⟩
instance : FnT Tryz.prog 78 := ⟨Tryz.call78⟩
instance : FnT Tryz.prog 81 := ⟨Tryz.call81⟩
instance : FnT Tryz.prog 85 := ⟨Tryz.call85⟩
instance : FnT Tryz.prog 86 := ⟨Tryz.call86⟩
instance : FnT Tryz.prog 87 := ⟨Tryz.call87⟩
instance : FnT Tryz.prog 88 := ⟨Tryz.call88⟩
instance : FnT Tryz.prog 89 := ⟨Tryz.call89⟩
instance : FnT Tryz.prog 90 := ⟨Tryz.call90⟩
instance : FnT Tryz.prog 91 := ⟨Tryz.call91⟩
instance : FnT Tryz.prog 92 := ⟨Tryz.call92⟩
instance : FnT Tryz.prog 93 := ⟨Tryz.call93⟩
instance : FnT Tryz.prog 94 := ⟨Tryz.call94⟩
instance : FnT Tryz.prog 95 := ⟨Tryz.call95⟩
instance : FnT Tryz.prog 96 := ⟨Tryz.call96⟩
instance : FnT Tryz.prog 97 := ⟨Tryz.call97⟩
instance : FnT Tryz.prog 98 := ⟨Tryz.call98⟩
instance : FnT Tryz.prog 99 := ⟨Tryz.call99⟩
instance : FnT Tryz.prog 100 := ⟨Tryz.call100⟩
instance : FnT Tryz.prog 101 := ⟨Tryz.call101⟩
instance : FnT Tryz.prog 102 := ⟨Tryz.call102⟩
instance : FnT Tryz.prog 103 := ⟨Tryz.call103⟩
instance : FnT Tryz.prog 104 := ⟨Tryz.call104⟩
instance : FnT Tryz.prog 105 := ⟨Tryz.call105⟩
instance : FnT Tryz.prog 106 := ⟨Tryz.call106⟩
instance : FnT Tryz.prog 109 := ⟨Tryz.call109⟩
instance : FnT Tryz.prog 114 := ⟨Tryz.call114⟩
instance : FnT Tryz.prog 115 := ⟨Tryz.call115⟩
instance : FnT Tryz.prog 117 := ⟨Tryz.call117⟩
instance : FnT Tryz.prog 118 := ⟨Tryz.call118⟩
instance : FnT Tryz.prog 125 := ⟨Tryz.call125⟩
instance : FnT Tryz.prog 129 := ⟨Tryz.call129⟩
instance : FnT Tryz.prog 130 := ⟨Tryz.call130⟩
instance : FnT Tryz.prog 132 := ⟨Tryz.call132⟩
instance : FnT Tryz.prog 133 := ⟨Tryz.call133⟩
instance : FnT Tryz.prog 140 := ⟨Tryz.call140⟩
instance : FnT Tryz.prog 143 := ⟨Tryz.call143⟩
instance : FnT Tryz.prog 144 := ⟨Tryz.call144⟩
instance : FnT Tryz.prog 155 := ⟨Tryz.call155⟩
instance : FnT Tryz.prog 156 := ⟨Tryz.call156⟩
instance : FnT Tryz.prog 157 := ⟨Tryz.call157⟩
instance : FnT Tryz.prog 160 := ⟨Tryz.call160⟩
instance : FnT Tryz.prog 161 := ⟨Tryz.call161⟩
instance : FnT Tryz.prog 164 := ⟨Tryz.call164⟩
instance : FnT Tryz.prog 165 := ⟨Tryz.call165⟩
instance : FnT Tryz.prog 166 := ⟨Tryz.call166⟩
instance : FnT Tryz.prog 167 := ⟨Tryz.call167⟩
instance : FnT Tryz.prog 168 := ⟨Tryz.call168⟩
instance : FnT Tryz.prog 169 := ⟨Tryz.call169⟩
instance : FnT Tryz.prog 170 := ⟨Tryz.call170⟩
instance : FnT Tryz.prog 171 := ⟨Tryz.call171⟩
instance : FnT Tryz.prog 172 := ⟨Tryz.call172⟩
instance : FnT Tryz.prog 173 := ⟨Tryz.call173⟩
instance : FnT Tryz.prog 174 := ⟨Tryz.call174⟩
instance : FnT Tryz.prog 175 := ⟨Tryz.call175⟩
instance : FnT Tryz.prog 179 := ⟨Tryz.call179⟩
instance : FnT Tryz.prog 180 := ⟨Tryz.call180⟩
instance : FnT Tryz.prog 181 := ⟨Tryz.call181⟩
instance : FnT Tryz.prog 182 := ⟨Tryz.call182⟩
instance : FnT Tryz.prog 185 := ⟨Tryz.call185⟩
instance : FnT Tryz.prog 186 := ⟨Tryz.call186⟩
instance : FnT Tryz.prog 193 := ⟨Tryz.call193⟩
instance : FnT Tryz.prog 195 := ⟨Tryz.call195⟩
instance : FnT Tryz.prog 199 := ⟨Tryz.call199⟩
instance : FnT Tryz.prog 200 := ⟨Tryz.call200⟩
instance : FnT Tryz.prog 201 := ⟨Tryz.call201⟩
instance : FnT Tryz.prog 202 := ⟨Tryz.call202⟩
instance : FnT Tryz.prog 206 := ⟨Tryz.call206⟩
instance : FnT Tryz.prog 213 := ⟨Tryz.call213⟩
instance : FnT Tryz.prog 217 := ⟨Tryz.call217⟩
instance : FnT Tryz.prog 218 := ⟨Tryz.call218⟩
instance : FnT Tryz.prog 219 := ⟨Tryz.call219⟩
instance : FnT Tryz.prog 220 := ⟨Tryz.call220⟩
instance : FnT Tryz.prog 221 := ⟨Tryz.call221⟩
instance : FnT Tryz.prog 226 := ⟨Tryz.call226⟩
instance : FnT Tryz.prog 232 := ⟨Tryz.call232⟩
instance : FnT Tryz.prog 233 := ⟨Tryz.call233⟩
instance : FnT Tryz.prog 236 := ⟨Tryz.call236⟩
instance : FnT Tryz.prog 239 := ⟨Tryz.call239⟩
instance : FnT Tryz.prog 243 := ⟨Tryz.call243⟩
instance : FnT Tryz.prog 247 := ⟨Tryz.call247⟩
instance : FnT Tryz.prog 248 := ⟨Tryz.call248⟩
instance : FnT Tryz.prog 249 := ⟨Tryz.call249⟩
instance : FnT Tryz.prog 250 := ⟨Tryz.call250⟩
end Go.Proofs.YtbohjibbgppfaaaGreat
