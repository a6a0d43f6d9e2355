/- What the translation's types and functions say, as instances. -/
import Derived.Test.YtnjocjfhaahmfaaGreatChecked
import Derived.Test.YtnjocjfhaahmfaaGreatJPw
namespace Go.Proofs.YtnjocjfhaahmfaaGreat
open Go Go.Pv Go.Proofs
set_option maxHeartbeats 32000000
set_option maxRecDepth 100000

instance : CellT Tryz.prog 3 := ⟨fun _ => by kernel_rfl, fun _ => by kernel_rfl⟩
instance : ZeroT Tryz.prog 3 [(.int .i64 0)] := ⟨(.int .i64 0), fun _ => by kernel_rfl, rfl⟩
instance : BoolT Tryz.prog 4 := ⟨by kernel_rfl⟩
instance : CellT Tryz.prog 4 := ⟨fun _ => by kernel_rfl, fun _ => by kernel_rfl⟩
instance : CellT Tryz.prog 5 := ⟨fun _ => by kernel_rfl, fun _ => by kernel_rfl⟩
instance : ZeroT Tryz.prog 5 [(.int .u8 0)] := ⟨(.int .u8 0), fun _ => by kernel_rfl, rfl⟩
instance : CellT Tryz.prog 22 := ⟨fun _ => by kernel_rfl, fun _ => by kernel_rfl⟩
instance : SlT Tryz.prog 22 5 1 1 := ⟨Tryz.underlying22, ⟨_, rfl, rfl, rfl⟩⟩
instance : MkT Tryz.prog 22 5 1 1 [(.int .u8 0)] := ⟨Tryz.underlying22, ⟨_, _, rfl, rfl, rfl, rfl, rfl⟩⟩
instance : CellT Tryz.prog 24 := ⟨fun _ => by kernel_rfl, fun _ => by kernel_rfl⟩
instance : SlT Tryz.prog 24 43 2 32 := ⟨Tryz.underlying24, ⟨_, rfl, rfl, rfl⟩⟩
instance : MkT Tryz.prog 24 43 2 32 [(.int .i64 0), (.slice none 0 0)] := ⟨Tryz.underlying24, ⟨_, _, rfl, rfl, rfl, rfl, rfl⟩⟩
instance : AggT Tryz.prog 26 2 := ⟨fun _ => by kernel_rfl, fun _ => by kernel_rfl⟩
instance : ZeroT Tryz.prog 26 [(.int .i64 0), (.slice none 0 0)] := ⟨.agg #[(.int .i64 0), (.slice none 0 0)], fun _ => by kernel_rfl, rfl⟩
instance : FieldT Tryz.prog 26 0 0 3 1 := ⟨⟨_, _, Tryz.underlying26, rfl, rfl, rfl⟩, fun _ => by kernel_rfl, by decide⟩
instance : FieldT Tryz.prog 26 1 1 24 1 := ⟨⟨_, _, Tryz.underlying26, rfl, rfl, rfl⟩, fun _ => by kernel_rfl, by decide⟩
instance : StructT Tryz.prog 26 [(0, 1), (1, 1)] [(.int .i64 0), (.slice none 0 0)] := ⟨⟨_, Tryz.underlying26, fun _ => by kernel_rfl⟩, inferInstance⟩
instance : CellT Tryz.prog 28 := ⟨fun _ => by kernel_rfl, fun _ => by kernel_rfl⟩
instance : SlT Tryz.prog 28 41 1 24 := ⟨Tryz.underlying28, ⟨_, rfl, rfl, rfl⟩⟩
instance : MkT Tryz.prog 28 41 1 24 [(.slice none 0 0)] := ⟨Tryz.underlying28, ⟨_, _, rfl, rfl, rfl, rfl, rfl⟩⟩
instance : CellT Tryz.prog 41 := ⟨fun _ => by kernel_rfl, fun _ => by kernel_rfl⟩
instance : ZeroT Tryz.prog 41 [(.slice none 0 0)] := ⟨(.slice none 0 0), fun _ => by kernel_rfl, rfl⟩
instance : SlT Tryz.prog 41 3 1 8 := ⟨Tryz.underlying41, ⟨_, rfl, rfl, rfl⟩⟩
instance : MkT Tryz.prog 41 3 1 8 [(.int .i64 0)] := ⟨Tryz.underlying41, ⟨_, _, rfl, rfl, rfl, rfl, rfl⟩⟩
instance : AggT Tryz.prog 43 2 := ⟨fun _ => by kernel_rfl, fun _ => by kernel_rfl⟩
instance : ZeroT Tryz.prog 43 [(.int .i64 0), (.slice none 0 0)] := ⟨.agg #[(.int .i64 0), (.slice none 0 0)], fun _ => by kernel_rfl, rfl⟩
instance : FieldT Tryz.prog 43 0 0 3 1 := ⟨⟨_, _, Tryz.underlying43, rfl, rfl, rfl⟩, fun _ => by kernel_rfl, by decide⟩
instance : FieldT Tryz.prog 43 1 1 41 1 := ⟨⟨_, _, Tryz.underlying43, rfl, rfl, rfl⟩, fun _ => by kernel_rfl, by decide⟩
instance : StructT Tryz.prog 43 [(0, 1), (1, 1)] [(.int .i64 0), (.slice none 0 0)] := ⟨⟨_, Tryz.underlying43, fun _ => by kernel_rfl⟩, inferInstance⟩
instance : SlT Tryz.prog 51 54 2 16 := ⟨Tryz.underlying51, ⟨_, rfl, rfl, rfl⟩⟩
instance : AggT Tryz.prog 54 2 := ⟨fun _ => by kernel_rfl, fun _ => by kernel_rfl⟩
instance : ZeroT Tryz.prog 54 [(.int .i64 0), (.int .i64 0)] := ⟨.agg #[(.int .i64 0), (.int .i64 0)], fun _ => by kernel_rfl, rfl⟩
instance : ArrT Tryz.prog 54 2 3 1 := ⟨Tryz.underlying54, fun _ => by kernel_rfl⟩
instance : CellT Tryz.prog 125 := ⟨fun _ => by kernel_rfl, fun _ => by kernel_rfl⟩
instance : ZeroT Tryz.prog 127 [(.slice none 0 0), (.int .i64 0), (.int .u64 0)] := ⟨.agg #[(.slice none 0 0), (.int .i64 0), (.int .u64 0)], fun _ => by kernel_rfl, rfl⟩
instance : FieldT Tryz.prog 127 0 0 22 1 := ⟨⟨_, _, Tryz.underlying127, rfl, rfl, rfl⟩, fun _ => by kernel_rfl, by decide⟩
instance : FieldT Tryz.prog 127 1 1 3 1 := ⟨⟨_, _, Tryz.underlying127, rfl, rfl, rfl⟩, fun _ => by kernel_rfl, by decide⟩
instance : FieldT Tryz.prog 127 2 2 125 1 := ⟨⟨_, _, Tryz.underlying127, rfl, rfl, rfl⟩, fun _ => by kernel_rfl, by decide⟩
instance : StructT Tryz.prog 127 [(0, 1), (1, 1), (2, 1)] [(.slice none 0 0), (.int .i64 0), (.int .u64 0)] := ⟨⟨_, Tryz.underlying127, fun _ => by kernel_rfl⟩, inferInstance⟩
instance : AggT Tryz.prog 154 2 := ⟨fun _ => by kernel_rfl, fun _ => by kernel_rfl⟩
instance : ZeroT Tryz.prog 154 [(.int .i64 0), (.slice none 0 0)] := ⟨.agg #[(.int .i64 0), (.slice none 0 0)], fun _ => by kernel_rfl, rfl⟩
instance : FieldT Tryz.prog 154 0 0 3 1 := ⟨⟨_, _, Tryz.underlying154, rfl, rfl, rfl⟩, fun _ => by kernel_rfl, by decide⟩
instance : FieldT Tryz.prog 154 1 1 28 1 := ⟨⟨_, _, Tryz.underlying154, rfl, rfl, rfl⟩, fun _ => by kernel_rfl, by decide⟩
instance : StructT Tryz.prog 154 [(0, 1), (1, 1)] [(.int .i64 0), (.slice none 0 0)] := ⟨⟨_, Tryz.underlying154, fun _ => by kernel_rfl⟩, inferInstance⟩
instance : CellT Tryz.prog 172 := ⟨fun _ => by kernel_rfl, fun _ => by kernel_rfl⟩
instance : SlT Tryz.prog 172 4 1 1 := ⟨Tryz.underlying172, ⟨_, rfl, rfl, rfl⟩⟩
instance : MkT Tryz.prog 172 4 1 1 [(.bool false)] := ⟨Tryz.underlying172, ⟨_, _, rfl, rfl, rfl, rfl, rfl⟩⟩
instance : SlT Tryz.prog 175 172 1 24 := ⟨Tryz.underlying175, ⟨_, rfl, rfl, rfl⟩⟩
instance : MkT Tryz.prog 175 172 1 24 [(.slice none 0 0)] := ⟨Tryz.underlying175, ⟨_, _, rfl, rfl, rfl, rfl, rfl⟩⟩
instance : FnT Tryz.prog 26 := ⟨Tryz.call26⟩
instance : FnT Tryz.prog 40 := ⟨Tryz.call40⟩
instance : FnT Tryz.prog 41 := ⟨Tryz.call41⟩
instance : FnT Tryz.prog 42 := ⟨Tryz.call42⟩
instance : FnT Tryz.prog 43 := ⟨Tryz.call43⟩
instance : FnT Tryz.prog 44 := ⟨Tryz.call44⟩
instance : FnT Tryz.prog 45 := ⟨Tryz.call45⟩
instance : FnT Tryz.prog 46 := ⟨Tryz.call46⟩
instance : FnT Tryz.prog 47 := ⟨Tryz.call47⟩
instance : FnT Tryz.prog 48 := ⟨Tryz.call48⟩
instance : FnT Tryz.prog 49 := ⟨Tryz.call49⟩
instance : FnT Tryz.prog 50 := ⟨Tryz.call50⟩
instance : FnT Tryz.prog 51 := ⟨Tryz.call51⟩
instance : FnT Tryz.prog 52 := ⟨Tryz.call52⟩
instance : FnT Tryz.prog 53 := ⟨Tryz.call53⟩
instance : FnT Tryz.prog 54 := ⟨Tryz.call54⟩
instance : FnT Tryz.prog 55 := ⟨Tryz.call55⟩
instance : FnT Tryz.prog 56 := ⟨Tryz.call56⟩
instance : FnT Tryz.prog 57 := ⟨Tryz.call57⟩
instance : FnT Tryz.prog 58 := ⟨Tryz.call58⟩
instance : FnT Tryz.prog 59 := ⟨Tryz.call59⟩
instance : FnT Tryz.prog 60 := ⟨Tryz.call60⟩
instance : FnT Tryz.prog 61 := ⟨Tryz.call61⟩
instance : FnT Tryz.prog 62 := ⟨Tryz.call62⟩
instance : FnT Tryz.prog 74 := ⟨Tryz.call74⟩
instance : FnT Tryz.prog 98 := ⟨Tryz.call98⟩
instance : FnT Tryz.prog 107 := ⟨Tryz.call107⟩
instance : FnT Tryz.prog 110 := ⟨Tryz.call110⟩
instance : FnT Tryz.prog 112 := ⟨Tryz.call112⟩
instance : FnT Tryz.prog 119 := ⟨Tryz.call119⟩
instance : FnT Tryz.prog 120 := ⟨Tryz.call120⟩
instance : FnT Tryz.prog 125 := ⟨Tryz.call125⟩
instance : FnT Tryz.prog 126 := ⟨Tryz.call126⟩
instance : FnT Tryz.prog 128 := ⟨Tryz.call128⟩
instance : FnT Tryz.prog 130 := ⟨Tryz.call130⟩
instance : FnT Tryz.prog 133 := ⟨Tryz.call133⟩
instance : FnT Tryz.prog 134 := ⟨Tryz.call134⟩
instance : FnT Tryz.prog 135 := ⟨Tryz.call135⟩
instance : FnT Tryz.prog 136 := ⟨Tryz.call136⟩
instance : FnT Tryz.prog 137 := ⟨Tryz.call137⟩
instance : FnT Tryz.prog 138 := ⟨Tryz.call138⟩
instance : FnT Tryz.prog 139 := ⟨Tryz.call139⟩
instance : FnT Tryz.prog 140 := ⟨Tryz.call140⟩
instance : FnT Tryz.prog 141 := ⟨Tryz.call141⟩
instance : FnT Tryz.prog 142 := ⟨Tryz.call142⟩
instance : FnT Tryz.prog 143 := ⟨Tryz.call143⟩
instance : FnT Tryz.prog 144 := ⟨Tryz.call144⟩
instance : FnT Tryz.prog 145 := ⟨Tryz.call145⟩
instance : FnT Tryz.prog 146 := ⟨Tryz.call146⟩
instance : FnT Tryz.prog 147 := ⟨Tryz.call147⟩
instance : FnT Tryz.prog 148 := ⟨Tryz.call148⟩
instance : FnT Tryz.prog 149 := ⟨Tryz.call149⟩
instance : FnT Tryz.prog 150 := ⟨Tryz.call150⟩
instance : FnT Tryz.prog 153 := ⟨Tryz.call153⟩
instance : FnT Tryz.prog 156 := ⟨Tryz.call156⟩
instance : FnT Tryz.prog 160 := ⟨Tryz.call160⟩
instance : FnT Tryz.prog 161 := ⟨Tryz.call161⟩
instance : FnT Tryz.prog 163 := ⟨Tryz.call163⟩
instance : FnT Tryz.prog 164 := ⟨Tryz.call164⟩
instance : FnT Tryz.prog 165 := ⟨Tryz.call165⟩
instance : FnT Tryz.prog 166 := ⟨Tryz.call166⟩
instance : FnT Tryz.prog 168 := ⟨Tryz.call168⟩
instance : FnT Tryz.prog 169 := ⟨Tryz.call169⟩
instance : FnT Tryz.prog 170 := ⟨Tryz.call170⟩
instance : FnT Tryz.prog 182 := ⟨Tryz.call182⟩
instance : FnT Tryz.prog 183 := ⟨Tryz.call183⟩
instance : FnT Tryz.prog 189 := ⟨Tryz.call189⟩
instance : FnT Tryz.prog 190 := ⟨Tryz.call190⟩
instance : FnT Tryz.prog 195 := ⟨Tryz.call195⟩
instance : FnT Tryz.prog 196 := ⟨Tryz.call196⟩
instance : FnT Tryz.prog 197 := ⟨Tryz.call197⟩
instance : FnT Tryz.prog 198 := ⟨Tryz.call198⟩
instance : FnT Tryz.prog 202 := ⟨Tryz.call202⟩
instance : FnT Tryz.prog 203 := ⟨Tryz.call203⟩
instance : FnT Tryz.prog 204 := ⟨Tryz.call204⟩
instance : FnT Tryz.prog 207 := ⟨Tryz.call207⟩
instance : FnT Tryz.prog 208 := ⟨Tryz.call208⟩
instance : FnT Tryz.prog 209 := ⟨Tryz.call209⟩
instance : FnT Tryz.prog 210 := ⟨Tryz.call210⟩
instance : FnT Tryz.prog 211 := ⟨Tryz.call211⟩
instance : FnT Tryz.prog 212 := ⟨Tryz.call212⟩
instance : FnT Tryz.prog 213 := ⟨Tryz.call213⟩
instance : FnT Tryz.prog 214 := ⟨Tryz.call214⟩
instance : FnT Tryz.prog 215 := ⟨Tryz.call215⟩
instance : FnT Tryz.prog 216 := ⟨Tryz.call216⟩
instance : FnT Tryz.prog 217 := ⟨Tryz.call217⟩
instance : FnT Tryz.prog 218 := ⟨Tryz.call218⟩
instance : FnT Tryz.prog 228 := ⟨Tryz.call228⟩
instance : FnT Tryz.prog 233 := ⟨Tryz.call233⟩
instance : FnT Tryz.prog 234 := ⟨Tryz.call234⟩
instance : FnT Tryz.prog 236 := ⟨Tryz.call236⟩
instance : FnT Tryz.prog 246 := ⟨Tryz.call246⟩
instance : FnT Tryz.prog 247 := ⟨Tryz.call247⟩
instance : FnT Tryz.prog 248 := ⟨Tryz.call248⟩
instance : FnT Tryz.prog 249 := ⟨Tryz.call249⟩
instance : FnT Tryz.prog 256 := ⟨Tryz.call256⟩
instance : FnT Tryz.prog 257 := ⟨Tryz.call257⟩
instance : FnT Tryz.prog 258 := ⟨Tryz.call258⟩
instance : FnT Tryz.prog 259 := ⟨Tryz.call259⟩
instance : FnT Tryz.prog 268 := ⟨Tryz.call268⟩
instance : FnT Tryz.prog 269 := ⟨Tryz.call269⟩
instance : FnT Tryz.prog 272 := ⟨Tryz.call272⟩
instance : FnT Tryz.prog 278 := ⟨Tryz.call278⟩
instance : FnT Tryz.prog 279 := ⟨Tryz.call279⟩
instance : FnT Tryz.prog 286 := ⟨Tryz.call286⟩
instance : FnT Tryz.prog 287 := ⟨Tryz.call287⟩
instance : FnT Tryz.prog 288 := ⟨Tryz.call288⟩
instance : FnT Tryz.prog 307 := ⟨Tryz.call307⟩
end Go.Proofs.YtnjocjfhaahmfaaGreat
