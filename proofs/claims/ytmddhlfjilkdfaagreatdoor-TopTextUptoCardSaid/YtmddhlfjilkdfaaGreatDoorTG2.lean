/-
  No claim by itself: the functions do what their texts mean. No condition.
-/
import Derived.Test.YtmddhlfjilkdfaaGreatDoorTG1
namespace Go.Proofs.YtmddhlfjilkdfaaGreatDoor
set_option linter.unusedVariables false
set_option maxRecDepth 100000 in
theorem e149 : S149 = fnF Tryz.prog [] MM Tryz.f149 a149 := by kernel_rfl
theorem d149 : SoundF Tryz.prog 149 s149 := sound_fn (fn := Tryz.f149) (T := []) (M := MM) (ann := a149) (by kernel_rfl) (by kernel_rfl) (by kernel_rfl) (by kernel_rfl) mix .nil (e149)
set_option maxRecDepth 100000 in
theorem e198 (s42 : FS) : S198 s42 = fnF Tryz.prog [(42, s42)] MM Tryz.f198 a198 := by kernel_rfl
theorem do198 : SoundF Tryz.prog 198 o198 := sound_fn (fn := Tryz.f198) (T := [(42, s42)]) (M := MM) (ann := a198) (by kernel_rfl) (by kernel_rfl) (by kernel_rfl) (by kernel_rfl) mix (.cons d42 .nil) (e198 s42)
theorem d198 : SoundF Tryz.prog 198 s198 := confF_sound do198
set_option maxRecDepth 100000 in
theorem e179 (s91 s110 s198 : FS) : S179 s91 s110 s198 = fnF Tryz.prog [(91, s91), (110, s110), (198, s198)] MM Tryz.f179 a179 := by kernel_rfl
theorem d179 : SoundF Tryz.prog 179 s179 := sound_fn (fn := Tryz.f179) (T := [(91, s91), (110, s110), (198, s198)]) (M := MM) (ann := a179) (by kernel_rfl) (by kernel_rfl) (by kernel_rfl) (by kernel_rfl) mix (.cons d91 (.cons d110 (.cons d198 .nil))) (e179 s91 s110 s198)
set_option maxRecDepth 100000 in
theorem e187 (s91 s179 : FS) : S187 s91 s179 = fnF Tryz.prog [(91, s91), (179, s179)] MM Tryz.f187 a187 := by kernel_rfl
theorem d187 : SoundF Tryz.prog 187 s187 := sound_fn (fn := Tryz.f187) (T := [(91, s91), (179, s179)]) (M := MM) (ann := a187) (by kernel_rfl) (by kernel_rfl) (by kernel_rfl) (by kernel_rfl) mix (.cons d91 (.cons d179 .nil)) (e187 s91 s179)
set_option maxRecDepth 100000 in
theorem e195 (s187 : FS) : S195 s187 = fnF Tryz.prog [(187, s187)] MM Tryz.f195 a195 := by kernel_rfl
theorem d195 : SoundF Tryz.prog 195 s195 := sound_fn (fn := Tryz.f195) (T := [(187, s187)]) (M := MM) (ann := a195) (by kernel_rfl) (by kernel_rfl) (by kernel_rfl) (by kernel_rfl) mix (.cons d187 .nil) (e195 s187)
set_option maxRecDepth 100000 in
theorem e269 : S269 = fnF Tryz.prog [] MM Tryz.f269 a269 := by kernel_rfl
theorem d269 : SoundF Tryz.prog 269 s269 := sound_fn (fn := Tryz.f269) (T := []) (M := MM) (ann := a269) (by kernel_rfl) (by kernel_rfl) (by kernel_rfl) (by kernel_rfl) mix .nil (e269)
set_option maxRecDepth 100000 in
theorem e256 (s269 : FS) : S256 s269 = fnF Tryz.prog [(269, s269)] MM Tryz.f256 a256 := by kernel_rfl
theorem d256 : SoundF Tryz.prog 256 s256 := sound_fn (fn := Tryz.f256) (T := [(269, s269)]) (M := MM) (ann := a256) (by kernel_rfl) (by kernel_rfl) (by kernel_rfl) (by kernel_rfl) mix (.cons d269 .nil) (e256 s269)
set_option maxRecDepth 100000 in
theorem e196 : S196 = fnF Tryz.prog [] MM Tryz.f196 a196 := by kernel_rfl
theorem d196 : SoundF Tryz.prog 196 s196 := sound_fn (fn := Tryz.f196) (T := []) (M := MM) (ann := a196) (by kernel_rfl) (by kernel_rfl) (by kernel_rfl) (by kernel_rfl) mix .nil (e196)
set_option maxRecDepth 100000 in
theorem e180 (s91 s110 : FS) : S180 s91 s110 = fnF Tryz.prog [(91, s91), (110, s110)] MM Tryz.f180 a180 := by kernel_rfl
theorem d180 : SoundF Tryz.prog 180 s180 := sound_fn (fn := Tryz.f180) (T := [(91, s91), (110, s110)]) (M := MM) (ann := a180) (by kernel_rfl) (by kernel_rfl) (by kernel_rfl) (by kernel_rfl) mix (.cons d91 (.cons d110 .nil)) (e180 s91 s110)
set_option maxRecDepth 100000 in
theorem e268 : S268 = fnF Tryz.prog [] MM Tryz.f268 a268 := by kernel_rfl
theorem d268 : SoundF Tryz.prog 268 s268 := sound_fn (fn := Tryz.f268) (T := []) (M := MM) (ann := a268) (by kernel_rfl) (by kernel_rfl) (by kernel_rfl) (by kernel_rfl) mix .nil (e268)
set_option maxRecDepth 100000 in
theorem e266 (s269 s268 : FS) : S266 s269 s268 = fnF Tryz.prog [(269, s269), (268, s268)] MM Tryz.f266 a266 := by kernel_rfl
theorem d266 : SoundF Tryz.prog 266 s266 := sound_fn (fn := Tryz.f266) (T := [(269, s269), (268, s268)]) (M := MM) (ann := a266) (by kernel_rfl) (by kernel_rfl) (by kernel_rfl) (by kernel_rfl) mix (.cons d269 (.cons d268 .nil)) (e266 s269 s268)
set_option maxRecDepth 100000 in
theorem e240 (s256 s110 s90 s196 s180 s109 s266 : FS) : S240 s256 s110 s90 s196 s180 s109 s266 = fnF Tryz.prog [(256, s256), (110, s110), (90, s90), (196, s196), (180, s180), (109, s109), (266, s266)] MM Tryz.f240 a240 := by kernel_rfl
theorem d240 : SoundF Tryz.prog 240 s240 := sound_fn (fn := Tryz.f240) (T := [(256, s256), (110, s110), (90, s90), (196, s196), (180, s180), (109, s109), (266, s266)]) (M := MM) (ann := a240) (by kernel_rfl) (by kernel_rfl) (by kernel_rfl) (by kernel_rfl) mix (.cons d256 (.cons d110 (.cons d90 (.cons d196 (.cons d180 (.cons d109 (.cons d266 .nil))))))) (e240 s256 s110 s90 s196 s180 s109 s266)
set_option maxRecDepth 100000 in
theorem e188 (s195 s240 : FS) : S188 s195 s240 = fnF Tryz.prog [(195, s195), (240, s240)] MM Tryz.f188 a188 := by kernel_rfl
theorem d188 : SoundF Tryz.prog 188 s188 := sound_fn (fn := Tryz.f188) (T := [(195, s195), (240, s240)]) (M := MM) (ann := a188) (by kernel_rfl) (by kernel_rfl) (by kernel_rfl) (by kernel_rfl) mix (.cons d195 (.cons d240 .nil)) (e188 s195 s240)
set_option maxRecDepth 100000 in
theorem e267 : S267 = fnF Tryz.prog [] MM Tryz.f267 a267 := by kernel_rfl
theorem d267 : SoundF Tryz.prog 267 s267 := sound_fn (fn := Tryz.f267) (T := []) (M := MM) (ann := a267) (by kernel_rfl) (by kernel_rfl) (by kernel_rfl) (by kernel_rfl) mix .nil (e267)
set_option maxRecDepth 100000 in
theorem e241 (s267 : FS) : S241 s267 = fnF Tryz.prog [(267, s267)] MM Tryz.f241 a241 := by kernel_rfl
theorem d241 : SoundF Tryz.prog 241 s241 := sound_fn (fn := Tryz.f241) (T := [(267, s267)]) (M := MM) (ann := a241) (by kernel_rfl) (by kernel_rfl) (by kernel_rfl) (by kernel_rfl) mix (.cons d267 .nil) (e241 s267)
set_option maxRecDepth 100000 in
theorem e189 (s241 : FS) : S189 s241 = fnF Tryz.prog [(241, s241)] MM Tryz.f189 a189 := by kernel_rfl
theorem d189 : SoundF Tryz.prog 189 s189 := sound_fn (fn := Tryz.f189) (T := [(241, s241)]) (M := MM) (ann := a189) (by kernel_rfl) (by kernel_rfl) (by kernel_rfl) (by kernel_rfl) mix (.cons d241 .nil) (e189 s241)
set_option maxRecDepth 100000 in
theorem e190 : S190 = fnF Tryz.prog [] MM Tryz.f190 a190 := by kernel_rfl
theorem d190 : SoundF Tryz.prog 190 s190 := sound_fn (fn := Tryz.f190) (T := []) (M := MM) (ann := a190) (by kernel_rfl) (by kernel_rfl) (by kernel_rfl) (by kernel_rfl) mix .nil (e190)
set_option maxRecDepth 100000 in
theorem e242 : S242 = fnF Tryz.prog [] MM Tryz.f242 a242 := by kernel_rfl
theorem d242 : SoundF Tryz.prog 242 s242 := sound_fn (fn := Tryz.f242) (T := []) (M := MM) (ann := a242) (by kernel_rfl) (by kernel_rfl) (by kernel_rfl) (by kernel_rfl) mix .nil (e242)
set_option maxRecDepth 100000 in
theorem e191 (s42 s242 : FS) : S191 s42 s242 = fnF Tryz.prog [(42, s42), (242, s242)] MM Tryz.f191 a191 := by kernel_rfl
theorem d191 : SoundF Tryz.prog 191 s191 := sound_fn (fn := Tryz.f191) (T := [(42, s42), (242, s242)]) (M := MM) (ann := a191) (by kernel_rfl) (by kernel_rfl) (by kernel_rfl) (by kernel_rfl) mix (.cons d42 (.cons d242 .nil)) (e191 s42 s242)
set_option maxRecDepth 100000 in
theorem e243 (s189 : FS) : S243 s189 = fnF Tryz.prog [(189, s189)] MM Tryz.f243 a243 := by kernel_rfl
theorem d243 : SoundF Tryz.prog 243 s243 := sound_fn (fn := Tryz.f243) (T := [(189, s189)]) (M := MM) (ann := a243) (by kernel_rfl) (by kernel_rfl) (by kernel_rfl) (by kernel_rfl) mix (.cons d189 .nil) (e243 s189)
set_option maxRecDepth 100000 in
theorem e192 (s243 : FS) : S192 s243 = fnF Tryz.prog [(243, s243)] MM Tryz.f192 a192 := by kernel_rfl
theorem d192 : SoundF Tryz.prog 192 s192 := sound_fn (fn := Tryz.f192) (T := [(243, s243)]) (M := MM) (ann := a192) (by kernel_rfl) (by kernel_rfl) (by kernel_rfl) (by kernel_rfl) mix (.cons d243 .nil) (e192 s243)
set_option maxRecDepth 100000 in
theorem e244 (s189 s42 : FS) : S244 s189 s42 = fnF Tryz.prog [(189, s189), (42, s42)] MM Tryz.f244 a244 := by kernel_rfl
theorem d244 : SoundF Tryz.prog 244 s244 := sound_fn (fn := Tryz.f244) (T := [(189, s189), (42, s42)]) (M := MM) (ann := a244) (by kernel_rfl) (by kernel_rfl) (by kernel_rfl) (by kernel_rfl) mix (.cons d189 (.cons d42 .nil)) (e244 s189 s42)
set_option maxRecDepth 100000 in
theorem e193 (s244 : FS) : S193 s244 = fnF Tryz.prog [(244, s244)] MM Tryz.f193 a193 := by kernel_rfl
theorem d193 : SoundF Tryz.prog 193 s193 := sound_fn (fn := Tryz.f193) (T := [(244, s244)]) (M := MM) (ann := a193) (by kernel_rfl) (by kernel_rfl) (by kernel_rfl) (by kernel_rfl) mix (.cons d244 .nil) (e193 s244)
set_option maxRecDepth 100000 in
theorem e245 (s268 : FS) : S245 s268 = fnF Tryz.prog [(268, s268)] MM Tryz.f245 a245 := by kernel_rfl
theorem d245 : SoundF Tryz.prog 245 s245 := sound_fn (fn := Tryz.f245) (T := [(268, s268)]) (M := MM) (ann := a245) (by kernel_rfl) (by kernel_rfl) (by kernel_rfl) (by kernel_rfl) mix (.cons d268 .nil) (e245 s268)
set_option maxRecDepth 100000 in
theorem e200 (s180 : FS) : S200 s180 = fnF Tryz.prog [(180, s180)] MM Tryz.f200 a200 := by kernel_rfl
theorem d200 : SoundF Tryz.prog 200 s200 := sound_fn (fn := Tryz.f200) (T := [(180, s180)]) (M := MM) (ann := a200) (by kernel_rfl) (by kernel_rfl) (by kernel_rfl) (by kernel_rfl) mix (.cons d180 .nil) (e200 s180)
set_option maxRecDepth 100000 in
theorem e247 (s91 s93 s200 s110 s180 : FS) : S247 s91 s93 s200 s110 s180 = fnF Tryz.prog [(91, s91), (93, s93), (200, s200), (110, s110), (180, s180)] MM Tryz.f247 a247 := by kernel_rfl
theorem d247 : SoundF Tryz.prog 247 s247 := sound_fn (fn := Tryz.f247) (T := [(91, s91), (93, s93), (200, s200), (110, s110), (180, s180)]) (M := MM) (ann := a247) (by kernel_rfl) (by kernel_rfl) (by kernel_rfl) (by kernel_rfl) mix (.cons d91 (.cons d93 (.cons d200 (.cons d110 (.cons d180 .nil))))) (e247 s91 s93 s200 s110 s180)
set_option maxRecDepth 100000 in
theorem e246 : S246 = fnF Tryz.prog [] MM Tryz.f246 a246 := by kernel_rfl
theorem d246 : SoundF Tryz.prog 246 s246 := sound_fn (fn := Tryz.f246) (T := []) (M := MM) (ann := a246) (by kernel_rfl) (by kernel_rfl) (by kernel_rfl) (by kernel_rfl) mix .nil (e246)
set_option maxRecDepth 100000 in
theorem e201 (s91 s247 s246 : FS) : S201 s91 s247 s246 = fnF Tryz.prog [(91, s91), (247, s247), (246, s246)] MM Tryz.f201 a201 := by kernel_rfl
theorem d201 : SoundF Tryz.prog 201 s201 := sound_fn (fn := Tryz.f201) (T := [(91, s91), (247, s247), (246, s246)]) (M := MM) (ann := a201) (by kernel_rfl) (by kernel_rfl) (by kernel_rfl) (by kernel_rfl) mix (.cons d91 (.cons d247 (.cons d246 .nil))) (e201 s91 s247 s246)
set_option maxRecDepth 100000 in
theorem e287 : S287 = fnF Tryz.prog [] MM Tryz.f287 a287 := by kernel_rfl
theorem d287 : SoundF Tryz.prog 287 s287 := sound_fn (fn := Tryz.f287) (T := []) (M := MM) (ann := a287) (by kernel_rfl) (by kernel_rfl) (by kernel_rfl) (by kernel_rfl) mix .nil (e287)
set_option maxRecDepth 100000 in
theorem e281 (s287 : FS) : S281 s287 = fnF Tryz.prog [(287, s287)] MM Tryz.f281 a281 := by kernel_rfl
theorem d281 : SoundF Tryz.prog 281 s281 := sound_fn (fn := Tryz.f281) (T := [(287, s287)]) (M := MM) (ann := a281) (by kernel_rfl) (by kernel_rfl) (by kernel_rfl) (by kernel_rfl) mix (.cons d287 .nil) (e281 s287)
set_option maxRecDepth 100000 in
theorem e275 (s281 : FS) : S275 s281 = fnF Tryz.prog [(281, s281)] MM Tryz.f275 a275 := by kernel_rfl
theorem d275 : SoundF Tryz.prog 275 s275 := sound_fn (fn := Tryz.f275) (T := [(281, s281)]) (M := MM) (ann := a275) (by kernel_rfl) (by kernel_rfl) (by kernel_rfl) (by kernel_rfl) mix (.cons d281 .nil) (e275 s281)
theorem d276 : SoundF Tryz.prog 276 s276 := sound_stub (fn := Tryz.f276) (by kernel_rfl) (by kernel_rfl) (by kernel_rfl)
theorem d277 : SoundF Tryz.prog 277 s277 := sound_stub (fn := Tryz.f277) (by kernel_rfl) (by kernel_rfl) (by kernel_rfl)
theorem d278 : SoundF Tryz.prog 278 s278 := sound_stub (fn := Tryz.f278) (by kernel_rfl) (by kernel_rfl) (by kernel_rfl)
theorem d279 : SoundF Tryz.prog 279 s279 := sound_stub (fn := Tryz.f279) (by kernel_rfl) (by kernel_rfl) (by kernel_rfl)
theorem d280 : SoundF Tryz.prog 280 s280 := sound_stub (fn := Tryz.f280) (by kernel_rfl) (by kernel_rfl) (by kernel_rfl)
theorem d282 : SoundF Tryz.prog 282 s282 := sound_stub (fn := Tryz.f282) (by kernel_rfl) (by kernel_rfl) (by kernel_rfl)
theorem d283 : SoundF Tryz.prog 283 s283 := sound_stub (fn := Tryz.f283) (by kernel_rfl) (by kernel_rfl) (by kernel_rfl)
set_option maxRecDepth 100000 in
theorem e274 (s275 s276 s277 s278 s279 s280 s281 s282 s283 s274 : FS) : S274 s275 s276 s277 s278 s279 s280 s281 s282 s283 s274 = fnF Tryz.prog [(275, s275), (276, s276), (277, s277), (278, s278), (279, s279), (280, s280), (281, s281), (282, s282), (283, s283), (274, s274)] MM Tryz.f274 a274 := by kernel_rfl
theorem d274 : SoundF Tryz.prog 274 s274 := sound_fn (fn := Tryz.f274) (T := [(275, s275), (276, s276), (277, s277), (278, s278), (279, s279), (280, s280), (281, s281), (282, s282), (283, s283), (274, sx)]) (M := MM) (ann := a274) (by kernel_rfl) (by kernel_rfl) (by kernel_rfl) (by kernel_rfl) mix (.cons d275 (.cons d276 (.cons d277 (.cons d278 (.cons d279 (.cons d280 (.cons d281 (.cons d282 (.cons d283 (.cons (sound_stub (fn := Tryz.f274) (by kernel_rfl) (by kernel_rfl) (by kernel_rfl)) .nil)))))))))) (e274 s275 s276 s277 s278 s279 s280 s281 s282 s283 sx)
set_option maxRecDepth 100000 in
theorem e273 (s168 s274 : FS) : S273 s168 s274 = fnF Tryz.prog [(168, s168), (274, s274)] MM Tryz.f273 a273 := by kernel_rfl
theorem d273 : SoundF Tryz.prog 273 s273 := sound_fn (fn := Tryz.f273) (T := [(168, s168), (274, s274)]) (M := MM) (ann := a273) (by kernel_rfl) (by kernel_rfl) (by kernel_rfl) (by kernel_rfl) mix (.cons d168 (.cons d274 .nil)) (e273 s168 s274)
set_option maxRecDepth 100000 in
theorem e270 (s42 s273 : FS) : S270 s42 s273 = fnF Tryz.prog [(42, s42), (273, s273)] MM Tryz.f270 a270 := by kernel_rfl
theorem d270 : SoundF Tryz.prog 270 s270 := sound_fn (fn := Tryz.f270) (T := [(42, s42), (273, s273)]) (M := MM) (ann := a270) (by kernel_rfl) (by kernel_rfl) (by kernel_rfl) (by kernel_rfl) mix (.cons d42 (.cons d273 .nil)) (e270 s42 s273)
set_option maxRecDepth 100000 in
theorem e248 (s269 s270 : FS) : S248 s269 s270 = fnF Tryz.prog [(269, s269), (270, s270)] MM Tryz.f248 a248 := by kernel_rfl
theorem d248 : SoundF Tryz.prog 248 s248 := sound_fn (fn := Tryz.f248) (T := [(269, s269), (270, s270)]) (M := MM) (ann := a248) (by kernel_rfl) (by kernel_rfl) (by kernel_rfl) (by kernel_rfl) mix (.cons d269 (.cons d270 .nil)) (e248 s269 s270)
set_option maxRecDepth 100000 in
theorem e202 (s187 s91 s248 s200 s189 : FS) : S202 s187 s91 s248 s200 s189 = fnF Tryz.prog [(187, s187), (91, s91), (248, s248), (200, s200), (189, s189)] MM Tryz.f202 a202 := by kernel_rfl
theorem d202 : SoundF Tryz.prog 202 s202 := sound_fn (fn := Tryz.f202) (T := [(187, s187), (91, s91), (248, s248), (200, s200), (189, s189)]) (M := MM) (ann := a202) (by kernel_rfl) (by kernel_rfl) (by kernel_rfl) (by kernel_rfl) mix (.cons d187 (.cons d91 (.cons d248 (.cons d200 (.cons d189 .nil))))) (e202 s187 s91 s248 s200 s189)
set_option maxRecDepth 100000 in
theorem e194 (s91 s245 s110 s109 s201 s202 s188 : FS) : S194 s91 s245 s110 s109 s201 s202 s188 = fnF Tryz.prog [(91, s91), (245, s245), (110, s110), (109, s109), (201, s201), (202, s202), (188, s188)] MM Tryz.f194 a194 := by kernel_rfl
theorem d194 : SoundF Tryz.prog 194 s194 := sound_fn (fn := Tryz.f194) (T := [(91, s91), (245, s245), (110, s110), (109, s109), (201, s201), (202, s202), (188, s188)]) (M := MM) (ann := a194) (by kernel_rfl) (by kernel_rfl) (by kernel_rfl) (by kernel_rfl) mix (.cons d91 (.cons d245 (.cons d110 (.cons d109 (.cons d201 (.cons d202 (.cons d188 .nil))))))) (e194 s91 s245 s110 s109 s201 s202 s188)
set_option maxRecDepth 100000 in
theorem e182 : S182 = fnF Tryz.prog [] MM Tryz.f182 a182 := by kernel_rfl
theorem d182 : SoundF Tryz.prog 182 s182 := sound_fn (fn := Tryz.f182) (T := []) (M := MM) (ann := a182) (by kernel_rfl) (by kernel_rfl) (by kernel_rfl) (by kernel_rfl) mix .nil (e182)
set_option maxRecDepth 100000 in
theorem e153 (s187 s188 s189 s190 s191 s192 s193 s194 s91 s180 s195 s196 s182 : FS) : S153 s187 s188 s189 s190 s191 s192 s193 s194 s91 s180 s195 s196 s182 = fnF Tryz.prog [(187, s187), (188, s188), (189, s189), (190, s190), (191, s191), (192, s192), (193, s193), (194, s194), (91, s91), (180, s180), (195, s195), (196, s196), (182, s182)] MM Tryz.f153 a153 := by kernel_rfl
theorem d153 : SoundF Tryz.prog 153 s153 := sound_fn (fn := Tryz.f153) (T := [(187, s187), (188, s188), (189, s189), (190, s190), (191, s191), (192, s192), (193, s193), (194, s194), (91, s91), (180, s180), (195, s195), (196, s196), (182, s182)]) (M := MM) (ann := a153) (by kernel_rfl) (by kernel_rfl) (by kernel_rfl) (by kernel_rfl) mix (.cons d187 (.cons d188 (.cons d189 (.cons d190 (.cons d191 (.cons d192 (.cons d193 (.cons d194 (.cons d91 (.cons d180 (.cons d195 (.cons d196 (.cons d182 .nil))))))))))))) (e153 s187 s188 s189 s190 s191 s192 s193 s194 s91 s180 s195 s196 s182)
set_option maxRecDepth 100000 in
theorem e234 : S234 = fnF Tryz.prog [] MM Tryz.f234 a234 := by kernel_rfl
theorem d234 : SoundF Tryz.prog 234 s234 := sound_fn (fn := Tryz.f234) (T := []) (M := MM) (ann := a234) (by kernel_rfl) (by kernel_rfl) (by kernel_rfl) (by kernel_rfl) mix .nil (e234)
set_option maxRecDepth 100000 in
theorem e265 (s79 s102 : FS) : S265 s79 s102 = fnF Tryz.prog [(79, s79), (102, s102)] MM Tryz.f265 a265 := by kernel_rfl
theorem d265 : SoundF Tryz.prog 265 s265 := sound_fn (fn := Tryz.f265) (T := [(79, s79), (102, s102)]) (M := MM) (ann := a265) (by kernel_rfl) (by kernel_rfl) (by kernel_rfl) (by kernel_rfl) mix (.cons d79 (.cons d102 .nil)) (e265 s79 s102)
set_option maxRecDepth 100000 in
theorem e233 (s89 s49 s169 s265 : FS) : S233 s89 s49 s169 s265 = fnF Tryz.prog [(89, s89), (49, s49), (169, s169), (265, s265)] MM Tryz.f233 a233 := by kernel_rfl
theorem d233 : SoundF Tryz.prog 233 s233 := sound_fn (fn := Tryz.f233) (T := [(89, s89), (49, s49), (169, s169), (265, s265)]) (M := MM) (ann := a233) (by kernel_rfl) (by kernel_rfl) (by kernel_rfl) (by kernel_rfl) mix (.cons d89 (.cons d49 (.cons d169 (.cons d265 .nil)))) (e233 s89 s49 s169 s265)
set_option maxRecDepth 100000 in
theorem e235 (s49 s89 s169 s265 : FS) : S235 s49 s89 s169 s265 = fnF Tryz.prog [(49, s49), (89, s89), (169, s169), (265, s265)] MM Tryz.f235 a235 := by kernel_rfl
theorem d235 : SoundF Tryz.prog 235 s235 := sound_fn (fn := Tryz.f235) (T := [(49, s49), (89, s89), (169, s169), (265, s265)]) (M := MM) (ann := a235) (by kernel_rfl) (by kernel_rfl) (by kernel_rfl) (by kernel_rfl) mix (.cons d49 (.cons d89 (.cons d169 (.cons d265 .nil)))) (e235 s49 s89 s169 s265)
set_option maxRecDepth 100000 in
theorem e236 (s103 : FS) : S236 s103 = fnF Tryz.prog [(103, s103)] MM Tryz.f236 a236 := by kernel_rfl
theorem d236 : SoundF Tryz.prog 236 s236 := sound_fn (fn := Tryz.f236) (T := [(103, s103)]) (M := MM) (ann := a236) (by kernel_rfl) (by kernel_rfl) (by kernel_rfl) (by kernel_rfl) mix (.cons d103 .nil) (e236 s103)
set_option maxRecDepth 100000 in
theorem e183 (s234 s233 s108 s90 s45 s53 s50 s109 s235 s236 : FS) : S183 s234 s233 s108 s90 s45 s53 s50 s109 s235 s236 = fnF Tryz.prog [(234, s234), (233, s233), (108, s108), (90, s90), (45, s45), (53, s53), (50, s50), (109, s109), (235, s235), (236, s236)] MM Tryz.f183 a183 := by kernel_rfl
theorem d183 : SoundF Tryz.prog 183 s183 := sound_fn (fn := Tryz.f183) (T := [(234, s234), (233, s233), (108, s108), (90, s90), (45, s45), (53, s53), (50, s50), (109, s109), (235, s235), (236, s236)]) (M := MM) (ann := a183) (by kernel_rfl) (by kernel_rfl) (by kernel_rfl) (by kernel_rfl) mix (.cons d234 (.cons d233 (.cons d108 (.cons d90 (.cons d45 (.cons d53 (.cons d50 (.cons d109 (.cons d235 (.cons d236 .nil)))))))))) (e183 s234 s233 s108 s90 s45 s53 s50 s109 s235 s236)
set_option maxRecDepth 100000 in
theorem e184 : S184 = fnF Tryz.prog [] MM Tryz.f184 a184 := by kernel_rfl
theorem d184 : SoundF Tryz.prog 184 s184 := sound_fn (fn := Tryz.f184) (T := []) (M := MM) (ann := a184) (by kernel_rfl) (by kernel_rfl) (by kernel_rfl) (by kernel_rfl) mix .nil (e184)
set_option maxRecDepth 100000 in
theorem e203 (s98 : FS) : S203 s98 = fnF Tryz.prog [(98, s98)] MM Tryz.f203 a203 := by kernel_rfl
theorem d203 : SoundF Tryz.prog 203 s203 := sound_fn (fn := Tryz.f203) (T := [(98, s98)]) (M := MM) (ann := a203) (by kernel_rfl) (by kernel_rfl) (by kernel_rfl) (by kernel_rfl) mix (.cons d98 .nil) (e203 s98)
set_option maxRecDepth 100000 in
theorem e185 (s86 s87 s203 : FS) : S185 s86 s87 s203 = fnF Tryz.prog [(86, s86), (87, s87), (203, s203)] MM Tryz.f185 a185 := by kernel_rfl
theorem d185 : SoundF Tryz.prog 185 s185 := sound_fn (fn := Tryz.f185) (T := [(86, s86), (87, s87), (203, s203)]) (M := MM) (ann := a185) (by kernel_rfl) (by kernel_rfl) (by kernel_rfl) (by kernel_rfl) mix (.cons d86 (.cons d87 (.cons d203 .nil))) (e185 s86 s87 s203)
set_option maxRecDepth 100000 in
theorem e151 (s183 s53 s184 s108 s109 s185 : FS) : S151 s183 s53 s184 s108 s109 s185 = fnF Tryz.prog [(183, s183), (53, s53), (184, s184), (108, s108), (109, s109), (185, s185)] MM Tryz.f151 a151 := by kernel_rfl
theorem d151 : SoundF Tryz.prog 151 s151 := sound_fn (fn := Tryz.f151) (T := [(183, s183), (53, s53), (184, s184), (108, s108), (109, s109), (185, s185)]) (M := MM) (ann := a151) (by kernel_rfl) (by kernel_rfl) (by kernel_rfl) (by kernel_rfl) mix (.cons d183 (.cons d53 (.cons d184 (.cons d108 (.cons d109 (.cons d185 .nil)))))) (e151 s183 s53 s184 s108 s109 s185)
set_option maxRecDepth 100000 in
theorem e114 (s149 s153 s151 : FS) : S114 s149 s153 s151 = fnF Tryz.prog [(149, s149), (153, s153), (151, s151)] MM Tryz.f114 a114 := by kernel_rfl
theorem d114 : SoundF Tryz.prog 114 s114 := sound_fn (fn := Tryz.f114) (T := [(149, s149), (153, s153), (151, s151)]) (M := MM) (ann := a114) (by kernel_rfl) (by kernel_rfl) (by kernel_rfl) (by kernel_rfl) mix (.cons d149 (.cons d153 (.cons d151 .nil))) (e114 s149 s153 s151)
set_option maxRecDepth 100000 in
theorem e237 : S237 = fnF Tryz.prog [] MM Tryz.f237 a237 := by kernel_rfl
theorem d237 : SoundF Tryz.prog 237 s237 := sound_fn (fn := Tryz.f237) (T := []) (M := MM) (ann := a237) (by kernel_rfl) (by kernel_rfl) (by kernel_rfl) (by kernel_rfl) mix .nil (e237)
set_option maxRecDepth 100000 in
theorem e238 : S238 = fnF Tryz.prog [] MM Tryz.f238 a238 := by kernel_rfl
theorem d238 : SoundF Tryz.prog 238 s238 := sound_fn (fn := Tryz.f238) (T := []) (M := MM) (ann := a238) (by kernel_rfl) (by kernel_rfl) (by kernel_rfl) (by kernel_rfl) mix .nil (e238)
set_option maxRecDepth 100000 in
theorem e239 (s89 : FS) : S239 s89 = fnF Tryz.prog [(89, s89)] MM Tryz.f239 a239 := by kernel_rfl
theorem d239 : SoundF Tryz.prog 239 s239 := sound_fn (fn := Tryz.f239) (T := [(89, s89)]) (M := MM) (ann := a239) (by kernel_rfl) (by kernel_rfl) (by kernel_rfl) (by kernel_rfl) mix (.cons d89 .nil) (e239 s89)
set_option maxRecDepth 100000 in
theorem e186 (s237 s238 s239 s198 s78 : FS) : S186 s237 s238 s239 s198 s78 = fnF Tryz.prog [(237, s237), (238, s238), (239, s239), (198, s198), (78, s78)] MM Tryz.f186 a186 := by kernel_rfl
theorem d186 : SoundF Tryz.prog 186 s186 := sound_fn (fn := Tryz.f186) (T := [(237, s237), (238, s238), (239, s239), (198, s198), (78, s78)]) (M := MM) (ann := a186) (by kernel_rfl) (by kernel_rfl) (by kernel_rfl) (by kernel_rfl) mix (.cons d237 (.cons d238 (.cons d239 (.cons d198 (.cons d78 .nil))))) (e186 s237 s238 s239 s198 s78)
set_option maxRecDepth 100000 in
theorem e163 (s83 : FS) : S163 s83 = fnF Tryz.prog [(83, s83)] MM Tryz.f163 a163 := by kernel_rfl
theorem d163 : SoundF Tryz.prog 163 s163 := sound_fn (fn := Tryz.f163) (T := [(83, s83)]) (M := MM) (ann := a163) (by kernel_rfl) (by kernel_rfl) (by kernel_rfl) (by kernel_rfl) mix (.cons d83 .nil) (e163 s83)
set_option maxRecDepth 100000 in
theorem e152 (s186 s163 : FS) : S152 s186 s163 = fnF Tryz.prog [(186, s186), (163, s163)] MM Tryz.f152 a152 := by kernel_rfl
theorem d152 : SoundF Tryz.prog 152 s152 := sound_fn (fn := Tryz.f152) (T := [(186, s186), (163, s163)]) (M := MM) (ann := a152) (by kernel_rfl) (by kernel_rfl) (by kernel_rfl) (by kernel_rfl) mix (.cons d186 (.cons d163 .nil)) (e152 s186 s163)
set_option maxRecDepth 100000 in
theorem e113 (s152 : FS) : S113 s152 = fnF Tryz.prog [(152, s152)] MM Tryz.f113 a113 := by kernel_rfl
theorem d113 : SoundF Tryz.prog 113 s113 := sound_fn (fn := Tryz.f113) (T := [(152, s152)]) (M := MM) (ann := a113) (by kernel_rfl) (by kernel_rfl) (by kernel_rfl) (by kernel_rfl) mix (.cons d152 .nil) (e113 s152)
set_option maxRecDepth 100000 in
theorem e62 (s61 s112 s114 s113 : FS) : S62 s61 s112 s114 s113 = fnF Tryz.prog [(61, s61), (112, s112), (114, s114), (113, s113)] MM Tryz.f62 a62 := by kernel_rfl
theorem d62 : SoundF Tryz.prog 62 s62 := sound_fn (fn := Tryz.f62) (T := [(61, s61), (112, s112), (114, s114), (113, s113)]) (M := MM) (ann := a62) (by kernel_rfl) (by kernel_rfl) (by kernel_rfl) (by kernel_rfl) mix (.cons d61 (.cons d112 (.cons d114 (.cons d113 .nil)))) (e62 s61 s112 s114 s113)
set_option maxRecDepth 100000 in
theorem e40 : S40 = fnF Tryz.prog [] MM Tryz.f40 a40 := by kernel_rfl
theorem d40 : SoundF Tryz.prog 40 s40 := sound_fn (fn := Tryz.f40) (T := []) (M := MM) (ann := a40) (by kernel_rfl) (by kernel_rfl) (by kernel_rfl) (by kernel_rfl) mix .nil (e40)
set_option maxRecDepth 100000 in
theorem e41 : S41 = fnF Tryz.prog [] MM Tryz.f41 a41 := by kernel_rfl
theorem d41 : SoundF Tryz.prog 41 s41 := sound_fn (fn := Tryz.f41) (T := []) (M := MM) (ann := a41) (by kernel_rfl) (by kernel_rfl) (by kernel_rfl) (by kernel_rfl) mix .nil (e41)
set_option maxRecDepth 100000 in
theorem e122 (s41 s163 : FS) : S122 s41 s163 = fnF Tryz.prog [(41, s41), (163, s163)] MM Tryz.f122 a122 := by kernel_rfl
theorem d122 : SoundF Tryz.prog 122 s122 := sound_fn (fn := Tryz.f122) (T := [(41, s41), (163, s163)]) (M := MM) (ann := a122) (by kernel_rfl) (by kernel_rfl) (by kernel_rfl) (by kernel_rfl) mix (.cons d41 (.cons d163 .nil)) (e122 s41 s163)
set_option maxRecDepth 100000 in
theorem e164 : S164 = fnF Tryz.prog [] MM Tryz.f164 a164 := by kernel_rfl
theorem d164 : SoundF Tryz.prog 164 s164 := sound_fn (fn := Tryz.f164) (T := []) (M := MM) (ann := a164) (by kernel_rfl) (by kernel_rfl) (by kernel_rfl) (by kernel_rfl) mix .nil (e164)
set_option maxRecDepth 100000 in
theorem e123 (s41 s164 : FS) : S123 s41 s164 = fnF Tryz.prog [(41, s41), (164, s164)] MM Tryz.f123 a123 := by kernel_rfl
theorem d123 : SoundF Tryz.prog 123 s123 := sound_fn (fn := Tryz.f123) (T := [(41, s41), (164, s164)]) (M := MM) (ann := a123) (by kernel_rfl) (by kernel_rfl) (by kernel_rfl) (by kernel_rfl) mix (.cons d41 (.cons d164 .nil)) (e123 s41 s164)
set_option maxRecDepth 100000 in
theorem e208 (s190 : FS) : S208 s190 = fnF Tryz.prog [(190, s190)] MM Tryz.f208 a208 := by kernel_rfl
theorem d208 : SoundF Tryz.prog 208 s208 := sound_fn (fn := Tryz.f208) (T := [(190, s190)]) (M := MM) (ann := a208) (by kernel_rfl) (by kernel_rfl) (by kernel_rfl) (by kernel_rfl) mix (.cons d190 .nil) (e208 s190)
set_option maxRecDepth 100000 in
theorem e250 (s91 s180 : FS) : S250 s91 s180 = fnF Tryz.prog [(91, s91), (180, s180)] MM Tryz.f250 a250 := by kernel_rfl
theorem d250 : SoundF Tryz.prog 250 s250 := sound_fn (fn := Tryz.f250) (T := [(91, s91), (180, s180)]) (M := MM) (ann := a250) (by kernel_rfl) (by kernel_rfl) (by kernel_rfl) (by kernel_rfl) mix (.cons d91 (.cons d180 .nil)) (e250 s91 s180)
set_option maxRecDepth 100000 in
theorem e209 (s250 s190 s196 : FS) : S209 s250 s190 s196 = fnF Tryz.prog [(250, s250), (190, s190), (196, s196)] MM Tryz.f209 a209 := by kernel_rfl
theorem d209 : SoundF Tryz.prog 209 s209 := sound_fn (fn := Tryz.f209) (T := [(250, s250), (190, s190), (196, s196)]) (M := MM) (ann := a209) (by kernel_rfl) (by kernel_rfl) (by kernel_rfl) (by kernel_rfl) mix (.cons d250 (.cons d190 (.cons d196 .nil))) (e209 s250 s190 s196)
theorem d251 : SoundF Tryz.prog 251 s251 := sound_stub (fn := Tryz.f251) (by kernel_rfl) (by kernel_rfl) (by kernel_rfl)
theorem d252 : SoundF Tryz.prog 252 s252 := sound_stub (fn := Tryz.f252) (by kernel_rfl) (by kernel_rfl) (by kernel_rfl)
set_option maxRecDepth 100000 in
theorem e210 (s192 s251 s193 s194 s252 : FS) : S210 s192 s251 s193 s194 s252 = fnF Tryz.prog [(192, s192), (251, s251), (193, s193), (194, s194), (252, s252)] MM Tryz.f210 a210 := by kernel_rfl
theorem d210 : SoundF Tryz.prog 210 s210 := sound_fn (fn := Tryz.f210) (T := [(192, s192), (251, s251), (193, s193), (194, s194), (252, s252)]) (M := MM) (ann := a210) (by kernel_rfl) (by kernel_rfl) (by kernel_rfl) (by kernel_rfl) mix (.cons d192 (.cons d251 (.cons d193 (.cons d194 (.cons d252 .nil))))) (e210 s192 s251 s193 s194 s252)
set_option maxRecDepth 100000 in
theorem e253 : S253 = fnF Tryz.prog [] MM Tryz.f253 a253 := by kernel_rfl
theorem d253 : SoundF Tryz.prog 253 s253 := sound_fn (fn := Tryz.f253) (T := []) (M := MM) (ann := a253) (by kernel_rfl) (by kernel_rfl) (by kernel_rfl) (by kernel_rfl) mix .nil (e253)
set_option maxRecDepth 100000 in
theorem e211 (s253 s200 s91 s196 s247 s246 : FS) : S211 s253 s200 s91 s196 s247 s246 = fnF Tryz.prog [(253, s253), (200, s200), (91, s91), (196, s196), (247, s247), (246, s246)] MM Tryz.f211 a211 := by kernel_rfl
theorem d211 : SoundF Tryz.prog 211 s211 := sound_fn (fn := Tryz.f211) (T := [(253, s253), (200, s200), (91, s91), (196, s196), (247, s247), (246, s246)]) (M := MM) (ann := a211) (by kernel_rfl) (by kernel_rfl) (by kernel_rfl) (by kernel_rfl) mix (.cons d253 (.cons d200 (.cons d91 (.cons d196 (.cons d247 (.cons d246 .nil)))))) (e211 s253 s200 s91 s196 s247 s246)
theorem d254 : SoundF Tryz.prog 254 s254 := sound_stub (fn := Tryz.f254) (by kernel_rfl) (by kernel_rfl) (by kernel_rfl)
set_option maxRecDepth 100000 in
theorem e255 (s269 s268 : FS) : S255 s269 s268 = fnF Tryz.prog [(269, s269), (268, s268)] MM Tryz.f255 a255 := by kernel_rfl
theorem d255 : SoundF Tryz.prog 255 s255 := sound_fn (fn := Tryz.f255) (T := [(269, s269), (268, s268)]) (M := MM) (ann := a255) (by kernel_rfl) (by kernel_rfl) (by kernel_rfl) (by kernel_rfl) mix (.cons d269 (.cons d268 .nil)) (e255 s269 s268)
set_option maxRecDepth 100000 in
theorem e212 (s91 s254 s240 s255 s202 s256 : FS) : S212 s91 s254 s240 s255 s202 s256 = fnF Tryz.prog [(91, s91), (254, s254), (240, s240), (255, s255), (202, s202), (256, s256)] MM Tryz.f212 a212 := by kernel_rfl
theorem d212 : SoundF Tryz.prog 212 s212 := sound_fn (fn := Tryz.f212) (T := [(91, s91), (254, s254), (240, s240), (255, s255), (202, s202), (256, s256)]) (M := MM) (ann := a212) (by kernel_rfl) (by kernel_rfl) (by kernel_rfl) (by kernel_rfl) mix (.cons d91 (.cons d254 (.cons d240 (.cons d255 (.cons d202 (.cons d256 .nil)))))) (e212 s91 s254 s240 s255 s202 s256)
theorem d213 : SoundF Tryz.prog 213 s213 := sound_stub (fn := Tryz.f213) (by kernel_rfl) (by kernel_rfl) (by kernel_rfl)
set_option maxRecDepth 100000 in
theorem e165 (s186 s208 s196 s182 s209 s210 s211 s212 s213 : FS) : S165 s186 s208 s196 s182 s209 s210 s211 s212 s213 = fnF Tryz.prog [(186, s186), (208, s208), (196, s196), (182, s182), (209, s209), (210, s210), (211, s211), (212, s212), (213, s213)] MM Tryz.f165 a165 := by kernel_rfl
theorem d165 : SoundF Tryz.prog 165 s165 := sound_fn (fn := Tryz.f165) (T := [(186, s186), (208, s208), (196, s196), (182, s182), (209, s209), (210, s210), (211, s211), (212, s212), (213, s213)]) (M := MM) (ann := a165) (by kernel_rfl) (by kernel_rfl) (by kernel_rfl) (by kernel_rfl) mix (.cons d186 (.cons d208 (.cons d196 (.cons d182 (.cons d209 (.cons d210 (.cons d211 (.cons d212 (.cons d213 .nil))))))))) (e165 s186 s208 s196 s182 s209 s210 s211 s212 s213)
set_option maxRecDepth 100000 in
theorem e124 (s149 s165 s151 : FS) : S124 s149 s165 s151 = fnF Tryz.prog [(149, s149), (165, s165), (151, s151)] MM Tryz.f124 a124 := by kernel_rfl
theorem d124 : SoundF Tryz.prog 124 s124 := sound_fn (fn := Tryz.f124) (T := [(149, s149), (165, s165), (151, s151)]) (M := MM) (ann := a124) (by kernel_rfl) (by kernel_rfl) (by kernel_rfl) (by kernel_rfl) mix (.cons d149 (.cons d165 (.cons d151 .nil))) (e124 s149 s165 s151)
set_option maxRecDepth 100000 in
theorem e70 (s122 s123 s124 s113 : FS) : S70 s122 s123 s124 s113 = fnF Tryz.prog [(122, s122), (123, s123), (124, s124), (113, s113)] MM Tryz.f70 a70 := by kernel_rfl
theorem d70 : SoundF Tryz.prog 70 s70 := sound_fn (fn := Tryz.f70) (T := [(122, s122), (123, s123), (124, s124), (113, s113)]) (M := MM) (ann := a70) (by kernel_rfl) (by kernel_rfl) (by kernel_rfl) (by kernel_rfl) mix (.cons d122 (.cons d123 (.cons d124 (.cons d113 .nil)))) (e70 s122 s123 s124 s113)
set_option maxRecDepth 100000 in
theorem e39 (s40 s41 s70 : FS) : S39 s40 s41 s70 = fnF Tryz.prog [(40, s40), (41, s41), (70, s70)] MM Tryz.f39 a39 := by kernel_rfl
theorem d39 : SoundF Tryz.prog 39 s39 := sound_fn (fn := Tryz.f39) (T := [(40, s40), (41, s41), (70, s70)]) (M := MM) (ann := a39) (by kernel_rfl) (by kernel_rfl) (by kernel_rfl) (by kernel_rfl) mix (.cons d40 (.cons d41 (.cons d70 .nil))) (e39 s40 s41 s70)
set_option maxRecDepth 100000 in
theorem e162 (s101 s55 : FS) : S162 s101 s55 = fnF Tryz.prog [(101, s101), (55, s55)] MM Tryz.f162 a162 := by kernel_rfl
theorem d162 : SoundF Tryz.prog 162 s162 := sound_fn (fn := Tryz.f162) (T := [(101, s101), (55, s55)]) (M := MM) (ann := a162) (by kernel_rfl) (by kernel_rfl) (by kernel_rfl) (by kernel_rfl) mix (.cons d101 (.cons d55 .nil)) (e162 s101 s55)
set_option maxRecDepth 100000 in
theorem e120 (s162 : FS) : S120 s162 = fnF Tryz.prog [(162, s162)] MM Tryz.f120 a120 := by kernel_rfl
theorem d120 : SoundF Tryz.prog 120 s120 := sound_fn (fn := Tryz.f120) (T := [(162, s162)]) (M := MM) (ann := a120) (by kernel_rfl) (by kernel_rfl) (by kernel_rfl) (by kernel_rfl) mix (.cons d162 .nil) (e120 s162)
set_option maxRecDepth 100000 in
theorem e115 (s120 : FS) : S115 s120 = fnF Tryz.prog [(120, s120)] MM Tryz.f115 a115 := by kernel_rfl
theorem d115 : SoundF Tryz.prog 115 s115 := sound_fn (fn := Tryz.f115) (T := [(120, s120)]) (M := MM) (ann := a115) (by kernel_rfl) (by kernel_rfl) (by kernel_rfl) (by kernel_rfl) mix (.cons d120 .nil) (e115 s120)
set_option maxRecDepth 100000 in
theorem e154 : S154 = fnF Tryz.prog [] MM Tryz.f154 a154 := by kernel_rfl
theorem d154 : SoundF Tryz.prog 154 s154 := sound_fn (fn := Tryz.f154) (T := []) (M := MM) (ann := a154) (by kernel_rfl) (by kernel_rfl) (by kernel_rfl) (by kernel_rfl) mix .nil (e154)
set_option maxRecDepth 100000 in
theorem e155 (s139 : FS) : S155 s139 = fnF Tryz.prog [(139, s139)] MM Tryz.f155 a155 := by kernel_rfl
theorem d155 : SoundF Tryz.prog 155 s155 := sound_fn (fn := Tryz.f155) (T := [(139, s139)]) (M := MM) (ann := a155) (by kernel_rfl) (by kernel_rfl) (by kernel_rfl) (by kernel_rfl) mix (.cons d139 .nil) (e155 s139)
set_option maxRecDepth 100000 in
theorem e197 (s139 s140 : FS) : S197 s139 s140 = fnF Tryz.prog [(139, s139), (140, s140)] MM Tryz.f197 a197 := by kernel_rfl
theorem d197 : SoundF Tryz.prog 197 s197 := sound_fn (fn := Tryz.f197) (T := [(139, s139), (140, s140)]) (M := MM) (ann := a197) (by kernel_rfl) (by kernel_rfl) (by kernel_rfl) (by kernel_rfl) mix (.cons d139 (.cons d140 .nil)) (e197 s139 s140)
set_option maxRecDepth 100000 in
theorem e156 (s197 : FS) : S156 s197 = fnF Tryz.prog [(197, s197)] MM Tryz.f156 a156 := by kernel_rfl
theorem d156 : SoundF Tryz.prog 156 s156 := sound_fn (fn := Tryz.f156) (T := [(197, s197)]) (M := MM) (ann := a156) (by kernel_rfl) (by kernel_rfl) (by kernel_rfl) (by kernel_rfl) mix (.cons d197 .nil) (e156 s197)
set_option maxRecDepth 100000 in
theorem e157 (s108 s53 s109 s86 : FS) : S157 s108 s53 s109 s86 = fnF Tryz.prog [(108, s108), (53, s53), (109, s109), (86, s86)] MM Tryz.f157 a157 := by kernel_rfl
theorem d157 : SoundF Tryz.prog 157 s157 := sound_fn (fn := Tryz.f157) (T := [(108, s108), (53, s53), (109, s109), (86, s86)]) (M := MM) (ann := a157) (by kernel_rfl) (by kernel_rfl) (by kernel_rfl) (by kernel_rfl) mix (.cons d108 (.cons d53 (.cons d109 (.cons d86 .nil)))) (e157 s108 s53 s109 s86)
theorem d199 : SoundF Tryz.prog 199 s199 := sound_stub (fn := Tryz.f199) (by kernel_rfl) (by kernel_rfl) (by kernel_rfl)
set_option maxRecDepth 100000 in
theorem e158 (s187 s198 s199 s200 s110 s109 s201 s202 s188 s182 : FS) : S158 s187 s198 s199 s200 s110 s109 s201 s202 s188 s182 = fnF Tryz.prog [(187, s187), (198, s198), (199, s199), (200, s200), (110, s110), (109, s109), (201, s201), (202, s202), (188, s188), (182, s182)] MM Tryz.f158 a158 := by kernel_rfl
theorem d158 : SoundF Tryz.prog 158 s158 := sound_fn (fn := Tryz.f158) (T := [(187, s187), (198, s198), (199, s199), (200, s200), (110, s110), (109, s109), (201, s201), (202, s202), (188, s188), (182, s182)]) (M := MM) (ann := a158) (by kernel_rfl) (by kernel_rfl) (by kernel_rfl) (by kernel_rfl) mix (.cons d187 (.cons d198 (.cons d199 (.cons d200 (.cons d110 (.cons d109 (.cons d201 (.cons d202 (.cons d188 (.cons d182 .nil)))))))))) (e158 s187 s198 s199 s200 s110 s109 s201 s202 s188 s182)
set_option maxRecDepth 100000 in
theorem e116 (s149 s99 s154 s155 s156 s157 s56 s158 s151 : FS) : S116 s149 s99 s154 s155 s156 s157 s56 s158 s151 = fnF Tryz.prog [(149, s149), (99, s99), (154, s154), (155, s155), (156, s156), (157, s157), (56, s56), (158, s158), (151, s151)] MM Tryz.f116 a116 := by kernel_rfl
theorem d116 : SoundF Tryz.prog 116 s116 := sound_fn (fn := Tryz.f116) (T := [(149, s149), (99, s99), (154, s154), (155, s155), (156, s156), (157, s157), (56, s56), (158, s158), (151, s151)]) (M := MM) (ann := a116) (by kernel_rfl) (by kernel_rfl) (by kernel_rfl) (by kernel_rfl) mix (.cons d149 (.cons d99 (.cons d154 (.cons d155 (.cons d156 (.cons d157 (.cons d56 (.cons d158 (.cons d151 .nil))))))))) (e116 s149 s99 s154 s155 s156 s157 s56 s158 s151)
set_option maxRecDepth 100000 in
theorem e64 (s11 s61 s115 s116 s113 : FS) : S64 s11 s61 s115 s116 s113 = fnF Tryz.prog [(11, s11), (61, s61), (115, s115), (116, s116), (113, s113)] MM Tryz.f64 a64 := by kernel_rfl
theorem d64 : SoundF Tryz.prog 64 s64 := sound_fn (fn := Tryz.f64) (T := [(11, s11), (61, s61), (115, s115), (116, s116), (113, s113)]) (M := MM) (ann := a64) (by kernel_rfl) (by kernel_rfl) (by kernel_rfl) (by kernel_rfl) mix (.cons d11 (.cons d61 (.cons d115 (.cons d116 (.cons d113 .nil))))) (e64 s11 s61 s115 s116 s113)
set_option maxRecDepth 100000 in
theorem e22 : S22 = fnF Tryz.prog [] MM Tryz.f22 a22 := by kernel_rfl
theorem d22 : SoundF Tryz.prog 22 s22 := sound_fn (fn := Tryz.f22) (T := []) (M := MM) (ann := a22) (by kernel_rfl) (by kernel_rfl) (by kernel_rfl) (by kernel_rfl) mix .nil (e22)
set_option maxRecDepth 100000 in
theorem e160 : S160 = fnF Tryz.prog [] MM Tryz.f160 a160 := by kernel_rfl
theorem d160 : SoundF Tryz.prog 160 s160 := sound_fn (fn := Tryz.f160) (T := []) (M := MM) (ann := a160) (by kernel_rfl) (by kernel_rfl) (by kernel_rfl) (by kernel_rfl) mix .nil (e160)
set_option maxRecDepth 100000 in
theorem e118 (s22 s160 : FS) : S118 s22 s160 = fnF Tryz.prog [(22, s22), (160, s160)] MM Tryz.f118 a118 := by kernel_rfl
theorem d118 : SoundF Tryz.prog 118 s118 := sound_fn (fn := Tryz.f118) (T := [(22, s22), (160, s160)]) (M := MM) (ann := a118) (by kernel_rfl) (by kernel_rfl) (by kernel_rfl) (by kernel_rfl) mix (.cons d22 (.cons d160 .nil)) (e118 s22 s160)
set_option maxRecDepth 100000 in
theorem e159 (s203 : FS) : S159 s203 = fnF Tryz.prog [(203, s203)] MM Tryz.f159 a159 := by kernel_rfl
theorem d159 : SoundF Tryz.prog 159 s159 := sound_fn (fn := Tryz.f159) (T := [(203, s203)]) (M := MM) (ann := a159) (by kernel_rfl) (by kernel_rfl) (by kernel_rfl) (by kernel_rfl) mix (.cons d203 .nil) (e159 s203)
set_option maxRecDepth 100000 in
theorem e117 (s159 : FS) : S117 s159 = fnF Tryz.prog [(159, s159)] MM Tryz.f117 a117 := by kernel_rfl
theorem d117 : SoundF Tryz.prog 117 s117 := sound_fn (fn := Tryz.f117) (T := [(159, s159)]) (M := MM) (ann := a117) (by kernel_rfl) (by kernel_rfl) (by kernel_rfl) (by kernel_rfl) mix (.cons d159 .nil) (e117 s159)
end Go.Proofs.YtmddhlfjilkdfaaGreatDoor
