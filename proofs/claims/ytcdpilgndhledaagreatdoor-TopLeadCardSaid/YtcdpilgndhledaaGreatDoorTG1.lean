/-
  No claim by itself: the functions do what their texts mean. No condition.
-/
import Derived.Test.YtcdpilgndhledaaGreatDoorTD4
import Derived.Test.YtcdpilgndhledaaGreatDoorE7
namespace Go.Proofs.YtcdpilgndhledaaGreatDoor
set_option linter.unusedVariables false
theorem mix : Tryz.prog.follows .mixedOrders = true := by kernel_rfl
set_option maxRecDepth 100000 in
theorem e68 : S68 = fnF Tryz.prog [] MM Tryz.f68 a68 := by kernel_rfl
theorem d68 : SoundF Tryz.prog 68 s68 := sound_fn (fn := Tryz.f68) (T := []) (M := MM) (ann := a68) (by kernel_rfl) (by kernel_rfl) (by kernel_rfl) (by kernel_rfl) mix .nil (e68)
set_option maxRecDepth 100000 in
theorem e69 : S69 = fnF Tryz.prog [] MM Tryz.f69 a69 := by kernel_rfl
theorem d69 : SoundF Tryz.prog 69 s69 := sound_fn (fn := Tryz.f69) (T := []) (M := MM) (ann := a69) (by kernel_rfl) (by kernel_rfl) (by kernel_rfl) (by kernel_rfl) mix .nil (e69)
set_option maxRecDepth 100000 in
theorem e99 : S99 = fnF Tryz.prog [] MM Tryz.f99 a99 := by kernel_rfl
theorem d99 : SoundF Tryz.prog 99 s99 := sound_fn (fn := Tryz.f99) (T := []) (M := MM) (ann := a99) (by kernel_rfl) (by kernel_rfl) (by kernel_rfl) (by kernel_rfl) mix .nil (e99)
set_option maxRecDepth 100000 in
theorem e246 : S246 = fnF Tryz.prog [] MM Tryz.f246 a246 := by kernel_rfl
theorem d246 : SoundF Tryz.prog 246 s246 := sound_fn (fn := Tryz.f246) (T := []) (M := MM) (ann := a246) (by kernel_rfl) (by kernel_rfl) (by kernel_rfl) (by kernel_rfl) mix .nil (e246)
set_option maxRecDepth 100000 in
theorem e171 (s246 : FS) : S171 s246 = fnF Tryz.prog [(246, s246)] MM Tryz.f171 a171 := by kernel_rfl
theorem d171 : SoundF Tryz.prog 171 s171 := sound_fn (fn := Tryz.f171) (T := [(246, s246)]) (M := MM) (ann := a171) (by kernel_rfl) (by kernel_rfl) (by kernel_rfl) (by kernel_rfl) mix (.cons d246 .nil) (e171 s246)
theorem d172 : SoundF Tryz.prog 172 s172 := sound_stub (fn := Tryz.f172) (by kernel_rfl) (by kernel_rfl) (by kernel_rfl)
theorem d173 : SoundF Tryz.prog 173 s173 := sound_stub (fn := Tryz.f173) (by kernel_rfl) (by kernel_rfl) (by kernel_rfl)
theorem d174 : SoundF Tryz.prog 174 s174 := sound_stub (fn := Tryz.f174) (by kernel_rfl) (by kernel_rfl) (by kernel_rfl)
set_option maxRecDepth 100000 in
theorem e253 : S253 = fnF Tryz.prog [] MM Tryz.f253 a253 := by kernel_rfl
theorem d253 : SoundF Tryz.prog 253 s253 := sound_fn (fn := Tryz.f253) (T := []) (M := MM) (ann := a253) (by kernel_rfl) (by kernel_rfl) (by kernel_rfl) (by kernel_rfl) mix .nil (e253)
set_option maxRecDepth 100000 in
theorem e175 (s253 s246 : FS) : S175 s253 s246 = fnF Tryz.prog [(253, s253), (246, s246)] MM Tryz.f175 a175 := by kernel_rfl
theorem d175 : SoundF Tryz.prog 175 s175 := sound_fn (fn := Tryz.f175) (T := [(253, s253), (246, s246)]) (M := MM) (ann := a175) (by kernel_rfl) (by kernel_rfl) (by kernel_rfl) (by kernel_rfl) mix (.cons d253 (.cons d246 .nil)) (e175 s253 s246)
set_option maxRecDepth 100000 in
theorem e100 (s171 s172 s173 s174 s175 : FS) : S100 s171 s172 s173 s174 s175 = fnF Tryz.prog [(171, s171), (172, s172), (173, s173), (174, s174), (175, s175)] MM Tryz.f100 a100 := by kernel_rfl
theorem d100 : SoundF Tryz.prog 100 s100 := sound_fn (fn := Tryz.f100) (T := [(171, s171), (172, s172), (173, s173), (174, s174), (175, s175)]) (M := MM) (ann := a100) (by kernel_rfl) (by kernel_rfl) (by kernel_rfl) (by kernel_rfl) mix (.cons d171 (.cons d172 (.cons d173 (.cons d174 (.cons d175 .nil))))) (e100 s171 s172 s173 s174 s175)
set_option maxRecDepth 100000 in
theorem e177 : S177 = fnF Tryz.prog [] MM Tryz.f177 a177 := by kernel_rfl
theorem d177 : SoundF Tryz.prog 177 s177 := sound_fn (fn := Tryz.f177) (T := []) (M := MM) (ann := a177) (by kernel_rfl) (by kernel_rfl) (by kernel_rfl) (by kernel_rfl) mix .nil (e177)
theorem d254 : SoundF Tryz.prog 254 s254 := sound_stub (fn := Tryz.f254) (by kernel_rfl) (by kernel_rfl) (by kernel_rfl)
theorem d299 : SoundF Tryz.prog 299 s299 := sound_stub (fn := Tryz.f299) (by kernel_rfl) (by kernel_rfl) (by kernel_rfl)
set_option maxRecDepth 100000 in
theorem e300 : S300 = fnF Tryz.prog [] MM Tryz.f300 a300 := by kernel_rfl
theorem d300 : SoundF Tryz.prog 300 s300 := sound_fn (fn := Tryz.f300) (T := []) (M := MM) (ann := a300) (by kernel_rfl) (by kernel_rfl) (by kernel_rfl) (by kernel_rfl) mix .nil (e300)
set_option maxRecDepth 100000 in
theorem e283 (s299 s300 : FS) : S283 s299 s300 = fnF Tryz.prog [(299, s299), (300, s300)] MM Tryz.f283 a283 := by kernel_rfl
theorem d283 : SoundF Tryz.prog 283 s283 := sound_fn (fn := Tryz.f283) (T := [(299, s299), (300, s300)]) (M := MM) (ann := a283) (by kernel_rfl) (by kernel_rfl) (by kernel_rfl) (by kernel_rfl) mix (.cons d299 (.cons d300 .nil)) (e283 s299 s300)
theorem d296 : SoundF Tryz.prog 296 s296 := sound_stub (fn := Tryz.f296) (by kernel_rfl) (by kernel_rfl) (by kernel_rfl)
set_option maxRecDepth 100000 in
theorem e290 (s296 : FS) : S290 s296 = fnF Tryz.prog [(296, s296)] MM Tryz.f290 a290 := by kernel_rfl
theorem d290 : SoundF Tryz.prog 290 s290 := sound_fn (fn := Tryz.f290) (T := [(296, s296)]) (M := MM) (ann := a290) (by kernel_rfl) (by kernel_rfl) (by kernel_rfl) (by kernel_rfl) mix (.cons d296 .nil) (e290 s296)
theorem d291 : SoundF Tryz.prog 291 s291 := sound_stub (fn := Tryz.f291) (by kernel_rfl) (by kernel_rfl) (by kernel_rfl)
theorem d292 : SoundF Tryz.prog 292 s292 := sound_stub (fn := Tryz.f292) (by kernel_rfl) (by kernel_rfl) (by kernel_rfl)
theorem d293 : SoundF Tryz.prog 293 s293 := sound_stub (fn := Tryz.f293) (by kernel_rfl) (by kernel_rfl) (by kernel_rfl)
theorem d294 : SoundF Tryz.prog 294 s294 := sound_stub (fn := Tryz.f294) (by kernel_rfl) (by kernel_rfl) (by kernel_rfl)
theorem d295 : SoundF Tryz.prog 295 s295 := sound_stub (fn := Tryz.f295) (by kernel_rfl) (by kernel_rfl) (by kernel_rfl)
theorem d297 : SoundF Tryz.prog 297 s297 := sound_stub (fn := Tryz.f297) (by kernel_rfl) (by kernel_rfl) (by kernel_rfl)
theorem d298 : SoundF Tryz.prog 298 s298 := sound_stub (fn := Tryz.f298) (by kernel_rfl) (by kernel_rfl) (by kernel_rfl)
set_option maxRecDepth 100000 in
theorem e282 (s290 s291 s292 s293 s294 s295 s296 s297 s298 s282 : FS) : S282 s290 s291 s292 s293 s294 s295 s296 s297 s298 s282 = fnF Tryz.prog [(290, s290), (291, s291), (292, s292), (293, s293), (294, s294), (295, s295), (296, s296), (297, s297), (298, s298), (282, s282)] MM Tryz.f282 a282 := by kernel_rfl
theorem d282 : SoundF Tryz.prog 282 s282 := sound_fn (fn := Tryz.f282) (T := [(290, s290), (291, s291), (292, s292), (293, s293), (294, s294), (295, s295), (296, s296), (297, s297), (298, s298), (282, sx)]) (M := MM) (ann := a282) (by kernel_rfl) (by kernel_rfl) (by kernel_rfl) (by kernel_rfl) mix (.cons d290 (.cons d291 (.cons d292 (.cons d293 (.cons d294 (.cons d295 (.cons d296 (.cons d297 (.cons d298 (.cons (sound_stub (fn := Tryz.f282) (by kernel_rfl) (by kernel_rfl) (by kernel_rfl)) .nil)))))))))) (e282 s290 s291 s292 s293 s294 s295 s296 s297 s298 sx)
set_option maxRecDepth 100000 in
theorem e255 (s283 s282 : FS) : S255 s283 s282 = fnF Tryz.prog [(283, s283), (282, s282)] MM Tryz.f255 a255 := by kernel_rfl
theorem d255 : SoundF Tryz.prog 255 s255 := sound_fn (fn := Tryz.f255) (T := [(283, s283), (282, s282)]) (M := MM) (ann := a255) (by kernel_rfl) (by kernel_rfl) (by kernel_rfl) (by kernel_rfl) mix (.cons d283 (.cons d282 .nil)) (e255 s283 s282)
theorem d176 : SoundF Tryz.prog 176 s176 := soF_sound d255 (by kernel_rfl)
set_option maxRecDepth 100000 in
theorem e101 (s177 s176 : FS) : S101 s177 s176 = fnF Tryz.prog [(177, s177), (176, s176)] MM Tryz.f101 a101 := by kernel_rfl
theorem d101 : SoundF Tryz.prog 101 s101 := sound_fn (fn := Tryz.f101) (T := [(177, s177), (176, s176)]) (M := MM) (ann := a101) (by kernel_rfl) (by kernel_rfl) (by kernel_rfl) (by kernel_rfl) mix (.cons d177 (.cons d176 .nil)) (e101 s177 s176)
set_option maxRecDepth 100000 in
theorem e103 (s99 : FS) : S103 s99 = fnF Tryz.prog [(99, s99)] MM Tryz.f103 a103 := by kernel_rfl
theorem d103 : SoundF Tryz.prog 103 s103 := sound_fn (fn := Tryz.f103) (T := [(99, s99)]) (M := MM) (ann := a103) (by kernel_rfl) (by kernel_rfl) (by kernel_rfl) (by kernel_rfl) mix (.cons d99 .nil) (e103 s99)
set_option maxRecDepth 100000 in
theorem e225 : S225 = fnF Tryz.prog [] MM Tryz.f225 a225 := by kernel_rfl
theorem d225 : SoundF Tryz.prog 225 s225 := sound_fn (fn := Tryz.f225) (T := []) (M := MM) (ann := a225) (by kernel_rfl) (by kernel_rfl) (by kernel_rfl) (by kernel_rfl) mix .nil (e225)
set_option maxRecDepth 100000 in
theorem e180 (s225 : FS) : S180 s225 = fnF Tryz.prog [(225, s225)] MM Tryz.f180 a180 := by kernel_rfl
theorem d180 : SoundF Tryz.prog 180 s180 := sound_fn (fn := Tryz.f180) (T := [(225, s225)]) (M := MM) (ann := a180) (by kernel_rfl) (by kernel_rfl) (by kernel_rfl) (by kernel_rfl) mix (.cons d225 .nil) (e180 s225)
set_option maxRecDepth 100000 in
theorem e104 (s180 : FS) : S104 s180 = fnF Tryz.prog [(180, s180)] MM Tryz.f104 a104 := by kernel_rfl
theorem d104 : SoundF Tryz.prog 104 s104 := sound_fn (fn := Tryz.f104) (T := [(180, s180)]) (M := MM) (ann := a104) (by kernel_rfl) (by kernel_rfl) (by kernel_rfl) (by kernel_rfl) mix (.cons d180 .nil) (e104 s180)
set_option maxRecDepth 100000 in
theorem e181 : S181 = fnF Tryz.prog [] MM Tryz.f181 a181 := by kernel_rfl
theorem d181 : SoundF Tryz.prog 181 s181 := sound_fn (fn := Tryz.f181) (T := []) (M := MM) (ann := a181) (by kernel_rfl) (by kernel_rfl) (by kernel_rfl) (by kernel_rfl) mix .nil (e181)
theorem d306 : SoundF Tryz.prog 306 s306 := sound_stub (fn := Tryz.f306) (by kernel_rfl) (by kernel_rfl) (by kernel_rfl)
set_option maxRecDepth 100000 in
theorem e287 (s306 : FS) : S287 s306 = fnF Tryz.prog [(306, s306)] MM Tryz.f287 a287 := by kernel_rfl
theorem d287 : SoundF Tryz.prog 287 s287 := sound_fn (fn := Tryz.f287) (T := [(306, s306)]) (M := MM) (ann := a287) (by kernel_rfl) (by kernel_rfl) (by kernel_rfl) (by kernel_rfl) mix (.cons d306 .nil) (e287 s306)
set_option maxRecDepth 100000 in
theorem e276 (s287 : FS) : S276 s287 = fnF Tryz.prog [(287, s287)] MM Tryz.f276 a276 := by kernel_rfl
theorem d276 : SoundF Tryz.prog 276 s276 := sound_fn (fn := Tryz.f276) (T := [(287, s287)]) (M := MM) (ann := a276) (by kernel_rfl) (by kernel_rfl) (by kernel_rfl) (by kernel_rfl) mix (.cons d287 .nil) (e276 s287)
set_option maxRecDepth 100000 in
theorem e238 (s276 : FS) : S238 s276 = fnF Tryz.prog [(276, s276)] MM Tryz.f238 a238 := by kernel_rfl
theorem d238 : SoundF Tryz.prog 238 s238 := sound_fn (fn := Tryz.f238) (T := [(276, s276)]) (M := MM) (ann := a238) (by kernel_rfl) (by kernel_rfl) (by kernel_rfl) (by kernel_rfl) mix (.cons d276 .nil) (e238 s276)
set_option maxRecDepth 100000 in
theorem e277 (s276 : FS) : S277 s276 = fnF Tryz.prog [(276, s276)] MM Tryz.f277 a277 := by kernel_rfl
theorem d277 : SoundF Tryz.prog 277 s277 := sound_fn (fn := Tryz.f277) (T := [(276, s276)]) (M := MM) (ann := a277) (by kernel_rfl) (by kernel_rfl) (by kernel_rfl) (by kernel_rfl) mix (.cons d276 .nil) (e277 s276)
set_option maxRecDepth 100000 in
theorem e239 (s277 : FS) : S239 s277 = fnF Tryz.prog [(277, s277)] MM Tryz.f239 a239 := by kernel_rfl
theorem d239 : SoundF Tryz.prog 239 s239 := sound_fn (fn := Tryz.f239) (T := [(277, s277)]) (M := MM) (ann := a239) (by kernel_rfl) (by kernel_rfl) (by kernel_rfl) (by kernel_rfl) mix (.cons d277 .nil) (e239 s277)
set_option maxRecDepth 100000 in
theorem e160 (s238 s239 : FS) : S160 s238 s239 = fnF Tryz.prog [(238, s238), (239, s239)] MM Tryz.f160 a160 := by kernel_rfl
theorem d160 : SoundF Tryz.prog 160 s160 := sound_fn (fn := Tryz.f160) (T := [(238, s238), (239, s239)]) (M := MM) (ann := a160) (by kernel_rfl) (by kernel_rfl) (by kernel_rfl) (by kernel_rfl) mix (.cons d238 (.cons d239 .nil)) (e160 s238 s239)
set_option maxRecDepth 100000 in
theorem e182 (s181 : FS) : S182 s181 = fnF Tryz.prog [(181, s181)] MM Tryz.f182 a182 := by kernel_rfl
theorem d182 : SoundF Tryz.prog 182 s182 := sound_fn (fn := Tryz.f182) (T := [(181, s181)]) (M := MM) (ann := a182) (by kernel_rfl) (by kernel_rfl) (by kernel_rfl) (by kernel_rfl) mix (.cons d181 .nil) (e182 s181)
theorem d240 : SoundF Tryz.prog 240 s240 := sound_stub (fn := Tryz.f240) (by kernel_rfl) (by kernel_rfl) (by kernel_rfl)
set_option maxRecDepth 100000 in
theorem e161 (s181 s182 s240 : FS) : S161 s181 s182 s240 = fnF Tryz.prog [(181, s181), (182, s182), (240, s240)] MM Tryz.f161 a161 := by kernel_rfl
theorem d161 : SoundF Tryz.prog 161 s161 := sound_fn (fn := Tryz.f161) (T := [(181, s181), (182, s182), (240, s240)]) (M := MM) (ann := a161) (by kernel_rfl) (by kernel_rfl) (by kernel_rfl) (by kernel_rfl) mix (.cons d181 (.cons d182 (.cons d240 .nil))) (e161 s181 s182 s240)
set_option maxRecDepth 100000 in
theorem e93 (s160 s161 : FS) : S93 s160 s161 = fnF Tryz.prog [(160, s160), (161, s161)] MM Tryz.f93 a93 := by kernel_rfl
theorem d93 : SoundF Tryz.prog 93 s93 := sound_fn (fn := Tryz.f93) (T := [(160, s160), (161, s161)]) (M := MM) (ann := a93) (by kernel_rfl) (by kernel_rfl) (by kernel_rfl) (by kernel_rfl) mix (.cons d160 (.cons d161 .nil)) (e93 s160 s161)
set_option maxRecDepth 100000 in
theorem e98 (s93 s161 : FS) : S98 s93 s161 = fnF Tryz.prog [(93, s93), (161, s161)] MM Tryz.f98 a98 := by kernel_rfl
theorem d98 : SoundF Tryz.prog 98 s98 := sound_fn (fn := Tryz.f98) (T := [(93, s93), (161, s161)]) (M := MM) (ann := a98) (by kernel_rfl) (by kernel_rfl) (by kernel_rfl) (by kernel_rfl) mix (.cons d93 (.cons d161 .nil)) (e98 s93 s161)
set_option maxRecDepth 100000 in
theorem e105 (s181 s98 s182 : FS) : S105 s181 s98 s182 = fnF Tryz.prog [(181, s181), (98, s98), (182, s182)] MM Tryz.f105 a105 := by kernel_rfl
theorem d105 : SoundF Tryz.prog 105 s105 := sound_fn (fn := Tryz.f105) (T := [(181, s181), (98, s98), (182, s182)]) (M := MM) (ann := a105) (by kernel_rfl) (by kernel_rfl) (by kernel_rfl) (by kernel_rfl) mix (.cons d181 (.cons d98 (.cons d182 .nil))) (e105 s181 s98 s182)
set_option maxRecDepth 100000 in
theorem e251 : S251 = fnF Tryz.prog [] MM Tryz.f251 a251 := by kernel_rfl
theorem d251 : SoundF Tryz.prog 251 s251 := sound_fn (fn := Tryz.f251) (T := []) (M := MM) (ann := a251) (by kernel_rfl) (by kernel_rfl) (by kernel_rfl) (by kernel_rfl) mix .nil (e251)
set_option maxRecDepth 100000 in
theorem e250 (s251 : FS) : S250 s251 = fnF Tryz.prog [(251, s251)] MM Tryz.f250 a250 := by kernel_rfl
theorem d250 : SoundF Tryz.prog 250 s250 := sound_fn (fn := Tryz.f250) (T := [(251, s251)]) (M := MM) (ann := a250) (by kernel_rfl) (by kernel_rfl) (by kernel_rfl) (by kernel_rfl) mix (.cons d251 .nil) (e250 s251)
set_option maxRecDepth 100000 in
theorem e211 : S211 = fnF Tryz.prog [] MM Tryz.f211 a211 := by kernel_rfl
theorem d211 : SoundF Tryz.prog 211 s211 := sound_fn (fn := Tryz.f211) (T := []) (M := MM) (ann := a211) (by kernel_rfl) (by kernel_rfl) (by kernel_rfl) (by kernel_rfl) mix .nil (e211)
set_option maxRecDepth 100000 in
theorem e212 (s211 : FS) : S212 s211 = fnF Tryz.prog [(211, s211)] MM Tryz.f212 a212 := by kernel_rfl
theorem d212 : SoundF Tryz.prog 212 s212 := sound_fn (fn := Tryz.f212) (T := [(211, s211)]) (M := MM) (ann := a212) (by kernel_rfl) (by kernel_rfl) (by kernel_rfl) (by kernel_rfl) mix (.cons d211 .nil) (e212 s211)
set_option maxRecDepth 100000 in
theorem e213 : S213 = fnF Tryz.prog [] MM Tryz.f213 a213 := by kernel_rfl
theorem d213 : SoundF Tryz.prog 213 s213 := sound_fn (fn := Tryz.f213) (T := []) (M := MM) (ann := a213) (by kernel_rfl) (by kernel_rfl) (by kernel_rfl) (by kernel_rfl) mix .nil (e213)
set_option maxRecDepth 100000 in
theorem e134 (s181 s212 s211 s213 : FS) : S134 s181 s212 s211 s213 = fnF Tryz.prog [(181, s181), (212, s212), (211, s211), (213, s213)] MM Tryz.f134 a134 := by kernel_rfl
theorem d134 : SoundF Tryz.prog 134 s134 := sound_fn (fn := Tryz.f134) (T := [(181, s181), (212, s212), (211, s211), (213, s213)]) (M := MM) (ann := a134) (by kernel_rfl) (by kernel_rfl) (by kernel_rfl) (by kernel_rfl) mix (.cons d181 (.cons d212 (.cons d211 (.cons d213 .nil)))) (e134 s181 s212 s211 s213)
set_option maxRecDepth 100000 in
theorem e178 (s250 s181 s182 s134 : FS) : S178 s250 s181 s182 s134 = fnF Tryz.prog [(250, s250), (181, s181), (182, s182), (134, s134)] MM Tryz.f178 a178 := by kernel_rfl
theorem d178 : SoundF Tryz.prog 178 s178 := sound_fn (fn := Tryz.f178) (T := [(250, s250), (181, s181), (182, s182), (134, s134)]) (M := MM) (ann := a178) (by kernel_rfl) (by kernel_rfl) (by kernel_rfl) (by kernel_rfl) mix (.cons d250 (.cons d181 (.cons d182 (.cons d134 .nil)))) (e178 s250 s181 s182 s134)
set_option maxRecDepth 100000 in
theorem e152 : S152 = fnF Tryz.prog [] MM Tryz.f152 a152 := by kernel_rfl
theorem d152 : SoundF Tryz.prog 152 s152 := sound_fn (fn := Tryz.f152) (T := []) (M := MM) (ann := a152) (by kernel_rfl) (by kernel_rfl) (by kernel_rfl) (by kernel_rfl) mix .nil (e152)
set_option maxRecDepth 100000 in
theorem e106 (s152 : FS) : S106 s152 = fnF Tryz.prog [(152, s152)] MM Tryz.f106 a106 := by kernel_rfl
theorem d106 : SoundF Tryz.prog 106 s106 := sound_fn (fn := Tryz.f106) (T := [(152, s152)]) (M := MM) (ann := a106) (by kernel_rfl) (by kernel_rfl) (by kernel_rfl) (by kernel_rfl) mix (.cons d152 .nil) (e106 s152)
set_option maxRecDepth 100000 in
theorem e187 (s251 : FS) : S187 s251 = fnF Tryz.prog [(251, s251)] MM Tryz.f187 a187 := by kernel_rfl
theorem d187 : SoundF Tryz.prog 187 s187 := sound_fn (fn := Tryz.f187) (T := [(251, s251)]) (M := MM) (ann := a187) (by kernel_rfl) (by kernel_rfl) (by kernel_rfl) (by kernel_rfl) mix (.cons d251 .nil) (e187 s251)
set_option maxRecDepth 100000 in
theorem e263 (s187 s181 s134 s182 : FS) : S263 s187 s181 s134 s182 = fnF Tryz.prog [(187, s187), (181, s181), (134, s134), (182, s182)] MM Tryz.f263 a263 := by kernel_rfl
theorem d263 : SoundF Tryz.prog 263 s263 := sound_fn (fn := Tryz.f263) (T := [(187, s187), (181, s181), (134, s134), (182, s182)]) (M := MM) (ann := a263) (by kernel_rfl) (by kernel_rfl) (by kernel_rfl) (by kernel_rfl) mix (.cons d187 (.cons d181 (.cons d134 (.cons d182 .nil)))) (e263 s187 s181 s134 s182)
set_option maxRecDepth 100000 in
theorem e257 (s178 s263 : FS) : S257 s178 s263 = fnF Tryz.prog [(178, s178), (263, s263)] MM Tryz.f257 a257 := by kernel_rfl
theorem d257 : SoundF Tryz.prog 257 s257 := sound_fn (fn := Tryz.f257) (T := [(178, s178), (263, s263)]) (M := MM) (ann := a257) (by kernel_rfl) (by kernel_rfl) (by kernel_rfl) (by kernel_rfl) mix (.cons d178 (.cons d263 .nil)) (e257 s178 s263)
set_option maxRecDepth 100000 in
theorem e179 (s257 s175 : FS) : S179 s257 s175 = fnF Tryz.prog [(257, s257), (175, s175)] MM Tryz.f179 a179 := by kernel_rfl
theorem d179 : SoundF Tryz.prog 179 s179 := sound_fn (fn := Tryz.f179) (T := [(257, s257), (175, s175)]) (M := MM) (ann := a179) (by kernel_rfl) (by kernel_rfl) (by kernel_rfl) (by kernel_rfl) mix (.cons d257 (.cons d175 .nil)) (e179 s257 s175)
set_option maxRecDepth 100000 in
theorem e102 (s178 s106 s179 : FS) : S102 s178 s106 s179 = fnF Tryz.prog [(178, s178), (106, s106), (179, s179)] MM Tryz.f102 a102 := by kernel_rfl
theorem d102 : SoundF Tryz.prog 102 s102 := sound_fn (fn := Tryz.f102) (T := [(178, s178), (106, s106), (179, s179)]) (M := MM) (ann := a102) (by kernel_rfl) (by kernel_rfl) (by kernel_rfl) (by kernel_rfl) mix (.cons d178 (.cons d106 (.cons d179 .nil))) (e102 s178 s106 s179)
set_option maxRecDepth 100000 in
theorem e183 : S183 = fnF Tryz.prog [] MM Tryz.f183 a183 := by kernel_rfl
theorem d183 : SoundF Tryz.prog 183 s183 := sound_fn (fn := Tryz.f183) (T := []) (M := MM) (ann := a183) (by kernel_rfl) (by kernel_rfl) (by kernel_rfl) (by kernel_rfl) mix .nil (e183)
set_option maxRecDepth 100000 in
theorem e184 (s183 : FS) : S184 s183 = fnF Tryz.prog [(183, s183)] MM Tryz.f184 a184 := by kernel_rfl
theorem d184 : SoundF Tryz.prog 184 s184 := sound_fn (fn := Tryz.f184) (T := [(183, s183)]) (M := MM) (ann := a184) (by kernel_rfl) (by kernel_rfl) (by kernel_rfl) (by kernel_rfl) mix (.cons d183 .nil) (e184 s183)
set_option maxRecDepth 100000 in
theorem e278 : S278 = fnF Tryz.prog [] MM Tryz.f278 a278 := by kernel_rfl
theorem d278 : SoundF Tryz.prog 278 s278 := sound_fn (fn := Tryz.f278) (T := []) (M := MM) (ann := a278) (by kernel_rfl) (by kernel_rfl) (by kernel_rfl) (by kernel_rfl) mix .nil (e278)
set_option maxRecDepth 100000 in
theorem e243 (s183 s278 : FS) : S243 s183 s278 = fnF Tryz.prog [(183, s183), (278, s278)] MM Tryz.f243 a243 := by kernel_rfl
theorem d243 : SoundF Tryz.prog 243 s243 := sound_fn (fn := Tryz.f243) (T := [(183, s183), (278, s278)]) (M := MM) (ann := a243) (by kernel_rfl) (by kernel_rfl) (by kernel_rfl) (by kernel_rfl) mix (.cons d183 (.cons d278 .nil)) (e243 s183 s278)
theorem d279 : SoundF Tryz.prog 279 s279 := sound_stub (fn := Tryz.f279) (by kernel_rfl) (by kernel_rfl) (by kernel_rfl)
set_option maxRecDepth 100000 in
theorem e244 (s243 s184 s278 s279 : FS) : S244 s243 s184 s278 s279 = fnF Tryz.prog [(243, s243), (184, s184), (278, s278), (279, s279)] MM Tryz.f244 a244 := by kernel_rfl
theorem d244 : SoundF Tryz.prog 244 s244 := sound_fn (fn := Tryz.f244) (T := [(243, s243), (184, s184), (278, s278), (279, s279)]) (M := MM) (ann := a244) (by kernel_rfl) (by kernel_rfl) (by kernel_rfl) (by kernel_rfl) mix (.cons d243 (.cons d184 (.cons d278 (.cons d279 .nil)))) (e244 s243 s184 s278 s279)
set_option maxRecDepth 100000 in
theorem e186 : S186 = fnF Tryz.prog [] MM Tryz.f186 a186 := by kernel_rfl
theorem d186 : SoundF Tryz.prog 186 s186 := sound_fn (fn := Tryz.f186) (T := []) (M := MM) (ann := a186) (by kernel_rfl) (by kernel_rfl) (by kernel_rfl) (by kernel_rfl) mix .nil (e186)
set_option maxRecDepth 100000 in
theorem e164 (s243 s244 s98 s186 : FS) : S164 s243 s244 s98 s186 = fnF Tryz.prog [(243, s243), (244, s244), (98, s98), (186, s186)] MM Tryz.f164 a164 := by kernel_rfl
theorem d164 : SoundF Tryz.prog 164 s164 := sound_fn (fn := Tryz.f164) (T := [(243, s243), (244, s244), (98, s98), (186, s186)]) (M := MM) (ann := a164) (by kernel_rfl) (by kernel_rfl) (by kernel_rfl) (by kernel_rfl) mix (.cons d243 (.cons d244 (.cons d98 (.cons d186 .nil)))) (e164 s243 s244 s98 s186)
set_option maxRecDepth 100000 in
theorem e241 : S241 = fnF Tryz.prog [] MM Tryz.f241 a241 := by kernel_rfl
theorem d241 : SoundF Tryz.prog 241 s241 := sound_fn (fn := Tryz.f241) (T := []) (M := MM) (ann := a241) (by kernel_rfl) (by kernel_rfl) (by kernel_rfl) (by kernel_rfl) mix .nil (e241)
set_option maxRecDepth 100000 in
theorem e162 (s241 : FS) : S162 s241 = fnF Tryz.prog [(241, s241)] MM Tryz.f162 a162 := by kernel_rfl
theorem d162 : SoundF Tryz.prog 162 s162 := sound_fn (fn := Tryz.f162) (T := [(241, s241)]) (M := MM) (ann := a162) (by kernel_rfl) (by kernel_rfl) (by kernel_rfl) (by kernel_rfl) mix (.cons d241 .nil) (e162 s241)
theorem d226 : SoundF Tryz.prog 226 s226 := cpF_sound
set_option maxRecDepth 100000 in
theorem e150 (s225 s226 : FS) : S150 s225 s226 = fnF Tryz.prog [(225, s225), (226, s226)] MM Tryz.f150 a150 := by kernel_rfl
theorem d150 : SoundF Tryz.prog 150 s150 := sound_fn (fn := Tryz.f150) (T := [(225, s225), (226, s226)]) (M := MM) (ann := a150) (by kernel_rfl) (by kernel_rfl) (by kernel_rfl) (by kernel_rfl) mix (.cons d225 (.cons d226 .nil)) (e150 s225 s226)
theorem d301 : SoundF Tryz.prog 301 s301 := sound_stub (fn := Tryz.f301) (by kernel_rfl) (by kernel_rfl) (by kernel_rfl)
set_option maxRecDepth 100000 in
theorem e302 : S302 = fnF Tryz.prog [] MM Tryz.f302 a302 := by kernel_rfl
theorem d302 : SoundF Tryz.prog 302 s302 := sound_fn (fn := Tryz.f302) (T := []) (M := MM) (ann := a302) (by kernel_rfl) (by kernel_rfl) (by kernel_rfl) (by kernel_rfl) mix .nil (e302)
set_option maxRecDepth 100000 in
theorem e349 : S349 = fnF Tryz.prog [] MM Tryz.f349 a349 := by kernel_rfl
theorem d349 : SoundF Tryz.prog 349 s349 := sound_fn (fn := Tryz.f349) (T := []) (M := MM) (ann := a349) (by kernel_rfl) (by kernel_rfl) (by kernel_rfl) (by kernel_rfl) mix .nil (e349)
theorem d350 : SoundF Tryz.prog 350 s350 := sound_stub (fn := Tryz.f350) (by kernel_rfl) (by kernel_rfl) (by kernel_rfl)
set_option maxRecDepth 100000 in
theorem e151 (s349 s350 : FS) : S151 s349 s350 = fnF Tryz.prog [(349, s349), (350, s350)] MM Tryz.f151 a151 := by kernel_rfl
theorem d151 : SoundF Tryz.prog 151 s151 := sound_fn (fn := Tryz.f151) (T := [(349, s349), (350, s350)]) (M := MM) (ann := a151) (by kernel_rfl) (by kernel_rfl) (by kernel_rfl) (by kernel_rfl) mix (.cons d349 (.cons d350 .nil)) (e151 s349 s350)
set_option maxRecDepth 100000 in
theorem e303 : S303 = fnF Tryz.prog [] MM Tryz.f303 a303 := by kernel_rfl
theorem d303 : SoundF Tryz.prog 303 s303 := sound_fn (fn := Tryz.f303) (T := []) (M := MM) (ann := a303) (by kernel_rfl) (by kernel_rfl) (by kernel_rfl) (by kernel_rfl) mix .nil (e303)
set_option maxRecDepth 100000 in
theorem e88 (s151 : FS) : S88 s151 = fnF Tryz.prog [(151, s151)] MM Tryz.f88 a88 := by kernel_rfl
theorem d88 : SoundF Tryz.prog 88 s88 := sound_fn (fn := Tryz.f88) (T := [(151, s151)]) (M := MM) (ann := a88) (by kernel_rfl) (by kernel_rfl) (by kernel_rfl) (by kernel_rfl) mix (.cons d151 .nil) (e88 s151)
set_option maxRecDepth 100000 in
theorem e304 (s151 s88 : FS) : S304 s151 s88 = fnF Tryz.prog [(151, s151), (88, s88)] MM Tryz.f304 a304 := by kernel_rfl
theorem d304 : SoundF Tryz.prog 304 s304 := sound_fn (fn := Tryz.f304) (T := [(151, s151), (88, s88)]) (M := MM) (ann := a304) (by kernel_rfl) (by kernel_rfl) (by kernel_rfl) (by kernel_rfl) mix (.cons d151 (.cons d88 .nil)) (e304 s151 s88)
set_option maxRecDepth 100000 in
theorem e284 (s277 s301 s302 s151 s303 s304 : FS) : S284 s277 s301 s302 s151 s303 s304 = fnF Tryz.prog [(277, s277), (301, s301), (302, s302), (151, s151), (303, s303), (304, s304)] MM Tryz.f284 a284 := by kernel_rfl
theorem d284 : SoundF Tryz.prog 284 s284 := sound_fn (fn := Tryz.f284) (T := [(277, s277), (301, s301), (302, s302), (151, s151), (303, s303), (304, s304)]) (M := MM) (ann := a284) (by kernel_rfl) (by kernel_rfl) (by kernel_rfl) (by kernel_rfl) mix (.cons d277 (.cons d301 (.cons d302 (.cons d151 (.cons d303 (.cons d304 .nil)))))) (e284 s277 s301 s302 s151 s303 s304)
set_option maxRecDepth 100000 in
theorem e258 (s150 s160 s284 : FS) : S258 s150 s160 s284 = fnF Tryz.prog [(150, s150), (160, s160), (284, s284)] MM Tryz.f258 a258 := by kernel_rfl
theorem d258 : SoundF Tryz.prog 258 s258 := sound_fn (fn := Tryz.f258) (T := [(150, s150), (160, s160), (284, s284)]) (M := MM) (ann := a258) (by kernel_rfl) (by kernel_rfl) (by kernel_rfl) (by kernel_rfl) mix (.cons d150 (.cons d160 (.cons d284 .nil))) (e258 s150 s160 s284)
set_option maxRecDepth 100000 in
theorem e142 : S142 = fnF Tryz.prog [] MM Tryz.f142 a142 := by kernel_rfl
theorem d142 : SoundF Tryz.prog 142 s142 := sound_fn (fn := Tryz.f142) (T := []) (M := MM) (ann := a142) (by kernel_rfl) (by kernel_rfl) (by kernel_rfl) (by kernel_rfl) mix .nil (e142)
set_option maxRecDepth 100000 in
theorem e242 (s142 : FS) : S242 s142 = fnF Tryz.prog [(142, s142)] MM Tryz.f242 a242 := by kernel_rfl
theorem d242 : SoundF Tryz.prog 242 s242 := sound_fn (fn := Tryz.f242) (T := [(142, s142)]) (M := MM) (ann := a242) (by kernel_rfl) (by kernel_rfl) (by kernel_rfl) (by kernel_rfl) mix (.cons d142 .nil) (e242 s142)
set_option maxRecDepth 100000 in
theorem e185 (s93 s162 s258 s242 : FS) : S185 s93 s162 s258 s242 = fnF Tryz.prog [(93, s93), (162, s162), (258, s258), (242, s242)] MM Tryz.f185 a185 := by kernel_rfl
theorem d185 : SoundF Tryz.prog 185 s185 := sound_fn (fn := Tryz.f185) (T := [(93, s93), (162, s162), (258, s258), (242, s242)]) (M := MM) (ann := a185) (by kernel_rfl) (by kernel_rfl) (by kernel_rfl) (by kernel_rfl) mix (.cons d93 (.cons d162 (.cons d258 (.cons d242 .nil)))) (e185 s93 s162 s258 s242)
set_option maxRecDepth 100000 in
theorem e107 (s183 s104 s184 s164 s185 s105 s186 : FS) : S107 s183 s104 s184 s164 s185 s105 s186 = fnF Tryz.prog [(183, s183), (104, s104), (184, s184), (164, s164), (185, s185), (105, s105), (186, s186)] MM Tryz.f107 a107 := by kernel_rfl
theorem d107 : SoundF Tryz.prog 107 s107 := sound_fn (fn := Tryz.f107) (T := [(183, s183), (104, s104), (184, s184), (164, s164), (185, s185), (105, s105), (186, s186)]) (M := MM) (ann := a107) (by kernel_rfl) (by kernel_rfl) (by kernel_rfl) (by kernel_rfl) mix (.cons d183 (.cons d104 (.cons d184 (.cons d164 (.cons d185 (.cons d105 (.cons d186 .nil))))))) (e107 s183 s104 s184 s164 s185 s105 s186)
set_option maxRecDepth 100000 in
theorem e260 : S260 = fnF Tryz.prog [] MM Tryz.f260 a260 := by kernel_rfl
theorem d260 : SoundF Tryz.prog 260 s260 := sound_fn (fn := Tryz.f260) (T := []) (M := MM) (ann := a260) (by kernel_rfl) (by kernel_rfl) (by kernel_rfl) (by kernel_rfl) mix .nil (e260)
set_option maxRecDepth 100000 in
theorem e285 (s260 : FS) : S285 s260 = fnF Tryz.prog [(260, s260)] MM Tryz.f285 a285 := by kernel_rfl
theorem d285 : SoundF Tryz.prog 285 s285 := sound_fn (fn := Tryz.f285) (T := [(260, s260)]) (M := MM) (ann := a285) (by kernel_rfl) (by kernel_rfl) (by kernel_rfl) (by kernel_rfl) mix (.cons d260 .nil) (e285 s260)
set_option maxRecDepth 100000 in
theorem e259 (s285 : FS) : S259 s285 = fnF Tryz.prog [(285, s285)] MM Tryz.f259 a259 := by kernel_rfl
theorem d259 : SoundF Tryz.prog 259 s259 := sound_fn (fn := Tryz.f259) (T := [(285, s285)]) (M := MM) (ann := a259) (by kernel_rfl) (by kernel_rfl) (by kernel_rfl) (by kernel_rfl) mix (.cons d285 .nil) (e259 s285)
set_option maxRecDepth 100000 in
theorem e189 (s259 : FS) : S189 s259 = fnF Tryz.prog [(259, s259)] MM Tryz.f189 a189 := by kernel_rfl
theorem d189 : SoundF Tryz.prog 189 s189 := sound_fn (fn := Tryz.f189) (T := [(259, s259)]) (M := MM) (ann := a189) (by kernel_rfl) (by kernel_rfl) (by kernel_rfl) (by kernel_rfl) mix (.cons d259 .nil) (e189 s259)
set_option maxRecDepth 100000 in
theorem e190 : S190 = fnF Tryz.prog [] MM Tryz.f190 a190 := by kernel_rfl
theorem d190 : SoundF Tryz.prog 190 s190 := sound_fn (fn := Tryz.f190) (T := []) (M := MM) (ann := a190) (by kernel_rfl) (by kernel_rfl) (by kernel_rfl) (by kernel_rfl) mix .nil (e190)
set_option maxRecDepth 100000 in
theorem e109 (s189 s190 s152 : FS) : S109 s189 s190 s152 = fnF Tryz.prog [(189, s189), (190, s190), (152, s152)] MM Tryz.f109 a109 := by kernel_rfl
theorem d109 : SoundF Tryz.prog 109 s109 := sound_fn (fn := Tryz.f109) (T := [(189, s189), (190, s190), (152, s152)]) (M := MM) (ann := a109) (by kernel_rfl) (by kernel_rfl) (by kernel_rfl) (by kernel_rfl) mix (.cons d189 (.cons d190 (.cons d152 .nil))) (e109 s189 s190 s152)
set_option maxRecDepth 100000 in
theorem e188 : S188 = fnF Tryz.prog [] MM Tryz.f188 a188 := by kernel_rfl
theorem d188 : SoundF Tryz.prog 188 s188 := sound_fn (fn := Tryz.f188) (T := []) (M := MM) (ann := a188) (by kernel_rfl) (by kernel_rfl) (by kernel_rfl) (by kernel_rfl) mix .nil (e188)
set_option maxRecDepth 100000 in
theorem e127 : S127 = fnF Tryz.prog [] MM Tryz.f127 a127 := by kernel_rfl
theorem d127 : SoundF Tryz.prog 127 s127 := sound_fn (fn := Tryz.f127) (T := []) (M := MM) (ann := a127) (by kernel_rfl) (by kernel_rfl) (by kernel_rfl) (by kernel_rfl) mix .nil (e127)
set_option maxRecDepth 100000 in
theorem e108 (s187 s188 s127 : FS) : S108 s187 s188 s127 = fnF Tryz.prog [(187, s187), (188, s188), (127, s127)] MM Tryz.f108 a108 := by kernel_rfl
theorem d108 : SoundF Tryz.prog 108 s108 := sound_fn (fn := Tryz.f108) (T := [(187, s187), (188, s188), (127, s127)]) (M := MM) (ann := a108) (by kernel_rfl) (by kernel_rfl) (by kernel_rfl) (by kernel_rfl) mix (.cons d187 (.cons d188 (.cons d127 .nil))) (e108 s187 s188 s127)
set_option maxRecDepth 100000 in
theorem e110 : S110 = fnF Tryz.prog [] MM Tryz.f110 a110 := by kernel_rfl
theorem d110 : SoundF Tryz.prog 110 s110 := sound_fn (fn := Tryz.f110) (T := []) (M := MM) (ann := a110) (by kernel_rfl) (by kernel_rfl) (by kernel_rfl) (by kernel_rfl) mix .nil (e110)
set_option maxRecDepth 100000 in
theorem e70 (s99 s100 s101 s103 s104 s105 s102 s106 s107 s109 s108 s110 : FS) : S70 s99 s100 s101 s103 s104 s105 s102 s106 s107 s109 s108 s110 = fnF Tryz.prog [(99, s99), (100, s100), (101, s101), (103, s103), (104, s104), (105, s105), (102, s102), (106, s106), (107, s107), (109, s109), (108, s108), (110, s110)] MM Tryz.f70 a70 := by kernel_rfl
theorem d70 : SoundF Tryz.prog 70 s70 := sound_fn (fn := Tryz.f70) (T := [(99, s99), (100, s100), (101, s101), (103, s103), (104, s104), (105, s105), (102, s102), (106, s106), (107, s107), (109, s109), (108, s108), (110, s110)]) (M := MM) (ann := a70) (by kernel_rfl) (by kernel_rfl) (by kernel_rfl) (by kernel_rfl) mix (.cons d99 (.cons d100 (.cons d101 (.cons d103 (.cons d104 (.cons d105 (.cons d102 (.cons d106 (.cons d107 (.cons d109 (.cons d108 (.cons d110 .nil)))))))))))) (e70 s99 s100 s101 s103 s104 s105 s102 s106 s107 s109 s108 s110)
set_option maxRecDepth 100000 in
theorem e191 (s180 : FS) : S191 s180 = fnF Tryz.prog [(180, s180)] MM Tryz.f191 a191 := by kernel_rfl
theorem d191 : SoundF Tryz.prog 191 s191 := sound_fn (fn := Tryz.f191) (T := [(180, s180)]) (M := MM) (ann := a191) (by kernel_rfl) (by kernel_rfl) (by kernel_rfl) (by kernel_rfl) mix (.cons d180 .nil) (e191 s180)
theorem d194 : SoundF Tryz.prog 194 s194 := sound_stub (fn := Tryz.f194) (by kernel_rfl) (by kernel_rfl) (by kernel_rfl)
set_option maxRecDepth 100000 in
theorem e192 (s194 : FS) : S192 s194 = fnF Tryz.prog [(194, s194)] MM Tryz.f192 a192 := by kernel_rfl
theorem d192 : SoundF Tryz.prog 192 s192 := sound_fn (fn := Tryz.f192) (T := [(194, s194)]) (M := MM) (ann := a192) (by kernel_rfl) (by kernel_rfl) (by kernel_rfl) (by kernel_rfl) mix (.cons d194 .nil) (e192 s194)
theorem d193 : SoundF Tryz.prog 193 s193 := sound_stub (fn := Tryz.f193) (by kernel_rfl) (by kernel_rfl) (by kernel_rfl)
set_option maxRecDepth 100000 in
theorem e111 (s191 s171 s192 s193 s194 s175 : FS) : S111 s191 s171 s192 s193 s194 s175 = fnF Tryz.prog [(191, s191), (171, s171), (192, s192), (193, s193), (194, s194), (175, s175)] MM Tryz.f111 a111 := by kernel_rfl
theorem d111 : SoundF Tryz.prog 111 s111 := sound_fn (fn := Tryz.f111) (T := [(191, s191), (171, s171), (192, s192), (193, s193), (194, s194), (175, s175)]) (M := MM) (ann := a111) (by kernel_rfl) (by kernel_rfl) (by kernel_rfl) (by kernel_rfl) mix (.cons d191 (.cons d171 (.cons d192 (.cons d193 (.cons d194 (.cons d175 .nil)))))) (e111 s191 s171 s192 s193 s194 s175)
set_option maxRecDepth 100000 in
theorem e71 (s111 : FS) : S71 s111 = fnF Tryz.prog [(111, s111)] MM Tryz.f71 a71 := by kernel_rfl
theorem d71 : SoundF Tryz.prog 71 s71 := sound_fn (fn := Tryz.f71) (T := [(111, s111)]) (M := MM) (ann := a71) (by kernel_rfl) (by kernel_rfl) (by kernel_rfl) (by kernel_rfl) mix (.cons d111 .nil) (e71 s111)
set_option maxRecDepth 100000 in
theorem e44 (s68 s69 s70 s71 : FS) : S44 s68 s69 s70 s71 = fnF Tryz.prog [(68, s68), (69, s69), (70, s70), (71, s71)] MM Tryz.f44 a44 := by kernel_rfl
theorem d44 : SoundF Tryz.prog 44 s44 := sound_fn (fn := Tryz.f44) (T := [(68, s68), (69, s69), (70, s70), (71, s71)]) (M := MM) (ann := a44) (by kernel_rfl) (by kernel_rfl) (by kernel_rfl) (by kernel_rfl) mix (.cons d68 (.cons d69 (.cons d70 (.cons d71 .nil)))) (e44 s68 s69 s70 s71)
set_option maxRecDepth 100000 in
theorem e14 (s44 : FS) : S14 s44 = fnF Tryz.prog [(44, s44)] MM Tryz.f14 a14 := by kernel_rfl
theorem d14 : SoundF Tryz.prog 14 s14 := sound_fn (fn := Tryz.f14) (T := [(44, s44)]) (M := MM) (ann := a14) (by kernel_rfl) (by kernel_rfl) (by kernel_rfl) (by kernel_rfl) mix (.cons d44 .nil) (e14 s44)
set_option maxRecDepth 100000 in
theorem e16 : S16 = fnF Tryz.prog [] MM Tryz.f16 a16 := by kernel_rfl
theorem d16 : SoundF Tryz.prog 16 s16 := sound_fn (fn := Tryz.f16) (T := []) (M := MM) (ann := a16) (by kernel_rfl) (by kernel_rfl) (by kernel_rfl) (by kernel_rfl) mix .nil (e16)
set_option maxRecDepth 100000 in
theorem e17 : S17 = fnF Tryz.prog [] MM Tryz.f17 a17 := by kernel_rfl
theorem d17 : SoundF Tryz.prog 17 s17 := sound_fn (fn := Tryz.f17) (T := []) (M := MM) (ann := a17) (by kernel_rfl) (by kernel_rfl) (by kernel_rfl) (by kernel_rfl) mix .nil (e17)
set_option maxRecDepth 100000 in
theorem e22 : S22 = fnF Tryz.prog [] MM Tryz.f22 a22 := by kernel_rfl
theorem d22 : SoundF Tryz.prog 22 s22 := sound_fn (fn := Tryz.f22) (T := []) (M := MM) (ann := a22) (by kernel_rfl) (by kernel_rfl) (by kernel_rfl) (by kernel_rfl) mix .nil (e22)
set_option maxRecDepth 100000 in
theorem e45 : S45 = fnF Tryz.prog [] MM Tryz.f45 a45 := by kernel_rfl
theorem d45 : SoundF Tryz.prog 45 s45 := sound_fn (fn := Tryz.f45) (T := []) (M := MM) (ann := a45) (by kernel_rfl) (by kernel_rfl) (by kernel_rfl) (by kernel_rfl) mix .nil (e45)
set_option maxRecDepth 100000 in
theorem e73 : S73 = fnF Tryz.prog [] MM Tryz.f73 a73 := by kernel_rfl
theorem d73 : SoundF Tryz.prog 73 s73 := sound_fn (fn := Tryz.f73) (T := []) (M := MM) (ann := a73) (by kernel_rfl) (by kernel_rfl) (by kernel_rfl) (by kernel_rfl) mix .nil (e73)
set_option maxRecDepth 100000 in
theorem e168 : S168 = fnF Tryz.prog [] MM Tryz.f168 a168 := by kernel_rfl
theorem d168 : SoundF Tryz.prog 168 s168 := sound_fn (fn := Tryz.f168) (T := []) (M := MM) (ann := a168) (by kernel_rfl) (by kernel_rfl) (by kernel_rfl) (by kernel_rfl) mix .nil (e168)
set_option maxRecDepth 100000 in
theorem e165 (s99 : FS) : S165 s99 = fnF Tryz.prog [(99, s99)] MM Tryz.f165 a165 := by kernel_rfl
theorem d165 : SoundF Tryz.prog 165 s165 := sound_fn (fn := Tryz.f165) (T := [(99, s99)]) (M := MM) (ann := a165) (by kernel_rfl) (by kernel_rfl) (by kernel_rfl) (by kernel_rfl) mix (.cons d99 .nil) (e165 s99)
set_option maxRecDepth 100000 in
theorem e201 (s127 s168 s165 : FS) : S201 s127 s168 s165 = fnF Tryz.prog [(127, s127), (168, s168), (165, s165)] MM Tryz.f201 a201 := by kernel_rfl
theorem d201 : SoundF Tryz.prog 201 s201 := sound_fn (fn := Tryz.f201) (T := [(127, s127), (168, s168), (165, s165)]) (M := MM) (ann := a201) (by kernel_rfl) (by kernel_rfl) (by kernel_rfl) (by kernel_rfl) mix (.cons d127 (.cons d168 (.cons d165 .nil))) (e201 s127 s168 s165)
set_option maxRecDepth 100000 in
theorem e118 (s127 s201 : FS) : S118 s127 s201 = fnF Tryz.prog [(127, s127), (201, s201)] MM Tryz.f118 a118 := by kernel_rfl
theorem d118 : SoundF Tryz.prog 118 s118 := sound_fn (fn := Tryz.f118) (T := [(127, s127), (201, s201)]) (M := MM) (ann := a118) (by kernel_rfl) (by kernel_rfl) (by kernel_rfl) (by kernel_rfl) mix (.cons d127 (.cons d201 .nil)) (e118 s127 s201)
set_option maxRecDepth 100000 in
theorem e128 (s118 : FS) : S128 s118 = fnF Tryz.prog [(118, s118)] MM Tryz.f128 a128 := by kernel_rfl
theorem d128 : SoundF Tryz.prog 128 s128 := sound_fn (fn := Tryz.f128) (T := [(118, s118)]) (M := MM) (ann := a128) (by kernel_rfl) (by kernel_rfl) (by kernel_rfl) (by kernel_rfl) mix (.cons d118 .nil) (e128 s118)
set_option maxRecDepth 100000 in
theorem e275 : S275 = fnF Tryz.prog [] MM Tryz.f275 a275 := by kernel_rfl
theorem d275 : SoundF Tryz.prog 275 s275 := sound_fn (fn := Tryz.f275) (T := []) (M := MM) (ann := a275) (by kernel_rfl) (by kernel_rfl) (by kernel_rfl) (by kernel_rfl) mix .nil (e275)
set_option maxRecDepth 100000 in
theorem e235 (s275 : FS) : S235 s275 = fnF Tryz.prog [(275, s275)] MM Tryz.f235 a235 := by kernel_rfl
theorem d235 : SoundF Tryz.prog 235 s235 := sound_fn (fn := Tryz.f235) (T := [(275, s275)]) (M := MM) (ann := a235) (by kernel_rfl) (by kernel_rfl) (by kernel_rfl) (by kernel_rfl) mix (.cons d275 .nil) (e235 s275)
set_option maxRecDepth 100000 in
theorem e129 : S129 = fnF Tryz.prog [] MM Tryz.f129 a129 := by kernel_rfl
theorem d129 : SoundF Tryz.prog 129 s129 := sound_fn (fn := Tryz.f129) (T := []) (M := MM) (ann := a129) (by kernel_rfl) (by kernel_rfl) (by kernel_rfl) (by kernel_rfl) mix .nil (e129)
set_option maxRecDepth 100000 in
theorem e126 (s127 s168 : FS) : S126 s127 s168 = fnF Tryz.prog [(127, s127), (168, s168)] MM Tryz.f126 a126 := by kernel_rfl
theorem d126 : SoundF Tryz.prog 126 s126 := sound_fn (fn := Tryz.f126) (T := [(127, s127), (168, s168)]) (M := MM) (ann := a126) (by kernel_rfl) (by kernel_rfl) (by kernel_rfl) (by kernel_rfl) mix (.cons d127 (.cons d168 .nil)) (e126 s127 s168)
set_option maxRecDepth 100000 in
theorem e116 (s168 s127 s152 : FS) : S116 s168 s127 s152 = fnF Tryz.prog [(168, s168), (127, s127), (152, s152)] MM Tryz.f116 a116 := by kernel_rfl
theorem d116 : SoundF Tryz.prog 116 s116 := sound_fn (fn := Tryz.f116) (T := [(168, s168), (127, s127), (152, s152)]) (M := MM) (ann := a116) (by kernel_rfl) (by kernel_rfl) (by kernel_rfl) (by kernel_rfl) mix (.cons d168 (.cons d127 (.cons d152 .nil))) (e116 s168 s127 s152)
end Go.Proofs.YtcdpilgndhledaaGreatDoor
