/-
  No claim by itself: the functions do what their texts mean. No condition.
-/
import Derived.Test.YtcdpilgndhledaaGreatDoorTG1
namespace Go.Proofs.YtcdpilgndhledaaGreatDoor
set_option linter.unusedVariables false
set_option maxRecDepth 100000 in
theorem e266 : S266 = fnF Tryz.prog [] MM Tryz.f266 a266 := by kernel_rfl
theorem d266 : SoundF Tryz.prog 266 s266 := sound_fn (fn := Tryz.f266) (T := []) (M := MM) (ann := a266) (by kernel_rfl) (by kernel_rfl) (by kernel_rfl) (by kernel_rfl) mix .nil (e266)
set_option maxRecDepth 100000 in
theorem e264 (s275 s266 : FS) : S264 s275 s266 = fnF Tryz.prog [(275, s275), (266, s266)] MM Tryz.f264 a264 := by kernel_rfl
theorem d264 : SoundF Tryz.prog 264 s264 := sound_fn (fn := Tryz.f264) (T := [(275, s275), (266, s266)]) (M := MM) (ann := a264) (by kernel_rfl) (by kernel_rfl) (by kernel_rfl) (by kernel_rfl) mix (.cons d275 (.cons d266 .nil)) (e264 s275 s266)
set_option maxRecDepth 100000 in
theorem e202 (s235 s168 s188 s129 s126 s116 s264 : FS) : S202 s235 s168 s188 s129 s126 s116 s264 = fnF Tryz.prog [(235, s235), (168, s168), (188, s188), (129, s129), (126, s126), (116, s116), (264, s264)] MM Tryz.f202 a202 := by kernel_rfl
theorem d202 : SoundF Tryz.prog 202 s202 := sound_fn (fn := Tryz.f202) (T := [(235, s235), (168, s168), (188, s188), (129, s129), (126, s126), (116, s116), (264, s264)]) (M := MM) (ann := a202) (by kernel_rfl) (by kernel_rfl) (by kernel_rfl) (by kernel_rfl) mix (.cons d235 (.cons d168 (.cons d188 (.cons d129 (.cons d126 (.cons d116 (.cons d264 .nil))))))) (e202 s235 s168 s188 s129 s126 s116 s264)
set_option maxRecDepth 100000 in
theorem e119 (s128 s202 : FS) : S119 s128 s202 = fnF Tryz.prog [(128, s128), (202, s202)] MM Tryz.f119 a119 := by kernel_rfl
theorem d119 : SoundF Tryz.prog 119 s119 := sound_fn (fn := Tryz.f119) (T := [(128, s128), (202, s202)]) (M := MM) (ann := a119) (by kernel_rfl) (by kernel_rfl) (by kernel_rfl) (by kernel_rfl) mix (.cons d128 (.cons d202 .nil)) (e119 s128 s202)
set_option maxRecDepth 100000 in
theorem e265 : S265 = fnF Tryz.prog [] MM Tryz.f265 a265 := by kernel_rfl
theorem d265 : SoundF Tryz.prog 265 s265 := sound_fn (fn := Tryz.f265) (T := []) (M := MM) (ann := a265) (by kernel_rfl) (by kernel_rfl) (by kernel_rfl) (by kernel_rfl) mix .nil (e265)
set_option maxRecDepth 100000 in
theorem e203 (s265 : FS) : S203 s265 = fnF Tryz.prog [(265, s265)] MM Tryz.f203 a203 := by kernel_rfl
theorem d203 : SoundF Tryz.prog 203 s203 := sound_fn (fn := Tryz.f203) (T := [(265, s265)]) (M := MM) (ann := a203) (by kernel_rfl) (by kernel_rfl) (by kernel_rfl) (by kernel_rfl) mix (.cons d265 .nil) (e203 s265)
set_option maxRecDepth 100000 in
theorem e120 (s203 : FS) : S120 s203 = fnF Tryz.prog [(203, s203)] MM Tryz.f120 a120 := by kernel_rfl
theorem d120 : SoundF Tryz.prog 120 s120 := sound_fn (fn := Tryz.f120) (T := [(203, s203)]) (M := MM) (ann := a120) (by kernel_rfl) (by kernel_rfl) (by kernel_rfl) (by kernel_rfl) mix (.cons d203 .nil) (e120 s203)
set_option maxRecDepth 100000 in
theorem e121 : S121 = fnF Tryz.prog [] MM Tryz.f121 a121 := by kernel_rfl
theorem d121 : SoundF Tryz.prog 121 s121 := sound_fn (fn := Tryz.f121) (T := []) (M := MM) (ann := a121) (by kernel_rfl) (by kernel_rfl) (by kernel_rfl) (by kernel_rfl) mix .nil (e121)
set_option maxRecDepth 100000 in
theorem e204 : S204 = fnF Tryz.prog [] MM Tryz.f204 a204 := by kernel_rfl
theorem d204 : SoundF Tryz.prog 204 s204 := sound_fn (fn := Tryz.f204) (T := []) (M := MM) (ann := a204) (by kernel_rfl) (by kernel_rfl) (by kernel_rfl) (by kernel_rfl) mix .nil (e204)
set_option maxRecDepth 100000 in
theorem e122 (s99 s204 : FS) : S122 s99 s204 = fnF Tryz.prog [(99, s99), (204, s204)] MM Tryz.f122 a122 := by kernel_rfl
theorem d122 : SoundF Tryz.prog 122 s122 := sound_fn (fn := Tryz.f122) (T := [(99, s99), (204, s204)]) (M := MM) (ann := a122) (by kernel_rfl) (by kernel_rfl) (by kernel_rfl) (by kernel_rfl) mix (.cons d99 (.cons d204 .nil)) (e122 s99 s204)
set_option maxRecDepth 100000 in
theorem e205 (s120 : FS) : S205 s120 = fnF Tryz.prog [(120, s120)] MM Tryz.f205 a205 := by kernel_rfl
theorem d205 : SoundF Tryz.prog 205 s205 := sound_fn (fn := Tryz.f205) (T := [(120, s120)]) (M := MM) (ann := a205) (by kernel_rfl) (by kernel_rfl) (by kernel_rfl) (by kernel_rfl) mix (.cons d120 .nil) (e205 s120)
set_option maxRecDepth 100000 in
theorem e123 (s205 : FS) : S123 s205 = fnF Tryz.prog [(205, s205)] MM Tryz.f123 a123 := by kernel_rfl
theorem d123 : SoundF Tryz.prog 123 s123 := sound_fn (fn := Tryz.f123) (T := [(205, s205)]) (M := MM) (ann := a123) (by kernel_rfl) (by kernel_rfl) (by kernel_rfl) (by kernel_rfl) mix (.cons d205 .nil) (e123 s205)
set_option maxRecDepth 100000 in
theorem e206 (s120 s99 : FS) : S206 s120 s99 = fnF Tryz.prog [(120, s120), (99, s99)] MM Tryz.f206 a206 := by kernel_rfl
theorem d206 : SoundF Tryz.prog 206 s206 := sound_fn (fn := Tryz.f206) (T := [(120, s120), (99, s99)]) (M := MM) (ann := a206) (by kernel_rfl) (by kernel_rfl) (by kernel_rfl) (by kernel_rfl) mix (.cons d120 (.cons d99 .nil)) (e206 s120 s99)
set_option maxRecDepth 100000 in
theorem e124 (s206 : FS) : S124 s206 = fnF Tryz.prog [(206, s206)] MM Tryz.f124 a124 := by kernel_rfl
theorem d124 : SoundF Tryz.prog 124 s124 := sound_fn (fn := Tryz.f124) (T := [(206, s206)]) (M := MM) (ann := a124) (by kernel_rfl) (by kernel_rfl) (by kernel_rfl) (by kernel_rfl) mix (.cons d206 .nil) (e124 s206)
set_option maxRecDepth 100000 in
theorem e207 (s266 : FS) : S207 s266 = fnF Tryz.prog [(266, s266)] MM Tryz.f207 a207 := by kernel_rfl
theorem d207 : SoundF Tryz.prog 207 s207 := sound_fn (fn := Tryz.f207) (T := [(266, s266)]) (M := MM) (ann := a207) (by kernel_rfl) (by kernel_rfl) (by kernel_rfl) (by kernel_rfl) mix (.cons d266 .nil) (e207 s266)
set_option maxRecDepth 100000 in
theorem e167 (s126 : FS) : S167 s126 = fnF Tryz.prog [(126, s126)] MM Tryz.f167 a167 := by kernel_rfl
theorem d167 : SoundF Tryz.prog 167 s167 := sound_fn (fn := Tryz.f167) (T := [(126, s126)]) (M := MM) (ann := a167) (by kernel_rfl) (by kernel_rfl) (by kernel_rfl) (by kernel_rfl) mix (.cons d126 .nil) (e167 s126)
set_option maxRecDepth 100000 in
theorem e232 (s127 s190 s167 s168 s126 : FS) : S232 s127 s190 s167 s168 s126 = fnF Tryz.prog [(127, s127), (190, s190), (167, s167), (168, s168), (126, s126)] MM Tryz.f232 a232 := by kernel_rfl
theorem d232 : SoundF Tryz.prog 232 s232 := sound_fn (fn := Tryz.f232) (T := [(127, s127), (190, s190), (167, s167), (168, s168), (126, s126)]) (M := MM) (ann := a232) (by kernel_rfl) (by kernel_rfl) (by kernel_rfl) (by kernel_rfl) mix (.cons d127 (.cons d190 (.cons d167 (.cons d168 (.cons d126 .nil))))) (e232 s127 s190 s167 s168 s126)
set_option maxRecDepth 100000 in
theorem e231 : S231 = fnF Tryz.prog [] MM Tryz.f231 a231 := by kernel_rfl
theorem d231 : SoundF Tryz.prog 231 s231 := sound_fn (fn := Tryz.f231) (T := []) (M := MM) (ann := a231) (by kernel_rfl) (by kernel_rfl) (by kernel_rfl) (by kernel_rfl) mix .nil (e231)
set_option maxRecDepth 100000 in
theorem e169 (s127 s232 s231 : FS) : S169 s127 s232 s231 = fnF Tryz.prog [(127, s127), (232, s232), (231, s231)] MM Tryz.f169 a169 := by kernel_rfl
theorem d169 : SoundF Tryz.prog 169 s169 := sound_fn (fn := Tryz.f169) (T := [(127, s127), (232, s232), (231, s231)]) (M := MM) (ann := a169) (by kernel_rfl) (by kernel_rfl) (by kernel_rfl) (by kernel_rfl) mix (.cons d127 (.cons d232 (.cons d231 .nil))) (e169 s127 s232 s231)
set_option maxRecDepth 100000 in
theorem e327 : S327 = fnF Tryz.prog [] MM Tryz.f327 a327 := by kernel_rfl
theorem d327 : SoundF Tryz.prog 327 s327 := sound_fn (fn := Tryz.f327) (T := []) (M := MM) (ann := a327) (by kernel_rfl) (by kernel_rfl) (by kernel_rfl) (by kernel_rfl) mix .nil (e327)
set_option maxRecDepth 100000 in
theorem e320 (s327 : FS) : S320 s327 = fnF Tryz.prog [(327, s327)] MM Tryz.f320 a320 := by kernel_rfl
theorem d320 : SoundF Tryz.prog 320 s320 := sound_fn (fn := Tryz.f320) (T := [(327, s327)]) (M := MM) (ann := a320) (by kernel_rfl) (by kernel_rfl) (by kernel_rfl) (by kernel_rfl) mix (.cons d327 .nil) (e320 s327)
set_option maxRecDepth 100000 in
theorem e314 (s320 : FS) : S314 s320 = fnF Tryz.prog [(320, s320)] MM Tryz.f314 a314 := by kernel_rfl
theorem d314 : SoundF Tryz.prog 314 s314 := sound_fn (fn := Tryz.f314) (T := [(320, s320)]) (M := MM) (ann := a314) (by kernel_rfl) (by kernel_rfl) (by kernel_rfl) (by kernel_rfl) mix (.cons d320 .nil) (e314 s320)
theorem d315 : SoundF Tryz.prog 315 s315 := sound_stub (fn := Tryz.f315) (by kernel_rfl) (by kernel_rfl) (by kernel_rfl)
theorem d316 : SoundF Tryz.prog 316 s316 := sound_stub (fn := Tryz.f316) (by kernel_rfl) (by kernel_rfl) (by kernel_rfl)
theorem d317 : SoundF Tryz.prog 317 s317 := sound_stub (fn := Tryz.f317) (by kernel_rfl) (by kernel_rfl) (by kernel_rfl)
theorem d318 : SoundF Tryz.prog 318 s318 := sound_stub (fn := Tryz.f318) (by kernel_rfl) (by kernel_rfl) (by kernel_rfl)
theorem d319 : SoundF Tryz.prog 319 s319 := sound_stub (fn := Tryz.f319) (by kernel_rfl) (by kernel_rfl) (by kernel_rfl)
theorem d321 : SoundF Tryz.prog 321 s321 := sound_stub (fn := Tryz.f321) (by kernel_rfl) (by kernel_rfl) (by kernel_rfl)
theorem d322 : SoundF Tryz.prog 322 s322 := sound_stub (fn := Tryz.f322) (by kernel_rfl) (by kernel_rfl) (by kernel_rfl)
set_option maxRecDepth 100000 in
theorem e307 (s314 s315 s316 s317 s318 s319 s320 s321 s322 s307 : FS) : S307 s314 s315 s316 s317 s318 s319 s320 s321 s322 s307 = fnF Tryz.prog [(314, s314), (315, s315), (316, s316), (317, s317), (318, s318), (319, s319), (320, s320), (321, s321), (322, s322), (307, s307)] MM Tryz.f307 a307 := by kernel_rfl
theorem d307 : SoundF Tryz.prog 307 s307 := sound_fn (fn := Tryz.f307) (T := [(314, s314), (315, s315), (316, s316), (317, s317), (318, s318), (319, s319), (320, s320), (321, s321), (322, s322), (307, sx)]) (M := MM) (ann := a307) (by kernel_rfl) (by kernel_rfl) (by kernel_rfl) (by kernel_rfl) mix (.cons d314 (.cons d315 (.cons d316 (.cons d317 (.cons d318 (.cons d319 (.cons d320 (.cons d321 (.cons d322 (.cons (sound_stub (fn := Tryz.f307) (by kernel_rfl) (by kernel_rfl) (by kernel_rfl)) .nil)))))))))) (e307 s314 s315 s316 s317 s318 s319 s320 s321 s322 sx)
set_option maxRecDepth 100000 in
theorem e289 (s283 s307 : FS) : S289 s283 s307 = fnF Tryz.prog [(283, s283), (307, s307)] MM Tryz.f289 a289 := by kernel_rfl
theorem d289 : SoundF Tryz.prog 289 s289 := sound_fn (fn := Tryz.f289) (T := [(283, s283), (307, s307)]) (M := MM) (ann := a289) (by kernel_rfl) (by kernel_rfl) (by kernel_rfl) (by kernel_rfl) mix (.cons d283 (.cons d307 .nil)) (e289 s283 s307)
set_option maxRecDepth 100000 in
theorem e280 (s99 s289 : FS) : S280 s99 s289 = fnF Tryz.prog [(99, s99), (289, s289)] MM Tryz.f280 a280 := by kernel_rfl
theorem d280 : SoundF Tryz.prog 280 s280 := sound_fn (fn := Tryz.f280) (T := [(99, s99), (289, s289)]) (M := MM) (ann := a280) (by kernel_rfl) (by kernel_rfl) (by kernel_rfl) (by kernel_rfl) mix (.cons d99 (.cons d289 .nil)) (e280 s99 s289)
set_option maxRecDepth 100000 in
theorem e245 (s275 s280 : FS) : S245 s275 s280 = fnF Tryz.prog [(275, s275), (280, s280)] MM Tryz.f245 a245 := by kernel_rfl
theorem d245 : SoundF Tryz.prog 245 s245 := sound_fn (fn := Tryz.f245) (T := [(275, s275), (280, s280)]) (M := MM) (ann := a245) (by kernel_rfl) (by kernel_rfl) (by kernel_rfl) (by kernel_rfl) mix (.cons d275 (.cons d280 .nil)) (e245 s275 s280)
set_option maxRecDepth 100000 in
theorem e170 (s118 s127 s245 s167 s120 : FS) : S170 s118 s127 s245 s167 s120 = fnF Tryz.prog [(118, s118), (127, s127), (245, s245), (167, s167), (120, s120)] MM Tryz.f170 a170 := by kernel_rfl
theorem d170 : SoundF Tryz.prog 170 s170 := sound_fn (fn := Tryz.f170) (T := [(118, s118), (127, s127), (245, s245), (167, s167), (120, s120)]) (M := MM) (ann := a170) (by kernel_rfl) (by kernel_rfl) (by kernel_rfl) (by kernel_rfl) mix (.cons d118 (.cons d127 (.cons d245 (.cons d167 (.cons d120 .nil))))) (e170 s118 s127 s245 s167 s120)
set_option maxRecDepth 100000 in
theorem e125 (s127 s207 s168 s116 s169 s170 s119 : FS) : S125 s127 s207 s168 s116 s169 s170 s119 = fnF Tryz.prog [(127, s127), (207, s207), (168, s168), (116, s116), (169, s169), (170, s170), (119, s119)] MM Tryz.f125 a125 := by kernel_rfl
theorem d125 : SoundF Tryz.prog 125 s125 := sound_fn (fn := Tryz.f125) (T := [(127, s127), (207, s207), (168, s168), (116, s116), (169, s169), (170, s170), (119, s119)]) (M := MM) (ann := a125) (by kernel_rfl) (by kernel_rfl) (by kernel_rfl) (by kernel_rfl) mix (.cons d127 (.cons d207 (.cons d168 (.cons d116 (.cons d169 (.cons d170 (.cons d119 .nil))))))) (e125 s127 s207 s168 s116 s169 s170 s119)
set_option maxRecDepth 100000 in
theorem e130 : S130 = fnF Tryz.prog [] MM Tryz.f130 a130 := by kernel_rfl
theorem d130 : SoundF Tryz.prog 130 s130 := sound_fn (fn := Tryz.f130) (T := []) (M := MM) (ann := a130) (by kernel_rfl) (by kernel_rfl) (by kernel_rfl) (by kernel_rfl) mix .nil (e130)
set_option maxRecDepth 100000 in
theorem e75 (s118 s119 s120 s121 s122 s123 s124 s125 s127 s126 s128 s129 s130 : FS) : S75 s118 s119 s120 s121 s122 s123 s124 s125 s127 s126 s128 s129 s130 = fnF Tryz.prog [(118, s118), (119, s119), (120, s120), (121, s121), (122, s122), (123, s123), (124, s124), (125, s125), (127, s127), (126, s126), (128, s128), (129, s129), (130, s130)] MM Tryz.f75 a75 := by kernel_rfl
theorem d75 : SoundF Tryz.prog 75 s75 := sound_fn (fn := Tryz.f75) (T := [(118, s118), (119, s119), (120, s120), (121, s121), (122, s122), (123, s123), (124, s124), (125, s125), (127, s127), (126, s126), (128, s128), (129, s129), (130, s130)]) (M := MM) (ann := a75) (by kernel_rfl) (by kernel_rfl) (by kernel_rfl) (by kernel_rfl) mix (.cons d118 (.cons d119 (.cons d120 (.cons d121 (.cons d122 (.cons d123 (.cons d124 (.cons d125 (.cons d127 (.cons d126 (.cons d128 (.cons d129 (.cons d130 .nil))))))))))))) (e75 s118 s119 s120 s121 s122 s123 s124 s125 s127 s126 s128 s129 s130)
set_option maxRecDepth 100000 in
theorem e18 : S18 = fnF Tryz.prog [] MM Tryz.f18 a18 := by kernel_rfl
theorem d18 : SoundF Tryz.prog 18 s18 := sound_fn (fn := Tryz.f18) (T := []) (M := MM) (ann := a18) (by kernel_rfl) (by kernel_rfl) (by kernel_rfl) (by kernel_rfl) mix .nil (e18)
set_option maxRecDepth 100000 in
theorem e209 (s253 : FS) : S209 s253 = fnF Tryz.prog [(253, s253)] MM Tryz.f209 a209 := by kernel_rfl
theorem d209 : SoundF Tryz.prog 209 s209 := sound_fn (fn := Tryz.f209) (T := [(253, s253)]) (M := MM) (ann := a209) (by kernel_rfl) (by kernel_rfl) (by kernel_rfl) (by kernel_rfl) mix (.cons d253 .nil) (e209 s253)
set_option maxRecDepth 100000 in
theorem e262 (s179 s209 : FS) : S262 s179 s209 = fnF Tryz.prog [(179, s179), (209, s209)] MM Tryz.f262 a262 := by kernel_rfl
theorem d262 : SoundF Tryz.prog 262 s262 := sound_fn (fn := Tryz.f262) (T := [(179, s179), (209, s209)]) (M := MM) (ann := a262) (by kernel_rfl) (by kernel_rfl) (by kernel_rfl) (by kernel_rfl) mix (.cons d179 (.cons d209 .nil)) (e262 s179 s209)
set_option maxRecDepth 100000 in
theorem e198 (s187 s106 s263 s262 : FS) : S198 s187 s106 s263 s262 = fnF Tryz.prog [(187, s187), (106, s106), (263, s263), (262, s262)] MM Tryz.f198 a198 := by kernel_rfl
theorem d198 : SoundF Tryz.prog 198 s198 := sound_fn (fn := Tryz.f198) (T := [(187, s187), (106, s106), (263, s263), (262, s262)]) (M := MM) (ann := a198) (by kernel_rfl) (by kernel_rfl) (by kernel_rfl) (by kernel_rfl) mix (.cons d187 (.cons d106 (.cons d263 (.cons d262 .nil)))) (e198 s187 s106 s263 s262)
set_option maxRecDepth 100000 in
theorem e115 : S115 = fnF Tryz.prog [] MM Tryz.f115 a115 := by kernel_rfl
theorem d115 : SoundF Tryz.prog 115 s115 := sound_fn (fn := Tryz.f115) (T := []) (M := MM) (ann := a115) (by kernel_rfl) (by kernel_rfl) (by kernel_rfl) (by kernel_rfl) mix .nil (e115)
set_option maxRecDepth 100000 in
theorem e199 (s106 s187 s263 s262 : FS) : S199 s106 s187 s263 s262 = fnF Tryz.prog [(106, s106), (187, s187), (263, s263), (262, s262)] MM Tryz.f199 a199 := by kernel_rfl
theorem d199 : SoundF Tryz.prog 199 s199 := sound_fn (fn := Tryz.f199) (T := [(106, s106), (187, s187), (263, s263), (262, s262)]) (M := MM) (ann := a199) (by kernel_rfl) (by kernel_rfl) (by kernel_rfl) (by kernel_rfl) mix (.cons d106 (.cons d187 (.cons d263 (.cons d262 .nil)))) (e199 s106 s187 s263 s262)
set_option maxRecDepth 100000 in
theorem e210 : S210 = fnF Tryz.prog [] MM Tryz.f210 a210 := by kernel_rfl
theorem d210 : SoundF Tryz.prog 210 s210 := sound_fn (fn := Tryz.f210) (T := []) (M := MM) (ann := a210) (by kernel_rfl) (by kernel_rfl) (by kernel_rfl) (by kernel_rfl) mix .nil (e210)
set_option maxRecDepth 100000 in
theorem e200 (s210 : FS) : S200 s210 = fnF Tryz.prog [(210, s210)] MM Tryz.f200 a200 := by kernel_rfl
theorem d200 : SoundF Tryz.prog 200 s200 := sound_fn (fn := Tryz.f200) (T := [(210, s210)]) (M := MM) (ann := a200) (by kernel_rfl) (by kernel_rfl) (by kernel_rfl) (by kernel_rfl) mix (.cons d210 .nil) (e200 s210)
set_option maxRecDepth 100000 in
theorem e113 (s18 s198 s115 s188 s102 s110 s107 s116 s199 s200 : FS) : S113 s18 s198 s115 s188 s102 s110 s107 s116 s199 s200 = fnF Tryz.prog [(18, s18), (198, s198), (115, s115), (188, s188), (102, s102), (110, s110), (107, s107), (116, s116), (199, s199), (200, s200)] MM Tryz.f113 a113 := by kernel_rfl
theorem d113 : SoundF Tryz.prog 113 s113 := sound_fn (fn := Tryz.f113) (T := [(18, s18), (198, s198), (115, s115), (188, s188), (102, s102), (110, s110), (107, s107), (116, s116), (199, s199), (200, s200)]) (M := MM) (ann := a113) (by kernel_rfl) (by kernel_rfl) (by kernel_rfl) (by kernel_rfl) mix (.cons d18 (.cons d198 (.cons d115 (.cons d188 (.cons d102 (.cons d110 (.cons d107 (.cons d116 (.cons d199 (.cons d200 .nil)))))))))) (e113 s18 s198 s115 s188 s102 s110 s107 s116 s199 s200)
set_option maxRecDepth 100000 in
theorem e114 : S114 = fnF Tryz.prog [] MM Tryz.f114 a114 := by kernel_rfl
theorem d114 : SoundF Tryz.prog 114 s114 := sound_fn (fn := Tryz.f114) (T := []) (M := MM) (ann := a114) (by kernel_rfl) (by kernel_rfl) (by kernel_rfl) (by kernel_rfl) mix .nil (e114)
set_option maxRecDepth 100000 in
theorem e138 (s142 : FS) : S138 s142 = fnF Tryz.prog [(142, s142)] MM Tryz.f138 a138 := by kernel_rfl
theorem d138 : SoundF Tryz.prog 138 s138 := sound_fn (fn := Tryz.f138) (T := [(142, s142)]) (M := MM) (ann := a138) (by kernel_rfl) (by kernel_rfl) (by kernel_rfl) (by kernel_rfl) mix (.cons d142 .nil) (e138 s142)
set_option maxRecDepth 100000 in
theorem e117 (s164 s185 s138 : FS) : S117 s164 s185 s138 = fnF Tryz.prog [(164, s164), (185, s185), (138, s138)] MM Tryz.f117 a117 := by kernel_rfl
theorem d117 : SoundF Tryz.prog 117 s117 := sound_fn (fn := Tryz.f117) (T := [(164, s164), (185, s185), (138, s138)]) (M := MM) (ann := a117) (by kernel_rfl) (by kernel_rfl) (by kernel_rfl) (by kernel_rfl) mix (.cons d164 (.cons d185 (.cons d138 .nil))) (e117 s164 s185 s138)
set_option maxRecDepth 100000 in
theorem e74 (s113 s110 s114 s115 s116 s117 : FS) : S74 s113 s110 s114 s115 s116 s117 = fnF Tryz.prog [(113, s113), (110, s110), (114, s114), (115, s115), (116, s116), (117, s117)] MM Tryz.f74 a74 := by kernel_rfl
theorem d74 : SoundF Tryz.prog 74 s74 := sound_fn (fn := Tryz.f74) (T := [(113, s113), (110, s110), (114, s114), (115, s115), (116, s116), (117, s117)]) (M := MM) (ann := a74) (by kernel_rfl) (by kernel_rfl) (by kernel_rfl) (by kernel_rfl) mix (.cons d113 (.cons d110 (.cons d114 (.cons d115 (.cons d116 (.cons d117 .nil)))))) (e74 s113 s110 s114 s115 s116 s117)
set_option maxRecDepth 100000 in
theorem e47 (s73 s75 s74 : FS) : S47 s73 s75 s74 = fnF Tryz.prog [(73, s73), (75, s75), (74, s74)] MM Tryz.f47 a47 := by kernel_rfl
theorem d47 : SoundF Tryz.prog 47 s47 := sound_fn (fn := Tryz.f47) (T := [(73, s73), (75, s75), (74, s74)]) (M := MM) (ann := a47) (by kernel_rfl) (by kernel_rfl) (by kernel_rfl) (by kernel_rfl) mix (.cons d73 (.cons d75 (.cons d74 .nil))) (e47 s73 s75 s74)
set_option maxRecDepth 100000 in
theorem e195 : S195 = fnF Tryz.prog [] MM Tryz.f195 a195 := by kernel_rfl
theorem d195 : SoundF Tryz.prog 195 s195 := sound_fn (fn := Tryz.f195) (T := []) (M := MM) (ann := a195) (by kernel_rfl) (by kernel_rfl) (by kernel_rfl) (by kernel_rfl) mix .nil (e195)
set_option maxRecDepth 100000 in
theorem e196 : S196 = fnF Tryz.prog [] MM Tryz.f196 a196 := by kernel_rfl
theorem d196 : SoundF Tryz.prog 196 s196 := sound_fn (fn := Tryz.f196) (T := []) (M := MM) (ann := a196) (by kernel_rfl) (by kernel_rfl) (by kernel_rfl) (by kernel_rfl) mix .nil (e196)
set_option maxRecDepth 100000 in
theorem e197 (s187 : FS) : S197 s187 = fnF Tryz.prog [(187, s187)] MM Tryz.f197 a197 := by kernel_rfl
theorem d197 : SoundF Tryz.prog 197 s197 := sound_fn (fn := Tryz.f197) (T := [(187, s187)]) (M := MM) (ann := a197) (by kernel_rfl) (by kernel_rfl) (by kernel_rfl) (by kernel_rfl) mix (.cons d187 .nil) (e197 s187)
set_option maxRecDepth 100000 in
theorem e112 (s195 s196 s197 s165 s178 : FS) : S112 s195 s196 s197 s165 s178 = fnF Tryz.prog [(195, s195), (196, s196), (197, s197), (165, s165), (178, s178)] MM Tryz.f112 a112 := by kernel_rfl
theorem d112 : SoundF Tryz.prog 112 s112 := sound_fn (fn := Tryz.f112) (T := [(195, s195), (196, s196), (197, s197), (165, s165), (178, s178)]) (M := MM) (ann := a112) (by kernel_rfl) (by kernel_rfl) (by kernel_rfl) (by kernel_rfl) mix (.cons d195 (.cons d196 (.cons d197 (.cons d165 (.cons d178 .nil))))) (e112 s195 s196 s197 s165 s178)
set_option maxRecDepth 100000 in
theorem e90 (s152 : FS) : S90 s152 = fnF Tryz.prog [(152, s152)] MM Tryz.f90 a90 := by kernel_rfl
theorem d90 : SoundF Tryz.prog 90 s90 := sound_fn (fn := Tryz.f90) (T := [(152, s152)]) (M := MM) (ann := a90) (by kernel_rfl) (by kernel_rfl) (by kernel_rfl) (by kernel_rfl) mix (.cons d152 .nil) (e90 s152)
set_option maxRecDepth 100000 in
theorem e72 (s112 s90 : FS) : S72 s112 s90 = fnF Tryz.prog [(112, s112), (90, s90)] MM Tryz.f72 a72 := by kernel_rfl
theorem d72 : SoundF Tryz.prog 72 s72 := sound_fn (fn := Tryz.f72) (T := [(112, s112), (90, s90)]) (M := MM) (ann := a72) (by kernel_rfl) (by kernel_rfl) (by kernel_rfl) (by kernel_rfl) mix (.cons d112 (.cons d90 .nil)) (e72 s112 s90)
set_option maxRecDepth 100000 in
theorem e46 (s72 : FS) : S46 s72 = fnF Tryz.prog [(72, s72)] MM Tryz.f46 a46 := by kernel_rfl
theorem d46 : SoundF Tryz.prog 46 s46 := sound_fn (fn := Tryz.f46) (T := [(72, s72)]) (M := MM) (ann := a46) (by kernel_rfl) (by kernel_rfl) (by kernel_rfl) (by kernel_rfl) mix (.cons d72 .nil) (e46 s72)
set_option maxRecDepth 100000 in
theorem e20 (s16 s45 s47 s46 : FS) : S20 s16 s45 s47 s46 = fnF Tryz.prog [(16, s16), (45, s45), (47, s47), (46, s46)] MM Tryz.f20 a20 := by kernel_rfl
theorem d20 : SoundF Tryz.prog 20 s20 := sound_fn (fn := Tryz.f20) (T := [(16, s16), (45, s45), (47, s47), (46, s46)]) (M := MM) (ann := a20) (by kernel_rfl) (by kernel_rfl) (by kernel_rfl) (by kernel_rfl) mix (.cons d16 (.cons d45 (.cons d47 (.cons d46 .nil)))) (e20 s16 s45 s47 s46)
set_option maxRecDepth 100000 in
theorem e19 : S19 = fnF Tryz.prog [] MM Tryz.f19 a19 := by kernel_rfl
theorem d19 : SoundF Tryz.prog 19 s19 := sound_fn (fn := Tryz.f19) (T := []) (M := MM) (ann := a19) (by kernel_rfl) (by kernel_rfl) (by kernel_rfl) (by kernel_rfl) mix .nil (e19)
set_option maxRecDepth 100000 in
theorem e38 : S38 = fnF Tryz.prog [] MM Tryz.f38 a38 := by kernel_rfl
theorem d38 : SoundF Tryz.prog 38 s38 := sound_fn (fn := Tryz.f38) (T := []) (M := MM) (ann := a38) (by kernel_rfl) (by kernel_rfl) (by kernel_rfl) (by kernel_rfl) mix .nil (e38)
set_option maxRecDepth 100000 in
theorem e39 : S39 = fnF Tryz.prog [] MM Tryz.f39 a39 := by kernel_rfl
theorem d39 : SoundF Tryz.prog 39 s39 := sound_fn (fn := Tryz.f39) (T := []) (M := MM) (ann := a39) (by kernel_rfl) (by kernel_rfl) (by kernel_rfl) (by kernel_rfl) mix .nil (e39)
set_option maxRecDepth 100000 in
theorem e62 (s39 s90 : FS) : S62 s39 s90 = fnF Tryz.prog [(39, s39), (90, s90)] MM Tryz.f62 a62 := by kernel_rfl
theorem d62 : SoundF Tryz.prog 62 s62 := sound_fn (fn := Tryz.f62) (T := [(39, s39), (90, s90)]) (M := MM) (ann := a62) (by kernel_rfl) (by kernel_rfl) (by kernel_rfl) (by kernel_rfl) mix (.cons d39 (.cons d90 .nil)) (e62 s39 s90)
set_option maxRecDepth 100000 in
theorem e64 : S64 = fnF Tryz.prog [] MM Tryz.f64 a64 := by kernel_rfl
theorem d64 : SoundF Tryz.prog 64 s64 := sound_fn (fn := Tryz.f64) (T := []) (M := MM) (ann := a64) (by kernel_rfl) (by kernel_rfl) (by kernel_rfl) (by kernel_rfl) mix .nil (e64)
set_option maxRecDepth 100000 in
theorem e41 (s39 s64 : FS) : S41 s39 s64 = fnF Tryz.prog [(39, s39), (64, s64)] MM Tryz.f41 a41 := by kernel_rfl
theorem d41 : SoundF Tryz.prog 41 s41 := sound_fn (fn := Tryz.f41) (T := [(39, s39), (64, s64)]) (M := MM) (ann := a41) (by kernel_rfl) (by kernel_rfl) (by kernel_rfl) (by kernel_rfl) mix (.cons d39 (.cons d64 .nil)) (e41 s39 s64)
set_option maxRecDepth 100000 in
theorem e153 (s121 : FS) : S153 s121 = fnF Tryz.prog [(121, s121)] MM Tryz.f153 a153 := by kernel_rfl
theorem d153 : SoundF Tryz.prog 153 s153 := sound_fn (fn := Tryz.f153) (T := [(121, s121)]) (M := MM) (ann := a153) (by kernel_rfl) (by kernel_rfl) (by kernel_rfl) (by kernel_rfl) mix (.cons d121 .nil) (e153 s121)
set_option maxRecDepth 100000 in
theorem e227 (s127 s126 : FS) : S227 s127 s126 = fnF Tryz.prog [(127, s127), (126, s126)] MM Tryz.f227 a227 := by kernel_rfl
theorem d227 : SoundF Tryz.prog 227 s227 := sound_fn (fn := Tryz.f227) (T := [(127, s127), (126, s126)]) (M := MM) (ann := a227) (by kernel_rfl) (by kernel_rfl) (by kernel_rfl) (by kernel_rfl) mix (.cons d127 (.cons d126 .nil)) (e227 s127 s126)
set_option maxRecDepth 100000 in
theorem e154 (s227 s121 s129 : FS) : S154 s227 s121 s129 = fnF Tryz.prog [(227, s227), (121, s121), (129, s129)] MM Tryz.f154 a154 := by kernel_rfl
theorem d154 : SoundF Tryz.prog 154 s154 := sound_fn (fn := Tryz.f154) (T := [(227, s227), (121, s121), (129, s129)]) (M := MM) (ann := a154) (by kernel_rfl) (by kernel_rfl) (by kernel_rfl) (by kernel_rfl) mix (.cons d227 (.cons d121 (.cons d129 .nil))) (e154 s227 s121 s129)
set_option maxRecDepth 100000 in
theorem e228 (s205 : FS) : S228 s205 = fnF Tryz.prog [(205, s205)] MM Tryz.f228 a228 := by kernel_rfl
theorem d228 : SoundF Tryz.prog 228 s228 := sound_fn (fn := Tryz.f228) (T := [(205, s205)]) (M := MM) (ann := a228) (by kernel_rfl) (by kernel_rfl) (by kernel_rfl) (by kernel_rfl) mix (.cons d205 .nil) (e228 s205)
set_option maxRecDepth 100000 in
theorem e229 : S229 = fnF Tryz.prog [] MM Tryz.f229 a229 := by kernel_rfl
theorem d229 : SoundF Tryz.prog 229 s229 := sound_fn (fn := Tryz.f229) (T := []) (M := MM) (ann := a229) (by kernel_rfl) (by kernel_rfl) (by kernel_rfl) (by kernel_rfl) mix .nil (e229)
set_option maxRecDepth 100000 in
theorem e155 (s123 s228 s124 s125 s229 : FS) : S155 s123 s228 s124 s125 s229 = fnF Tryz.prog [(123, s123), (228, s228), (124, s124), (125, s125), (229, s229)] MM Tryz.f155 a155 := by kernel_rfl
theorem d155 : SoundF Tryz.prog 155 s155 := sound_fn (fn := Tryz.f155) (T := [(123, s123), (228, s228), (124, s124), (125, s125), (229, s229)]) (M := MM) (ann := a155) (by kernel_rfl) (by kernel_rfl) (by kernel_rfl) (by kernel_rfl) mix (.cons d123 (.cons d228 (.cons d124 (.cons d125 (.cons d229 .nil))))) (e155 s123 s228 s124 s125 s229)
set_option maxRecDepth 100000 in
theorem e230 : S230 = fnF Tryz.prog [] MM Tryz.f230 a230 := by kernel_rfl
theorem d230 : SoundF Tryz.prog 230 s230 := sound_fn (fn := Tryz.f230) (T := []) (M := MM) (ann := a230) (by kernel_rfl) (by kernel_rfl) (by kernel_rfl) (by kernel_rfl) mix .nil (e230)
set_option maxRecDepth 100000 in
theorem e156 (s230 s167 s127 s129 s232 s231 : FS) : S156 s230 s167 s127 s129 s232 s231 = fnF Tryz.prog [(230, s230), (167, s167), (127, s127), (129, s129), (232, s232), (231, s231)] MM Tryz.f156 a156 := by kernel_rfl
theorem d156 : SoundF Tryz.prog 156 s156 := sound_fn (fn := Tryz.f156) (T := [(230, s230), (167, s167), (127, s127), (129, s129), (232, s232), (231, s231)]) (M := MM) (ann := a156) (by kernel_rfl) (by kernel_rfl) (by kernel_rfl) (by kernel_rfl) mix (.cons d230 (.cons d167 (.cons d127 (.cons d129 (.cons d232 (.cons d231 .nil)))))) (e156 s230 s167 s127 s129 s232 s231)
set_option maxRecDepth 100000 in
theorem e233 (s275 s266 : FS) : S233 s275 s266 = fnF Tryz.prog [(275, s275), (266, s266)] MM Tryz.f233 a233 := by kernel_rfl
theorem d233 : SoundF Tryz.prog 233 s233 := sound_fn (fn := Tryz.f233) (T := [(275, s275), (266, s266)]) (M := MM) (ann := a233) (by kernel_rfl) (by kernel_rfl) (by kernel_rfl) (by kernel_rfl) mix (.cons d275 (.cons d266 .nil)) (e233 s275 s266)
set_option maxRecDepth 100000 in
theorem e234 (s275 s266 : FS) : S234 s275 s266 = fnF Tryz.prog [(275, s275), (266, s266)] MM Tryz.f234 a234 := by kernel_rfl
theorem d234 : SoundF Tryz.prog 234 s234 := sound_fn (fn := Tryz.f234) (T := [(275, s275), (266, s266)]) (M := MM) (ann := a234) (by kernel_rfl) (by kernel_rfl) (by kernel_rfl) (by kernel_rfl) mix (.cons d275 (.cons d266 .nil)) (e234 s275 s266)
set_option maxRecDepth 100000 in
theorem e157 (s127 s233 s202 s234 s170 s235 : FS) : S157 s127 s233 s202 s234 s170 s235 = fnF Tryz.prog [(127, s127), (233, s233), (202, s202), (234, s234), (170, s170), (235, s235)] MM Tryz.f157 a157 := by kernel_rfl
theorem d157 : SoundF Tryz.prog 157 s157 := sound_fn (fn := Tryz.f157) (T := [(127, s127), (233, s233), (202, s202), (234, s234), (170, s170), (235, s235)]) (M := MM) (ann := a157) (by kernel_rfl) (by kernel_rfl) (by kernel_rfl) (by kernel_rfl) mix (.cons d127 (.cons d233 (.cons d202 (.cons d234 (.cons d170 (.cons d235 .nil)))))) (e157 s127 s233 s202 s234 s170 s235)
theorem d158 : SoundF Tryz.prog 158 s158 := sound_stub (fn := Tryz.f158) (by kernel_rfl) (by kernel_rfl) (by kernel_rfl)
set_option maxRecDepth 100000 in
theorem e91 (s112 s153 s129 s130 s154 s155 s156 s157 s158 : FS) : S91 s112 s153 s129 s130 s154 s155 s156 s157 s158 = fnF Tryz.prog [(112, s112), (153, s153), (129, s129), (130, s130), (154, s154), (155, s155), (156, s156), (157, s157), (158, s158)] MM Tryz.f91 a91 := by kernel_rfl
theorem d91 : SoundF Tryz.prog 91 s91 := sound_fn (fn := Tryz.f91) (T := [(112, s112), (153, s153), (129, s129), (130, s130), (154, s154), (155, s155), (156, s156), (157, s157), (158, s158)]) (M := MM) (ann := a91) (by kernel_rfl) (by kernel_rfl) (by kernel_rfl) (by kernel_rfl) mix (.cons d112 (.cons d153 (.cons d129 (.cons d130 (.cons d154 (.cons d155 (.cons d156 (.cons d157 (.cons d158 .nil))))))))) (e91 s112 s153 s129 s130 s154 s155 s156 s157 s158)
set_option maxRecDepth 100000 in
theorem e63 (s73 s91 s74 : FS) : S63 s73 s91 s74 = fnF Tryz.prog [(73, s73), (91, s91), (74, s74)] MM Tryz.f63 a63 := by kernel_rfl
theorem d63 : SoundF Tryz.prog 63 s63 := sound_fn (fn := Tryz.f63) (T := [(73, s73), (91, s91), (74, s74)]) (M := MM) (ann := a63) (by kernel_rfl) (by kernel_rfl) (by kernel_rfl) (by kernel_rfl) mix (.cons d73 (.cons d91 (.cons d74 .nil))) (e63 s73 s91 s74)
set_option maxRecDepth 100000 in
theorem e40 (s62 s41 s63 s46 : FS) : S40 s62 s41 s63 s46 = fnF Tryz.prog [(62, s62), (41, s41), (63, s63), (46, s46)] MM Tryz.f40 a40 := by kernel_rfl
theorem d40 : SoundF Tryz.prog 40 s40 := sound_fn (fn := Tryz.f40) (T := [(62, s62), (41, s41), (63, s63), (46, s46)]) (M := MM) (ann := a40) (by kernel_rfl) (by kernel_rfl) (by kernel_rfl) (by kernel_rfl) mix (.cons d62 (.cons d41 (.cons d63 (.cons d46 .nil)))) (e40 s62 s41 s63 s46)
set_option maxRecDepth 100000 in
theorem e48 (s38 s39 s40 : FS) : S48 s38 s39 s40 = fnF Tryz.prog [(38, s38), (39, s39), (40, s40)] MM Tryz.f48 a48 := by kernel_rfl
theorem d48 : SoundF Tryz.prog 48 s48 := sound_fn (fn := Tryz.f48) (T := [(38, s38), (39, s39), (40, s40)]) (M := MM) (ann := a48) (by kernel_rfl) (by kernel_rfl) (by kernel_rfl) (by kernel_rfl) mix (.cons d38 (.cons d39 (.cons d40 .nil))) (e48 s38 s39 s40)
set_option maxRecDepth 100000 in
theorem e21 (s48 : FS) : S21 s48 = fnF Tryz.prog [(48, s48)] MM Tryz.f21 a21 := by kernel_rfl
theorem d21 : SoundF Tryz.prog 21 s21 := sound_fn (fn := Tryz.f21) (T := [(48, s48)]) (M := MM) (ann := a21) (by kernel_rfl) (by kernel_rfl) (by kernel_rfl) (by kernel_rfl) mix (.cons d48 .nil) (e21 s48)
set_option maxRecDepth 100000 in
theorem e25 : S25 = fnF Tryz.prog [] MM Tryz.f25 a25 := by kernel_rfl
theorem d25 : SoundF Tryz.prog 25 s25 := sound_fn (fn := Tryz.f25) (T := []) (M := MM) (ann := a25) (by kernel_rfl) (by kernel_rfl) (by kernel_rfl) (by kernel_rfl) mix .nil (e25)
set_option maxRecDepth 100000 in
theorem e34 : S34 = fnF Tryz.prog [] MM Tryz.f34 a34 := by kernel_rfl
theorem d34 : SoundF Tryz.prog 34 s34 := sound_fn (fn := Tryz.f34) (T := []) (M := MM) (ann := a34) (by kernel_rfl) (by kernel_rfl) (by kernel_rfl) (by kernel_rfl) mix .nil (e34)
set_option maxRecDepth 100000 in
theorem e131 (s142 : FS) : S131 s142 = fnF Tryz.prog [(142, s142)] MM Tryz.f131 a131 := by kernel_rfl
theorem d131 : SoundF Tryz.prog 131 s131 := sound_fn (fn := Tryz.f131) (T := [(142, s142)]) (M := MM) (ann := a131) (by kernel_rfl) (by kernel_rfl) (by kernel_rfl) (by kernel_rfl) mix (.cons d142 .nil) (e131 s142)
set_option maxRecDepth 100000 in
theorem e208 (s162 : FS) : S208 s162 = fnF Tryz.prog [(162, s162)] MM Tryz.f208 a208 := by kernel_rfl
theorem d208 : SoundF Tryz.prog 208 s208 := sound_fn (fn := Tryz.f208) (T := [(162, s162)]) (M := MM) (ann := a208) (by kernel_rfl) (by kernel_rfl) (by kernel_rfl) (by kernel_rfl) mix (.cons d162 .nil) (e208 s162)
set_option maxRecDepth 100000 in
theorem e132 (s208 : FS) : S132 s208 = fnF Tryz.prog [(208, s208)] MM Tryz.f132 a132 := by kernel_rfl
theorem d132 : SoundF Tryz.prog 132 s132 := sound_fn (fn := Tryz.f132) (T := [(208, s208)]) (M := MM) (ann := a132) (by kernel_rfl) (by kernel_rfl) (by kernel_rfl) (by kernel_rfl) mix (.cons d208 .nil) (e132 s208)
set_option maxRecDepth 100000 in
theorem e133 (s209 s210 : FS) : S133 s209 s210 = fnF Tryz.prog [(209, s209), (210, s210)] MM Tryz.f133 a133 := by kernel_rfl
theorem d133 : SoundF Tryz.prog 133 s133 := sound_fn (fn := Tryz.f133) (T := [(209, s209), (210, s210)]) (M := MM) (ann := a133) (by kernel_rfl) (by kernel_rfl) (by kernel_rfl) (by kernel_rfl) mix (.cons d209 (.cons d210 .nil)) (e133 s209 s210)
set_option maxRecDepth 100000 in
theorem e76 (s131 s98 s132 s134 s133 : FS) : S76 s131 s98 s132 s134 s133 = fnF Tryz.prog [(131, s131), (98, s98), (132, s132), (134, s134), (133, s133)] MM Tryz.f76 a76 := by kernel_rfl
theorem d76 : SoundF Tryz.prog 76 s76 := sound_fn (fn := Tryz.f76) (T := [(131, s131), (98, s98), (132, s132), (134, s134), (133, s133)]) (M := MM) (ann := a76) (by kernel_rfl) (by kernel_rfl) (by kernel_rfl) (by kernel_rfl) mix (.cons d131 (.cons d98 (.cons d132 (.cons d134 (.cons d133 .nil))))) (e76 s131 s98 s132 s134 s133)
set_option maxRecDepth 100000 in
theorem e49 (s76 : FS) : S49 s76 = fnF Tryz.prog [(76, s76)] MM Tryz.f49 a49 := by kernel_rfl
theorem d49 : SoundF Tryz.prog 49 s49 := sound_fn (fn := Tryz.f49) (T := [(76, s76)]) (M := MM) (ann := a49) (by kernel_rfl) (by kernel_rfl) (by kernel_rfl) (by kernel_rfl) mix (.cons d76 .nil) (e49 s76)
set_option maxRecDepth 100000 in
theorem e24 (s34 s49 s19 : FS) : S24 s34 s49 s19 = fnF Tryz.prog [(34, s34), (49, s49), (19, s19)] MM Tryz.f24 a24 := by kernel_rfl
theorem d24 : SoundF Tryz.prog 24 s24 := sound_fn (fn := Tryz.f24) (T := [(34, s34), (49, s49), (19, s19)]) (M := MM) (ann := a24) (by kernel_rfl) (by kernel_rfl) (by kernel_rfl) (by kernel_rfl) mix (.cons d34 (.cons d49 (.cons d19 .nil))) (e24 s34 s49 s19)
set_option maxRecDepth 100000 in
theorem e159 (s208 s131 : FS) : S159 s208 s131 = fnF Tryz.prog [(208, s208), (131, s131)] MM Tryz.f159 a159 := by kernel_rfl
theorem d159 : SoundF Tryz.prog 159 s159 := sound_fn (fn := Tryz.f159) (T := [(208, s208), (131, s131)]) (M := MM) (ann := a159) (by kernel_rfl) (by kernel_rfl) (by kernel_rfl) (by kernel_rfl) mix (.cons d208 (.cons d131 .nil)) (e159 s208 s131)
set_option maxRecDepth 100000 in
theorem e92 (s159 : FS) : S92 s159 = fnF Tryz.prog [(159, s159)] MM Tryz.f92 a92 := by kernel_rfl
theorem d92 : SoundF Tryz.prog 92 s92 := sound_fn (fn := Tryz.f92) (T := [(159, s159)]) (M := MM) (ann := a92) (by kernel_rfl) (by kernel_rfl) (by kernel_rfl) (by kernel_rfl) mix (.cons d159 .nil) (e92 s159)
set_option maxRecDepth 100000 in
theorem e65 (s92 : FS) : S65 s92 = fnF Tryz.prog [(92, s92)] MM Tryz.f65 a65 := by kernel_rfl
theorem d65 : SoundF Tryz.prog 65 s65 := sound_fn (fn := Tryz.f65) (T := [(92, s92)]) (M := MM) (ann := a65) (by kernel_rfl) (by kernel_rfl) (by kernel_rfl) (by kernel_rfl) mix (.cons d92 .nil) (e65 s92)
set_option maxRecDepth 100000 in
theorem e94 (s162 : FS) : S94 s162 = fnF Tryz.prog [(162, s162)] MM Tryz.f94 a94 := by kernel_rfl
theorem d94 : SoundF Tryz.prog 94 s94 := sound_fn (fn := Tryz.f94) (T := [(162, s162)]) (M := MM) (ann := a94) (by kernel_rfl) (by kernel_rfl) (by kernel_rfl) (by kernel_rfl) mix (.cons d162 .nil) (e94 s162)
set_option maxRecDepth 100000 in
theorem e163 (s162 s242 : FS) : S163 s162 s242 = fnF Tryz.prog [(162, s162), (242, s242)] MM Tryz.f163 a163 := by kernel_rfl
theorem d163 : SoundF Tryz.prog 163 s163 := sound_fn (fn := Tryz.f163) (T := [(162, s162), (242, s242)]) (M := MM) (ann := a163) (by kernel_rfl) (by kernel_rfl) (by kernel_rfl) (by kernel_rfl) mix (.cons d162 (.cons d242 .nil)) (e163 s162 s242)
set_option maxRecDepth 100000 in
theorem e95 (s163 : FS) : S95 s163 = fnF Tryz.prog [(163, s163)] MM Tryz.f95 a95 := by kernel_rfl
theorem d95 : SoundF Tryz.prog 95 s95 := sound_fn (fn := Tryz.f95) (T := [(163, s163)]) (M := MM) (ann := a95) (by kernel_rfl) (by kernel_rfl) (by kernel_rfl) (by kernel_rfl) mix (.cons d163 .nil) (e95 s163)
set_option maxRecDepth 100000 in
theorem e96 (s115 s110 s116 s164 : FS) : S96 s115 s110 s116 s164 = fnF Tryz.prog [(115, s115), (110, s110), (116, s116), (164, s164)] MM Tryz.f96 a96 := by kernel_rfl
theorem d96 : SoundF Tryz.prog 96 s96 := sound_fn (fn := Tryz.f96) (T := [(115, s115), (110, s110), (116, s116), (164, s164)]) (M := MM) (ann := a96) (by kernel_rfl) (by kernel_rfl) (by kernel_rfl) (by kernel_rfl) mix (.cons d115 (.cons d110 (.cons d116 (.cons d164 .nil)))) (e96 s115 s110 s116 s164)
theorem d166 : SoundF Tryz.prog 166 s166 := sound_stub (fn := Tryz.f166) (by kernel_rfl) (by kernel_rfl) (by kernel_rfl)
set_option maxRecDepth 100000 in
theorem e97 (s118 s165 s166 s167 s168 s116 s169 s170 s119 s130 : FS) : S97 s118 s165 s166 s167 s168 s116 s169 s170 s119 s130 = fnF Tryz.prog [(118, s118), (165, s165), (166, s166), (167, s167), (168, s168), (116, s116), (169, s169), (170, s170), (119, s119), (130, s130)] MM Tryz.f97 a97 := by kernel_rfl
theorem d97 : SoundF Tryz.prog 97 s97 := sound_fn (fn := Tryz.f97) (T := [(118, s118), (165, s165), (166, s166), (167, s167), (168, s168), (116, s116), (169, s169), (170, s170), (119, s119), (130, s130)]) (M := MM) (ann := a97) (by kernel_rfl) (by kernel_rfl) (by kernel_rfl) (by kernel_rfl) mix (.cons d118 (.cons d165 (.cons d166 (.cons d167 (.cons d168 (.cons d116 (.cons d169 (.cons d170 (.cons d119 (.cons d130 .nil)))))))))) (e97 s118 s165 s166 s167 s168 s116 s169 s170 s119 s130)
set_option maxRecDepth 100000 in
theorem e66 (s73 s93 s22 s94 s95 s96 s98 s97 s74 : FS) : S66 s73 s93 s22 s94 s95 s96 s98 s97 s74 = fnF Tryz.prog [(73, s73), (93, s93), (22, s22), (94, s94), (95, s95), (96, s96), (98, s98), (97, s97), (74, s74)] MM Tryz.f66 a66 := by kernel_rfl
theorem d66 : SoundF Tryz.prog 66 s66 := sound_fn (fn := Tryz.f66) (T := [(73, s73), (93, s93), (22, s22), (94, s94), (95, s95), (96, s96), (98, s98), (97, s97), (74, s74)]) (M := MM) (ann := a66) (by kernel_rfl) (by kernel_rfl) (by kernel_rfl) (by kernel_rfl) mix (.cons d73 (.cons d93 (.cons d22 (.cons d94 (.cons d95 (.cons d96 (.cons d98 (.cons d97 (.cons d74 .nil))))))))) (e66 s73 s93 s22 s94 s95 s96 s98 s97 s74)
set_option maxRecDepth 100000 in
theorem e42 (s34 s16 s65 s66 s46 : FS) : S42 s34 s16 s65 s66 s46 = fnF Tryz.prog [(34, s34), (16, s16), (65, s65), (66, s66), (46, s46)] MM Tryz.f42 a42 := by kernel_rfl
theorem d42 : SoundF Tryz.prog 42 s42 := sound_fn (fn := Tryz.f42) (T := [(34, s34), (16, s16), (65, s65), (66, s66), (46, s46)]) (M := MM) (ann := a42) (by kernel_rfl) (by kernel_rfl) (by kernel_rfl) (by kernel_rfl) mix (.cons d34 (.cons d16 (.cons d65 (.cons d66 (.cons d46 .nil))))) (e42 s34 s16 s65 s66 s46)
end Go.Proofs.YtcdpilgndhledaaGreatDoor
